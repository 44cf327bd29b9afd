/- What functions of the program come to (f), that their calls come to just this (calls), and the plain laws over lists and numbers. No condition but those of the given row. -/
import Derived.Test.YtojiighpkppckaaGreatDoorC3
import Derived.Shelf.Strconv.Itoa3
import Derived.Shelf.Strings.BuilderK
import Derived.Shelf.Strings.OnBuilder
import Derived.Test.YtojiighpkppckaaGreatDoorProg
import Derived.Shelf.Strings.Split
import Derived.Lib.ItoaLen
import Derived.Lib.SplitLaws
import Derived.Lib.Bytealg
import Derived.Lib.AtoiTie
namespace Go.Proofs.YtojiighpkppckaaGreatDoor.P
open Go.RowKit Go.Proofs.YtojiighpkppckaaGreatDoorW.PrintWords Go.Proofs.YtojiighpkppckaaGreatDoorW.PrintLast Go.Proofs.YtojiighpkppckaaGreatDoorW.PrintMore
attribute [local go_sem] max2_int min2_int max_two min_two max_three min_three max_four min_four
set_option linter.unusedVariables false
set_option linter.unusedSimpArgs false
def spec_DrawActs.f (k : Nat) (l0 : List Int) : Option ((List (S95)) × Int × List Int × Int × Int × (List (S101)) × (List (S37))) := (spec_l01New.f k l0).bind fun bt682 => ((spec_l39Shop.f k bt682.1 bt682.2.1 bt682.2.2).bind fun bt686 => ((spec_l39List.f k bt682.1 bt686.2.2.2.2.2.2.1 bt686.2.2.2.2.2.2.2).bind fun bt700 => (some (bt686.1, bt686.2.1, bt686.2.2.1, bt686.2.2.2.1, bt686.2.2.2.2.1, bt686.2.2.2.2.2.1, bt700.1))))
set_option maxHeartbeats 8000000 in
set_option maxRecDepth 100000 in
theorem spec_DrawActs.calls (k : Nat) (A0 : Option Addr) (c0 : Nat) (l0 : List Int) (r1 : List (S95)) (r2 : Int) (r3 : List Int) (r4 : Int) (r5 : Int) (r6 : List (S101)) (r7 : List (S37)) (w : World) (hr0 : Kd.C (Kd.int .u8) w A0 l0.length l0) (hc0 : l0.length ≤ c0) (h : spec_DrawActs.f k l0 = some (r1, r2, r3, r4, r5, r6, r7)) :
    Calls Tryz.prog 5 #[.slice A0 l0.length c0] w fun e w' => ∃ v0_ v2_ v5_ v6_ : Value, e = .returned (.tuple #[.agg #[v0_, .int .i64 r2, v2_, .int .i64 r4, .int .i64 r5, v5_], v6_]) ∧ Kd.R k95 95 w' w.heap.size (fun _ => True) v0_ r1 ∧ Kd.R (Kd.int .i64) 3 w' w.heap.size (fun _ => True) v2_ r3 ∧ Kd.R k101 101 w' w.heap.size (fun _ => True) v5_ r6 ∧ Kd.R k37 37 w' w.heap.size (fun _ => True) v6_ r7 ∧ Below w.heap.size w w' := by
  have hu30 := Tryz.underlying30
  have HR0 := A_ hr0
  have HC0 := A_ hc0
  clear hr0 hc0
  have HB := A_ (Below.refl w.heap.size w)
  have H : ((spec_l01New.f k l0).bind fun bt682 => ((spec_l39Shop.f k bt682.1 bt682.2.1 bt682.2.2).bind fun bt686 => ((spec_l39List.f k bt682.1 bt686.2.2.2.2.2.2.1 bt686.2.2.2.2.2.2.2).bind fun bt700 => (some (bt686.1, bt686.2.1, bt686.2.2.1, bt686.2.2.2.1, bt686.2.2.2.2.1, bt686.2.2.2.2.2.1, bt700.1))))) = some (r1, r2, r3, r4, r5, r6, r7) := h
  clear h
  replace H := Option.bind_eq_some_iff.mp H
  obtain ⟨⟨t682, t683, t684⟩, A20, H⟩ := H
  (try dsimp only at H)
  have A2 := A_ A20
  clear A20
  replace H := Option.bind_eq_some_iff.mp H
  obtain ⟨⟨t686, t689, t690, t693, t694, t695, t698, t699⟩, A30, H⟩ := H
  (try dsimp only at H)
  have A3 := A_ A30
  clear A30
  replace H := Option.bind_eq_some_iff.mp H
  obtain ⟨⟨t700, t703, t704⟩, A40, H⟩ := H
  (try dsimp only at H)
  have A4 := A_ A40
  clear A40
  simp only [Option.some.injEq, Prod.mk.injEq] at H
  obtain ⟨rfl, rfl, rfl, rfl, rfl, rfl, rfl⟩ := H
  go_enter Tryz.func5, Tryz.ntmps5
  go_wp2_with (first | ((with_reducible refine gate_dst (N := 2) rfl ?_); refine bX (N := 2) (cs := #[.slice none 0 0, .int .i64 0, .slice none 0 0, .int .i64 0, .int .i64 0, .slice none 0 0]) (t := 30) ?_; intro gb681 hg w5 hbox hb; have n0_ := A_ (below_step (oB HB) hb); have n1_ := A_ (hbox); have n2_ := A_ ((by rw [hg]; exact (below_size (oB HB)) : w.heap.size ≤ gb681)); have n3_ := A_ ((by rw [hg]; exact (below_size (oB HB)) : w.heap.size ≤ gb681)); clear HB; have HB := n0_; have BK681 := n1_; have GW681 := n2_; have GE681 := n3_; clear n0_ n1_ n2_ n3_; clear hb hbox hg) | ((with_reducible refine gate_callee (f := 8) rfl ?_); refine gL (some 6) Tryz.func8 #[.slice A0 l0.length c0] ?_; (with_reducible refine (spec_l01New.calls k _ _ l0 t682 t683 t684 w _ ?side1 ?side2 ?side3 A2.out).mono ?_); (case side1 => repeat (first | (with_reducible first | exact HB.out | apply below_alloc | apply pw_below_drewN | apply below_drew1 | refine below_set ?_ GE681.out) | exact HB.out)); (case side2 => exact HR0.out); (case side3 => exact HC0.out); rintro e w6 ⟨g685, rfl, hi, hb, hb2⟩; refine ⟨_, rfl, ?_⟩; have n0_ := A_ (bb BK681 hb2); have n1_ := A_ (hb); have n2_ := A_ (hi); have n3_ := A_ (IsS56.ne_blk hi (bb BK681 hb2) (by decide)); have n4_ := A_ (Ne.symm (IsS56.ne_blk hi (bb BK681 hb2) (by decide))); clear BK681; clear HB; have BK681 := n0_; have HB := n1_; have HI685 := n2_; have NB685_681 := n3_; have NB681_685 := n4_; clear n0_ n1_ n2_ n3_ n4_; (try clear hb); (try clear hb2); (try clear hk); (try clear hi)) | ((with_reducible refine gate_callee (f := 9) rfl ?_); refine gL (some 8) Tryz.func9 #[.pointer (some ⟨g685, 0, none⟩)] ?_; (with_reducible refine (spec_l39Shop.calls k g685 t682 t683 t684 t686 t689 t690 t693 t694 t695 t698 t699 w _ ?side1 ?side2 A3.out).mono ?_); (case side1 => exact oI56 HI685); (case side2 => exact oB56 HB); rintro e w7 ⟨v687, v691, v696, rfl, ho0, ho1, ho2, hi, hb, hk⟩; refine ⟨_, rfl, ?_⟩; have n0_ := A_ (KeepBut.blk hk (g' := gb681) (o := .cells #[.slice none 0 0, .int .i64 0, .slice none 0 0, .int .i64 0, .int .i64 0, .slice none 0 0] 30 (0, 0)) (oK BK681) NB681_685.out (by simp)); have n1_ := A_ (Kd.R_lower ho0 (below_size (oB56 HB))); have n2_ := A_ (Kd.R_lower ho1 (below_size (oB56 HB))); have n3_ := A_ (Kd.R_lower ho2 (below_size (oB56 HB))); have n4_ := A_ (hb); have n5_ := A_ (hi); clear BK681; clear HB; clear HI685; have BK681 := n0_; have HO688 := n1_; have HO692 := n2_; have HO697 := n3_; have HB := n4_; have HI685 := n5_; clear n0_ n1_ n2_ n3_ n4_ n5_; (try clear hb); (try clear hb2); (try clear hk); (try clear hi); (try clear ho0); (try clear ho1); (try clear ho2)) | ((with_reducible refine gate_callee (f := 10) rfl ?_); refine gL (some 10) Tryz.func10 #[.pointer (some ⟨g685, 0, none⟩)] ?_; (with_reducible refine (spec_l39List.calls k g685 t682 t698 t699 t700 t703 t704 w _ ?side1 ?side2 A4.out).mono ?_); (case side1 => exact oI56 HI685); (case side2 => exact oB56 HB); rintro e w8 ⟨v701, rfl, ho0, hi, hb, hk⟩; refine ⟨_, rfl, ?_⟩; have n0_ := A_ (KeepBut.blk hk (g' := gb681) (o := .cells #[.slice none 0 0, .int .i64 0, .slice none 0 0, .int .i64 0, .int .i64 0, .slice none 0 0] 30 (0, 0)) (oK BK681) NB681_685.out (by simp)); have n1_ := A_ (Kd.R_mono (Kd.R_keep (IsS56.apart (show IsS56 w _ g685 t682 t698 t699 from oI56 HI685) (oR HO688) (by decide)) hk (fun _ h => h.2)) (fun _ h => h.1)); have n2_ := A_ (Kd.R_mono (Kd.R_keep (IsS56.apart (show IsS56 w _ g685 t682 t698 t699 from oI56 HI685) (oR HO692) (by decide)) hk (fun _ h => h.2)) (fun _ h => h.1)); have n3_ := A_ (Kd.R_mono (Kd.R_keep (IsS56.apart (show IsS56 w _ g685 t682 t698 t699 from oI56 HI685) (oR HO697) (by decide)) hk (fun _ h => h.2)) (fun _ h => h.1)); have n4_ := A_ (Kd.R_lower ho0 (below_size (oB56 HB))); have n5_ := A_ (hb); have n6_ := A_ (hi); clear BK681; clear HO688; clear HO692; clear HO697; clear HB; clear HI685; have BK681 := n0_; have HO688 := n1_; have HO692 := n2_; have HO697 := n3_; have HO702 := n4_; have HB := n5_; have HI685 := n6_; clear n0_ n1_ n2_ n3_ n4_ n5_ n6_; (try clear hb); (try clear hb2); (try clear hk); (try clear hi); (try clear ho0); obtain ⟨Ao9, co9, eo9⟩ := Kd.R_slice HO688.out; subst eo9; have hnb10 := NB681_685.out; have hnc10 := NB685_681.out; have hcz11_0 := cz BK681 0; have hcz11_1 := cz BK681 1; have hcz11_2 := cz BK681 2; have hcz11_3 := cz BK681 3; have hcz11_4 := cz BK681 4; have hcz11_5 := cz BK681 5; have hfz11_0 := blk_frozen BK681.out 0; have hfz11_1 := blk_frozen BK681.out 1; have hfz11_2 := blk_frozen BK681.out 2; have hfz11_3 := blk_frozen BK681.out 3; have hfz11_4 := blk_frozen BK681.out 4; have hfz11_5 := blk_frozen BK681.out 5; obtain ⟨Ao12, co12, eo12⟩ := Kd.R_slice HO692.out; subst eo12; obtain ⟨Ao13, co13, eo13⟩ := Kd.R_slice HO697.out; subst eo13))
  refine bodyPost_ret (results_ct rfl _ _ gb681 30 #[.slice Ao9 t686.length co9, .int .i64 t689, .slice Ao12 t690.length co12, .int .i64 t693, .int .i64 t694, .slice Ao13 t695.length co13] (0, 0) _ rfl (by (with_reducible repeat (first | refine blk_drewN ?_ _ | refine blk_drew ?_ | refine blk_alloc ?_ _)); refine blk_put (cs := #[.slice Ao9 t686.length co9, .int .i64 t689, .slice Ao12 t690.length co12, .int .i64 t693, .int .i64 t694, .slice none 0 0]) ?_ 5 _ rfl; (with_reducible repeat (first | refine blk_drewN ?_ _ | refine blk_drew ?_ | refine blk_alloc ?_ _)); refine blk_put (cs := #[.slice Ao9 t686.length co9, .int .i64 t689, .slice Ao12 t690.length co12, .int .i64 t693, .int .i64 0, .slice none 0 0]) ?_ 4 _ rfl; (with_reducible repeat (first | refine blk_drewN ?_ _ | refine blk_drew ?_ | refine blk_alloc ?_ _)); refine blk_put (cs := #[.slice Ao9 t686.length co9, .int .i64 t689, .slice Ao12 t690.length co12, .int .i64 0, .int .i64 0, .slice none 0 0]) ?_ 3 _ rfl; (with_reducible repeat (first | refine blk_drewN ?_ _ | refine blk_drew ?_ | refine blk_alloc ?_ _)); refine blk_put (cs := #[.slice Ao9 t686.length co9, .int .i64 t689, .slice none 0 0, .int .i64 0, .int .i64 0, .slice none 0 0]) ?_ 2 _ rfl; (with_reducible repeat (first | refine blk_drewN ?_ _ | refine blk_drew ?_ | refine blk_alloc ?_ _)); refine blk_put (cs := #[.slice Ao9 t686.length co9, .int .i64 0, .slice none 0 0, .int .i64 0, .int .i64 0, .slice none 0 0]) ?_ 1 _ rfl; (with_reducible repeat (first | refine blk_drewN ?_ _ | refine blk_drew ?_ | refine blk_alloc ?_ _)); refine blk_put (cs := #[.slice none 0 0, .int .i64 0, .slice none 0 0, .int .i64 0, .int .i64 0, .slice none 0 0]) ?_ 0 _ rfl; (with_reducible repeat (first | refine blk_drewN ?_ _ | refine blk_drew ?_ | refine blk_alloc ?_ _)); exact BK681.out) Tryz.underlying30 rfl (by kernel_rfl)) rfl ?_
  exact ⟨_, _, _, _, eR, by (with_reducible repeat (first | apply Kd.R_alloc | apply Kd.R_drewN | apply Kd.R_drew)); exact Kd.R_mono (Kd.R_far (p := ⟨gb681, 5, none⟩) (Kd.R_far (p := ⟨gb681, 4, none⟩) (Kd.R_far (p := ⟨gb681, 3, none⟩) (Kd.R_far (p := ⟨gb681, 2, none⟩) (Kd.R_far (p := ⟨gb681, 1, none⟩) (Kd.R_far (p := ⟨gb681, 0, none⟩) (Kd.R_types HO688.out BK681.out (by decide)) (fun _ hk => hk.2) (.slice Ao9 t686.length co9)) (fun _ hk => hk.2) (.int .i64 t689)) (fun _ hk => hk.2) (.slice Ao12 t690.length co12)) (fun _ hk => hk.2) (.int .i64 t693)) (fun _ hk => hk.2) (.int .i64 t694)) (fun _ hk => hk.2) (.slice Ao13 t695.length co13)) (fun _ hk => trivial), by (with_reducible repeat (first | apply Kd.R_alloc | apply Kd.R_drewN | apply Kd.R_drew)); exact Kd.R_mono (Kd.R_far (p := ⟨gb681, 5, none⟩) (Kd.R_far (p := ⟨gb681, 4, none⟩) (Kd.R_far (p := ⟨gb681, 3, none⟩) (Kd.R_far (p := ⟨gb681, 2, none⟩) (Kd.R_far (p := ⟨gb681, 1, none⟩) (Kd.R_far (p := ⟨gb681, 0, none⟩) (Kd.R_types HO692.out BK681.out (by decide)) (fun _ hk => hk.2) (.slice Ao9 t686.length co9)) (fun _ hk => hk.2) (.int .i64 t689)) (fun _ hk => hk.2) (.slice Ao12 t690.length co12)) (fun _ hk => hk.2) (.int .i64 t693)) (fun _ hk => hk.2) (.int .i64 t694)) (fun _ hk => hk.2) (.slice Ao13 t695.length co13)) (fun _ hk => trivial), by (with_reducible repeat (first | apply Kd.R_alloc | apply Kd.R_drewN | apply Kd.R_drew)); exact Kd.R_mono (Kd.R_far (p := ⟨gb681, 5, none⟩) (Kd.R_far (p := ⟨gb681, 4, none⟩) (Kd.R_far (p := ⟨gb681, 3, none⟩) (Kd.R_far (p := ⟨gb681, 2, none⟩) (Kd.R_far (p := ⟨gb681, 1, none⟩) (Kd.R_far (p := ⟨gb681, 0, none⟩) (Kd.R_types HO697.out BK681.out (by decide)) (fun _ hk => hk.2) (.slice Ao9 t686.length co9)) (fun _ hk => hk.2) (.int .i64 t689)) (fun _ hk => hk.2) (.slice Ao12 t690.length co12)) (fun _ hk => hk.2) (.int .i64 t693)) (fun _ hk => hk.2) (.int .i64 t694)) (fun _ hk => hk.2) (.slice Ao13 t695.length co13)) (fun _ hk => trivial), by (with_reducible repeat (first | apply Kd.R_alloc | apply Kd.R_drewN | apply Kd.R_drew)); exact Kd.R_mono (Kd.R_far (p := ⟨gb681, 5, none⟩) (Kd.R_far (p := ⟨gb681, 4, none⟩) (Kd.R_far (p := ⟨gb681, 3, none⟩) (Kd.R_far (p := ⟨gb681, 2, none⟩) (Kd.R_far (p := ⟨gb681, 1, none⟩) (Kd.R_far (p := ⟨gb681, 0, none⟩) (Kd.R_types HO702.out BK681.out (by decide)) (fun _ hk => hk.2) (.slice Ao9 t686.length co9)) (fun _ hk => hk.2) (.int .i64 t689)) (fun _ hk => hk.2) (.slice Ao12 t690.length co12)) (fun _ hk => hk.2) (.int .i64 t693)) (fun _ hk => hk.2) (.int .i64 t694)) (fun _ hk => hk.2) (.slice Ao13 t695.length co13)) (fun _ hk => trivial), oB56 HB⟩
end Go.Proofs.YtojiighpkppckaaGreatDoor.P


namespace Go.Proofs.YtojiighpkppckaaGreatDoor.P
open Go.RowKit Go.Proofs.YtojiighpkppckaaGreatDoorW.PrintWords Go.Proofs.YtojiighpkppckaaGreatDoorW.PrintLast Go.Proofs.YtojiighpkppckaaGreatDoorW.PrintMore
attribute [local go_sem] max2_int min2_int max_two min_two max_three min_three max_four min_four
set_option linter.unusedVariables false
set_option linter.unusedSimpArgs false
def impl_within.f (a0 : Int) (a1 : Int) (a2 : Int) : Option (Bool) := if a1 ≤ a0 then (some (decide (a0 ≤ a2))) else (some false)
set_option maxHeartbeats 8000000 in
set_option maxRecDepth 100000 in
theorem impl_within.calls (a0 : Int) (a1 : Int) (a2 : Int) (r : Bool) (w : World) (h : impl_within.f a0 a1 a2 = some r) :
    Calls Tryz.prog 22 #[.int .i64 a0, .int .i64 a1, .int .i64 a2] w fun e w' => e = .returned (.bool r) ∧ Drawn0 w w' := by
  have H : (if a1 ≤ a0 then (some (decide (a0 ≤ a2))) else (some false)) = some r := h
  clear h
  by_cases c4 : a1 ≤ a0
  · rw [if_pos c4] at H
    have c4b0 : decide (a1 ≤ a0) = true := decide_eq_true c4
    clear c4
    obtain rfl := Option.some.inj H
    go_enter Tryz.func22, Tryz.ntmps22
    go_wp2
    go_ret
    exact ⟨by first | rfl | (simp; done) | (simp [*]; done), by repeat (first | exact Drawn0.refl _ | apply Drawn0.step)⟩
  · rw [if_neg c4] at H
    have c4b0 : decide (a1 ≤ a0) = false := decide_eq_false c4
    clear c4
    obtain rfl := Option.some.inj H
    go_enter Tryz.func22, Tryz.ntmps22
    go_wp2
    go_ret
    exact ⟨by first | rfl | (simp; done) | (simp [*]; done), by repeat (first | exact Drawn0.refl _ | apply Drawn0.step)⟩
end Go.Proofs.YtojiighpkppckaaGreatDoor.P


namespace Go.Proofs.YtojiighpkppckaaGreatDoor.P
open Go.RowKit Go.Proofs.YtojiighpkppckaaGreatDoorW.PrintWords Go.Proofs.YtojiighpkppckaaGreatDoorW.PrintLast Go.Proofs.YtojiighpkppckaaGreatDoorW.PrintMore
attribute [local go_sem] max2_int min2_int max_two min_two max_three min_three max_four min_four
set_option linter.unusedVariables false
set_option linter.unusedSimpArgs false
def impl_isWarmth.f (a0 : Int) : Option (Bool) := (impl_within.f a0 (-10) 40).bind fun t705 => (some t705)
set_option maxHeartbeats 8000000 in
set_option maxRecDepth 100000 in
theorem impl_isWarmth.calls (a0 : Int) (r : Bool) (w : World) (h : impl_isWarmth.f a0 = some r) :
    Calls Tryz.prog 21 #[.int .i64 a0] w fun e w' => e = .returned (.bool r) ∧ Drawn0 w w' := by
  have H : ((impl_within.f a0 (-10) 40).bind fun t705 => (some t705)) = some r := h
  clear h
  replace H := Option.bind_eq_some_iff.mp H
  obtain ⟨t705, A20, H⟩ := H
  (try dsimp only at H)
  have A2 := A_ A20
  clear A20
  obtain rfl := Option.some.inj H
  go_enter Tryz.func21, Tryz.ntmps21
  go_wp2_with (first | ((with_reducible refine gate_callee (f := 22) rfl ?_); refine gL (some 4) Tryz.func22 #[.int .i64 a0, .int .i64 (-10), .int .i64 40] ?_; (with_reducible refine (impl_within.calls a0 (-10) 40 t705 _ A2.out).mono ?_); rintro e w' ⟨rfl, ⟨nd, rfl⟩⟩; refine ⟨_, rfl, ?_⟩))
  go_ret
  exact ⟨by first | rfl | (simp; done) | (simp [*]; done), by repeat (first | exact Drawn0.refl _ | apply Drawn0.step)⟩
end Go.Proofs.YtojiighpkppckaaGreatDoor.P


namespace Go.Proofs.YtojiighpkppckaaGreatDoor.P
open Go.RowKit Go.Proofs.YtojiighpkppckaaGreatDoorW.PrintWords Go.Proofs.YtojiighpkppckaaGreatDoorW.PrintLast Go.Proofs.YtojiighpkppckaaGreatDoorW.PrintMore
attribute [local go_sem] max2_int min2_int max_two min_two max_three min_three max_four min_four
set_option linter.unusedVariables false
set_option linter.unusedSimpArgs false
attribute [local go_sem high] eqA37
def impl_ActOk.j0 : Nat → Int → Bool → Int → Int → Int → Int → Option (Bool)
  | 0, _, _, _, _, _, _ => none
  | k + 1, x4, x5, x707000, x707001, x707002, x707003 => if x5 = true then (some (x707001 == 0 && (x707002 == 0 && (x707003 == 0)))) else (if x4 = 2 then (if (x707002 == 0 && (x707003 == 0)) = true then ((impl_isWarmth.f x707001).bind fun t707 => (some t707)) else (some false)) else (if x4 = 3 then ((impl_within.f x707001 0 3).bind fun t708 => (if t708 = true then ((impl_within.f x707002 0 39).bind fun t709 => (if t709 = true then ((impl_within.f x707003 0 2).bind fun t710 => (some t710)) else (some false))) else (some false))) else (if x4 = 4 then (if (x707003 == 0) = true then ((impl_within.f x707001 0 11).bind fun t711 => (if t711 = true then ((impl_within.f x707002 (-100000) 100000).bind fun t712 => (some t712)) else (some false))) else (some false)) else (if x4 = 7 then (if (x707002 == 0 && (x707003 == 0)) = true then ((impl_within.f x707001 0 11).bind fun t713 => (some t713)) else (some false)) else (some false)))))
def impl_ActOk.f (k : Nat) (a0_0 : Int) (a0_1 : Int) (a0_2 : Int) (a0_3 : Int) : Option (Bool) := if a0_0 = 1 then (impl_ActOk.j0 k a0_0 (a0_0 == 1) a0_0 a0_1 a0_2 a0_3) else (if a0_0 = 5 then (impl_ActOk.j0 k a0_0 (a0_0 == 5) a0_0 a0_1 a0_2 a0_3) else (impl_ActOk.j0 k a0_0 (a0_0 == 6) a0_0 a0_1 a0_2 a0_3))
set_option maxHeartbeats 8000000 in
set_option maxRecDepth 100000 in
theorem impl_ActOk.calls (k : Nat) (a0_0 : Int) (a0_1 : Int) (a0_2 : Int) (a0_3 : Int) (r : Bool) (w : World) (h : impl_ActOk.f k a0_0 a0_1 a0_2 a0_3 = some r) :
    Calls Tryz.prog 11 #[.agg #[.int .i64 a0_0, .int .i64 a0_1, .int .i64 a0_2, .int .i64 a0_3]] w fun e w' => e = .returned (.bool r) ∧ Below w.heap.size w w' := by
  have hu37 := Tryz.underlying37
  have HB := A_ (Below.refl w.heap.size w)
  have H : (if a0_0 = 1 then (impl_ActOk.j0 k a0_0 (a0_0 == 1) a0_0 a0_1 a0_2 a0_3) else (if a0_0 = 5 then (impl_ActOk.j0 k a0_0 (a0_0 == 5) a0_0 a0_1 a0_2 a0_3) else (impl_ActOk.j0 k a0_0 (a0_0 == 6) a0_0 a0_1 a0_2 a0_3))) = some r := h
  clear h
  have HC2 := A_ H
  clear H
  go_enter Tryz.func11, Tryz.ntmps11
  go_upto_if 5 with (first | ((with_reducible refine gate_dst (N := 1) rfl ?_); refine bX (N := 1) (cs := #[.int .i64 a0_0, .int .i64 a0_1, .int .i64 a0_2, .int .i64 a0_3]) (t := 37) ?_; intro gb706 hg w3 hbox hb; have n0_ := A_ (below_step (oB HB) hb); have n1_ := A_ (hbox); have n2_ := A_ ((by rw [hg]; exact (below_size (oB HB)) : w.heap.size ≤ gb706)); have n3_ := A_ ((by rw [hg]; exact (below_size (oB HB)) : w.heap.size ≤ gb706)); clear HB; have HB := n0_; have BK706 := n1_; have GW706 := n2_; have GE706 := n3_; clear n0_ n1_ n2_ n3_; clear hb hbox hg; have hcz4_0 := cz BK706 0; have hcz4_1 := cz BK706 1; have hcz4_2 := cz BK706 2; have hcz4_3 := cz BK706 3; have hfz4_0 := blk_frozen BK706.out 0; have hfz4_1 := blk_frozen BK706.out 1; have hfz4_2 := blk_frozen BK706.out 2; have hfz4_3 := blk_frozen BK706.out 3))
  (try simp only [Act.put, List.setIfInBounds_toArray, List.set_cons_zero, List.set_cons_succ])
  go_cut [5] (fun v5 wc => ∃ (kq : Nat) (x5_1 : Bool), v5 = .bool x5_1 ∧ Aside0 (impl_ActOk.j0 kq a0_0 x5_1 a0_0 a0_1 a0_2 a0_3 = some r) ∧ Aside0 (kq ≤ k) ∧ Aside0 (wc.heap[gb706]? = some (.cells #[.int .i64 a0_0, .int .i64 a0_1, .int .i64 a0_2, .int .i64 a0_3] 37 (0, 0))) ∧ Aside0 (Below w.heap.size w wc))
  case first =>
    have H := HC2.out
    clear HC2
    by_cases c5 : a0_0 = 1
    · rw [if_pos c5] at H
      have c5b0 : (a0_0 == 1) = true := beq_iff_eq.mpr c5
      have c5b1 : (a0_0 != 1) = false := bne_eq_false_iff_eq.mpr c5
      clear c5
      (first | rw [c5b0] | (simp only [i64_w, i32_w]; rw [c5b0]) | skip)
      have H' := A_ H
      clear H
      go_wp2
      go_meet
      case rel => exact ⟨_, ((a0_0 == 1)), (by first | rfl | (simp; done) | (simp [*]; done)), H', ⟨by first | omega | exact Nat.le_refl _⟩, ⟨oK BK706⟩, ⟨oB HB⟩⟩
    · rw [if_neg c5] at H
      have c5b0 : (a0_0 == 1) = false := beq_eq_false_iff_ne.mpr c5
      have c5b1 : (a0_0 != 1) = true := bne_iff_ne.mpr c5
      (first | rw [c5b0] | (simp only [i64_w, i32_w]; rw [c5b0]) | skip)
      by_cases c6 : a0_0 = 5
      · rw [if_pos c6] at H
        have c6b0 : (a0_0 == 5) = true := beq_iff_eq.mpr c6
        have c6b1 : (a0_0 != 5) = false := bne_eq_false_iff_eq.mpr c6
        clear c6
        have H' := A_ H
        clear H
        go_wp2
        go_meet
        case rel => exact ⟨_, ((a0_0 == 5)), (by first | rfl | (simp; done) | (simp [*]; done)), H', ⟨by first | omega | exact Nat.le_refl _⟩, ⟨oK BK706⟩, ⟨oB HB⟩⟩
      · rw [if_neg c6] at H
        have c6b0 : (a0_0 == 5) = false := beq_eq_false_iff_ne.mpr c6
        have c6b1 : (a0_0 != 5) = true := bne_iff_ne.mpr c6
        have H' := A_ H
        clear H
        go_wp2
        go_meet
        case rel => exact ⟨_, ((a0_0 == 6)), (by first | rfl | (simp; done) | (simp [*]; done)), H', ⟨by first | omega | exact Nat.le_refl _⟩, ⟨oK BK706⟩, ⟨oB HB⟩⟩
  case rest =>
    clear HC2
    try clear c1
    try clear p2
    try clear c5
    try clear c5b0
    try clear c5b1
    try clear c6
    try clear c6b0
    try clear c6b1
    try clear hcz4_0
    try clear hcz4_1
    try clear hcz4_2
    try clear hcz4_3
    try clear hfz4_0
    try clear hfz4_1
    try clear hfz4_2
    try clear hfz4_3
    obtain ⟨kq, x5_1, rfl, HA, HJ1, BK706, HB⟩ := hcut
    cases kq with
    | zero => exact absurd HA.out (by simp [impl_ActOk.j0])
    | succ kj1 =>
      have H := HA.out
      clear HA
      simp only [impl_ActOk.j0] at H
      by_cases c7 : x5_1 = true
      · subst c7
        rw [if_pos rfl] at H
        obtain rfl := Option.some.inj H
        have hcz8_0 := cz BK706 0
        have hcz8_1 := cz BK706 1
        have hcz8_2 := cz BK706 2
        have hcz8_3 := cz BK706 3
        have hfz8_0 := blk_frozen BK706.out 0
        have hfz8_1 := blk_frozen BK706.out 1
        have hfz8_2 := blk_frozen BK706.out 2
        have hfz8_3 := blk_frozen BK706.out 3
        go_wp2
        go_ret
        exact ⟨eR, oB HB⟩
      · replace c7 := Bool.eq_false_iff.mpr c7
        subst c7
        rw [if_neg (show ¬ (false = true) by decide)] at H
        by_cases c9 : a0_0 = 2
        · rw [if_pos c9] at H
          have c9b0 : (a0_0 == 2) = true := beq_iff_eq.mpr c9
          have c9b1 : (a0_0 != 2) = false := bne_eq_false_iff_eq.mpr c9
          clear c9
          by_cases c10 : (a0_2 == 0 && (a0_3 == 0)) = true
          · rw [if_pos c10] at H
            have c10b0 : (a0_2 == 0 && (a0_3 == 0)) = true := c10
            (try (have c10b1 : decide (a0_2 = 0 && (a0_3 == 0)) = true := by simpa using c10))
            (try (have c10b2 : (a0_2 == 0 && (a0_3 == 0)) = true := by simpa using c10))
            clear c10
            replace H := Option.bind_eq_some_iff.mp H
            obtain ⟨t707, A110, H⟩ := H
            (try dsimp only at H)
            have A11 := A_ A110
            clear A110
            obtain rfl := Option.some.inj H
            have hcz12_0 := cz BK706 0
            have hcz12_1 := cz BK706 1
            have hcz12_2 := cz BK706 2
            have hcz12_3 := cz BK706 3
            have hfz12_0 := blk_frozen BK706.out 0
            have hfz12_1 := blk_frozen BK706.out 1
            have hfz12_2 := blk_frozen BK706.out 2
            have hfz12_3 := blk_frozen BK706.out 3
            go_wp2_with (first | (go_at_call 21; (with_reducible refine (impl_isWarmth.calls a0_1 t707 _ A11.out).mono ?_); rintro e w' ⟨rfl, ⟨nd, rfl⟩⟩))
            go_ret
            exact ⟨eR, oB HB⟩
          · rw [if_neg c10] at H
            have c10b0 : (a0_2 == 0 && (a0_3 == 0)) = false := by simpa using c10
            (try (have c10b1 : decide (a0_2 = 0 && (a0_3 == 0)) = false := by simpa using c10))
            (try (have c10b2 : (a0_2 == 0 && (a0_3 == 0)) = false := by simpa using c10))
            (try (have c10b3 : ¬ (a0_2 = 0 && (a0_3 == 0)) := by simpa using c10))
            clear c10
            obtain rfl := Option.some.inj H
            have hcz13_0 := cz BK706 0
            have hcz13_1 := cz BK706 1
            have hcz13_2 := cz BK706 2
            have hcz13_3 := cz BK706 3
            have hfz13_0 := blk_frozen BK706.out 0
            have hfz13_1 := blk_frozen BK706.out 1
            have hfz13_2 := blk_frozen BK706.out 2
            have hfz13_3 := blk_frozen BK706.out 3
            go_wp2
            go_ret
            exact ⟨eR, oB HB⟩
        · rw [if_neg c9] at H
          have c9b0 : (a0_0 == 2) = false := beq_eq_false_iff_ne.mpr c9
          have c9b1 : (a0_0 != 2) = true := bne_iff_ne.mpr c9
          by_cases c14 : a0_0 = 3
          · rw [if_pos c14] at H
            have c14b0 : (a0_0 == 3) = true := beq_iff_eq.mpr c14
            have c14b1 : (a0_0 != 3) = false := bne_eq_false_iff_eq.mpr c14
            clear c14
            replace H := Option.bind_eq_some_iff.mp H
            obtain ⟨t708, A150, H⟩ := H
            (try dsimp only at H)
            have A15 := A_ A150
            clear A150
            by_cases c16 : t708 = true
            · subst c16
              rw [if_pos rfl] at H
              replace H := Option.bind_eq_some_iff.mp H
              obtain ⟨t709, A170, H⟩ := H
              (try dsimp only at H)
              have A17 := A_ A170
              clear A170
              by_cases c18 : t709 = true
              · subst c18
                rw [if_pos rfl] at H
                replace H := Option.bind_eq_some_iff.mp H
                obtain ⟨t710, A190, H⟩ := H
                (try dsimp only at H)
                have A19 := A_ A190
                clear A190
                obtain rfl := Option.some.inj H
                have hcz20_0 := cz BK706 0
                have hcz20_1 := cz BK706 1
                have hcz20_2 := cz BK706 2
                have hcz20_3 := cz BK706 3
                have hfz20_0 := blk_frozen BK706.out 0
                have hfz20_1 := blk_frozen BK706.out 1
                have hfz20_2 := blk_frozen BK706.out 2
                have hfz20_3 := blk_frozen BK706.out 3
                go_wp2_with (first | ((with_reducible refine gate_callee (f := 22) rfl ?_); refine gL (some 32) Tryz.func22 #[.int .i64 a0_1, .int .i64 0, .int .i64 3] ?_; (with_reducible refine (impl_within.calls a0_1 0 3 true _ A15.out).mono ?_); rintro e w' ⟨rfl, ⟨nd, rfl⟩⟩; refine ⟨_, rfl, ?_⟩) | (go_at_call 22; (with_reducible refine (impl_within.calls a0_2 0 39 true _ A17.out).mono ?_); rintro e w' ⟨rfl, ⟨nd, rfl⟩⟩) | (go_at_call 22; (with_reducible refine (impl_within.calls a0_3 0 2 t710 _ A19.out).mono ?_); rintro e w' ⟨rfl, ⟨nd, rfl⟩⟩))
                go_ret
                exact ⟨eR, oB HB⟩
              · replace c18 := Bool.eq_false_iff.mpr c18
                subst c18
                rw [if_neg (show ¬ (false = true) by decide)] at H
                obtain rfl := Option.some.inj H
                have hcz21_0 := cz BK706 0
                have hcz21_1 := cz BK706 1
                have hcz21_2 := cz BK706 2
                have hcz21_3 := cz BK706 3
                have hfz21_0 := blk_frozen BK706.out 0
                have hfz21_1 := blk_frozen BK706.out 1
                have hfz21_2 := blk_frozen BK706.out 2
                have hfz21_3 := blk_frozen BK706.out 3
                go_wp2_with (first | ((with_reducible refine gate_callee (f := 22) rfl ?_); refine gL (some 32) Tryz.func22 #[.int .i64 a0_1, .int .i64 0, .int .i64 3] ?_; (with_reducible refine (impl_within.calls a0_1 0 3 true _ A15.out).mono ?_); rintro e w' ⟨rfl, ⟨nd, rfl⟩⟩; refine ⟨_, rfl, ?_⟩) | (go_at_call 22; (with_reducible refine (impl_within.calls a0_2 0 39 false _ A17.out).mono ?_); rintro e w' ⟨rfl, ⟨nd, rfl⟩⟩))
                go_ret
                exact ⟨eR, oB HB⟩
            · replace c16 := Bool.eq_false_iff.mpr c16
              subst c16
              rw [if_neg (show ¬ (false = true) by decide)] at H
              obtain rfl := Option.some.inj H
              have hcz22_0 := cz BK706 0
              have hcz22_1 := cz BK706 1
              have hcz22_2 := cz BK706 2
              have hcz22_3 := cz BK706 3
              have hfz22_0 := blk_frozen BK706.out 0
              have hfz22_1 := blk_frozen BK706.out 1
              have hfz22_2 := blk_frozen BK706.out 2
              have hfz22_3 := blk_frozen BK706.out 3
              go_wp2_with (first | ((with_reducible refine gate_callee (f := 22) rfl ?_); refine gL (some 32) Tryz.func22 #[.int .i64 a0_1, .int .i64 0, .int .i64 3] ?_; (with_reducible refine (impl_within.calls a0_1 0 3 false _ A15.out).mono ?_); rintro e w' ⟨rfl, ⟨nd, rfl⟩⟩; refine ⟨_, rfl, ?_⟩))
              go_ret
              exact ⟨eR, oB HB⟩
          · rw [if_neg c14] at H
            have c14b0 : (a0_0 == 3) = false := beq_eq_false_iff_ne.mpr c14
            have c14b1 : (a0_0 != 3) = true := bne_iff_ne.mpr c14
            by_cases c23 : a0_0 = 4
            · rw [if_pos c23] at H
              have c23b0 : (a0_0 == 4) = true := beq_iff_eq.mpr c23
              have c23b1 : (a0_0 != 4) = false := bne_eq_false_iff_eq.mpr c23
              clear c23
              by_cases c24 : (a0_3 == 0) = true
              · rw [if_pos c24] at H
                have c24b0 : (a0_3 == 0) = true := c24
                (try (have c24b1 : decide (a0_3 = 0) = true := by simpa using c24))
                (try (have c24b2 : (a0_3 == 0) = true := by simpa using c24))
                clear c24
                replace H := Option.bind_eq_some_iff.mp H
                obtain ⟨t711, A250, H⟩ := H
                (try dsimp only at H)
                have A25 := A_ A250
                clear A250
                by_cases c26 : t711 = true
                · subst c26
                  rw [if_pos rfl] at H
                  replace H := Option.bind_eq_some_iff.mp H
                  obtain ⟨t712, A270, H⟩ := H
                  (try dsimp only at H)
                  have A27 := A_ A270
                  clear A270
                  obtain rfl := Option.some.inj H
                  have hcz28_0 := cz BK706 0
                  have hcz28_1 := cz BK706 1
                  have hcz28_2 := cz BK706 2
                  have hcz28_3 := cz BK706 3
                  have hfz28_0 := blk_frozen BK706.out 0
                  have hfz28_1 := blk_frozen BK706.out 1
                  have hfz28_2 := blk_frozen BK706.out 2
                  have hfz28_3 := blk_frozen BK706.out 3
                  go_wp2_with (first | (go_at_call 22; (with_reducible refine (impl_within.calls a0_1 0 11 true _ A25.out).mono ?_); rintro e w' ⟨rfl, ⟨nd, rfl⟩⟩) | (go_at_call 22; (with_reducible refine (impl_within.calls a0_2 (-100000) 100000 t712 _ A27.out).mono ?_); rintro e w' ⟨rfl, ⟨nd, rfl⟩⟩))
                  go_ret
                  exact ⟨eR, oB HB⟩
                · replace c26 := Bool.eq_false_iff.mpr c26
                  subst c26
                  rw [if_neg (show ¬ (false = true) by decide)] at H
                  obtain rfl := Option.some.inj H
                  have hcz29_0 := cz BK706 0
                  have hcz29_1 := cz BK706 1
                  have hcz29_2 := cz BK706 2
                  have hcz29_3 := cz BK706 3
                  have hfz29_0 := blk_frozen BK706.out 0
                  have hfz29_1 := blk_frozen BK706.out 1
                  have hfz29_2 := blk_frozen BK706.out 2
                  have hfz29_3 := blk_frozen BK706.out 3
                  go_wp2_with (first | (go_at_call 22; (with_reducible refine (impl_within.calls a0_1 0 11 false _ A25.out).mono ?_); rintro e w' ⟨rfl, ⟨nd, rfl⟩⟩))
                  go_ret
                  exact ⟨eR, oB HB⟩
              · rw [if_neg c24] at H
                have c24b0 : (a0_3 == 0) = false := by simpa using c24
                (try (have c24b1 : decide (a0_3 = 0) = false := by simpa using c24))
                (try (have c24b2 : (a0_3 == 0) = false := by simpa using c24))
                (try (have c24b3 : ¬ (a0_3 = 0) := by simpa using c24))
                clear c24
                obtain rfl := Option.some.inj H
                have hcz30_0 := cz BK706 0
                have hcz30_1 := cz BK706 1
                have hcz30_2 := cz BK706 2
                have hcz30_3 := cz BK706 3
                have hfz30_0 := blk_frozen BK706.out 0
                have hfz30_1 := blk_frozen BK706.out 1
                have hfz30_2 := blk_frozen BK706.out 2
                have hfz30_3 := blk_frozen BK706.out 3
                go_wp2
                go_ret
                exact ⟨eR, oB HB⟩
            · rw [if_neg c23] at H
              have c23b0 : (a0_0 == 4) = false := beq_eq_false_iff_ne.mpr c23
              have c23b1 : (a0_0 != 4) = true := bne_iff_ne.mpr c23
              by_cases c31 : a0_0 = 7
              · rw [if_pos c31] at H
                have c31b0 : (a0_0 == 7) = true := beq_iff_eq.mpr c31
                have c31b1 : (a0_0 != 7) = false := bne_eq_false_iff_eq.mpr c31
                clear c31
                by_cases c32 : (a0_2 == 0 && (a0_3 == 0)) = true
                · rw [if_pos c32] at H
                  have c32b0 : (a0_2 == 0 && (a0_3 == 0)) = true := c32
                  (try (have c32b1 : decide (a0_2 = 0 && (a0_3 == 0)) = true := by simpa using c32))
                  (try (have c32b2 : (a0_2 == 0 && (a0_3 == 0)) = true := by simpa using c32))
                  clear c32
                  replace H := Option.bind_eq_some_iff.mp H
                  obtain ⟨t713, A330, H⟩ := H
                  (try dsimp only at H)
                  have A33 := A_ A330
                  clear A330
                  obtain rfl := Option.some.inj H
                  have hcz34_0 := cz BK706 0
                  have hcz34_1 := cz BK706 1
                  have hcz34_2 := cz BK706 2
                  have hcz34_3 := cz BK706 3
                  have hfz34_0 := blk_frozen BK706.out 0
                  have hfz34_1 := blk_frozen BK706.out 1
                  have hfz34_2 := blk_frozen BK706.out 2
                  have hfz34_3 := blk_frozen BK706.out 3
                  go_wp2_with (first | (go_at_call 22; (with_reducible refine (impl_within.calls a0_1 0 11 t713 _ A33.out).mono ?_); rintro e w' ⟨rfl, ⟨nd, rfl⟩⟩))
                  go_ret
                  exact ⟨eR, oB HB⟩
                · rw [if_neg c32] at H
                  have c32b0 : (a0_2 == 0 && (a0_3 == 0)) = false := by simpa using c32
                  (try (have c32b1 : decide (a0_2 = 0 && (a0_3 == 0)) = false := by simpa using c32))
                  (try (have c32b2 : (a0_2 == 0 && (a0_3 == 0)) = false := by simpa using c32))
                  (try (have c32b3 : ¬ (a0_2 = 0 && (a0_3 == 0)) := by simpa using c32))
                  clear c32
                  obtain rfl := Option.some.inj H
                  have hcz35_0 := cz BK706 0
                  have hcz35_1 := cz BK706 1
                  have hcz35_2 := cz BK706 2
                  have hcz35_3 := cz BK706 3
                  have hfz35_0 := blk_frozen BK706.out 0
                  have hfz35_1 := blk_frozen BK706.out 1
                  have hfz35_2 := blk_frozen BK706.out 2
                  have hfz35_3 := blk_frozen BK706.out 3
                  go_wp2
                  go_ret
                  exact ⟨eR, oB HB⟩
              · rw [if_neg c31] at H
                have c31b0 : (a0_0 == 7) = false := beq_eq_false_iff_ne.mpr c31
                have c31b1 : (a0_0 != 7) = true := bne_iff_ne.mpr c31
                obtain rfl := Option.some.inj H
                go_wp2
                go_ret
                exact ⟨eR, oB HB⟩
end Go.Proofs.YtojiighpkppckaaGreatDoor.P


namespace Go.Proofs.YtojiighpkppckaaGreatDoor.P
open Go.Shelf
def st171_ren : Go.Shelf.Ren := ⟨fun | 171 => 40 | 243 => 58 | 246 => 74 | 283 => 85 | 284 => 86 | 285 => 87 | 286 => 88 | 129 => 95 | 317 => 94 | 318 => 96 | 319 => 97 | 320 => 98 | 337 => 101 | 338 => 102 | n => n, fun | 3 => 3 | 9 => 9 | 2 => 2 | 4 => 4 | 171 => 139 | 0 => 0 | 53 => 108 | 37 => 22 | 5 => 5 | 173 => 142 | 212 => 147 | 51 => 148 | 20 => 20 | 213 => 149 | 46 => 105 | 232 => 158 | 233 => 159 | n => n, fun | 17 => 3 | 18 => 6 | 19 => 7 | n => n⟩
theorem st171 : Go.Proofs.LaysM.n171 Tryz.prog st171_ren := {
  mixed := by kernel_rfl
  f129 := Tryz.func95.trans (congrArg some (by kernel_rfl))
  f171 := Tryz.func40.trans (congrArg some (by kernel_rfl))
  f243 := Tryz.func58.trans (congrArg some (by kernel_rfl))
  f246 := Tryz.func74.trans (congrArg some (by kernel_rfl))
  f283 := Tryz.func85.trans (congrArg some (by kernel_rfl))
  f284 := Tryz.func86.trans (congrArg some (by kernel_rfl))
  f285 := Tryz.func87.trans (congrArg some (by kernel_rfl))
  f286 := Tryz.func88.trans (congrArg some (by kernel_rfl))
  f317 := Tryz.func94.trans (congrArg some (by kernel_rfl))
  f318 := Tryz.func96.trans (congrArg some (by kernel_rfl))
  f319 := Tryz.func97.trans (congrArg some (by kernel_rfl))
  f320 := Tryz.func98.trans (congrArg some (by kernel_rfl))
  f337 := Tryz.func101.trans (congrArg some (by kernel_rfl))
  f338 := Tryz.func102.trans (congrArg some (by kernel_rfl))
  t0 := Tryz.underlying0
  a0 := Tryz.isAgg0
  z0 := Tryz.sizeOf0
  v0 := Tryz.zeroValue0
  t2 := Tryz.underlying2
  a2 := Tryz.isAgg2
  z2 := Tryz.sizeOf2
  v2 := Tryz.zeroValue2
  t3 := Tryz.underlying3
  a3 := Tryz.isAgg3
  z3 := Tryz.sizeOf3
  v3 := Tryz.zeroValue3
  t4 := Tryz.underlying4
  a4 := Tryz.isAgg4
  z4 := Tryz.sizeOf4
  v4 := Tryz.zeroValue4
  t5 := Tryz.underlying5
  a5 := Tryz.isAgg5
  z5 := Tryz.sizeOf5
  v5 := Tryz.zeroValue5
  t9 := Tryz.underlying9
  a9 := Tryz.isAgg9
  z9 := Tryz.sizeOf9
  v9 := Tryz.zeroValue9
  t20 := Tryz.underlying20
  a20 := Tryz.isAgg20
  z20 := Tryz.sizeOf20
  v20 := Tryz.zeroValue20
  t37 := Tryz.underlying22
  a37 := Tryz.isAgg22
  z37 := Tryz.sizeOf22
  v37 := Tryz.zeroValue22
  t46 := Tryz.underlying105
  a46 := Tryz.isAgg105
  z46 := Tryz.sizeOf105
  v46 := Tryz.zeroValue105
  t51 := Tryz.underlying148
  a51 := Tryz.isAgg148
  z51 := Tryz.sizeOf148
  v51 := Tryz.zeroValue148
  t53 := Tryz.underlying108
  a53 := Tryz.isAgg108
  z53 := Tryz.sizeOf108
  v53 := Tryz.zeroValue108
  t171 := Tryz.underlying139
  a171 := Tryz.isAgg139
  z171 := Tryz.sizeOf139
  v171 := Tryz.zeroValue139
  t173 := Tryz.underlying142
  a173 := Tryz.isAgg142
  z173 := Tryz.sizeOf142
  v173 := Tryz.zeroValue142
  t212 := Tryz.underlying147
  a212 := Tryz.isAgg147
  z212 := Tryz.sizeOf147
  v212 := Tryz.zeroValue147
  t213 := Tryz.underlying149
  a213 := Tryz.isAgg149
  z213 := Tryz.sizeOf149
  t232 := Tryz.underlying158
  a232 := Tryz.isAgg158
  z232 := Tryz.sizeOf158
  v232 := Tryz.zeroValue158
  t233 := Tryz.underlying159
  a233 := Tryz.isAgg159
  z233 := Tryz.sizeOf159
  v233 := Tryz.zeroValue159
  g17 := by kernel_rfl
  g18 := by kernel_rfl
  g19 := by kernel_rfl
  i0 := by kernel_rfl
  i2 := by kernel_rfl
  i3 := by kernel_rfl
  i4 := by kernel_rfl
  i5 := by kernel_rfl
  i9 := by kernel_rfl
  i20 := by kernel_rfl
  i37 := by kernel_rfl
  i46 := by kernel_rfl
  i51 := by kernel_rfl
  i53 := by kernel_rfl
  i171 := by kernel_rfl
  i173 := by kernel_rfl
  i212 := by kernel_rfl
  i232 := by kernel_rfl
  i233 := by kernel_rfl
  m17 := by kernel_rfl
  m18 := by kernel_rfl
  m19 := by kernel_rfl }
def st156_ren : Go.Shelf.Ren := ⟨fun | 156 => 15 | 165 => 27 | 166 => 28 | 169 => 29 | 240 => 47 | 241 => 48 | 276 => 65 | 277 => 66 | n => n, fun | 31 => 46 | 9 => 9 | 3 => 3 | 4 => 4 | 0 => 0 | 20 => 20 | 72 => 68 | 76 => 52 | 70 => 66 | 37 => 22 | 75 => 51 | 127 => 91 | 164 => 115 | 5 => 5 | 80 => 70 | n => n, fun | n => n⟩
theorem st156 : Go.Proofs.Lays.n156 Tryz.prog st156_ren := {
  mixed := by kernel_rfl
  f156 := Tryz.func15.trans (congrArg some (by kernel_rfl))
  f165 := Tryz.func27.trans (congrArg some (by kernel_rfl))
  f166 := Tryz.func28.trans (congrArg some (by kernel_rfl))
  f169 := Tryz.func29.trans (congrArg some (by kernel_rfl))
  f240 := Tryz.func47.trans (congrArg some (by kernel_rfl))
  f241 := Tryz.func48.trans (congrArg some (by kernel_rfl))
  f276 := Tryz.func65.trans (congrArg some (by kernel_rfl))
  f277 := Tryz.func66.trans (congrArg some (by kernel_rfl))
  t0 := Tryz.underlying0
  a0 := Tryz.isAgg0
  z0 := Tryz.sizeOf0
  v0 := Tryz.zeroValue0
  t3 := Tryz.underlying3
  a3 := Tryz.isAgg3
  z3 := Tryz.sizeOf3
  v3 := Tryz.zeroValue3
  t4 := Tryz.underlying4
  a4 := Tryz.isAgg4
  z4 := Tryz.sizeOf4
  v4 := Tryz.zeroValue4
  t9 := Tryz.underlying9
  a9 := Tryz.isAgg9
  z9 := Tryz.sizeOf9
  v9 := Tryz.zeroValue9
  t20 := Tryz.underlying20
  a20 := Tryz.isAgg20
  z20 := Tryz.sizeOf20
  v20 := Tryz.zeroValue20
  t31 := Tryz.underlying46
  a31 := Tryz.isAgg46
  z31 := Tryz.sizeOf46
  v31 := Tryz.zeroValue46
  t37 := Tryz.underlying22
  a37 := Tryz.isAgg22
  z37 := Tryz.sizeOf22
  v37 := Tryz.zeroValue22
  t70 := Tryz.underlying66
  a70 := Tryz.isAgg66
  z70 := Tryz.sizeOf66
  v70 := Tryz.zeroValue66
  t72 := Tryz.underlying68
  a72 := Tryz.isAgg68
  z72 := Tryz.sizeOf68
  v72 := Tryz.zeroValue68
  t75 := Tryz.underlying51
  a75 := Tryz.isAgg51
  z75 := Tryz.sizeOf51
  v75 := Tryz.zeroValue51
  t76 := Tryz.underlying52
  a76 := Tryz.isAgg52
  z76 := Tryz.sizeOf52
  v76 := Tryz.zeroValue52
  t127 := Tryz.underlying91
  a127 := Tryz.isAgg91
  z127 := Tryz.sizeOf91
  v127 := Tryz.zeroValue91
  t164 := Tryz.underlying115
  a164 := Tryz.isAgg115
  z164 := Tryz.sizeOf115
  v164 := Tryz.zeroValue115 }
theorem sx156 : Builder.Extra Tryz.prog st156_ren := {
  sizeBuilder := by kernel_rfl
  liesBuilder := by kernel_rfl
  t5 := Tryz.underlying5
  a5 := Tryz.isAgg5
  z5 := Tryz.sizeOf5
  v5 := Tryz.zeroValue5
  infoByte := by kernel_rfl
  cellsByte := by kernel_rfl
  sizeByte := by kernel_rfl
  neB5 := by decide }
end Go.Proofs.YtojiighpkppckaaGreatDoor.P


namespace Go.Proofs.YtojiighpkppckaaGreatDoor.P
open Go.RowKit Go.Proofs.YtojiighpkppckaaGreatDoorW.PrintWords Go.Proofs.YtojiighpkppckaaGreatDoorW.PrintLast Go.Proofs.YtojiighpkppckaaGreatDoorW.PrintMore Go.Proofs.YtojiighpkppckaaGreatDoor.V
attribute [local go_sem] cell_b frozen_b
attribute [local go_sem] max2_int min2_int max_two min_two max_three min_three max_four min_four
set_option linter.unusedVariables false
set_option linter.unusedSimpArgs false
def strings_Join.f (l0 : List ByteArray) (a1 : ByteArray) : Option (ByteArray) := if l0.length ≤ 140737488355328 ∧ (Go.Lib.join (l0.map (·.data.toList)) a1.data.toList).length ≤ 140737488355328 then some ⟨(Go.Lib.join (l0.map (·.data.toList)) a1.data.toList).toArray⟩ else none
theorem strings_Join.calls (A0 : Option Addr) (c0 : Nat) (l0 : List ByteArray) (a1 : ByteArray) (r : ByteArray) (w : World) (hr0 : Kd.C Kd.string w A0 l0.length l0) (hc0 : l0.length ≤ c0) (h : strings_Join.f l0 a1 = some r) :
    Calls Tryz.prog 15 #[.slice A0 l0.length c0, .string a1] w fun e w' => e = .returned (.string r) ∧ Below w.heap.size w w' := by
  unfold strings_Join.f at h
  by_cases hc : l0.length ≤ 140737488355328 ∧ (Go.Lib.join (l0.map (·.data.toList)) a1.data.toList).length ≤ 140737488355328
  rotate_left
  · rw [if_neg hc] at h; cases h
  rw [if_pos hc] at h
  obtain rfl := Option.some.inj h
  by_cases hz : l0.length = 0
  · obtain rfl : l0 = [] := List.eq_nil_of_length_eq_zero hz
    exact (Any.strings_Join_none st156 sx156 A0 c0 a1 w).mono fun e w' ⟨he, hw⟩ => ⟨he, hw ▸ Below.refl _ _⟩
  · obtain ⟨ad, rfl, hcell⟩ := (Kd.reads_of_C (d := ByteArray.empty) hr0).2.2 (by omega)
    have h0 := hcell 0 (by omega)
    obtain ⟨bk, o, sp⟩ := ad
    obtain rfl : sp = none := by
      cases sp with
      | none => rfl
      | some x => unfold World.cell? at h0; simp only [Addr.add] at h0; split at h0 <;> simp at h0
    refine Any.strings_Join st156 sx156 bk o c0 l0 a1 w (fun j x hx => ?_) (World.block_lt_of_cell? w _ h0) hc.1 hc0 hc.2
    have hj : j < l0.length := by
      rcases Nat.lt_or_ge j l0.length with h' | h'
      · exact h'
      · rw [List.getElem?_eq_none h'] at hx; cases hx
    have h1 := hcell j hj
    rw [List.getD_eq_getElem?_getD, hx] at h1
    by_cases hj0 : j = 0
    · subst hj0; simpa [Addr.add] using h1
    · simpa [Addr.add, hj0] using h1
end Go.Proofs.YtojiighpkppckaaGreatDoor.P


namespace Go.Proofs.YtojiighpkppckaaGreatDoor.P
open Go.RowKit Go.Proofs.YtojiighpkppckaaGreatDoorW.PrintWords Go.Proofs.YtojiighpkppckaaGreatDoorW.PrintLast Go.Proofs.YtojiighpkppckaaGreatDoorW.PrintMore Go.Proofs.YtojiighpkppckaaGreatDoor.V
attribute [local go_sem] cell_b frozen_b
attribute [local go_sem] max2_int min2_int max_two min_two max_three min_three max_four min_four
set_option linter.unusedVariables false
set_option linter.unusedSimpArgs false
def impl_FormatInt.f (a0 : Int) : Option (ByteArray) := if -9223372036854775808 ≤ a0 ∧ a0 ≤ 9223372036854775807 then some ⟨(Go.Lib.itoa a0).toArray⟩ else none
set_option maxRecDepth 100000 in
theorem impl_FormatInt.calls (a0 : Int) (r : ByteArray) (w : World) (h : impl_FormatInt.f a0 = some r) (ht_ : Aside0 (Tab w)) :
    Calls Tryz.prog 23 #[.int .i64 a0] w fun e w' => e = .returned (.string r) ∧ Below w.heap.size w w' := by
  unfold impl_FormatInt.f at h
  by_cases hc : -9223372036854775808 ≤ a0 ∧ a0 ≤ 9223372036854775807
  · rw [if_pos hc] at h
    obtain rfl := Option.some.inj h
    go_enter Tryz.func23, Tryz.ntmps23
    go_wp2_with (go_at_call 40; refine (Any.strconv_Itoa st171 a0 hc.1 hc.2 _ ht_.out).mono ?_; rintro e w' ⟨rfl, k, os, rfl⟩)
    go_ret
    exact ⟨rfl, Go.Lib.below_grow _ _ (Nat.le_refl _) _ _⟩
  · rw [if_neg hc] at h; cases h
end Go.Proofs.YtojiighpkppckaaGreatDoor.P


namespace Go.Proofs.YtojiighpkppckaaGreatDoor.P
open Go.RowKit Go.Proofs.YtojiighpkppckaaGreatDoorW.PrintWords Go.Proofs.YtojiighpkppckaaGreatDoorW.PrintLast Go.Proofs.YtojiighpkppckaaGreatDoorW.PrintMore Go.Proofs.YtojiighpkppckaaGreatDoor.V
attribute [local go_sem] cell_b frozen_b
attribute [local go_sem] max2_int min2_int max_two min_two max_three min_three max_four min_four
set_option linter.unusedVariables false
set_option linter.unusedSimpArgs false
def impl_words.l0 : Nat → List ByteArray → List Int → Int → Int → Option (ByteArray)
  | 0, _, _, _, _ => none
  | k + 1, x3, x7, x8, x9 => if x9 < x8 then (if 0 ≤ x9 then (if x9 < (x7.length : Int) then ((impl_FormatInt.f (rd x7 x9)).bind fun t737 => (if x3.length < 8796093022208 then (impl_words.l0 k (x3 ++ [t737]) x7 x8 (wrap64 (x9 + 1))) else (none))) else (none)) else (none)) else ((strings_Join.f x3 (⟨#[32]⟩ : ByteArray)).bind fun t741 => (some t741))
def impl_words.f (k : Nat) (l0 : List Int) : Option (ByteArray) := impl_words.l0 k (([] : List ByteArray)) l0 (l0.length : Int) 0
set_option maxHeartbeats 8000000 in
set_option maxRecDepth 100000 in
theorem impl_words.calls (k : Nat) (A0 : Option Addr) (c0 : Nat) (l0 : List Int) (r : ByteArray) (w : World) (hr0 : Kd.C (Kd.int .i64) w A0 l0.length l0) (hc0 : l0.length ≤ c0) (h : impl_words.f k l0 = some r) (ht_ : Aside0 (Tab w)) :
    Calls Tryz.prog 12 #[.slice A0 l0.length c0] w fun e w' => e = .returned (.string r) ∧ Below w.heap.size w w' := by
  have HR0 := A_ hr0
  have HC0 := A_ hc0
  clear hr0 hc0
  have HB := A_ (Below.refl w.heap.size w)
  have H : (impl_words.l0 k (([] : List ByteArray)) l0 (l0.length : Int) 0) = some r := h
  clear h
  obtain ⟨y733, hy733⟩ : ∃ y_ : List ByteArray, y_ = (([] : List ByteArray)) := ⟨_, rfl⟩
  replace H : (impl_words.l0 k y733 l0 (l0.length : Int) 0) = some r := by first | (rw [hy733]; with_reducible exact H) | (have H2_ := (Option.bind_some _ _).symm.trans H; rw [hy733]; with_reducible exact H2_) | (have H2_ := (Option.bind_some _ _).symm.trans H; with_reducible exact H2_) | with_reducible exact H | (rw [hy733]; exact H) | exact H
  have Ny733 := A_ hy733
  clear hy733
  have H' := A_ H
  clear H
  go_enter Tryz.func12, Tryz.ntmps12
  go_wp2_with (first | ((with_reducible refine gate_dst (N := 6) rfl ?_); refine Kd.R_lit Kd.string _ 9 ?hg (N := 6) ?hd (xs := ([] : List ByteArray)) (inner := []) (ok := fun _ => True) (okp := fun _ => True) ?hr ?hp (fun _ hk => hk) trivial (Below.refl _ _) (Nat.le_refl _) (by simp) ?_; (case hd => rfl); (case hg => rfl); (case hr => first | (go_simp; done) | (go_simp; rfl)); (case hp => exact (Reps.none _ _)); intro v734 w2 ho3 hb hg_ hnew_; clear hg_ hnew_; (first | rw [← Ny733.out] at ho3 | (simp only [Int.reduceToNat] at ho3; rw [← Ny733.out] at ho3)); have n0_ := A_ (Kd.R_lower ho3 (below_size (oB HB))); have n1_ := A_ (below_step (oB HB) hb); clear HB; have HO735 := n0_; have HB := n1_; clear n0_ n1_; clear hb ho3))
  go_loopg [3, 9] k (fun kq v3 v9 w' => ∃ (x3_1 : List ByteArray) (x9_1 : Int), v9 = .int .i64 x9_1 ∧ Aside0 (impl_words.l0 kq x3_1 l0 (l0.length : Int) x9_1 = some r) ∧ Aside0 (kq ≤ k) ∧ Aside0 (Kd.R Kd.string 9 w' w.heap.size (fun _ => True) v3 x3_1) ∧ Aside0 (Below w.heap.size w w'))
  case atStart => exact ⟨(y733), (0), (by first | rfl | (simp; done) | (simp [*]; done)), H', ⟨Nat.le_refl _⟩, ⟨oR HO735⟩, ⟨oB HB⟩⟩
  case round =>
    clear H'
    try clear c1
    try clear p2
    obtain ⟨x3_1, x9_1, rfl, HA, HK1, HO_3, HB⟩ := hrel
    cases gk with
    | zero => exact absurd HA.out (by simp [impl_words.l0])
    | succ k1 =>
      have H := HA.out
      clear HA
      simp only [impl_words.l0] at H
      by_cases c4 : x9_1 < (l0.length : Int)
      · rw [if_pos c4] at H
        have c4b0 : decide (x9_1 < (l0.length : Int)) = true := decide_eq_true c4
        clear c4
        by_cases c5 : 0 ≤ x9_1
        · rw [if_pos c5] at H
          have c5b0 : decide (0 ≤ x9_1) = true := decide_eq_true c5
          clear c5
          by_cases c6 : x9_1 < (l0.length : Int)
          · rw [if_pos c6] at H
            have c6b0 : decide (x9_1 < (l0.length : Int)) = true := decide_eq_true c6
            clear c6
            replace H := Option.bind_eq_some_iff.mp H
            obtain ⟨t737, A70, H⟩ := H
            (try dsimp only at H)
            have A7 := A_ A70
            clear A70
            by_cases c8 : x3_1.length < 8796093022208
            · rw [if_pos c8] at H
              have LMc8 := A_ c8
              clear c8
              obtain ⟨y738, hy738⟩ : ∃ y_ : List ByteArray, y_ = (x3_1 ++ [t737]) := ⟨_, rfl⟩
              replace H : (impl_words.l0 k1 y738 l0 (l0.length : Int) (wrap64 (x9_1 + 1))) = some r := by first | (rw [hy738]; with_reducible exact H) | (have H2_ := (Option.bind_some _ _).symm.trans H; rw [hy738]; with_reducible exact H2_) | (have H2_ := (Option.bind_some _ _).symm.trans H; with_reducible exact H2_) | with_reducible exact H | (rw [hy738]; exact H) | exact H
              have Ny738 := A_ hy738
              clear hy738
              have H' := A_ H
              clear H
              have p736 : 0 ≤ (x9_1 : Int) := of_decide_eq_true (by first | (with_reducible assumption) | assumption)
              have q736 : x9_1 < (l0.length : Int) := of_decide_eq_true (by first | (with_reducible assumption) | assumption)
              obtain ⟨ad736, e736, hx736_0⟩ := Kd.at_int HR0.out x9_1 p736 q736
              cases e736
              replace hx736_0 := (HB.out.cell (World.block_lt_of_cell? w _ hx736_0)).trans hx736_0
              replace p736 := eq_true p736
              replace q736 := eq_true q736
              go_wp2_with (first | ((with_reducible refine gate_callee (f := 23) rfl ?_); refine gL (some 15) Tryz.func23 #[.int .i64 (rd l0 x9_1)] ?_; (with_reducible refine (impl_FormatInt.calls (rd l0 x9_1) t737 _ A7.out ?sideT).mono ?_); (case sideT => exact ⟨tab_on ht_.out (oB HB)⟩); rintro e w9 ⟨rfl, hb⟩; refine ⟨_, rfl, ?_⟩; have n0_ := A_ (Kd.R_below (oR HO_3) hb); have n1_ := A_ (below_step (oB HB) hb); clear HO_3; clear HB; have HO_3 := n0_; have HB := n1_; clear n0_ n1_; (try clear hb); (try clear hb2); (try clear hk); (try clear hi)) | ((with_reducible refine gate_builtin (b := .append) (xs := #[.tmp 13, .tmp 16]) rfl ?_); at_builtin; refine Kd.R_append Kd.string (w0 := w) w.heap.size rfl (.tmp 13) (.tmp 16) 46 9 (.string ⟨#[]⟩) 16 rfl Tryz.underlying46 info9 rfl (by decide) (by omega) u3 x3_1 t737 [.string t737] (fun _ => True) (fun _ => False) rfl rfl ?aP (fun _ hk => hk.elim) ?aF ?aO ?aB ?aS ?aL ?_; (case aP => exact rfl); (case aB => exact (oB HB)); (case aF => exact (fun _ _ => trivial)); (case aO => exact (oR HO_3)); (case aS => exact (below_size (oB HB))); (case aL => have := LMc8.out; omega); intro v739 w10 ho hb hg hat; rw [← Ny738.out] at ho; have n0_ := A_ (hb); have n1_ := A_ (ho); clear HB; clear HO_3; have HB := n0_; have HO740 := n1_; clear n0_ n1_; clear ho hb hg hat))
              go_roundg k1
              case measure => have := HK1.out; omega
              case rel => exact ⟨(y738), (wrap64 (x9_1 + 1)), (by first | rfl | (simp; done) | (simp [*]; done)), H', ⟨by have := HK1.out; omega⟩, ⟨oR HO740⟩, ⟨oB HB⟩⟩
            · rw [if_neg c8] at H
              exact absurd H (by simp)
          · rw [if_neg c6] at H
            exact absurd H (by simp)
        · rw [if_neg c5] at H
          exact absurd H (by simp)
      · rw [if_neg c4] at H
        have c4b0 : decide (x9_1 < (l0.length : Int)) = false := decide_eq_false c4
        clear c4
        replace H := Option.bind_eq_some_iff.mp H
        obtain ⟨t741, A110, H⟩ := H
        (try dsimp only at H)
        have A11 := A_ A110
        clear A110
        obtain rfl := Option.some.inj H
        obtain ⟨Ao12, co12, eo12⟩ := Kd.R_slice HO_3.out
        subst eo12
        go_wp2_with (first | ((with_reducible refine gate_callee (f := 15) rfl ?_); refine gL (some 20) Tryz.func15 #[.slice Ao12 x3_1.length co12, .string (⟨#[32]⟩ : ByteArray)] ?_; (with_reducible refine (strings_Join.calls _ _ x3_1 (⟨#[32]⟩ : ByteArray) t741 _ ?side1 ?side2 A11.out).mono ?_); (case side1 => repeat (first | exact (Kd.R_reads' HO_3.out).2.2 | (with_reducible refine Kd.C_alloc ?_ _) | (with_reducible refine Kd.C_drewN ?_ _) | (with_reducible refine Kd.C_drew ?_))); (case side2 => exact (Kd.R_reads' HO_3.out).2.1); rintro e w13 ⟨rfl, hb⟩; refine ⟨_, rfl, ?_⟩; have n0_ := A_ (Kd.R_below (oR HO_3) hb); have n1_ := A_ (below_step (oB HB) hb); clear HO_3; clear HB; have HO_3 := n0_; have HB := n1_; clear n0_ n1_; (try clear hb); (try clear hb2); (try clear hk); (try clear hi)))
        go_ret
        exact ⟨eR, oB HB⟩
end Go.Proofs.YtojiighpkppckaaGreatDoor.P


namespace Go.Proofs.YtojiighpkppckaaGreatDoor.P
open Go.RowKit Go.Proofs.YtojiighpkppckaaGreatDoorW.PrintWords Go.Proofs.YtojiighpkppckaaGreatDoorW.PrintLast Go.Proofs.YtojiighpkppckaaGreatDoorW.PrintMore Go.Proofs.YtojiighpkppckaaGreatDoor.V
attribute [local go_sem] cell_b frozen_b
attribute [local go_sem] max2_int min2_int max_two min_two max_three min_three max_four min_four
set_option linter.unusedVariables false
set_option linter.unusedSimpArgs false
def impl_FormatAct.f (k : Nat) (a0_0 : Int) (a0_1 : Int) (a0_2 : Int) (a0_3 : Int) : Option (ByteArray × Bool) := (impl_ActOk.f k a0_0 a0_1 a0_2 a0_3).bind fun t743 => (if t743 = true then (if a0_0 = 1 then (some ((⟨#[116, 117, 110, 101]⟩ : ByteArray), true)) else (if a0_0 = 2 then ((impl_words.f k (([a0_1] : List Int))).bind fun t747 => (if 5 + t747.size ≤ 9223372036854775807 then (some ((⟨#[119, 97, 114, 109, 32]⟩ : ByteArray) ++ t747, true)) else (none))) else (if a0_0 = 3 then ((impl_words.f k (([a0_1, a0_2, a0_3] : List Int))).bind fun t751 => (if 6 + t751.size ≤ 9223372036854775807 then (some ((⟨#[102, 97, 117, 108, 116, 32]⟩ : ByteArray) ++ t751, true)) else (none))) else (if a0_0 = 4 then ((impl_words.f k (([a0_1, a0_2] : List Int))).bind fun t755 => (if 6 + t755.size ≤ 9223372036854775807 then (some ((⟨#[107, 110, 111, 99, 107, 32]⟩ : ByteArray) ++ t755, true)) else (none))) else (if a0_0 = 5 then (some ((⟨#[114, 101, 112, 97, 105, 114]⟩ : ByteArray), true)) else (if a0_0 = 6 then (some ((⟨#[108, 101, 102, 116]⟩ : ByteArray), true)) else ((impl_words.f k (([a0_1] : List Int))).bind fun t759 => (if 6 + t759.size ≤ 9223372036854775807 then (some ((⟨#[104, 101, 97, 114, 100, 32]⟩ : ByteArray) ++ t759, true)) else (none))))))))) else (some ((⟨#[]⟩ : ByteArray), false)))
set_option maxHeartbeats 8000000 in
set_option maxRecDepth 100000 in
theorem impl_FormatAct.calls (k : Nat) (a0_0 : Int) (a0_1 : Int) (a0_2 : Int) (a0_3 : Int) (r1 : ByteArray) (r2 : Bool) (w : World) (h : impl_FormatAct.f k a0_0 a0_1 a0_2 a0_3 = some (r1, r2)) (ht_ : Aside0 (Tab w)) :
    Calls Tryz.prog 6 #[.agg #[.int .i64 a0_0, .int .i64 a0_1, .int .i64 a0_2, .int .i64 a0_3]] w fun e w' => e = .returned (.tuple #[.string r1, .bool r2]) ∧ Below w.heap.size w w' := by
  have hu37 := Tryz.underlying37
  have HB := A_ (Below.refl w.heap.size w)
  have H : ((impl_ActOk.f k a0_0 a0_1 a0_2 a0_3).bind fun t743 => (if t743 = true then (if a0_0 = 1 then (some ((⟨#[116, 117, 110, 101]⟩ : ByteArray), true)) else (if a0_0 = 2 then ((impl_words.f k (([a0_1] : List Int))).bind fun t747 => (if 5 + t747.size ≤ 9223372036854775807 then (some ((⟨#[119, 97, 114, 109, 32]⟩ : ByteArray) ++ t747, true)) else (none))) else (if a0_0 = 3 then ((impl_words.f k (([a0_1, a0_2, a0_3] : List Int))).bind fun t751 => (if 6 + t751.size ≤ 9223372036854775807 then (some ((⟨#[102, 97, 117, 108, 116, 32]⟩ : ByteArray) ++ t751, true)) else (none))) else (if a0_0 = 4 then ((impl_words.f k (([a0_1, a0_2] : List Int))).bind fun t755 => (if 6 + t755.size ≤ 9223372036854775807 then (some ((⟨#[107, 110, 111, 99, 107, 32]⟩ : ByteArray) ++ t755, true)) else (none))) else (if a0_0 = 5 then (some ((⟨#[114, 101, 112, 97, 105, 114]⟩ : ByteArray), true)) else (if a0_0 = 6 then (some ((⟨#[108, 101, 102, 116]⟩ : ByteArray), true)) else ((impl_words.f k (([a0_1] : List Int))).bind fun t759 => (if 6 + t759.size ≤ 9223372036854775807 then (some ((⟨#[104, 101, 97, 114, 100, 32]⟩ : ByteArray) ++ t759, true)) else (none))))))))) else (some ((⟨#[]⟩ : ByteArray), false)))) = some (r1, r2) := h
  clear h
  replace H := Option.bind_eq_some_iff.mp H
  obtain ⟨t743, A20, H⟩ := H
  (try dsimp only at H)
  have A2 := A_ A20
  clear A20
  by_cases c3 : t743 = true
  · subst c3
    rw [if_pos rfl] at H
    by_cases c4 : a0_0 = 1
    · rw [if_pos c4] at H
      have c4b0 : (a0_0 == 1) = true := beq_iff_eq.mpr c4
      have c4b1 : (a0_0 != 1) = false := bne_eq_false_iff_eq.mpr c4
      clear c4
      simp only [Option.some.injEq, Prod.mk.injEq] at H
      obtain ⟨rfl, rfl⟩ := H
      go_enter Tryz.func6, Tryz.ntmps6
      go_wp2_with (first | ((with_reducible refine gate_dst (N := 1) rfl ?_); refine bX (N := 1) (cs := #[.int .i64 a0_0, .int .i64 a0_1, .int .i64 a0_2, .int .i64 a0_3]) (t := 37) ?_; intro gb742 hg w5 hbox hb; have n0_ := A_ (below_step (oB HB) hb); have n1_ := A_ (hbox); have n2_ := A_ ((by rw [hg]; exact (below_size (oB HB)) : w.heap.size ≤ gb742)); have n3_ := A_ ((by rw [hg]; exact (below_size (oB HB)) : w.heap.size ≤ gb742)); clear HB; have HB := n0_; have BK742 := n1_; have GW742 := n2_; have GE742 := n3_; clear n0_ n1_ n2_ n3_; clear hb hbox hg; have hcz6_0 := cz BK742 0; have hcz6_1 := cz BK742 1; have hcz6_2 := cz BK742 2; have hcz6_3 := cz BK742 3; have hfz6_0 := blk_frozen BK742.out 0; have hfz6_1 := blk_frozen BK742.out 1; have hfz6_2 := blk_frozen BK742.out 2; have hfz6_3 := blk_frozen BK742.out 3) | ((with_reducible refine gate_callee (f := 11) rfl ?_); refine gL (some 5) Tryz.func11 #[.agg #[.int .i64 a0_0, .int .i64 a0_1, .int .i64 a0_2, .int .i64 a0_3]] ?_; (with_reducible refine (impl_ActOk.calls k a0_0 a0_1 a0_2 a0_3 true _ A2.out).mono ?_); rintro e w7 ⟨rfl, hb⟩; refine ⟨_, rfl, ?_⟩; have n0_ := A_ (bb BK742 hb); have n1_ := A_ (below_step (oB HB) hb); clear BK742; clear HB; have BK742 := n0_; have HB := n1_; clear n0_ n1_; (try clear hb); (try clear hb2); (try clear hk); (try clear hi); have hcz8_0 := cz BK742 0; have hcz8_1 := cz BK742 1; have hcz8_2 := cz BK742 2; have hcz8_3 := cz BK742 3; have hfz8_0 := blk_frozen BK742.out 0; have hfz8_1 := blk_frozen BK742.out 1; have hfz8_2 := blk_frozen BK742.out 2; have hfz8_3 := blk_frozen BK742.out 3))
      go_ret2
      exact ⟨eR, oB HB⟩
    · rw [if_neg c4] at H
      have c4b0 : (a0_0 == 1) = false := beq_eq_false_iff_ne.mpr c4
      have c4b1 : (a0_0 != 1) = true := bne_iff_ne.mpr c4
      by_cases c9 : a0_0 = 2
      · rw [if_pos c9] at H
        have c9b0 : (a0_0 == 2) = true := beq_iff_eq.mpr c9
        have c9b1 : (a0_0 != 2) = false := bne_eq_false_iff_eq.mpr c9
        clear c9
        obtain ⟨y744, hy744⟩ : ∃ y_ : List Int, y_ = (([a0_1] : List Int)) := ⟨_, rfl⟩
        replace H : ((impl_words.f k y744).bind fun t747 => (if 5 + t747.size ≤ 9223372036854775807 then (some ((⟨#[119, 97, 114, 109, 32]⟩ : ByteArray) ++ t747, true)) else (none))) = some (r1, r2) := by first | (rw [hy744]; with_reducible exact H) | (have H2_ := (Option.bind_some _ _).symm.trans H; rw [hy744]; with_reducible exact H2_) | (have H2_ := (Option.bind_some _ _).symm.trans H; with_reducible exact H2_) | with_reducible exact H | (rw [hy744]; exact H) | exact H
        have Ny744 := A_ hy744
        clear hy744
        replace H := Option.bind_eq_some_iff.mp H
        obtain ⟨t747, A100, H⟩ := H
        (try dsimp only at H)
        have A10 := A_ A100
        clear A100
        by_cases c11 : 5 + t747.size ≤ 9223372036854775807
        · rw [if_pos c11] at H
          have c11b0 := eq_true c11
          have c11b1 : decide (5 + t747.size ≤ 9223372036854775807) = true := decide_eq_true c11
          try have c11b2 : (9223372036854775807 < 5 + t747.size) = False := eq_false (Nat.not_lt.2 c11)
          simp only [Option.some.injEq, Prod.mk.injEq] at H
          obtain ⟨rfl, rfl⟩ := H
          go_enter Tryz.func6, Tryz.ntmps6
          go_wp2_with (first | ((with_reducible refine gate_dst (N := 1) rfl ?_); refine bX (N := 1) (cs := #[.int .i64 a0_0, .int .i64 a0_1, .int .i64 a0_2, .int .i64 a0_3]) (t := 37) ?_; intro gb742 hg w12 hbox hb; have n0_ := A_ (below_step (oB HB) hb); have n1_ := A_ (hbox); have n2_ := A_ ((by rw [hg]; exact (below_size (oB HB)) : w.heap.size ≤ gb742)); have n3_ := A_ ((by rw [hg]; exact (below_size (oB HB)) : w.heap.size ≤ gb742)); clear HB; have HB := n0_; have BK742 := n1_; have GW742 := n2_; have GE742 := n3_; clear n0_ n1_ n2_ n3_; clear hb hbox hg; have hcz13_0 := cz BK742 0; have hcz13_1 := cz BK742 1; have hcz13_2 := cz BK742 2; have hcz13_3 := cz BK742 3; have hfz13_0 := blk_frozen BK742.out 0; have hfz13_1 := blk_frozen BK742.out 1; have hfz13_2 := blk_frozen BK742.out 2; have hfz13_3 := blk_frozen BK742.out 3) | ((with_reducible refine gate_callee (f := 11) rfl ?_); refine gL (some 5) Tryz.func11 #[.agg #[.int .i64 a0_0, .int .i64 a0_1, .int .i64 a0_2, .int .i64 a0_3]] ?_; (with_reducible refine (impl_ActOk.calls k a0_0 a0_1 a0_2 a0_3 true _ A2.out).mono ?_); rintro e w14 ⟨rfl, hb⟩; refine ⟨_, rfl, ?_⟩; have n0_ := A_ (bb BK742 hb); have n1_ := A_ (below_step (oB HB) hb); clear BK742; clear HB; have BK742 := n0_; have HB := n1_; clear n0_ n1_; (try clear hb); (try clear hb2); (try clear hk); (try clear hi); have hcz15_0 := cz BK742 0; have hcz15_1 := cz BK742 1; have hcz15_2 := cz BK742 2; have hcz15_3 := cz BK742 3; have hfz15_0 := blk_frozen BK742.out 0; have hfz15_1 := blk_frozen BK742.out 1; have hfz15_2 := blk_frozen BK742.out 2; have hfz15_3 := blk_frozen BK742.out 3) | ((with_reducible refine gate_dst (N := 15) rfl ?_); refine Kd.R_lit (Kd.int .i64) _ 3 ?hg (N := 15) ?hd (xs := ([a0_1] : List Int)) (inner := [.int .i64 a0_1]) (ok := fun _ => True) (okp := fun _ => True) ?hr ?hp (fun _ hk => hk) trivial (Below.refl _ _) (Nat.le_refl _) (by simp) ?_; (case hd => rfl); (case hg => rfl); (case hr => first | (go_simp; done) | (go_simp; rfl)); (case hp => exact (Reps.one (show Kd.M (Kd.int .i64) _ _ _ a0_1 [.int .i64 a0_1] from rfl) (Reps.none _ _))); intro v745 w16 ho17 hb hg_ hnew_; clear hg_ hnew_; (first | rw [← Ny744.out] at ho17 | (simp only [Int.reduceToNat] at ho17; rw [← Ny744.out] at ho17)); have n0_ := A_ (Kd.R_lower ho17 (below_size (oB HB))); have n1_ := A_ (bb BK742 hb); have n2_ := A_ (below_step (oB HB) hb); clear BK742; clear HB; have HO746 := n0_; have BK742 := n1_; have HB := n2_; clear n0_ n1_ n2_; clear hb ho17; obtain ⟨Ao18, co18, eo18⟩ := Kd.R_slice HO746.out; subst eo18) | ((with_reducible refine gate_callee (f := 12) rfl ?_); refine gL (some 16) Tryz.func12 #[.slice Ao18 y744.length co18] ?_; (with_reducible refine (impl_words.calls k _ _ y744 t747 _ ?side1 ?side2 A10.out ?sideT).mono ?_); (case sideT => exact ⟨tab_on ht_.out (oB HB)⟩); (case side1 => repeat (first | exact (Kd.R_reads' HO746.out).2.2 | (with_reducible refine Kd.C_alloc ?_ _) | (with_reducible refine Kd.C_drewN ?_ _) | (with_reducible refine Kd.C_drew ?_))); (case side2 => exact (Kd.R_reads' HO746.out).2.1); rintro e w19 ⟨rfl, hb⟩; refine ⟨_, rfl, ?_⟩; have n0_ := A_ (Kd.R_below (oR HO746) hb); have n1_ := A_ (bb BK742 hb); have n2_ := A_ (below_step (oB HB) hb); clear HO746; clear BK742; clear HB; have HO746 := n0_; have BK742 := n1_; have HB := n2_; clear n0_ n1_ n2_; (try clear hb); (try clear hb2); (try clear hk); (try clear hi)))
          go_ret2
          exact ⟨eR, oB HB⟩
        · rw [if_neg c11] at H
          exact absurd H (by simp)
      · rw [if_neg c9] at H
        have c9b0 : (a0_0 == 2) = false := beq_eq_false_iff_ne.mpr c9
        have c9b1 : (a0_0 != 2) = true := bne_iff_ne.mpr c9
        by_cases c20 : a0_0 = 3
        · rw [if_pos c20] at H
          have c20b0 : (a0_0 == 3) = true := beq_iff_eq.mpr c20
          have c20b1 : (a0_0 != 3) = false := bne_eq_false_iff_eq.mpr c20
          clear c20
          obtain ⟨y748, hy748⟩ : ∃ y_ : List Int, y_ = (([a0_1, a0_2, a0_3] : List Int)) := ⟨_, rfl⟩
          replace H : ((impl_words.f k y748).bind fun t751 => (if 6 + t751.size ≤ 9223372036854775807 then (some ((⟨#[102, 97, 117, 108, 116, 32]⟩ : ByteArray) ++ t751, true)) else (none))) = some (r1, r2) := by first | (rw [hy748]; with_reducible exact H) | (have H2_ := (Option.bind_some _ _).symm.trans H; rw [hy748]; with_reducible exact H2_) | (have H2_ := (Option.bind_some _ _).symm.trans H; with_reducible exact H2_) | with_reducible exact H | (rw [hy748]; exact H) | exact H
          have Ny748 := A_ hy748
          clear hy748
          replace H := Option.bind_eq_some_iff.mp H
          obtain ⟨t751, A210, H⟩ := H
          (try dsimp only at H)
          have A21 := A_ A210
          clear A210
          by_cases c22 : 6 + t751.size ≤ 9223372036854775807
          · rw [if_pos c22] at H
            have c22b0 := eq_true c22
            have c22b1 : decide (6 + t751.size ≤ 9223372036854775807) = true := decide_eq_true c22
            try have c22b2 : (9223372036854775807 < 6 + t751.size) = False := eq_false (Nat.not_lt.2 c22)
            simp only [Option.some.injEq, Prod.mk.injEq] at H
            obtain ⟨rfl, rfl⟩ := H
            go_enter Tryz.func6, Tryz.ntmps6
            go_wp2_with (first | ((with_reducible refine gate_dst (N := 1) rfl ?_); refine bX (N := 1) (cs := #[.int .i64 a0_0, .int .i64 a0_1, .int .i64 a0_2, .int .i64 a0_3]) (t := 37) ?_; intro gb742 hg w23 hbox hb; have n0_ := A_ (below_step (oB HB) hb); have n1_ := A_ (hbox); have n2_ := A_ ((by rw [hg]; exact (below_size (oB HB)) : w.heap.size ≤ gb742)); have n3_ := A_ ((by rw [hg]; exact (below_size (oB HB)) : w.heap.size ≤ gb742)); clear HB; have HB := n0_; have BK742 := n1_; have GW742 := n2_; have GE742 := n3_; clear n0_ n1_ n2_ n3_; clear hb hbox hg; have hcz24_0 := cz BK742 0; have hcz24_1 := cz BK742 1; have hcz24_2 := cz BK742 2; have hcz24_3 := cz BK742 3; have hfz24_0 := blk_frozen BK742.out 0; have hfz24_1 := blk_frozen BK742.out 1; have hfz24_2 := blk_frozen BK742.out 2; have hfz24_3 := blk_frozen BK742.out 3) | ((with_reducible refine gate_callee (f := 11) rfl ?_); refine gL (some 5) Tryz.func11 #[.agg #[.int .i64 a0_0, .int .i64 a0_1, .int .i64 a0_2, .int .i64 a0_3]] ?_; (with_reducible refine (impl_ActOk.calls k a0_0 a0_1 a0_2 a0_3 true _ A2.out).mono ?_); rintro e w25 ⟨rfl, hb⟩; refine ⟨_, rfl, ?_⟩; have n0_ := A_ (bb BK742 hb); have n1_ := A_ (below_step (oB HB) hb); clear BK742; clear HB; have BK742 := n0_; have HB := n1_; clear n0_ n1_; (try clear hb); (try clear hb2); (try clear hk); (try clear hi); have hcz26_0 := cz BK742 0; have hcz26_1 := cz BK742 1; have hcz26_2 := cz BK742 2; have hcz26_3 := cz BK742 3; have hfz26_0 := blk_frozen BK742.out 0; have hfz26_1 := blk_frozen BK742.out 1; have hfz26_2 := blk_frozen BK742.out 2; have hfz26_3 := blk_frozen BK742.out 3) | ((with_reducible refine gate_dst (N := 26) rfl ?_); refine Kd.R_lit (Kd.int .i64) _ 3 ?hg (N := 26) ?hd (xs := ([a0_1, a0_2, a0_3] : List Int)) (inner := [.int .i64 a0_1, .int .i64 a0_2, .int .i64 a0_3]) (ok := fun _ => True) (okp := fun _ => True) ?hr ?hp (fun _ hk => hk) trivial (Below.refl _ _) (Nat.le_refl _) (by simp) ?_; (case hd => rfl); (case hg => rfl); (case hr => first | (go_simp; done) | (go_simp; rfl)); (case hp => exact (Reps.one (show Kd.M (Kd.int .i64) _ _ _ a0_1 [.int .i64 a0_1] from rfl) (Reps.one (show Kd.M (Kd.int .i64) _ _ _ a0_2 [.int .i64 a0_2] from rfl) (Reps.one (show Kd.M (Kd.int .i64) _ _ _ a0_3 [.int .i64 a0_3] from rfl) (Reps.none _ _))))); intro v749 w27 ho28 hb hg_ hnew_; clear hg_ hnew_; (first | rw [← Ny748.out] at ho28 | (simp only [Int.reduceToNat] at ho28; rw [← Ny748.out] at ho28)); have n0_ := A_ (Kd.R_lower ho28 (below_size (oB HB))); have n1_ := A_ (bb BK742 hb); have n2_ := A_ (below_step (oB HB) hb); clear BK742; clear HB; have HO750 := n0_; have BK742 := n1_; have HB := n2_; clear n0_ n1_ n2_; clear hb ho28; obtain ⟨Ao29, co29, eo29⟩ := Kd.R_slice HO750.out; subst eo29) | ((with_reducible refine gate_callee (f := 12) rfl ?_); refine gL (some 27) Tryz.func12 #[.slice Ao29 y748.length co29] ?_; (with_reducible refine (impl_words.calls k _ _ y748 t751 _ ?side1 ?side2 A21.out ?sideT).mono ?_); (case sideT => exact ⟨tab_on ht_.out (oB HB)⟩); (case side1 => repeat (first | exact (Kd.R_reads' HO750.out).2.2 | (with_reducible refine Kd.C_alloc ?_ _) | (with_reducible refine Kd.C_drewN ?_ _) | (with_reducible refine Kd.C_drew ?_))); (case side2 => exact (Kd.R_reads' HO750.out).2.1); rintro e w30 ⟨rfl, hb⟩; refine ⟨_, rfl, ?_⟩; have n0_ := A_ (Kd.R_below (oR HO750) hb); have n1_ := A_ (bb BK742 hb); have n2_ := A_ (below_step (oB HB) hb); clear HO750; clear BK742; clear HB; have HO750 := n0_; have BK742 := n1_; have HB := n2_; clear n0_ n1_ n2_; (try clear hb); (try clear hb2); (try clear hk); (try clear hi)))
            go_ret2
            exact ⟨eR, oB HB⟩
          · rw [if_neg c22] at H
            exact absurd H (by simp)
        · rw [if_neg c20] at H
          have c20b0 : (a0_0 == 3) = false := beq_eq_false_iff_ne.mpr c20
          have c20b1 : (a0_0 != 3) = true := bne_iff_ne.mpr c20
          by_cases c31 : a0_0 = 4
          · rw [if_pos c31] at H
            have c31b0 : (a0_0 == 4) = true := beq_iff_eq.mpr c31
            have c31b1 : (a0_0 != 4) = false := bne_eq_false_iff_eq.mpr c31
            clear c31
            obtain ⟨y752, hy752⟩ : ∃ y_ : List Int, y_ = (([a0_1, a0_2] : List Int)) := ⟨_, rfl⟩
            replace H : ((impl_words.f k y752).bind fun t755 => (if 6 + t755.size ≤ 9223372036854775807 then (some ((⟨#[107, 110, 111, 99, 107, 32]⟩ : ByteArray) ++ t755, true)) else (none))) = some (r1, r2) := by first | (rw [hy752]; with_reducible exact H) | (have H2_ := (Option.bind_some _ _).symm.trans H; rw [hy752]; with_reducible exact H2_) | (have H2_ := (Option.bind_some _ _).symm.trans H; with_reducible exact H2_) | with_reducible exact H | (rw [hy752]; exact H) | exact H
            have Ny752 := A_ hy752
            clear hy752
            replace H := Option.bind_eq_some_iff.mp H
            obtain ⟨t755, A320, H⟩ := H
            (try dsimp only at H)
            have A32 := A_ A320
            clear A320
            by_cases c33 : 6 + t755.size ≤ 9223372036854775807
            · rw [if_pos c33] at H
              have c33b0 := eq_true c33
              have c33b1 : decide (6 + t755.size ≤ 9223372036854775807) = true := decide_eq_true c33
              try have c33b2 : (9223372036854775807 < 6 + t755.size) = False := eq_false (Nat.not_lt.2 c33)
              simp only [Option.some.injEq, Prod.mk.injEq] at H
              obtain ⟨rfl, rfl⟩ := H
              go_enter Tryz.func6, Tryz.ntmps6
              go_wp2_with (first | ((with_reducible refine gate_dst (N := 1) rfl ?_); refine bX (N := 1) (cs := #[.int .i64 a0_0, .int .i64 a0_1, .int .i64 a0_2, .int .i64 a0_3]) (t := 37) ?_; intro gb742 hg w34 hbox hb; have n0_ := A_ (below_step (oB HB) hb); have n1_ := A_ (hbox); have n2_ := A_ ((by rw [hg]; exact (below_size (oB HB)) : w.heap.size ≤ gb742)); have n3_ := A_ ((by rw [hg]; exact (below_size (oB HB)) : w.heap.size ≤ gb742)); clear HB; have HB := n0_; have BK742 := n1_; have GW742 := n2_; have GE742 := n3_; clear n0_ n1_ n2_ n3_; clear hb hbox hg; have hcz35_0 := cz BK742 0; have hcz35_1 := cz BK742 1; have hcz35_2 := cz BK742 2; have hcz35_3 := cz BK742 3; have hfz35_0 := blk_frozen BK742.out 0; have hfz35_1 := blk_frozen BK742.out 1; have hfz35_2 := blk_frozen BK742.out 2; have hfz35_3 := blk_frozen BK742.out 3) | ((with_reducible refine gate_callee (f := 11) rfl ?_); refine gL (some 5) Tryz.func11 #[.agg #[.int .i64 a0_0, .int .i64 a0_1, .int .i64 a0_2, .int .i64 a0_3]] ?_; (with_reducible refine (impl_ActOk.calls k a0_0 a0_1 a0_2 a0_3 true _ A2.out).mono ?_); rintro e w36 ⟨rfl, hb⟩; refine ⟨_, rfl, ?_⟩; have n0_ := A_ (bb BK742 hb); have n1_ := A_ (below_step (oB HB) hb); clear BK742; clear HB; have BK742 := n0_; have HB := n1_; clear n0_ n1_; (try clear hb); (try clear hb2); (try clear hk); (try clear hi); have hcz37_0 := cz BK742 0; have hcz37_1 := cz BK742 1; have hcz37_2 := cz BK742 2; have hcz37_3 := cz BK742 3; have hfz37_0 := blk_frozen BK742.out 0; have hfz37_1 := blk_frozen BK742.out 1; have hfz37_2 := blk_frozen BK742.out 2; have hfz37_3 := blk_frozen BK742.out 3) | ((with_reducible refine gate_dst (N := 35) rfl ?_); refine Kd.R_lit (Kd.int .i64) _ 3 ?hg (N := 35) ?hd (xs := ([a0_1, a0_2] : List Int)) (inner := [.int .i64 a0_1, .int .i64 a0_2]) (ok := fun _ => True) (okp := fun _ => True) ?hr ?hp (fun _ hk => hk) trivial (Below.refl _ _) (Nat.le_refl _) (by simp) ?_; (case hd => rfl); (case hg => rfl); (case hr => first | (go_simp; done) | (go_simp; rfl)); (case hp => exact (Reps.one (show Kd.M (Kd.int .i64) _ _ _ a0_1 [.int .i64 a0_1] from rfl) (Reps.one (show Kd.M (Kd.int .i64) _ _ _ a0_2 [.int .i64 a0_2] from rfl) (Reps.none _ _)))); intro v753 w38 ho39 hb hg_ hnew_; clear hg_ hnew_; (first | rw [← Ny752.out] at ho39 | (simp only [Int.reduceToNat] at ho39; rw [← Ny752.out] at ho39)); have n0_ := A_ (Kd.R_lower ho39 (below_size (oB HB))); have n1_ := A_ (bb BK742 hb); have n2_ := A_ (below_step (oB HB) hb); clear BK742; clear HB; have HO754 := n0_; have BK742 := n1_; have HB := n2_; clear n0_ n1_ n2_; clear hb ho39; obtain ⟨Ao40, co40, eo40⟩ := Kd.R_slice HO754.out; subst eo40) | ((with_reducible refine gate_callee (f := 12) rfl ?_); refine gL (some 36) Tryz.func12 #[.slice Ao40 y752.length co40] ?_; (with_reducible refine (impl_words.calls k _ _ y752 t755 _ ?side1 ?side2 A32.out ?sideT).mono ?_); (case sideT => exact ⟨tab_on ht_.out (oB HB)⟩); (case side1 => repeat (first | exact (Kd.R_reads' HO754.out).2.2 | (with_reducible refine Kd.C_alloc ?_ _) | (with_reducible refine Kd.C_drewN ?_ _) | (with_reducible refine Kd.C_drew ?_))); (case side2 => exact (Kd.R_reads' HO754.out).2.1); rintro e w41 ⟨rfl, hb⟩; refine ⟨_, rfl, ?_⟩; have n0_ := A_ (Kd.R_below (oR HO754) hb); have n1_ := A_ (bb BK742 hb); have n2_ := A_ (below_step (oB HB) hb); clear HO754; clear BK742; clear HB; have HO754 := n0_; have BK742 := n1_; have HB := n2_; clear n0_ n1_ n2_; (try clear hb); (try clear hb2); (try clear hk); (try clear hi)))
              go_ret2
              exact ⟨eR, oB HB⟩
            · rw [if_neg c33] at H
              exact absurd H (by simp)
          · rw [if_neg c31] at H
            have c31b0 : (a0_0 == 4) = false := beq_eq_false_iff_ne.mpr c31
            have c31b1 : (a0_0 != 4) = true := bne_iff_ne.mpr c31
            by_cases c42 : a0_0 = 5
            · rw [if_pos c42] at H
              have c42b0 : (a0_0 == 5) = true := beq_iff_eq.mpr c42
              have c42b1 : (a0_0 != 5) = false := bne_eq_false_iff_eq.mpr c42
              clear c42
              simp only [Option.some.injEq, Prod.mk.injEq] at H
              obtain ⟨rfl, rfl⟩ := H
              go_enter Tryz.func6, Tryz.ntmps6
              go_wp2_with (first | ((with_reducible refine gate_dst (N := 1) rfl ?_); refine bX (N := 1) (cs := #[.int .i64 a0_0, .int .i64 a0_1, .int .i64 a0_2, .int .i64 a0_3]) (t := 37) ?_; intro gb742 hg w43 hbox hb; have n0_ := A_ (below_step (oB HB) hb); have n1_ := A_ (hbox); have n2_ := A_ ((by rw [hg]; exact (below_size (oB HB)) : w.heap.size ≤ gb742)); have n3_ := A_ ((by rw [hg]; exact (below_size (oB HB)) : w.heap.size ≤ gb742)); clear HB; have HB := n0_; have BK742 := n1_; have GW742 := n2_; have GE742 := n3_; clear n0_ n1_ n2_ n3_; clear hb hbox hg; have hcz44_0 := cz BK742 0; have hcz44_1 := cz BK742 1; have hcz44_2 := cz BK742 2; have hcz44_3 := cz BK742 3; have hfz44_0 := blk_frozen BK742.out 0; have hfz44_1 := blk_frozen BK742.out 1; have hfz44_2 := blk_frozen BK742.out 2; have hfz44_3 := blk_frozen BK742.out 3) | ((with_reducible refine gate_callee (f := 11) rfl ?_); refine gL (some 5) Tryz.func11 #[.agg #[.int .i64 a0_0, .int .i64 a0_1, .int .i64 a0_2, .int .i64 a0_3]] ?_; (with_reducible refine (impl_ActOk.calls k a0_0 a0_1 a0_2 a0_3 true _ A2.out).mono ?_); rintro e w45 ⟨rfl, hb⟩; refine ⟨_, rfl, ?_⟩; have n0_ := A_ (bb BK742 hb); have n1_ := A_ (below_step (oB HB) hb); clear BK742; clear HB; have BK742 := n0_; have HB := n1_; clear n0_ n1_; (try clear hb); (try clear hb2); (try clear hk); (try clear hi); have hcz46_0 := cz BK742 0; have hcz46_1 := cz BK742 1; have hcz46_2 := cz BK742 2; have hcz46_3 := cz BK742 3; have hfz46_0 := blk_frozen BK742.out 0; have hfz46_1 := blk_frozen BK742.out 1; have hfz46_2 := blk_frozen BK742.out 2; have hfz46_3 := blk_frozen BK742.out 3))
              go_ret2
              exact ⟨eR, oB HB⟩
            · rw [if_neg c42] at H
              have c42b0 : (a0_0 == 5) = false := beq_eq_false_iff_ne.mpr c42
              have c42b1 : (a0_0 != 5) = true := bne_iff_ne.mpr c42
              by_cases c47 : a0_0 = 6
              · rw [if_pos c47] at H
                have c47b0 : (a0_0 == 6) = true := beq_iff_eq.mpr c47
                have c47b1 : (a0_0 != 6) = false := bne_eq_false_iff_eq.mpr c47
                clear c47
                simp only [Option.some.injEq, Prod.mk.injEq] at H
                obtain ⟨rfl, rfl⟩ := H
                go_enter Tryz.func6, Tryz.ntmps6
                go_wp2_with (first | ((with_reducible refine gate_dst (N := 1) rfl ?_); refine bX (N := 1) (cs := #[.int .i64 a0_0, .int .i64 a0_1, .int .i64 a0_2, .int .i64 a0_3]) (t := 37) ?_; intro gb742 hg w48 hbox hb; have n0_ := A_ (below_step (oB HB) hb); have n1_ := A_ (hbox); have n2_ := A_ ((by rw [hg]; exact (below_size (oB HB)) : w.heap.size ≤ gb742)); have n3_ := A_ ((by rw [hg]; exact (below_size (oB HB)) : w.heap.size ≤ gb742)); clear HB; have HB := n0_; have BK742 := n1_; have GW742 := n2_; have GE742 := n3_; clear n0_ n1_ n2_ n3_; clear hb hbox hg; have hcz49_0 := cz BK742 0; have hcz49_1 := cz BK742 1; have hcz49_2 := cz BK742 2; have hcz49_3 := cz BK742 3; have hfz49_0 := blk_frozen BK742.out 0; have hfz49_1 := blk_frozen BK742.out 1; have hfz49_2 := blk_frozen BK742.out 2; have hfz49_3 := blk_frozen BK742.out 3) | ((with_reducible refine gate_callee (f := 11) rfl ?_); refine gL (some 5) Tryz.func11 #[.agg #[.int .i64 a0_0, .int .i64 a0_1, .int .i64 a0_2, .int .i64 a0_3]] ?_; (with_reducible refine (impl_ActOk.calls k a0_0 a0_1 a0_2 a0_3 true _ A2.out).mono ?_); rintro e w50 ⟨rfl, hb⟩; refine ⟨_, rfl, ?_⟩; have n0_ := A_ (bb BK742 hb); have n1_ := A_ (below_step (oB HB) hb); clear BK742; clear HB; have BK742 := n0_; have HB := n1_; clear n0_ n1_; (try clear hb); (try clear hb2); (try clear hk); (try clear hi); have hcz51_0 := cz BK742 0; have hcz51_1 := cz BK742 1; have hcz51_2 := cz BK742 2; have hcz51_3 := cz BK742 3; have hfz51_0 := blk_frozen BK742.out 0; have hfz51_1 := blk_frozen BK742.out 1; have hfz51_2 := blk_frozen BK742.out 2; have hfz51_3 := blk_frozen BK742.out 3))
                go_ret2
                exact ⟨eR, oB HB⟩
              · rw [if_neg c47] at H
                have c47b0 : (a0_0 == 6) = false := beq_eq_false_iff_ne.mpr c47
                have c47b1 : (a0_0 != 6) = true := bne_iff_ne.mpr c47
                obtain ⟨y756, hy756⟩ : ∃ y_ : List Int, y_ = (([a0_1] : List Int)) := ⟨_, rfl⟩
                replace H : ((impl_words.f k y756).bind fun t759 => (if 6 + t759.size ≤ 9223372036854775807 then (some ((⟨#[104, 101, 97, 114, 100, 32]⟩ : ByteArray) ++ t759, true)) else (none))) = some (r1, r2) := by first | (rw [hy756]; with_reducible exact H) | (have H2_ := (Option.bind_some _ _).symm.trans H; rw [hy756]; with_reducible exact H2_) | (have H2_ := (Option.bind_some _ _).symm.trans H; with_reducible exact H2_) | with_reducible exact H | (rw [hy756]; exact H) | exact H
                have Ny756 := A_ hy756
                clear hy756
                replace H := Option.bind_eq_some_iff.mp H
                obtain ⟨t759, A520, H⟩ := H
                (try dsimp only at H)
                have A52 := A_ A520
                clear A520
                by_cases c53 : 6 + t759.size ≤ 9223372036854775807
                · rw [if_pos c53] at H
                  have c53b0 := eq_true c53
                  have c53b1 : decide (6 + t759.size ≤ 9223372036854775807) = true := decide_eq_true c53
                  try have c53b2 : (9223372036854775807 < 6 + t759.size) = False := eq_false (Nat.not_lt.2 c53)
                  simp only [Option.some.injEq, Prod.mk.injEq] at H
                  obtain ⟨rfl, rfl⟩ := H
                  go_enter Tryz.func6, Tryz.ntmps6
                  go_wp2_with (first | ((with_reducible refine gate_dst (N := 1) rfl ?_); refine bX (N := 1) (cs := #[.int .i64 a0_0, .int .i64 a0_1, .int .i64 a0_2, .int .i64 a0_3]) (t := 37) ?_; intro gb742 hg w54 hbox hb; have n0_ := A_ (below_step (oB HB) hb); have n1_ := A_ (hbox); have n2_ := A_ ((by rw [hg]; exact (below_size (oB HB)) : w.heap.size ≤ gb742)); have n3_ := A_ ((by rw [hg]; exact (below_size (oB HB)) : w.heap.size ≤ gb742)); clear HB; have HB := n0_; have BK742 := n1_; have GW742 := n2_; have GE742 := n3_; clear n0_ n1_ n2_ n3_; clear hb hbox hg; have hcz55_0 := cz BK742 0; have hcz55_1 := cz BK742 1; have hcz55_2 := cz BK742 2; have hcz55_3 := cz BK742 3; have hfz55_0 := blk_frozen BK742.out 0; have hfz55_1 := blk_frozen BK742.out 1; have hfz55_2 := blk_frozen BK742.out 2; have hfz55_3 := blk_frozen BK742.out 3) | ((with_reducible refine gate_callee (f := 11) rfl ?_); refine gL (some 5) Tryz.func11 #[.agg #[.int .i64 a0_0, .int .i64 a0_1, .int .i64 a0_2, .int .i64 a0_3]] ?_; (with_reducible refine (impl_ActOk.calls k a0_0 a0_1 a0_2 a0_3 true _ A2.out).mono ?_); rintro e w56 ⟨rfl, hb⟩; refine ⟨_, rfl, ?_⟩; have n0_ := A_ (bb BK742 hb); have n1_ := A_ (below_step (oB HB) hb); clear BK742; clear HB; have BK742 := n0_; have HB := n1_; clear n0_ n1_; (try clear hb); (try clear hb2); (try clear hk); (try clear hi); have hcz57_0 := cz BK742 0; have hcz57_1 := cz BK742 1; have hcz57_2 := cz BK742 2; have hcz57_3 := cz BK742 3; have hfz57_0 := blk_frozen BK742.out 0; have hfz57_1 := blk_frozen BK742.out 1; have hfz57_2 := blk_frozen BK742.out 2; have hfz57_3 := blk_frozen BK742.out 3) | ((with_reducible refine gate_dst (N := 44) rfl ?_); refine Kd.R_lit (Kd.int .i64) _ 3 ?hg (N := 44) ?hd (xs := ([a0_1] : List Int)) (inner := [.int .i64 a0_1]) (ok := fun _ => True) (okp := fun _ => True) ?hr ?hp (fun _ hk => hk) trivial (Below.refl _ _) (Nat.le_refl _) (by simp) ?_; (case hd => rfl); (case hg => rfl); (case hr => first | (go_simp; done) | (go_simp; rfl)); (case hp => exact (Reps.one (show Kd.M (Kd.int .i64) _ _ _ a0_1 [.int .i64 a0_1] from rfl) (Reps.none _ _))); intro v757 w58 ho59 hb hg_ hnew_; clear hg_ hnew_; (first | rw [← Ny756.out] at ho59 | (simp only [Int.reduceToNat] at ho59; rw [← Ny756.out] at ho59)); have n0_ := A_ (Kd.R_lower ho59 (below_size (oB HB))); have n1_ := A_ (bb BK742 hb); have n2_ := A_ (below_step (oB HB) hb); clear BK742; clear HB; have HO758 := n0_; have BK742 := n1_; have HB := n2_; clear n0_ n1_ n2_; clear hb ho59; obtain ⟨Ao60, co60, eo60⟩ := Kd.R_slice HO758.out; subst eo60) | ((with_reducible refine gate_callee (f := 12) rfl ?_); refine gL (some 45) Tryz.func12 #[.slice Ao60 y756.length co60] ?_; (with_reducible refine (impl_words.calls k _ _ y756 t759 _ ?side1 ?side2 A52.out ?sideT).mono ?_); (case sideT => exact ⟨tab_on ht_.out (oB HB)⟩); (case side1 => repeat (first | exact (Kd.R_reads' HO758.out).2.2 | (with_reducible refine Kd.C_alloc ?_ _) | (with_reducible refine Kd.C_drewN ?_ _) | (with_reducible refine Kd.C_drew ?_))); (case side2 => exact (Kd.R_reads' HO758.out).2.1); rintro e w61 ⟨rfl, hb⟩; refine ⟨_, rfl, ?_⟩; have n0_ := A_ (Kd.R_below (oR HO758) hb); have n1_ := A_ (bb BK742 hb); have n2_ := A_ (below_step (oB HB) hb); clear HO758; clear BK742; clear HB; have HO758 := n0_; have BK742 := n1_; have HB := n2_; clear n0_ n1_ n2_; (try clear hb); (try clear hb2); (try clear hk); (try clear hi)))
                  go_ret2
                  exact ⟨eR, oB HB⟩
                · rw [if_neg c53] at H
                  exact absurd H (by simp)
  · replace c3 := Bool.eq_false_iff.mpr c3
    subst c3
    rw [if_neg (show ¬ (false = true) by decide)] at H
    simp only [Option.some.injEq, Prod.mk.injEq] at H
    obtain ⟨rfl, rfl⟩ := H
    go_enter Tryz.func6, Tryz.ntmps6
    go_wp2_with (first | ((with_reducible refine gate_dst (N := 1) rfl ?_); refine bX (N := 1) (cs := #[.int .i64 a0_0, .int .i64 a0_1, .int .i64 a0_2, .int .i64 a0_3]) (t := 37) ?_; intro gb742 hg w62 hbox hb; have n0_ := A_ (below_step (oB HB) hb); have n1_ := A_ (hbox); have n2_ := A_ ((by rw [hg]; exact (below_size (oB HB)) : w.heap.size ≤ gb742)); have n3_ := A_ ((by rw [hg]; exact (below_size (oB HB)) : w.heap.size ≤ gb742)); clear HB; have HB := n0_; have BK742 := n1_; have GW742 := n2_; have GE742 := n3_; clear n0_ n1_ n2_ n3_; clear hb hbox hg; have hcz63_0 := cz BK742 0; have hcz63_1 := cz BK742 1; have hcz63_2 := cz BK742 2; have hcz63_3 := cz BK742 3; have hfz63_0 := blk_frozen BK742.out 0; have hfz63_1 := blk_frozen BK742.out 1; have hfz63_2 := blk_frozen BK742.out 2; have hfz63_3 := blk_frozen BK742.out 3) | ((with_reducible refine gate_callee (f := 11) rfl ?_); refine gL (some 5) Tryz.func11 #[.agg #[.int .i64 a0_0, .int .i64 a0_1, .int .i64 a0_2, .int .i64 a0_3]] ?_; (with_reducible refine (impl_ActOk.calls k a0_0 a0_1 a0_2 a0_3 false _ A2.out).mono ?_); rintro e w64 ⟨rfl, hb⟩; refine ⟨_, rfl, ?_⟩; have n0_ := A_ (bb BK742 hb); have n1_ := A_ (below_step (oB HB) hb); clear BK742; clear HB; have BK742 := n0_; have HB := n1_; clear n0_ n1_; (try clear hb); (try clear hb2); (try clear hk); (try clear hi)))
    go_ret2
    exact ⟨eR, oB HB⟩
end Go.Proofs.YtojiighpkppckaaGreatDoor.P


namespace Go.Proofs.YtojiighpkppckaaGreatDoor.P
open Go.Shelf Go.RowKit Go.Lib Go.Proofs.YtojiighpkppckaaGreatDoorW.PrintWords
theorem index_one_ (c : UInt8) : ∀ l : List UInt8, Go.Lib.index l [c] = Go.Lib.indexByte l c
  | [] => rfl
  | b :: l => by
    rw [Go.Lib.index, Go.Lib.indexByte, index_one_ c l]
    have e : [c].isPrefixOf (b :: l) = (b == c) := by
      show (c == b && true) = _
      rw [Bool.and_true, Bool.eq_iff_iff, beq_iff_eq, beq_iff_eq]
      exact eq_comm
    rw [e]
set_option maxHeartbeats 1000000 in
theorem split_any {P : Program} {ρ : Ren} (L : Lays.n146 P ρ) (hi9 : (P.info? (ρ.t 9)).map (fun i => (i.zero, i.size, i.bytes)) = some (some (.string ByteArray.empty), 1, 16)) (s : ByteArray) (b : UInt8) (w : World) (hs : s.size < 4294967281) :
    Calls P (ρ.f 146) #[.string s, .string ⟨#[b]⟩] w fun e w' =>
      e = .returned (.slice (some ⟨w.heap.size, 0, none⟩) (Go.Lib.countB s ⟨#[b]⟩ + 1) (Go.Lib.countB s ⟨#[b]⟩ + 1)) ∧ w' = w.alloc (.cells ((Go.Lib.splitB ⟨#[b]⟩ 0 (Go.Lib.countB s ⟨#[b]⟩) s).map Value.string).toArray (ρ.t 9)) := by
  have h1 : 1 ≤ (⟨#[b]⟩ : ByteArray).size := Nat.le_refl 1
  have hle := Go.Lib.countB_le ⟨#[b]⟩ h1 s.size s (Nat.le_refl _)
  have hlen := Go.Lib.splitB_all ⟨#[b]⟩ h1 0 _ s rfl
  have cI : ∀ (x : ByteArray) (c : Array Value), x.size ≤ s.size → Calls P (ρ.f 143) #[.string x, .string ⟨#[b]⟩] (w.alloc (.cells c (ρ.t 9))) fun e w' => e = .returned (.int .i64 (Go.Lib.indexB x ⟨#[b]⟩)) ∧ w' = w.alloc (.cells c (ρ.t 9)) := fun x c _ =>
    (Any.strings_Index_one { L with } x b _).mono fun e w' ⟨he, hw⟩ => ⟨by rw [he, ← index_one_], hw⟩
  have cC : Calls P (ρ.f 138) #[.string s, .string ⟨#[b]⟩] w fun e w' => e = .returned (.int .i64 (Go.Lib.countB s ⟨#[b]⟩)) ∧ w' = w := by
    refine (Any.strings_Count_one { L with } s b w).mono fun e w' ⟨he, hw⟩ => ⟨?_, hw⟩
    rw [he]
    show _ = Ending.returned (Value.int .i64 ((Go.Lib.count s.data.toList [b] : Nat) : Int))
    rw [Go.Lib.count_one]
    rfl
  have c := Any.strings_genSplit_core { L with } hi9 s ⟨#[b]⟩ 0 (-1) (Go.Lib.countB s ⟨#[b]⟩ + 1) w hs h1 (Nat.zero_le _) cI cC (by decide) (by decide) (by rw [if_pos (by decide)]; omega)
  rw [Nat.add_sub_cancel, hlen] at c
  have e2 : Go.Lib.cellsOf (Go.Lib.splitB ⟨#[b]⟩ 0 (Go.Lib.countB s ⟨#[b]⟩) s) (Go.Lib.countB s ⟨#[b]⟩ + 1) = ((Go.Lib.splitB ⟨#[b]⟩ 0 (Go.Lib.countB s ⟨#[b]⟩) s).map Value.string).toArray := by rw [← hlen]; exact Go.Lib.cellsOf_full _
  rw [e2] at c
  have t3 := L.t3; have t9 := L.t9; have t31 := L.t31
  have a3 := L.a3; have a9 := L.a9; have a31 := L.a31
  have z3 := L.z3; have v3 := L.v3; have z9 := L.z9; have v9 := L.v9; have z31 := L.z31; have v31 := L.v31
  have e221 : ∀ args w, (callFunc (ρ.f 221) args).run P w = .ok (.enter (ρ.f 221) args) w := enters_of L.f221 (by kernel_rfl) rfl
  go_enter L.f146, Body.n146_ntmps ρ
  go_wp2_with (go_at_fn (ρ.f 221); refine c.mono ?_; rintro e w' ⟨rfl, hw⟩; rw [hw])
  go_ret
  exact ⟨rfl, rfl⟩
theorem st146l_ : Lays.n146 Tryz.prog st146_ren := { st146 with }
theorem split_ (s : ByteArray) (b : UInt8) (w : World) (hs : s.size < 4294967281) :
    Calls Tryz.prog 24 #[.string s, .string ⟨#[b]⟩] w fun e w' => ∃ v0_ : Value, e = .returned v0_ ∧ Kd.R Kd.string 9 w' w.heap.size (fun _ => True) v0_ (Go.Lib.splitB ⟨#[b]⟩ 0 (Go.Lib.countB s ⟨#[b]⟩) s) ∧ Below w.heap.size w w' := by
  refine (split_any st146l_ st146.i9 s b w hs).mono ?_
  rintro e w' ⟨rfl, rfl⟩
  have hlen := Go.Lib.splitB_all ⟨#[b]⟩ (Nat.le_refl 1) 0 _ s rfl
  have hle := Go.Lib.countB_le ⟨#[b]⟩ (Nat.le_refl 1) s.size s (Nat.le_refl _)
  refine ⟨_, rfl, Kd.R_of_own ⟨by simp [encs], .inr ⟨w.heap.size, _, _, by rw [hlen], Nat.le_refl _, heap_alloc_new _ _, by omega, ?_, ?_, ?_⟩⟩ (fun _ _ => trivial), below_alloc (Below.refl _ _) _⟩
  · have : maxLen = 9223372036854775807 := by decide
    omega
  · simp [hlen]
  · rw [Nat.mul_one, List.take_of_length_le (by simp [hlen])]
    rfl
end Go.Proofs.YtojiighpkppckaaGreatDoor.P


namespace Go.Proofs.YtojiighpkppckaaGreatDoor.P
open Go.RowKit Go.Proofs.YtojiighpkppckaaGreatDoorW.PrintWords Go.Proofs.YtojiighpkppckaaGreatDoorW.PrintLast Go.Proofs.YtojiighpkppckaaGreatDoorW.PrintMore Go.Proofs.YtojiighpkppckaaGreatDoor.V
attribute [local go_sem] cell_b frozen_b
attribute [local go_sem] max2_int min2_int max_two min_two max_three min_three max_four min_four
set_option linter.unusedVariables false
set_option linter.unusedSimpArgs false
def strings_Split.f (a0 : ByteArray) (a1 : ByteArray) : Option ((List ByteArray)) := if a1.size = 1 ∧ a0.size < 4294967281 then some (Go.Lib.splitB a1 0 (Go.Lib.countB a0 a1) a0) else none
theorem strings_Split.calls (a0 : ByteArray) (a1 : ByteArray) (r : List ByteArray) (w : World) (h : strings_Split.f a0 a1 = some r) :
    Calls Tryz.prog 24 #[.string a0, .string a1] w fun e w' => ∃ v0_ : Value, e = .returned (v0_) ∧ Kd.R Kd.string 9 w' w.heap.size (fun _ => True) v0_ r ∧ Below w.heap.size w w' := by
  unfold strings_Split.f at h
  by_cases hc : a1.size = 1 ∧ a0.size < 4294967281
  rotate_left
  · rw [if_neg hc] at h; cases h
  rw [if_pos hc] at h
  obtain rfl := Option.some.inj h
  obtain ⟨b, rfl⟩ := Go.Lib.one_byte a1 hc.1
  exact split_ a0 b w hc.2
end Go.Proofs.YtojiighpkppckaaGreatDoor.P


namespace Go.Proofs.YtojiighpkppckaaGreatDoor.P
open Go.RowKit Go.Proofs.YtojiighpkppckaaGreatDoorW.PrintWords Go.Proofs.YtojiighpkppckaaGreatDoorW.PrintLast Go.Proofs.YtojiighpkppckaaGreatDoorW.PrintMore
attribute [local go_sem] max2_int min2_int max_two min_two max_three min_three max_four min_four
set_option linter.unusedVariables false
set_option linter.unusedSimpArgs false
mutual
def impl_SplitFields.l0 : Nat → ByteArray → Int → Option (List ByteArray × Bool)
  | 0, _, _ => none
  | k + 1, x0, x4 => if x4 < (x0.size : Int) then (if 0 ≤ x4 then (if (bt x0 x4) < 32 then (some (([] : List ByteArray), false)) else (if (bt x0 x4) > 126 then (some (([] : List ByteArray), false)) else (impl_SplitFields.l0 k x0 (wrap64 (x4 + 1))))) else (none)) else ((strings_Split.f x0 (⟨#[32]⟩ : ByteArray)).bind fun t765 => (impl_SplitFields.l1 k (([] : List ByteArray)) t765 (t765.length : Int) 0))
def impl_SplitFields.l1 : Nat → List ByteArray → List ByteArray → Int → Int → Option (List ByteArray × Bool)
  | 0, _, _, _, _ => none
  | k + 1, x5, x29, x30, x31 => if x31 < x30 then (if 0 ≤ x31 then (if x31 < (x29.length : Int) then (if (rdOf ByteArray.empty x29 x31).toList = ([] : List UInt8) then (impl_SplitFields.l1 k x5 x29 x30 (wrap64 (x31 + 1))) else (if x5.length < 8796093022208 then (impl_SplitFields.l1 k (x5 ++ [rdOf ByteArray.empty x29 x31]) x29 x30 (wrap64 (x31 + 1))) else (none))) else (none)) else (none)) else (if (x5.length : Int) > 24 then (some (([] : List ByteArray), false)) else (some (x5, true)))
end
def impl_SplitFields.f (k : Nat) (a0 : ByteArray) : Option (List ByteArray × Bool) := if (a0.size : Int) > 600 then (some (([] : List ByteArray), false)) else (impl_SplitFields.l0 k a0 0)
set_option maxHeartbeats 8000000 in
set_option maxRecDepth 100000 in
theorem impl_SplitFields.calls (k : Nat) (a0 : ByteArray) (r1 : List ByteArray) (r2 : Bool) (w : World) (h : impl_SplitFields.f k a0 = some (r1, r2)) :
    Calls Tryz.prog 13 #[.string a0] w fun e w' => ∃ v0_ : Value, e = .returned (.tuple #[v0_, .bool r2]) ∧ Kd.R Kd.string 9 w' w.heap.size (fun _ => True) v0_ r1 ∧ Below w.heap.size w w' := by
  have HB := A_ (Below.refl w.heap.size w)
  have H : (if (a0.size : Int) > 600 then (some (([] : List ByteArray), false)) else (impl_SplitFields.l0 k a0 0)) = some (r1, r2) := h
  clear h
  by_cases c2 : (a0.size : Int) > 600
  · rw [if_pos c2] at H
    have c2b0 : decide (600 < (a0.size : Int)) = true := decide_eq_true c2
    have c2b1 : decide (600 < a0.size) = true := decide_eq_true (by omega)
    clear c2
    simp only [Option.some.injEq, Prod.mk.injEq] at H
    obtain ⟨rfl, rfl⟩ := H
    go_enter Tryz.func13, Tryz.ntmps13
    go_wp2
    go_ret2
    exact ⟨_, eR, by first | exact Kd.R_nil _ _ _ _ _ | exact Kd.N_nil _ _ _ _ _ | exact Kd.V_nil _ _ _ _ _ | exact Kd.Q_nil _ _ _ _ _ | exact Kd.S_nil _ _ _ _ _, oB HB⟩
  · rw [if_neg c2] at H
    have c2b0 : decide (600 < (a0.size : Int)) = false := decide_eq_false c2
    have c2b1 : decide (600 < a0.size) = false := decide_eq_false (by omega)
    clear c2
    have H' := A_ H
    clear H
    go_enter Tryz.func13, Tryz.ntmps13
    go_wp2
    go_loopg [4] k (fun kq v4 w' => ∃ (x4_1 : Int), v4 = .int .i64 x4_1 ∧ Aside0 (impl_SplitFields.l0 kq a0 x4_1 = some (r1, r2)) ∧ Aside0 (kq ≤ k) ∧ Aside0 (Below w.heap.size w w'))
    case atStart => exact ⟨(0), (by first | rfl | (simp; done) | (simp [*]; done)), H', ⟨Nat.le_refl _⟩, ⟨oB HB⟩⟩
    case round =>
      clear H'
      try clear c1
      try clear c2
      try clear c2b0
      try clear c2b1
      try clear p2
      obtain ⟨x4_1, rfl, HA, HK1, HB⟩ := hrel
      cases gk with
      | zero => exact absurd HA.out (by simp [impl_SplitFields.l0])
      | succ k1 =>
        have H := HA.out
        clear HA
        simp only [impl_SplitFields.l0] at H
        by_cases c3 : x4_1 < (a0.size : Int)
        · rw [if_pos c3] at H
          have c3b0 : decide (x4_1 < (a0.size : Int)) = true := decide_eq_true c3
          clear c3
          by_cases c4 : 0 ≤ x4_1
          · rw [if_pos c4] at H
            have c4b0 : decide (0 ≤ x4_1) = true := decide_eq_true c4
            clear c4
            by_cases c6 : (bt a0 x4_1) < 32
            · rw [if_pos c6] at H
              have c6b0 : decide ((bt a0 x4_1) < 32) = true := decide_eq_true c6
              clear c6
              simp only [Option.some.injEq, Prod.mk.injEq] at H
              obtain ⟨rfl, rfl⟩ := H
              have p5 : 0 ≤ (x4_1 : Int) := of_decide_eq_true (by first | (with_reducible assumption) | assumption)
              have q5 : x4_1 < (a0.size : Int) := of_decide_eq_true (by first | (with_reducible assumption) | assumption)
              have hx5 := bt_at a0 x4_1
              replace p5 := eq_true p5
              replace q5 := eq_true q5
              go_wp2
              go_ret2
              exact ⟨_, eR, by first | exact Kd.R_nil _ _ _ _ _ | exact Kd.N_nil _ _ _ _ _ | exact Kd.V_nil _ _ _ _ _ | exact Kd.Q_nil _ _ _ _ _ | exact Kd.S_nil _ _ _ _ _, oB HB⟩
            · rw [if_neg c6] at H
              have c6b0 : decide ((bt a0 x4_1) < 32) = false := decide_eq_false c6
              clear c6
              by_cases c8 : (bt a0 x4_1) > 126
              · rw [if_pos c8] at H
                have c8b0 : decide (126 < (bt a0 x4_1)) = true := decide_eq_true c8
                clear c8
                simp only [Option.some.injEq, Prod.mk.injEq] at H
                obtain ⟨rfl, rfl⟩ := H
                have p5 : 0 ≤ (x4_1 : Int) := of_decide_eq_true (by first | (with_reducible assumption) | assumption)
                have q5 : x4_1 < (a0.size : Int) := of_decide_eq_true (by first | (with_reducible assumption) | assumption)
                have hx5 := bt_at a0 x4_1
                replace p5 := eq_true p5
                replace q5 := eq_true q5
                have p7 : 0 ≤ (x4_1 : Int) := of_decide_eq_true (by first | (with_reducible assumption) | assumption)
                have q7 : x4_1 < (a0.size : Int) := of_decide_eq_true (by first | (with_reducible assumption) | assumption)
                have hx7 := bt_at a0 x4_1
                replace p7 := eq_true p7
                replace q7 := eq_true q7
                go_wp2
                go_ret2
                exact ⟨_, eR, by first | exact Kd.R_nil _ _ _ _ _ | exact Kd.N_nil _ _ _ _ _ | exact Kd.V_nil _ _ _ _ _ | exact Kd.Q_nil _ _ _ _ _ | exact Kd.S_nil _ _ _ _ _, oB HB⟩
              · rw [if_neg c8] at H
                have c8b0 : decide (126 < (bt a0 x4_1)) = false := decide_eq_false c8
                clear c8
                have H' := A_ H
                clear H
                have p5 : 0 ≤ (x4_1 : Int) := of_decide_eq_true (by first | (with_reducible assumption) | assumption)
                have q5 : x4_1 < (a0.size : Int) := of_decide_eq_true (by first | (with_reducible assumption) | assumption)
                have hx5 := bt_at a0 x4_1
                replace p5 := eq_true p5
                replace q5 := eq_true q5
                have p7 : 0 ≤ (x4_1 : Int) := of_decide_eq_true (by first | (with_reducible assumption) | assumption)
                have q7 : x4_1 < (a0.size : Int) := of_decide_eq_true (by first | (with_reducible assumption) | assumption)
                have hx7 := bt_at a0 x4_1
                replace p7 := eq_true p7
                replace q7 := eq_true q7
                go_wp2
                go_roundg k1
                case measure => have := HK1.out; omega
                case rel => exact ⟨(wrap64 (x4_1 + 1)), (by first | rfl | (simp; done) | (simp [*]; done)), H', ⟨by have := HK1.out; omega⟩, ⟨oB HB⟩⟩
          · rw [if_neg c4] at H
            exact absurd H (by simp)
        · rw [if_neg c3] at H
          have c3b0 : decide (x4_1 < (a0.size : Int)) = false := decide_eq_false c3
          clear c3
          obtain ⟨y762, hy762⟩ : ∃ y_ : List ByteArray, y_ = (([] : List ByteArray)) := ⟨_, rfl⟩
          replace H : ((strings_Split.f a0 (⟨#[32]⟩ : ByteArray)).bind fun t765 => (impl_SplitFields.l1 k1 y762 t765 (t765.length : Int) 0)) = some (r1, r2) := by first | (rw [hy762]; with_reducible exact H) | (have H2_ := (Option.bind_some _ _).symm.trans H; rw [hy762]; with_reducible exact H2_) | (have H2_ := (Option.bind_some _ _).symm.trans H; with_reducible exact H2_) | with_reducible exact H | (rw [hy762]; exact H) | exact H
          have Ny762 := A_ hy762
          clear hy762
          replace H := Option.bind_eq_some_iff.mp H
          obtain ⟨t765, A90, H⟩ := H
          (try dsimp only at H)
          have A9 := A_ A90
          clear A90
          have H' := A_ H
          clear H
          go_wp2_with (first | ((with_reducible refine gate_dst (N := 27) rfl ?_); refine Kd.R_lit Kd.string _ 9 ?hg (N := 27) ?hd (xs := ([] : List ByteArray)) (inner := []) (ok := fun _ => True) (okp := fun _ => True) ?hr ?hp (fun _ hk => hk) trivial (Below.refl _ _) (Nat.le_refl _) (by simp) ?_; (case hd => rfl); (case hg => rfl); (case hr => first | (go_simp; done) | (go_simp; rfl)); (case hp => exact (Reps.none _ _)); intro v763 w10 ho11 hb hg_ hnew_; clear hg_ hnew_; (first | rw [← Ny762.out] at ho11 | (simp only [Int.reduceToNat] at ho11; rw [← Ny762.out] at ho11)); have n0_ := A_ (Kd.R_lower ho11 (below_size (oB HB))); have n1_ := A_ (below_step (oB HB) hb); clear HB; have HO764 := n0_; have HB := n1_; clear n0_ n1_; clear hb ho11) | ((with_reducible refine gate_callee (f := 24) rfl ?_); refine gL (some 29) Tryz.func24 #[.string a0, .string (⟨#[32]⟩ : ByteArray)] ?_; (with_reducible refine (strings_Split.calls a0 (⟨#[32]⟩ : ByteArray) t765 _ A9.out).mono ?_); rintro e w12 ⟨v766, rfl, ho0, hb⟩; refine ⟨_, rfl, ?_⟩; have n0_ := A_ (Kd.R_elder' (oR HO764) (Kd.R_base ho0) hb); have n1_ := A_ (Kd.R_lower (Kd.R_new' ho0 (Kd.R_lt (oR HO764))) (below_size (oB HB))); have n2_ := A_ (below_step (oB HB) hb); clear HO764; clear HB; have HO764 := n0_; have HO767 := n1_; have HB := n2_; clear n0_ n1_ n2_; (try clear hb); (try clear hb2); (try clear hk); (try clear hi); (try clear ho0); obtain ⟨Ao13, co13, eo13⟩ := Kd.R_slice HO767.out; subst eo13))
          go_loopg [5, 31] k1 (fun kq v5 v31 w' => ∃ (x5_2 : List ByteArray) (x31_2 : Int), v31 = .int .i64 x31_2 ∧ Aside0 (impl_SplitFields.l1 kq x5_2 t765 (t765.length : Int) x31_2 = some (r1, r2)) ∧ Aside0 (kq ≤ k1) ∧ Aside0 (Kd.R Kd.string 9 w' w.heap.size (fun k_ => some k_ ≠ ((.slice Ao13 t765.length co13) : Value).ownBlock) v5 x5_2) ∧ Aside0 (Kd.R Kd.string 9 w' w.heap.size (fun k_ => some k_ ≠ (v5 : Value).ownBlock) (.slice Ao13 t765.length co13) t765) ∧ Aside0 (Below w.heap.size w w'))
          case atStart => exact ⟨(y762), (0), (by first | rfl | (simp; done) | (simp [*]; done)), H', ⟨Nat.le_refl _⟩, ⟨by (with_reducible repeat (first | apply Kd.R_alloc | apply Kd.R_drewN | apply Kd.R_drew)); exact Kd.R_mono HO764.out (fun _ hk => hk.2)⟩, ⟨by (with_reducible repeat (first | apply Kd.R_alloc | apply Kd.R_drewN | apply Kd.R_drew)); exact Kd.R_mono HO767.out (fun _ hk => hk.2)⟩, ⟨oB HB⟩⟩
          case round =>
            clear H'
            try clear c1
            try clear c2
            try clear c2b0
            try clear c2b1
            try clear p2
            try clear c3
            try clear c3b0
            try clear c4
            try clear c4b0
            try clear p5
            try clear q5
            try clear hx5
            try clear c6
            try clear c6b0
            try clear p6
            try clear p7
            try clear q7
            try clear hx7
            try clear c8
            try clear c8b0
            try clear c13
            try clear p2
            try clear p5
            try clear p7
            try clear q5
            try clear q7
            obtain ⟨x5_2, x31_2, rfl, HA, HK2, HO_5, HO_29, HB⟩ := hrel
            cases gk with
            | zero => exact absurd HA.out (by simp [impl_SplitFields.l1])
            | succ k2 =>
              have H := HA.out
              clear HA
              simp only [impl_SplitFields.l1] at H
              by_cases c14 : x31_2 < (t765.length : Int)
              · rw [if_pos c14] at H
                have c14b0 : decide (x31_2 < (t765.length : Int)) = true := decide_eq_true c14
                clear c14
                by_cases c15 : 0 ≤ x31_2
                · rw [if_pos c15] at H
                  have c15b0 : decide (0 ≤ x31_2) = true := decide_eq_true c15
                  clear c15
                  by_cases c16 : x31_2 < (t765.length : Int)
                  · rw [if_pos c16] at H
                    have c16b0 : decide (x31_2 < (t765.length : Int)) = true := decide_eq_true c16
                    clear c16
                    by_cases c17 : (rdOf ByteArray.empty t765 x31_2).toList = ([] : List UInt8)
                    · rw [if_pos c17] at H
                      have c17b0 : ((rdOf ByteArray.empty t765 x31_2).toList == ([] : List UInt8)) = true := beq_iff_eq.mpr c17
                      have c17b1 : ((rdOf ByteArray.empty t765 x31_2).toList != ([] : List UInt8)) = false := bne_eq_false_iff_eq.mpr c17
                      clear c17
                      have H' := A_ H
                      clear H
                      have p768 : 0 ≤ (x31_2 : Int) := of_decide_eq_true (by first | (with_reducible assumption) | assumption)
                      have q768 : x31_2 < (t765.length : Int) := of_decide_eq_true (by first | (with_reducible assumption) | assumption)
                      obtain ⟨ad768, e768, hx768_0⟩ := Kd.at_string (Kd.R_reads' HO_29.out).2.2 x31_2 p768 q768
                      cases e768
                      replace p768 := eq_true p768
                      replace q768 := eq_true q768
                      go_wp2
                      go_roundg k2
                      case measure => have := HK1.out; have := HK2.out; omega
                      case rel => exact ⟨(x5_2), (wrap64 (x31_2 + 1)), (by first | rfl | (simp; done) | (simp [*]; done)), H', ⟨by have := HK1.out; have := HK2.out; omega⟩, ⟨oR HO_5⟩, ⟨oR HO_29⟩, ⟨oB HB⟩⟩
                    · rw [if_neg c17] at H
                      have c17b0 : ((rdOf ByteArray.empty t765 x31_2).toList == ([] : List UInt8)) = false := beq_eq_false_iff_ne.mpr c17
                      have c17b1 : ((rdOf ByteArray.empty t765 x31_2).toList != ([] : List UInt8)) = true := bne_iff_ne.mpr c17
                      by_cases c18 : x5_2.length < 8796093022208
                      · rw [if_pos c18] at H
                        have LMc18 := A_ c18
                        clear c18
                        obtain ⟨y769, hy769⟩ : ∃ y_ : List ByteArray, y_ = (x5_2 ++ [rdOf ByteArray.empty t765 x31_2]) := ⟨_, rfl⟩
                        replace H : (impl_SplitFields.l1 k2 y769 t765 (t765.length : Int) (wrap64 (x31_2 + 1))) = some (r1, r2) := by first | (rw [hy769]; with_reducible exact H) | (have H2_ := (Option.bind_some _ _).symm.trans H; rw [hy769]; with_reducible exact H2_) | (have H2_ := (Option.bind_some _ _).symm.trans H; with_reducible exact H2_) | with_reducible exact H | (rw [hy769]; exact H) | exact H
                        have Ny769 := A_ hy769
                        clear hy769
                        have H' := A_ H
                        clear H
                        have p768 : 0 ≤ (x31_2 : Int) := of_decide_eq_true (by first | (with_reducible assumption) | assumption)
                        have q768 : x31_2 < (t765.length : Int) := of_decide_eq_true (by first | (with_reducible assumption) | assumption)
                        obtain ⟨ad768, e768, hx768_0⟩ := Kd.at_string (Kd.R_reads' HO_29.out).2.2 x31_2 p768 q768
                        cases e768
                        replace p768 := eq_true p768
                        replace q768 := eq_true q768
                        go_wp2_with (first | ((with_reducible refine gate_builtin (b := .append) (xs := #[.tmp 37, .tmp 39]) rfl ?_); at_builtin; refine Kd.R_append Kd.string (w0 := w) w.heap.size rfl (.tmp 37) (.tmp 39) 46 9 (.string ⟨#[]⟩) 16 rfl Tryz.underlying46 info9 rfl (by decide) (by omega) u5 x5_2 (rdOf ByteArray.empty t765 x31_2) [.string (rdOf ByteArray.empty t765 x31_2)] (fun k_ => some k_ ≠ (.slice (some ad768) t765.length co13 : Value).ownBlock) (fun _ => False) rfl rfl ?aP (fun _ hk => hk.elim) ?aF ?aO ?aB ?aS ?aL ?_; (case aP => exact rfl); (case aB => exact (oB HB)); (case aF => exact (fun k_ hk => Kd.fresh' (Kd.R_lt (oR HO_29)) k_ hk)); (case aO => exact (oR HO_5)); (case aS => exact (below_size (oB HB))); (case aL => have := LMc18.out; omega); intro v770 w19 ho hb hg hat; rw [← Ny769.out] at ho; have n0_ := A_ (Kd.R_after (ok := (fun _ => True)) (by (with_reducible repeat (first | apply Kd.R_alloc | apply Kd.R_drewN | apply Kd.R_drew)); exact Kd.R_mono HO_29.out (fun _ hk => ⟨trivial, hk⟩)) hg hat); have n1_ := A_ (hb); have n2_ := A_ (ho); clear HO_29; clear HB; clear HO_5; have HO_29 := n0_; have HB := n1_; have HO771 := n2_; clear n0_ n1_ n2_; clear ho hb hg hat))
                        go_roundg k2
                        case measure => have := HK1.out; have := HK2.out; omega
                        case rel => exact ⟨(y769), (wrap64 (x31_2 + 1)), (by first | rfl | (simp; done) | (simp [*]; done)), H', ⟨by have := HK1.out; have := HK2.out; omega⟩, ⟨oR HO771⟩, ⟨by (with_reducible repeat (first | apply Kd.R_alloc | apply Kd.R_drewN | apply Kd.R_drew)); exact Kd.R_mono HO_29.out (fun _ hk => hk.2)⟩, ⟨oB HB⟩⟩
                      · rw [if_neg c18] at H
                        exact absurd H (by simp)
                  · rw [if_neg c16] at H
                    exact absurd H (by simp)
                · rw [if_neg c15] at H
                  exact absurd H (by simp)
              · rw [if_neg c14] at H
                have c14b0 : decide (x31_2 < (t765.length : Int)) = false := decide_eq_false c14
                clear c14
                by_cases c20 : (x5_2.length : Int) > 24
                · rw [if_pos c20] at H
                  have c20b0 : decide (24 < (x5_2.length : Int)) = true := decide_eq_true c20
                  have c20b1 : decide (24 < x5_2.length) = true := decide_eq_true (by omega)
                  clear c20
                  simp only [Option.some.injEq, Prod.mk.injEq] at H
                  obtain ⟨rfl, rfl⟩ := H
                  obtain ⟨Ao21, co21, eo21⟩ := Kd.R_slice HO_5.out
                  subst eo21
                  go_wp2
                  go_ret2
                  exact ⟨_, eR, by first | exact Kd.R_nil _ _ _ _ _ | exact Kd.N_nil _ _ _ _ _ | exact Kd.V_nil _ _ _ _ _ | exact Kd.Q_nil _ _ _ _ _ | exact Kd.S_nil _ _ _ _ _, oB HB⟩
                · rw [if_neg c20] at H
                  have c20b0 : decide (24 < (x5_2.length : Int)) = false := decide_eq_false c20
                  have c20b1 : decide (24 < x5_2.length) = false := decide_eq_false (by omega)
                  clear c20
                  simp only [Option.some.injEq, Prod.mk.injEq] at H
                  obtain ⟨rfl, rfl⟩ := H
                  obtain ⟨Ao22, co22, eo22⟩ := Kd.R_slice HO_5.out
                  subst eo22
                  go_wp2
                  go_ret2
                  exact ⟨_, eR, by (with_reducible repeat (first | apply Kd.R_alloc | apply Kd.R_drewN | apply Kd.R_drew)); exact Kd.R_mono HO_5.out (fun _ hk => trivial), oB HB⟩
end Go.Proofs.YtojiighpkppckaaGreatDoor.P


namespace Go.Proofs.YtojiighpkppckaaGreatDoor.P
open Go.RowKit Go.Proofs.YtojiighpkppckaaGreatDoorW.PrintWords Go.Proofs.YtojiighpkppckaaGreatDoorW.PrintLast Go.Proofs.YtojiighpkppckaaGreatDoorW.PrintMore Go.Proofs.YtojiighpkppckaaGreatDoor.V
attribute [local go_sem] cell_b frozen_b
attribute [local go_sem] max2_int min2_int max_two min_two max_three min_three max_four min_four
set_option linter.unusedVariables false
set_option linter.unusedSimpArgs false
def impl_ParseAct.nums : Nat → List ByteArray → Int → Int → Int → Option (Int × Int × Int)
  | _, [], A, B, C => some (A, B, C)
  | i, s :: r, A, B, C => (atoi? s).bind fun n => impl_ParseAct.nums (i + 1) r (if i = 0 then n else A) (if i = 1 then n else B) (if i = 2 then n else C)
def impl_ParseAct.last (k : Nat) (L : List ByteArray) (K : Int) : Option (Int × Int × Int) → Option (Int × Int × Int × Int × Bool)
  | none => some (0, 0, 0, 0, false)
  | some (A, B, C) => (impl_FormatAct.f k K A B C).bind fun u => if u.2 = true then (strings_Join.f L ⟨#[32]⟩).bind fun j => some (if u.1 = j then (K, A, B, C, true) else (0, 0, 0, 0, false)) else some (0, 0, 0, 0, false)
def impl_ParseAct.rest (k : Nat) : List ByteArray → Option (Int × Int × Int × Int × Bool)
  | [] => some (0, 0, 0, 0, false)
  | s :: r => if ∀ x ∈ s :: r, x.size ≤ 1000 then impl_ParseAct.last k (s :: r) (kindW s.data.toList) (impl_ParseAct.nums 0 r 0 0 0) else none
def impl_ParseAct.f (k : Nat) (a0 : ByteArray) : Option (Int × Int × Int × Int × Bool) := (impl_SplitFields.f k a0).bind fun t => if t.2 = true then impl_ParseAct.rest k t.1 else some (0, 0, 0, 0, false)
theorem tail_event {ops : Array Oper} {rest : List Oper} {o : Oper} {a : Act} {Q : Exit → Act → World → Prop} {w : World} {x : Operand} {ad : Addr} {n c : Nat} (m : Nat) (hm : n = m + 1) (hg : o.guard = none) (hop : o.op = Op.slice 46 x (some (.const (.int .i64 1))) none none) (hx : a.eval x = .slice (some ad) n c)
    (h : ∀ ad', (c ≠ 1 → ad' = ⟨ad.block, ad.off + 1, none⟩) → wpList Tryz.prog ops Q rest (a.put o.dst (.slice (some ad') m (c - 1))) w) : wpList Tryz.prog ops Q (o :: rest) a w := by
  have e1 : a.eval (.const (.int .i64 1)) = .int .i64 1 := rfl
  have hu := Tryz.underlying46
  have h2 : (1 : Int) ≤ n := by omega
  have h1 : 1 ≤ n := by omega
  have h3 : n - 1 = m := by omega
  refine Kd.event_run hg (v := .slice (some (if c = 1 then ad else ⟨ad.block, ad.off + 1, none⟩)) (n - 1) (c - 1)) ?_ (h3 ▸ h _ (fun hc => if_neg hc))
  clear hm h3
  simp only [execOp, hop, Option.map, hx, e1]
  go_simp
  split <;> rfl
attribute [local go_sem] cellR_c
set_option maxHeartbeats 8000000 in
set_option maxRecDepth 100000 in
set_option synthInstance.maxHeartbeats 400000 in
set_option synthInstance.maxSize 100000 in
theorem impl_ParseAct.calls (k : Nat) (a0 : ByteArray) (r1 : Int) (r2 : Int) (r3 : Int) (r4 : Int) (r5 : Bool) (w : World) (h : impl_ParseAct.f k a0 = some (r1, r2, r3, r4, r5)) (ht_ : Aside0 (TabE w)) :
    Calls Tryz.prog 7 #[.string a0] w fun e w' => e = .returned (.tuple #[.agg #[.int .i64 r1, .int .i64 r2, .int .i64 r3, .int .i64 r4], .bool r5]) ∧ Below w.heap.size w w' := by
  unfold impl_ParseAct.f at h
  replace h := Option.bind_eq_some_iff.mp h
  obtain ⟨⟨L, ok⟩, hA, h⟩ := h
  dsimp only at h
  have A := A_ hA
  clear hA
  have hu := Tryz.underlying37
  cases ok with
  | false =>
    rw [if_neg (by decide)] at h
    simp only [Option.some.injEq, Prod.mk.injEq] at h
    obtain ⟨rfl, rfl, rfl, rfl, rfl⟩ := h
    go_enter Tryz.func7, Tryz.ntmps7
    go_wp2_with (first
      | ((with_reducible refine gate_dst (N := 2) rfl ?_); refine box_event rfl (N := 2) rfl (cs := #[.int .i64 0, .int .i64 0, .int .i64 0, .int .i64 0]) (t := 37) (by first | (go_simp; done) | (go_simp; rfl)) ?_; intro g2 hg w1 hk hb; have j1 := Born.mk hg; have j2 := Bel.mk hb; have j3 := Blk.mk hk; clear hg hb hk)
      | (go_at_call 13; refine (impl_SplitFields.calls k _ _ _ _ A.out).mono ?_; rintro e w2 ⟨v0, rfl, hr, hb⟩; obtain ⟨B0, b0, rfl⟩ := Kd.R_slice hr; have jr := RowE.mk hr; have jl := LeI.mk (rowLe jr); have jb := Bel.mk hb; clear hr hb))
    refine bodyPost_ret (results_ct rfl _ _ g2 37 #[.int .i64 0, .int .i64 0, .int .i64 0, .int .i64 0] (0, 0) _ rfl (by exact Blk.out) hu rfl (by kernel_rfl)) rfl ?_
    exact ⟨rfl, From.out⟩
  | true =>
    rw [if_pos rfl] at h
    cases L with
    | nil =>
      simp only [impl_ParseAct.rest, Option.some.injEq, Prod.mk.injEq] at h
      obtain ⟨rfl, rfl, rfl, rfl, rfl⟩ := h
      go_enter Tryz.func7, Tryz.ntmps7
      go_wp2_with (first
        | ((with_reducible refine gate_dst (N := 2) rfl ?_); refine box_event rfl (N := 2) rfl (cs := #[.int .i64 0, .int .i64 0, .int .i64 0, .int .i64 0]) (t := 37) (by first | (go_simp; done) | (go_simp; rfl)) ?_; intro g2 hg w1 hk hb; have j1 := Born.mk hg; have j2 := Bel.mk hb; have j3 := Blk.mk hk; clear hg hb hk)
        | (go_at_call 13; refine (impl_SplitFields.calls k _ _ _ _ A.out).mono ?_; rintro e w2 ⟨v0, rfl, hr, hb⟩; obtain ⟨B0, b0, rfl⟩ := Kd.R_slice hr; have jr := RowE.mk hr; have jl := LeI.mk (rowLe jr); have jb := Bel.mk hb; clear hr hb))
      refine bodyPost_ret (results_ct rfl _ _ g2 37 #[.int .i64 0, .int .i64 0, .int .i64 0, .int .i64 0] (0, 0) _ rfl (by exact Blk.out) hu rfl (by kernel_rfl)) rfl ?_
      exact ⟨rfl, From.out⟩
    | cons s r =>
      rw [impl_ParseAct.rest] at h
      by_cases hz : ∀ x ∈ s :: r, x.size ≤ 1000
      rotate_left
      · rw [if_neg hz] at h; cases h
      rw [if_pos hz] at h
      have HZ := A_ hz
      have H := A_ h
      obtain ⟨L, hL⟩ : ∃ L, s :: r = L := ⟨_, rfl⟩
      have hn : L.length = r.length + 1 := by rw [← hL]; rfl
      have h0 : (rdOf ByteArray.empty L 0) = s := by rw [← hL]; rfl
      rw [hL] at A H HZ
      have HS : Aside0 (s.size ≤ maxLen) := ⟨Nat.le_trans (hz s (by simp)) (by decide)⟩
      have HL := A_ hL
      have HN := A_ hn
      have H0 := A_ h0
      have b1 : decide ((L.length : Int) = 0) = false := decide_eq_false (by omega)
      have b2 : decide (L.length = 0) = false := decide_eq_false (by omega)
      have b3 : (L.length == 0) = false := by simpa using b2
      have b4 : ((L.length : Int) == 0) = false := beq_eq_false_iff_ne.mpr (by omega)
      have b5 : (L = []) = False := by rw [← hL]; simp
      have b6 : decide ((0 : Int) < (L.length : Int)) = true := decide_eq_true (by omega)
      have b7 : decide (0 < L.length) = true := decide_eq_true (by omega)
      have b8 : decide (1 ≤ L.length) = true := decide_eq_true (by omega)
      have b9 : (0 < L.length) = True := eq_true (by omega)
      clear h hz hL hn h0
      go_enter Tryz.func7, Tryz.ntmps7
      go_wp2_with (first
        | ((with_reducible refine gate_dst (N := 2) rfl ?_); refine box_event rfl (N := 2) rfl (cs := #[.int .i64 0, .int .i64 0, .int .i64 0, .int .i64 0]) (t := 37) (by first | (go_simp; done) | (go_simp; rfl)) ?_; intro g2 hg w1 hk hb; have j1 := Born.mk hg; have j2 := Bel.mk hb; have j3 := Blk.mk hk; clear hg hb hk)
        | (go_at_call 13; refine (impl_SplitFields.calls k _ _ _ _ A.out).mono ?_; rintro e w2 ⟨v0, rfl, hr, hb⟩; obtain ⟨B0, b0, rfl⟩ := Kd.R_slice hr; obtain ⟨ad, hq1, hq2⟩ := Kd.at_string (Kd.R_reads' hr).2.2 0 (by omega) (by have := HN.out; omega); have jr := RowE.mk hr; have jl := LeI.mk (rowLe jr); have jb := Bel.mk hb; cases hq1; rw [H0.out] at hq2; have jc : CelR w2 ad (.string s) := ⟨by simpa [Addr.add] using hq2⟩; clear hr hb hq2)
        | ((with_reducible refine gate_dst (N := 27) rfl ?_); refine kinds_ ?_ (fun _ => rfl) rfl rfl rfl rfl rfl rfl rfl rfl rfl rfl rfl rfl rfl rfl rfl rfl rfl rfl rfl rfl rfl rfl rfl; intro mb w3 hb HM; have HK := kind_look HM.out s HS.out; have j4 := Bel.mk hb; clear hb)
        | ((with_reducible refine gate_dst (N := 36) rfl ?_); refine tail_event (ad := ad) (n := L.length) (c := b0) r.length HN.out rfl rfl rfl ?_; intro ad1 hq; have HD := A_ hq; clear hq)
        | ((with_reducible refine gate_dst (N := 7) rfl ?_); refine box_event rfl (N := 7) rfl (cs := #[.int .i64 0, .int .i64 0, .int .i64 0, .int .i64 0]) (t := 37) (by first | (go_simp; done) | (go_simp; rfl)) ?_; intro g7 hg w4 hk hb; have j5 := Born.mk hg; have j6 := Bel.mk hb; have j7 := Blk.mk hk; clear hg hb hk))
      have ht1 : Aside0 (Tab w) := ⟨ht_.out.1⟩
      clear A
      go_loopg [38] (r.length + 1) (fun kq v38 w' => ∃ (i : Nat) (X Y Z : Int), v38 = .int .i64 (i : Int) ∧ Aside0 (i + kq = r.length + 1) ∧ Aside0 (i ≤ r.length) ∧ Aside0 (impl_ParseAct.last k L (kindW s.data.toList) (impl_ParseAct.nums i (r.drop i) X Y Z) = some (r1, r2, r3, r4, r5)) ∧ Aside0 (Below w.heap.size w w') ∧ Aside0 (w'.heap[g2]? = some (.cells #[.int .i64 0, .int .i64 0, .int .i64 0, .int .i64 0] 37 (0, 0))) ∧ Aside0 (w'.heap[g7]? = some (.cells #[.int .i64 (kindW s.data.toList), .int .i64 X, .int .i64 Y, .int .i64 Z] 37 (0, 0))) ∧ Aside0 (∀ j, w1.heap.size ≤ j → j < w2.heap.size → w'.heap[j]? = w2.heap[j]?))
      case atStart => exact ⟨0, 0, 0, 0, rfl, ⟨by omega⟩, ⟨by omega⟩, H, ⟨From.out⟩, ⟨Blk.out⟩, ⟨Blk.out⟩, ⟨Keep.out⟩⟩
      case round =>
        obtain ⟨i, X, Y, Z, rfl, HI1, HI2, HQ, HB, HG2, HG7, HKp⟩ := hrel
        clear H jc
        have jf : From w wr := ⟨HB.out⟩
        have js : Sz w wr := ⟨HB.out.size⟩
        have jk2 : Blk wr g2 _ _ := ⟨HG2.out⟩
        have jk7 : Blk wr g7 _ _ := ⟨HG7.out⟩
        have jkp : Keep w1 w2 wr := ⟨HKp.out⟩
        clear HG2 HG7 HKp
        have hmx : L.length ≤ 9223372036854775807 := Kd.C_max (rowRd (w1 := w1) (w2 := w2) (W := wr) (A := some ad) (c := b0) (xs := L) (d := Kd.string) (e := 9))
        have hmr : r.length + 1 ≤ 9223372036854775807 := by have := HN.out; omega
        by_cases hlt : i < r.length
        · obtain ⟨ad0, hq1, hq2⟩ := Kd.at_string (rowRd (w1 := w1) (w2 := w2) (W := wr) (A := some ad) (c := b0) (xs := L) (d := Kd.string) (e := 9)) ((i : Int) + 1) (by omega) (by have := HN.out; omega)
          cases hq1
          have hb0 : b0 ≠ 1 := by have := HN.out; have := jl.out; omega
          obtain rfl := HD.out hb0
          have e1 : rdOf ByteArray.empty L ((i : Int) + 1) = r[i] := by
            rw [← HL.out]
            have : ((i : Int) + 1).toNat = i + 1 := by omega
            simp [rdOf, this, List.getD_eq_getElem?_getD, hlt]
          obtain ⟨x, hx⟩ : ∃ x, r[i] = x := ⟨_, rfl⟩
          have hxs : x.size ≤ 1000 := HZ.out x (by rw [← HL.out, ← hx]; exact List.mem_cons_of_mem _ (List.getElem_mem hlt))
          rw [e1, hx] at hq2
          have jcg : wr.cell? ⟨ad.block, ad.off + 1 + i, none⟩ = some (.string x) := by
            have e2 : ((i : Int) + 1).toNat = 1 + i := by omega
            rw [e2] at hq2
            rw [← hq2]
            simp [Addr.add, Nat.add_assoc]
          have hq := HQ.out
          rw [List.drop_eq_getElem_cons hlt, hx, impl_ParseAct.nums] at hq
          have hb3 : decide ((i : Int) < (r.length : Int)) = true := decide_eq_true (by omega)
          have hb4 : decide (i < r.length) = true := decide_eq_true (by omega)
          have hb5 : (i < r.length) = True := eq_true hlt
          clear hq2 e1 HQ
          cases hat : atoi? x with
          | none =>
            rw [hat] at hq
            simp only [Option.bind_none, impl_ParseAct.last, Option.some.injEq, Prod.mk.injEq] at hq
            obtain ⟨rfl, rfl, rfl, rfl, rfl⟩ := hq
            have HAT := A_ hat
            clear hat
            by_cases hi0 : i = 0
            · subst hi0
              have jcx : CelR wr ⟨ad.block, ad.off + 1, none⟩ (.string x) := ⟨jcg⟩
              clear jcg
              go_wp2_with (first
                | (go_at_call 14; refine (atoi_bad x _ (by omega) HAT.out (errV_on ht_.out.2 From.out)).mono ?_; rintro e w5 ⟨n5, t5, p5, rfl, hb⟩; have jb5 := Bel.mk hb; clear hb))
              refine bodyPost_ret (results_ct rfl _ _ g2 37 #[.int .i64 0, .int .i64 0, .int .i64 0, .int .i64 0] (0, 0) _ rfl (by exact Blk.out) hu rfl (by kernel_rfl)) rfl ?_
              exact ⟨rfl, From.out⟩
            · have hi1 : (i = 0) = False := eq_false hi0
              have jcx : CelR wr ⟨ad.block, ad.off + 1 + i, none⟩ (.string x) := ⟨jcg⟩
              clear jcg
              go_wp2_with (first
                | (go_at_call 14; refine (atoi_bad x _ (by omega) HAT.out (errV_on ht_.out.2 From.out)).mono ?_; rintro e w5 ⟨n5, t5, p5, rfl, hb⟩; have jb5 := Bel.mk hb; clear hb))
              refine bodyPost_ret (results_ct rfl _ _ g2 37 #[.int .i64 0, .int .i64 0, .int .i64 0, .int .i64 0] (0, 0) _ rfl (by exact Blk.out) hu rfl (by kernel_rfl)) rfl ?_
              exact ⟨rfl, From.out⟩
          | some n =>
            rw [hat] at hq
            simp only [Option.bind_some] at hq
            have HAT := A_ hat
            clear hat
            by_cases hi0 : i = 0
            · subst hi0
              have HQ : Aside0 (impl_ParseAct.last k L (kindW s.data.toList) (impl_ParseAct.nums (0 + 1) (r.drop (0 + 1)) n Y Z) = some (r1, r2, r3, r4, r5)) := ⟨hq⟩
              clear hq
              have jcx : CelR wr ⟨ad.block, ad.off + 1, none⟩ (.string x) := ⟨jcg⟩
              clear jcg
              go_wp2_with (first
                | (go_at_call 14; refine (atoi_ok x n _ (by omega) HAT.out).mono ?_; rintro e w5 ⟨rfl, hb⟩; have jb5 := Bel.mk hb; clear hb))
              go_roundg (r.length - 0)
              case measure => have := HI1.out; omega
              case rel => exact ⟨0 + 1, n, Y, Z, by go_num, ⟨by have := HI1.out; omega⟩, ⟨by omega⟩, HQ, ⟨From.out⟩, ⟨Blk.out⟩, ⟨Blk.out⟩, ⟨Keep.out⟩⟩
            by_cases hi1 : i = 1
            · subst hi1
              have HQ : Aside0 (impl_ParseAct.last k L (kindW s.data.toList) (impl_ParseAct.nums (1 + 1) (r.drop (1 + 1)) X n Z) = some (r1, r2, r3, r4, r5)) := ⟨hq⟩
              clear hq
              have jcx : CelR wr ⟨ad.block, ad.off + 1 + 1, none⟩ (.string x) := ⟨jcg⟩
              clear jcg
              go_wp2_with (first
                | (go_at_call 14; refine (atoi_ok x n _ (by omega) HAT.out).mono ?_; rintro e w5 ⟨rfl, hb⟩; have jb5 := Bel.mk hb; clear hb))
              go_roundg (r.length - 1)
              case measure => have := HI1.out; omega
              case rel => exact ⟨1 + 1, X, n, Z, by go_num, ⟨by have := HI1.out; omega⟩, ⟨by omega⟩, HQ, ⟨From.out⟩, ⟨Blk.out⟩, ⟨Blk.out⟩, ⟨Keep.out⟩⟩
            by_cases hi2 : i = 2
            · subst hi2
              have HQ : Aside0 (impl_ParseAct.last k L (kindW s.data.toList) (impl_ParseAct.nums (2 + 1) (r.drop (2 + 1)) X Y n) = some (r1, r2, r3, r4, r5)) := ⟨hq⟩
              clear hq
              have jcx : CelR wr ⟨ad.block, ad.off + 1 + 2, none⟩ (.string x) := ⟨jcg⟩
              clear jcg
              go_wp2_with (first
                | (go_at_call 14; refine (atoi_ok x n _ (by omega) HAT.out).mono ?_; rintro e w5 ⟨rfl, hb⟩; have jb5 := Bel.mk hb; clear hb))
              go_roundg (r.length - 2)
              case measure => have := HI1.out; omega
              case rel => exact ⟨2 + 1, X, Y, n, by go_num, ⟨by have := HI1.out; omega⟩, ⟨by omega⟩, HQ, ⟨From.out⟩, ⟨Blk.out⟩, ⟨Blk.out⟩, ⟨Keep.out⟩⟩
            · rw [if_neg hi0, if_neg hi1, if_neg hi2] at hq
              have HQ := A_ hq
              clear hq
              have z0 : (i = 0) = False := eq_false hi0
              have z1 : (i = 1) = False := eq_false hi1
              have z2 : (i = 2) = False := eq_false hi2
              have z3 : decide ((i : Int) = 0) = false := decide_eq_false (by omega)
              have z4 : decide ((i : Int) = 1) = false := decide_eq_false (by omega)
              have z5 : decide ((i : Int) = 2) = false := decide_eq_false (by omega)
              have jcx : CelR wr ⟨ad.block, ad.off + 1 + i, none⟩ (.string x) := ⟨jcg⟩
              clear jcg
              go_wp2_with (first
                | (go_at_call 14; refine (atoi_ok x n _ (by omega) HAT.out).mono ?_; rintro e w5 ⟨rfl, hb⟩; have jb5 := Bel.mk hb; clear hb))
              have hw64 : wrap64 ((i : Int) + 1) = (i : Int) + 1 := by unfold wrap64; omega
              go_roundg (r.length - i)
              case measure => have := HI1.out; omega
              case rel => exact ⟨i + 1, X, Y, Z, by go_num, ⟨by have := HI1.out; omega⟩, ⟨by omega⟩, HQ, ⟨From.out⟩, ⟨Blk.out⟩, ⟨Blk.out⟩, ⟨Keep.out⟩⟩
        · have hb3 : decide ((i : Int) < (r.length : Int)) = false := decide_eq_false (by omega)
          have hb4 : decide (i < r.length) = false := decide_eq_false (by omega)
          have hb5 : (i < r.length) = False := eq_false hlt
          obtain rfl : i = r.length := by have := HI2.out; omega
          have hq := HQ.out
          rw [List.drop_eq_nil_of_le (Nat.le_refl _), impl_ParseAct.nums, impl_ParseAct.last] at hq
          replace hq := Option.bind_eq_some_iff.mp hq
          obtain ⟨⟨t1, t2⟩, hA, hq⟩ := hq
          dsimp only at hq
          have A5 := A_ hA
          clear hA HQ
          cases t2 with
          | false =>
            rw [if_neg (by decide)] at hq
            simp only [Option.some.injEq, Prod.mk.injEq] at hq
            obtain ⟨rfl, rfl, rfl, rfl, rfl⟩ := hq
            go_wp2_with (first
              | (go_at_call 6; refine (impl_FormatAct.calls k _ _ _ _ _ _ _ A5.out ⟨tab_f ht1⟩).mono ?_; rintro e w5 ⟨rfl, hb⟩; have jb5 := Bel.mk hb; clear hb))
            refine bodyPost_ret (results_ct rfl _ _ g2 37 #[.int .i64 0, .int .i64 0, .int .i64 0, .int .i64 0] (0, 0) _ rfl (by exact Blk.out) hu rfl (by kernel_rfl)) rfl ?_
            exact ⟨rfl, From.out⟩
          | true =>
            rw [if_pos rfl] at hq
            replace hq := Option.bind_eq_some_iff.mp hq
            obtain ⟨j, hJ, hq⟩ := hq
            have A6 := A_ hJ
            clear hJ
            by_cases he : t1 = j
            · rw [if_pos he] at hq
              simp only [Option.some.injEq, Prod.mk.injEq] at hq
              obtain ⟨rfl, rfl, rfl, rfl, rfl⟩ := hq
              subst he
              go_wp2_with (first
                | (go_at_call 6; refine (impl_FormatAct.calls k _ _ _ _ _ _ _ A5.out ⟨tab_f ht1⟩).mono ?_; rintro e w5 ⟨rfl, hb⟩; have jb5 := Bel.mk hb; clear hb)
                | (go_at_call 15; refine (strings_Join.calls (some ad) b0 L _ _ _ (Rd.out (d := Kd.string)) LeI.out A6.out).mono ?_; rintro e w6 ⟨rfl, hb⟩; have jb6 := Bel.mk hb; clear hb))
              refine bodyPost_ret (results_ct rfl _ _ g2 37 #[.int .i64 (kindW s.data.toList), .int .i64 X, .int .i64 Y, .int .i64 Z] (0, 0) _ rfl (by exact Blk.out) hu rfl (by kernel_rfl)) rfl ?_
              exact ⟨rfl, From.out⟩
            · rw [if_neg he] at hq
              simp only [Option.some.injEq, Prod.mk.injEq] at hq
              obtain ⟨rfl, rfl, rfl, rfl, rfl⟩ := hq
              have he1 : (t1.toList == j.toList) = false := by
                rw [Go.Lib.toList_data, Go.Lib.toList_data, beq_eq_false_iff_ne]
                exact fun e => he (ByteArray.ext (Array.toList_inj.mp e))
              go_wp2_with (first
                | (go_at_call 6; refine (impl_FormatAct.calls k _ _ _ _ _ _ _ A5.out ⟨tab_f ht1⟩).mono ?_; rintro e w5 ⟨rfl, hb⟩; have jb5 := Bel.mk hb; clear hb)
                | (go_at_call 15; refine (strings_Join.calls (some ad) b0 L _ _ _ (Rd.out (d := Kd.string)) LeI.out A6.out).mono ?_; rintro e w6 ⟨rfl, hb⟩; have jb6 := Bel.mk hb; clear hb))
              refine bodyPost_ret (results_ct rfl _ _ g2 37 #[.int .i64 0, .int .i64 0, .int .i64 0, .int .i64 0] (0, 0) _ rfl (by exact Blk.out) hu rfl (by kernel_rfl)) rfl ?_
              exact ⟨rfl, From.out⟩
end Go.Proofs.YtojiighpkppckaaGreatDoor.P


namespace Go.Proofs.YtojiighpkppckaaGreatDoor.P
open Go.RowKit Go.Proofs.YtojiighpkppckaaGreatDoorW.PrintWords Go.Proofs.YtojiighpkppckaaGreatDoorW.PrintLast Go.Proofs.YtojiighpkppckaaGreatDoorW.PrintMore Go.Proofs.YtojiighpkppckaaGreatDoor.V
attribute [local go_sem] cell_b frozen_b
attribute [local go_sem] max2_int min2_int max_two min_two max_three min_three max_four min_four
set_option linter.unusedVariables false
set_option linter.unusedSimpArgs false
attribute [local go_sem high] eqA37
def laws_FnActTexts.l0 : Nat → List (S37) → Int → Option (Bool)
  | 0, _, _ => none
  | k + 1, x4, x5 => if x5 < (x4.length : Int) then (if 0 ≤ x5 then ((impl_FormatAct.f k ((rd_T37 x4 x5).f0) ((rd_T37 x4 x5).f1) ((rd_T37 x4 x5).f2) ((rd_T37 x4 x5).f3)).bind fun bt805 => (if 2 + bt805.1.size ≤ 9223372036854775807 then (if ((⟨#[32, 32]⟩ : ByteArray) ++ bt805.1).size + 1 ≤ 9223372036854775807 then ((impl_ParseAct.f k (((⟨#[32, 32]⟩ : ByteArray) ++ bt805.1) ++ (⟨#[32]⟩ : ByteArray))).bind fun bt807 => (if bt805.2 = true then (if bt807.2.2.2.2 = true then (if (!(bt807.1 == ((rd_T37 x4 x5).f0)) || (!(bt807.2.1 == ((rd_T37 x4 x5).f1)) || (!(bt807.2.2.1 == ((rd_T37 x4 x5).f2)) || (!(bt807.2.2.2.1 == ((rd_T37 x4 x5).f3)))))) = true then (some false) else (laws_FnActTexts.l0 k x4 (wrap64 (x5 + 1)))) else (some false)) else (some false))) else (none)) else (none))) else (none)) else (some true)
def laws_FnActTexts.f (k : Nat) (l0 : List Int) : Option (Bool) := (laws_big.f l0).bind fun t787 => (if t787 = true then (some true) else ((spec_DrawActs.f k l0).bind fun bt788 => (laws_FnActTexts.l0 k bt788.2.2.2.2.2.2 0)))
def laws_FnActTexts.T9 : Bool × List (List Nat × List Nat) := (true, [([], []), ([0], [0]), ([1], [1]), ([2], [2]), ([3, 2], [2, 3]), ([2, 4], [2, 4]), ([5, 2], [5]), ([6], [6]), ([6], [6]), ([6], [6]), ([8, 9, 6], [6, 8, 9]), ([10, 6], [6, 10]), ([7, 11, 6], [6, 7, 11]), ([6, 12], [6, 12])])
def laws_FnActTexts.B9 : List Nat := [0, 1, 3, 7, 15, 31, 63, 127, 127, 127, 895, 1919, 4095, 8191]
theorem laws_FnActTexts.tab9 : rtab .any (opsOf Tryz.f3 9) = laws_FnActTexts.T9 := by kernel_rfl
theorem laws_FnActTexts.bits9 : waitsOk laws_FnActTexts.T9.2 laws_FnActTexts.B9 = true := by kernel_rfl
open Go.Proofs.YtojiighpkppckaaGreatDoor.V
attribute [local go_sem] cell_b frozen_b cellR_c
set_option maxHeartbeats 8000000 in
set_option maxRecDepth 100000 in
theorem laws_FnActTexts.calls (k : Nat) (A0 : Option Addr) (c0 : Nat) (l0 : List Int) (r : Bool) (w : World) (hr0 : Kd.C (Kd.int .u8) w A0 l0.length l0) (hc0 : l0.length ≤ c0) (h : laws_FnActTexts.f k l0 = some r) (hrt_ : Aside0 (r = true)) (ht_ : Aside0 (TabE w)) :
    Calls Tryz.prog 3 #[.slice A0 l0.length c0] w fun e w' => e = .returned (.bool r) ∧ Below w.heap.size w w' := by
  have hu30 := Tryz.underlying30
  have hu37 := Tryz.underlying37
  have HR0 := A_ hr0
  have HC0 := A_ hc0
  clear hr0 hc0
  have HB := A_ (Below.refl w.heap.size w)
  have H : ((laws_big.f l0).bind fun t787 => (if t787 = true then (some true) else ((spec_DrawActs.f k l0).bind fun bt788 => (laws_FnActTexts.l0 k bt788.2.2.2.2.2.2 0)))) = some r := h
  clear h
  replace H := Option.bind_eq_some_iff.mp H
  obtain ⟨t787, A20, H⟩ := H
  (try dsimp only at H)
  have A2 := A_ A20
  clear A20
  by_cases c3 : t787 = true
  · subst c3
    rw [if_pos rfl] at H
    obtain rfl := Option.some.inj H
    go_enter Tryz.func3, Tryz.ntmps3
    go_wp2_with (first | (go_at_call 4; (with_reducible refine (laws_big.calls _ _ l0 true _ ?side1 ?side2 A2.out).mono ?_); (case side1 => repeat (first | exact HR0.out | (with_reducible refine Kd.C_alloc ?_ _) | (with_reducible refine Kd.C_drewN ?_ _) | (with_reducible refine Kd.C_drew ?_))); (case side2 => exact HC0.out); rintro e w' ⟨rfl, ⟨nd, rfl⟩⟩; (try first | exact ⟨rfl, _, World.drewN_drewN _ _ _⟩ | exact ⟨rfl, _, Eq.trans (World.drewN_drewN _ _ _) (congrArg (World.drewN _) (Nat.add_assoc _ _ _))⟩)))
    repeat (go_quiet (first | (go_at_call 4; (with_reducible refine (laws_big.calls _ _ l0 true _ ?side1 ?side2 A2.out).mono ?_); (case side1 => repeat (first | exact HR0.out | (with_reducible refine Kd.C_alloc ?_ _) | (with_reducible refine Kd.C_drewN ?_ _) | (with_reducible refine Kd.C_drew ?_))); (case side2 => exact HC0.out); rintro e w' ⟨rfl, ⟨nd, rfl⟩⟩; (try first | exact ⟨rfl, _, World.drewN_drewN _ _ _⟩ | exact ⟨rfl, _, Eq.trans (World.drewN_drewN _ _ _) (congrArg (World.drewN _) (Nat.add_assoc _ _ _))⟩))); try go_wp2_with (first | (go_at_call 4; (with_reducible refine (laws_big.calls _ _ l0 true _ ?side1 ?side2 A2.out).mono ?_); (case side1 => repeat (first | exact HR0.out | (with_reducible refine Kd.C_alloc ?_ _) | (with_reducible refine Kd.C_drewN ?_ _) | (with_reducible refine Kd.C_drew ?_))); (case side2 => exact HC0.out); rintro e w' ⟨rfl, ⟨nd, rfl⟩⟩; (try first | exact ⟨rfl, _, World.drewN_drewN _ _ _⟩ | exact ⟨rfl, _, Eq.trans (World.drewN_drewN _ _ _) (congrArg (World.drewN _) (Nat.add_assoc _ _ _))⟩))))
    go_ret
    exact ⟨eR, oB HB⟩
  · replace c3 := Bool.eq_false_iff.mpr c3
    subst c3
    rw [if_neg (show ¬ (false = true) by decide)] at H
    replace H := Option.bind_eq_some_iff.mp H
    obtain ⟨⟨t788, t791, t792, t795, t796, t797, t800⟩, A40, H⟩ := H
    (try dsimp only at H)
    have A4 := A_ A40
    clear A40
    have H' := A_ H
    clear H
    go_enter Tryz.func3, Tryz.ntmps3
    go_wp2_with (first | (go_at_call 4; (with_reducible refine (laws_big.calls _ _ l0 false _ ?side1 ?side2 A2.out).mono ?_); (case side1 => repeat (first | exact HR0.out | (with_reducible refine Kd.C_alloc ?_ _) | (with_reducible refine Kd.C_drewN ?_ _) | (with_reducible refine Kd.C_drew ?_))); (case side2 => exact HC0.out); rintro e w' ⟨rfl, ⟨nd, rfl⟩⟩; (try first | exact ⟨rfl, _, World.drewN_drewN _ _ _⟩ | exact ⟨rfl, _, Eq.trans (World.drewN_drewN _ _ _) (congrArg (World.drewN _) (Nat.add_assoc _ _ _))⟩)) | (go_at_call 5; (with_reducible refine (spec_DrawActs.calls k _ _ l0 t788 t791 t792 t795 t796 t797 t800 _ ?side1 ?side2 A4.out).mono ?_); (case side1 => repeat (first | exact HR0.out | (with_reducible refine Kd.C_alloc ?_ _) | (with_reducible refine Kd.C_drewN ?_ _) | (with_reducible refine Kd.C_drew ?_))); (case side2 => exact HC0.out); rintro e w5 ⟨v789, v793, v798, v801, rfl, ho0, ho1, ho2, ho3, hb⟩; have n0_ := A_ (Kd.R_lower ho0 (below_size (oB HB))); have n1_ := A_ (Kd.R_lower ho1 (below_size (oB HB))); have n2_ := A_ (Kd.R_lower ho2 (below_size (oB HB))); have n3_ := A_ (Kd.R_lower ho3 (below_size (oB HB))); have n4_ := A_ (below_step (oB HB) hb); clear HB; have HO790 := n0_; have HO794 := n1_; have HO799 := n2_; have HO802 := n3_; have HB := n4_; clear n0_ n1_ n2_ n3_ n4_; (try clear hb); (try clear hb2); (try clear hk); (try clear hi); (try clear ho0); (try clear ho1); (try clear ho2); (try clear ho3)) | ((with_reducible refine gate_dst (N := 3) rfl ?_); refine bX (N := 3) (cs := #[.slice none 0 0, .int .i64 0, .slice none 0 0, .int .i64 0, .int .i64 0, .slice none 0 0]) (t := 30) ?_; intro gb803 hg w6 hbox hb; have n0_ := A_ (Kd.R_below (oR HO790) hb); have n1_ := A_ (Kd.R_below (oR HO794) hb); have n2_ := A_ (Kd.R_below (oR HO799) hb); have n3_ := A_ (Kd.R_below (oR HO802) hb); have n4_ := A_ (below_step (oB HB) hb); have n5_ := A_ (hbox); have n6_ := A_ ((by rw [hg]; exact (below_size (oB HB)) : w.heap.size ≤ gb803)); have n7_ := A_ ((by rw [hg]; exact (below_size (oB HB)) : w.heap.size ≤ gb803)); clear HO790; clear HO794; clear HO799; clear HO802; clear HB; have HO790 := n0_; have HO794 := n1_; have HO799 := n2_; have HO802 := n3_; have HB := n4_; have BK803 := n5_; have GW803 := n6_; have GE803 := n7_; clear n0_ n1_ n2_ n3_ n4_ n5_ n6_ n7_; clear hb hbox hg; obtain ⟨Ao7, co7, eo7⟩ := Kd.R_slice HO790.out; subst eo7; have hcz8_0 := cz BK803 0; have hcz8_1 := cz BK803 1; have hcz8_2 := cz BK803 2; have hcz8_3 := cz BK803 3; have hcz8_4 := cz BK803 4; have hcz8_5 := cz BK803 5; have hfz8_0 := blk_frozen BK803.out 0; have hfz8_1 := blk_frozen BK803.out 1; have hfz8_2 := blk_frozen BK803.out 2; have hfz8_3 := blk_frozen BK803.out 3; have hfz8_4 := blk_frozen BK803.out 4; have hfz8_5 := blk_frozen BK803.out 5; obtain ⟨Ao9, co9, eo9⟩ := Kd.R_slice HO794.out; subst eo9; obtain ⟨Ao10, co10, eo10⟩ := Kd.R_slice HO799.out; subst eo10))
    repeat (go_quiet (first | (go_at_call 4; (with_reducible refine (laws_big.calls _ _ l0 false _ ?side1 ?side2 A2.out).mono ?_); (case side1 => repeat (first | exact HR0.out | (with_reducible refine Kd.C_alloc ?_ _) | (with_reducible refine Kd.C_drewN ?_ _) | (with_reducible refine Kd.C_drew ?_))); (case side2 => exact HC0.out); rintro e w' ⟨rfl, ⟨nd, rfl⟩⟩; (try first | exact ⟨rfl, _, World.drewN_drewN _ _ _⟩ | exact ⟨rfl, _, Eq.trans (World.drewN_drewN _ _ _) (congrArg (World.drewN _) (Nat.add_assoc _ _ _))⟩)) | (go_at_call 5; (with_reducible refine (spec_DrawActs.calls k _ _ l0 t788 t791 t792 t795 t796 t797 t800 _ ?side1 ?side2 A4.out).mono ?_); (case side1 => repeat (first | exact HR0.out | (with_reducible refine Kd.C_alloc ?_ _) | (with_reducible refine Kd.C_drewN ?_ _) | (with_reducible refine Kd.C_drew ?_))); (case side2 => exact HC0.out); rintro e w5 ⟨v789, v793, v798, v801, rfl, ho0, ho1, ho2, ho3, hb⟩; have n0_ := A_ (Kd.R_lower ho0 (below_size (oB HB))); have n1_ := A_ (Kd.R_lower ho1 (below_size (oB HB))); have n2_ := A_ (Kd.R_lower ho2 (below_size (oB HB))); have n3_ := A_ (Kd.R_lower ho3 (below_size (oB HB))); have n4_ := A_ (below_step (oB HB) hb); clear HB; have HO790 := n0_; have HO794 := n1_; have HO799 := n2_; have HO802 := n3_; have HB := n4_; clear n0_ n1_ n2_ n3_ n4_; (try clear hb); (try clear hb2); (try clear hk); (try clear hi); (try clear ho0); (try clear ho1); (try clear ho2); (try clear ho3)) | ((with_reducible refine gate_dst (N := 3) rfl ?_); refine bX (N := 3) (cs := #[.slice none 0 0, .int .i64 0, .slice none 0 0, .int .i64 0, .int .i64 0, .slice none 0 0]) (t := 30) ?_; intro gb803 hg w6 hbox hb; have n0_ := A_ (Kd.R_below (oR HO790) hb); have n1_ := A_ (Kd.R_below (oR HO794) hb); have n2_ := A_ (Kd.R_below (oR HO799) hb); have n3_ := A_ (Kd.R_below (oR HO802) hb); have n4_ := A_ (below_step (oB HB) hb); have n5_ := A_ (hbox); have n6_ := A_ ((by rw [hg]; exact (below_size (oB HB)) : w.heap.size ≤ gb803)); have n7_ := A_ ((by rw [hg]; exact (below_size (oB HB)) : w.heap.size ≤ gb803)); clear HO790; clear HO794; clear HO799; clear HO802; clear HB; have HO790 := n0_; have HO794 := n1_; have HO799 := n2_; have HO802 := n3_; have HB := n4_; have BK803 := n5_; have GW803 := n6_; have GE803 := n7_; clear n0_ n1_ n2_ n3_ n4_ n5_ n6_ n7_; clear hb hbox hg; obtain ⟨Ao7, co7, eo7⟩ := Kd.R_slice HO790.out; subst eo7; have hcz8_0 := cz BK803 0; have hcz8_1 := cz BK803 1; have hcz8_2 := cz BK803 2; have hcz8_3 := cz BK803 3; have hcz8_4 := cz BK803 4; have hcz8_5 := cz BK803 5; have hfz8_0 := blk_frozen BK803.out 0; have hfz8_1 := blk_frozen BK803.out 1; have hfz8_2 := blk_frozen BK803.out 2; have hfz8_3 := blk_frozen BK803.out 3; have hfz8_4 := blk_frozen BK803.out 4; have hfz8_5 := blk_frozen BK803.out 5; obtain ⟨Ao9, co9, eo9⟩ := Kd.R_slice HO794.out; subst eo9; obtain ⟨Ao10, co10, eo10⟩ := Kd.R_slice HO799.out; subst eo10)); try go_wp2_with (first | (go_at_call 4; (with_reducible refine (laws_big.calls _ _ l0 false _ ?side1 ?side2 A2.out).mono ?_); (case side1 => repeat (first | exact HR0.out | (with_reducible refine Kd.C_alloc ?_ _) | (with_reducible refine Kd.C_drewN ?_ _) | (with_reducible refine Kd.C_drew ?_))); (case side2 => exact HC0.out); rintro e w' ⟨rfl, ⟨nd, rfl⟩⟩; (try first | exact ⟨rfl, _, World.drewN_drewN _ _ _⟩ | exact ⟨rfl, _, Eq.trans (World.drewN_drewN _ _ _) (congrArg (World.drewN _) (Nat.add_assoc _ _ _))⟩)) | (go_at_call 5; (with_reducible refine (spec_DrawActs.calls k _ _ l0 t788 t791 t792 t795 t796 t797 t800 _ ?side1 ?side2 A4.out).mono ?_); (case side1 => repeat (first | exact HR0.out | (with_reducible refine Kd.C_alloc ?_ _) | (with_reducible refine Kd.C_drewN ?_ _) | (with_reducible refine Kd.C_drew ?_))); (case side2 => exact HC0.out); rintro e w5 ⟨v789, v793, v798, v801, rfl, ho0, ho1, ho2, ho3, hb⟩; have n0_ := A_ (Kd.R_lower ho0 (below_size (oB HB))); have n1_ := A_ (Kd.R_lower ho1 (below_size (oB HB))); have n2_ := A_ (Kd.R_lower ho2 (below_size (oB HB))); have n3_ := A_ (Kd.R_lower ho3 (below_size (oB HB))); have n4_ := A_ (below_step (oB HB) hb); clear HB; have HO790 := n0_; have HO794 := n1_; have HO799 := n2_; have HO802 := n3_; have HB := n4_; clear n0_ n1_ n2_ n3_ n4_; (try clear hb); (try clear hb2); (try clear hk); (try clear hi); (try clear ho0); (try clear ho1); (try clear ho2); (try clear ho3)) | ((with_reducible refine gate_dst (N := 3) rfl ?_); refine bX (N := 3) (cs := #[.slice none 0 0, .int .i64 0, .slice none 0 0, .int .i64 0, .int .i64 0, .slice none 0 0]) (t := 30) ?_; intro gb803 hg w6 hbox hb; have n0_ := A_ (Kd.R_below (oR HO790) hb); have n1_ := A_ (Kd.R_below (oR HO794) hb); have n2_ := A_ (Kd.R_below (oR HO799) hb); have n3_ := A_ (Kd.R_below (oR HO802) hb); have n4_ := A_ (below_step (oB HB) hb); have n5_ := A_ (hbox); have n6_ := A_ ((by rw [hg]; exact (below_size (oB HB)) : w.heap.size ≤ gb803)); have n7_ := A_ ((by rw [hg]; exact (below_size (oB HB)) : w.heap.size ≤ gb803)); clear HO790; clear HO794; clear HO799; clear HO802; clear HB; have HO790 := n0_; have HO794 := n1_; have HO799 := n2_; have HO802 := n3_; have HB := n4_; have BK803 := n5_; have GW803 := n6_; have GE803 := n7_; clear n0_ n1_ n2_ n3_ n4_ n5_ n6_ n7_; clear hb hbox hg; obtain ⟨Ao7, co7, eo7⟩ := Kd.R_slice HO790.out; subst eo7; have hcz8_0 := cz BK803 0; have hcz8_1 := cz BK803 1; have hcz8_2 := cz BK803 2; have hcz8_3 := cz BK803 3; have hcz8_4 := cz BK803 4; have hcz8_5 := cz BK803 5; have hfz8_0 := blk_frozen BK803.out 0; have hfz8_1 := blk_frozen BK803.out 1; have hfz8_2 := blk_frozen BK803.out 2; have hfz8_3 := blk_frozen BK803.out 3; have hfz8_4 := blk_frozen BK803.out 4; have hfz8_5 := blk_frozen BK803.out 5; obtain ⟨Ao9, co9, eo9⟩ := Kd.R_slice HO794.out; subst eo9; obtain ⟨Ao10, co10, eo10⟩ := Kd.R_slice HO799.out; subst eo10)))
    go_loopg [5] k (fun kq v5 w' => ∃ (x5_1 : Int), v5 = .int .i64 x5_1 ∧ Aside0 (laws_FnActTexts.l0 kq t800 x5_1 = some r) ∧ Aside0 (kq ≤ k) ∧ Aside0 (Kd.R k37 37 w' w.heap.size (fun _ => True) v801 t800) ∧ Aside0 (Kd.R k95 95 w' w.heap.size (fun _ => True) (.slice Ao7 t788.length co7) t788) ∧ Aside0 (Kd.R (Kd.int .i64) 3 w' w.heap.size (fun _ => True) (.slice Ao9 t792.length co9) t792) ∧ Aside0 (Kd.R k101 101 w' w.heap.size (fun _ => True) (.slice Ao10 t797.length co10) t797) ∧ Aside0 (w'.heap[gb803]? = some (.cells #[(.slice Ao7 t788.length co7), .int .i64 t791, (.slice Ao9 t792.length co9), .int .i64 t795, .int .i64 t796, (.slice Ao10 t797.length co10)] 30 (0, 0))) ∧ Aside0 (Below w.heap.size w w'))
    case atStart => exact ⟨(0), (by first | rfl | (simp; done) | (simp [*]; done)), H', ⟨Nat.le_refl _⟩, ⟨by (with_reducible repeat (first | apply Kd.R_alloc | apply Kd.R_drewN | apply Kd.R_drew)); exact Kd.R_mono (Kd.R_far (p := ⟨gb803, 5, none⟩) (Kd.R_far (p := ⟨gb803, 4, none⟩) (Kd.R_far (p := ⟨gb803, 3, none⟩) (Kd.R_far (p := ⟨gb803, 2, none⟩) (Kd.R_far (p := ⟨gb803, 1, none⟩) (Kd.R_far (p := ⟨gb803, 0, none⟩) (Kd.R_types HO802.out BK803.out (by decide)) (fun _ hk => hk.2) (.slice Ao7 t788.length co7)) (fun _ hk => hk.2) (.int .i64 t791)) (fun _ hk => hk.2) (.slice Ao9 t792.length co9)) (fun _ hk => hk.2) (.int .i64 t795)) (fun _ hk => hk.2) (.int .i64 t796)) (fun _ hk => hk.2) (.slice Ao10 t797.length co10)) (fun _ hk => trivial)⟩, ⟨by (with_reducible repeat (first | apply Kd.R_alloc | apply Kd.R_drewN | apply Kd.R_drew)); exact Kd.R_mono (Kd.R_far (p := ⟨gb803, 5, none⟩) (Kd.R_far (p := ⟨gb803, 4, none⟩) (Kd.R_far (p := ⟨gb803, 3, none⟩) (Kd.R_far (p := ⟨gb803, 2, none⟩) (Kd.R_far (p := ⟨gb803, 1, none⟩) (Kd.R_far (p := ⟨gb803, 0, none⟩) (Kd.R_types HO790.out BK803.out (by decide)) (fun _ hk => hk.2) (.slice Ao7 t788.length co7)) (fun _ hk => hk.2) (.int .i64 t791)) (fun _ hk => hk.2) (.slice Ao9 t792.length co9)) (fun _ hk => hk.2) (.int .i64 t795)) (fun _ hk => hk.2) (.int .i64 t796)) (fun _ hk => hk.2) (.slice Ao10 t797.length co10)) (fun _ hk => trivial)⟩, ⟨by (with_reducible repeat (first | apply Kd.R_alloc | apply Kd.R_drewN | apply Kd.R_drew)); exact Kd.R_mono (Kd.R_far (p := ⟨gb803, 5, none⟩) (Kd.R_far (p := ⟨gb803, 4, none⟩) (Kd.R_far (p := ⟨gb803, 3, none⟩) (Kd.R_far (p := ⟨gb803, 2, none⟩) (Kd.R_far (p := ⟨gb803, 1, none⟩) (Kd.R_far (p := ⟨gb803, 0, none⟩) (Kd.R_types HO794.out BK803.out (by decide)) (fun _ hk => hk.2) (.slice Ao7 t788.length co7)) (fun _ hk => hk.2) (.int .i64 t791)) (fun _ hk => hk.2) (.slice Ao9 t792.length co9)) (fun _ hk => hk.2) (.int .i64 t795)) (fun _ hk => hk.2) (.int .i64 t796)) (fun _ hk => hk.2) (.slice Ao10 t797.length co10)) (fun _ hk => trivial)⟩, ⟨by (with_reducible repeat (first | apply Kd.R_alloc | apply Kd.R_drewN | apply Kd.R_drew)); exact Kd.R_mono (Kd.R_far (p := ⟨gb803, 5, none⟩) (Kd.R_far (p := ⟨gb803, 4, none⟩) (Kd.R_far (p := ⟨gb803, 3, none⟩) (Kd.R_far (p := ⟨gb803, 2, none⟩) (Kd.R_far (p := ⟨gb803, 1, none⟩) (Kd.R_far (p := ⟨gb803, 0, none⟩) (Kd.R_types HO799.out BK803.out (by decide)) (fun _ hk => hk.2) (.slice Ao7 t788.length co7)) (fun _ hk => hk.2) (.int .i64 t791)) (fun _ hk => hk.2) (.slice Ao9 t792.length co9)) (fun _ hk => hk.2) (.int .i64 t795)) (fun _ hk => hk.2) (.int .i64 t796)) (fun _ hk => hk.2) (.slice Ao10 t797.length co10)) (fun _ hk => trivial)⟩, ⟨by (with_reducible repeat (first | refine blk_drewN ?_ _ | refine blk_drew ?_ | refine blk_alloc ?_ _)); refine blk_put (cs := #[.slice Ao7 t788.length co7, .int .i64 t791, .slice Ao9 t792.length co9, .int .i64 t795, .int .i64 t796, .slice none 0 0]) ?_ 5 _ rfl; (with_reducible repeat (first | refine blk_drewN ?_ _ | refine blk_drew ?_ | refine blk_alloc ?_ _)); refine blk_put (cs := #[.slice Ao7 t788.length co7, .int .i64 t791, .slice Ao9 t792.length co9, .int .i64 t795, .int .i64 0, .slice none 0 0]) ?_ 4 _ rfl; (with_reducible repeat (first | refine blk_drewN ?_ _ | refine blk_drew ?_ | refine blk_alloc ?_ _)); refine blk_put (cs := #[.slice Ao7 t788.length co7, .int .i64 t791, .slice Ao9 t792.length co9, .int .i64 0, .int .i64 0, .slice none 0 0]) ?_ 3 _ rfl; (with_reducible repeat (first | refine blk_drewN ?_ _ | refine blk_drew ?_ | refine blk_alloc ?_ _)); refine blk_put (cs := #[.slice Ao7 t788.length co7, .int .i64 t791, .slice none 0 0, .int .i64 0, .int .i64 0, .slice none 0 0]) ?_ 2 _ rfl; (with_reducible repeat (first | refine blk_drewN ?_ _ | refine blk_drew ?_ | refine blk_alloc ?_ _)); refine blk_put (cs := #[.slice Ao7 t788.length co7, .int .i64 0, .slice none 0 0, .int .i64 0, .int .i64 0, .slice none 0 0]) ?_ 1 _ rfl; (with_reducible repeat (first | refine blk_drewN ?_ _ | refine blk_drew ?_ | refine blk_alloc ?_ _)); refine blk_put (cs := #[.slice none 0 0, .int .i64 0, .slice none 0 0, .int .i64 0, .int .i64 0, .slice none 0 0]) ?_ 0 _ rfl; (with_reducible repeat (first | refine blk_drewN ?_ _ | refine blk_drew ?_ | refine blk_alloc ?_ _)); exact BK803.out⟩, ⟨oB HB⟩⟩
    case round =>
      clear H'
      try clear p2
      try clear c3
      try clear hcz8_0
      try clear hcz8_1
      try clear hcz8_2
      try clear hcz8_3
      try clear hcz8_4
      try clear hcz8_5
      try clear hfz8_0
      try clear hfz8_1
      try clear hfz8_2
      try clear hfz8_3
      try clear hfz8_4
      try clear hfz8_5
      obtain ⟨x5_1, rfl, HA, HK1, HO_4, HO_804000, HO_804002, HO_804005, BK803, HB⟩ := hrel
      cases gk with
      | zero => exact absurd HA.out (by simp [laws_FnActTexts.l0])
      | succ k1 =>
        have H := HA.out
        clear HA
        simp only [laws_FnActTexts.l0] at H
        by_cases c11 : x5_1 < (t800.length : Int)
        · rw [if_pos c11] at H
          have c11b0 : decide (x5_1 < (t800.length : Int)) = true := decide_eq_true c11
          clear c11
          by_cases c12 : 0 ≤ x5_1
          · rw [if_pos c12] at H
            have c12b0 : decide (0 ≤ x5_1) = true := decide_eq_true c12
            clear c12
            replace H := Option.bind_eq_some_iff.mp H
            obtain ⟨⟨t805, t806⟩, A130, H⟩ := H
            (try dsimp only at H)
            have A13 := A_ A130
            clear A130
            by_cases c14 : 2 + t805.size ≤ 9223372036854775807
            · rw [if_pos c14] at H
              have c14b0 := eq_true c14
              have c14b1 : decide (2 + t805.size ≤ 9223372036854775807) = true := decide_eq_true c14
              try have c14b2 : (9223372036854775807 < 2 + t805.size) = False := eq_false (Nat.not_lt.2 c14)
              by_cases c15 : ((⟨#[32, 32]⟩ : ByteArray) ++ t805).size + 1 ≤ 9223372036854775807
              · rw [if_pos c15] at H
                have c15b0 := eq_true c15
                have c15b1 : decide (((⟨#[32, 32]⟩ : ByteArray) ++ t805).size + 1 ≤ 9223372036854775807) = true := decide_eq_true c15
                try have c15b2 : (9223372036854775807 < ((⟨#[32, 32]⟩ : ByteArray) ++ t805).size + 1) = False := eq_false (Nat.not_lt.2 c15)
                have e_ : ((⟨#[32, 32]⟩ : ByteArray) ++ t805).size = 2 + t805.size := by rw [ByteArray.size_append]; rfl
                have c15n5 : (9223372036854775807 < 2 + t805.size + 1) = False := eq_false (by rw [e_] at c15; omega)
                clear e_
                replace H := Option.bind_eq_some_iff.mp H
                obtain ⟨⟨t807, t808, t809, t810, t811⟩, A160, H⟩ := H
                (try dsimp only at H)
                have A16 := A_ A160
                clear A160
                by_cases c17 : t806 = true
                · subst c17
                  rw [if_pos rfl] at H
                  by_cases c18 : t811 = true
                  · subst c18
                    rw [if_pos rfl] at H
                    by_cases c19 : (!(t807 == ((rd_T37 t800 x5_1).f0)) || (!(t808 == ((rd_T37 t800 x5_1).f1)) || (!(t809 == ((rd_T37 t800 x5_1).f2)) || (!(t810 == ((rd_T37 t800 x5_1).f3)))))) = true
                    · rw [if_pos c19] at H
                      have c19b0 : (!(t807 == ((rd_T37 t800 x5_1).f0)) || (!(t808 == ((rd_T37 t800 x5_1).f1)) || (!(t809 == ((rd_T37 t800 x5_1).f2)) || (!(t810 == ((rd_T37 t800 x5_1).f3)))))) = true := c19
                      clear c19
                      exact absurd ((Option.some.inj H).trans hrt_.out) (by decide)
                    · rw [if_neg c19] at H
                      have c19b0 : (!(t807 == ((rd_T37 t800 x5_1).f0)) || (!(t808 == ((rd_T37 t800 x5_1).f1)) || (!(t809 == ((rd_T37 t800 x5_1).f2)) || (!(t810 == ((rd_T37 t800 x5_1).f3)))))) = false := by simpa using c19
                      clear c19
                      have H' := A_ H
                      clear H
                      obtain ⟨Ao20, co20, eo20⟩ := Kd.R_slice HO_4.out
                      subst eo20
                      have p804 : 0 ≤ (x5_1 : Int) := of_decide_eq_true (by first | (with_reducible assumption) | assumption)
                      have q804 : x5_1 < (t800.length : Int) := of_decide_eq_true (by first | (with_reducible assumption) | assumption)
                      obtain ⟨ad804, e804, hx804_0, hx804_1, hx804_2, hx804_3⟩ := at_T37 (Kd.R_reads' HO_4.out).2.2 x5_1 p804 q804
                      cases e804
                      replace p804 := eq_true p804
                      replace q804 := eq_true q804
                      go_wp2_with (first | (go_at_call 6; (with_reducible refine (impl_FormatAct.calls k1 ((rd_T37 t800 x5_1).f0) ((rd_T37 t800 x5_1).f1) ((rd_T37 t800 x5_1).f2) ((rd_T37 t800 x5_1).f3) t805 true _ A13.out ?sideT).mono ?_); (case sideT => exact ⟨tab_on ht_.out.1 (oB HB)⟩); rintro e w21 ⟨rfl, hb⟩; have n0_ := A_ (Kd.R_below (oR HO_4) hb); have n1_ := A_ (Kd.R_below (oR HO_804000) hb); have n2_ := A_ (Kd.R_below (oR HO_804002) hb); have n3_ := A_ (Kd.R_below (oR HO_804005) hb); have n4_ := A_ (bb BK803 hb); have n5_ := A_ (below_step (oB HB) hb); clear HO_4; clear HO_804000; clear HO_804002; clear HO_804005; clear BK803; clear HB; have HO_4 := n0_; have HO_804000 := n1_; have HO_804002 := n2_; have HO_804005 := n3_; have BK803 := n4_; have HB := n5_; clear n0_ n1_ n2_ n3_ n4_ n5_; (try clear hb); (try clear hb2); (try clear hk); (try clear hi)) | (go_at_call 7; (with_reducible refine (impl_ParseAct.calls k1 (((⟨#[32, 32]⟩ : ByteArray) ++ t805) ++ (⟨#[32]⟩ : ByteArray)) t807 t808 t809 t810 true _ A16.out ?sideT).mono ?_); (case sideT => exact ⟨tabE_on ht_.out (oB HB)⟩); rintro e w22 ⟨rfl, hb⟩; have n0_ := A_ (Kd.R_below (oR HO_4) hb); have n1_ := A_ (Kd.R_below (oR HO_804000) hb); have n2_ := A_ (Kd.R_below (oR HO_804002) hb); have n3_ := A_ (Kd.R_below (oR HO_804005) hb); have n4_ := A_ (bb BK803 hb); have n5_ := A_ (below_step (oB HB) hb); clear HO_4; clear HO_804000; clear HO_804002; clear HO_804005; clear BK803; clear HB; have HO_4 := n0_; have HO_804000 := n1_; have HO_804002 := n2_; have HO_804005 := n3_; have BK803 := n4_; have HB := n5_; clear n0_ n1_ n2_ n3_ n4_ n5_; (try clear hb); (try clear hb2); (try clear hk); (try clear hi)) | ((with_reducible refine gate_dst (N := 8) rfl ?_); refine bX (N := 8) (cs := #[.int .i64 0, .int .i64 0, .int .i64 0, .int .i64 0]) (t := 37) ?_; intro gb812 hg w23 hbox hb; have n0_ := A_ (Kd.R_below (Kd.R_elderB (oR HO_4) gb812 (Nat.le_of_eq hg.symm)) hb); have n1_ := A_ (Kd.R_below (oR HO_804000) hb); have n2_ := A_ (Kd.R_below (oR HO_804002) hb); have n3_ := A_ (Kd.R_below (oR HO_804005) hb); have n4_ := A_ (bb BK803 hb); have n5_ := A_ (below_step (oB HB) hb); have n6_ := A_ (hbox); have n7_ := A_ ((by rw [hg]; exact (below_size (oB HB)) : w.heap.size ≤ gb812)); have n8_ := A_ ((by rw [hg]; exact (below_size (oB HB)) : w.heap.size ≤ gb812)); have n9_ := A_ (nL BK803 hg); have n10_ := A_ (nG BK803 hg); clear HO_4; clear HO_804000; clear HO_804002; clear HO_804005; clear BK803; clear HB; have HO_4 := n0_; have HO_804000 := n1_; have HO_804002 := n2_; have HO_804005 := n3_; have BK803 := n4_; have HB := n5_; have BK812 := n6_; have GW812 := n7_; have GE812 := n8_; have NB803_812 := n9_; have NB812_803 := n10_; clear n0_ n1_ n2_ n3_ n4_ n5_ n6_ n7_ n8_ n9_ n10_; clear hb hbox hg; have hnb24 := NB812_803.out; have hnc24 := NB803_812.out; have hcz25_0 := cz BK812 0; have hcz25_1 := cz BK812 1; have hcz25_2 := cz BK812 2; have hcz25_3 := cz BK812 3; have hfz25_0 := blk_frozen BK812.out 0; have hfz25_1 := blk_frozen BK812.out 1; have hfz25_2 := blk_frozen BK812.out 2; have hfz25_3 := blk_frozen BK812.out 3; have p813 : 0 ≤ (x5_1 : Int) := of_decide_eq_true (by first | (with_reducible assumption) | assumption); have q813 : x5_1 < (t800.length : Int) := of_decide_eq_true (by first | (with_reducible assumption) | assumption); obtain ⟨ad813, e813, hx813_0, hx813_1, hx813_2, hx813_3⟩ := at_T37 (Kd.R_reads' HO_4.out).2.2 x5_1 p813 q813; obtain rfl : ad804 = ad813 := (by injection e813); have hn813_0 : ad804.block ≠ gb812 := Kd.own_blk (Kd.R_ne HO_4.out BK812.out (by decide)); have hn813_1 : ad804.block ≠ gb812 := Kd.own_blk (Kd.R_ne HO_4.out BK812.out (by decide)); have hn813_2 : ad804.block ≠ gb812 := Kd.own_blk (Kd.R_ne HO_4.out BK812.out (by decide)); have hn813_3 : ad804.block ≠ gb812 := Kd.own_blk (Kd.R_ne HO_4.out BK812.out (by decide)); replace hx813_0 := (cell_far (p := ⟨gb812, 0, none⟩) (by first | (rw [add_block]; exact hn813_0) | (show (Addr.add _ _).block ≠ _; rw [add_block]; exact hn813_0) | exact hn813_0) (.int .i64 t807)).trans hx813_0; replace hx813_1 := (cell_far (p := ⟨gb812, 0, none⟩) (by first | (rw [add_block]; exact hn813_0) | (show (Addr.add _ _).block ≠ _; rw [add_block]; exact hn813_0) | exact hn813_0) (.int .i64 t807)).trans hx813_1; replace hx813_2 := (cell_far (p := ⟨gb812, 0, none⟩) (by first | (rw [add_block]; exact hn813_0) | (show (Addr.add _ _).block ≠ _; rw [add_block]; exact hn813_0) | exact hn813_0) (.int .i64 t807)).trans hx813_2; replace hx813_3 := (cell_far (p := ⟨gb812, 0, none⟩) (by first | (rw [add_block]; exact hn813_0) | (show (Addr.add _ _).block ≠ _; rw [add_block]; exact hn813_0) | exact hn813_0) (.int .i64 t807)).trans hx813_3; replace hx813_0 := (cell_far (p := ⟨gb812, 1, none⟩) (by first | (rw [add_block]; exact hn813_1) | (show (Addr.add _ _).block ≠ _; rw [add_block]; exact hn813_1) | exact hn813_1) (.int .i64 t808)).trans hx813_0; replace hx813_1 := (cell_far (p := ⟨gb812, 1, none⟩) (by first | (rw [add_block]; exact hn813_1) | (show (Addr.add _ _).block ≠ _; rw [add_block]; exact hn813_1) | exact hn813_1) (.int .i64 t808)).trans hx813_1; replace hx813_2 := (cell_far (p := ⟨gb812, 1, none⟩) (by first | (rw [add_block]; exact hn813_1) | (show (Addr.add _ _).block ≠ _; rw [add_block]; exact hn813_1) | exact hn813_1) (.int .i64 t808)).trans hx813_2; replace hx813_3 := (cell_far (p := ⟨gb812, 1, none⟩) (by first | (rw [add_block]; exact hn813_1) | (show (Addr.add _ _).block ≠ _; rw [add_block]; exact hn813_1) | exact hn813_1) (.int .i64 t808)).trans hx813_3; replace hx813_0 := (cell_far (p := ⟨gb812, 2, none⟩) (by first | (rw [add_block]; exact hn813_2) | (show (Addr.add _ _).block ≠ _; rw [add_block]; exact hn813_2) | exact hn813_2) (.int .i64 t809)).trans hx813_0; replace hx813_1 := (cell_far (p := ⟨gb812, 2, none⟩) (by first | (rw [add_block]; exact hn813_2) | (show (Addr.add _ _).block ≠ _; rw [add_block]; exact hn813_2) | exact hn813_2) (.int .i64 t809)).trans hx813_1; replace hx813_2 := (cell_far (p := ⟨gb812, 2, none⟩) (by first | (rw [add_block]; exact hn813_2) | (show (Addr.add _ _).block ≠ _; rw [add_block]; exact hn813_2) | exact hn813_2) (.int .i64 t809)).trans hx813_2; replace hx813_3 := (cell_far (p := ⟨gb812, 2, none⟩) (by first | (rw [add_block]; exact hn813_2) | (show (Addr.add _ _).block ≠ _; rw [add_block]; exact hn813_2) | exact hn813_2) (.int .i64 t809)).trans hx813_3; replace hx813_0 := (cell_far (p := ⟨gb812, 3, none⟩) (by first | (rw [add_block]; exact hn813_3) | (show (Addr.add _ _).block ≠ _; rw [add_block]; exact hn813_3) | exact hn813_3) (.int .i64 t810)).trans hx813_0; replace hx813_1 := (cell_far (p := ⟨gb812, 3, none⟩) (by first | (rw [add_block]; exact hn813_3) | (show (Addr.add _ _).block ≠ _; rw [add_block]; exact hn813_3) | exact hn813_3) (.int .i64 t810)).trans hx813_1; replace hx813_2 := (cell_far (p := ⟨gb812, 3, none⟩) (by first | (rw [add_block]; exact hn813_3) | (show (Addr.add _ _).block ≠ _; rw [add_block]; exact hn813_3) | exact hn813_3) (.int .i64 t810)).trans hx813_2; replace hx813_3 := (cell_far (p := ⟨gb812, 3, none⟩) (by first | (rw [add_block]; exact hn813_3) | (show (Addr.add _ _).block ≠ _; rw [add_block]; exact hn813_3) | exact hn813_3) (.int .i64 t810)).trans hx813_3; (try have hy813_0 := fun (n_ : Nat) => (show ((((((w23.drewN n_).setCell ⟨gb812, 0, none⟩ (.int .i64 t807)).setCell ⟨gb812, 1, none⟩ (.int .i64 t808)).setCell ⟨gb812, 2, none⟩ (.int .i64 t809)).setCell ⟨gb812, 3, none⟩ (.int .i64 t810))).cell? _ = some _ from hx813_0)); (try have hy813_1 := fun (n_ : Nat) => (show ((((((w23.drewN n_).setCell ⟨gb812, 0, none⟩ (.int .i64 t807)).setCell ⟨gb812, 1, none⟩ (.int .i64 t808)).setCell ⟨gb812, 2, none⟩ (.int .i64 t809)).setCell ⟨gb812, 3, none⟩ (.int .i64 t810))).cell? _ = some _ from hx813_1)); (try have hy813_2 := fun (n_ : Nat) => (show ((((((w23.drewN n_).setCell ⟨gb812, 0, none⟩ (.int .i64 t807)).setCell ⟨gb812, 1, none⟩ (.int .i64 t808)).setCell ⟨gb812, 2, none⟩ (.int .i64 t809)).setCell ⟨gb812, 3, none⟩ (.int .i64 t810))).cell? _ = some _ from hx813_2)); (try have hy813_3 := fun (n_ : Nat) => (show ((((((w23.drewN n_).setCell ⟨gb812, 0, none⟩ (.int .i64 t807)).setCell ⟨gb812, 1, none⟩ (.int .i64 t808)).setCell ⟨gb812, 2, none⟩ (.int .i64 t809)).setCell ⟨gb812, 3, none⟩ (.int .i64 t810))).cell? _ = some _ from hx813_3)); clear hn813_0; clear hn813_1; clear hn813_2; clear hn813_3; replace p813 := eq_true p813; replace q813 := eq_true q813))
                      obtain ⟨ad9, e9, hz0, hz1, hz2, hz3⟩ := at_T37 (Kd.C_alloc (Kd.R_reads' HO_4.out).2.2 (.cells #[.int .i64 t807, .int .i64 t808, .int .i64 t809, .int .i64 t810] 37 (0, 0))) x5_1 (of_eq_true p804) (of_eq_true q804)
                      cases e9
                      simp only [Bool.or_eq_false_iff, Bool.not_eq_false', beq_iff_eq] at c19b0
                      obtain ⟨e7, e8, e9_, e10⟩ := c19b0
                      subst e7 e8 e9_ e10
                      have jb : Blk (w22.alloc (.cells #[.int .i64 (rd_T37 t800 x5_1).f0, .int .i64 (rd_T37 t800 x5_1).f1, .int .i64 (rd_T37 t800 x5_1).f2, .int .i64 (rd_T37 t800 x5_1).f3] 37 (0, 0))) w22.heap.size _ _ := ⟨blk_new _ _⟩
                      have jc0 : CelR _ _ _ := ⟨hz0⟩
                      have jc1 : CelR _ _ _ := ⟨hz1⟩
                      have jc2 : CelR _ _ _ := ⟨hz2⟩
                      have jc3 : CelR _ _ _ := ⟨hz3⟩
                      refine qR' (id := 9) (ds := []) (l := #[false, false, false, false, false, false, false, false, false, false, false, false, false, false]) laws_FnActTexts.tab9 laws_FnActTexts.bits9 fun HT_ HW_ hHeld => ?_
                      refine qA 0 (some 38) HT_ ?_
                      refine qA 1 (some 39) HT_ ?_
                      refine qA 2 (some 40) HT_ ?_
                      refine qA 3 (some 41) HT_ ?_
                      refine qA 4 (some 42) HT_ ?_
                      refine qA 5 (some 43) HT_ ?_
                      refine qA 6 (some 44) HT_ ?_
                      refine qT 7 (some 45) HT_ HW_ hHeld ?_
                      refine qA 8 (some 46) HT_ ?_
                      refine qA 9 (some 47) HT_ ?_
                      refine qA 10 (some 48) HT_ ?_
                      refine qT 11 (some 49) HT_ HW_ hHeld ?_
                      refine qA 12 (some 50) HT_ ?_
                      refine qA 13 (some 51) HT_ ?_
                      refine qD HT_ ?_
                      go_wp2
                      go_roundg k1
                      case measure => have := HK1.out; omega
                      case rel => exact ⟨(wrap64 (x5_1 + 1)), (by first | rfl | (simp; done) | (simp [*]; done)), H', ⟨by have := HK1.out; omega⟩, ⟨oR HO_4⟩, ⟨oR HO_804000⟩, ⟨oR HO_804002⟩, ⟨oR HO_804005⟩, ⟨oK BK803⟩, ⟨by repeat (first | exact HB.out | apply below_alloc | apply pw_below_drewN | apply below_drew1)⟩⟩
                  · replace c18 := Bool.eq_false_iff.mpr c18
                    subst c18
                    rw [if_neg (show ¬ (false = true) by decide)] at H
                    exact absurd ((Option.some.inj H).trans hrt_.out) (by decide)
                · replace c17 := Bool.eq_false_iff.mpr c17
                  subst c17
                  rw [if_neg (show ¬ (false = true) by decide)] at H
                  exact absurd ((Option.some.inj H).trans hrt_.out) (by decide)
              · rw [if_neg c15] at H
                exact absurd H (by simp)
            · rw [if_neg c14] at H
              exact absurd H (by simp)
          · rw [if_neg c12] at H
            exact absurd H (by simp)
        · rw [if_neg c11] at H
          have c11b0 : decide (x5_1 < (t800.length : Int)) = false := decide_eq_false c11
          clear c11
          obtain rfl := Option.some.inj H
          obtain ⟨Ao26, co26, eo26⟩ := Kd.R_slice HO_4.out
          subst eo26
          go_wp2
          repeat (go_quiet (fail); try go_wp2)
          go_ret
          exact ⟨eR, oB HB⟩
end Go.Proofs.YtojiighpkppckaaGreatDoor.P


namespace Go.Proofs.YtojiighpkppckaaGreatDoor.Q
set_option linter.unusedVariables false
set_option linter.unusedSimpArgs false
open Go.RowKit Go.Proofs.YtojiighpkppckaaGreatDoorW.PrintWords
theorem evp {α : Type} {c : Prop} [Decidable c] (h : c) {f g : Nat → Option α} {r : α} (k : Ev f r) : Ev (fun n => if c then f n else g n) r := by
  simp only [if_pos h]; exact k
theorem evn {α : Type} {c : Prop} [Decidable c] (h : ¬ c) {f g : Nat → Option α} {r : α} (k : Ev g r) : Ev (fun n => if c then f n else g n) r := by
  simp only [if_neg h]; exact k
theorem evi {α : Type} {c : Prop} [Decidable c] {f g : Nat → Option α} {r : α} (k1 : c → Ev f r) (k2 : ¬ c → Ev g r) : Ev (fun n => if c then f n else g n) r := by
  by_cases h : c
  · exact evp h (k1 h)
  · exact evn h (k2 h)
theorem evb {α β : Type} {x : Option α} {f : Nat → α → Option β} {a : α} {r : β} (h : x = some a) (k : Ev (fun n => f n a) r) : Ev (fun n => x.bind (f n)) r := by
  simp only [h, Option.bind_some]; exact k
theorem evs {α : Type} {a b : α} (h : a = b) : Ev (fun _ => some a) b := h ▸ Ev.now a
theorem rpos {α : Type} {c : Prop} [Decidable c] (h : c) {f : Nat → Option α} {r s : α} (k : Ev f r) : Ev f (if c then r else s) := by rw [if_pos h]; exact k
theorem rneg {α : Type} {c : Prop} [Decidable c] (h : ¬ c) {f : Nat → Option α} {r s : α} (k : Ev f s) : Ev f (if c then r else s) := by rw [if_neg h]; exact k
theorem btrue {c : Prop} [Decidable c] (h : c) : decide c = true := decide_eq_true h
theorem bfalse {c : Prop} [Decidable c] (h : ¬ c) : ¬ decide c = true := by simpa using h
theorem down {P : Nat → Prop} {n : Nat} (he : P n) (hs : ∀ i, i < n → P (i + 1) → P i) (i : Nat) (h : i ≤ n) : P i := by
  obtain ⟨d, rfl⟩ : ∃ d, n = i + d := ⟨n - i, by omega⟩
  clear h
  induction d generalizing i with
  | zero => exact he
  | succ d ih =>
    refine hs i (by omega) (ih (i + 1) ?_ ?_)
    · rw [show i + 1 + d = i + (d + 1) by omega]; exact he
    · intro j hj; exact hs j (by omega)
theorem w64 {n : Int} (h1 : -9223372036854775808 ≤ n) (h2 : n ≤ 9223372036854775807) : wrap64 n = n := by unfold wrap64; omega
theorem rd_nat (l : List Int) (i : Nat) (h : i < l.length) : rd l (i : Int) = l[i] := by
  unfold rd; simp [List.getD_eq_getElem?_getD, h]
theorem drop_cons {α : Type} (l : List α) (i : Nat) (h : i < l.length) : l.drop i = l[i] :: l.drop (i + 1) := List.drop_eq_getElem_cons h
theorem drop_end {α : Type} (l : List α) : l.drop l.length = [] := List.drop_eq_nil_of_le (Nat.le_refl _)
end Go.Proofs.YtojiighpkppckaaGreatDoor.Q


namespace Go.Proofs.YtojiighpkppckaaGreatDoor.Q
set_option linter.unusedVariables false
set_option linter.unusedSimpArgs false
open Go.RowKit Go.Proofs.YtojiighpkppckaaGreatDoor.P Go.Proofs.YtojiighpkppckaaGreatDoorW.PrintWords
theorem within_eq (a b c : Int) : impl_within.f a b c = some (decide (b ≤ a ∧ a ≤ c)) := by
  unfold impl_within.f; by_cases h : b ≤ a <;> simp [h]
theorem l01In_eq (a b c : Int) : spec_l01In.f a b c = some (decide (b ≤ a ∧ a ≤ c)) := by
  unfold spec_l01In.f; by_cases h : a ≥ b
  · rw [if_pos h]; simp [show b ≤ a from h]
  · rw [if_neg h]; simp [show ¬ b ≤ a from h]
end Go.Proofs.YtojiighpkppckaaGreatDoor.Q


namespace Go.Proofs.YtojiighpkppckaaGreatDoor.Q
set_option linter.unusedVariables false
set_option linter.unusedSimpArgs false
open Go.RowKit Go.Proofs.YtojiighpkppckaaGreatDoor.P Go.Proofs.YtojiighpkppckaaGreatDoorW.PrintWords
def txt (l : List UInt8) : ByteArray := ⟨l.toArray⟩
theorem txt_app (a b : List UInt8) : txt a ++ txt b = txt (a ++ b) := by
  apply ByteArray.ext
  simp [txt]
theorem txt_size (a : List UInt8) : (txt a).size = a.length := by simp [txt, ByteArray.size]
theorem txt_data (a : List UInt8) : (txt a).data.toList = a := by simp [txt]
theorem txt_inj {a b : List UInt8} (h : txt a = txt b) : a = b := by have := congrArg (fun s => s.data.toList) h; simpa [txt] using this
def num (n : Int) : List UInt8 := Go.Lib.itoa n
theorem fmt_impl (n : Int) (h1 : -9223372036854775808 ≤ n) (h2 : n ≤ 9223372036854775807) : impl_FormatInt.f n = some (txt (num n)) := by
  unfold impl_FormatInt.f
  rw [if_pos ⟨h1, h2⟩]; rfl
theorem num_len (n : Int) (h1 : -9223372036854775808 ≤ n) (h2 : n ≤ 9223372036854775807) : (num n).length ≤ 21 := Go.Lib.itoa_length_le n h1 h2
def tail_ (l : List Int) : List UInt8 := l.flatMap fun n => 32 :: num n
theorem tail_len (l : List Int) (h : ∀ n ∈ l, -9223372036854775808 ≤ n ∧ n ≤ 9223372036854775807) : (tail_ l).length ≤ 22 * l.length := by
  induction l with
  | nil => simp [tail_]
  | cons a r ih =>
    have h1 := num_len a (h a (by simp)).1 (h a (by simp)).2
    have h2 := ih (fun n hn => h n (by simp [hn]))
    simp only [tail_, List.flatMap_cons, List.length_append, List.length_cons] at h2 ⊢
    omega
def line (l : List Int) : List UInt8 := Go.Lib.join (l.map num) [32]
theorem line_cons (a : Int) (r : List Int) : line (a :: r) = num a ++ tail_ r := by
  unfold line
  rw [List.map_cons, Go.Lib.join_cons]
  congr 1
  induction r with
  | nil => rfl
  | cons b r ih =>
    simp only [Go.Lib.joinTail, List.map_cons, List.flatten_cons, tail_, List.flatMap_cons] at ih ⊢
    rw [ih]; rfl
theorem line_len (l : List Int) (h : ∀ n ∈ l, -9223372036854775808 ≤ n ∧ n ≤ 9223372036854775807) : (line l).length ≤ 22 * l.length := by
  cases l with
  | nil => simp [line, Go.Lib.join_nil]
  | cons a r =>
    rw [line_cons]
    have h1 := num_len a (h a (by simp)).1 (h a (by simp)).2
    have h2 := tail_len r (fun n hn => h n (by simp [hn]))
    simp only [List.length_append, List.length_cons]
    omega
theorem words_l0 (l : List Int) (h : ∀ n ∈ l, -9223372036854775808 ≤ n ∧ n ≤ 9223372036854775807) (hl : l.length ≤ 1048576) : ∀ (d i : Nat), i + d = l.length →
    Ev (fun k => impl_words.l0 k ((l.take i).map fun n => txt (num n)) l (l.length : Int) (i : Int)) (txt (line l)) := by
  intro d
  induction d with
  | zero =>
    intro i hi
    obtain rfl : i = l.length := by omega
    refine Ev.step (fun k => by rw [impl_words.l0]) (evn (by omega) ?_)
    refine evb (a := txt (line l)) ?_ (evs rfl)
    unfold strings_Join.f
    rw [List.take_length]
    have e : ((l.map fun n => txt (num n)).map fun x => x.data.toList) = l.map num := by
      rw [List.map_map]
      exact List.map_congr_left (fun n _ => txt_data _)
    rw [e]
    have h3 := line_len l h
    rw [if_pos ⟨by simp; omega, by unfold line at h3; show (Go.Lib.join (l.map num) [32]).length ≤ _; omega⟩]
    rfl
  | succ d ih =>
    intro i hi
    have hlt : i < l.length := by omega
    have hm := h l[i] (List.getElem_mem hlt)
    refine Ev.step (fun k => by rw [impl_words.l0]) (evp (by omega) (evp (by omega) (evp (by omega) ?_)))
    rw [rd_nat l i hlt]
    refine evb (fmt_impl _ hm.1 hm.2) (evp (by simp; omega) ?_)
    have := ih (i + 1) (by omega)
    rw [List.take_succ_eq_append_getElem hlt, List.map_append] at this
    rw [w64 (by omega) (by omega)]
    exact this
theorem words_eq (l : List Int) (h : ∀ n ∈ l, -9223372036854775808 ≤ n ∧ n ≤ 9223372036854775807) (hl : l.length ≤ 1048576) : Ev (fun k => impl_words.f k l) (txt (line l)) := by
  unfold impl_words.f
  exact words_l0 l h hl l.length 0 (by omega)
end Go.Proofs.YtojiighpkppckaaGreatDoor.Q


namespace Go.Proofs.YtojiighpkppckaaGreatDoor.Q
set_option linter.unusedVariables false
set_option linter.unusedSimpArgs false
open Go.RowKit Go.Proofs.YtojiighpkppckaaGreatDoor.P Go.Proofs.YtojiighpkppckaaGreatDoorW.PrintWords Go.Proofs.YtojiighpkppckaaGreatDoorW.PrintMore
theorem isWarmthA_eq (a : Int) : impl_isWarmth.f a = some (decide (-10 ≤ a ∧ a ≤ 40)) := by
  unfold impl_isWarmth.f; rw [within_eq]; rfl
def actOk (n a b c : Int) : Bool :=
  if n = 1 ∨ n = 5 ∨ n = 6 then decide (a = 0 ∧ b = 0 ∧ c = 0)
  else if n = 2 then decide ((-10 ≤ a ∧ a ≤ 40) ∧ b = 0 ∧ c = 0)
  else if n = 3 then decide ((0 ≤ a ∧ a ≤ 3) ∧ (0 ≤ b ∧ b ≤ 39) ∧ (0 ≤ c ∧ c ≤ 2))
  else if n = 4 then decide ((0 ≤ a ∧ a ≤ 11) ∧ (-100000 ≤ b ∧ b ≤ 100000) ∧ c = 0)
  else if n = 7 then decide ((0 ≤ a ∧ a ≤ 11) ∧ b = 0 ∧ c = 0) else false
theorem actOk_impl (n a b c : Int) : Ev (fun k => impl_ActOk.f k n a b c) (actOk n a b c) := by
  have J : ∀ x : Bool, x = decide (n = 1 ∨ n = 5 ∨ n = 6) → Ev (fun k => impl_ActOk.j0 k n x n a b c) (actOk n a b c) := by
    intro x hx
    refine Ev.step (fun k => by rw [impl_ActOk.j0]) ?_
    unfold actOk
    by_cases h : n = 1 ∨ n = 5 ∨ n = 6
    · refine evp (by simp [hx, h]) (evs ?_)
      rw [if_pos h, Bool.eq_iff_iff]; simp
    rw [if_neg h]
    refine evn (by simp [hx, h]) ?_
    by_cases h2 : n = 2
    · refine evp h2 ?_
      rw [if_pos h2]
      by_cases hz : b = 0 ∧ c = 0
      · refine evp (by simp [hz]) (evb (isWarmthA_eq _) (evs ?_))
        simp [hz]
      · refine evn (by simpa using hz) (evs ?_)
        rw [Bool.eq_iff_iff]; simp; intros; omega
    refine evn h2 ?_
    rw [if_neg h2]
    by_cases h3 : n = 3
    · refine evp h3 ?_
      rw [if_pos h3]
      refine evb (within_eq _ _ _) ?_
      by_cases p1 : 0 ≤ a ∧ a ≤ 3
      rotate_left
      · exact evn (by simpa using p1) (evs (by simp [p1]))
      refine evp (by simpa using p1) (evb (within_eq _ _ _) ?_)
      by_cases p2 : 0 ≤ b ∧ b ≤ 39
      rotate_left
      · exact evn (by simpa using p2) (evs (by simp [p2]))
      refine evp (by simpa using p2) (evb (within_eq _ _ _) (evs ?_))
      simp [p1, p2]
    refine evn h3 ?_
    rw [if_neg h3]
    by_cases h4 : n = 4
    · refine evp h4 ?_
      rw [if_pos h4]
      by_cases p0 : c = 0
      rotate_left
      · exact evn (by simpa using p0) (evs (by simp [p0]))
      refine evp (by simpa using p0) (evb (within_eq _ _ _) ?_)
      by_cases p1 : 0 ≤ a ∧ a ≤ 11
      rotate_left
      · exact evn (by simpa using p1) (evs (by simp [p1]))
      refine evp (by simpa using p1) (evb (within_eq _ _ _) (evs ?_))
      simp [p0, p1]
    refine evn h4 ?_
    rw [if_neg h4]
    by_cases h7 : n = 7
    · refine evp h7 ?_
      rw [if_pos h7]
      by_cases hz : b = 0 ∧ c = 0
      · refine evp (by simp [hz]) (evb (within_eq _ _ _) (evs ?_))
        simp [hz]
      · refine evn (by simpa using hz) (evs ?_)
        rw [Bool.eq_iff_iff]; simp; intros; omega
    refine evn h7 ?_
    rw [if_neg h7]
    exact Ev.now _
  unfold impl_ActOk.f
  refine evi (fun h => J _ (by simp [h])) (fun h => evi (fun h5 => J _ (by simp [h5])) (fun h5 => J _ ?_))
  rw [Bool.eq_iff_iff]; simp [h, h5]
end Go.Proofs.YtojiighpkppckaaGreatDoor.Q


namespace Go.Proofs.YtojiighpkppckaaGreatDoor.Q
set_option linter.unusedVariables false
set_option linter.unusedSimpArgs false
open Go.RowKit Go.Proofs.YtojiighpkppckaaGreatDoor.P Go.Proofs.YtojiighpkppckaaGreatDoorW.PrintWords
def in64 (n : Int) : Prop := -9223372036854775808 ≤ n ∧ n ≤ 9223372036854775807
def actName (n : Int) : List UInt8 :=
  if n = 1 then [116, 117, 110, 101] else if n = 2 then [119, 97, 114, 109] else if n = 3 then [102, 97, 117, 108, 116] else if n = 4 then [107, 110, 111, 99, 107]
  else if n = 5 then [114, 101, 112, 97, 105, 114] else if n = 6 then [108, 101, 102, 116] else [104, 101, 97, 114, 100]
def actNums (n a b c : Int) : List Int := if n = 2 ∨ n = 7 then [a] else if n = 3 then [a, b, c] else if n = 4 then [a, b] else []
def actText (n a b c : Int) : List UInt8 := if actOk n a b c = true then actName n ++ tail_ (actNums n a b c) else []
theorem actOk_kind {n a b c : Int} (h : actOk n a b c = true) : 1 ≤ n ∧ n ≤ 7 := by
  unfold actOk at h
  by_cases h1 : n = 1 ∨ n = 5 ∨ n = 6
  · omega
  rw [if_neg h1] at h
  by_cases h2 : n = 2
  · omega
  rw [if_neg h2] at h
  by_cases h3 : n = 3
  · omega
  rw [if_neg h3] at h
  by_cases h4 : n = 4
  · omega
  rw [if_neg h4] at h
  by_cases h7 : n = 7
  · omega
  rw [if_neg h7] at h
  cases h
theorem tail_line (a : Int) (r : List Int) : [32] ++ line (a :: r) = tail_ (a :: r) := by
  rw [line_cons]; simp [tail_]
theorem fmtAct_impl (n a b c : Int) (ha : in64 a) (hb : in64 b) (hc : in64 c) : Ev (fun k => impl_FormatAct.f k n a b c) (txt (actText n a b c), actOk n a b c) := by
  unfold impl_FormatAct.f
  refine Ev.bind (actOk_impl n a b c) ?_
  by_cases hok : actOk n a b c = true
  rotate_left
  · refine evn hok (evs ?_)
    unfold actText
    rw [if_neg hok, Bool.eq_false_iff.mpr hok]; rfl
  have hk := actOk_kind hok
  have W : ∀ (nm : List UInt8) (x : Int) (r : List Int) (q : Nat), (nm ++ [32]).length = q → q ≤ 100 → (x :: r).length ≤ 3 → (∀ m ∈ x :: r, in64 m) → nm = actName n → x :: r = actNums n a b c →
      Ev (fun k => (impl_words.f k (x :: r)).bind fun t => (if q + t.size ≤ 9223372036854775807 then (some (txt (nm ++ [32]) ++ t, true)) else (none))) (txt (actText n a b c), actOk n a b c) := by
    intro nm x r q hq hq1 hl hm e1 e2
    refine Ev.bind (words_eq (x :: r) hm (by omega)) (evp ?_ (evs ?_))
    · have := line_len (x :: r) hm
      rw [txt_size]
      omega
    · rw [txt_app, List.append_assoc, tail_line, hok]
      unfold actText
      rw [if_pos hok, ← e1, ← e2]
  have N : ∀ (nm : List UInt8), nm = actName n → actNums n a b c = [] → Ev (fun _ => some (txt nm, true)) (txt (actText n a b c), actOk n a b c) := by
    intro nm e1 e2
    refine evs ?_
    unfold actText
    rw [if_pos hok, hok, e2, e1]
    simp [tail_]
  refine evp hok ?_
  rcases (show n = 1 ∨ n = 2 ∨ n = 3 ∨ n = 4 ∨ n = 5 ∨ n = 6 ∨ n = 7 by omega) with rfl | rfl | rfl | rfl | rfl | rfl | rfl
  · exact evp rfl (N _ rfl rfl)
  · exact evn (by decide) (evp rfl (W [119, 97, 114, 109] a [] 5 rfl (by decide) (by simp) (by simpa using ha) rfl rfl))
  · exact evn (by decide) (evn (by decide) (evp rfl (W [102, 97, 117, 108, 116] a [b, c] 6 rfl (by decide) (by simp) (by simp; exact ⟨ha, hb, hc⟩) rfl rfl)))
  · exact evn (by decide) (evn (by decide) (evn (by decide) (evp rfl (W [107, 110, 111, 99, 107] a [b] 6 rfl (by decide) (by simp) (by simp; exact ⟨ha, hb⟩) rfl rfl))))
  · exact evn (by decide) (evn (by decide) (evn (by decide) (evn (by decide) (evp rfl (N _ rfl rfl)))))
  · exact evn (by decide) (evn (by decide) (evn (by decide) (evn (by decide) (evn (by decide) (evp rfl (N _ rfl rfl))))))
  · exact evn (by decide) (evn (by decide) (evn (by decide) (evn (by decide) (evn (by decide) (evn (by decide) (W [104, 101, 97, 114, 100] a [] 6 rfl (by decide) (by simp) (by simpa using ha) rfl rfl))))))
end Go.Proofs.YtojiighpkppckaaGreatDoor.Q


namespace Go.Proofs.YtojiighpkppckaaGreatDoor.Q
set_option linter.unusedVariables false
set_option linter.unusedSimpArgs false
open Go.RowKit Go.Proofs.YtojiighpkppckaaGreatDoor.P Go.Proofs.YtojiighpkppckaaGreatDoorW.PrintWords
def scanW : List UInt8 → List UInt8 → List (List UInt8)
  | cur, [] => if cur = [] then [] else [cur]
  | cur, b :: r => if b = 32 then (if cur = [] then scanW [] r else cur :: scanW [] r) else scanW (cur ++ [b]) r
def preW (c : List UInt8) : List (List UInt8) → List (List UInt8)
  | [] => []
  | p :: r => (c ++ p) :: r
theorem preW_pre (a b : List UInt8) (X : List (List UInt8)) : preW a (preW b X) = preW (a ++ b) X := by cases X <;> simp [preW]
theorem preW_nil (X : List (List UInt8)) : preW [] X = X := by cases X <;> simp [preW]
theorem splitK_cons (b : UInt8) (hb : b ≠ 32) (k : Nat) (l : List UInt8) : Go.Lib.splitK [32] 0 k (b :: l) = preW [b] (Go.Lib.splitK [32] 0 k l) := by
  cases k with
  | zero => rfl
  | succ k =>
    have h1 := Go.Lib.indexByte_ge l 32
    have e : Go.Lib.index (b :: l) [32] = if (Go.Lib.index l [32] == -1) = true then -1 else Go.Lib.index l [32] + 1 := by
      rw [index_one_, index_one_, Go.Lib.indexByte]
      have : (b == 32) = false := by simpa using hb
      rw [this]
      simp
    rw [← index_one_] at h1
    unfold Go.Lib.splitK
    rw [e]
    by_cases h : Go.Lib.index l [32] = -1
    · simp [h, preW]
    · obtain ⟨i, hi⟩ : ∃ i : Nat, Go.Lib.index l [32] = i := ⟨(Go.Lib.index l [32]).toNat, by omega⟩
      have n1 : ((i : Int) == -1) = false := by rw [beq_eq_false_iff_ne]; omega
      have n2 : ((i : Int) + 1 == -1) = false := by rw [beq_eq_false_iff_ne]; omega
      rw [hi, n1]
      simp only [Bool.false_eq_true, if_false, n2, preW]
      have n3 : ((i : Int) + 1).toNat = i + 1 := by omega
      rw [n3]
      simp
theorem splitK_32 (k : Nat) (l : List UInt8) : Go.Lib.splitK [32] 0 (k + 1) (32 :: l) = [] :: Go.Lib.splitK [32] 0 k l := by
  have e : Go.Lib.index (32 :: l) [32] = 0 := by rw [index_one_, Go.Lib.indexByte]; simp
  rw [Go.Lib.splitK, e]
  simp
theorem words_split : ∀ (l cur : List UInt8), (preW cur (Go.Lib.splitK [32] 0 (l.count 32) l)).filter (fun p => decide (p ≠ [])) = scanW cur l
  | [], cur => by
    simp only [List.count_nil, Go.Lib.splitK, preW, scanW, List.append_nil]
    by_cases h : cur = [] <;> simp [h]
  | b :: r, cur => by
    rw [scanW]
    by_cases hb : b = 32
    · subst hb
      rw [if_pos rfl, List.count_cons_self, splitK_32]
      have ih := words_split r []
      rw [preW_nil] at ih
      by_cases h : cur = []
      · subst h
        rw [if_pos rfl, ← ih]
        simp [preW]
      · rw [if_neg h, ← ih]
        simp [h, preW]
    · rw [if_neg hb, List.count_cons_of_ne hb, splitK_cons b hb, preW_pre]
      exact words_split r (cur ++ [b])
theorem split_words (l : List UInt8) : (Go.Lib.split l [32]).filter (fun p => decide (p ≠ [])) = scanW [] l := by
  rw [Go.Lib.split, Go.Lib.count_one, ← words_split l [], preW_nil]
def okB (b : UInt8) : Bool := decide (32 ≤ b.toNat) && decide (b.toNat ≤ 126)
def fieldsM (s : ByteArray) : List ByteArray × Bool :=
  if s.size ≤ 600 ∧ s.data.toList.all okB = true then (if ((scanW [] s.data.toList).map txt).length > 24 then ([], false) else ((scanW [] s.data.toList).map txt, true)) else ([], false)
theorem bt_nat (s : ByteArray) (i : Nat) (h : i < s.data.toList.length) : bt s (i : Int) = ((s.data.toList[i]).toNat : Int) := by
  have h' : (i : Int).toNat < s.size := by have e : s.data.toList.length = s.size := Array.length_toList; omega
  have := bt_at s (i : Int) h'
  rw [← this]
  rfl
theorem toList_eq (s : ByteArray) : s.toList = s.data.toList := Go.Lib.toList_data s
theorem txt_of (s : ByteArray) : txt s.data.toList = s := by apply ByteArray.ext; simp [txt]
end Go.Proofs.YtojiighpkppckaaGreatDoor.Q


namespace Go.Proofs.YtojiighpkppckaaGreatDoor.Q
set_option linter.unusedVariables false
set_option linter.unusedSimpArgs false
open Go.RowKit Go.Proofs.YtojiighpkppckaaGreatDoor.P Go.Proofs.YtojiighpkppckaaGreatDoorW.PrintWords
theorem fimp_l1 (P : List ByteArray) (hP : P.length ≤ 1000) : ∀ (d i : Nat) (acc : List ByteArray), i + d = P.length → acc.length ≤ i →
    Ev (fun k => impl_SplitFields.l1 k acc P (P.length : Int) (i : Int)) (if (acc ++ (P.drop i).filter (fun p => decide (p.data.toList ≠ []))).length > 24 then ([], false) else (acc ++ (P.drop i).filter (fun p => decide (p.data.toList ≠ [])), true)) := by
  intro d
  induction d with
  | zero =>
    intro i acc h ha
    obtain rfl : i = P.length := by omega
    refine Ev.step (fun k => by rw [impl_SplitFields.l1]) (evn (by omega) ?_)
    simp only [List.drop_length, List.filter_nil, List.append_nil]
    exact evi (fun h => rpos (by omega) (Ev.now _)) (fun h => rneg (by omega) (Ev.now _))
  | succ d ih =>
    intro i acc h ha
    have hi : i < P.length := by omega
    have e : rdOf ByteArray.empty P (i : Int) = P[i] := by simp [rdOf, List.getD_eq_getElem?_getD, hi]
    refine Ev.step (fun k => by rw [impl_SplitFields.l1]) (evp (by omega) (evp (by omega) (evp (by omega) ?_)))
    rw [e, toList_eq, w64 (by omega) (by omega), List.drop_eq_getElem_cons hi]
    by_cases hz : P[i].data.toList = []
    · refine evp hz ?_
      have := ih (i + 1) acc (by omega) (by omega)
      rw [List.filter_cons_of_neg (by simp [hz])]
      simpa using this
    · refine evn hz (evp (by omega) ?_)
      have := ih (i + 1) (acc ++ [P[i]]) (by omega) (by simp; omega)
      rw [List.filter_cons_of_pos (by simp [hz])]
      simpa using this
theorem okB_t {b : UInt8} (h1 : 32 ≤ b.toNat) (h2 : b.toNat ≤ 126) : okB b = true := by unfold okB; rw [decide_eq_true h1, decide_eq_true h2]; rfl
theorem okB_n {b : UInt8} (h : b.toNat < 32 ∨ 126 < b.toNat) {c : Bool} : ¬ (okB b && c) = true := by
  intro h1
  unfold okB at h1
  rw [Bool.and_eq_true, Bool.and_eq_true] at h1
  have a1 := of_decide_eq_true h1.1.1
  have a2 := of_decide_eq_true h1.1.2
  omega
theorem fields_impl (s : ByteArray) : Ev (fun k => impl_SplitFields.f k s) (fieldsM s) := by
  unfold impl_SplitFields.f fieldsM
  refine evi (fun h => rneg (by omega) (Ev.now _)) (fun h => ?_)
  have hsz : s.size ≤ 600 := by omega
  have hl : s.data.toList.length = s.size := Array.length_toList
  have key : ∀ (d i : Nat), i + d = s.size → Ev (fun k => impl_SplitFields.l0 k s (i : Int)) (if (s.data.toList.drop i).all okB = true then (if ((scanW [] s.data.toList).map txt).length > 24 then ([], false) else ((scanW [] s.data.toList).map txt, true)) else ([], false)) := by
    intro d
    induction d with
    | zero =>
      intro i h
      have hi : i = s.size := by omega
      refine Ev.step (fun k => by rw [impl_SplitFields.l0]) (evn (by omega) ?_)
      rw [List.drop_eq_nil_of_le (by omega)]
      refine rpos rfl ?_
      have hc := Go.Lib.countB_le (⟨#[32]⟩ : ByteArray) (Nat.le_refl 1) s.size s (Nat.le_refl _)
      have hn := Go.Lib.splitB_all (⟨#[32]⟩ : ByteArray) (Nat.le_refl 1) 0 _ s rfl
      refine evb (a := Go.Lib.splitB (⟨#[32]⟩ : ByteArray) 0 (Go.Lib.countB s ⟨#[32]⟩) s) (by unfold strings_Split.f; rw [if_pos ⟨rfl, by omega⟩]) ?_
      have h1 := fimp_l1 (Go.Lib.splitB (⟨#[32]⟩ : ByteArray) 0 (Go.Lib.countB s ⟨#[32]⟩) s) (by omega) _ 0 [] (Nat.zero_add _) (Nat.zero_le _)
      have e : (Go.Lib.splitB (⟨#[32]⟩ : ByteArray) 0 (Go.Lib.countB s ⟨#[32]⟩) s).filter (fun p => decide (p.data.toList ≠ [])) = (scanW [] s.data.toList).map txt := by
        have e1 : (Go.Lib.splitB (⟨#[32]⟩ : ByteArray) 0 (Go.Lib.countB s ⟨#[32]⟩) s).map (·.data.toList) = Go.Lib.split s.data.toList [32] := by rw [Go.Lib.splitB_data]; rfl
        rw [← split_words, ← e1]
        generalize Go.Lib.splitB (⟨#[32]⟩ : ByteArray) 0 (Go.Lib.countB s ⟨#[32]⟩) s = X
        induction X with
        | nil => rfl
        | cons p r ih =>
          by_cases hz : p.data.toList = []
          · rw [List.filter_cons_of_neg (by simp [hz]), List.map_cons, List.filter_cons_of_neg (by simp [hz])]; exact ih
          · rw [List.filter_cons_of_pos (by simp [hz]), List.map_cons, List.filter_cons_of_pos (by simp [hz]), List.map_cons, txt_of, ih]
      simp only [List.drop_zero, List.nil_append, e] at h1
      exact h1
    | succ d ih =>
      intro i h
      have hi : i < s.data.toList.length := by omega
      refine Ev.step (fun k => by rw [impl_SplitFields.l0]) (evp (by omega) (evp (by omega) ?_))
      rw [bt_nat s i hi, w64 (by omega) (by omega), List.drop_eq_getElem_cons hi, List.all_cons]
      refine evi (fun hb => rneg (okB_n (.inl (by omega))) (Ev.now _)) (fun hb => evi (fun hc => rneg (okB_n (.inr (by omega))) (Ev.now _)) (fun hc => ?_))
      have e : okB s.data.toList[i] = true := okB_t (by omega) (by omega)
      rw [e, Bool.true_and]
      have := ih (i + 1) (by omega)
      simpa using this
  have := key s.size 0 (Nat.zero_add _)
  simp only [List.drop_zero] at this
  have e : (s.size ≤ 600 ∧ s.data.toList.all okB = true) = (s.data.toList.all okB = true) := by simp [hsz]
  simp only [e]
  exact this
end Go.Proofs.YtojiighpkppckaaGreatDoor.Q


namespace Go.Proofs.YtojiighpkppckaaGreatDoor.Q
set_option linter.unusedVariables false
set_option linter.unusedSimpArgs false
open Go.RowKit Go.Proofs.YtojiighpkppckaaGreatDoor.P Go.Proofs.YtojiighpkppckaaGreatDoorW.PrintWords
theorem digit_is (b : UInt8) : Go.Lib.digitVal b = if 48 ≤ b.toNat ∧ b.toNat ≤ 57 then some (b.toNat - 48) else none := rfl
theorem decFrom_snoc (b : UInt8) : ∀ (l : List UInt8) (acc : Nat), Go.Lib.decFrom acc (l ++ [b]) = (Go.Lib.decFrom acc l).bind fun n => (Go.Lib.digitVal b).map fun d => n * 10 + d
  | [], acc => by
    simp only [List.nil_append, Go.Lib.decFrom, Option.bind_some]
    cases Go.Lib.digitVal b <;> rfl
  | a :: r, acc => by
    simp only [List.cons_append, Go.Lib.decFrom]
    cases Go.Lib.digitVal a with
    | none => rfl
    | some d => exact decFrom_snoc b r _
theorem digit_u8 (u : Nat) (h : u < 10) : (UInt8.ofNat (48 + u)).toNat = 48 + u := by
  rw [UInt8.toNat_ofNat']
  omega
theorem decFrom_dec (u : Nat) : Go.Lib.decFrom 0 (Go.Lib.decDigits u) = some u := by
  induction u using Nat.strongRecOn with
  | _ u ih =>
    rw [Go.Lib.decDigits]
    by_cases h : u < 10
    · rw [dif_pos h]
      simp only [Go.Lib.decFrom, digit_is, digit_u8 u h]
      rw [if_pos (by omega)]
      simp
    · rw [dif_neg h, decFrom_snoc, ih (u / 10) (by omega), Option.bind_some, digit_is, digit_u8 (u % 10) (by omega), if_pos (by omega)]
      simp only [Option.map_some, Option.some.injEq]
      omega
theorem dec_digit (u : Nat) : ∀ b ∈ Go.Lib.decDigits u, 48 ≤ b.toNat ∧ b.toNat ≤ 57 := by
  induction u using Nat.strongRecOn with
  | _ u ih =>
    intro b hb
    rw [Go.Lib.decDigits] at hb
    by_cases h : u < 10
    · rw [dif_pos h] at hb
      obtain rfl := List.mem_singleton.mp hb
      rw [digit_u8 u h]
      omega
    · rw [dif_neg h] at hb
      rcases List.mem_append.mp hb with h1 | h1
      · exact ih (u / 10) (by omega) b h1
      · obtain rfl := List.mem_singleton.mp h1
        rw [digit_u8 (u % 10) (by omega)]
        omega
theorem dec_ne (u : Nat) : Go.Lib.decDigits u ≠ [] := by
  rw [Go.Lib.decDigits]
  split <;> simp
theorem num_pos {v : Int} (h : 0 ≤ v) : num v = Go.Lib.decDigits v.toNat := by unfold num Go.Lib.itoa; rw [if_neg (by omega)]
theorem num_neg {v : Int} (h : v < 0) : num v = 45 :: Go.Lib.decDigits v.natAbs := by unfold num Go.Lib.itoa; rw [if_pos h]
theorem dec_len (u : Nat) (h : u ≤ 1000000000) : (Go.Lib.decDigits u).length ≤ 10 := by
  have key : ∀ (m u : Nat), u < 10 ^ (m + 1) → (Go.Lib.decDigits u).length ≤ m + 1 := by
    intro m
    induction m with
    | zero => intro u h; rw [Go.Lib.decDigits, dif_pos (by omega)]; simp
    | succ m ih =>
      intro u h
      rw [Go.Lib.decDigits]
      by_cases h1 : u < 10
      · rw [dif_pos h1]; simp
      · rw [dif_neg h1, List.length_append, List.length_singleton]
        have := ih (u / 10) (by rw [Nat.pow_succ] at h; omega)
        omega
  exact key 9 u (by have : (10 : Nat) ^ (9 + 1) = 10000000000 := by decide
                    omega)
theorem num_atoi {v : Int} (h1 : -1000000000 ≤ v) (h2 : v ≤ 1000000000) : atoi? (txt (num v)) = some v := by
  unfold atoi?
  rw [txt_data]
  by_cases h : v < 0
  · have hl := dec_len v.natAbs (by omega)
    rw [num_neg h, Go.Lib.atoiAll_short _ (by simp; omega)]
    have e : Go.Lib.decNat (Go.Lib.decDigits v.natAbs) = some v.natAbs := by
      unfold Go.Lib.decNat
      rw [if_neg (by simp [dec_ne]), decFrom_dec]
    simp only [Go.Lib.atoi, e]
    simp [Go.Lib.NumEnd.ofOption]
    omega
  · have hl := dec_len v.toNat (by omega)
    rw [num_pos (by omega), Go.Lib.atoiAll_short _ (by omega)]
    have e : Go.Lib.decNat (Go.Lib.decDigits v.toNat) = some v.toNat := by
      unfold Go.Lib.decNat
      rw [if_neg (by simp [dec_ne]), decFrom_dec]
    cases hd : Go.Lib.decDigits v.toNat with
    | nil => exact absurd hd (dec_ne _)
    | cons b r =>
      have hb := dec_digit v.toNat b (by rw [hd]; simp)
      have n1 : (b == 45) = false := by rw [beq_eq_false_iff_ne]; intro e; rw [e] at hb; simp at hb
      have n2 : (b == 43) = false := by rw [beq_eq_false_iff_ne]; intro e; rw [e] at hb; simp at hb
      rw [hd] at e
      simp only [Go.Lib.atoi, n1, n2, e]
      simp [Go.Lib.NumEnd.ofOption]
      omega
end Go.Proofs.YtojiighpkppckaaGreatDoor.Q


namespace Go.Proofs.YtojiighpkppckaaGreatDoor.Q
set_option linter.unusedVariables false
set_option linter.unusedSimpArgs false
open Go.RowKit Go.Proofs.YtojiighpkppckaaGreatDoor.P Go.Proofs.YtojiighpkppckaaGreatDoorW.PrintWords
def goodW (w : List UInt8) : Prop := w ≠ [] ∧ ∀ b ∈ w, b ≠ 32
theorem scanW_word : ∀ (w cur rest : List UInt8), (∀ b ∈ w, b ≠ 32) → scanW cur (w ++ rest) = scanW (cur ++ w) rest
  | [], cur, rest, _ => by simp
  | b :: w, cur, rest, h => by
    rw [List.cons_append, scanW, if_neg (h b (by simp)), scanW_word w (cur ++ [b]) rest (fun x hx => h x (by simp [hx]))]
    simp
theorem scanW_size : ∀ (l cur : List UInt8), ∀ w ∈ scanW cur l, w.length ≤ cur.length + l.length
  | [], cur, w, hw => by
    rw [scanW] at hw
    split at hw
    · cases hw
    · obtain rfl := List.mem_singleton.mp hw; simp
  | b :: r, cur, w, hw => by
    rw [scanW] at hw
    split at hw
    · split at hw
      · have := scanW_size r [] w hw; simp at this ⊢; omega
      · rcases List.mem_cons.mp hw with rfl | hw
        · simp; try omega
        · have := scanW_size r [] w hw; simp at this ⊢; omega
    · have := scanW_size r (cur ++ [b]) w hw; simp at this ⊢; omega
theorem num_good (v : Int) : goodW (num v) := by
  have hd : ∀ u, ∀ b ∈ Go.Lib.decDigits u, b ≠ 32 := fun u b hb e => by
    have := dec_digit u b hb
    rw [e] at this
    simp at this
  by_cases h : v < 0
  · rw [num_neg h]
    refine ⟨by simp, fun b hb => ?_⟩
    rcases List.mem_cons.mp hb with rfl | hb
    · decide
    · exact hd _ b hb
  · rw [num_pos (by omega)]
    exact ⟨dec_ne _, hd _⟩
theorem name_good (n : Int) : goodW (actName n) := by
  unfold actName goodW
  repeat' split
  all_goals decide
theorem actText_join {n a b c : Int} (h : actOk n a b c = true) : actText n a b c = Go.Lib.join (actName n :: (actNums n a b c).map num) [32] := by
  unfold actText
  rw [if_pos h, Go.Lib.join_cons]
  congr 1
  generalize actNums n a b c = l
  induction l with
  | nil => rfl
  | cons v r ih =>
    rw [List.map_cons, show Go.Lib.joinTail [32] (num v :: r.map num) = 32 :: (num v ++ Go.Lib.joinTail [32] (r.map num)) by simp [Go.Lib.joinTail], ← ih]
    simp [tail_]
theorem kind_name {n : Int} (h1 : 1 ≤ n) (h7 : n ≤ 7) : kindW (actName n) = n := by
  have : n = 1 ∨ n = 2 ∨ n = 3 ∨ n = 4 ∨ n = 5 ∨ n = 6 ∨ n = 7 := by omega
  rcases this with rfl | rfl | rfl | rfl | rfl | rfl | rfl <;> decide
def padL : List Int → Int × Int × Int
  | [] => (0, 0, 0)
  | [a] => (a, 0, 0)
  | [a, b] => (a, b, 0)
  | a :: b :: c :: _ => (a, b, c)
theorem act_pad {n a b c : Int} (h : actOk n a b c = true) : padL (actNums n a b c) = (a, b, c) ∧ (actNums n a b c).length ≤ 3 ∧ ∀ v ∈ actNums n a b c, -1000000000 ≤ v ∧ v ≤ 1000000000 := by
  unfold actOk at h
  unfold actNums
  by_cases h1 : n = 1 ∨ n = 5 ∨ n = 6
  · rw [if_pos h1] at h
    obtain ⟨rfl, rfl, rfl⟩ := of_decide_eq_true h
    rw [if_neg (by omega), if_neg (by omega), if_neg (by omega)]
    simp [padL]
  rw [if_neg h1] at h
  by_cases h2 : n = 2
  · rw [if_pos h2] at h
    obtain ⟨h3, rfl, rfl⟩ := of_decide_eq_true h
    rw [if_pos (Or.inl h2)]
    simp [padL]; omega
  rw [if_neg h2] at h
  by_cases h3 : n = 3
  · rw [if_pos h3] at h
    have h4 := of_decide_eq_true h
    rw [if_neg (by omega), if_pos h3]
    simp [padL]; omega
  rw [if_neg h3] at h
  by_cases h4 : n = 4
  · rw [if_pos h4] at h
    obtain ⟨h5, h6, rfl⟩ := of_decide_eq_true h
    rw [if_neg (by omega), if_neg (by omega), if_pos h4]
    simp [padL]; omega
  rw [if_neg h4] at h
  by_cases h7 : n = 7
  · rw [if_pos h7] at h
    obtain ⟨h5, rfl, rfl⟩ := of_decide_eq_true h
    rw [if_pos (Or.inr h7)]
    simp [padL]; omega
  rw [if_neg h7] at h
  cases h
end Go.Proofs.YtojiighpkppckaaGreatDoor.Q


namespace Go.Proofs.YtojiighpkppckaaGreatDoor.Q
set_option linter.unusedVariables false
set_option linter.unusedSimpArgs false
open Go.RowKit Go.Proofs.YtojiighpkppckaaGreatDoor.P Go.Proofs.YtojiighpkppckaaGreatDoorW.PrintWords
abbrev Zp : Int × Int × Int × Int × Bool := (0, 0, 0, 0, false)
def numsI (r : List (List UInt8)) : Option (Int × Int × Int) := impl_ParseAct.nums 0 (r.map txt) 0 0 0
def resI : List (List UInt8) → Int × Int × Int × Int × Bool
  | [] => Zp
  | x :: r => match numsI r with
    | none => Zp
    | some (A, B, C) => if actOk (kindW x) A B C = true ∧ actText (kindW x) A B C = Go.Lib.join (x :: r) [32] then (kindW x, A, B, C, true) else Zp
theorem resI_none {x : List UInt8} {r : List (List UInt8)} (h : numsI r = none) : resI (x :: r) = Zp := by simp only [resI, h]
theorem resI_some {x : List UInt8} {r : List (List UInt8)} {A B C : Int} (h : numsI r = some (A, B, C)) : resI (x :: r) = if actOk (kindW x) A B C = true ∧ actText (kindW x) A B C = Go.Lib.join (x :: r) [32] then (kindW x, A, B, C, true) else Zp := by simp only [resI, h]
theorem atoi_in {s : ByteArray} {v : Int} (h : atoi? s = some v) : in64 v := by
  unfold atoi? at h
  split at h
  · next x e => obtain rfl := Option.some.inj h; exact Go.Lib.atoiAll_bounds e
  · cases h
theorem nums_in : ∀ (r : List ByteArray) (i : Nat) (A B C : Int), in64 A → in64 B → in64 C → ∀ x y z, impl_ParseAct.nums i r A B C = some (x, y, z) → in64 x ∧ in64 y ∧ in64 z
  | [], i, A, B, C, hA, hB, hC, x, y, z, h => by
    rw [impl_ParseAct.nums] at h
    simp only [Option.some.injEq, Prod.mk.injEq] at h
    obtain ⟨rfl, rfl, rfl⟩ := h
    exact ⟨hA, hB, hC⟩
  | s :: r, i, A, B, C, hA, hB, hC, x, y, z, h => by
    rw [impl_ParseAct.nums] at h
    obtain ⟨n, hn, h⟩ := Option.bind_eq_some_iff.mp h
    have hi := atoi_in hn
    refine nums_in r (i + 1) _ _ _ ?_ ?_ ?_ x y z h
    · split <;> assumption
    · split <;> assumption
    · split <;> assumption
theorem nums_num {l : List Int} (hl : l.length ≤ 3) (h : ∀ v ∈ l, -1000000000 ≤ v ∧ v ≤ 1000000000) : numsI (l.map num) = some (padL l) := by
  unfold numsI
  have e : ∀ v ∈ l, atoi? (txt (num v)) = some v := fun v hv => num_atoi (h v hv).1 (h v hv).2
  rcases l with _ | ⟨a, _ | ⟨b, _ | ⟨c, _ | ⟨d, t⟩⟩⟩⟩
  · rfl
  · simp [impl_ParseAct.nums, e a (by simp), padL]
  · simp [impl_ParseAct.nums, e a (by simp), e b (by simp), padL]
  · simp [impl_ParseAct.nums, e a (by simp), e b (by simp), e c (by simp), padL]
  · simp at hl
theorem impl_ev (s : ByteArray) : Ev (fun k => impl_ParseAct.f k s) (if (fieldsM s).2 = true then resI (scanW [] s.data.toList) else Zp) := by
  unfold impl_ParseAct.f
  refine Ev.bind (fields_impl s) ?_
  have hl : s.data.toList.length = s.size := Array.length_toList
  by_cases h0 : s.size ≤ 600 ∧ s.data.toList.all okB = true
  rotate_left
  · have e : fieldsM s = ([], false) := by unfold fieldsM; rw [if_neg h0]
    rw [e]
    exact evn (by decide) (Ev.now _)
  by_cases h1 : ((scanW [] s.data.toList).map txt).length > 24
  · have e : fieldsM s = ([], false) := by unfold fieldsM; rw [if_pos h0, if_pos h1]
    rw [e]
    exact evn (by decide) (Ev.now _)
  have e : fieldsM s = ((scanW [] s.data.toList).map txt, true) := by unfold fieldsM; rw [if_pos h0, if_neg h1]
  rw [e]
  refine evp rfl (rpos rfl ?_)
  have hw := scanW_size s.data.toList []
  generalize scanW [] s.data.toList = W at *
  cases W with
  | nil => exact Ev.now _
  | cons x r =>
    simp only [List.map_cons]
    have hsz : ∀ y ∈ txt x :: r.map txt, y.size ≤ 1000 := by
      intro y hy
      rw [← List.map_cons (f := txt)] at hy
      obtain ⟨w, hm, rfl⟩ := List.mem_map.mp hy
      have := hw w hm
      rw [txt_size]
      simp at this
      omega
    simp only [impl_ParseAct.rest, if_pos hsz, txt_data]
    show Ev (fun k => impl_ParseAct.last k (txt x :: r.map txt) (kindW x) (numsI r)) _
    cases hn : numsI r with
    | none => rw [resI_none hn]; exact Ev.now _
    | some q =>
      obtain ⟨A, B, C⟩ := q
      rw [resI_some hn]
      obtain ⟨hA, hB, hC⟩ := nums_in _ 0 0 0 0 (by unfold in64; omega) (by unfold in64; omega) (by unfold in64; omega) A B C hn
      show Ev (fun k => (impl_FormatAct.f k (kindW x) A B C).bind _) _
      refine Ev.bind (fmtAct_impl (kindW x) A B C hA hB hC) ?_
      refine evi (fun ho => ?_) (fun ho => rneg (fun hh => ho hh.1) (Ev.now _))
      have hj : strings_Join.f (txt x :: r.map txt) ⟨#[32]⟩ = some (txt (Go.Lib.join (x :: r) [32])) := by
        have e1 : (txt x :: r.map txt).map (·.data.toList) = x :: r := by
          rw [← List.map_cons (f := txt), List.map_map]
          conv => rhs; rw [← List.map_id (x :: r)]
          exact List.map_congr_left (fun w _ => txt_data w)
        unfold strings_Join.f
        rw [e1]
        have hlen : ∀ (L : List (List UInt8)), (∀ w ∈ L, w.length ≤ 600) → Go.Lib.lens L ≤ 600 * L.length := by
          intro L
          induction L with
          | nil => intro _; simp [Go.Lib.lens]
          | cons a t ih =>
            intro h
            have h2 := ih (fun w hw => h w (by simp [hw]))
            have h3 := h a (by simp)
            simp [Go.Lib.lens] at h2 ⊢
            omega
        have h2 := hlen (x :: r) (fun w hm => by have := hw w hm; simp at this; omega)
        have h3 := Go.Lib.join_length x r [32]
        simp at h1 h2 h3
        rw [if_pos]
        · rfl
        · refine ⟨by simp; omega, ?_⟩
          show (Go.Lib.join (x :: r) [32]).length ≤ _
          rw [h3]
          simp [Go.Lib.lens] at h2 ⊢
          omega
      refine evb hj ?_
      by_cases he : actText (kindW x) A B C = Go.Lib.join (x :: r) [32]
      · refine rpos ⟨ho, he⟩ ?_
        rw [if_pos (by rw [he])]
        exact Ev.now _
      · refine rneg (fun hh => he hh.2) ?_
        rw [if_neg (fun hh => he (txt_inj hh))]
        exact Ev.now _
end Go.Proofs.YtojiighpkppckaaGreatDoor.Q


namespace Go.Proofs.YtojiighpkppckaaGreatDoor.Q
set_option linter.unusedVariables false
set_option linter.unusedSimpArgs false
open Go.RowKit Go.Proofs.YtojiighpkppckaaGreatDoor.P Go.Proofs.YtojiighpkppckaaGreatDoorW.PrintWords
theorem scanW_end : ∀ (r : List (List UInt8)) (x : List UInt8), goodW x → (∀ w ∈ r, goodW w) → scanW [] (Go.Lib.join (x :: r) [32] ++ [32]) = x :: r
  | [], x, hx, _ => by
    rw [Go.Lib.join_one, scanW_word x [] [32] hx.2, List.nil_append, scanW, if_pos rfl, if_neg hx.1, scanW, if_pos rfl]
  | y :: r, x, hx, hr => by
    have ih := scanW_end r y (hr y (by simp)) (fun w hw => hr w (by simp [hw]))
    rw [Go.Lib.join_cons, show Go.Lib.joinTail [32] (y :: r) = 32 :: (y ++ Go.Lib.joinTail [32] r) by simp [Go.Lib.joinTail], List.append_assoc, scanW_word x [] _ hx.2, List.nil_append, List.cons_append, scanW, if_pos rfl, if_neg hx.1, ← Go.Lib.join_cons, ih]
theorem okB_num (v : Int) : (num v).all okB = true := by
  have hd : ∀ u, ∀ b ∈ Go.Lib.decDigits u, okB b = true := fun u b hb => by
    have := dec_digit u b hb
    exact okB_t (by omega) (by omega)
  rw [List.all_eq_true]
  intro b hb
  by_cases h : v < 0
  · rw [num_neg h] at hb
    rcases List.mem_cons.mp hb with rfl | hb
    · decide
    · exact hd _ b hb
  · rw [num_pos (by omega)] at hb
    exact hd _ b hb
theorem okB_name (n : Int) : (actName n).all okB = true := by
  unfold actName
  repeat' split
  all_goals decide
theorem name_len (n : Int) : (actName n).length ≤ 6 := by
  unfold actName
  repeat' split
  all_goals decide
theorem okB_tail (l : List Int) : (tail_ l).all okB = true := by
  induction l with
  | nil => rfl
  | cons v r ih =>
    have e : tail_ (v :: r) = 32 :: (num v ++ tail_ r) := by simp [tail_]
    rw [e, List.all_cons, List.all_append, okB_num, ih]
    rfl
theorem num_len9 {v : Int} (h1 : -1000000000 ≤ v) (h2 : v ≤ 1000000000) : (num v).length ≤ 11 := by
  by_cases h : v < 0
  · have := dec_len v.natAbs (by omega)
    rw [num_neg h, List.length_cons]
    omega
  · have := dec_len v.toNat (by omega)
    rw [num_pos (by omega)]
    omega
theorem tail_len9 : ∀ (l : List Int), (∀ v ∈ l, -1000000000 ≤ v ∧ v ≤ 1000000000) → (tail_ l).length ≤ 12 * l.length
  | [], _ => by simp [tail_]
  | v :: r, h => by
    have ih := tail_len9 r (fun w hw => h w (by simp [hw]))
    have hv := num_len9 (h v (by simp)).1 (h v (by simp)).2
    have e : tail_ (v :: r) = 32 :: (num v ++ tail_ r) := by simp [tail_]
    rw [e]
    simp
    omega
theorem actText_len {n a b c : Int} (h : actOk n a b c = true) : (actText n a b c).length ≤ 42 := by
  obtain ⟨_, h2, h3⟩ := act_pad h
  have := tail_len9 _ h3
  have := name_len n
  unfold actText
  rw [if_pos h, List.length_append]
  omega
theorem act_read {n a b c : Int} (h : actOk n a b c = true) : Ev (fun k => impl_ParseAct.f k (txt ([32, 32] ++ actText n a b c ++ [32]))) (n, a, b, c, true) := by
  have ev := impl_ev (txt ([32, 32] ++ actText n a b c ++ [32]))
  obtain ⟨p1, p2, p3⟩ := act_pad h
  obtain ⟨k1, k7⟩ := actOk_kind h
  have hg : ∀ w ∈ (actNums n a b c).map num, goodW w := fun w hw => by
    obtain ⟨v, _, rfl⟩ := List.mem_map.mp hw
    exact num_good v
  have hs : scanW [] (txt ([32, 32] ++ actText n a b c ++ [32])).data.toList = actName n :: (actNums n a b c).map num := by
    rw [txt_data, List.append_assoc, actText_join h]
    show scanW [] (32 :: 32 :: (Go.Lib.join (actName n :: (actNums n a b c).map num) [32] ++ [32])) = _
    rw [scanW, if_pos rfl, if_pos rfl, scanW, if_pos rfl, if_pos rfl]
    exact scanW_end _ _ (name_good n) hg
  have hf : (fieldsM (txt ([32, 32] ++ actText n a b c ++ [32]))).2 = true := by
    have hl := actText_len h
    have ho : ([32, 32] ++ actText n a b c ++ [32]).all okB = true := by
      rw [List.all_append, List.all_append]
      have : (actText n a b c).all okB = true := by
        unfold actText
        rw [if_pos h, List.all_append, okB_name, okB_tail]
        rfl
      rw [this]
      decide
    unfold fieldsM
    rw [if_pos ⟨by rw [txt_size]; simp; omega, by rw [txt_data]; exact ho⟩, hs, if_neg (by simp; omega)]
  have hn : numsI ((actNums n a b c).map num) = some (a, b, c) := by rw [nums_num p2 p3, p1]
  rw [if_pos hf, hs, resI_some hn, kind_name k1 k7] at ev
  rw [if_pos ⟨h, actText_join h⟩] at ev
  exact ev
end Go.Proofs.YtojiighpkppckaaGreatDoor.Q


namespace Go.Proofs.YtojiighpkppckaaGreatDoor.Q
set_option linter.unusedVariables false
set_option linter.unusedSimpArgs false
open Go.RowKit Go.Proofs.YtojiighpkppckaaGreatDoor.P Go.Proofs.YtojiighpkppckaaGreatDoorW.PrintWords Go.Proofs.YtojiighpkppckaaGreatDoorW.PrintMore
def fine (n : Int) : Bool := decide (1 ≤ n ∧ n ≤ 10000000)
theorem pitch_eq (n : Int) : spec_l18Pitch.f n = some (fine n) := by unfold spec_l18Pitch.f; rw [l01In_eq]; rfl
end Go.Proofs.YtojiighpkppckaaGreatDoor.Q


namespace Go.Proofs.YtojiighpkppckaaGreatDoor.Q
set_option linter.unusedVariables false
set_option linter.unusedSimpArgs false
open Go.RowKit Go.Proofs.YtojiighpkppckaaGreatDoor.P Go.Proofs.YtojiighpkppckaaGreatDoorW.PrintWords Go.Proofs.YtojiighpkppckaaGreatDoorW.PrintMore
def orZero (n : Int) : Int := if fine n = true then n else 0
def tunedPitch (a k b : Int) : Int :=
  if fine a = true then
    if 0 ≤ b ∧ b ≤ 100000 then
      if k = 1 then orZero (wrap64 (Int.tdiv (mx (wrap64 ((wrap64 (3 * a)) - b)) 0) 2))
      else if k = 2 then orZero (wrap64 (Int.tdiv (mx (wrap64 ((wrap64 (3 * a)) - b)) 0) 4))
      else if k = 3 then if b = 0 then orZero (wrap64 (2 * a)) else 0
      else if k = 4 then if b = 0 then orZero (wrap64 (Int.tdiv a 2)) else 0
      else 0
    else 0
  else 0
theorem mx_comm (a b : Int) : mx a b = mx b a := by unfold mx; split <;> split <;> omega
theorem evz {n : Int} {x : Option Bool} (h : x = some (fine n)) : Ev (fun _ => x.bind fun t => if t = true then some n else some 0) (orZero n) := by
  subst h; simp only [Option.bind_some]; unfold orZero; by_cases h : fine n = true
  · rw [if_pos h, if_pos h]; exact Ev.now _
  · rw [if_neg h, if_neg h]; exact Ev.now _
theorem tuned_spec (a k b : Int) : Ev (fun n => spec_TunedPitch.f n a k b) (tunedPitch a k b) := by
  have jt : Ev (fun n => spec_TunedPitch.j0 n a k b true) 0 := Ev.step (fun n => by rw [spec_TunedPitch.j0]) (evp rfl (Ev.now _))
  unfold spec_TunedPitch.f
  refine evb (pitch_eq a) ?_
  unfold tunedPitch
  by_cases ha : fine a = true
  rotate_left
  · exact rneg ha <| evn ha jt
  refine rpos ha <| evp ha (evb (l01In_eq _ _ _) ?_)
  by_cases hb : 0 ≤ b ∧ b ≤ 100000
  rotate_left
  · rw [show (!decide (0 ≤ b ∧ b ≤ 100000)) = true by rw [decide_eq_false hb]; rfl]; exact rneg hb jt
  rw [show (!decide (0 ≤ b ∧ b ≤ 100000)) = false by rw [decide_eq_true hb]; rfl]
  refine rpos hb ?_
  have j2t : Ev (fun n => spec_TunedPitch.j2 n a 0 true) (orZero (wrap64 (Int.tdiv a 2))) := Ev.step (fun n => by rw [spec_TunedPitch.j2]) (evp rfl (evz (pitch_eq _)))
  have j2f : Ev (fun n => spec_TunedPitch.j2 n a 0 false) 0 := Ev.step (fun n => by rw [spec_TunedPitch.j2]) (evn (by decide) (evz (pitch_eq 0)))
  refine Ev.step (fun n => by rw [spec_TunedPitch.j0]) (evn (by decide) ?_)
  by_cases h1 : k = 1
  · rw [mx_comm 0]; exact rpos h1 <| evp h1 (evz (pitch_eq _))
  refine rneg h1 <| evn h1 ?_
  by_cases h2 : k = 2
  · rw [mx_comm 0]; exact rpos h2 <| evp h2 (evz (pitch_eq _))
  refine rneg h2 <| evn h2 ?_
  have j1f : Ev (fun n => spec_TunedPitch.j1 n a k b 0 false) (if k = 4 then if b = 0 then orZero (wrap64 (Int.tdiv a 2)) else 0 else 0) := by
    refine Ev.step (fun n => by rw [spec_TunedPitch.j1]) (evn (by decide) ?_)
    by_cases h4 : k = 4
    · refine rpos h4 <| evp h4 ?_
      by_cases b0 : b = 0
      · rw [show (b == 0) = true by simp [b0]]; exact rpos b0 j2t
      · rw [show (b == 0) = false by simp [b0]]; exact rneg b0 j2f
    · exact rneg h4 <| evn h4 j2f
  by_cases h3 : k = 3
  · refine rpos h3 <| evp h3 ?_
    by_cases b0 : b = 0
    · rw [show (b == 0) = true by simp [b0]]
      exact rpos b0 <| Ev.step (fun n => by rw [spec_TunedPitch.j1]) (evp rfl (evz (pitch_eq _)))
    · rw [show (b == 0) = false by simp [b0]]
      rw [if_neg (by omega)] at j1f
      exact rneg b0 j1f
  exact rneg h3 <| evn h3 j1f
end Go.Proofs.YtojiighpkppckaaGreatDoor.Q


namespace Go.Proofs.YtojiighpkppckaaGreatDoor.Q
set_option linter.unusedVariables false
set_option linter.unusedSimpArgs false
open Go.RowKit Go.Proofs.YtojiighpkppckaaGreatDoor.P Go.Proofs.YtojiighpkppckaaGreatDoorW.PrintWords Go.Proofs.YtojiighpkppckaaGreatDoorW.PrintMore
theorem rdS (l : List S95) (i : Nat) (h : i < l.length) : rd_T95 l (i : Int) = l[i] := by
  unfold rd_T95; simp [List.getD_eq_getElem?_getD, h]
end Go.Proofs.YtojiighpkppckaaGreatDoor.Q


namespace Go.Proofs.YtojiighpkppckaaGreatDoor.Q
set_option linter.unusedVariables false
set_option linter.unusedSimpArgs false
open Go.RowKit Go.Proofs.YtojiighpkppckaaGreatDoor.P Go.Proofs.YtojiighpkppckaaGreatDoorW.PrintWords Go.Proofs.YtojiighpkppckaaGreatDoorW.PrintMore
theorem planGoS_eq (l : List S95) (t : List Bool) : planGoS l t = planGo l t := by
  induction l generalizing t with
  | nil => rfl
  | cons x r ih => simp only [planGoS, planGo, ih]; rfl
theorem planSpec_eq (l : List S95) : spec_PlanOk.f l = some (planOk l) := by
  show some (planOkS l) = some (planOk l)
  unfold planOkS planOk
  rw [planGoS_eq, Bool.and_comm]; rfl
def inKeys (x : S95) : Prop := 0 ≤ x.f0 ∧ x.f0 ≤ 11 ∧ 0 ≤ x.f1 ∧ x.f1 ≤ 11 ∧ x.f1 = (x.f0 + 1) % 12
theorem stepOk_in {x : S95} {t : List Bool} (h : stepOk x t = true) : inKeys x := by
  simp [stepOk] at h; unfold inKeys; omega
theorem planGo_in {l : List S95} {t : List Bool} (h : planGo l t = true) : ∀ x ∈ l, inKeys x := by
  induction l generalizing t with
  | nil => simp
  | cons y r ih =>
    simp only [planGo, Bool.and_eq_true] at h
    intro x hx
    rcases List.mem_cons.1 hx with rfl | hx
    · exact stepOk_in h.1
    · exact ih h.2 x hx
theorem planOk_in {l : List S95} (h : planOk l = true) : ∀ x ∈ l, inKeys x := by
  simp only [planOk, Bool.and_eq_true] at h; exact planGo_in h.2
theorem planOk_len {l : List S95} (h : planOk l = true) : l.length ≤ 11 := by
  simp only [planOk, Bool.and_eq_true, decide_eq_true_eq] at h; exact h.1
theorem rd_get (l : List Int) (i : Int) : rd l i = l.getD i.toNat 0 := rfl
end Go.Proofs.YtojiighpkppckaaGreatDoor.Q


namespace Go.Proofs.YtojiighpkppckaaGreatDoor.Q
set_option linter.unusedVariables false
set_option linter.unusedSimpArgs false
open Go.RowKit Go.Proofs.YtojiighpkppckaaGreatDoor.P Go.Proofs.YtojiighpkppckaaGreatDoorW.PrintWords Go.Proofs.YtojiighpkppckaaGreatDoorW.PrintMore
def runGo : List S95 → List Int → List Int × Bool
  | [], o => (o, true)
  | x :: r, o => if tunedPitch (o.getD x.f0.toNat 0) x.f2 x.f3 = 0 then ([], false) else runGo r (o.set x.f1.toNat (tunedPitch (o.getD x.f0.toNat 0) x.f2 x.f3))
def begun (a : Int) : List Int := a :: List.replicate 11 0
def runPlan (a : Int) (l : List S95) : List Int × Bool := if planOk l = true ∧ fine a = true then runGo l (begun a) else ([], false)
theorem runPlan_spec (a : Int) (l : List S95) : Ev (fun n => spec_RunPlan.f n a l) (runPlan a l) := by
  have jt : Ev (fun n => spec_RunPlan.j0 n a l true) ([], false) := Ev.step (fun n => by rw [spec_RunPlan.j0]) (evp rfl (Ev.now _))
  unfold spec_RunPlan.f runPlan
  refine evb (planSpec_eq l) ?_
  by_cases hp : planOk l = true
  rotate_left
  · exact rneg (fun h => hp h.1) <| evn hp jt
  refine evp hp (evb (pitch_eq a) ?_)
  by_cases ha : fine a = true
  rotate_left
  · rw [show (!fine a) = true by simpa using ha]; exact rneg (fun h => ha h.2) jt
  rw [show (!fine a) = false by simpa using ha]
  refine rpos ⟨hp, ha⟩ ?_
  have hl := planOk_len hp
  have hin := planOk_in hp
  have key : ∀ i, i ≤ l.length → ∀ o : List Int, o.length = 12 → Ev (fun n => spec_RunPlan.l0 n l o (i : Int)) (runGo (l.drop i) o) := by
    refine down (n := l.length) ?_ ?_
    · intro o ho
      refine Ev.step (fun n => by rw [spec_RunPlan.l0]) (evn (by omega) (evs ?_))
      rw [drop_end]; rfl
    · intro i hi ih o ho
      obtain ⟨k0, k1, k2, k3, k4⟩ := hin l[i] (List.getElem_mem hi)
      refine Ev.step (fun n => by rw [spec_RunPlan.l0]) ?_
      refine evp (by omega) (evp (by omega) ?_)
      rw [rdS l i hi, drop_cons l i hi, runGo]
      refine evp k0 (evp (by omega) (Ev.bind (tuned_spec _ _ _) ?_))
      rw [rd_get]
      by_cases hz : tunedPitch (o.getD l[i].f0.toNat 0) l[i].f2 l[i].f3 = 0
      · exact rpos hz <| evp hz (Ev.now _)
      refine rneg hz <| evn hz (evp k2 (evp (by omega) ?_))
      rw [w64 (by omega) (by omega)]
      exact ih _ (by simpa using ho)
  refine Ev.step (fun n => by rw [spec_RunPlan.j0]) ?_
  refine evn (by decide) (evp (by decide) ?_)
  simp only [Option.bind_some]
  refine evp (by simp) ?_
  exact key 0 (Nat.zero_le _) _ (by simp)
end Go.Proofs.YtojiighpkppckaaGreatDoor.Q


namespace Go.Proofs.YtojiighpkppckaaGreatDoor.Q
set_option linter.unusedVariables false
set_option linter.unusedSimpArgs false
open Go.RowKit Go.Proofs.YtojiighpkppckaaGreatDoor.P Go.Proofs.YtojiighpkppckaaGreatDoorW.PrintWords Go.Proofs.YtojiighpkppckaaGreatDoorW.PrintMore
def stepTo (c : Int) : List S95 → Nat → Int
  | [], _ => -1
  | x :: r, j => if x.f1 = c then (j : Int) else stepTo c r (j + 1)
theorem stepTo_ev (l : List S95) (c : Int) (hl : l.length ≤ 4000000) : Ev (fun n => spec_l20Step.f n l c) (stepTo c l 0) := by
  have key : ∀ i, i ≤ l.length → Ev (fun n => spec_l20Step.l0 n l c (i : Int)) (stepTo c (l.drop i) i) := by
    refine down (n := l.length) ?_ ?_
    · refine Ev.step (fun n => by rw [spec_l20Step.l0]) (evn (by omega) (evs ?_))
      rw [drop_end]; rfl
    · intro i hi ih
      refine Ev.step (fun n => by rw [spec_l20Step.l0]) ?_
      refine evp (by omega) (evp (by omega) ?_)
      rw [rdS l i hi, drop_cons l i hi, stepTo]
      by_cases h : l[i].f1 = c
      · exact rpos h <| evp h (Ev.now _)
      · refine rneg h <| evn h ?_
        rw [w64 (by omega) (by omega)]
        exact ih
  exact key 0 (Nat.zero_le _)
theorem stepTo_lt (c : Int) (l : List S95) (j d : Nat) : (0 ≤ stepTo c l j ∧ stepTo c l j < ((j + d : Nat) : Int)) ↔ ∃ x ∈ l.take d, x.f1 = c := by
  induction l generalizing j d with
  | nil => simp [stepTo]
  | cons x r ih =>
    unfold stepTo
    cases d with
    | zero =>
      simp only [List.take_zero, List.not_mem_nil, false_and, exists_false, iff_false]
      by_cases h : x.f1 = c
      · rw [if_pos h]; omega
      · rw [if_neg h]
        have := ih (j + 1) 0
        simp at this
        have h1 := this
        intro h2
        have : ∀ (l : List S95) (j : Nat), stepTo c l j = -1 ∨ (j : Int) ≤ stepTo c l j := by
          intro l
          induction l with
          | nil => intro j; exact .inl rfl
          | cons y s ih2 =>
            intro j; unfold stepTo; split
            · exact .inr (Int.le_refl _)
            · rcases ih2 (j + 1) with h | h
              · exact .inl h
              · exact .inr (by omega)
        rcases this r (j + 1) with h3 | h3 <;> omega
    | succ d =>
      rw [List.take_succ_cons]
      by_cases h : x.f1 = c
      · rw [if_pos h]
        exact ⟨fun _ => ⟨x, List.mem_cons_self, h⟩, fun _ => ⟨by omega, by omega⟩⟩
      · rw [if_neg h]
        have := ih (j + 1) d
        rw [show j + 1 + d = j + (d + 1) by omega] at this
        rw [this]
        constructor
        · rintro ⟨y, hy, e⟩; exact ⟨y, List.mem_cons_of_mem _ hy, e⟩
        · rintro ⟨y, hy, e⟩
          rcases List.mem_cons.1 hy with rfl | hy
          · exact absurd e h
          · exact ⟨y, hy, e⟩
theorem tunedBy_len (l : List S95) (t : List Bool) : (P.tunedBy l t).length = t.length := by
  unfold P.tunedBy
  induction l generalizing t with
  | nil => rfl
  | cons x r ih => rw [List.foldl_cons, ih, List.length_set]
theorem tunedBy_get (l : List S95) (t : List Bool) (hin : ∀ x ∈ l, 0 ≤ x.f1) (c : Nat) (hc : c < t.length) : (P.tunedBy l t)[c]? = some (t[c] || l.any (fun x => decide (x.f1 = (c : Int)))) := by
  unfold P.tunedBy
  induction l generalizing t with
  | nil => simp [hc]
  | cons x r ih =>
    rw [List.foldl_cons, ih _ (fun y hy => hin y (List.mem_cons_of_mem _ hy)) (by simpa using hc)]
    have := hin x List.mem_cons_self
    simp only [List.any_cons, List.getElem_set]
    by_cases h : x.f1 = (c : Int)
    · rw [if_pos (by omega)]; simp [h]
    · rw [if_neg (by omega)]; simp [h]
theorem workOk_spec (p : List S95) (d : Int) (q : List Int) : Ev (fun n => spec_WorkOk.f n p d q) (workOk p d q) := by
  have jt : Ev (fun n => spec_WorkOk.j0 n true p d q) false := Ev.step (fun n => by rw [spec_WorkOk.j0]) (evp rfl (Ev.now _))
  unfold spec_WorkOk.f workOk
  refine evb (planSpec_eq p) ?_
  by_cases hp : planOk p = true
  rotate_left
  · rw [show planOk p = false by simpa using hp, Bool.false_and]; exact evn (by simp) jt
  refine evp hp (evb (l01In_eq _ _ _) ?_)
  rw [hp, Bool.true_and]
  by_cases hd : 0 ≤ d ∧ d ≤ (p.length : Int)
  rotate_left
  · rw [decide_eq_false hd, Bool.false_and]; exact evn (by simp) jt
  rw [decide_eq_true hd, Bool.true_and]
  refine evp rfl ?_
  by_cases hq : q.length = 12
  rotate_left
  · rw [decide_eq_false hq, Bool.false_and, show ((q.length : Int) != 12) = true by simpa using (show ¬ (q.length : Int) = 12 by omega)]; exact jt
  rw [decide_eq_true hq, Bool.true_and, show ((q.length : Int) != 12) = false by simpa using (show (q.length : Int) = 12 by omega)]
  have hl := planOk_len hp
  have hin := planOk_in hp
  obtain ⟨T, hT⟩ : ∃ T, P.tunedBy (p.take d.toNat) tuned0 = T := ⟨_, rfl⟩
  have hTl : T.length = 12 := by rw [← hT, tunedBy_len]; rfl
  have hTi : ∀ c : Nat, (hc : c < T.length) → T[c] = (decide (c = 0) || decide (0 ≤ stepTo (c : Int) p 0 ∧ stepTo (c : Int) p 0 < d)) := by
    intro c hc
    have h1 := tunedBy_get (p.take d.toNat) tuned0 (fun x hx => (hin x (List.mem_of_mem_take hx)).2.2.1) c (show c < 12 by omega)
    rw [hT, List.getElem?_eq_getElem hc] at h1
    rw [Option.some.inj h1]
    congr 1
    · have : ∀ c, (h : c < tuned0.length) → tuned0[c] = decide (c = 0) := by decide
      exact this c _
    · have h2 := stepTo_lt (c : Int) p 0 d.toNat
      rw [Nat.zero_add, Int.toNat_of_nonneg hd.1] at h2
      rw [Bool.eq_iff_iff, decide_eq_true_iff, h2]
      simp
  rw [hT]
  have key : ∀ i : Nat, i ≤ 12 → Ev (fun n => spec_WorkOk.l0 n (i : Int) p d q) (keyGo (T.drop i) (q.drop i)) := by
    refine down (n := 12) ?_ ?_
    · refine Ev.step (fun n => by rw [spec_WorkOk.l0]) (evn (by omega) (evs ?_))
      rw [List.drop_eq_nil_of_le (by omega)]; rfl
    · intro i hi ih
      refine Ev.step (fun n => by rw [spec_WorkOk.l0]) ?_
      refine evp (by omega) (Ev.bind (stepTo_ev p _ (by omega)) ?_)
      rw [rd_nat q i (by omega), drop_cons T i (by omega), drop_cons q i (by omega), keyGo, hTi i (by omega), w64 (n := (i : Int) + 1) (by omega) (by omega)]
      have fin : ∀ v : Bool, Ev (fun n => (spec_l18Pitch.f q[i]).bind fun t => if t = true then spec_WorkOk.l0 n (((i + 1 : Nat)) : Int) p d q else some false) (decide (1 ≤ q[i] ∧ q[i] ≤ 10000000) && keyGo (T.drop (i + 1)) (q.drop (i + 1))) := by
        intro v
        refine evb (pitch_eq _) ?_
        by_cases hf : fine q[i] = true
        · rw [show decide (1 ≤ q[i] ∧ q[i] ≤ 10000000) = true from hf, Bool.true_and]; exact evp hf ih
        · rw [show decide (1 ≤ q[i] ∧ q[i] ≤ 10000000) = false by simpa [fine] using hf, Bool.false_and]; exact evn hf (Ev.now _)
      have zer : Ev (fun n => if 0 ≤ (i : Int) then (if (i : Int) < (q.length : Int) then (if q[i] = 0 then spec_WorkOk.l0 n (((i + 1 : Nat)) : Int) p d q else some false) else none) else none) (decide (q[i] = 0) && keyGo (T.drop (i + 1)) (q.drop (i + 1))) := by
        refine evp (by omega) (evp (by omega) ?_)
        by_cases hz : q[i] = 0
        · rw [decide_eq_true hz, Bool.true_and]; exact evp hz ih
        · rw [decide_eq_false hz, Bool.false_and]; exact evn hz (Ev.now _)
      by_cases h0 : i = 0
      · refine evp (by omega) (evp (by omega) (evp (by omega) ?_))
        rw [decide_eq_true h0, Bool.true_or, if_pos rfl]
        exact fin true
      refine evn (by omega) ?_
      rw [decide_eq_false h0, Bool.false_or]
      by_cases h1 : 0 ≤ stepTo (i : Int) p 0
      rotate_left
      · rw [decide_eq_false (fun h => h1 h.1), if_neg (by simp)]; exact evn (by omega) zer
      refine evp (by omega) ?_
      by_cases h2 : stepTo (i : Int) p 0 < d
      · rw [decide_eq_true ⟨h1, h2⟩, if_pos rfl]; exact evp h2 (evp (by omega) (evp (by omega) (fin true)))
      · rw [decide_eq_false (fun h => h2 h.2), if_neg (by simp)]; exact evn h2 zer
  refine Ev.step (fun n => by rw [spec_WorkOk.j0]) (evn (by decide) ?_)
  exact key 0 (by omega)
theorem workOk_plan {p : List S95} {d : Int} {q : List Int} (h : workOk p d q = true) : planOk p = true := by
  simp only [workOk, Bool.and_eq_true] at h; exact h.1
theorem workOk_done {p : List S95} {d : Int} {q : List Int} (h : workOk p d q = true) : 0 ≤ d ∧ d ≤ p.length := by
  simp only [workOk, Bool.and_eq_true, decide_eq_true_eq] at h; exact h.2.1
theorem workOk_len {p : List S95} {d : Int} {q : List Int} (h : workOk p d q = true) : q.length = 12 := by
  simp only [workOk, Bool.and_eq_true, decide_eq_true_eq] at h; exact h.2.2.1
end Go.Proofs.YtojiighpkppckaaGreatDoor.Q


namespace Go.Proofs.YtojiighpkppckaaGreatDoor.Q
set_option linter.unusedVariables false
set_option linter.unusedSimpArgs false
open Go.RowKit Go.Proofs.YtojiighpkppckaaGreatDoor.P Go.Proofs.YtojiighpkppckaaGreatDoorW.PrintWords Go.Proofs.YtojiighpkppckaaGreatDoorW.PrintMore
def tuneAt (p : List S95) (q : List Int) (i : Nat) : Int := tunedPitch (q.getD (p.getD i z95).f0.toNat 0) (p.getD i z95).f2 (p.getD i z95).f3
theorem getS (p : List S95) (i : Nat) (hi : i < p.length) : p.getD i z95 = p[i] := by simp [List.getD_eq_getElem?_getD, hi]
end Go.Proofs.YtojiighpkppckaaGreatDoor.Q


namespace Go.Proofs.YtojiighpkppckaaGreatDoor.Q
set_option linter.unusedVariables false
set_option linter.unusedSimpArgs false
open Go.RowKit Go.Proofs.YtojiighpkppckaaGreatDoor.P Go.Proofs.YtojiighpkppckaaGreatDoorW.PrintWords Go.Proofs.YtojiighpkppckaaGreatDoorW.PrintMore
def usualKind (i : Nat) : Int := if i = 0 ∨ i = 2 ∨ i = 4 ∨ i = 7 ∨ i = 9 then 1 else 2
def usualPlan (b : Int) : List S95 := if 0 ≤ b ∧ b ≤ 5000 then (List.range 11).map (fun (i : Nat) => ⟨(i : Int), (i : Int) + 1, usualKind i, b⟩) else []
theorem usual_kinds : ∀ i : Nat, i < 11 → rd [1, 2, 1, 2, 1, 2, 2, 1, 2, 1, 2] (i : Int) = usualKind i := by decide
theorem usual_spec (b : Int) : Ev (fun k => spec_UsualPlan.f k b) (usualPlan b) := by
  unfold spec_UsualPlan.f usualPlan
  by_cases hb : 0 ≤ b ∧ b ≤ 5000
  rotate_left
  · refine rneg hb (Ev.step (fun k => by rw [spec_UsualPlan.l0]) (evp (by decide) (evb (l01In_eq _ _ _) (evn (bfalse hb) (Ev.now _)))))
  refine rpos hb ?_
  have key : ∀ i : Nat, i ≤ 11 → Ev (fun k => spec_UsualPlan.l0 k b ((List.range i).map (fun (i : Nat) => (⟨(i : Int), (i : Int) + 1, usualKind i, b⟩ : S95))) (i : Int)) ((List.range 11).map (fun (i : Nat) => ⟨(i : Int), (i : Int) + 1, usualKind i, b⟩)) := by
    refine down (n := 11) ?_ ?_
    · exact Ev.step (fun k => by rw [spec_UsualPlan.l0]) (evn (by decide) (Ev.now _))
    · intro i hi ih
      refine Ev.step (fun k => by rw [spec_UsualPlan.l0]) ?_
      refine evp (by omega) (evb (l01In_eq _ _ _) ?_)
      refine evp (btrue hb) (evb rfl ?_)
      refine evp (by omega) ?_
      refine evp (by simp; omega) ?_
      refine evp (by simp; omega) ?_
      rw [usual_kinds i hi, w64 (n := (i : Int) + 1) (by omega) (by omega)]
      rw [List.range_succ, List.map_append] at ih
      exact ih
  exact key 0 (by omega)
end Go.Proofs.YtojiighpkppckaaGreatDoor.Q


namespace Go.Proofs.YtojiighpkppckaaGreatDoor.Q
set_option linter.unusedVariables false
set_option linter.unusedSimpArgs false
open Go.RowKit Go.Proofs.YtojiighpkppckaaGreatDoor.P Go.Proofs.YtojiighpkppckaaGreatDoorW.PrintWords Go.Proofs.YtojiighpkppckaaGreatDoorW.PrintMore
def gStep (i : Nat) (x : S95) : Prop := x.f0 = i ∧ x.f1 = (i : Int) + 1 ∧ (x.f2 = 2 ∨ x.f2 = usualKind i) ∧ 0 ≤ x.f3 ∧ x.f3 < 1500
def gPlan (p : List S95) : Prop := p.length ≤ 11 ∧ ∀ i (h : i < p.length), gStep i p[i]
theorem gPlan_usual (b : Int) (h : 0 ≤ b ∧ b < 1500) : gPlan (usualPlan b) ∧ (usualPlan b).length = 11 := by
  unfold usualPlan
  rw [if_pos (by omega)]
  refine ⟨⟨by simp, fun i hi => ?_⟩, by simp⟩
  simp only [List.getElem_map, List.getElem_range]
  exact ⟨rfl, rfl, .inr rfl, h.1, h.2⟩
theorem gPlan_take {p : List S95} (h : gPlan p) (n : Nat) : gPlan (p.take n) := by
  refine ⟨by have := h.1; simp; omega, fun i hi => ?_⟩
  rw [List.getElem_take]
  exact h.2 i _
end Go.Proofs.YtojiighpkppckaaGreatDoor.Q


namespace Go.Proofs.YtojiighpkppckaaGreatDoor.Q
set_option linter.unusedVariables false
set_option linter.unusedSimpArgs false
open Go.RowKit Go.Proofs.YtojiighpkppckaaGreatDoor.P Go.Proofs.YtojiighpkppckaaGreatDoorW.PrintWords Go.Proofs.YtojiighpkppckaaGreatDoorW.PrintMore
theorem getD_set_self (q : List Int) (i : Nat) (v : Int) (h : i < q.length) : (q.set i v).getD i 0 = v := by simp [List.getD_eq_getElem?_getD, h]
theorem getD_set_ne (q : List Int) (i k : Nat) (v : Int) (h : i ≠ k) : (q.set i v).getD k 0 = q.getD k 0 := by
  simp only [List.getD_eq_getElem?_getD]; rw [List.getElem?_set_ne h]
def pit (p : List S95) (s : Int) : Nat → Int
  | 0 => s
  | k + 1 => tunedPitch (pit p s k) (p.getD k z95).f2 (p.getD k z95).f3
def lows : List Int := [155000, 115875, 86531, 64523, 48017, 35638, 26353, 19390, 14167, 10250, 7312, 5109]
def highs : List Int := [345000, 517500, 388125, 582187, 436640, 654960, 491220, 368415, 552622, 414466, 621699, 466274]
theorem fine_of {n : Int} (h1 : 1 ≤ n) (h2 : n ≤ 10000000) : fine n = true := decide_eq_true ⟨h1, h2⟩
theorem tuned_five (a b : Int) (h1 : 2000 ≤ a) (h2 : a ≤ 1000000) (h3 : 0 ≤ b) (h4 : b < 1500) : tunedPitch a 1 b = (3 * a - b) / 2 := by
  unfold tunedPitch orZero mx
  rw [if_pos (fine_of (by omega) (by omega)), if_pos (by omega), if_pos rfl, w64 (n := 3 * a) (by omega) (by omega), w64 (n := 3 * a - b) (by omega) (by omega)]
  have e : (if (3 * a - b) < 0 then (0 : Int) else 3 * a - b) = 3 * a - b := if_neg (by omega)
  rw [e]
  rw [Int.tdiv_eq_ediv_of_nonneg (by omega), w64 (by omega) (by omega), if_pos (fine_of (by omega) (by omega))]
theorem tuned_four (a b : Int) (h1 : 2000 ≤ a) (h2 : a ≤ 1000000) (h3 : 0 ≤ b) (h4 : b < 1500) : tunedPitch a 2 b = (3 * a - b) / 4 := by
  unfold tunedPitch orZero mx
  rw [if_pos (fine_of (by omega) (by omega)), if_pos (by omega), if_neg (by decide), if_pos rfl, w64 (n := 3 * a) (by omega) (by omega), w64 (n := 3 * a - b) (by omega) (by omega)]
  have e : (if (3 * a - b) < 0 then (0 : Int) else 3 * a - b) = 3 * a - b := if_neg (by omega)
  rw [e]
  rw [Int.tdiv_eq_ediv_of_nonneg (by omega), w64 (by omega) (by omega), if_pos (fine_of (by omega) (by omega))]
theorem bound_step (k : Nat) (hk : k < 11) (a b x : Int) (h1 : lows.getD k 0 ≤ a) (h2 : a ≤ highs.getD k 0) (h3 : 0 ≤ b) (h4 : b < 1500) (hx : x = 2 ∨ x = usualKind k) :
    lows.getD (k + 1) 0 ≤ tunedPitch a x b ∧ tunedPitch a x b ≤ highs.getD (k + 1) 0 := by
  have a1 : 2000 ≤ a ∧ a ≤ 1000000 := by
    have : ∀ k : Nat, k < 11 → 2000 ≤ lows.getD k 0 ∧ highs.getD k 0 ≤ 1000000 := by decide
    have := this k hk; omega
  have hx2 : x = 2 ∨ (x = 1 ∧ usualKind k = 1) := by
    rcases hx with h | h
    · exact .inl h
    · unfold usualKind at h ⊢
      by_cases h5 : k = 0 ∨ k = 2 ∨ k = 4 ∨ k = 7 ∨ k = 9
      · rw [if_pos h5] at h ⊢; exact .inr ⟨h, rfl⟩
      · rw [if_neg h5] at h; exact .inl h
  have hk2 : k = 0 ∨ k = 1 ∨ k = 2 ∨ k = 3 ∨ k = 4 ∨ k = 5 ∨ k = 6 ∨ k = 7 ∨ k = 8 ∨ k = 9 ∨ k = 10 := by omega
  rcases hx2 with rfl | ⟨rfl, hu⟩
  · rw [tuned_four a b a1.1 a1.2 h3 h4]
    rcases hk2 with rfl | rfl | rfl | rfl | rfl | rfl | rfl | rfl | rfl | rfl | rfl <;> simp only [lows, highs, List.getD_cons_zero, List.getD_cons_succ] at h1 h2 ⊢ <;> omega
  · rw [tuned_five a b a1.1 a1.2 h3 h4]
    rcases hk2 with rfl | rfl | rfl | rfl | rfl | rfl | rfl | rfl | rfl | rfl | rfl <;> first | (exact absurd hu (by decide)) | (simp only [lows, highs, List.getD_cons_zero, List.getD_cons_succ] at h1 h2 ⊢; omega)
section
variable {p : List S95} (g : gPlan p) {s : Int} (hs : 155000 ≤ s ∧ s ≤ 345000)
include g
theorem gAt (i : Nat) (h : i < p.length) : (p.getD i z95).f0 = i ∧ (p.getD i z95).f1 = (i : Int) + 1 ∧ ((p.getD i z95).f2 = 2 ∨ (p.getD i z95).f2 = usualKind i) ∧ 0 ≤ (p.getD i z95).f3 ∧ (p.getD i z95).f3 < 1500 := by
  rw [getS p i h]; exact g.2 i h
include hs
theorem pit_bounds (k : Nat) (hk : k ≤ p.length) : lows.getD k 0 ≤ pit p s k ∧ pit p s k ≤ highs.getD k 0 := by
  induction k with
  | zero => exact hs
  | succ k ih =>
    obtain ⟨h1, h2⟩ := ih (by omega)
    obtain ⟨g0, g1, g2, g3, g4⟩ := gAt g k (by omega)
    exact bound_step k (by have := g.1; omega) _ _ _ h1 h2 g3 g4 g2
theorem pit_fine (k : Nat) (hk : k ≤ p.length) : 2000 ≤ pit p s k ∧ pit p s k ≤ 1000000 := by
  have : ∀ k : Nat, k < 12 → 2000 ≤ lows.getD k 0 ∧ highs.getD k 0 ≤ 1000000 := by decide
  have h1 := this k (by have := g.1; omega)
  have h2 := pit_bounds g hs k hk
  omega
end
def pits (p : List S95) (s : Int) (n : Nat) : List Int := (List.range 12).map (fun k => if k ≤ n then pit p s k else 0)
theorem pits_len (p : List S95) (s : Int) (n : Nat) : (pits p s n).length = 12 := by simp [pits]
theorem pits_get (p : List S95) (s : Int) (n k : Nat) (hk : k < 12) : (pits p s n).getD k 0 = if k ≤ n then pit p s k else 0 := by
  simp [pits, List.getD_eq_getElem?_getD, hk]
theorem list_ext12 {a b : List Int} (ha : a.length = 12) (hb : b.length = 12) (h : ∀ k : Nat, k < 12 → a.getD k 0 = b.getD k 0) : a = b := by
  apply List.ext_getElem (by omega)
  intro k h1 h2
  have := h k (by omega)
  simpa [List.getD_eq_getElem?_getD, h1, h2] using this
theorem pits_zero (p : List S95) (s : Int) : pits p s 0 = begun s := by
  refine list_ext12 (pits_len p s 0) (by simp [begun]) (fun k hk => ?_)
  rw [pits_get p s 0 k hk]
  cases k with
  | zero => rfl
  | succ k =>
    rw [if_neg (by omega)]
    have : ∀ k : Nat, k < 11 → (List.replicate 11 (0 : Int)).getD k 0 = 0 := by decide
    exact (this k (by omega)).symm
theorem pits_succ (p : List S95) (s : Int) (n : Nat) (hn : n < 11) : (pits p s n).set (n + 1) (pit p s (n + 1)) = pits p s (n + 1) := by
  refine list_ext12 (by simp [pits_len]) (pits_len _ _ _) (fun k hk => ?_)
  have h1 := pits_get p s n k hk
  rw [pits_get p s (n + 1) k hk]
  by_cases e : k = n + 1
  · subst e
    rw [if_pos (Nat.le_refl _)]
    exact getD_set_self _ _ _ (by rw [pits_len]; omega)
  · have : ((pits p s n).set (n + 1) (pit p s (n + 1))).getD k 0 = (pits p s n).getD k 0 := by
      simp only [List.getD_eq_getElem?_getD]
      rw [List.getElem?_set_ne (by omega)]
    rw [this, h1]
    by_cases h2 : k ≤ n
    · rw [if_pos h2, if_pos (by omega)]
    · rw [if_neg h2, if_neg (by omega)]
def tunedN (n : Nat) : List Bool := (List.range 12).map (fun k => decide (k ≤ n))
theorem tunedN_zero : tunedN 0 = tuned0 := by decide
theorem tunedN_succ (n : Nat) (hn : n < 11) : (tunedN n).set (n + 1) true = tunedN (n + 1) := by
  have : ∀ n : Nat, n < 11 → (tunedN n).set (n + 1) true = tunedN (n + 1) := by decide
  exact this n hn
theorem tunedN_get (n k : Nat) (hk : k < 12) : (tunedN n).getD k false = decide (k ≤ n) := by simp [tunedN, List.getD_eq_getElem?_getD, hk]
theorem usualKind_le (i : Nat) : usualKind i = 1 ∨ usualKind i = 2 := by unfold usualKind; split <;> simp
theorem planGo_good {p : List S95} (g : gPlan p) (j : Nat) (hj : j ≤ p.length) : planGo (p.drop j) (tunedN j) = true := by
  refine down (P := fun j => planGo (p.drop j) (tunedN j) = true) (n := p.length) ?_ ?_ j hj
  · rw [drop_end]; rfl
  · intro i hi ih
    have hl := g.1
    obtain ⟨g0, g1, g2, g3, g4⟩ := g.2 i hi
    rw [drop_cons p i hi, planGo, Bool.and_eq_true]
    constructor
    · have t1 := tunedN_get i i (by omega)
      have t2 := tunedN_get i (i + 1) (by omega)
      have e1 : (p[i].f0).toNat = i := by omega
      have e2 : (p[i].f1).toNat = i + 1 := by omega
      unfold stepOk
      rw [e1, e2, t1, t2]
      have hk : p[i].f2 = 1 ∨ p[i].f2 = 2 := by
        rcases g2 with h | h
        · exact .inr h
        · rw [h]; exact usualKind_le i
      simp only [Bool.and_eq_true, Bool.or_eq_true, decide_eq_true_eq]
      refine ⟨hk, ⟨g3, by omega⟩, by omega, by omega, by omega, Nat.le_refl _, ?_⟩
      simp
    · rw [g1, show ((i : Int) + 1).toNat = i + 1 by omega, tunedN_succ i (by omega)]
      exact ih
theorem planOk_good {p : List S95} (g : gPlan p) : planOk p = true := by
  unfold planOk
  rw [Bool.and_eq_true, decide_eq_true_eq]
  refine ⟨g.1, ?_⟩
  have := planGo_good g 0 (Nat.zero_le _)
  rwa [tunedN_zero] at this
theorem tunedBy_good {p : List S95} (g : gPlan p) (n : Nat) (hn : n ≤ p.length) : P.tunedBy (p.take n) tuned0 = tunedN n := by
  induction n with
  | zero => rw [tunedN_zero]; rfl
  | succ n ih =>
    rw [List.take_succ_eq_append_getElem (by omega), P.tunedBy_snoc, ih (by omega)]
    obtain ⟨g0, g1, _⟩ := g.2 n (by omega)
    rw [g1, show ((n : Int) + 1).toNat = n + 1 by omega]
    exact tunedN_succ n (by have := g.1; omega)
theorem keyGo_iff : ∀ (t : List Bool) (q : List Int), t.length = q.length → (keyGo t q = true ↔ ∀ k : Nat, k < q.length → if t.getD k false = true then 1 ≤ q.getD k 0 ∧ q.getD k 0 ≤ 10000000 else q.getD k 0 = 0)
  | [], [], _ => by simp [keyGo]
  | b :: t, x :: q, h => by
    have ih := keyGo_iff t q (by simpa using h)
    rw [keyGo, Bool.and_eq_true, ih]
    constructor
    · rintro ⟨h1, h2⟩ k hk
      cases k with
      | zero => simpa [apply_ite] using h1
      | succ k => simpa using h2 k (by simpa using hk)
    · intro h2
      refine ⟨?_, fun k hk => by simpa using h2 (k + 1) (by simpa using hk)⟩
      have := h2 0 (by simp)
      cases b <;> simpa using this
theorem workOk_good {p : List S95} (g : gPlan p) (n : Nat) (hn : n ≤ p.length) (q : List Int) :
    workOk p (n : Int) q = true ↔ q.length = 12 ∧ (∀ k : Nat, k ≤ n → 1 ≤ q.getD k 0 ∧ q.getD k 0 ≤ 10000000) ∧ (∀ k : Nat, n < k → k < 12 → q.getD k 0 = 0) := by
  unfold workOk
  rw [planOk_good g, Bool.true_and, decide_eq_true (show 0 ≤ (n : Int) ∧ (n : Int) ≤ p.length by omega), Bool.true_and, Int.toNat_natCast, tunedBy_good g n hn, Bool.and_eq_true, decide_eq_true_eq]
  have hl := g.1
  constructor
  · rintro ⟨h1, h2⟩
    rw [keyGo_iff _ _ (by simp [tunedN, h1])] at h2
    refine ⟨h1, fun k hk => ?_, fun k hk hk2 => ?_⟩
    · have := h2 k (by omega)
      rw [tunedN_get n k (by omega), decide_eq_true hk, if_pos rfl] at this
      exact this
    · have := h2 k (by omega)
      rw [tunedN_get n k (by omega), decide_eq_false (by omega), if_neg (by simp)] at this
      exact this
  · rintro ⟨h1, h2, h3⟩
    refine ⟨h1, (keyGo_iff _ _ (by simp [tunedN, h1])).2 fun k hk => ?_⟩
    rw [tunedN_get n k (by omega)]
    by_cases h : k ≤ n
    · rw [decide_eq_true h, if_pos rfl]; exact h2 k h
    · rw [decide_eq_false h, if_neg (by simp)]; exact h3 k (by omega) (by omega)
theorem workOk_pits {p : List S95} (g : gPlan p) {s : Int} (hs : 155000 ≤ s ∧ s ≤ 345000) (n : Nat) (hn : n ≤ p.length) : workOk p (n : Int) (pits p s n) = true := by
  have hl := g.1
  refine (workOk_good g n hn _).2 ⟨pits_len _ _ _, fun k hk => ?_, fun k hk hk2 => ?_⟩
  · rw [pits_get p s n k (by omega), if_pos hk]
    have := pit_fine g hs k (by omega)
    omega
  · rw [pits_get p s n k hk2, if_neg (by omega)]
theorem runGo_good {p : List S95} (g : gPlan p) {s : Int} (hs : 155000 ≤ s ∧ s ≤ 345000) (j : Nat) (hj : j ≤ p.length) : runGo (p.drop j) (pits p s j) = (pits p s p.length, true) := by
  refine down (P := fun j => runGo (p.drop j) (pits p s j) = (pits p s p.length, true)) (n := p.length) ?_ ?_ j hj
  · rw [drop_end]; rfl
  · intro i hi ih
    have hl := g.1
    obtain ⟨g0, g1, _⟩ := g.2 i hi
    rw [drop_cons p i hi, runGo]
    have e1 : (p[i].f0).toNat = i := by omega
    have e2 : (p[i].f1).toNat = i + 1 := by omega
    have e3 : tunedPitch ((pits p s i).getD i 0) p[i].f2 p[i].f3 = pit p s (i + 1) := by
      rw [pits_get p s i i (by omega), if_pos (Nat.le_refl _)]
      show _ = tunedPitch _ (p.getD i z95).f2 (p.getD i z95).f3
      rw [getS p i hi]
    have hf := pit_fine g hs (i + 1) hi
    rw [e1, e2, e3, if_neg (by omega), pits_succ p s i (by omega)]
    exact ih
theorem runPlan_good {p : List S95} (g : gPlan p) {s : Int} (hs : 155000 ≤ s ∧ s ≤ 345000) : runPlan s p = (pits p s p.length, true) := by
  unfold runPlan
  rw [if_pos ⟨planOk_good g, fine_of (by omega) (by omega)⟩, ← pits_zero p s]
  exact runGo_good g hs 0 (Nat.zero_le _)
end Go.Proofs.YtojiighpkppckaaGreatDoor.Q


namespace Go.Proofs.YtojiighpkppckaaGreatDoor.Q
set_option linter.unusedVariables false
set_option linter.unusedSimpArgs false
open Go.RowKit Go.Proofs.YtojiighpkppckaaGreatDoor.P Go.Proofs.YtojiighpkppckaaGreatDoorW.PrintWords Go.Proofs.YtojiighpkppckaaGreatDoorW.PrintMore
theorem l19Copy_eq (p : List S95) (hp : p.length ≤ 4000000) : spec_l19Copy.f p = some p := by
  unfold spec_l19Copy.f; simp only [Option.bind_some]; rw [if_pos (by simp; omega)]; simp
theorem l02Copy_eq (p : List Int) (hp : p.length ≤ 4000000) : spec_l02Copy.f p = some p := by
  unfold spec_l02Copy.f; simp only [Option.bind_some]; rw [if_pos (by simp; omega)]; simp
theorem l36Copy_eq (p : List S95) (d : Int) (q : List Int) (hp : p.length ≤ 4000000) (hq : q.length ≤ 4000000) : spec_l36Copy.f p d q = some (p, d, q) := by
  unfold spec_l36Copy.f; rw [l19Copy_eq p hp]; simp only [Option.bind_some]; rw [l02Copy_eq q hq]; rfl
end Go.Proofs.YtojiighpkppckaaGreatDoor.Q


namespace Go.Proofs.YtojiighpkppckaaGreatDoor.Q
set_option linter.unusedVariables false
set_option linter.unusedSimpArgs false
open Go.RowKit Go.Proofs.YtojiighpkppckaaGreatDoor.P Go.Proofs.YtojiighpkppckaaGreatDoorW.PrintWords Go.Proofs.YtojiighpkppckaaGreatDoorW.PrintMore
def workStep (p : List S95) (d : Int) (q : List Int) : List S95 × Int × List Int × Bool :=
  if workOk p d q = true then
    if d = (p.length : Int) then (p, d, q, false)
    else if tuneAt p q d.toNat = 0 then (p, d, q, false)
    else (p, d + 1, q.set (p.getD d.toNat z95).f1.toNat (tuneAt p q d.toNat), true)
  else (p, d, q, false)
theorem step_spec (p : List S95) (d : Int) (q : List Int) (hp : p.length ≤ 4000000) (hq : q.length ≤ 4000000) : Ev (fun n => spec_WorkStep.f n p d q) (workStep p d q) := by
  have jt : Ev (fun n => spec_WorkStep.j0 n true p d q p d q) (p, d, q, false) := Ev.step (fun n => by rw [spec_WorkStep.j0]) (evp rfl (Ev.now _))
  unfold spec_WorkStep.f workStep
  refine evb (l36Copy_eq p d q hp hq) (Ev.bind (workOk_spec p d q) ?_)
  by_cases h : workOk p d q = true
  rotate_left
  · exact rneg h <| evn h jt
  refine rpos h <| evp h ?_
  have hp := workOk_plan h; have hd := workOk_done h; have hq := workOk_len h; have hl := planOk_len hp
  obtain ⟨m, rfl⟩ := Int.eq_ofNat_of_zero_le hd.1
  by_cases he : (m : Int) = (p.length : Int)
  · rw [show ((m : Int) == (p.length : Int)) = true by simpa using he]; exact rpos he jt
  rw [show ((m : Int) == (p.length : Int)) = false by simpa using he]
  refine rneg he ?_
  have hm : m < p.length := by omega
  obtain ⟨k0, k1, k2, k3, k4⟩ := planOk_in hp p[m] (List.getElem_mem hm)
  refine Ev.step (fun n => by rw [spec_WorkStep.j0]) ?_
  refine evn (by decide) (evp (by omega) (evp (by omega) ?_))
  rw [rdS p m hm]
  refine evp k0 (evp (by omega) (Ev.bind (tuned_spec _ _ _) ?_))
  rw [rd_get]
  have et : tunedPitch (q.getD p[m].f0.toNat 0) p[m].f2 p[m].f3 = tuneAt p q m := by unfold tuneAt; rw [getS p m hm]
  rw [et, getS p ((m : Int).toNat) hm]
  simp only [Int.toNat_natCast]
  by_cases hz : tuneAt p q m = 0
  · exact rpos hz <| evp hz (Ev.now _)
  refine rneg hz <| evn hz ?_
  rw [w64 (n := (m : Int) + 1) (by omega) (by omega)]
  exact evp k2 (evp (by omega) (Ev.now _))
end Go.Proofs.YtojiighpkppckaaGreatDoor.Q


namespace Go.Proofs.YtojiighpkppckaaGreatDoor.Q
set_option linter.unusedVariables false
set_option linter.unusedSimpArgs false
open Go.RowKit Go.Proofs.YtojiighpkppckaaGreatDoor.P Go.Proofs.YtojiighpkppckaaGreatDoorW.PrintWords Go.Proofs.YtojiighpkppckaaGreatDoorW.PrintMore
def isBad (p : List S95) (q : List Int) (i : Nat) : Bool := decide (q.getD (p.getD i z95).f1.toNat 0 ≠ tuneAt p q i)
def wrongs (p : List S95) (q : List Int) (l : List Nat) : List Int := (l.filter (isBad p q)).map (fun (i : Nat) => (i : Int))
def wrongSteps (p : List S95) (d : Int) (q : List Int) : List Int := if workOk p d q = true then wrongs p q (List.range d.toNat) else []
theorem wrongs_cons (p : List S95) (q : List Int) (i : Nat) (l : List Nat) : wrongs p q (i :: l) = if isBad p q i = true then (i : Int) :: wrongs p q l else wrongs p q l := by
  unfold wrongs; rw [List.filter_cons]; split <;> rfl
theorem wrong_spec (p : List S95) (d : Int) (q : List Int) : Ev (fun n => spec_WrongSteps.f n p d q) (wrongSteps p d q) := by
  unfold spec_WrongSteps.f wrongSteps
  simp only [Option.bind_some]
  refine Ev.bind (workOk_spec p d q) ?_
  by_cases h : workOk p d q = true
  rotate_left
  · exact rneg h <| evn h (Ev.now _)
  have hp := workOk_plan h; have hd := workOk_done h; have hq := workOk_len h; have hl := planOk_len hp
  obtain ⟨m, rfl⟩ := Int.eq_ofNat_of_zero_le hd.1
  refine rpos h <| evp h ?_
  simp only [Int.toNat_natCast]
  have key : ∀ i, i ≤ m → ∀ acc : List Int, acc.length ≤ i → Ev (fun n => spec_WrongSteps.l0 n acc (i : Int) p m q) (acc ++ wrongs p q ((List.range m).drop i)) := by
    refine down (n := m) ?_ ?_
    · intro acc ha
      refine Ev.step (fun n => by rw [spec_WrongSteps.l0]) (evn (by omega) (evs ?_))
      rw [List.drop_eq_nil_of_le (by simp)]; simp [wrongs]
    · intro i hi ih acc ha
      obtain ⟨k0, k1, k2, k3, k4⟩ := planOk_in hp p[i] (List.getElem_mem (by omega))
      refine Ev.step (fun n => by rw [spec_WrongSteps.l0]) ?_
      refine evp (by omega) (evp (by omega) (evp (by omega) ?_))
      rw [rdS p i (by omega)]
      refine evp k2 (evp (by omega) (evp k0 (evp (by omega) (Ev.bind (tuned_spec _ _ _) ?_))))
      rw [drop_cons _ i (by simpa using hi), List.getElem_range, rd_get, rd_get, w64 (n := (i : Int) + 1) (by omega) (by omega)]
      have g := getS p i (by omega)
      have eb : isBad p q i = decide (q.getD p[i].f1.toNat 0 ≠ tuneAt p q i) := by unfold isBad; rw [g]
      by_cases hb : q.getD p[i].f1.toNat 0 = tuneAt p q i
      · rw [show wrongs p q (i :: (List.range m).drop (i + 1)) = wrongs p q ((List.range m).drop (i + 1)) by rw [wrongs_cons, eb, if_neg (by simp only [decide_eq_true_eq]; exact fun h => h hb)]]
        refine evp (by rw [hb]; unfold tuneAt; rw [g]) ?_
        exact ih acc (by omega)
      · rw [show wrongs p q (i :: (List.range m).drop (i + 1)) = (i : Int) :: wrongs p q ((List.range m).drop (i + 1)) by rw [wrongs_cons, eb, if_pos (by simp only [decide_eq_true_eq]; exact hb)]]
        refine evn (by unfold tuneAt at hb; rw [g] at hb; exact hb) (evp (by omega) ?_)
        have := ih (acc ++ [(i : Int)]) (by simp; omega)
        rw [List.append_assoc] at this
        exact this
  have := key 0 (Nat.zero_le _) [] (Nat.le_refl _)
  simpa using this
end Go.Proofs.YtojiighpkppckaaGreatDoor.Q


namespace Go.Proofs.YtojiighpkppckaaGreatDoor.Q
set_option linter.unusedVariables false
set_option linter.unusedSimpArgs false
open Go.RowKit Go.Proofs.YtojiighpkppckaaGreatDoor.P Go.Proofs.YtojiighpkppckaaGreatDoorW.PrintWords Go.Proofs.YtojiighpkppckaaGreatDoorW.PrintMore
def mendStep (p : List S95) (d : Int) (q : List Int) : List S95 × Int × List Int × Bool :=
  match wrongSteps p d q with
  | [] => (p, d, q, false)
  | i :: _ => if tuneAt p q i.toNat = 0 then (p, d, q, false) else (p, d, q.set (p.getD i.toNat z95).f1.toNat (tuneAt p q i.toNat), true)
theorem wrongSteps_head {p : List S95} {d : Int} {q : List Int} {i : Int} {r : List Int} (h : wrongSteps p d q = i :: r) : workOk p d q = true ∧ ∃ j : Nat, i = j ∧ (j : Int) < d ∧ j < p.length := by
  unfold wrongSteps at h
  by_cases hw : workOk p d q = true
  rotate_left
  · rw [if_neg hw] at h; exact absurd h (by simp)
  rw [if_pos hw] at h
  refine ⟨hw, ?_⟩
  have hi : i ∈ wrongs p q (List.range d.toNat) := by rw [h]; exact List.mem_cons_self
  unfold wrongs at hi
  obtain ⟨j, hj, rfl⟩ := List.mem_map.1 hi
  have hd := workOk_done hw
  have := List.mem_range.1 (List.mem_filter.1 hj).1
  exact ⟨j, rfl, by omega, by omega⟩
theorem mend_spec (p : List S95) (d : Int) (q : List Int) (hp : p.length ≤ 4000000) (hq : q.length ≤ 4000000) : Ev (fun n => spec_MendStep.f n p d q) (mendStep p d q) := by
  unfold spec_MendStep.f mendStep
  refine evb (l36Copy_eq p d q hp hq) (Ev.bind (wrong_spec p d q) ?_)
  cases h : wrongSteps p d q with
  | nil => exact evp rfl (Ev.now _)
  | cons i r =>
    obtain ⟨hw, j, rfl, hj, hj2⟩ := wrongSteps_head h
    have hp := workOk_plan hw; have hq := workOk_len hw
    obtain ⟨k0, k1, k2, k3, k4⟩ := planOk_in hp p[j] (List.getElem_mem hj2)
    refine evn (by simp; omega) (evp (by simp) ?_)
    rw [show rd ((j : Int) :: r) 0 = (j : Int) from rfl]
    refine evp (by omega) (evp (by omega) ?_)
    rw [rdS p j hj2]
    refine evp k0 (evp (by omega) (Ev.bind (tuned_spec _ _ _) ?_))
    rw [rd_get]
    have et : tunedPitch (q.getD p[j].f0.toNat 0) p[j].f2 p[j].f3 = tuneAt p q j := by unfold tuneAt; rw [getS p j hj2]
    simp only [Int.toNat_natCast]
    rw [et, getS p j hj2]
    by_cases hz : tuneAt p q j = 0
    · exact rpos hz <| evp hz (Ev.now _)
    exact rneg hz <| evn hz (evp k2 (evp (by omega) (Ev.now _)))
end Go.Proofs.YtojiighpkppckaaGreatDoor.Q


namespace Go.Proofs.YtojiighpkppckaaGreatDoor.Q
set_option linter.unusedVariables false
set_option linter.unusedSimpArgs false
open Go.RowKit Go.Proofs.YtojiighpkppckaaGreatDoor.P Go.Proofs.YtojiighpkppckaaGreatDoorW.PrintWords Go.Proofs.YtojiighpkppckaaGreatDoorW.PrintMore
def knocked (q : List Int) (c x : Int) : List Int := q.set c.toNat (wrap64 (q.getD c.toNat 0 + x))
def knockKey (p : List S95) (d : Int) (q : List Int) (c x : Int) : List S95 × Int × List Int × Bool :=
  if workOk p d q = true ∧ (0 ≤ c ∧ c ≤ 11) ∧ (-100000 ≤ x ∧ x ≤ 100000) ∧ q.getD c.toNat 0 ≠ 0 then
    if workOk p d (knocked q c x) = true then (p, d, knocked q c x, true) else (p, d, q, false)
  else (p, d, q, false)
theorem knock_spec (p : List S95) (d : Int) (q : List Int) (c x : Int) (hp : p.length ≤ 4000000) (hq : q.length ≤ 4000000) : Ev (fun n => spec_KnockKey.f n p d q c x) (knockKey p d q c x) := by
  have jt : Ev (fun n => spec_KnockKey.j0 n c x true p d q p d q) (p, d, q, false) := Ev.step (fun n => by rw [spec_KnockKey.j0]) (evp rfl (Ev.now _))
  unfold spec_KnockKey.f knockKey
  refine evb (l36Copy_eq p d q hp hq) (Ev.bind (workOk_spec p d q) ?_)
  by_cases h : workOk p d q = true
  rotate_left
  · exact rneg (fun h2 => h h2.1) <| evn h jt
  have hl := workOk_len h
  refine evp h (evb (l01In_eq _ _ _) ?_)
  by_cases hc : 0 ≤ c ∧ c ≤ 11
  rotate_left
  · exact rneg (fun h2 => hc h2.2.1) <| evn (bfalse hc) jt
  refine evp (btrue hc) (evb (l01In_eq _ _ _) ?_)
  by_cases hx : -100000 ≤ x ∧ x ≤ 100000
  rotate_left
  · exact rneg (fun h2 => hx h2.2.2.1) <| evn (bfalse hx) jt
  refine evp (btrue hx) (evp hc.1 (evp (by omega) ?_))
  rw [rd_get]
  by_cases hz : q.getD c.toNat 0 = 0
  · rw [show (q.getD c.toNat 0 == 0) = true by rw [hz]; rfl]; exact rneg (fun h2 => h2.2.2.2 hz) jt
  rw [show (q.getD c.toNat 0 == 0) = false from beq_eq_false_iff_ne.mpr hz]
  refine rpos ⟨h, hc, hx, hz⟩ ?_
  refine Ev.step (fun n => by rw [spec_KnockKey.j0]) ?_
  refine evn (by decide) (evp hc.1 (evp (by show c < (q.length : Int); omega) ?_))
  simp only [Option.bind_some, rd_get]
  refine Ev.bind (workOk_spec p d _) ?_
  by_cases h3 : workOk p d (knocked q c x) = true
  · exact rpos h3 <| evp h3 (Ev.now _)
  · exact rneg h3 <| evn h3 (evb (l36Copy_eq p d q hp hq) (Ev.now _))
end Go.Proofs.YtojiighpkppckaaGreatDoor.Q


namespace Go.Proofs.YtojiighpkppckaaGreatDoor.Q
set_option linter.unusedVariables false
set_option linter.unusedSimpArgs false
open Go.RowKit Go.Proofs.YtojiighpkppckaaGreatDoor.P Go.Proofs.YtojiighpkppckaaGreatDoorW.PrintWords Go.Proofs.YtojiighpkppckaaGreatDoorW.PrintMore
def newWork (a : Int) (p : List S95) : List S95 × Int × List Int × Bool := if (runPlan a p).2 = true then (p, 0, begun a, true) else ([], 0, [], false)
theorem runPlan_plan {a : Int} {p : List S95} (h : (runPlan a p).2 = true) : planOk p = true ∧ fine a = true := by
  unfold runPlan at h
  by_cases h2 : planOk p = true ∧ fine a = true
  · exact h2
  · rw [if_neg h2] at h; exact absurd h (by simp)
theorem newWork_spec (a : Int) (p : List S95) : Ev (fun n => spec_NewWork.f n a p) (newWork a p) := by
  unfold spec_NewWork.f newWork
  refine Ev.bind (runPlan_spec a p) ?_
  by_cases h : (runPlan a p).2 = true
  rotate_left
  · exact rneg h <| evn h (Ev.now _)
  refine rpos h <| evp h (evb (l19Copy_eq p (by have := planOk_len (runPlan_plan h).1; omega)) (evp (by decide) ?_))
  simp only [Option.bind_some]
  exact evp (by simp) (Ev.now _)
end Go.Proofs.YtojiighpkppckaaGreatDoor.Q


namespace Go.Proofs.YtojiighpkppckaaGreatDoor.Q
set_option linter.unusedVariables false
set_option linter.unusedSimpArgs false
open Go.RowKit Go.Proofs.YtojiighpkppckaaGreatDoor.P Go.Proofs.YtojiighpkppckaaGreatDoorW.PrintWords Go.Proofs.YtojiighpkppckaaGreatDoorW.PrintMore
def rightTo (p : List S95) (q : List Int) (i : Nat) : Prop := ∀ k : Nat, k ≤ i → q.getD k 0 = pit p (q.getD 0 0) k
theorem rightTo_zero (p : List S95) (q : List Int) : rightTo p q 0 := by
  intro k hk
  obtain rfl : k = 0 := by omega
  rfl
theorem rightTo_pits (p : List S95) (s : Int) (n : Nat) (hn : n < 12) : rightTo p (pits p s n) n := fun k hk => by
  rw [pits_get p s n k (by omega), if_pos hk, pits_get p s n 0 (by omega), if_pos (Nat.zero_le _)]; rfl
section
variable {p : List S95} (g : gPlan p)
include g
theorem tuneAt_right {q : List Int} {i : Nat} (hi : i < p.length) (h : q.getD i 0 = pit p (q.getD 0 0) i) : tuneAt p q i = pit p (q.getD 0 0) (i + 1) := by
  unfold tuneAt
  rw [(gAt g i hi).1, Int.toNat_natCast, h]; rfl
theorem isBad_iff {q : List Int} {i : Nat} (hi : i < p.length) : isBad p q i = true ↔ q.getD (i + 1) 0 ≠ tuneAt p q i := by
  unfold isBad
  rw [(gAt g i hi).2.1, show ((i : Int) + 1).toNat = i + 1 by omega, decide_eq_true_iff]
theorem rightTo_succ {q : List Int} {i : Nat} (hi : i < p.length) (h : rightTo p q i) (hb : ¬ isBad p q i = true) : rightTo p q (i + 1) := by
  rw [isBad_iff g hi] at hb
  have hb2 : q.getD (i + 1) 0 = tuneAt p q i := Classical.byContradiction hb
  intro k hk
  by_cases e : k = i + 1
  · subst e; rw [hb2]; exact tuneAt_right g hi (h i (Nat.le_refl _))
  · exact h k (by omega)
theorem notBad {q : List Int} {i j : Nat} (hi : i ≤ p.length) (h : rightTo p q i) (hj : j < i) : isBad p q j = false := by
  have : ¬ isBad p q j = true := by
    rw [isBad_iff g (by omega), Classical.not_not, tuneAt_right g (by omega) (h j (by omega))]
    exact h (j + 1) (by omega)
  simpa using this
theorem wrongs_skip {q : List Int} {i : Nat} (hi : i ≤ p.length) (h : rightTo p q i) (r : List Nat) : wrongs p q (List.range i ++ r) = wrongs p q r := by
  unfold wrongs
  rw [List.filter_append, List.filter_eq_nil_iff.2 (fun j hj => by rw [notBad g hi h (List.mem_range.1 hj)]; simp)]
  rfl
theorem wrongs_none {q : List Int} {i : Nat} (hi : i ≤ p.length) (h : rightTo p q i) : wrongs p q (List.range i) = [] := by
  have := wrongs_skip g hi h []
  rw [List.append_nil] at this
  rw [this]; rfl
theorem wrongs_first {q : List Int} {i j : Nat} (hi : i + (j + 1) ≤ p.length) (h : rightTo p q i) (hb : isBad p q i = true) : ∃ r, wrongs p q (List.range (i + (j + 1))) = (i : Int) :: r := by
  rw [List.range_add, wrongs_skip g (by omega) h, List.range_succ_eq_map, List.map_cons, Nat.add_zero, wrongs_cons, if_pos hb]
  exact ⟨_, rfl⟩
theorem right_pits {q : List Int} {n : Nat} (hn : n ≤ p.length) (hw : workOk p (n : Int) q = true) (h : rightTo p q n) : q = pits p (q.getD 0 0) n := by
  obtain ⟨h1, h2, h3⟩ := (workOk_good g n hn q).1 hw
  refine list_ext12 h1 (pits_len _ _ _) (fun k hk => ?_)
  rw [pits_get _ _ n k hk]
  by_cases e : k ≤ n
  · rw [if_pos e]; exact h k e
  · rw [if_neg e]; exact h3 k (by omega) hk
theorem mended {q : List Int} {i n : Nat} (hn : n ≤ p.length) (hi : i < n) (hw : workOk p (n : Int) q = true) (hs : 155000 ≤ q.getD 0 0 ∧ q.getD 0 0 ≤ 345000) (h : rightTo p q i) :
    workOk p (n : Int) (q.set (i + 1) (pit p (q.getD 0 0) (i + 1))) = true ∧ (q.set (i + 1) (pit p (q.getD 0 0) (i + 1))).getD 0 0 = q.getD 0 0 ∧ rightTo p (q.set (i + 1) (pit p (q.getD 0 0) (i + 1))) (i + 1) := by
  obtain ⟨h1, h2, h3⟩ := (workOk_good g n hn q).1 hw
  have hl := g.1
  have hf := pit_fine g hs (i + 1) (by omega)
  have e0 : (q.set (i + 1) (pit p (q.getD 0 0) (i + 1))).getD 0 0 = q.getD 0 0 := getD_set_ne _ _ _ _ (by omega)
  refine ⟨(workOk_good g n hn _).2 ⟨by simpa using h1, fun k hk => ?_, fun k hk hk2 => ?_⟩, e0, fun k hk => ?_⟩
  · by_cases e : i + 1 = k
    · subst e; rw [getD_set_self _ _ _ (by omega)]; omega
    · rw [getD_set_ne _ _ _ _ e]; exact h2 k hk
  · rw [getD_set_ne _ _ _ _ (by omega)]; exact h3 k hk hk2
  · rw [e0]
    by_cases e : i + 1 = k
    · subst e; rw [getD_set_self _ _ _ (by omega)]
    · rw [getD_set_ne _ _ _ _ e]; exact h k (by omega)
omit g in
theorem wrongSteps_good {q : List Int} {n : Nat} (hw : workOk p (n : Int) q = true) : wrongSteps p (n : Int) q = wrongs p q (List.range n) := by
  unfold wrongSteps; rw [if_pos hw, Int.toNat_natCast]
theorem mendStep_good {q : List Int} {i j n : Nat} (hn : n ≤ p.length) (hij : n = i + (j + 1)) (hw : workOk p (n : Int) q = true) (hs : 155000 ≤ q.getD 0 0 ∧ q.getD 0 0 ≤ 345000) (h : rightTo p q i) (hb : isBad p q i = true) :
    mendStep p (n : Int) q = (p, (n : Int), q.set (i + 1) (pit p (q.getD 0 0) (i + 1)), true) := by
  obtain ⟨r, hr⟩ := wrongs_first g (by omega : i + (j + 1) ≤ p.length) h hb
  have hf := pit_fine g hs (i + 1) (by omega)
  unfold mendStep
  rw [wrongSteps_good hw, hij, hr]
  simp only [Int.toNat_natCast]
  rw [tuneAt_right g (by omega) (h i (Nat.le_refl _)), if_neg (by omega), (gAt g i (by omega)).2.1, show ((i : Int) + 1).toNat = i + 1 by omega]
theorem workStep_good {s : Int} (hs : 155000 ≤ s ∧ s ≤ 345000) {n : Nat} (hn : n < p.length) : workStep p (n : Int) (pits p s n) = (p, ((n + 1 : Nat) : Int), pits p s (n + 1), true) := by
  have hl := g.1
  have hf := pit_fine g hs (n + 1) hn
  have e0 : (pits p s n).getD 0 0 = s := by rw [pits_get p s n 0 (by omega), if_pos (Nat.zero_le _)]; rfl
  have e1 : tuneAt p (pits p s n) n = pit p s (n + 1) := by
    have := tuneAt_right g hn (q := pits p s n) (rightTo_pits p s n (by omega) n (Nat.le_refl _))
    rwa [e0] at this
  unfold workStep
  rw [if_pos (workOk_pits g hs n (by omega)), if_neg (by omega), Int.toNat_natCast, e1, if_neg (by omega), (gAt g n hn).2.1, show ((n : Int) + 1).toNat = n + 1 by omega, pits_succ p s n (by omega)]
  rfl
theorem workStep_end {s : Int} (hs : 155000 ≤ s ∧ s ≤ 345000) : workStep p (p.length : Int) (pits p s p.length) = (p, (p.length : Int), pits p s p.length, false) := by
  unfold workStep
  rw [if_pos (workOk_pits g hs p.length (Nat.le_refl _)), if_pos rfl]
theorem newWork_good {s : Int} (hs : 155000 ≤ s ∧ s ≤ 345000) : newWork s p = (p, ((0 : Nat) : Int), pits p s 0, true) := by
  unfold newWork
  rw [runPlan_good g hs, if_pos rfl, pits_zero]; rfl
theorem knock_good {q : List Int} {n : Nat} (hn : n ≤ p.length) (hw : workOk p (n : Int) q = true) (c x : Int) (hx : -1000 ≤ x ∧ x ≤ 1000) :
    (knockKey p (n : Int) q c x).1 = p ∧ (knockKey p (n : Int) q c x).2.1 = (n : Int) ∧ workOk p (n : Int) (knockKey p (n : Int) q c x).2.2.1 = true ∧
      q.getD 0 0 - 1000 ≤ (knockKey p (n : Int) q c x).2.2.1.getD 0 0 ∧ (knockKey p (n : Int) q c x).2.2.1.getD 0 0 ≤ q.getD 0 0 + 1000 := by
  obtain ⟨h1, h2, h3⟩ := (workOk_good g n hn q).1 hw
  have h20 := h2 0 (Nat.zero_le _)
  unfold knockKey
  split
  · rename_i hk
    split
    · rename_i hok
      refine ⟨rfl, rfl, hok, ?_⟩
      show _ ≤ (knocked q c x).getD 0 0 ∧ (knocked q c x).getD 0 0 ≤ _
      unfold knocked
      by_cases e : c.toNat = 0
      · rw [e, getD_set_self _ _ _ (by omega), w64 (by omega) (by omega)]; omega
      · rw [getD_set_ne _ _ _ _ e]; omega
    · exact ⟨rfl, rfl, hw, by dsimp only; omega⟩
  · exact ⟨rfl, rfl, hw, by dsimp only; omega⟩
end
end Go.Proofs.YtojiighpkppckaaGreatDoor.Q


namespace Go.Proofs.YtojiighpkppckaaGreatDoor.Q
set_option linter.unusedVariables false
set_option linter.unusedSimpArgs false
open Go.RowKit Go.Proofs.YtojiighpkppckaaGreatDoor.P Go.Proofs.YtojiighpkppckaaGreatDoorW.PrintWords Go.Proofs.YtojiighpkppckaaGreatDoorW.PrintMore
def newShop (x : Int) (p : List S95) : List S95 × Int × List Int × Int × Int × List S101 × Bool :=
  if (newWork x p).2.2.2 = true then ((newWork x p).1, (newWork x p).2.1, (newWork x p).2.2.1, 15, 0, [], true) else ([], 0, [], 0, 0, [], false)
theorem newShop_spec (x : Int) (p : List S95) : Ev (fun k => spec_NewShop.f k x p) (newShop x p) := by
  unfold spec_NewShop.f newShop
  refine Ev.bind (newWork_spec x p) ?_
  by_cases h : (newWork x p).2.2.2 = true
  · exact rpos h <| evp h (Ev.now _)
  · exact rneg h <| evn h (Ev.now _)
end Go.Proofs.YtojiighpkppckaaGreatDoor.Q


namespace Go.Proofs.YtojiighpkppckaaGreatDoor.Q
set_option linter.unusedVariables false
set_option linter.unusedSimpArgs false
open Go.RowKit Go.Proofs.YtojiighpkppckaaGreatDoor.P Go.Proofs.YtojiighpkppckaaGreatDoorW.PrintWords Go.Proofs.YtojiighpkppckaaGreatDoorW.PrintMore
theorem logOk_spec (l : List S101) (hl : l.length ≤ 1048577) : Ev (fun k => spec_LogOk.f k l) (logOk l) := Ev.now _
end Go.Proofs.YtojiighpkppckaaGreatDoor.Q


namespace Go.Proofs.YtojiighpkppckaaGreatDoor.Q
set_option linter.unusedVariables false
set_option linter.unusedSimpArgs false
open Go.RowKit Go.Proofs.YtojiighpkppckaaGreatDoor.P Go.Proofs.YtojiighpkppckaaGreatDoorW.PrintWords Go.Proofs.YtojiighpkppckaaGreatDoorW.PrintMore
theorem shopOk_spec (p : List S95) (d : Int) (q : List Int) (a m : Int) (l : List S101) (hl : l.length ≤ 1048577) : Ev (fun k => spec_ShopOk.f k p d q a m l) (shopOk p d q a m l) := Ev.bind (workOk_spec p d q) (Ev.now _)
end Go.Proofs.YtojiighpkppckaaGreatDoor.Q


namespace Go.Proofs.YtojiighpkppckaaGreatDoor.Q
set_option linter.unusedVariables false
set_option linter.unusedSimpArgs false
open Go.RowKit Go.Proofs.YtojiighpkppckaaGreatDoor.P Go.Proofs.YtojiighpkppckaaGreatDoorW.PrintWords Go.Proofs.YtojiighpkppckaaGreatDoorW.PrintMore
theorem l34Copy_eq (l : List S101) (hl : l.length ≤ 4000000) : spec_l34Copy.f l = some l := by
  unfold spec_l34Copy.f; simp only [Option.bind_some]; rw [if_pos (by simp; omega)]; simp
end Go.Proofs.YtojiighpkppckaaGreatDoor.Q


namespace Go.Proofs.YtojiighpkppckaaGreatDoor.Q
set_option linter.unusedVariables false
set_option linter.unusedSimpArgs false
open Go.RowKit Go.Proofs.YtojiighpkppckaaGreatDoor.P Go.Proofs.YtojiighpkppckaaGreatDoorW.PrintWords Go.Proofs.YtojiighpkppckaaGreatDoorW.PrintMore
theorem l38Copy_eq (p : List S95) (d : Int) (q : List Int) (a m : Int) (l : List S101) (hp : p.length ≤ 4000000) (hq : q.length ≤ 4000000) (hl : l.length ≤ 4000000) : spec_l38Copy.f p d q a m l = some (p, d, q, a, m, l) := by
  unfold spec_l38Copy.f; rw [l36Copy_eq p d q hp hq, Option.bind_some, l34Copy_eq l hl]; rfl
end Go.Proofs.YtojiighpkppckaaGreatDoor.Q


namespace Go.Proofs.YtojiighpkppckaaGreatDoor.Q
set_option linter.unusedVariables false
set_option linter.unusedSimpArgs false
open Go.RowKit Go.Proofs.YtojiighpkppckaaGreatDoor.P Go.Proofs.YtojiighpkppckaaGreatDoorW.PrintWords Go.Proofs.YtojiighpkppckaaGreatDoorW.PrintMore
def shopWarm (p : List S95) (d : Int) (q : List Int) (a m : Int) (l : List S101) (x : Int) : List S95 × Int × List Int × Int × Int × List S101 × Bool :=
  if shopOk p d q a m l = true ∧ m ≠ 100000 ∧ (-10 ≤ x ∧ x ≤ 40) then (p, d, q, x, m + 1, l, true) else (p, d, q, a, m, l, false)
theorem lastOk_mono {l : List S101} {m n : Int} (h : lastOk l m) (hm : m ≤ n) : lastOk l n := by
  rcases h with h | h
  · exact .inl h
  · exact .inr (by omega)
theorem swarm_spec (p : List S95) (d : Int) (q : List Int) (a m : Int) (l : List S101) (x : Int) (hp : p.length ≤ 4000000) (hq : q.length ≤ 4000000) (hl : l.length ≤ 1048576) : Ev (fun k => spec_ShopWarm.f k p d q a m l x) (shopWarm p d q a m l x) := by
  unfold spec_ShopWarm.f shopWarm
  refine evb (l38Copy_eq p d q a m l hp hq (by omega)) (Ev.bind (shopOk_spec p d q a m l (by omega)) ?_)
  by_cases h : shopOk p d q a m l = true
  rotate_left
  · exact rneg (fun h2 => h h2.1) <| evn h (evb (l38Copy_eq p d q a m l hp hq (by omega)) (Ev.now _))
  obtain ⟨h1, h2, h3, h4, h5⟩ := shopOk_iff.1 h
  refine evp h ?_
  by_cases h8 : m = 100000
  · exact rneg (fun h7 => h7.2.1 h8) <| evp h8 (evb (l38Copy_eq p d q a m l hp hq (by omega)) (Ev.now _))
  refine evn h8 (Ev.bind (shopOk_spec p d q x m l (by omega)) ?_)
  by_cases h6 : -10 ≤ x ∧ x ≤ 40
  · rw [w64 (n := m + 1) (by omega) (by omega)]
    exact rpos ⟨h, h8, h6⟩ <| evp (shopOk_iff.2 ⟨h1, h2, h6, h4, h5⟩) (Ev.now _)
  · refine rneg (fun h7 => h6 h7.2.2) <| evn (fun h7 => ?_) (evb (l38Copy_eq p d q a m l hp hq (by omega)) (Ev.now _))
    exact h6 (shopOk_iff.1 h7).2.2.1
end Go.Proofs.YtojiighpkppckaaGreatDoor.Q


namespace Go.Proofs.YtojiighpkppckaaGreatDoor.Q
set_option linter.unusedVariables false
set_option linter.unusedSimpArgs false
open Go.RowKit Go.Proofs.YtojiighpkppckaaGreatDoor.P Go.Proofs.YtojiighpkppckaaGreatDoorW.PrintWords Go.Proofs.YtojiighpkppckaaGreatDoorW.PrintMore
def ent (r n f m : Int) : S101 := ⟨⟨r, n⟩, f, m⟩
def addEntry (l : List S101) (r n f m : Int) : List S101 × Bool := if logOk l = true ∧ logOk (l ++ [ent r n f m]) = true then (l ++ [ent r n f m], true) else (l, false)
theorem add_spec (l : List S101) (r n f m : Int) (hl : l.length ≤ 1048576) : Ev (fun k => spec_AddEntry.f k l r n f m) (addEntry l r n f m) := by
  unfold spec_AddEntry.f addEntry
  refine evb (l34Copy_eq l (by omega)) (evb rfl (evp (by simp; omega) (evb rfl (Ev.bind (logOk_spec l (by omega)) ?_))))
  by_cases h : logOk l = true
  rotate_left
  · exact rneg (fun h2 => h h2.1) <| evn h (evb (l34Copy_eq l (by omega)) (Ev.now _))
  refine evp h (Ev.bind (logOk_spec _ (by simp; omega)) ?_)
  by_cases h2 : logOk (l ++ [ent r n f m]) = true
  · exact rpos ⟨h, h2⟩ <| evp h2 (Ev.now _)
  · exact rneg (fun h3 => h2 h3.2) <| evn h2 (evb (l34Copy_eq l (by omega)) (Ev.now _))
end Go.Proofs.YtojiighpkppckaaGreatDoor.Q


namespace Go.Proofs.YtojiighpkppckaaGreatDoor.Q
set_option linter.unusedVariables false
set_option linter.unusedSimpArgs false
open Go.RowKit Go.Proofs.YtojiighpkppckaaGreatDoor.P Go.Proofs.YtojiighpkppckaaGreatDoorW.PrintWords Go.Proofs.YtojiighpkppckaaGreatDoorW.PrintMore
def shopFault (p : List S95) (d : Int) (q : List Int) (a m : Int) (l : List S101) (r n f : Int) : List S95 × Int × List Int × Int × Int × List S101 × Bool :=
  if shopOk p d q a m l = true ∧ (addEntry l r n f m).2 = true then (p, d, q, a, m, (addEntry l r n f m).1, true) else (p, d, q, a, m, l, false)
theorem sfault_spec (p : List S95) (d : Int) (q : List Int) (a m : Int) (l : List S101) (r n f : Int) (hp : p.length ≤ 4000000) (hq : q.length ≤ 4000000) (hl : l.length ≤ 1048576) : Ev (fun k => spec_ShopFault.f k p d q a m l r n f) (shopFault p d q a m l r n f) := by
  unfold spec_ShopFault.f shopFault
  refine evb (l38Copy_eq p d q a m l hp hq (by omega)) (Ev.bind (add_spec l r n f m hl) (Ev.bind (shopOk_spec p d q a m l (by omega)) ?_))
  by_cases h : shopOk p d q a m l = true
  rotate_left
  · exact rneg (fun h2 => h h2.1) <| evn h (Ev.now _)
  refine evp h ?_
  by_cases h2 : (addEntry l r n f m).2 = true
  · exact rpos ⟨h, h2⟩ <| evp h2 (Ev.now _)
  · exact rneg (fun h3 => h2 h3.2) <| evn h2 (Ev.now _)
end Go.Proofs.YtojiighpkppckaaGreatDoor.Q


namespace Go.Proofs.YtojiighpkppckaaGreatDoor.Q
set_option linter.unusedVariables false
set_option linter.unusedSimpArgs false
open Go.RowKit Go.Proofs.YtojiighpkppckaaGreatDoor.P Go.Proofs.YtojiighpkppckaaGreatDoorW.PrintWords Go.Proofs.YtojiighpkppckaaGreatDoorW.PrintMore
def shopKnock (p : List S95) (d : Int) (q : List Int) (a m : Int) (l : List S101) (c x : Int) : List S95 × Int × List Int × Int × Int × List S101 × Bool :=
  if shopOk p d q a m l = true then ((knockKey p d q c x).1, (knockKey p d q c x).2.1, (knockKey p d q c x).2.2.1, a, m, l, (knockKey p d q c x).2.2.2) else (p, d, q, a, m, l, false)
theorem sknock_spec (p : List S95) (d : Int) (q : List Int) (a m : Int) (l : List S101) (c x : Int) (hp : p.length ≤ 4000000) (hq : q.length ≤ 4000000) (hl : l.length ≤ 1048576) : Ev (fun k => spec_ShopKnock.f k p d q a m l c x) (shopKnock p d q a m l c x) := by
  unfold spec_ShopKnock.f shopKnock
  refine evb (l38Copy_eq p d q a m l hp hq (by omega)) (Ev.bind (shopOk_spec p d q a m l (by omega)) ?_)
  by_cases h : shopOk p d q a m l = true
  · exact rpos h <| evp h (Ev.bind (knock_spec p d q c x hp hq) (Ev.now _))
  · exact rneg h <| evn h (Ev.now _)
end Go.Proofs.YtojiighpkppckaaGreatDoor.Q


namespace Go.Proofs.YtojiighpkppckaaGreatDoor.Q
set_option linter.unusedVariables false
set_option linter.unusedSimpArgs false
open Go.RowKit Go.Proofs.YtojiighpkppckaaGreatDoor.P Go.Proofs.YtojiighpkppckaaGreatDoorW.PrintWords Go.Proofs.YtojiighpkppckaaGreatDoorW.PrintMore
def tuneStep (p : List S95) (d : Int) (q : List Int) : List S95 × Int × List Int × Bool := if (((wrongSteps p d q).length : Nat) : Int) > 0 then mendStep p d q else workStep p d q
def shopTune (p : List S95) (d : Int) (q : List Int) (a m : Int) (l : List S101) : List S95 × Int × List Int × Int × Int × List S101 × Bool :=
  if shopOk p d q a m l = true then ((tuneStep p d q).1, (tuneStep p d q).2.1, (tuneStep p d q).2.2.1, a, m, l, (tuneStep p d q).2.2.2) else (p, d, q, a, m, l, false)
theorem stune_spec (p : List S95) (d : Int) (q : List Int) (a m : Int) (l : List S101) (hp : p.length ≤ 4000000) (hq : q.length ≤ 4000000) (hl : l.length ≤ 1048576) : Ev (fun k => spec_ShopTune.f k p d q a m l) (shopTune p d q a m l) := by
  unfold spec_ShopTune.f shopTune tuneStep
  refine evb (l38Copy_eq p d q a m l hp hq (by omega)) (Ev.bind (shopOk_spec p d q a m l (by omega)) ?_)
  by_cases h : shopOk p d q a m l = true
  rotate_left
  · exact rneg h <| evn h (Ev.now _)
  refine rpos h <| evp h (Ev.bind (wrong_spec p d q) ?_)
  by_cases h2 : (((wrongSteps p d q).length : Nat) : Int) > 0
  · simp only [if_pos h2]; exact Ev.bind (mend_spec p d q hp hq) (Ev.now _)
  · simp only [if_neg h2]; exact Ev.bind (step_spec p d q hp hq) (Ev.now _)
end Go.Proofs.YtojiighpkppckaaGreatDoor.Q


namespace Go.Proofs.YtojiighpkppckaaGreatDoor.Q
set_option linter.unusedVariables false
set_option linter.unusedSimpArgs false
open Go.RowKit Go.Proofs.YtojiighpkppckaaGreatDoor.P Go.Proofs.YtojiighpkppckaaGreatDoorW.PrintWords Go.Proofs.YtojiighpkppckaaGreatDoorW.PrintMore
def sampleShop : List S95 × Int × List Int × Int × Int × List S101 := ((newShop 264000 (usualPlan 700)).1, (newShop 264000 (usualPlan 700)).2.1, (newShop 264000 (usualPlan 700)).2.2.1, (newShop 264000 (usualPlan 700)).2.2.2.1, (newShop 264000 (usualPlan 700)).2.2.2.2.1, (newShop 264000 (usualPlan 700)).2.2.2.2.2.1)
theorem sample_spec : Ev (fun k => spec_SampleShop.f k) sampleShop := by
  unfold spec_SampleShop.f
  exact Ev.bind (usual_spec 700) (Ev.bind (newShop_spec 264000 _) (Ev.now _))
end Go.Proofs.YtojiighpkppckaaGreatDoor.Q


namespace Go.Proofs.YtojiighpkppckaaGreatDoor.Q
set_option linter.unusedVariables false
set_option linter.unusedSimpArgs false
open Go.RowKit Go.Proofs.YtojiighpkppckaaGreatDoor.P Go.Proofs.YtojiighpkppckaaGreatDoorW.PrintWords Go.Proofs.YtojiighpkppckaaGreatDoorW.PrintMore
theorem bits_and (x y : Int) : Go.bits .and .i64 x y = wrap64 (((BitVec.ofInt IntKind.i64.bits x &&& BitVec.ofInt IntKind.i64.bits y).toNat : Nat) : Int) := by
  unfold Go.bits
  rw [IntWalk.i64_left]
theorem bits255 (x : Int) : 0 ≤ Go.bits .and .i64 x 255 ∧ Go.bits .and .i64 x 255 ≤ 255 := by
  have h2 : (BitVec.ofInt IntKind.i64.bits 255).toNat ≤ 255 := by decide
  rw [bits_and]
  obtain ⟨y, hy⟩ : ∃ y, BitVec.ofInt IntKind.i64.bits 255 = y := ⟨_, rfl⟩
  rw [hy] at h2 ⊢
  have h : (BitVec.ofInt IntKind.i64.bits x &&& y).toNat ≤ 255 := by
    rw [BitVec.toNat_and]; exact Nat.le_trans Nat.and_le_right h2
  rw [w64 (by omega) (by omega)]
  omega
section
variable (b : List Int) (hb : b.length ≤ 1048576)
include hb
theorem byte_ev (i h : Int) (hi : 0 ≤ i) : ∃ v i' h', spec_l01Byte.f b i h = some (v, i', h') ∧ 0 ≤ v ∧ v ≤ 255 ∧ 0 ≤ i' := by
  unfold spec_l01Byte.f
  by_cases h1 : i < (b.length : Int)
  · rw [if_pos h1, if_pos hi]
    exact ⟨_, _, _, rfl, (bits255 _).1, (bits255 _).2, by rw [w64 (by omega) (by omega)]; omega⟩
  · rw [if_neg h1]
    exact ⟨_, _, _, rfl, (bits255 _).1, (bits255 _).2, hi⟩
theorem below_ev (i h n : Int) (hi : 0 ≤ i) : ∃ v i' h', spec_l01Below.f b i h n = some (v, i', h') ∧ 0 ≤ v ∧ (0 < n → v < n) ∧ (n ≤ 0 → v = 0) ∧ 0 ≤ i' := by
  unfold spec_l01Below.f
  by_cases h1 : n ≤ 0
  · rw [if_pos h1]
    exact ⟨_, _, _, rfl, by omega, by omega, fun _ => rfl, hi⟩
  rw [if_neg h1]
  have key : ∀ v : Int, 0 ≤ v → 0 ≤ Int.tmod v n ∧ (0 < n → Int.tmod v n < n) := fun v hv => ⟨Int.tmod_nonneg n hv, fun h2 => by rw [Int.tmod_eq_emod_of_nonneg hv]; exact Int.emod_lt_of_pos v h2⟩
  by_cases h2 : n ≤ 256
  · rw [if_pos h2]
    obtain ⟨v, i1, h1', e, v0, v1, i0⟩ := byte_ev b hb i h hi
    rw [e, Option.bind_some, if_neg (by omega)]
    exact ⟨_, _, _, rfl, (key v v0).1, (key v v0).2, by omega, i0⟩
  rw [if_neg h2]
  obtain ⟨x, i1, g1, e1, x0, x1, j1⟩ := byte_ev b hb i h hi
  obtain ⟨y, i2, g2, e2, y0, y1, j2⟩ := byte_ev b hb i1 g1 j1
  obtain ⟨z, i3, g3, e3, z0, z1, j3⟩ := byte_ev b hb i2 g2 j2
  obtain ⟨u, i4, g4, e4, u0, u1, j4⟩ := byte_ev b hb i3 g3 j3
  rw [e1, Option.bind_some]; dsimp only
  rw [e2, Option.bind_some]; dsimp only
  rw [e3, Option.bind_some]; dsimp only
  rw [e4, Option.bind_some, if_neg (by omega)]; dsimp only
  rw [w64 (n := x * 16777216) (by omega) (by omega), w64 (n := y * 65536) (by omega) (by omega), w64 (n := z * 256) (by omega) (by omega), w64 (n := x * 16777216 + y * 65536) (by omega) (by omega), w64 (n := x * 16777216 + y * 65536 + z * 256) (by omega) (by omega), w64 (by omega) (by omega)]
  exact ⟨_, _, _, rfl, (key _ (by omega)).1, (key _ (by omega)).2, by omega, j4⟩
omit hb in
theorem new_ev : ∃ h, Ev (fun k => spec_l01New.f k b) (b, 0, h) := by
  have key : ∀ i, i ≤ b.length → ∀ x : Int, ∃ h, Ev (fun k => spec_l01New.l0 k b x (i : Int)) (b, 0, h) := by
    refine down (n := b.length) ?_ ?_
    · intro x
      exact ⟨x, Ev.step (fun k => by rw [spec_l01New.l0]) (evn (by omega) (Ev.now _))⟩
    · intro i hi ih x
      by_cases h4 : (i : Int) < 4000
      · obtain ⟨h, he⟩ := ih (Go.bits .and .i64 (wrap64 ((wrap64 ((wrap64 (x * 131)) + (wrap64 (rd b (i : Int))))) + 7)) 1073741823)
        refine ⟨h, Ev.step (fun k => by rw [spec_l01New.l0]) (evp (by omega) (evp h4 (evp (by omega) ?_)))⟩
        rw [w64 (n := (i : Int) + 1) (by omega) (by omega)]
        exact he
      · exact ⟨x, Ev.step (fun k => by rw [spec_l01New.l0]) (evp (by omega) (evn h4 (Ev.now _)))⟩
  unfold spec_l01New.f
  exact key 0 (Nat.zero_le _) _
end
end Go.Proofs.YtojiighpkppckaaGreatDoor.Q


namespace Go.Proofs.YtojiighpkppckaaGreatDoor.Q
set_option linter.unusedVariables false
set_option linter.unusedSimpArgs false
open Go.RowKit Go.Proofs.YtojiighpkppckaaGreatDoor.P Go.Proofs.YtojiighpkppckaaGreatDoorW.PrintWords Go.Proofs.YtojiighpkppckaaGreatDoorW.PrintMore
def gPipe (p : S77) : Prop := 0 ≤ p.f0 ∧ p.f0 ≤ 1 ∧ 0 ≤ p.f1 ∧ p.f1 ≤ 5
section
variable (b : List Int) (hb : b.length ≤ 1048576)
include hb
theorem pipe_ev (i h : Int) (hi : 0 ≤ i) : ∃ r n i' h', spec_l34Pipe.f b i h = some (r, n, i', h') ∧ gPipe ⟨r, n⟩ ∧ 0 ≤ i' := by
  unfold spec_l34Pipe.f
  obtain ⟨r, i1, h1, e1, r0, r1, _, j1⟩ := below_ev b hb i h 2 hi
  obtain ⟨n, i2, h2, e2, n0, n1, _, j2⟩ := below_ev b hb i1 h1 6 j1
  rw [e1, Option.bind_some]; dsimp only
  rw [e2, Option.bind_some]
  exact ⟨_, _, _, _, rfl, ⟨r0, by have := r1 (by omega); dsimp only; omega, n0, by have := n1 (by omega); dsimp only; omega⟩, j2⟩
end
end Go.Proofs.YtojiighpkppckaaGreatDoor.Q


namespace Go.Proofs.YtojiighpkppckaaGreatDoor.Q
set_option linter.unusedVariables false
set_option linter.unusedSimpArgs false
open Go.RowKit Go.Proofs.YtojiighpkppckaaGreatDoor.P Go.Proofs.YtojiighpkppckaaGreatDoorW.PrintWords Go.Proofs.YtojiighpkppckaaGreatDoorW.PrintMore
section
variable (b : List Int) (hb : b.length ≤ 1048576)
include hb
theorem once_ev (i h n : Int) (hi : 0 ≤ i) : ∃ v i' h', spec_l01Once.f b i h n = some (v, i', h') ∧ 0 ≤ i' := by
  unfold spec_l01Once.f
  obtain ⟨v, i1, h1, e, _, _, _, j⟩ := below_ev b hb i h n hi
  rw [e, Option.bind_some]
  exact ⟨_, _, _, rfl, j⟩
theorem pick_ev (i h : Int) (l : List Int) (hi : 0 ≤ i) (hl : 0 < l.length) : ∃ v i' h', spec_l01PickInt.f b i h l = some (v, i', h') ∧ v ∈ l ∧ 0 ≤ i' := by
  unfold spec_l01PickInt.f
  obtain ⟨v, i1, h1, e, v0, v1, _, j⟩ := below_ev b hb i h (l.length : Int) hi
  rw [e, Option.bind_some, if_pos v0, if_pos (v1 (by omega))]
  obtain ⟨m, rfl⟩ := Int.eq_ofNat_of_zero_le v0
  have hm : m < l.length := by have := v1 (by omega); omega
  exact ⟨_, _, _, rfl, by dsimp only; rw [rd_nat l m hm]; exact List.getElem_mem hm, j⟩
end
end Go.Proofs.YtojiighpkppckaaGreatDoor.Q

