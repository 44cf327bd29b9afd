/- What functions of the program come to (f), that their calls come to just this (calls), and the plain laws over lists and numbers. No condition but those of the given row. -/
import Derived.Test.YtojiighpkppckaaDoorC3
namespace Go.Proofs.YtojiighpkppckaaDoor.P
open Go.RowKit Go.Proofs.YtojiighpkppckaaDoorW.PrintWords Go.Proofs.YtojiighpkppckaaDoorW.PrintLast Go.Proofs.YtojiighpkppckaaDoorW.PrintMore
attribute [local go_sem] max2_int min2_int max_two min_two max_three min_three max_four min_four
set_option linter.unusedVariables false
set_option linter.unusedSimpArgs false
def spec_l38Shop.l0 : Nat → Int → Int → List Int → Int → Int → List (S145) → Int → List Int → Int → Int → List (S85) → Option ((List (S145)) × Int × List Int × Int × Int × (List (S85)) × Int × Int)
 | 0, _, _, _, _, _, _, _, _, _, _, _ => none
 | k + 1, x5, x6, x1000, x1001, x1002, x672000, x672001, x672002, x672003, x672004, x672005 => if x6 < x5 then ((spec_l01Below.f x1000 x1001 x1002 8).bind fun bt675 => (if bt675.1 = 0 then ((spec_l01Below.f x1000 bt675.2.1 bt675.2.2 30).bind fun bt678 => ((spec_ShopWarm.f k x672000 x672001 x672002 x672003 x672004 x672005 bt678.1).bind fun bt681 => (spec_l38Shop.l0 k x5 (wrap64 (x6 + 1)) x1000 bt678.2.1 bt678.2.2 bt681.1 bt681.2.1 bt681.2.2.1 bt681.2.2.2.1 bt681.2.2.2.2.1 bt681.2.2.2.2.2.1))) else (if bt675.1 = 1 then ((spec_l34Pipe.f x1000 bt675.2.1 bt675.2.2).bind fun bt694 => ((spec_l01Below.f x1000 bt694.2.2.1 bt694.2.2.2 3).bind fun bt699 => ((spec_ShopFault.f k x672000 x672001 x672002 x672003 x672004 x672005 bt694.1 bt694.2.1 bt699.1).bind fun bt702 => (spec_l38Shop.l0 k x5 (wrap64 (x6 + 1)) x1000 bt699.2.1 bt699.2.2 bt702.1 bt702.2.1 bt702.2.2.1 bt702.2.2.2.1 bt702.2.2.2.2.1 bt702.2.2.2.2.2.1)))) else (if bt675.1 = 2 then ((spec_l01Below.f x1000 bt675.2.1 bt675.2.2 12).bind fun bt715 => ((spec_l01Below.f x1000 bt715.2.1 bt715.2.2 2001).bind fun bt718 => ((spec_ShopKnock.f k x672000 x672001 x672002 x672003 x672004 x672005 bt715.1 (wrap64 (bt718.1 - 1000))).bind fun bt721 => (spec_l38Shop.l0 k x5 (wrap64 (x6 + 1)) x1000 bt718.2.1 bt718.2.2 bt721.1 bt721.2.1 bt721.2.2.1 bt721.2.2.2.1 bt721.2.2.2.2.1 bt721.2.2.2.2.2.1)))) else ((spec_ShopTune.f k x672000 x672001 x672002 x672003 x672004 x672005).bind fun bt734 => (spec_l38Shop.l0 k x5 (wrap64 (x6 + 1)) x1000 bt675.2.1 bt675.2.2 bt734.1 bt734.2.1 bt734.2.2.1 bt734.2.2.2.1 bt734.2.2.2.2.1 bt734.2.2.2.2.2.1)))))) else (some (x672000, x672001, x672002, x672003, x672004, x672005, x1001, x1002))
def spec_l38Shop.f (k : Nat) (s0_0 : List Int) (s0_1 : Int) (s0_2 : Int) : Option ((List (S145)) × Int × List Int × Int × Int × (List (S85)) × Int × Int) := (spec_l01Below.f s0_0 s0_1 s0_2 100000).bind fun bt650 => ((spec_l19Plan.f k s0_0 bt650.2.1 bt650.2.2).bind fun bt653 => ((spec_NewShop.f k (wrap64 (200000 + bt650.1)) bt653.1).bind fun bt658 => ((spec_l01Below.f s0_0 bt653.2.1 bt653.2.2 20).bind fun bt672 => (spec_l38Shop.l0 k bt672.1 0 s0_0 bt672.2.1 bt672.2.2 bt658.1 bt658.2.1 bt658.2.2.1 bt658.2.2.2.1 bt658.2.2.2.2.1 bt658.2.2.2.2.2.1))))
def spec_l38Shop.T9 : Bool × List (List Nat × List Nat) := (true, [([], []), ([], []), ([1], [1]), ([0, 2, 2], [0, 2]), ([3], [3]), ([4], [4]), ([4], [4]), ([5, 3, 0, 1, 2, 3, 4, 5], [5])])
def spec_l38Shop.B9 : List Nat := [0, 0, 2, 7, 15, 31, 31, 63]
theorem spec_l38Shop.tab9 : rtab .any (opsOf Tryd.f65 9) = spec_l38Shop.T9 := by kernel_rfl
theorem spec_l38Shop.bits9 : waitsOk spec_l38Shop.T9.2 spec_l38Shop.B9 = true := by kernel_rfl
def spec_l38Shop.T12 : Bool × List (List Nat × List Nat) := (true, [([], []), ([], []), ([], []), ([2], [2]), ([0, 1, 3, 3], [0, 1, 3]), ([4], [4]), ([5], [5]), ([5], [5]), ([6, 4, 0, 1, 2, 3, 4, 5, 6], [6])])
def spec_l38Shop.B12 : List Nat := [0, 0, 0, 4, 15, 31, 63, 63, 127]
theorem spec_l38Shop.tab12 : rtab .any (opsOf Tryd.f65 12) = spec_l38Shop.T12 := by kernel_rfl
theorem spec_l38Shop.bits12 : waitsOk spec_l38Shop.T12.2 spec_l38Shop.B12 = true := by kernel_rfl
def spec_l38Shop.T15 : Bool × List (List Nat × List Nat) := (true, [([], []), ([], []), ([], []), ([2], [2]), ([3], [3]), ([0, 1, 4, 3], [0, 1, 4]), ([5], [5]), ([6], [6]), ([6], [6]), ([7, 5, 0, 1, 2, 3, 4, 5, 6, 7], [7])])
def spec_l38Shop.B15 : List Nat := [0, 0, 0, 4, 12, 31, 63, 127, 127, 255]
theorem spec_l38Shop.tab15 : rtab .any (opsOf Tryd.f65 15) = spec_l38Shop.T15 := by kernel_rfl
theorem spec_l38Shop.bits15 : waitsOk spec_l38Shop.T15.2 spec_l38Shop.B15 = true := by kernel_rfl
set_option maxHeartbeats 8000000 in
set_option maxRecDepth 100000 in
theorem spec_l38Shop.calls (k : Nat) (g : Nat) (s0_0 : List Int) (s0_1 : Int) (s0_2 : Int) (r1 : List (S145)) (r2 : Int) (r3 : List Int) (r4 : Int) (r5 : Int) (r6 : List (S85)) (r7 : Int) (r8 : Int) (w0 w : World) (hI : IsS105 w0 w g s0_0 s0_1 s0_2) (hB : Below w0.heap.size w0 w) (h : spec_l38Shop.f k s0_0 s0_1 s0_2 = some (r1, r2, r3, r4, r5, r6, r7, r8)) :
  Calls Tryd.prog 65 #[.pointer (some ⟨g, 0, none⟩)] w fun e w' => ∃ v0_ v2_ v5_ : Value, e = .returned (.agg #[v0_, .int .i64 r2, v2_, .int .i64 r4, .int .i64 r5, v5_]) ∧ Kd.R k145 145 w' w.heap.size (fun _ => True) v0_ r1 ∧ Kd.R (Kd.int .i64) 3 w' w.heap.size (fun _ => True) v2_ r3 ∧ Kd.R k85 85 w' w.heap.size (fun _ => True) v5_ r6 ∧ IsS105 w0 w' g s0_0 r7 r8 ∧ Below w0.heap.size w0 w' ∧ KeepBut w w' g none := by
 have hu44 := Tryd.underlying44
 have hu83 := Tryd.underlying83
 have HI0 := A_ hI
 have HK := A_ (KeepBut.refl w g none)
 have HL := A_ hB.size
 clear hI
 have HW0 := A_ hB.size
 have HB := A_ hB
 clear hB
 have H : ((spec_l01Below.f s0_0 s0_1 s0_2 100000).bind fun bt650 => ((spec_l19Plan.f k s0_0 bt650.2.1 bt650.2.2).bind fun bt653 => ((spec_NewShop.f k (wrap64 (200000 + bt650.1)) bt653.1).bind fun bt658 => ((spec_l01Below.f s0_0 bt653.2.1 bt653.2.2 20).bind fun bt672 => (spec_l38Shop.l0 k bt672.1 0 s0_0 bt672.2.1 bt672.2.2 bt658.1 bt658.2.1 bt658.2.2.1 bt658.2.2.2.1 bt658.2.2.2.2.1 bt658.2.2.2.2.2.1))))) = some (r1, r2, r3, r4, r5, r6, r7, r8) := h
 clear h
 replace H := Option.bind_eq_some_iff.mp H
 obtain ⟨⟨t650, t651, t652⟩, A20, H⟩ := H
 (try dsimp only at H)
 have A2 := A_ A20
 clear A20
 replace H := Option.bind_eq_some_iff.mp H
 obtain ⟨⟨t653, t656, t657⟩, A30, H⟩ := H
 (try dsimp only at H)
 have A3 := A_ A30
 clear A30
 replace H := Option.bind_eq_some_iff.mp H
 obtain ⟨⟨t658, t661, t662, t665, t666, t667, t670⟩, A40, H⟩ := H
 (try dsimp only at H)
 have A4 := A_ A40
 clear A40
 replace H := Option.bind_eq_some_iff.mp H
 obtain ⟨⟨t672, t673, t674⟩, A50, H⟩ := H
 (try dsimp only at H)
 have A5 := A_ A50
 clear A50
 have H' := A_ H
 clear H
 go_enter Tryd.func65, Tryd.ntmps65
 go_wp2_with (first | ((with_reducible refine gate_dst (N := 2) rfl ?_); refine bX (N := 2) (cs := #[.slice none 0 0, .int .i64 0, .slice none 0 0, .int .i64 0, .int .i64 0, .slice none 0 0]) (t := 44) ?_; intro gb649 hg w6 hbox hb; have n0_ := A_ (IsS105.below (oI105 HI0) hb); have n1_ := A_ (KeepBut.trans (oKe HK) (KeepBut.of_below hb g none) (.inl rfl)); have n2_ := A_ (below_step (oB105 HB) hb); have n3_ := A_ (hbox); have n4_ := A_ ((by rw [hg]; exact (keep_size (w := w) (g := g) (row := none) (by repeat (first | (with_reducible first | exact HK.out | apply KeepBut.set_ | apply keep_drewN | apply keep_drew | apply keep_alloc) | exact HK.out))) : w.heap.size ≤ gb649)); have n5_ := A_ ((Nat.le_trans HW0.out (by rw [hg]; exact (keep_size (w := w) (g := g) (row := none) (by repeat (first | (with_reducible first | exact HK.out | apply KeepBut.set_ | apply keep_drewN | apply keep_drew | apply keep_alloc) | exact HK.out))) : w.heap.size ≤ gb649) : w0.heap.size ≤ gb649)); have n6_ := A_ ((by rw [hg]; exact Nat.ne_of_lt (IsS105.lt (show IsS105 w0 _ g s0_0 s0_1 s0_2 from oI105 HI0)) : g ≠ gb649)); have n7_ := A_ ((by rw [hg]; exact Nat.ne_of_gt (IsS105.lt (show IsS105 w0 _ g s0_0 s0_1 s0_2 from oI105 HI0)) : gb649 ≠ g)); clear HI0; clear HK; clear HB; have HI0 := n0_; have HK := n1_; have HB := n2_; have BK649 := n3_; have GW649 := n4_; have GE649 := n5_; have NB0_649 := n6_; have NB649_0 := n7_; clear n0_ n1_ n2_ n3_ n4_ n5_ n6_ n7_; clear hb hbox hg) | ((with_reducible refine gate_callee (f := 66) rfl ?_); refine gL (some 11) Tryd.func66 #[.pointer (some ⟨g, 0, none⟩), .int .i64 100000] ?_; (with_reducible refine (spec_l01Below.calls g s0_0 s0_1 s0_2 100000 t650 t651 t652 w0 _ ?side1 ?side2 A2.out).mono ?_); (case side1 => exact oI105 HI0); (case side2 => exact oB105 HB); rintro e w7 ⟨rfl, hi, hb, hk⟩; refine ⟨_, rfl, ?_⟩; have n0_ := A_ (KeepBut.blk hk (g' := gb649) (o := .cells #[.slice none 0 0, .int .i64 0, .slice none 0 0, .int .i64 0, .int .i64 0, .slice none 0 0] 44 (0, 0)) (oK BK649) NB649_0.out (by simp)); have n1_ := A_ (KeepBut.trans (oKe HK) hk (.inl rfl)); have n2_ := A_ (hb); have n3_ := A_ (hi); clear BK649; clear HK; clear HB; clear HI0; have BK649 := n0_; have HK := n1_; have HB := n2_; have HI0 := n3_; clear n0_ n1_ n2_ n3_; (try clear hb); (try clear hb2); (try clear hk); (try clear hi)) | ((with_reducible refine gate_callee (f := 91) rfl ?_); refine gL (some 14) Tryd.func91 #[.pointer (some ⟨g, 0, none⟩)] ?_; (with_reducible refine (spec_l19Plan.calls k g s0_0 t651 t652 t653 t656 t657 w0 _ ?side1 ?side2 A3.out).mono ?_); (case side1 => exact oI105 HI0); (case side2 => exact oB105 HB); rintro e w8 ⟨v654, rfl, ho0, hi, hb, hk⟩; refine ⟨_, rfl, ?_⟩; have n0_ := A_ (KeepBut.blk hk (g' := gb649) (o := .cells #[.slice none 0 0, .int .i64 0, .slice none 0 0, .int .i64 0, .int .i64 0, .slice none 0 0] 44 (0, 0)) (oK BK649) NB649_0.out (by simp)); have n1_ := A_ (Kd.R_lower ho0 (keep_size (w := w) (g := g) (row := none) (by repeat (first | (with_reducible first | exact HK.out | apply KeepBut.set_ | apply keep_drewN | apply keep_drew | apply keep_alloc | refine keep_far ?_ GW649.out _) | exact HK.out)))); have n2_ := A_ (KeepBut.trans (oKe HK) hk (.inl rfl)); have n3_ := A_ (hb); have n4_ := A_ (hi); clear BK649; clear HK; clear HB; clear HI0; have BK649 := n0_; have HO655 := n1_; have HK := n2_; have HB := n3_; have HI0 := n4_; clear n0_ n1_ n2_ n3_ n4_; (try clear hb); (try clear hb2); (try clear hk); (try clear hi); (try clear ho0); obtain ⟨Ao9, co9, eo9⟩ := Kd.R_slice HO655.out; subst eo9) | ((with_reducible refine gate_callee (f := 89) rfl ?_); refine gL (some 15) Tryd.func89 #[.int .i64 (wrap64 (200000 + t650)), .slice Ao9 t653.length co9] ?_; (with_reducible refine (spec_NewShop.calls k (wrap64 (200000 + t650)) _ _ t653 t658 t661 t662 t665 t666 t667 t670 _ ?side1 ?side2 A4.out).mono ?_); (case side1 => repeat (first | exact (Kd.R_reads' HO655.out).2.2 | (with_reducible refine Kd.C_alloc ?_ _) | (with_reducible refine Kd.C_drewN ?_ _) | (with_reducible refine Kd.C_drew ?_))); (case side2 => exact (Kd.R_reads' HO655.out).2.1); rintro e w10 ⟨v659, v663, v668, rfl, ho0, ho1, ho2, hb⟩; refine ⟨_, rfl, ?_⟩; have n0_ := A_ (Kd.R_elder' (oR HO655) (Kd.R_base ho0) hb); have n1_ := A_ (Kd.R_lower (Kd.R_new' ho0 (Kd.R_lt (oR HO655))) (keep_size (w := w) (g := g) (row := none) (by repeat (first | (with_reducible first | exact HK.out | apply KeepBut.set_ | apply keep_drewN | apply keep_drew | apply keep_alloc | refine keep_far ?_ GW649.out _) | exact HK.out)))); have n2_ := A_ (Kd.R_lower ho1 (keep_size (w := w) (g := g) (row := none) (by repeat (first | (with_reducible first | exact HK.out | apply KeepBut.set_ | apply keep_drewN | apply keep_drew | apply keep_alloc | refine keep_far ?_ GW649.out _) | exact HK.out)))); have n3_ := A_ (Kd.R_lower ho2 (keep_size (w := w) (g := g) (row := none) (by repeat (first | (with_reducible first | exact HK.out | apply KeepBut.set_ | apply keep_drewN | apply keep_drew | apply keep_alloc | refine keep_far ?_ GW649.out _) | exact HK.out)))); have n4_ := A_ (IsS105.below (oI105 HI0) hb); have n5_ := A_ (bb BK649 hb); have n6_ := A_ (KeepBut.trans (oKe HK) (KeepBut.of_below hb g none) (.inl rfl)); have n7_ := A_ (below_step (oB105 HB) hb); clear HO655; clear HI0; clear BK649; clear HK; clear HB; have HO655 := n0_; have HO660 := n1_; have HO664 := n2_; have HO669 := n3_; have HI0 := n4_; have BK649 := n5_; have HK := n6_; have HB := n7_; clear n0_ n1_ n2_ n3_ n4_ n5_ n6_ n7_; (try clear hb); (try clear hb2); (try clear hk); (try clear hi); (try clear ho0); (try clear ho1); (try clear ho2)) | ((with_reducible refine gate_dst (N := 3) rfl ?_); refine bX (N := 3) (cs := #[.slice none 0 0, .int .i64 0, .slice none 0 0, .int .i64 0, .int .i64 0, .slice none 0 0]) (t := 44) ?_; intro gb671 hg w11 hbox hb; have n0_ := A_ (Kd.R_below (oR HO655) hb); have n1_ := A_ (Kd.R_below (oR HO660) hb); have n2_ := A_ (Kd.R_below (oR HO664) hb); have n3_ := A_ (Kd.R_below (oR HO669) hb); have n4_ := A_ (IsS105.below (oI105 HI0) hb); have n5_ := A_ (bb BK649 hb); have n6_ := A_ (KeepBut.trans (oKe HK) (KeepBut.of_below hb g none) (.inl rfl)); have n7_ := A_ (below_step (oB105 HB) hb); have n8_ := A_ (hbox); have n9_ := A_ ((by rw [hg]; exact (keep_size (w := w) (g := g) (row := none) (by repeat (first | (with_reducible first | exact HK.out | apply KeepBut.set_ | apply keep_drewN | apply keep_drew | apply keep_alloc | refine keep_far ?_ GW649.out _) | exact HK.out))) : w.heap.size ≤ gb671)); have n10_ := A_ ((Nat.le_trans HW0.out (by rw [hg]; exact (keep_size (w := w) (g := g) (row := none) (by repeat (first | (with_reducible first | exact HK.out | apply KeepBut.set_ | apply keep_drewN | apply keep_drew | apply keep_alloc | refine keep_far ?_ GW649.out _) | exact HK.out))) : w.heap.size ≤ gb671) : w0.heap.size ≤ gb671)); have n11_ := A_ (nL BK649 hg); have n12_ := A_ (nG BK649 hg); have n13_ := A_ ((by rw [hg]; exact Nat.ne_of_lt (IsS105.lt (show IsS105 w0 _ g s0_0 t656 t657 from oI105 HI0)) : g ≠ gb671)); have n14_ := A_ ((by rw [hg]; exact Nat.ne_of_gt (IsS105.lt (show IsS105 w0 _ g s0_0 t656 t657 from oI105 HI0)) : gb671 ≠ g)); clear HO655; clear HO660; clear HO664; clear HO669; clear HI0; clear BK649; clear HK; clear HB; have HO655 := n0_; have HO660 := n1_; have HO664 := n2_; have HO669 := n3_; have HI0 := n4_; have BK649 := n5_; have HK := n6_; have HB := n7_; have BK671 := n8_; have GW671 := n9_; have GE671 := n10_; have NB649_671 := n11_; have NB671_649 := n12_; have NB0_671 := n13_; have NB671_0 := n14_; clear n0_ n1_ n2_ n3_ n4_ n5_ n6_ n7_ n8_ n9_ n10_ n11_ n12_ n13_ n14_; clear hb hbox hg; obtain ⟨Ao12, co12, eo12⟩ := Kd.R_slice HO660.out; subst eo12; have hnb13 := NB671_649.out; have hnc13 := NB649_671.out; have hnb14 := NB671_0.out; have hnc14 := NB0_671.out; have hcz15_0 := cz BK671 0; have hcz15_1 := cz BK671 1; have hcz15_2 := cz BK671 2; have hcz15_3 := cz BK671 3; have hcz15_4 := cz BK671 4; have hcz15_5 := cz BK671 5; have hfz15_0 := blk_frozen BK671.out 0; have hfz15_1 := blk_frozen BK671.out 1; have hfz15_2 := blk_frozen BK671.out 2; have hfz15_3 := blk_frozen BK671.out 3; have hfz15_4 := blk_frozen BK671.out 4; have hfz15_5 := blk_frozen BK671.out 5; obtain ⟨Ao16, co16, eo16⟩ := Kd.R_slice HO664.out; subst eo16; obtain ⟨Ao17, co17, eo17⟩ := Kd.R_slice HO669.out; subst eo17) | ((with_reducible refine gate_callee (f := 66) rfl ?_); refine gL (some 19) Tryd.func66 #[.pointer (some ⟨g, 0, none⟩), .int .i64 20] ?_; (with_reducible refine (spec_l01Below.calls g s0_0 t656 t657 20 t672 t673 t674 w0 _ ?side1 ?side2 A5.out).mono ?_); (case side1 => exact oI105 HI0); (case side2 => exact oB105 HB); rintro e w18 ⟨rfl, hi, hb, hk⟩; refine ⟨_, rfl, ?_⟩; have n0_ := A_ (KeepBut.blk hk (g' := gb649) (o := .cells #[.slice none 0 0, .int .i64 0, .slice none 0 0, .int .i64 0, .int .i64 0, .slice none 0 0] 44 (0, 0)) (by (with_reducible repeat (first | refine blk_drewN ?_ _ | refine blk_drew ?_ | refine blk_alloc ?_ _)); refine blk_far ?_ NB649_671.out _; (with_reducible repeat (first | refine blk_drewN ?_ _ | refine blk_drew ?_ | refine blk_alloc ?_ _)); refine blk_far ?_ NB649_671.out _; (with_reducible repeat (first | refine blk_drewN ?_ _ | refine blk_drew ?_ | refine blk_alloc ?_ _)); refine blk_far ?_ NB649_671.out _; (with_reducible repeat (first | refine blk_drewN ?_ _ | refine blk_drew ?_ | refine blk_alloc ?_ _)); refine blk_far ?_ NB649_671.out _; (with_reducible repeat (first | refine blk_drewN ?_ _ | refine blk_drew ?_ | refine blk_alloc ?_ _)); refine blk_far ?_ NB649_671.out _; (with_reducible repeat (first | refine blk_drewN ?_ _ | refine blk_drew ?_ | refine blk_alloc ?_ _)); refine blk_far ?_ NB649_671.out _; (with_reducible repeat (first | refine blk_drewN ?_ _ | refine blk_drew ?_ | refine blk_alloc ?_ _)); exact BK649.out) NB649_0.out (by simp)); have n1_ := A_ (Kd.R_mono (Kd.R_keep (IsS105.apart (show IsS105 w0 _ g s0_0 t656 t657 from oI105 HI0) (by (with_reducible repeat (first | apply Kd.R_alloc | apply Kd.R_drewN | apply Kd.R_drew)); exact (Kd.R_mono (Kd.R_far (p := ⟨gb671, 5, none⟩) (Kd.R_far (p := ⟨gb671, 4, none⟩) (Kd.R_far (p := ⟨gb671, 3, none⟩) (Kd.R_far (p := ⟨gb671, 2, none⟩) (Kd.R_far (p := ⟨gb671, 1, none⟩) (Kd.R_far (p := ⟨gb671, 0, none⟩) (Kd.R_types HO655.out BK671.out (by decide)) (fun _ hk => hk.2) (.slice Ao12 t658.length co12)) (fun _ hk => hk.2) (.int .i64 t661)) (fun _ hk => hk.2) (.slice Ao16 t662.length co16)) (fun _ hk => hk.2) (.int .i64 t665)) (fun _ hk => hk.2) (.int .i64 t666)) (fun _ hk => hk.2) (.slice Ao17 t667.length co17)) (fun _ h_ => h_.1))) (by decide)) hk (fun _ h => h.2)) (fun _ h => h.1)); have n2_ := A_ (Kd.R_mono (Kd.R_keep (IsS105.apart (show IsS105 w0 _ g s0_0 t656 t657 from oI105 HI0) (by (with_reducible repeat (first | apply Kd.R_alloc | apply Kd.R_drewN | apply Kd.R_drew)); exact (Kd.R_mono (Kd.R_far (p := ⟨gb671, 5, none⟩) (Kd.R_far (p := ⟨gb671, 4, none⟩) (Kd.R_far (p := ⟨gb671, 3, none⟩) (Kd.R_far (p := ⟨gb671, 2, none⟩) (Kd.R_far (p := ⟨gb671, 1, none⟩) (Kd.R_far (p := ⟨gb671, 0, none⟩) (Kd.R_types HO660.out BK671.out (by decide)) (fun _ hk => hk.2) (.slice Ao12 t658.length co12)) (fun _ hk => hk.2) (.int .i64 t661)) (fun _ hk => hk.2) (.slice Ao16 t662.length co16)) (fun _ hk => hk.2) (.int .i64 t665)) (fun _ hk => hk.2) (.int .i64 t666)) (fun _ hk => hk.2) (.slice Ao17 t667.length co17)) (fun _ h_ => h_.1))) (by decide)) hk (fun _ h => h.2)) (fun _ h => h.1)); have n3_ := A_ (Kd.R_mono (Kd.R_keep (IsS105.apart (show IsS105 w0 _ g s0_0 t656 t657 from oI105 HI0) (by (with_reducible repeat (first | apply Kd.R_alloc | apply Kd.R_drewN | apply Kd.R_drew)); exact (Kd.R_mono (Kd.R_far (p := ⟨gb671, 5, none⟩) (Kd.R_far (p := ⟨gb671, 4, none⟩) (Kd.R_far (p := ⟨gb671, 3, none⟩) (Kd.R_far (p := ⟨gb671, 2, none⟩) (Kd.R_far (p := ⟨gb671, 1, none⟩) (Kd.R_far (p := ⟨gb671, 0, none⟩) (Kd.R_types HO664.out BK671.out (by decide)) (fun _ hk => hk.2) (.slice Ao12 t658.length co12)) (fun _ hk => hk.2) (.int .i64 t661)) (fun _ hk => hk.2) (.slice Ao16 t662.length co16)) (fun _ hk => hk.2) (.int .i64 t665)) (fun _ hk => hk.2) (.int .i64 t666)) (fun _ hk => hk.2) (.slice Ao17 t667.length co17)) (fun _ h_ => h_.1))) (by decide)) hk (fun _ h => h.2)) (fun _ h => h.1)); have n4_ := A_ (Kd.R_mono (Kd.R_keep (IsS105.apart (show IsS105 w0 _ g s0_0 t656 t657 from oI105 HI0) (by (with_reducible repeat (first | apply Kd.R_alloc | apply Kd.R_drewN | apply Kd.R_drew)); exact (Kd.R_mono (Kd.R_far (p := ⟨gb671, 5, none⟩) (Kd.R_far (p := ⟨gb671, 4, none⟩) (Kd.R_far (p := ⟨gb671, 3, none⟩) (Kd.R_far (p := ⟨gb671, 2, none⟩) (Kd.R_far (p := ⟨gb671, 1, none⟩) (Kd.R_far (p := ⟨gb671, 0, none⟩) (Kd.R_types HO669.out BK671.out (by decide)) (fun _ hk => hk.2) (.slice Ao12 t658.length co12)) (fun _ hk => hk.2) (.int .i64 t661)) (fun _ hk => hk.2) (.slice Ao16 t662.length co16)) (fun _ hk => hk.2) (.int .i64 t665)) (fun _ hk => hk.2) (.int .i64 t666)) (fun _ hk => hk.2) (.slice Ao17 t667.length co17)) (fun _ h_ => h_.1))) (by decide)) hk (fun _ h => h.2)) (fun _ h => h.1)); have n5_ := A_ (KeepBut.blk hk (g' := gb671) (o := .cells #[.slice Ao12 t658.length co12, .int .i64 t661, .slice Ao16 t662.length co16, .int .i64 t665, .int .i64 t666, .slice Ao17 t667.length co17] 44 (0, 0)) (by (with_reducible repeat (first | refine blk_drewN ?_ _ | refine blk_drew ?_ | refine blk_alloc ?_ _)); refine blk_put (cs := #[.slice Ao12 t658.length co12, .int .i64 t661, .slice Ao16 t662.length co16, .int .i64 t665, .int .i64 t666, .slice none 0 0]) ?_ 5 _ rfl; (with_reducible repeat (first | refine blk_drewN ?_ _ | refine blk_drew ?_ | refine blk_alloc ?_ _)); refine blk_put (cs := #[.slice Ao12 t658.length co12, .int .i64 t661, .slice Ao16 t662.length co16, .int .i64 t665, .int .i64 0, .slice none 0 0]) ?_ 4 _ rfl; (with_reducible repeat (first | refine blk_drewN ?_ _ | refine blk_drew ?_ | refine blk_alloc ?_ _)); refine blk_put (cs := #[.slice Ao12 t658.length co12, .int .i64 t661, .slice Ao16 t662.length co16, .int .i64 0, .int .i64 0, .slice none 0 0]) ?_ 3 _ rfl; (with_reducible repeat (first | refine blk_drewN ?_ _ | refine blk_drew ?_ | refine blk_alloc ?_ _)); refine blk_put (cs := #[.slice Ao12 t658.length co12, .int .i64 t661, .slice none 0 0, .int .i64 0, .int .i64 0, .slice none 0 0]) ?_ 2 _ rfl; (with_reducible repeat (first | refine blk_drewN ?_ _ | refine blk_drew ?_ | refine blk_alloc ?_ _)); refine blk_put (cs := #[.slice Ao12 t658.length co12, .int .i64 0, .slice none 0 0, .int .i64 0, .int .i64 0, .slice none 0 0]) ?_ 1 _ rfl; (with_reducible repeat (first | refine blk_drewN ?_ _ | refine blk_drew ?_ | refine blk_alloc ?_ _)); refine blk_put (cs := #[.slice none 0 0, .int .i64 0, .slice none 0 0, .int .i64 0, .int .i64 0, .slice none 0 0]) ?_ 0 _ rfl; (with_reducible repeat (first | refine blk_drewN ?_ _ | refine blk_drew ?_ | refine blk_alloc ?_ _)); exact BK671.out) NB671_0.out (by simp)); have n6_ := A_ (KeepBut.trans (oKe HK) hk (.inl rfl)); have n7_ := A_ (hb); have n8_ := A_ (hi); clear BK649; clear HO655; clear HO660; clear HO664; clear HO669; clear BK671; clear HK; clear HB; clear HI0; have BK649 := n0_; have HO655 := n1_; have HO660 := n2_; have HO664 := n3_; have HO669 := n4_; have BK671 := n5_; have HK := n6_; have HB := n7_; have HI0 := n8_; clear n0_ n1_ n2_ n3_ n4_ n5_ n6_ n7_ n8_; (try clear hb); (try clear hb2); (try clear hk); (try clear hi)))
 go_loopg [6] k (fun kq v6 w' => ∃ (x6_1 : Int) (x1001_1 : Int) (x1002_1 : Int) (x672000_1 : List (S145)) (x672001_1 : Int) (x672002_1 : List Int) (x672003_1 : Int) (x672004_1 : Int) (x672005_1 : List (S85)) (u672000 : Value) (u672002 : Value) (u672005 : Value), v6 = .int .i64 x6_1 ∧ Aside0 (spec_l38Shop.l0 kq t672 x6_1 s0_0 x1001_1 x1002_1 x672000_1 x672001_1 x672002_1 x672003_1 x672004_1 x672005_1 = some (r1, r2, r3, r4, r5, r6, r7, r8)) ∧ Aside0 (kq ≤ k) ∧ Aside0 (Kd.R k145 145 w' w.heap.size (fun _ => True) u672000 x672000_1) ∧ Aside0 (Kd.R (Kd.int .i64) 3 w' w.heap.size (fun _ => True) u672002 x672002_1) ∧ Aside0 (Kd.R k85 85 w' w.heap.size (fun _ => True) u672005 x672005_1) ∧ Aside0 (w'.heap[gb649]? = some (.cells #[(.slice none 0 0), .int .i64 0, (.slice none 0 0), .int .i64 0, .int .i64 0, (.slice none 0 0)] 44 (0, 0))) ∧ Aside0 (w'.heap[gb671]? = some (.cells #[u672000, .int .i64 x672001_1, u672002, .int .i64 x672003_1, .int .i64 x672004_1, u672005] 44 (0, 0))) ∧ Aside0 (IsS105 w0 w' g s0_0 x1001_1 x1002_1) ∧ Aside0 (KeepBut w w' g none) ∧ Aside0 (Below w0.heap.size w0 w'))
 case atStart => exact ⟨(0), (t673), (t674), (t658), (t661), (t662), (t665), (t666), (t667), (.slice Ao12 t658.length co12), (.slice Ao16 t662.length co16), (.slice Ao17 t667.length co17), (by first | rfl | (simp; done) | (simp [*]; done)), H', ⟨Nat.le_refl _⟩, ⟨by (with_reducible repeat (first | apply Kd.R_alloc | apply Kd.R_drewN | apply Kd.R_drew)); exact Kd.R_mono HO660.out (fun _ hk => trivial)⟩, ⟨oR HO664⟩, ⟨oR HO669⟩, ⟨oK BK649⟩, ⟨oK BK671⟩, ⟨oI105 HI0⟩, ⟨oKe HK⟩, ⟨oB105 HB⟩⟩
 case round =>
  clear H'
  try clear c1
  try clear p2
  try clear c6
  try clear p6
  try clear c8
  try clear c9
  try clear c13
  try clear c14
  try clear hcz15_0
  try clear hcz15_1
  try clear hcz15_2
  try clear hcz15_3
  try clear hcz15_4
  try clear hcz15_5
  try clear hfz15_0
  try clear hfz15_1
  try clear hfz15_2
  try clear hfz15_3
  try clear hfz15_4
  try clear hfz15_5
  obtain ⟨x6_1, x1001_1, x1002_1, x672000_1, x672001_1, x672002_1, x672003_1, x672004_1, x672005_1, u672000, u672002, u672005, rfl, HA, HK1, HO_672000, HO_672002, HO_672005, BK649, BK671, HI0, HK, HB⟩ := hrel
  cases gk with
  | zero => exact absurd HA.out (by simp [spec_l38Shop.l0])
  | succ k1 =>
   have H := HA.out
   clear HA
   simp only [spec_l38Shop.l0] at H
   by_cases c19 : x6_1 < t672
   ·rw [if_pos c19] at H
    have c19b0 : decide (x6_1 < t672) = true := decide_eq_true c19
    clear c19
    replace H := Option.bind_eq_some_iff.mp H
    obtain ⟨⟨t675, t676, t677⟩, A200, H⟩ := H
    (try dsimp only at H)
    have A20 := A_ A200
    clear A200
    by_cases c21 : t675 = 0
    ·rw [if_pos c21] at H
     have c21b0 : (t675 == 0) = true := beq_iff_eq.mpr c21
     have c21b1 : (t675 != 0) = false := bne_eq_false_iff_eq.mpr c21
     clear c21
     replace H := Option.bind_eq_some_iff.mp H
     obtain ⟨⟨t678, t679, t680⟩, A220, H⟩ := H
     (try dsimp only at H)
     have A22 := A_ A220
     clear A220
     replace H := Option.bind_eq_some_iff.mp H
     obtain ⟨⟨t681, t684, t685, t688, t689, t690, t693⟩, A230, H⟩ := H
     (try dsimp only at H)
     have A23 := A_ A230
     clear A230
     have H' := A_ H
     clear H
     try go_wp2_with (first | ((with_reducible refine gate_callee (f := 66) rfl ?_); refine gL (some 26) Tryd.func66 #[.pointer (some ⟨g, 0, none⟩), .int .i64 8] ?_; (with_reducible refine (spec_l01Below.calls g s0_0 x1001_1 x1002_1 8 t675 t676 t677 w0 _ ?side1 ?side2 A20.out).mono ?_); (case side1 => exact oI105 HI0); (case side2 => exact oB105 HB); rintro e w24 ⟨rfl, hi, hb, hk⟩; refine ⟨_, rfl, ?_⟩; have n0_ := A_ (Kd.R_mono (Kd.R_keep (IsS105.apart (show IsS105 w0 _ g s0_0 x1001_1 x1002_1 from oI105 HI0) (oR HO_672000) (by decide)) hk (fun _ h => h.2)) (fun _ h => h.1)); have n1_ := A_ (Kd.R_mono (Kd.R_keep (IsS105.apart (show IsS105 w0 _ g s0_0 x1001_1 x1002_1 from oI105 HI0) (oR HO_672002) (by decide)) hk (fun _ h => h.2)) (fun _ h => h.1)); have n2_ := A_ (Kd.R_mono (Kd.R_keep (IsS105.apart (show IsS105 w0 _ g s0_0 x1001_1 x1002_1 from oI105 HI0) (oR HO_672005) (by decide)) hk (fun _ h => h.2)) (fun _ h => h.1)); have n3_ := A_ (KeepBut.blk hk (g' := gb649) (o := .cells #[.slice none 0 0, .int .i64 0, .slice none 0 0, .int .i64 0, .int .i64 0, .slice none 0 0] 44 (0, 0)) (oK BK649) NB649_0.out (by simp)); have n4_ := A_ (KeepBut.blk hk (g' := gb671) (o := .cells #[u672000, .int .i64 x672001_1, u672002, .int .i64 x672003_1, .int .i64 x672004_1, u672005] 44 (0, 0)) (oK BK671) NB671_0.out (by simp)); have n5_ := A_ (KeepBut.trans (oKe HK) hk (.inl rfl)); have n6_ := A_ (hb); have n7_ := A_ (hi); clear HO_672000; clear HO_672002; clear HO_672005; clear BK649; clear BK671; clear HK; clear HB; clear HI0; have HO_672000 := n0_; have HO_672002 := n1_; have HO_672005 := n2_; have BK649 := n3_; have BK671 := n4_; have HK := n5_; have HB := n6_; have HI0 := n7_; clear n0_ n1_ n2_ n3_ n4_ n5_ n6_ n7_; (try clear hb); (try clear hb2); (try clear hk); (try clear hi)))
     have n0_ := A_ (Kd.R_drew HO_672000.out)
     have n1_ := A_ (Kd.R_drew HO_672002.out)
     have n2_ := A_ (Kd.R_drew HO_672005.out)
     have n3_ := A_ (blk_drew BK649.out)
     have n4_ := A_ (blk_drew BK671.out)
     have n5_ := A_ (IsS105.drew HI0.out)
     have n6_ := A_ (keep_drew HK.out)
     have n7_ := A_ (below_drew1 HB.out)
     clear HO_672000
     clear HO_672002
     clear HO_672005
     clear BK649
     clear BK671
     clear HI0
     clear HK
     clear HB
     have HO_672000 := n0_
     have HO_672002 := n1_
     have HO_672005 := n2_
     have BK649 := n3_
     have BK671 := n4_
     have HI0 := n5_
     have HK := n6_
     have HB := n7_
     clear n0_ n1_ n2_ n3_ n4_ n5_ n6_ n7_
     refine start_ (n := 8) (S := fun w' => w'.cell? ⟨gb671, 0, none⟩ = some (u672000) ∧ w'.cell? ⟨gb671, 1, none⟩ = some (.int .i64 x672001_1) ∧ w'.cell? ⟨gb671, 2, none⟩ = some (u672002) ∧ w'.cell? ⟨gb671, 3, none⟩ = some (.int .i64 x672003_1) ∧ w'.cell? ⟨gb671, 4, none⟩ = some (.int .i64 x672004_1) ∧ w'.cell? ⟨gb671, 5, none⟩ = some (u672005)) (ds := [7]) #[false, false, false, false, false, false, false, false] (by kernel_rfl) rfl rfl ⟨cz BK671 0, cz BK671 1, cz BK671 2, cz BK671 3, cz BK671 4, cz BK671 5⟩ (fun hHeld => ?_); refine with_tabW spec_l38Shop.tab9 spec_l38Shop.bits9 (fun HT_ HW_ => ?_)
     generalize w24.drew = w25 at HO_672000 HO_672002 HO_672005 BK649 BK671 HI0 HK HB hHeld ⊢
     refine pA 1 (some 36) HT_.out ?_
     refine pT 0 (some 35) HT_.out HW_.out hHeld ?_
     refine one_ (i := 2) (N := some 37) #[true, true, true, false, false, false, false, false] rfl rfl (one_of HT_.out (by kernel_rfl)) (by decide) (fun K hK => ?_)
     refine goes_ Tryd.func66 (by kernel_rfl) rfl #[.pointer (some ⟨g, 0, none⟩), .int .i64 30] (by rfl) rfl rfl (by (try simp only [List.map_toArray, List.map_cons, List.map_nil]); first | done | rfl | (simp only [List.length_drop, List.length_take]; rfl)) ?_
     with_reducible refine (spec_l01Below.calls g s0_0 t676 t677 30 t678 t679 t680 w0 _ ?side1 ?side2 A22.out).mono ?_
     (case side1 => exact oI105 HI0)
     (case side2 => exact oB105 HB)
     rintro e w26 ⟨rfl, hi, hb, hk⟩
     refine ⟨_, rfl, ?_⟩
     have n0_ := A_ (Kd.R_mono (Kd.R_keep (IsS105.apart (show IsS105 w0 _ g s0_0 t676 t677 from oI105 HI0) (oR HO_672000) (by decide)) hk (fun _ h => h.2)) (fun _ h => h.1))
     have n1_ := A_ (Kd.R_mono (Kd.R_keep (IsS105.apart (show IsS105 w0 _ g s0_0 t676 t677 from oI105 HI0) (oR HO_672002) (by decide)) hk (fun _ h => h.2)) (fun _ h => h.1))
     have n2_ := A_ (Kd.R_mono (Kd.R_keep (IsS105.apart (show IsS105 w0 _ g s0_0 t676 t677 from oI105 HI0) (oR HO_672005) (by decide)) hk (fun _ h => h.2)) (fun _ h => h.1))
     have n3_ := A_ (KeepBut.blk hk (g' := gb649) (o := .cells #[.slice none 0 0, .int .i64 0, .slice none 0 0, .int .i64 0, .int .i64 0, .slice none 0 0] 44 (0, 0)) (oK BK649) NB649_0.out (by simp))
     have n4_ := A_ (KeepBut.blk hk (g' := gb671) (o := .cells #[u672000, .int .i64 x672001_1, u672002, .int .i64 x672003_1, .int .i64 x672004_1, u672005] 44 (0, 0)) (oK BK671) NB671_0.out (by simp))
     have n5_ := A_ (KeepBut.trans (oKe HK) hk (.inl rfl))
     have n6_ := A_ (hb)
     have n7_ := A_ (hi)
     clear HO_672000
     clear HO_672002
     clear HO_672005
     clear BK649
     clear BK671
     clear HK
     clear HB
     clear HI0
     have HO_672000 := n0_
     have HO_672002 := n1_
     have HO_672005 := n2_
     have BK649 := n3_
     have BK671 := n4_
     have HK := n5_
     have HB := n6_
     have HI0 := n7_
     clear n0_ n1_ n2_ n3_ n4_ n5_ n6_ n7_
     (try clear hb)
     (try clear hb2)
     (try clear hk)
     (try clear hi)
     obtain ⟨Ao27, co27, eo27⟩ := Kd.R_slice HO_672000.out
     (first | subst eo27 | (injection eo27 with f1_ f2_ f3_; have f4_ := f1_.symm; have f5_ := f3_.symm; clear f1_ f2_ f3_; subst f4_; subst f5_))
     obtain ⟨Ao28, co28, eo28⟩ := Kd.R_slice HO_672002.out
     (first | subst eo28 | (injection eo28 with f1_ f2_ f3_; have f4_ := f1_.symm; have f5_ := f3_.symm; clear f1_ f2_ f3_; subst f4_; subst f5_))
     obtain ⟨Ao29, co29, eo29⟩ := Kd.R_slice HO_672005.out
     (first | subst eo29 | (injection eo29 with f1_ f2_ f3_; have f4_ := f1_.symm; have f5_ := f3_.symm; clear f1_ f2_ f3_; subst f4_; subst f5_))
     refine hK.out _ _ ⟨cz BK671 0, cz BK671 1, cz BK671 2, cz BK671 3, cz BK671 4, cz BK671 5⟩ (fun hHeld => ?_)
     clear hK K
     refine norm_ (a' := ?_) ?_ ?_
     rotate_left
     ·show Act.put _ (some 37) _ = _
      simp only [Act.put, List.setIfInBounds_toArray, List.set_cons_zero, List.set_cons_succ, i64_w, i32_w]
      rfl
     refine one_ (i := 3) (N := some 38) #[true, true, true, true, false, false, false, false] rfl rfl (one_of HT_.out (by kernel_rfl)) (by decide) (fun K hK => ?_)
     refine goes_ Tryd.func92 (by kernel_rfl) rfl #[.agg #[.slice Ao27 x672000_1.length co27, .int .i64 x672001_1, .slice Ao28 x672002_1.length co28, .int .i64 x672003_1, .int .i64 x672004_1, .slice Ao29 x672005_1.length co29], .int .i64 t678] (by rfl) rfl rfl (by (try simp only [List.map_toArray, List.map_cons, List.map_nil]); first | done | rfl | (simp only [List.length_drop, List.length_take]; rfl)) ?_
     with_reducible refine (spec_ShopWarm.calls k1 _ _ x672000_1 x672001_1 _ _ x672002_1 x672003_1 x672004_1 _ _ x672005_1 t678 t681 t684 t685 t688 t689 t690 t693 _ ?side1 ?side2 ?side3 ?side4 ?side5 ?side6 A23.out).mono ?_
     (case side1 => repeat (first | exact (Kd.R_reads' HO_672000.out).2.2 | (with_reducible refine Kd.C_alloc ?_ _) | (with_reducible refine Kd.C_drewN ?_ _) | (with_reducible refine Kd.C_drew ?_)))
     (case side2 => exact (Kd.R_reads' HO_672000.out).2.1)
     (case side3 => repeat (first | exact (Kd.R_reads' HO_672002.out).2.2 | (with_reducible refine Kd.C_alloc ?_ _) | (with_reducible refine Kd.C_drewN ?_ _) | (with_reducible refine Kd.C_drew ?_)))
     (case side4 => exact (Kd.R_reads' HO_672002.out).2.1)
     (case side5 => repeat (first | exact (Kd.R_reads' HO_672005.out).2.2 | (with_reducible refine Kd.C_alloc ?_ _) | (with_reducible refine Kd.C_drewN ?_ _) | (with_reducible refine Kd.C_drew ?_)))
     (case side6 => exact (Kd.R_reads' HO_672005.out).2.1)
     rintro e w30 ⟨v682, v686, v691, rfl, ho0, ho1, ho2, hb⟩
     refine ⟨_, rfl, ?_⟩
     have n0_ := A_ (Kd.R_elder' (oR HO_672000) (Kd.R_base ho0) hb)
     have n1_ := A_ (Kd.R_elder' (oR HO_672002) (Kd.R_base ho1) hb)
     have n2_ := A_ (Kd.R_elder' (oR HO_672005) (Kd.R_base ho2) hb)
     have n3_ := A_ (Kd.R_lower (Kd.R_new' ho0 (Kd.R_lt (oR HO_672000))) (keep_size (w := w) (g := g) (row := none) (by repeat (first | (with_reducible first | exact HK.out | apply KeepBut.set_ | apply keep_drewN | apply keep_drew | apply keep_alloc | refine keep_far ?_ GW649.out _ | refine keep_far ?_ GW671.out _) | exact HK.out))))
     have n4_ := A_ (Kd.R_lower (Kd.R_new' ho1 (Kd.R_lt (oR HO_672002))) (keep_size (w := w) (g := g) (row := none) (by repeat (first | (with_reducible first | exact HK.out | apply KeepBut.set_ | apply keep_drewN | apply keep_drew | apply keep_alloc | refine keep_far ?_ GW649.out _ | refine keep_far ?_ GW671.out _) | exact HK.out))))
     have n5_ := A_ (Kd.R_lower (Kd.R_new' ho2 (Kd.R_lt (oR HO_672005))) (keep_size (w := w) (g := g) (row := none) (by repeat (first | (with_reducible first | exact HK.out | apply KeepBut.set_ | apply keep_drewN | apply keep_drew | apply keep_alloc | refine keep_far ?_ GW649.out _ | refine keep_far ?_ GW671.out _) | exact HK.out))))
     have n6_ := A_ (bb BK649 hb)
     have n7_ := A_ (bb BK671 hb)
     have n8_ := A_ (IsS105.below (oI105 HI0) hb)
     have n9_ := A_ (KeepBut.trans (oKe HK) (KeepBut.of_below hb g none) (.inl rfl))
     have n10_ := A_ (below_step (oB105 HB) hb)
     clear HO_672000
     clear HO_672002
     clear HO_672005
     clear BK649
     clear BK671
     clear HI0
     clear HK
     clear HB
     have HO_672000 := n0_
     have HO_672002 := n1_
     have HO_672005 := n2_
     have HO683 := n3_
     have HO687 := n4_
     have HO692 := n5_
     have BK649 := n6_
     have BK671 := n7_
     have HI0 := n8_
     have HK := n9_
     have HB := n10_
     clear n0_ n1_ n2_ n3_ n4_ n5_ n6_ n7_ n8_ n9_ n10_
     (try clear hb)
     (try clear hb2)
     (try clear hk)
     (try clear hi)
     (try clear ho0)
     (try clear ho1)
     (try clear ho2)
     obtain ⟨Ao31, co31, eo31⟩ := Kd.R_slice HO683.out
     (first | subst eo31 | (injection eo31 with f1_ f2_ f3_; have f4_ := f1_.symm; have f5_ := f3_.symm; clear f1_ f2_ f3_; subst f4_; subst f5_))
     obtain ⟨Ao34, co34, eo34⟩ := Kd.R_slice HO687.out
     (first | subst eo34 | (injection eo34 with f1_ f2_ f3_; have f4_ := f1_.symm; have f5_ := f3_.symm; clear f1_ f2_ f3_; subst f4_; subst f5_))
     obtain ⟨Ao38, co38, eo38⟩ := Kd.R_slice HO692.out
     (first | subst eo38 | (injection eo38 with f1_ f2_ f3_; have f4_ := f1_.symm; have f5_ := f3_.symm; clear f1_ f2_ f3_; subst f4_; subst f5_))
     refine hK.out _ _ ⟨cz BK671 0, cz BK671 1, cz BK671 2, cz BK671 3, cz BK671 4, cz BK671 5⟩ (fun hHeld => ?_)
     clear hK K
     refine norm_ (a' := ?_) ?_ ?_
     rotate_left
     ·show Act.put _ (some 38) _ = _
      simp only [Act.put, List.setIfInBounds_toArray, List.set_cons_zero, List.set_cons_succ, i64_w, i32_w]
      rfl
     refine pA 4 (some 34) HT_.out ?_
     refine pA 5 (some 39) HT_.out ?_
     refine pA 6 (some 40) HT_.out ?_
     refine last_ (i := 7) (N := none) #[true, true, true, true, true, true, true, true] rfl rfl (one_of HT_.out (by kernel_rfl)) (by decide) (fun K hK => ?_)
     have hs32 := cz BK671 0
     have hfs32 := blk_frozen BK671.out 0
     have hns32_0 := NB649_671.out
     have hms32_0 := NB671_649.out
     have hs33 := cz BK671 1
     have hfs33 := blk_frozen BK671.out 1
     have hns33_0 := NB649_671.out
     have hms33_0 := NB671_649.out
     have hs35 := cz BK671 2
     have hfs35 := blk_frozen BK671.out 2
     have hns35_0 := NB649_671.out
     have hms35_0 := NB671_649.out
     have hs36 := cz BK671 3
     have hfs36 := blk_frozen BK671.out 3
     have hns36_0 := NB649_671.out
     have hms36_0 := NB671_649.out
     have hs37 := cz BK671 4
     have hfs37 := blk_frozen BK671.out 4
     have hns37_0 := NB649_671.out
     have hms37_0 := NB671_649.out
     have hs39 := cz BK671 5
     have hfs39 := blk_frozen BK671.out 5
     have hns39_0 := NB649_671.out
     have hms39_0 := NB671_649.out
     refine skip_ (w1 := ?_) (by rfl) rfl ?_ ?_
     rotate_left
     ·go_simp
      rfl
     refine hK.out _ _ ?_
     clear hK K
     refine done_ (done_of HT_.out (by kernel_rfl)) ?_
     try go_wp2
     go_roundg k1
     case measure => have := HK1.out; omega
     case rel => exact ⟨(wrap64 (x6_1 + 1)), (t679), (t680), (t681), (t684), (t685), (t688), (t689), (t690), (.slice Ao31 t681.length co31), (.slice Ao34 t685.length co34), (.slice Ao38 t690.length co38), (by first | rfl | (simp; done) | (simp [*]; done)), H', ⟨by have := HK1.out; omega⟩, ⟨by (with_reducible repeat (first | apply Kd.R_alloc | apply Kd.R_drewN | apply Kd.R_drew)); exact Kd.R_mono (Kd.R_far (p := ⟨gb671, 5, none⟩) (Kd.R_far (p := ⟨gb671, 4, none⟩) (Kd.R_far (p := ⟨gb671, 3, none⟩) (Kd.R_far (p := ⟨gb671, 2, none⟩) (Kd.R_far (p := ⟨gb671, 1, none⟩) (Kd.R_far (p := ⟨gb671, 0, none⟩) (Kd.R_types HO683.out BK671.out (by decide)) (fun _ hk => hk.2) (.slice Ao31 t681.length co31)) (fun _ hk => hk.2) (.int .i64 t684)) (fun _ hk => hk.2) (.slice Ao34 t685.length co34)) (fun _ hk => hk.2) (.int .i64 t688)) (fun _ hk => hk.2) (.int .i64 t689)) (fun _ hk => hk.2) (.slice Ao38 t690.length co38)) (fun _ hk => trivial)⟩, ⟨by (with_reducible repeat (first | apply Kd.R_alloc | apply Kd.R_drewN | apply Kd.R_drew)); exact Kd.R_mono (Kd.R_far (p := ⟨gb671, 5, none⟩) (Kd.R_far (p := ⟨gb671, 4, none⟩) (Kd.R_far (p := ⟨gb671, 3, none⟩) (Kd.R_far (p := ⟨gb671, 2, none⟩) (Kd.R_far (p := ⟨gb671, 1, none⟩) (Kd.R_far (p := ⟨gb671, 0, none⟩) (Kd.R_types HO687.out BK671.out (by decide)) (fun _ hk => hk.2) (.slice Ao31 t681.length co31)) (fun _ hk => hk.2) (.int .i64 t684)) (fun _ hk => hk.2) (.slice Ao34 t685.length co34)) (fun _ hk => hk.2) (.int .i64 t688)) (fun _ hk => hk.2) (.int .i64 t689)) (fun _ hk => hk.2) (.slice Ao38 t690.length co38)) (fun _ hk => trivial)⟩, ⟨by (with_reducible repeat (first | apply Kd.R_alloc | apply Kd.R_drewN | apply Kd.R_drew)); exact Kd.R_mono (Kd.R_far (p := ⟨gb671, 5, none⟩) (Kd.R_far (p := ⟨gb671, 4, none⟩) (Kd.R_far (p := ⟨gb671, 3, none⟩) (Kd.R_far (p := ⟨gb671, 2, none⟩) (Kd.R_far (p := ⟨gb671, 1, none⟩) (Kd.R_far (p := ⟨gb671, 0, none⟩) (Kd.R_types HO692.out BK671.out (by decide)) (fun _ hk => hk.2) (.slice Ao31 t681.length co31)) (fun _ hk => hk.2) (.int .i64 t684)) (fun _ hk => hk.2) (.slice Ao34 t685.length co34)) (fun _ hk => hk.2) (.int .i64 t688)) (fun _ hk => hk.2) (.int .i64 t689)) (fun _ hk => hk.2) (.slice Ao38 t690.length co38)) (fun _ hk => trivial)⟩, ⟨by (with_reducible repeat (first | refine blk_drewN ?_ _ | refine blk_drew ?_ | refine blk_alloc ?_ _)); refine blk_far ?_ NB649_671.out _; (with_reducible repeat (first | refine blk_drewN ?_ _ | refine blk_drew ?_ | refine blk_alloc ?_ _)); refine blk_far ?_ NB649_671.out _; (with_reducible repeat (first | refine blk_drewN ?_ _ | refine blk_drew ?_ | refine blk_alloc ?_ _)); refine blk_far ?_ NB649_671.out _; (with_reducible repeat (first | refine blk_drewN ?_ _ | refine blk_drew ?_ | refine blk_alloc ?_ _)); refine blk_far ?_ NB649_671.out _; (with_reducible repeat (first | refine blk_drewN ?_ _ | refine blk_drew ?_ | refine blk_alloc ?_ _)); refine blk_far ?_ NB649_671.out _; (with_reducible repeat (first | refine blk_drewN ?_ _ | refine blk_drew ?_ | refine blk_alloc ?_ _)); refine blk_far ?_ NB649_671.out _; (with_reducible repeat (first | refine blk_drewN ?_ _ | refine blk_drew ?_ | refine blk_alloc ?_ _)); exact BK649.out⟩, ⟨by (with_reducible repeat (first | refine blk_drewN ?_ _ | refine blk_drew ?_ | refine blk_alloc ?_ _)); refine blk_put (cs := #[.slice Ao31 t681.length co31, .int .i64 t684, .slice Ao34 t685.length co34, .int .i64 t688, .int .i64 t689, .slice Ao29 x672005_1.length co29]) ?_ 5 _ rfl; (with_reducible repeat (first | refine blk_drewN ?_ _ | refine blk_drew ?_ | refine blk_alloc ?_ _)); refine blk_put (cs := #[.slice Ao31 t681.length co31, .int .i64 t684, .slice Ao34 t685.length co34, .int .i64 t688, .int .i64 x672004_1, .slice Ao29 x672005_1.length co29]) ?_ 4 _ rfl; (with_reducible repeat (first | refine blk_drewN ?_ _ | refine blk_drew ?_ | refine blk_alloc ?_ _)); refine blk_put (cs := #[.slice Ao31 t681.length co31, .int .i64 t684, .slice Ao34 t685.length co34, .int .i64 x672003_1, .int .i64 x672004_1, .slice Ao29 x672005_1.length co29]) ?_ 3 _ rfl; (with_reducible repeat (first | refine blk_drewN ?_ _ | refine blk_drew ?_ | refine blk_alloc ?_ _)); refine blk_put (cs := #[.slice Ao31 t681.length co31, .int .i64 t684, .slice Ao28 x672002_1.length co28, .int .i64 x672003_1, .int .i64 x672004_1, .slice Ao29 x672005_1.length co29]) ?_ 2 _ rfl; (with_reducible repeat (first | refine blk_drewN ?_ _ | refine blk_drew ?_ | refine blk_alloc ?_ _)); refine blk_put (cs := #[.slice Ao31 t681.length co31, .int .i64 x672001_1, .slice Ao28 x672002_1.length co28, .int .i64 x672003_1, .int .i64 x672004_1, .slice Ao29 x672005_1.length co29]) ?_ 1 _ rfl; (with_reducible repeat (first | refine blk_drewN ?_ _ | refine blk_drew ?_ | refine blk_alloc ?_ _)); refine blk_put (cs := #[.slice Ao27 x672000_1.length co27, .int .i64 x672001_1, .slice Ao28 x672002_1.length co28, .int .i64 x672003_1, .int .i64 x672004_1, .slice Ao29 x672005_1.length co29]) ?_ 0 _ rfl; (with_reducible repeat (first | refine blk_drewN ?_ _ | refine blk_drew ?_ | refine blk_alloc ?_ _)); exact BK671.out⟩, ⟨oI105 HI0⟩, ⟨oKe HK⟩, ⟨oB105 HB⟩⟩
    ·rw [if_neg c21] at H
     have c21b0 : (t675 == 0) = false := beq_eq_false_iff_ne.mpr c21
     have c21b1 : (t675 != 0) = true := bne_iff_ne.mpr c21
     by_cases c40 : t675 = 1
     ·rw [if_pos c40] at H
      have c40b0 : (t675 == 1) = true := beq_iff_eq.mpr c40
      have c40b1 : (t675 != 1) = false := bne_eq_false_iff_eq.mpr c40
      clear c40
      replace H := Option.bind_eq_some_iff.mp H
      obtain ⟨⟨t694, t695, t696, t697⟩, A410, H⟩ := H
      (try dsimp only at H)
      have A41 := A_ A410
      clear A410
      replace H := Option.bind_eq_some_iff.mp H
      obtain ⟨⟨t699, t700, t701⟩, A420, H⟩ := H
      (try dsimp only at H)
      have A42 := A_ A420
      clear A420
      replace H := Option.bind_eq_some_iff.mp H
      obtain ⟨⟨t702, t705, t706, t709, t710, t711, t714⟩, A430, H⟩ := H
      (try dsimp only at H)
      have A43 := A_ A430
      clear A430
      have H' := A_ H
      clear H
      try go_wp2_with (first | ((with_reducible refine gate_callee (f := 66) rfl ?_); refine gL (some 26) Tryd.func66 #[.pointer (some ⟨g, 0, none⟩), .int .i64 8] ?_; (with_reducible refine (spec_l01Below.calls g s0_0 x1001_1 x1002_1 8 t675 t676 t677 w0 _ ?side1 ?side2 A20.out).mono ?_); (case side1 => exact oI105 HI0); (case side2 => exact oB105 HB); rintro e w44 ⟨rfl, hi, hb, hk⟩; refine ⟨_, rfl, ?_⟩; have n0_ := A_ (Kd.R_mono (Kd.R_keep (IsS105.apart (show IsS105 w0 _ g s0_0 x1001_1 x1002_1 from oI105 HI0) (oR HO_672000) (by decide)) hk (fun _ h => h.2)) (fun _ h => h.1)); have n1_ := A_ (Kd.R_mono (Kd.R_keep (IsS105.apart (show IsS105 w0 _ g s0_0 x1001_1 x1002_1 from oI105 HI0) (oR HO_672002) (by decide)) hk (fun _ h => h.2)) (fun _ h => h.1)); have n2_ := A_ (Kd.R_mono (Kd.R_keep (IsS105.apart (show IsS105 w0 _ g s0_0 x1001_1 x1002_1 from oI105 HI0) (oR HO_672005) (by decide)) hk (fun _ h => h.2)) (fun _ h => h.1)); have n3_ := A_ (KeepBut.blk hk (g' := gb649) (o := .cells #[.slice none 0 0, .int .i64 0, .slice none 0 0, .int .i64 0, .int .i64 0, .slice none 0 0] 44 (0, 0)) (oK BK649) NB649_0.out (by simp)); have n4_ := A_ (KeepBut.blk hk (g' := gb671) (o := .cells #[u672000, .int .i64 x672001_1, u672002, .int .i64 x672003_1, .int .i64 x672004_1, u672005] 44 (0, 0)) (oK BK671) NB671_0.out (by simp)); have n5_ := A_ (KeepBut.trans (oKe HK) hk (.inl rfl)); have n6_ := A_ (hb); have n7_ := A_ (hi); clear HO_672000; clear HO_672002; clear HO_672005; clear BK649; clear BK671; clear HK; clear HB; clear HI0; have HO_672000 := n0_; have HO_672002 := n1_; have HO_672005 := n2_; have BK649 := n3_; have BK671 := n4_; have HK := n5_; have HB := n6_; have HI0 := n7_; clear n0_ n1_ n2_ n3_ n4_ n5_ n6_ n7_; (try clear hb); (try clear hb2); (try clear hk); (try clear hi)) | ((with_reducible refine gate_callee (f := 93) rfl ?_); refine gL (some 44) Tryd.func93 #[.pointer (some ⟨g, 0, none⟩)] ?_; (with_reducible refine (spec_l34Pipe.calls g s0_0 t676 t677 t694 t695 t696 t697 w0 _ ?side1 ?side2 A41.out).mono ?_); (case side1 => exact oI105 HI0); (case side2 => exact oB105 HB); rintro e w45 ⟨rfl, hi, hb, hk⟩; refine ⟨_, rfl, ?_⟩; have n0_ := A_ (Kd.R_mono (Kd.R_keep (IsS105.apart (show IsS105 w0 _ g s0_0 t676 t677 from oI105 HI0) (oR HO_672000) (by decide)) hk (fun _ h => h.2)) (fun _ h => h.1)); have n1_ := A_ (Kd.R_mono (Kd.R_keep (IsS105.apart (show IsS105 w0 _ g s0_0 t676 t677 from oI105 HI0) (oR HO_672002) (by decide)) hk (fun _ h => h.2)) (fun _ h => h.1)); have n2_ := A_ (Kd.R_mono (Kd.R_keep (IsS105.apart (show IsS105 w0 _ g s0_0 t676 t677 from oI105 HI0) (oR HO_672005) (by decide)) hk (fun _ h => h.2)) (fun _ h => h.1)); have n3_ := A_ (KeepBut.blk hk (g' := gb649) (o := .cells #[.slice none 0 0, .int .i64 0, .slice none 0 0, .int .i64 0, .int .i64 0, .slice none 0 0] 44 (0, 0)) (oK BK649) NB649_0.out (by simp)); have n4_ := A_ (KeepBut.blk hk (g' := gb671) (o := .cells #[u672000, .int .i64 x672001_1, u672002, .int .i64 x672003_1, .int .i64 x672004_1, u672005] 44 (0, 0)) (oK BK671) NB671_0.out (by simp)); have n5_ := A_ (KeepBut.trans (oKe HK) hk (.inl rfl)); have n6_ := A_ (hb); have n7_ := A_ (hi); clear HO_672000; clear HO_672002; clear HO_672005; clear BK649; clear BK671; clear HK; clear HB; clear HI0; have HO_672000 := n0_; have HO_672002 := n1_; have HO_672005 := n2_; have BK649 := n3_; have BK671 := n4_; have HK := n5_; have HB := n6_; have HI0 := n7_; clear n0_ n1_ n2_ n3_ n4_ n5_ n6_ n7_; (try clear hb); (try clear hb2); (try clear hk); (try clear hi)) | ((with_reducible refine gate_dst (N := 7) rfl ?_); refine bX (N := 7) (cs := #[.int .i64 0, .int .i64 0]) (t := 83) ?_; intro gb698 hg w46 hbox hb; have n0_ := A_ (Kd.R_below (oR HO_672000) hb); have n1_ := A_ (Kd.R_below (oR HO_672002) hb); have n2_ := A_ (Kd.R_below (oR HO_672005) hb); have n3_ := A_ (bb BK649 hb); have n4_ := A_ (bb BK671 hb); have n5_ := A_ (IsS105.below (oI105 HI0) hb); have n6_ := A_ (KeepBut.trans (oKe HK) (KeepBut.of_below hb g none) (.inl rfl)); have n7_ := A_ (below_step (oB105 HB) hb); have n8_ := A_ (hbox); have n9_ := A_ ((by rw [hg]; exact (keep_size (w := w) (g := g) (row := none) (by repeat (first | (with_reducible first | exact HK.out | apply KeepBut.set_ | apply keep_drewN | apply keep_drew | apply keep_alloc | refine keep_far ?_ GW649.out _ | refine keep_far ?_ GW671.out _) | exact HK.out))) : w.heap.size ≤ gb698)); have n10_ := A_ ((Nat.le_trans HW0.out (by rw [hg]; exact (keep_size (w := w) (g := g) (row := none) (by repeat (first | (with_reducible first | exact HK.out | apply KeepBut.set_ | apply keep_drewN | apply keep_drew | apply keep_alloc | refine keep_far ?_ GW649.out _ | refine keep_far ?_ GW671.out _) | exact HK.out))) : w.heap.size ≤ gb698) : w0.heap.size ≤ gb698)); have n11_ := A_ (nL BK649 hg); have n12_ := A_ (nG BK649 hg); have n13_ := A_ (nL BK671 hg); have n14_ := A_ (nG BK671 hg); have n15_ := A_ ((by rw [hg]; exact Nat.ne_of_lt (IsS105.lt (show IsS105 w0 _ g s0_0 t696 t697 from oI105 HI0)) : g ≠ gb698)); have n16_ := A_ ((by rw [hg]; exact Nat.ne_of_gt (IsS105.lt (show IsS105 w0 _ g s0_0 t696 t697 from oI105 HI0)) : gb698 ≠ g)); clear HO_672000; clear HO_672002; clear HO_672005; clear BK649; clear BK671; clear HI0; clear HK; clear HB; have HO_672000 := n0_; have HO_672002 := n1_; have HO_672005 := n2_; have BK649 := n3_; have BK671 := n4_; have HI0 := n5_; have HK := n6_; have HB := n7_; have BK698 := n8_; have GW698 := n9_; have GE698 := n10_; have NB649_698 := n11_; have NB698_649 := n12_; have NB671_698 := n13_; have NB698_671 := n14_; have NB0_698 := n15_; have NB698_0 := n16_; clear n0_ n1_ n2_ n3_ n4_ n5_ n6_ n7_ n8_ n9_ n10_ n11_ n12_ n13_ n14_ n15_ n16_; clear hb hbox hg; have hnb47 := NB698_649.out; have hnc47 := NB649_698.out; have hnb48 := NB698_671.out; have hnc48 := NB671_698.out; have hnb49 := NB698_0.out; have hnc49 := NB0_698.out; have hcz50_0 := cz BK698 0; have hcz50_1 := cz BK698 1; have hfz50_0 := blk_frozen BK698.out 0; have hfz50_1 := blk_frozen BK698.out 1))
      have n0_ : Aside0 (Kd.R k145 145 ((w46.setCell ⟨gb698, 0, none⟩ (.int .i64 t694)).setCell ⟨gb698, 1, none⟩ (.int .i64 t695)) w.heap.size (fun _ => True) u672000 x672000_1) := ⟨by (with_reducible repeat (first | apply Kd.R_alloc | apply Kd.R_drewN | apply Kd.R_drew)); exact Kd.R_mono (Kd.R_far (p := ⟨gb698, 1, none⟩) (Kd.R_far (p := ⟨gb698, 0, none⟩) (Kd.R_types HO_672000.out BK698.out (by decide)) (fun _ hk => hk.2) (.int .i64 t694)) (fun _ hk => hk.2) (.int .i64 t695)) (fun _ hk => trivial)⟩
      have n1_ : Aside0 (Kd.R (Kd.int .i64) 3 ((w46.setCell ⟨gb698, 0, none⟩ (.int .i64 t694)).setCell ⟨gb698, 1, none⟩ (.int .i64 t695)) w.heap.size (fun _ => True) u672002 x672002_1) := ⟨by (with_reducible repeat (first | apply Kd.R_alloc | apply Kd.R_drewN | apply Kd.R_drew)); exact Kd.R_mono (Kd.R_far (p := ⟨gb698, 1, none⟩) (Kd.R_far (p := ⟨gb698, 0, none⟩) (Kd.R_types HO_672002.out BK698.out (by decide)) (fun _ hk => hk.2) (.int .i64 t694)) (fun _ hk => hk.2) (.int .i64 t695)) (fun _ hk => trivial)⟩
      have n2_ : Aside0 (Kd.R k85 85 ((w46.setCell ⟨gb698, 0, none⟩ (.int .i64 t694)).setCell ⟨gb698, 1, none⟩ (.int .i64 t695)) w.heap.size (fun _ => True) u672005 x672005_1) := ⟨by (with_reducible repeat (first | apply Kd.R_alloc | apply Kd.R_drewN | apply Kd.R_drew)); exact Kd.R_mono (Kd.R_far (p := ⟨gb698, 1, none⟩) (Kd.R_far (p := ⟨gb698, 0, none⟩) (Kd.R_types HO_672005.out BK698.out (by decide)) (fun _ hk => hk.2) (.int .i64 t694)) (fun _ hk => hk.2) (.int .i64 t695)) (fun _ hk => trivial)⟩
      have n3_ : Aside0 (((w46.setCell ⟨gb698, 0, none⟩ (.int .i64 t694)).setCell ⟨gb698, 1, none⟩ (.int .i64 t695)).heap[gb649]? = some (.cells #[.slice none 0 0, .int .i64 0, .slice none 0 0, .int .i64 0, .int .i64 0, .slice none 0 0] 44 (0, 0))) := ⟨by (with_reducible repeat (first | refine blk_drewN ?_ _ | refine blk_drew ?_ | refine blk_alloc ?_ _)); refine blk_far ?_ NB649_698.out _; (with_reducible repeat (first | refine blk_drewN ?_ _ | refine blk_drew ?_ | refine blk_alloc ?_ _)); refine blk_far ?_ NB649_698.out _; (with_reducible repeat (first | refine blk_drewN ?_ _ | refine blk_drew ?_ | refine blk_alloc ?_ _)); exact BK649.out⟩
      have n4_ : Aside0 (((w46.setCell ⟨gb698, 0, none⟩ (.int .i64 t694)).setCell ⟨gb698, 1, none⟩ (.int .i64 t695)).heap[gb671]? = some (.cells #[u672000, .int .i64 x672001_1, u672002, .int .i64 x672003_1, .int .i64 x672004_1, u672005] 44 (0, 0))) := ⟨by (with_reducible repeat (first | refine blk_drewN ?_ _ | refine blk_drew ?_ | refine blk_alloc ?_ _)); refine blk_far ?_ NB671_698.out _; (with_reducible repeat (first | refine blk_drewN ?_ _ | refine blk_drew ?_ | refine blk_alloc ?_ _)); refine blk_far ?_ NB671_698.out _; (with_reducible repeat (first | refine blk_drewN ?_ _ | refine blk_drew ?_ | refine blk_alloc ?_ _)); exact BK671.out⟩
      have n5_ : Aside0 (((w46.setCell ⟨gb698, 0, none⟩ (.int .i64 t694)).setCell ⟨gb698, 1, none⟩ (.int .i64 t695)).heap[gb698]? = some (.cells #[.int .i64 t694, .int .i64 t695] 83 (0, 0))) := ⟨by (with_reducible repeat (first | refine blk_drewN ?_ _ | refine blk_drew ?_ | refine blk_alloc ?_ _)); refine blk_put (cs := #[.int .i64 t694, .int .i64 0]) ?_ 1 _ rfl; (with_reducible repeat (first | refine blk_drewN ?_ _ | refine blk_drew ?_ | refine blk_alloc ?_ _)); refine blk_put (cs := #[.int .i64 0, .int .i64 0]) ?_ 0 _ rfl; (with_reducible repeat (first | refine blk_drewN ?_ _ | refine blk_drew ?_ | refine blk_alloc ?_ _)); exact BK698.out⟩
      have n6_ : Aside0 (IsS105 w0 ((w46.setCell ⟨gb698, 0, none⟩ (.int .i64 t694)).setCell ⟨gb698, 1, none⟩ (.int .i64 t695)) g s0_0 t696 t697) := ⟨oI105 HI0⟩
      have n7_ : Aside0 (KeepBut w ((w46.setCell ⟨gb698, 0, none⟩ (.int .i64 t694)).setCell ⟨gb698, 1, none⟩ (.int .i64 t695)) g none) := ⟨oKe HK⟩
      have n8_ : Aside0 (Below w0.heap.size w0 ((w46.setCell ⟨gb698, 0, none⟩ (.int .i64 t694)).setCell ⟨gb698, 1, none⟩ (.int .i64 t695))) := ⟨oB105 HB⟩
      (try clear HO_672000)
      (try clear HO_672002)
      (try clear HO_672005)
      (try clear BK649)
      (try clear BK671)
      (try clear BK698)
      (try clear HI0)
      (try clear HK)
      (try clear HB)
      generalize ((w46.setCell ⟨gb698, 0, none⟩ (.int .i64 t694)).setCell ⟨gb698, 1, none⟩ (.int .i64 t695)) = w51 at n0_ n1_ n2_ n3_ n4_ n5_ n6_ n7_ n8_ ⊢
      have HO_672000 := n0_
      have HO_672002 := n1_
      have HO_672005 := n2_
      have BK649 := n3_
      have BK671 := n4_
      have BK698 := n5_
      have HI0 := n6_
      have HK := n7_
      have HB := n8_
      clear n0_ n1_ n2_ n3_ n4_ n5_ n6_ n7_ n8_
      have n0_ := A_ (Kd.R_drew HO_672000.out)
      have n1_ := A_ (Kd.R_drew HO_672002.out)
      have n2_ := A_ (Kd.R_drew HO_672005.out)
      have n3_ := A_ (blk_drew BK649.out)
      have n4_ := A_ (blk_drew BK671.out)
      have n5_ := A_ (blk_drew BK698.out)
      have n6_ := A_ (IsS105.drew HI0.out)
      have n7_ := A_ (keep_drew HK.out)
      have n8_ := A_ (below_drew1 HB.out)
      clear HO_672000
      clear HO_672002
      clear HO_672005
      clear BK649
      clear BK671
      clear BK698
      clear HI0
      clear HK
      clear HB
      have HO_672000 := n0_
      have HO_672002 := n1_
      have HO_672005 := n2_
      have BK649 := n3_
      have BK671 := n4_
      have BK698 := n5_
      have HI0 := n6_
      have HK := n7_
      have HB := n8_
      clear n0_ n1_ n2_ n3_ n4_ n5_ n6_ n7_ n8_
      refine start_ (n := 9) (S := fun w' => w'.cell? ⟨gb671, 0, none⟩ = some (u672000) ∧ w'.cell? ⟨gb671, 1, none⟩ = some (.int .i64 x672001_1) ∧ w'.cell? ⟨gb671, 2, none⟩ = some (u672002) ∧ w'.cell? ⟨gb671, 3, none⟩ = some (.int .i64 x672003_1) ∧ w'.cell? ⟨gb671, 4, none⟩ = some (.int .i64 x672004_1) ∧ w'.cell? ⟨gb671, 5, none⟩ = some (u672005) ∧ w'.cell? ⟨gb698, 0, none⟩ = some (.int .i64 t694) ∧ w'.cell? ⟨gb698, 1, none⟩ = some (.int .i64 t695)) (ds := [8]) #[false, false, false, false, false, false, false, false, false] (by kernel_rfl) rfl rfl ⟨cz BK671 0, cz BK671 1, cz BK671 2, cz BK671 3, cz BK671 4, cz BK671 5, cz BK698 0, cz BK698 1⟩ (fun hHeld => ?_); refine with_tabW spec_l38Shop.tab12 spec_l38Shop.bits12 (fun HT_ HW_ => ?_)
      generalize w51.drew = w52 at HO_672000 HO_672002 HO_672005 BK649 BK671 BK698 HI0 HK HB hHeld ⊢
      refine pA 2 (some 48) HT_.out ?_
      refine pT 0 (some 46) HT_.out HW_.out hHeld ?_
      refine pT 1 (some 47) HT_.out HW_.out hHeld ?_
      refine one_ (i := 3) (N := some 49) #[true, true, true, true, false, false, false, false, false] rfl rfl (one_of HT_.out (by kernel_rfl)) (by decide) (fun K hK => ?_)
      refine goes_ Tryd.func66 (by kernel_rfl) rfl #[.pointer (some ⟨g, 0, none⟩), .int .i64 3] (by rfl) rfl rfl (by (try simp only [List.map_toArray, List.map_cons, List.map_nil]); first | done | rfl | (simp only [List.length_drop, List.length_take]; rfl)) ?_
      with_reducible refine (spec_l01Below.calls g s0_0 t696 t697 3 t699 t700 t701 w0 _ ?side1 ?side2 A42.out).mono ?_
      (case side1 => exact oI105 HI0)
      (case side2 => exact oB105 HB)
      rintro e w53 ⟨rfl, hi, hb, hk⟩
      refine ⟨_, rfl, ?_⟩
      have n0_ := A_ (Kd.R_mono (Kd.R_keep (IsS105.apart (show IsS105 w0 _ g s0_0 t696 t697 from oI105 HI0) (oR HO_672000) (by decide)) hk (fun _ h => h.2)) (fun _ h => h.1))
      have n1_ := A_ (Kd.R_mono (Kd.R_keep (IsS105.apart (show IsS105 w0 _ g s0_0 t696 t697 from oI105 HI0) (oR HO_672002) (by decide)) hk (fun _ h => h.2)) (fun _ h => h.1))
      have n2_ := A_ (Kd.R_mono (Kd.R_keep (IsS105.apart (show IsS105 w0 _ g s0_0 t696 t697 from oI105 HI0) (oR HO_672005) (by decide)) hk (fun _ h => h.2)) (fun _ h => h.1))
      have n3_ := A_ (KeepBut.blk hk (g' := gb649) (o := .cells #[.slice none 0 0, .int .i64 0, .slice none 0 0, .int .i64 0, .int .i64 0, .slice none 0 0] 44 (0, 0)) (oK BK649) NB649_0.out (by simp))
      have n4_ := A_ (KeepBut.blk hk (g' := gb671) (o := .cells #[u672000, .int .i64 x672001_1, u672002, .int .i64 x672003_1, .int .i64 x672004_1, u672005] 44 (0, 0)) (oK BK671) NB671_0.out (by simp))
      have n5_ := A_ (KeepBut.blk hk (g' := gb698) (o := .cells #[.int .i64 t694, .int .i64 t695] 83 (0, 0)) (oK BK698) NB698_0.out (by simp))
      have n6_ := A_ (KeepBut.trans (oKe HK) hk (.inl rfl))
      have n7_ := A_ (hb)
      have n8_ := A_ (hi)
      clear HO_672000
      clear HO_672002
      clear HO_672005
      clear BK649
      clear BK671
      clear BK698
      clear HK
      clear HB
      clear HI0
      have HO_672000 := n0_
      have HO_672002 := n1_
      have HO_672005 := n2_
      have BK649 := n3_
      have BK671 := n4_
      have BK698 := n5_
      have HK := n6_
      have HB := n7_
      have HI0 := n8_
      clear n0_ n1_ n2_ n3_ n4_ n5_ n6_ n7_ n8_
      (try clear hb)
      (try clear hb2)
      (try clear hk)
      (try clear hi)
      obtain ⟨Ao54, co54, eo54⟩ := Kd.R_slice HO_672000.out
      (first | subst eo54 | (injection eo54 with f1_ f2_ f3_; have f4_ := f1_.symm; have f5_ := f3_.symm; clear f1_ f2_ f3_; subst f4_; subst f5_))
      obtain ⟨Ao55, co55, eo55⟩ := Kd.R_slice HO_672002.out
      (first | subst eo55 | (injection eo55 with f1_ f2_ f3_; have f4_ := f1_.symm; have f5_ := f3_.symm; clear f1_ f2_ f3_; subst f4_; subst f5_))
      obtain ⟨Ao56, co56, eo56⟩ := Kd.R_slice HO_672005.out
      (first | subst eo56 | (injection eo56 with f1_ f2_ f3_; have f4_ := f1_.symm; have f5_ := f3_.symm; clear f1_ f2_ f3_; subst f4_; subst f5_))
      refine hK.out _ _ ⟨cz BK671 0, cz BK671 1, cz BK671 2, cz BK671 3, cz BK671 4, cz BK671 5, cz BK698 0, cz BK698 1⟩ (fun hHeld => ?_)
      clear hK K
      refine norm_ (a' := ?_) ?_ ?_
      rotate_left
      ·show Act.put _ (some 49) _ = _
       simp only [Act.put, List.setIfInBounds_toArray, List.set_cons_zero, List.set_cons_succ, i64_w, i32_w]
       rfl
      refine one_ (i := 4) (N := some 50) #[true, true, true, true, true, false, false, false, false] rfl rfl (one_of HT_.out (by kernel_rfl)) (by decide) (fun K hK => ?_)
      refine goes_ Tryd.func94 (by kernel_rfl) rfl #[.agg #[.slice Ao54 x672000_1.length co54, .int .i64 x672001_1, .slice Ao55 x672002_1.length co55, .int .i64 x672003_1, .int .i64 x672004_1, .slice Ao56 x672005_1.length co56], .agg #[.int .i64 t694, .int .i64 t695], .int .i64 t699] (by rfl) rfl rfl (by (try simp only [List.map_toArray, List.map_cons, List.map_nil]); first | done | rfl | (simp only [List.length_drop, List.length_take]; rfl)) ?_
      with_reducible refine (spec_ShopFault.calls k1 _ _ x672000_1 x672001_1 _ _ x672002_1 x672003_1 x672004_1 _ _ x672005_1 t694 t695 t699 t702 t705 t706 t709 t710 t711 t714 _ ?side1 ?side2 ?side3 ?side4 ?side5 ?side6 A43.out).mono ?_
      (case side1 => repeat (first | exact (Kd.R_reads' HO_672000.out).2.2 | (with_reducible refine Kd.C_alloc ?_ _) | (with_reducible refine Kd.C_drewN ?_ _) | (with_reducible refine Kd.C_drew ?_)))
      (case side2 => exact (Kd.R_reads' HO_672000.out).2.1)
      (case side3 => repeat (first | exact (Kd.R_reads' HO_672002.out).2.2 | (with_reducible refine Kd.C_alloc ?_ _) | (with_reducible refine Kd.C_drewN ?_ _) | (with_reducible refine Kd.C_drew ?_)))
      (case side4 => exact (Kd.R_reads' HO_672002.out).2.1)
      (case side5 => repeat (first | exact (Kd.R_reads' HO_672005.out).2.2 | (with_reducible refine Kd.C_alloc ?_ _) | (with_reducible refine Kd.C_drewN ?_ _) | (with_reducible refine Kd.C_drew ?_)))
      (case side6 => exact (Kd.R_reads' HO_672005.out).2.1)
      rintro e w57 ⟨v703, v707, v712, rfl, ho0, ho1, ho2, hb⟩
      refine ⟨_, rfl, ?_⟩
      have n0_ := A_ (Kd.R_elder' (oR HO_672000) (Kd.R_base ho0) hb)
      have n1_ := A_ (Kd.R_elder' (oR HO_672002) (Kd.R_base ho1) hb)
      have n2_ := A_ (Kd.R_elder' (oR HO_672005) (Kd.R_base ho2) hb)
      have n3_ := A_ (Kd.R_lower (Kd.R_new' ho0 (Kd.R_lt (oR HO_672000))) (keep_size (w := w) (g := g) (row := none) (by repeat (first | (with_reducible first | exact HK.out | apply KeepBut.set_ | apply keep_drewN | apply keep_drew | apply keep_alloc | refine keep_far ?_ GW649.out _ | refine keep_far ?_ GW671.out _ | refine keep_far ?_ GW698.out _) | exact HK.out))))
      have n4_ := A_ (Kd.R_lower (Kd.R_new' ho1 (Kd.R_lt (oR HO_672002))) (keep_size (w := w) (g := g) (row := none) (by repeat (first | (with_reducible first | exact HK.out | apply KeepBut.set_ | apply keep_drewN | apply keep_drew | apply keep_alloc | refine keep_far ?_ GW649.out _ | refine keep_far ?_ GW671.out _ | refine keep_far ?_ GW698.out _) | exact HK.out))))
      have n5_ := A_ (Kd.R_lower (Kd.R_new' ho2 (Kd.R_lt (oR HO_672005))) (keep_size (w := w) (g := g) (row := none) (by repeat (first | (with_reducible first | exact HK.out | apply KeepBut.set_ | apply keep_drewN | apply keep_drew | apply keep_alloc | refine keep_far ?_ GW649.out _ | refine keep_far ?_ GW671.out _ | refine keep_far ?_ GW698.out _) | exact HK.out))))
      have n6_ := A_ (bb BK649 hb)
      have n7_ := A_ (bb BK671 hb)
      have n8_ := A_ (IsS105.below (oI105 HI0) hb)
      have n9_ := A_ (bb BK698 hb)
      have n10_ := A_ (KeepBut.trans (oKe HK) (KeepBut.of_below hb g none) (.inl rfl))
      have n11_ := A_ (below_step (oB105 HB) hb)
      clear HO_672000
      clear HO_672002
      clear HO_672005
      clear BK649
      clear BK671
      clear HI0
      clear BK698
      clear HK
      clear HB
      have HO_672000 := n0_
      have HO_672002 := n1_
      have HO_672005 := n2_
      have HO704 := n3_
      have HO708 := n4_
      have HO713 := n5_
      have BK649 := n6_
      have BK671 := n7_
      have HI0 := n8_
      have BK698 := n9_
      have HK := n10_
      have HB := n11_
      clear n0_ n1_ n2_ n3_ n4_ n5_ n6_ n7_ n8_ n9_ n10_ n11_
      (try clear hb)
      (try clear hb2)
      (try clear hk)
      (try clear hi)
      (try clear ho0)
      (try clear ho1)
      (try clear ho2)
      obtain ⟨Ao58, co58, eo58⟩ := Kd.R_slice HO704.out
      (first | subst eo58 | (injection eo58 with f1_ f2_ f3_; have f4_ := f1_.symm; have f5_ := f3_.symm; clear f1_ f2_ f3_; subst f4_; subst f5_))
      obtain ⟨Ao61, co61, eo61⟩ := Kd.R_slice HO708.out
      (first | subst eo61 | (injection eo61 with f1_ f2_ f3_; have f4_ := f1_.symm; have f5_ := f3_.symm; clear f1_ f2_ f3_; subst f4_; subst f5_))
      obtain ⟨Ao65, co65, eo65⟩ := Kd.R_slice HO713.out
      (first | subst eo65 | (injection eo65 with f1_ f2_ f3_; have f4_ := f1_.symm; have f5_ := f3_.symm; clear f1_ f2_ f3_; subst f4_; subst f5_))
      refine hK.out _ _ ⟨cz BK671 0, cz BK671 1, cz BK671 2, cz BK671 3, cz BK671 4, cz BK671 5, cz BK698 0, cz BK698 1⟩ (fun hHeld => ?_)
      clear hK K
      refine norm_ (a' := ?_) ?_ ?_
      rotate_left
      ·show Act.put _ (some 50) _ = _
       simp only [Act.put, List.setIfInBounds_toArray, List.set_cons_zero, List.set_cons_succ, i64_w, i32_w]
       rfl
      refine pA 5 (some 45) HT_.out ?_
      refine pA 6 (some 51) HT_.out ?_
      refine pA 7 (some 52) HT_.out ?_
      refine last_ (i := 8) (N := none) #[true, true, true, true, true, true, true, true, true] rfl rfl (one_of HT_.out (by kernel_rfl)) (by decide) (fun K hK => ?_)
      have hs59 := cz BK671 0
      have hfs59 := blk_frozen BK671.out 0
      have hns59_0 := NB649_671.out
      have hns59_2 := NB698_671.out
      have hms59_0 := NB671_649.out
      have hms59_2 := NB671_698.out
      have hs60 := cz BK671 1
      have hfs60 := blk_frozen BK671.out 1
      have hns60_0 := NB649_671.out
      have hns60_2 := NB698_671.out
      have hms60_0 := NB671_649.out
      have hms60_2 := NB671_698.out
      have hs62 := cz BK671 2
      have hfs62 := blk_frozen BK671.out 2
      have hns62_0 := NB649_671.out
      have hns62_2 := NB698_671.out
      have hms62_0 := NB671_649.out
      have hms62_2 := NB671_698.out
      have hs63 := cz BK671 3
      have hfs63 := blk_frozen BK671.out 3
      have hns63_0 := NB649_671.out
      have hns63_2 := NB698_671.out
      have hms63_0 := NB671_649.out
      have hms63_2 := NB671_698.out
      have hs64 := cz BK671 4
      have hfs64 := blk_frozen BK671.out 4
      have hns64_0 := NB649_671.out
      have hns64_2 := NB698_671.out
      have hms64_0 := NB671_649.out
      have hms64_2 := NB671_698.out
      have hs66 := cz BK671 5
      have hfs66 := blk_frozen BK671.out 5
      have hns66_0 := NB649_671.out
      have hns66_2 := NB698_671.out
      have hms66_0 := NB671_649.out
      have hms66_2 := NB671_698.out
      refine skip_ (w1 := ?_) (by rfl) rfl ?_ ?_
      rotate_left
      ·go_simp
       rfl
      refine hK.out _ _ ?_
      clear hK K
      refine done_ (done_of HT_.out (by kernel_rfl)) ?_
      try go_wp2
      go_roundg k1
      case measure => have := HK1.out; omega
      case rel => exact ⟨(wrap64 (x6_1 + 1)), (t700), (t701), (t702), (t705), (t706), (t709), (t710), (t711), (.slice Ao58 t702.length co58), (.slice Ao61 t706.length co61), (.slice Ao65 t711.length co65), (by first | rfl | (simp; done) | (simp [*]; done)), H', ⟨by have := HK1.out; omega⟩, ⟨by (with_reducible repeat (first | apply Kd.R_alloc | apply Kd.R_drewN | apply Kd.R_drew)); exact Kd.R_mono (Kd.R_far (p := ⟨gb671, 5, none⟩) (Kd.R_far (p := ⟨gb671, 4, none⟩) (Kd.R_far (p := ⟨gb671, 3, none⟩) (Kd.R_far (p := ⟨gb671, 2, none⟩) (Kd.R_far (p := ⟨gb671, 1, none⟩) (Kd.R_far (p := ⟨gb671, 0, none⟩) (Kd.R_types HO704.out BK671.out (by decide)) (fun _ hk => hk.2) (.slice Ao58 t702.length co58)) (fun _ hk => hk.2) (.int .i64 t705)) (fun _ hk => hk.2) (.slice Ao61 t706.length co61)) (fun _ hk => hk.2) (.int .i64 t709)) (fun _ hk => hk.2) (.int .i64 t710)) (fun _ hk => hk.2) (.slice Ao65 t711.length co65)) (fun _ hk => trivial)⟩, ⟨by (with_reducible repeat (first | apply Kd.R_alloc | apply Kd.R_drewN | apply Kd.R_drew)); exact Kd.R_mono (Kd.R_far (p := ⟨gb671, 5, none⟩) (Kd.R_far (p := ⟨gb671, 4, none⟩) (Kd.R_far (p := ⟨gb671, 3, none⟩) (Kd.R_far (p := ⟨gb671, 2, none⟩) (Kd.R_far (p := ⟨gb671, 1, none⟩) (Kd.R_far (p := ⟨gb671, 0, none⟩) (Kd.R_types HO708.out BK671.out (by decide)) (fun _ hk => hk.2) (.slice Ao58 t702.length co58)) (fun _ hk => hk.2) (.int .i64 t705)) (fun _ hk => hk.2) (.slice Ao61 t706.length co61)) (fun _ hk => hk.2) (.int .i64 t709)) (fun _ hk => hk.2) (.int .i64 t710)) (fun _ hk => hk.2) (.slice Ao65 t711.length co65)) (fun _ hk => trivial)⟩, ⟨by (with_reducible repeat (first | apply Kd.R_alloc | apply Kd.R_drewN | apply Kd.R_drew)); exact Kd.R_mono (Kd.R_far (p := ⟨gb671, 5, none⟩) (Kd.R_far (p := ⟨gb671, 4, none⟩) (Kd.R_far (p := ⟨gb671, 3, none⟩) (Kd.R_far (p := ⟨gb671, 2, none⟩) (Kd.R_far (p := ⟨gb671, 1, none⟩) (Kd.R_far (p := ⟨gb671, 0, none⟩) (Kd.R_types HO713.out BK671.out (by decide)) (fun _ hk => hk.2) (.slice Ao58 t702.length co58)) (fun _ hk => hk.2) (.int .i64 t705)) (fun _ hk => hk.2) (.slice Ao61 t706.length co61)) (fun _ hk => hk.2) (.int .i64 t709)) (fun _ hk => hk.2) (.int .i64 t710)) (fun _ hk => hk.2) (.slice Ao65 t711.length co65)) (fun _ hk => trivial)⟩, ⟨by (with_reducible repeat (first | refine blk_drewN ?_ _ | refine blk_drew ?_ | refine blk_alloc ?_ _)); refine blk_far ?_ NB649_671.out _; (with_reducible repeat (first | refine blk_drewN ?_ _ | refine blk_drew ?_ | refine blk_alloc ?_ _)); refine blk_far ?_ NB649_671.out _; (with_reducible repeat (first | refine blk_drewN ?_ _ | refine blk_drew ?_ | refine blk_alloc ?_ _)); refine blk_far ?_ NB649_671.out _; (with_reducible repeat (first | refine blk_drewN ?_ _ | refine blk_drew ?_ | refine blk_alloc ?_ _)); refine blk_far ?_ NB649_671.out _; (with_reducible repeat (first | refine blk_drewN ?_ _ | refine blk_drew ?_ | refine blk_alloc ?_ _)); refine blk_far ?_ NB649_671.out _; (with_reducible repeat (first | refine blk_drewN ?_ _ | refine blk_drew ?_ | refine blk_alloc ?_ _)); refine blk_far ?_ NB649_671.out _; (with_reducible repeat (first | refine blk_drewN ?_ _ | refine blk_drew ?_ | refine blk_alloc ?_ _)); exact BK649.out⟩, ⟨by (with_reducible repeat (first | refine blk_drewN ?_ _ | refine blk_drew ?_ | refine blk_alloc ?_ _)); refine blk_put (cs := #[.slice Ao58 t702.length co58, .int .i64 t705, .slice Ao61 t706.length co61, .int .i64 t709, .int .i64 t710, .slice Ao56 x672005_1.length co56]) ?_ 5 _ rfl; (with_reducible repeat (first | refine blk_drewN ?_ _ | refine blk_drew ?_ | refine blk_alloc ?_ _)); refine blk_put (cs := #[.slice Ao58 t702.length co58, .int .i64 t705, .slice Ao61 t706.length co61, .int .i64 t709, .int .i64 x672004_1, .slice Ao56 x672005_1.length co56]) ?_ 4 _ rfl; (with_reducible repeat (first | refine blk_drewN ?_ _ | refine blk_drew ?_ | refine blk_alloc ?_ _)); refine blk_put (cs := #[.slice Ao58 t702.length co58, .int .i64 t705, .slice Ao61 t706.length co61, .int .i64 x672003_1, .int .i64 x672004_1, .slice Ao56 x672005_1.length co56]) ?_ 3 _ rfl; (with_reducible repeat (first | refine blk_drewN ?_ _ | refine blk_drew ?_ | refine blk_alloc ?_ _)); refine blk_put (cs := #[.slice Ao58 t702.length co58, .int .i64 t705, .slice Ao55 x672002_1.length co55, .int .i64 x672003_1, .int .i64 x672004_1, .slice Ao56 x672005_1.length co56]) ?_ 2 _ rfl; (with_reducible repeat (first | refine blk_drewN ?_ _ | refine blk_drew ?_ | refine blk_alloc ?_ _)); refine blk_put (cs := #[.slice Ao58 t702.length co58, .int .i64 x672001_1, .slice Ao55 x672002_1.length co55, .int .i64 x672003_1, .int .i64 x672004_1, .slice Ao56 x672005_1.length co56]) ?_ 1 _ rfl; (with_reducible repeat (first | refine blk_drewN ?_ _ | refine blk_drew ?_ | refine blk_alloc ?_ _)); refine blk_put (cs := #[.slice Ao54 x672000_1.length co54, .int .i64 x672001_1, .slice Ao55 x672002_1.length co55, .int .i64 x672003_1, .int .i64 x672004_1, .slice Ao56 x672005_1.length co56]) ?_ 0 _ rfl; (with_reducible repeat (first | refine blk_drewN ?_ _ | refine blk_drew ?_ | refine blk_alloc ?_ _)); exact BK671.out⟩, ⟨oI105 HI0⟩, ⟨oKe HK⟩, ⟨oB105 HB⟩⟩
     ·rw [if_neg c40] at H
      have c40b0 : (t675 == 1) = false := beq_eq_false_iff_ne.mpr c40
      have c40b1 : (t675 != 1) = true := bne_iff_ne.mpr c40
      by_cases c67 : t675 = 2
      ·rw [if_pos c67] at H
       have c67b0 : (t675 == 2) = true := beq_iff_eq.mpr c67
       have c67b1 : (t675 != 2) = false := bne_eq_false_iff_eq.mpr c67
       clear c67
       replace H := Option.bind_eq_some_iff.mp H
       obtain ⟨⟨t715, t716, t717⟩, A680, H⟩ := H
       (try dsimp only at H)
       have A68 := A_ A680
       clear A680
       replace H := Option.bind_eq_some_iff.mp H
       obtain ⟨⟨t718, t719, t720⟩, A690, H⟩ := H
       (try dsimp only at H)
       have A69 := A_ A690
       clear A690
       replace H := Option.bind_eq_some_iff.mp H
       obtain ⟨⟨t721, t724, t725, t728, t729, t730, t733⟩, A700, H⟩ := H
       (try dsimp only at H)
       have A70 := A_ A700
       clear A700
       have H' := A_ H
       clear H
       try go_wp2_with (first | ((with_reducible refine gate_callee (f := 66) rfl ?_); refine gL (some 26) Tryd.func66 #[.pointer (some ⟨g, 0, none⟩), .int .i64 8] ?_; (with_reducible refine (spec_l01Below.calls g s0_0 x1001_1 x1002_1 8 t675 t676 t677 w0 _ ?side1 ?side2 A20.out).mono ?_); (case side1 => exact oI105 HI0); (case side2 => exact oB105 HB); rintro e w71 ⟨rfl, hi, hb, hk⟩; refine ⟨_, rfl, ?_⟩; have n0_ := A_ (Kd.R_mono (Kd.R_keep (IsS105.apart (show IsS105 w0 _ g s0_0 x1001_1 x1002_1 from oI105 HI0) (oR HO_672000) (by decide)) hk (fun _ h => h.2)) (fun _ h => h.1)); have n1_ := A_ (Kd.R_mono (Kd.R_keep (IsS105.apart (show IsS105 w0 _ g s0_0 x1001_1 x1002_1 from oI105 HI0) (oR HO_672002) (by decide)) hk (fun _ h => h.2)) (fun _ h => h.1)); have n2_ := A_ (Kd.R_mono (Kd.R_keep (IsS105.apart (show IsS105 w0 _ g s0_0 x1001_1 x1002_1 from oI105 HI0) (oR HO_672005) (by decide)) hk (fun _ h => h.2)) (fun _ h => h.1)); have n3_ := A_ (KeepBut.blk hk (g' := gb649) (o := .cells #[.slice none 0 0, .int .i64 0, .slice none 0 0, .int .i64 0, .int .i64 0, .slice none 0 0] 44 (0, 0)) (oK BK649) NB649_0.out (by simp)); have n4_ := A_ (KeepBut.blk hk (g' := gb671) (o := .cells #[u672000, .int .i64 x672001_1, u672002, .int .i64 x672003_1, .int .i64 x672004_1, u672005] 44 (0, 0)) (oK BK671) NB671_0.out (by simp)); have n5_ := A_ (KeepBut.trans (oKe HK) hk (.inl rfl)); have n6_ := A_ (hb); have n7_ := A_ (hi); clear HO_672000; clear HO_672002; clear HO_672005; clear BK649; clear BK671; clear HK; clear HB; clear HI0; have HO_672000 := n0_; have HO_672002 := n1_; have HO_672005 := n2_; have BK649 := n3_; have BK671 := n4_; have HK := n5_; have HB := n6_; have HI0 := n7_; clear n0_ n1_ n2_ n3_ n4_ n5_ n6_ n7_; (try clear hb); (try clear hb2); (try clear hk); (try clear hi)) | ((with_reducible refine gate_callee (f := 66) rfl ?_); refine gL (some 56) Tryd.func66 #[.pointer (some ⟨g, 0, none⟩), .int .i64 12] ?_; (with_reducible refine (spec_l01Below.calls g s0_0 t676 t677 12 t715 t716 t717 w0 _ ?side1 ?side2 A68.out).mono ?_); (case side1 => exact oI105 HI0); (case side2 => exact oB105 HB); rintro e w72 ⟨rfl, hi, hb, hk⟩; refine ⟨_, rfl, ?_⟩; have n0_ := A_ (Kd.R_mono (Kd.R_keep (IsS105.apart (show IsS105 w0 _ g s0_0 t676 t677 from oI105 HI0) (oR HO_672000) (by decide)) hk (fun _ h => h.2)) (fun _ h => h.1)); have n1_ := A_ (Kd.R_mono (Kd.R_keep (IsS105.apart (show IsS105 w0 _ g s0_0 t676 t677 from oI105 HI0) (oR HO_672002) (by decide)) hk (fun _ h => h.2)) (fun _ h => h.1)); have n2_ := A_ (Kd.R_mono (Kd.R_keep (IsS105.apart (show IsS105 w0 _ g s0_0 t676 t677 from oI105 HI0) (oR HO_672005) (by decide)) hk (fun _ h => h.2)) (fun _ h => h.1)); have n3_ := A_ (KeepBut.blk hk (g' := gb649) (o := .cells #[.slice none 0 0, .int .i64 0, .slice none 0 0, .int .i64 0, .int .i64 0, .slice none 0 0] 44 (0, 0)) (oK BK649) NB649_0.out (by simp)); have n4_ := A_ (KeepBut.blk hk (g' := gb671) (o := .cells #[u672000, .int .i64 x672001_1, u672002, .int .i64 x672003_1, .int .i64 x672004_1, u672005] 44 (0, 0)) (oK BK671) NB671_0.out (by simp)); have n5_ := A_ (KeepBut.trans (oKe HK) hk (.inl rfl)); have n6_ := A_ (hb); have n7_ := A_ (hi); clear HO_672000; clear HO_672002; clear HO_672005; clear BK649; clear BK671; clear HK; clear HB; clear HI0; have HO_672000 := n0_; have HO_672002 := n1_; have HO_672005 := n2_; have BK649 := n3_; have BK671 := n4_; have HK := n5_; have HB := n6_; have HI0 := n7_; clear n0_ n1_ n2_ n3_ n4_ n5_ n6_ n7_; (try clear hb); (try clear hb2); (try clear hk); (try clear hi)))
       have n0_ := A_ (Kd.R_drew HO_672000.out)
       have n1_ := A_ (Kd.R_drew HO_672002.out)
       have n2_ := A_ (Kd.R_drew HO_672005.out)
       have n3_ := A_ (blk_drew BK649.out)
       have n4_ := A_ (blk_drew BK671.out)
       have n5_ := A_ (IsS105.drew HI0.out)
       have n6_ := A_ (keep_drew HK.out)
       have n7_ := A_ (below_drew1 HB.out)
       clear HO_672000
       clear HO_672002
       clear HO_672005
       clear BK649
       clear BK671
       clear HI0
       clear HK
       clear HB
       have HO_672000 := n0_
       have HO_672002 := n1_
       have HO_672005 := n2_
       have BK649 := n3_
       have BK671 := n4_
       have HI0 := n5_
       have HK := n6_
       have HB := n7_
       clear n0_ n1_ n2_ n3_ n4_ n5_ n6_ n7_
       refine start_ (n := 10) (S := fun w' => w'.cell? ⟨gb671, 0, none⟩ = some (u672000) ∧ w'.cell? ⟨gb671, 1, none⟩ = some (.int .i64 x672001_1) ∧ w'.cell? ⟨gb671, 2, none⟩ = some (u672002) ∧ w'.cell? ⟨gb671, 3, none⟩ = some (.int .i64 x672003_1) ∧ w'.cell? ⟨gb671, 4, none⟩ = some (.int .i64 x672004_1) ∧ w'.cell? ⟨gb671, 5, none⟩ = some (u672005)) (ds := [9]) #[false, false, false, false, false, false, false, false, false, false] (by kernel_rfl) rfl rfl ⟨cz BK671 0, cz BK671 1, cz BK671 2, cz BK671 3, cz BK671 4, cz BK671 5⟩ (fun hHeld => ?_); refine with_tabW spec_l38Shop.tab15 spec_l38Shop.bits15 (fun HT_ HW_ => ?_)
       generalize w72.drew = w73 at HO_672000 HO_672002 HO_672005 BK649 BK671 HI0 HK HB hHeld ⊢
       refine pA 1 (some 59) HT_.out ?_
       refine pA 2 (some 60) HT_.out ?_
       refine pT 0 (some 58) HT_.out HW_.out hHeld ?_
       refine one_ (i := 3) (N := some 61) #[true, true, true, true, false, false, false, false, false, false] rfl rfl (one_of HT_.out (by kernel_rfl)) (by decide) (fun K hK => ?_)
       refine goes_ Tryd.func66 (by kernel_rfl) rfl #[.pointer (some ⟨g, 0, none⟩), .int .i64 2001] (by rfl) rfl rfl (by (try simp only [List.map_toArray, List.map_cons, List.map_nil]); first | done | rfl | (simp only [List.length_drop, List.length_take]; rfl)) ?_
       with_reducible refine (spec_l01Below.calls g s0_0 t716 t717 2001 t718 t719 t720 w0 _ ?side1 ?side2 A69.out).mono ?_
       (case side1 => exact oI105 HI0)
       (case side2 => exact oB105 HB)
       rintro e w74 ⟨rfl, hi, hb, hk⟩
       refine ⟨_, rfl, ?_⟩
       have n0_ := A_ (Kd.R_mono (Kd.R_keep (IsS105.apart (show IsS105 w0 _ g s0_0 t716 t717 from oI105 HI0) (oR HO_672000) (by decide)) hk (fun _ h => h.2)) (fun _ h => h.1))
       have n1_ := A_ (Kd.R_mono (Kd.R_keep (IsS105.apart (show IsS105 w0 _ g s0_0 t716 t717 from oI105 HI0) (oR HO_672002) (by decide)) hk (fun _ h => h.2)) (fun _ h => h.1))
       have n2_ := A_ (Kd.R_mono (Kd.R_keep (IsS105.apart (show IsS105 w0 _ g s0_0 t716 t717 from oI105 HI0) (oR HO_672005) (by decide)) hk (fun _ h => h.2)) (fun _ h => h.1))
       have n3_ := A_ (KeepBut.blk hk (g' := gb649) (o := .cells #[.slice none 0 0, .int .i64 0, .slice none 0 0, .int .i64 0, .int .i64 0, .slice none 0 0] 44 (0, 0)) (oK BK649) NB649_0.out (by simp))
       have n4_ := A_ (KeepBut.blk hk (g' := gb671) (o := .cells #[u672000, .int .i64 x672001_1, u672002, .int .i64 x672003_1, .int .i64 x672004_1, u672005] 44 (0, 0)) (oK BK671) NB671_0.out (by simp))
       have n5_ := A_ (KeepBut.trans (oKe HK) hk (.inl rfl))
       have n6_ := A_ (hb)
       have n7_ := A_ (hi)
       clear HO_672000
       clear HO_672002
       clear HO_672005
       clear BK649
       clear BK671
       clear HK
       clear HB
       clear HI0
       have HO_672000 := n0_
       have HO_672002 := n1_
       have HO_672005 := n2_
       have BK649 := n3_
       have BK671 := n4_
       have HK := n5_
       have HB := n6_
       have HI0 := n7_
       clear n0_ n1_ n2_ n3_ n4_ n5_ n6_ n7_
       (try clear hb)
       (try clear hb2)
       (try clear hk)
       (try clear hi)
       obtain ⟨Ao75, co75, eo75⟩ := Kd.R_slice HO_672000.out
       (first | subst eo75 | (injection eo75 with f1_ f2_ f3_; have f4_ := f1_.symm; have f5_ := f3_.symm; clear f1_ f2_ f3_; subst f4_; subst f5_))
       obtain ⟨Ao76, co76, eo76⟩ := Kd.R_slice HO_672002.out
       (first | subst eo76 | (injection eo76 with f1_ f2_ f3_; have f4_ := f1_.symm; have f5_ := f3_.symm; clear f1_ f2_ f3_; subst f4_; subst f5_))
       obtain ⟨Ao77, co77, eo77⟩ := Kd.R_slice HO_672005.out
       (first | subst eo77 | (injection eo77 with f1_ f2_ f3_; have f4_ := f1_.symm; have f5_ := f3_.symm; clear f1_ f2_ f3_; subst f4_; subst f5_))
       refine hK.out _ _ ⟨cz BK671 0, cz BK671 1, cz BK671 2, cz BK671 3, cz BK671 4, cz BK671 5⟩ (fun hHeld => ?_)
       clear hK K
       refine norm_ (a' := ?_) ?_ ?_
       rotate_left
       ·show Act.put _ (some 61) _ = _
        simp only [Act.put, List.setIfInBounds_toArray, List.set_cons_zero, List.set_cons_succ, i64_w, i32_w]
        rfl
       refine pA 4 (some 62) HT_.out ?_
       refine one_ (i := 5) (N := some 63) #[true, true, true, true, true, true, false, false, false, false] rfl rfl (one_of HT_.out (by kernel_rfl)) (by decide) (fun K hK => ?_)
       refine goes_ Tryd.func95 (by kernel_rfl) rfl #[.agg #[.slice Ao75 x672000_1.length co75, .int .i64 x672001_1, .slice Ao76 x672002_1.length co76, .int .i64 x672003_1, .int .i64 x672004_1, .slice Ao77 x672005_1.length co77], .int .i64 t715, .int .i64 (wrap64 (t718 - 1000))] (by rfl) rfl rfl (by (try simp only [List.map_toArray, List.map_cons, List.map_nil]); first | done | rfl | (simp only [List.length_drop, List.length_take]; rfl)) ?_
       with_reducible refine (spec_ShopKnock.calls k1 _ _ x672000_1 x672001_1 _ _ x672002_1 x672003_1 x672004_1 _ _ x672005_1 t715 (wrap64 (t718 - 1000)) t721 t724 t725 t728 t729 t730 t733 _ ?side1 ?side2 ?side3 ?side4 ?side5 ?side6 A70.out).mono ?_
       (case side1 => repeat (first | exact (Kd.R_reads' HO_672000.out).2.2 | (with_reducible refine Kd.C_alloc ?_ _) | (with_reducible refine Kd.C_drewN ?_ _) | (with_reducible refine Kd.C_drew ?_)))
       (case side2 => exact (Kd.R_reads' HO_672000.out).2.1)
       (case side3 => repeat (first | exact (Kd.R_reads' HO_672002.out).2.2 | (with_reducible refine Kd.C_alloc ?_ _) | (with_reducible refine Kd.C_drewN ?_ _) | (with_reducible refine Kd.C_drew ?_)))
       (case side4 => exact (Kd.R_reads' HO_672002.out).2.1)
       (case side5 => repeat (first | exact (Kd.R_reads' HO_672005.out).2.2 | (with_reducible refine Kd.C_alloc ?_ _) | (with_reducible refine Kd.C_drewN ?_ _) | (with_reducible refine Kd.C_drew ?_)))
       (case side6 => exact (Kd.R_reads' HO_672005.out).2.1)
       rintro e w78 ⟨v722, v726, v731, rfl, ho0, ho1, ho2, hb⟩
       refine ⟨_, rfl, ?_⟩
       have n0_ := A_ (Kd.R_elder' (oR HO_672000) (Kd.R_base ho0) hb)
       have n1_ := A_ (Kd.R_elder' (oR HO_672002) (Kd.R_base ho1) hb)
       have n2_ := A_ (Kd.R_elder' (oR HO_672005) (Kd.R_base ho2) hb)
       have n3_ := A_ (Kd.R_lower (Kd.R_new' ho0 (Kd.R_lt (oR HO_672000))) (keep_size (w := w) (g := g) (row := none) (by repeat (first | (with_reducible first | exact HK.out | apply KeepBut.set_ | apply keep_drewN | apply keep_drew | apply keep_alloc | refine keep_far ?_ GW649.out _ | refine keep_far ?_ GW671.out _) | exact HK.out))))
       have n4_ := A_ (Kd.R_lower (Kd.R_new' ho1 (Kd.R_lt (oR HO_672002))) (keep_size (w := w) (g := g) (row := none) (by repeat (first | (with_reducible first | exact HK.out | apply KeepBut.set_ | apply keep_drewN | apply keep_drew | apply keep_alloc | refine keep_far ?_ GW649.out _ | refine keep_far ?_ GW671.out _) | exact HK.out))))
       have n5_ := A_ (Kd.R_lower (Kd.R_new' ho2 (Kd.R_lt (oR HO_672005))) (keep_size (w := w) (g := g) (row := none) (by repeat (first | (with_reducible first | exact HK.out | apply KeepBut.set_ | apply keep_drewN | apply keep_drew | apply keep_alloc | refine keep_far ?_ GW649.out _ | refine keep_far ?_ GW671.out _) | exact HK.out))))
       have n6_ := A_ (bb BK649 hb)
       have n7_ := A_ (bb BK671 hb)
       have n8_ := A_ (IsS105.below (oI105 HI0) hb)
       have n9_ := A_ (KeepBut.trans (oKe HK) (KeepBut.of_below hb g none) (.inl rfl))
       have n10_ := A_ (below_step (oB105 HB) hb)
       clear HO_672000
       clear HO_672002
       clear HO_672005
       clear BK649
       clear BK671
       clear HI0
       clear HK
       clear HB
       have HO_672000 := n0_
       have HO_672002 := n1_
       have HO_672005 := n2_
       have HO723 := n3_
       have HO727 := n4_
       have HO732 := n5_
       have BK649 := n6_
       have BK671 := n7_
       have HI0 := n8_
       have HK := n9_
       have HB := n10_
       clear n0_ n1_ n2_ n3_ n4_ n5_ n6_ n7_ n8_ n9_ n10_
       (try clear hb)
       (try clear hb2)
       (try clear hk)
       (try clear hi)
       (try clear ho0)
       (try clear ho1)
       (try clear ho2)
       obtain ⟨Ao79, co79, eo79⟩ := Kd.R_slice HO723.out
       (first | subst eo79 | (injection eo79 with f1_ f2_ f3_; have f4_ := f1_.symm; have f5_ := f3_.symm; clear f1_ f2_ f3_; subst f4_; subst f5_))
       obtain ⟨Ao82, co82, eo82⟩ := Kd.R_slice HO727.out
       (first | subst eo82 | (injection eo82 with f1_ f2_ f3_; have f4_ := f1_.symm; have f5_ := f3_.symm; clear f1_ f2_ f3_; subst f4_; subst f5_))
       obtain ⟨Ao86, co86, eo86⟩ := Kd.R_slice HO732.out
       (first | subst eo86 | (injection eo86 with f1_ f2_ f3_; have f4_ := f1_.symm; have f5_ := f3_.symm; clear f1_ f2_ f3_; subst f4_; subst f5_))
       refine hK.out _ _ ⟨cz BK671 0, cz BK671 1, cz BK671 2, cz BK671 3, cz BK671 4, cz BK671 5⟩ (fun hHeld => ?_)
       clear hK K
       refine norm_ (a' := ?_) ?_ ?_
       rotate_left
       ·show Act.put _ (some 63) _ = _
        simp only [Act.put, List.setIfInBounds_toArray, List.set_cons_zero, List.set_cons_succ, i64_w, i32_w]
        rfl
       refine pA 6 (some 57) HT_.out ?_
       refine pA 7 (some 64) HT_.out ?_
       refine pA 8 (some 65) HT_.out ?_
       refine last_ (i := 9) (N := none) #[true, true, true, true, true, true, true, true, true, true] rfl rfl (one_of HT_.out (by kernel_rfl)) (by decide) (fun K hK => ?_)
       have hs80 := cz BK671 0
       have hfs80 := blk_frozen BK671.out 0
       have hns80_0 := NB649_671.out
       have hms80_0 := NB671_649.out
       have hs81 := cz BK671 1
       have hfs81 := blk_frozen BK671.out 1
       have hns81_0 := NB649_671.out
       have hms81_0 := NB671_649.out
       have hs83 := cz BK671 2
       have hfs83 := blk_frozen BK671.out 2
       have hns83_0 := NB649_671.out
       have hms83_0 := NB671_649.out
       have hs84 := cz BK671 3
       have hfs84 := blk_frozen BK671.out 3
       have hns84_0 := NB649_671.out
       have hms84_0 := NB671_649.out
       have hs85 := cz BK671 4
       have hfs85 := blk_frozen BK671.out 4
       have hns85_0 := NB649_671.out
       have hms85_0 := NB671_649.out
       have hs87 := cz BK671 5
       have hfs87 := blk_frozen BK671.out 5
       have hns87_0 := NB649_671.out
       have hms87_0 := NB671_649.out
       refine skip_ (w1 := ?_) (by rfl) rfl ?_ ?_
       rotate_left
       ·go_simp
        rfl
       refine hK.out _ _ ?_
       clear hK K
       refine done_ (done_of HT_.out (by kernel_rfl)) ?_
       try go_wp2
       go_roundg k1
       case measure => have := HK1.out; omega
       case rel => exact ⟨(wrap64 (x6_1 + 1)), (t719), (t720), (t721), (t724), (t725), (t728), (t729), (t730), (.slice Ao79 t721.length co79), (.slice Ao82 t725.length co82), (.slice Ao86 t730.length co86), (by first | rfl | (simp; done) | (simp [*]; done)), H', ⟨by have := HK1.out; omega⟩, ⟨by (with_reducible repeat (first | apply Kd.R_alloc | apply Kd.R_drewN | apply Kd.R_drew)); exact Kd.R_mono (Kd.R_far (p := ⟨gb671, 5, none⟩) (Kd.R_far (p := ⟨gb671, 4, none⟩) (Kd.R_far (p := ⟨gb671, 3, none⟩) (Kd.R_far (p := ⟨gb671, 2, none⟩) (Kd.R_far (p := ⟨gb671, 1, none⟩) (Kd.R_far (p := ⟨gb671, 0, none⟩) (Kd.R_types HO723.out BK671.out (by decide)) (fun _ hk => hk.2) (.slice Ao79 t721.length co79)) (fun _ hk => hk.2) (.int .i64 t724)) (fun _ hk => hk.2) (.slice Ao82 t725.length co82)) (fun _ hk => hk.2) (.int .i64 t728)) (fun _ hk => hk.2) (.int .i64 t729)) (fun _ hk => hk.2) (.slice Ao86 t730.length co86)) (fun _ hk => trivial)⟩, ⟨by (with_reducible repeat (first | apply Kd.R_alloc | apply Kd.R_drewN | apply Kd.R_drew)); exact Kd.R_mono (Kd.R_far (p := ⟨gb671, 5, none⟩) (Kd.R_far (p := ⟨gb671, 4, none⟩) (Kd.R_far (p := ⟨gb671, 3, none⟩) (Kd.R_far (p := ⟨gb671, 2, none⟩) (Kd.R_far (p := ⟨gb671, 1, none⟩) (Kd.R_far (p := ⟨gb671, 0, none⟩) (Kd.R_types HO727.out BK671.out (by decide)) (fun _ hk => hk.2) (.slice Ao79 t721.length co79)) (fun _ hk => hk.2) (.int .i64 t724)) (fun _ hk => hk.2) (.slice Ao82 t725.length co82)) (fun _ hk => hk.2) (.int .i64 t728)) (fun _ hk => hk.2) (.int .i64 t729)) (fun _ hk => hk.2) (.slice Ao86 t730.length co86)) (fun _ hk => trivial)⟩, ⟨by (with_reducible repeat (first | apply Kd.R_alloc | apply Kd.R_drewN | apply Kd.R_drew)); exact Kd.R_mono (Kd.R_far (p := ⟨gb671, 5, none⟩) (Kd.R_far (p := ⟨gb671, 4, none⟩) (Kd.R_far (p := ⟨gb671, 3, none⟩) (Kd.R_far (p := ⟨gb671, 2, none⟩) (Kd.R_far (p := ⟨gb671, 1, none⟩) (Kd.R_far (p := ⟨gb671, 0, none⟩) (Kd.R_types HO732.out BK671.out (by decide)) (fun _ hk => hk.2) (.slice Ao79 t721.length co79)) (fun _ hk => hk.2) (.int .i64 t724)) (fun _ hk => hk.2) (.slice Ao82 t725.length co82)) (fun _ hk => hk.2) (.int .i64 t728)) (fun _ hk => hk.2) (.int .i64 t729)) (fun _ hk => hk.2) (.slice Ao86 t730.length co86)) (fun _ hk => trivial)⟩, ⟨by (with_reducible repeat (first | refine blk_drewN ?_ _ | refine blk_drew ?_ | refine blk_alloc ?_ _)); refine blk_far ?_ NB649_671.out _; (with_reducible repeat (first | refine blk_drewN ?_ _ | refine blk_drew ?_ | refine blk_alloc ?_ _)); refine blk_far ?_ NB649_671.out _; (with_reducible repeat (first | refine blk_drewN ?_ _ | refine blk_drew ?_ | refine blk_alloc ?_ _)); refine blk_far ?_ NB649_671.out _; (with_reducible repeat (first | refine blk_drewN ?_ _ | refine blk_drew ?_ | refine blk_alloc ?_ _)); refine blk_far ?_ NB649_671.out _; (with_reducible repeat (first | refine blk_drewN ?_ _ | refine blk_drew ?_ | refine blk_alloc ?_ _)); refine blk_far ?_ NB649_671.out _; (with_reducible repeat (first | refine blk_drewN ?_ _ | refine blk_drew ?_ | refine blk_alloc ?_ _)); refine blk_far ?_ NB649_671.out _; (with_reducible repeat (first | refine blk_drewN ?_ _ | refine blk_drew ?_ | refine blk_alloc ?_ _)); exact BK649.out⟩, ⟨by (with_reducible repeat (first | refine blk_drewN ?_ _ | refine blk_drew ?_ | refine blk_alloc ?_ _)); refine blk_put (cs := #[.slice Ao79 t721.length co79, .int .i64 t724, .slice Ao82 t725.length co82, .int .i64 t728, .int .i64 t729, .slice Ao77 x672005_1.length co77]) ?_ 5 _ rfl; (with_reducible repeat (first | refine blk_drewN ?_ _ | refine blk_drew ?_ | refine blk_alloc ?_ _)); refine blk_put (cs := #[.slice Ao79 t721.length co79, .int .i64 t724, .slice Ao82 t725.length co82, .int .i64 t728, .int .i64 x672004_1, .slice Ao77 x672005_1.length co77]) ?_ 4 _ rfl; (with_reducible repeat (first | refine blk_drewN ?_ _ | refine blk_drew ?_ | refine blk_alloc ?_ _)); refine blk_put (cs := #[.slice Ao79 t721.length co79, .int .i64 t724, .slice Ao82 t725.length co82, .int .i64 x672003_1, .int .i64 x672004_1, .slice Ao77 x672005_1.length co77]) ?_ 3 _ rfl; (with_reducible repeat (first | refine blk_drewN ?_ _ | refine blk_drew ?_ | refine blk_alloc ?_ _)); refine blk_put (cs := #[.slice Ao79 t721.length co79, .int .i64 t724, .slice Ao76 x672002_1.length co76, .int .i64 x672003_1, .int .i64 x672004_1, .slice Ao77 x672005_1.length co77]) ?_ 2 _ rfl; (with_reducible repeat (first | refine blk_drewN ?_ _ | refine blk_drew ?_ | refine blk_alloc ?_ _)); refine blk_put (cs := #[.slice Ao79 t721.length co79, .int .i64 x672001_1, .slice Ao76 x672002_1.length co76, .int .i64 x672003_1, .int .i64 x672004_1, .slice Ao77 x672005_1.length co77]) ?_ 1 _ rfl; (with_reducible repeat (first | refine blk_drewN ?_ _ | refine blk_drew ?_ | refine blk_alloc ?_ _)); refine blk_put (cs := #[.slice Ao75 x672000_1.length co75, .int .i64 x672001_1, .slice Ao76 x672002_1.length co76, .int .i64 x672003_1, .int .i64 x672004_1, .slice Ao77 x672005_1.length co77]) ?_ 0 _ rfl; (with_reducible repeat (first | refine blk_drewN ?_ _ | refine blk_drew ?_ | refine blk_alloc ?_ _)); exact BK671.out⟩, ⟨oI105 HI0⟩, ⟨oKe HK⟩, ⟨oB105 HB⟩⟩
      ·rw [if_neg c67] at H
       have c67b0 : (t675 == 2) = false := beq_eq_false_iff_ne.mpr c67
       have c67b1 : (t675 != 2) = true := bne_iff_ne.mpr c67
       replace H := Option.bind_eq_some_iff.mp H
       obtain ⟨⟨t734, t737, t738, t741, t742, t743, t746⟩, A880, H⟩ := H
       (try dsimp only at H)
       have A88 := A_ A880
       clear A880
       have H' := A_ H
       clear H
       go_wp2_with (first | ((with_reducible refine gate_callee (f := 66) rfl ?_); refine gL (some 26) Tryd.func66 #[.pointer (some ⟨g, 0, none⟩), .int .i64 8] ?_; (with_reducible refine (spec_l01Below.calls g s0_0 x1001_1 x1002_1 8 t675 t676 t677 w0 _ ?side1 ?side2 A20.out).mono ?_); (case side1 => exact oI105 HI0); (case side2 => exact oB105 HB); rintro e w89 ⟨rfl, hi, hb, hk⟩; refine ⟨_, rfl, ?_⟩; have n0_ := A_ (Kd.R_mono (Kd.R_keep (IsS105.apart (show IsS105 w0 _ g s0_0 x1001_1 x1002_1 from oI105 HI0) (oR HO_672000) (by decide)) hk (fun _ h => h.2)) (fun _ h => h.1)); have n1_ := A_ (Kd.R_mono (Kd.R_keep (IsS105.apart (show IsS105 w0 _ g s0_0 x1001_1 x1002_1 from oI105 HI0) (oR HO_672002) (by decide)) hk (fun _ h => h.2)) (fun _ h => h.1)); have n2_ := A_ (Kd.R_mono (Kd.R_keep (IsS105.apart (show IsS105 w0 _ g s0_0 x1001_1 x1002_1 from oI105 HI0) (oR HO_672005) (by decide)) hk (fun _ h => h.2)) (fun _ h => h.1)); have n3_ := A_ (KeepBut.blk hk (g' := gb649) (o := .cells #[.slice none 0 0, .int .i64 0, .slice none 0 0, .int .i64 0, .int .i64 0, .slice none 0 0] 44 (0, 0)) (oK BK649) NB649_0.out (by simp)); have n4_ := A_ (KeepBut.blk hk (g' := gb671) (o := .cells #[u672000, .int .i64 x672001_1, u672002, .int .i64 x672003_1, .int .i64 x672004_1, u672005] 44 (0, 0)) (oK BK671) NB671_0.out (by simp)); have n5_ := A_ (KeepBut.trans (oKe HK) hk (.inl rfl)); have n6_ := A_ (hb); have n7_ := A_ (hi); clear HO_672000; clear HO_672002; clear HO_672005; clear BK649; clear BK671; clear HK; clear HB; clear HI0; have HO_672000 := n0_; have HO_672002 := n1_; have HO_672005 := n2_; have BK649 := n3_; have BK671 := n4_; have HK := n5_; have HB := n6_; have HI0 := n7_; clear n0_ n1_ n2_ n3_ n4_ n5_ n6_ n7_; (try clear hb); (try clear hb2); (try clear hk); (try clear hi); have hnb90 := NB671_649.out; have hnc90 := NB649_671.out; have hnb91 := NB671_0.out; have hnc91 := NB0_671.out; have hcz92_0 := cz BK671 0; have hcz92_1 := cz BK671 1; have hcz92_2 := cz BK671 2; have hcz92_3 := cz BK671 3; have hcz92_4 := cz BK671 4; have hcz92_5 := cz BK671 5; have hfz92_0 := blk_frozen BK671.out 0; have hfz92_1 := blk_frozen BK671.out 1; have hfz92_2 := blk_frozen BK671.out 2; have hfz92_3 := blk_frozen BK671.out 3; have hfz92_4 := blk_frozen BK671.out 4; have hfz92_5 := blk_frozen BK671.out 5; obtain ⟨Ao93, co93, eo93⟩ := Kd.R_slice HO_672000.out; subst eo93; obtain ⟨Ao94, co94, eo94⟩ := Kd.R_slice HO_672002.out; subst eo94; obtain ⟨Ao95, co95, eo95⟩ := Kd.R_slice HO_672005.out; subst eo95) | ((with_reducible refine gate_callee (f := 96) rfl ?_); refine gL (some 29) Tryd.func96 #[.agg #[.slice Ao93 x672000_1.length co93, .int .i64 x672001_1, .slice Ao94 x672002_1.length co94, .int .i64 x672003_1, .int .i64 x672004_1, .slice Ao95 x672005_1.length co95]] ?_; (with_reducible refine (spec_ShopTune.calls k1 _ _ x672000_1 x672001_1 _ _ x672002_1 x672003_1 x672004_1 _ _ x672005_1 t734 t737 t738 t741 t742 t743 t746 _ ?side1 ?side2 ?side3 ?side4 ?side5 ?side6 A88.out).mono ?_); (case side1 => repeat (first | exact (Kd.R_reads' HO_672000.out).2.2 | (with_reducible refine Kd.C_alloc ?_ _) | (with_reducible refine Kd.C_drewN ?_ _) | (with_reducible refine Kd.C_drew ?_))); (case side2 => exact (Kd.R_reads' HO_672000.out).2.1); (case side3 => repeat (first | exact (Kd.R_reads' HO_672002.out).2.2 | (with_reducible refine Kd.C_alloc ?_ _) | (with_reducible refine Kd.C_drewN ?_ _) | (with_reducible refine Kd.C_drew ?_))); (case side4 => exact (Kd.R_reads' HO_672002.out).2.1); (case side5 => repeat (first | exact (Kd.R_reads' HO_672005.out).2.2 | (with_reducible refine Kd.C_alloc ?_ _) | (with_reducible refine Kd.C_drewN ?_ _) | (with_reducible refine Kd.C_drew ?_))); (case side6 => exact (Kd.R_reads' HO_672005.out).2.1); rintro e w96 ⟨v735, v739, v744, rfl, ho0, ho1, ho2, hb⟩; refine ⟨_, rfl, ?_⟩; have n0_ := A_ (Kd.R_elder' (oR HO_672000) (Kd.R_base ho0) hb); have n1_ := A_ (Kd.R_elder' (oR HO_672002) (Kd.R_base ho1) hb); have n2_ := A_ (Kd.R_elder' (oR HO_672005) (Kd.R_base ho2) hb); have n3_ := A_ (Kd.R_lower (Kd.R_new' ho0 (Kd.R_lt (oR HO_672000))) (keep_size (w := w) (g := g) (row := none) (by repeat (first | (with_reducible first | exact HK.out | apply KeepBut.set_ | apply keep_drewN | apply keep_drew | apply keep_alloc | refine keep_far ?_ GW649.out _ | refine keep_far ?_ GW671.out _) | exact HK.out)))); have n4_ := A_ (Kd.R_lower (Kd.R_new' ho1 (Kd.R_lt (oR HO_672002))) (keep_size (w := w) (g := g) (row := none) (by repeat (first | (with_reducible first | exact HK.out | apply KeepBut.set_ | apply keep_drewN | apply keep_drew | apply keep_alloc | refine keep_far ?_ GW649.out _ | refine keep_far ?_ GW671.out _) | exact HK.out)))); have n5_ := A_ (Kd.R_lower (Kd.R_new' ho2 (Kd.R_lt (oR HO_672005))) (keep_size (w := w) (g := g) (row := none) (by repeat (first | (with_reducible first | exact HK.out | apply KeepBut.set_ | apply keep_drewN | apply keep_drew | apply keep_alloc | refine keep_far ?_ GW649.out _ | refine keep_far ?_ GW671.out _) | exact HK.out)))); have n6_ := A_ (bb BK649 hb); have n7_ := A_ (bb BK671 hb); have n8_ := A_ (IsS105.below (oI105 HI0) hb); have n9_ := A_ (KeepBut.trans (oKe HK) (KeepBut.of_below hb g none) (.inl rfl)); have n10_ := A_ (below_step (oB105 HB) hb); clear HO_672000; clear HO_672002; clear HO_672005; clear BK649; clear BK671; clear HI0; clear HK; clear HB; have HO_672000 := n0_; have HO_672002 := n1_; have HO_672005 := n2_; have HO736 := n3_; have HO740 := n4_; have HO745 := n5_; have BK649 := n6_; have BK671 := n7_; have HI0 := n8_; have HK := n9_; have HB := n10_; clear n0_ n1_ n2_ n3_ n4_ n5_ n6_ n7_ n8_ n9_ n10_; (try clear hb); (try clear hb2); (try clear hk); (try clear hi); (try clear ho0); (try clear ho1); (try clear ho2); obtain ⟨Ao97, co97, eo97⟩ := Kd.R_slice HO736.out; subst eo97; have hcz98_0 := cz BK671 0; have hcz98_1 := cz BK671 1; have hcz98_2 := cz BK671 2; have hcz98_3 := cz BK671 3; have hcz98_4 := cz BK671 4; have hcz98_5 := cz BK671 5; have hfz98_0 := blk_frozen BK671.out 0; have hfz98_1 := blk_frozen BK671.out 1; have hfz98_2 := blk_frozen BK671.out 2; have hfz98_3 := blk_frozen BK671.out 3; have hfz98_4 := blk_frozen BK671.out 4; have hfz98_5 := blk_frozen BK671.out 5; obtain ⟨Ao99, co99, eo99⟩ := Kd.R_slice HO740.out; subst eo99; obtain ⟨Ao100, co100, eo100⟩ := Kd.R_slice HO745.out; subst eo100))
       go_roundg k1
       case measure => have := HK1.out; omega
       case rel => exact ⟨(wrap64 (x6_1 + 1)), (t676), (t677), (t734), (t737), (t738), (t741), (t742), (t743), (.slice Ao97 t734.length co97), (.slice Ao99 t738.length co99), (.slice Ao100 t743.length co100), (by first | rfl | (simp; done) | (simp [*]; done)), H', ⟨by have := HK1.out; omega⟩, ⟨by (with_reducible repeat (first | apply Kd.R_alloc | apply Kd.R_drewN | apply Kd.R_drew)); exact Kd.R_mono (Kd.R_far (p := ⟨gb671, 5, none⟩) (Kd.R_far (p := ⟨gb671, 4, none⟩) (Kd.R_far (p := ⟨gb671, 3, none⟩) (Kd.R_far (p := ⟨gb671, 2, none⟩) (Kd.R_far (p := ⟨gb671, 1, none⟩) (Kd.R_far (p := ⟨gb671, 0, none⟩) (Kd.R_types HO736.out BK671.out (by decide)) (fun _ hk => hk.2) (.slice Ao97 t734.length co97)) (fun _ hk => hk.2) (.int .i64 t737)) (fun _ hk => hk.2) (.slice Ao99 t738.length co99)) (fun _ hk => hk.2) (.int .i64 t741)) (fun _ hk => hk.2) (.int .i64 t742)) (fun _ hk => hk.2) (.slice Ao100 t743.length co100)) (fun _ hk => trivial)⟩, ⟨by (with_reducible repeat (first | apply Kd.R_alloc | apply Kd.R_drewN | apply Kd.R_drew)); exact Kd.R_mono (Kd.R_far (p := ⟨gb671, 5, none⟩) (Kd.R_far (p := ⟨gb671, 4, none⟩) (Kd.R_far (p := ⟨gb671, 3, none⟩) (Kd.R_far (p := ⟨gb671, 2, none⟩) (Kd.R_far (p := ⟨gb671, 1, none⟩) (Kd.R_far (p := ⟨gb671, 0, none⟩) (Kd.R_types HO740.out BK671.out (by decide)) (fun _ hk => hk.2) (.slice Ao97 t734.length co97)) (fun _ hk => hk.2) (.int .i64 t737)) (fun _ hk => hk.2) (.slice Ao99 t738.length co99)) (fun _ hk => hk.2) (.int .i64 t741)) (fun _ hk => hk.2) (.int .i64 t742)) (fun _ hk => hk.2) (.slice Ao100 t743.length co100)) (fun _ hk => trivial)⟩, ⟨by (with_reducible repeat (first | apply Kd.R_alloc | apply Kd.R_drewN | apply Kd.R_drew)); exact Kd.R_mono (Kd.R_far (p := ⟨gb671, 5, none⟩) (Kd.R_far (p := ⟨gb671, 4, none⟩) (Kd.R_far (p := ⟨gb671, 3, none⟩) (Kd.R_far (p := ⟨gb671, 2, none⟩) (Kd.R_far (p := ⟨gb671, 1, none⟩) (Kd.R_far (p := ⟨gb671, 0, none⟩) (Kd.R_types HO745.out BK671.out (by decide)) (fun _ hk => hk.2) (.slice Ao97 t734.length co97)) (fun _ hk => hk.2) (.int .i64 t737)) (fun _ hk => hk.2) (.slice Ao99 t738.length co99)) (fun _ hk => hk.2) (.int .i64 t741)) (fun _ hk => hk.2) (.int .i64 t742)) (fun _ hk => hk.2) (.slice Ao100 t743.length co100)) (fun _ hk => trivial)⟩, ⟨by (with_reducible repeat (first | refine blk_drewN ?_ _ | refine blk_drew ?_ | refine blk_alloc ?_ _)); refine blk_far ?_ NB649_671.out _; (with_reducible repeat (first | refine blk_drewN ?_ _ | refine blk_drew ?_ | refine blk_alloc ?_ _)); refine blk_far ?_ NB649_671.out _; (with_reducible repeat (first | refine blk_drewN ?_ _ | refine blk_drew ?_ | refine blk_alloc ?_ _)); refine blk_far ?_ NB649_671.out _; (with_reducible repeat (first | refine blk_drewN ?_ _ | refine blk_drew ?_ | refine blk_alloc ?_ _)); refine blk_far ?_ NB649_671.out _; (with_reducible repeat (first | refine blk_drewN ?_ _ | refine blk_drew ?_ | refine blk_alloc ?_ _)); refine blk_far ?_ NB649_671.out _; (with_reducible repeat (first | refine blk_drewN ?_ _ | refine blk_drew ?_ | refine blk_alloc ?_ _)); refine blk_far ?_ NB649_671.out _; (with_reducible repeat (first | refine blk_drewN ?_ _ | refine blk_drew ?_ | refine blk_alloc ?_ _)); exact BK649.out⟩, ⟨by (with_reducible repeat (first | refine blk_drewN ?_ _ | refine blk_drew ?_ | refine blk_alloc ?_ _)); refine blk_put (cs := #[.slice Ao97 t734.length co97, .int .i64 t737, .slice Ao99 t738.length co99, .int .i64 t741, .int .i64 t742, .slice Ao95 x672005_1.length co95]) ?_ 5 _ rfl; (with_reducible repeat (first | refine blk_drewN ?_ _ | refine blk_drew ?_ | refine blk_alloc ?_ _)); refine blk_put (cs := #[.slice Ao97 t734.length co97, .int .i64 t737, .slice Ao99 t738.length co99, .int .i64 t741, .int .i64 x672004_1, .slice Ao95 x672005_1.length co95]) ?_ 4 _ rfl; (with_reducible repeat (first | refine blk_drewN ?_ _ | refine blk_drew ?_ | refine blk_alloc ?_ _)); refine blk_put (cs := #[.slice Ao97 t734.length co97, .int .i64 t737, .slice Ao99 t738.length co99, .int .i64 x672003_1, .int .i64 x672004_1, .slice Ao95 x672005_1.length co95]) ?_ 3 _ rfl; (with_reducible repeat (first | refine blk_drewN ?_ _ | refine blk_drew ?_ | refine blk_alloc ?_ _)); refine blk_put (cs := #[.slice Ao97 t734.length co97, .int .i64 t737, .slice Ao94 x672002_1.length co94, .int .i64 x672003_1, .int .i64 x672004_1, .slice Ao95 x672005_1.length co95]) ?_ 2 _ rfl; (with_reducible repeat (first | refine blk_drewN ?_ _ | refine blk_drew ?_ | refine blk_alloc ?_ _)); refine blk_put (cs := #[.slice Ao97 t734.length co97, .int .i64 x672001_1, .slice Ao94 x672002_1.length co94, .int .i64 x672003_1, .int .i64 x672004_1, .slice Ao95 x672005_1.length co95]) ?_ 1 _ rfl; (with_reducible repeat (first | refine blk_drewN ?_ _ | refine blk_drew ?_ | refine blk_alloc ?_ _)); refine blk_put (cs := #[.slice Ao93 x672000_1.length co93, .int .i64 x672001_1, .slice Ao94 x672002_1.length co94, .int .i64 x672003_1, .int .i64 x672004_1, .slice Ao95 x672005_1.length co95]) ?_ 0 _ rfl; (with_reducible repeat (first | refine blk_drewN ?_ _ | refine blk_drew ?_ | refine blk_alloc ?_ _)); exact BK671.out⟩, ⟨oI105 HI0⟩, ⟨oKe HK⟩, ⟨oB105 HB⟩⟩
   ·rw [if_neg c19] at H
    have c19b0 : decide (x6_1 < t672) = false := decide_eq_false c19
    clear c19
    simp only [Option.some.injEq, Prod.mk.injEq] at H
    obtain ⟨rfl, rfl, rfl, rfl, rfl, rfl, rfl, rfl⟩ := H
    have hnb101 := NB671_649.out
    have hnc101 := NB649_671.out
    have hnb102 := NB671_0.out
    have hnc102 := NB0_671.out
    have hcz103_0 := cz BK671 0
    have hcz103_1 := cz BK671 1
    have hcz103_2 := cz BK671 2
    have hcz103_3 := cz BK671 3
    have hcz103_4 := cz BK671 4
    have hcz103_5 := cz BK671 5
    have hfz103_0 := blk_frozen BK671.out 0
    have hfz103_1 := blk_frozen BK671.out 1
    have hfz103_2 := blk_frozen BK671.out 2
    have hfz103_3 := blk_frozen BK671.out 3
    have hfz103_4 := blk_frozen BK671.out 4
    have hfz103_5 := blk_frozen BK671.out 5
    obtain ⟨Ao104, co104, eo104⟩ := Kd.R_slice HO_672000.out
    subst eo104
    have hnb105 := NB649_0.out
    have hnc105 := NB0_649.out
    have hcz106_0 := cz BK649 0
    have hcz106_1 := cz BK649 1
    have hcz106_2 := cz BK649 2
    have hcz106_3 := cz BK649 3
    have hcz106_4 := cz BK649 4
    have hcz106_5 := cz BK649 5
    have hfz106_0 := blk_frozen BK649.out 0
    have hfz106_1 := blk_frozen BK649.out 1
    have hfz106_2 := blk_frozen BK649.out 2
    have hfz106_3 := blk_frozen BK649.out 3
    have hfz106_4 := blk_frozen BK649.out 4
    have hfz106_5 := blk_frozen BK649.out 5
    obtain ⟨Ao107, co107, eo107⟩ := Kd.R_slice HO_672002.out
    subst eo107
    obtain ⟨Ao108, co108, eo108⟩ := Kd.R_slice HO_672005.out
    subst eo108
    go_wp2
    refine bodyPost_ret (results_cell_row rfl _ _ gb649 44 #[.slice Ao104 x672000_1.length co104, .int .i64 x672001_1, .slice Ao107 x672002_1.length co107, .int .i64 x672003_1, .int .i64 x672004_1, .slice Ao108 x672005_1.length co108] (0, 0) _ rfl (by (with_reducible repeat (first | refine blk_drewN ?_ _ | refine blk_drew ?_ | refine blk_alloc ?_ _)); refine blk_put (cs := #[.slice Ao104 x672000_1.length co104, .int .i64 x672001_1, .slice Ao107 x672002_1.length co107, .int .i64 x672003_1, .int .i64 x672004_1, .slice none 0 0]) ?_ 5 _ rfl; (with_reducible repeat (first | refine blk_drewN ?_ _ | refine blk_drew ?_ | refine blk_alloc ?_ _)); refine blk_put (cs := #[.slice Ao104 x672000_1.length co104, .int .i64 x672001_1, .slice Ao107 x672002_1.length co107, .int .i64 x672003_1, .int .i64 0, .slice none 0 0]) ?_ 4 _ rfl; (with_reducible repeat (first | refine blk_drewN ?_ _ | refine blk_drew ?_ | refine blk_alloc ?_ _)); refine blk_put (cs := #[.slice Ao104 x672000_1.length co104, .int .i64 x672001_1, .slice Ao107 x672002_1.length co107, .int .i64 0, .int .i64 0, .slice none 0 0]) ?_ 3 _ rfl; (with_reducible repeat (first | refine blk_drewN ?_ _ | refine blk_drew ?_ | refine blk_alloc ?_ _)); refine blk_put (cs := #[.slice Ao104 x672000_1.length co104, .int .i64 x672001_1, .slice none 0 0, .int .i64 0, .int .i64 0, .slice none 0 0]) ?_ 2 _ rfl; (with_reducible repeat (first | refine blk_drewN ?_ _ | refine blk_drew ?_ | refine blk_alloc ?_ _)); refine blk_put (cs := #[.slice Ao104 x672000_1.length co104, .int .i64 0, .slice none 0 0, .int .i64 0, .int .i64 0, .slice none 0 0]) ?_ 1 _ rfl; (with_reducible repeat (first | refine blk_drewN ?_ _ | refine blk_drew ?_ | refine blk_alloc ?_ _)); refine blk_put (cs := #[.slice none 0 0, .int .i64 0, .slice none 0 0, .int .i64 0, .int .i64 0, .slice none 0 0]) ?_ 0 _ rfl; (with_reducible repeat (first | refine blk_drewN ?_ _ | refine blk_drew ?_ | refine blk_alloc ?_ _)); exact BK649.out) Tryd.underlying44 rfl (by kernel_rfl)) rfl ?_
    exact ⟨_, _, _, eR, by (with_reducible repeat (first | apply Kd.R_alloc | apply Kd.R_drewN | apply Kd.R_drew)); exact Kd.R_mono (Kd.R_far (p := ⟨gb649, 5, none⟩) (Kd.R_far (p := ⟨gb649, 4, none⟩) (Kd.R_far (p := ⟨gb649, 3, none⟩) (Kd.R_far (p := ⟨gb649, 2, none⟩) (Kd.R_far (p := ⟨gb649, 1, none⟩) (Kd.R_far (p := ⟨gb649, 0, none⟩) (Kd.R_types HO_672000.out BK649.out (by decide)) (fun _ hk => hk.2) (.slice Ao104 x672000_1.length co104)) (fun _ hk => hk.2) (.int .i64 x672001_1)) (fun _ hk => hk.2) (.slice Ao107 x672002_1.length co107)) (fun _ hk => hk.2) (.int .i64 x672003_1)) (fun _ hk => hk.2) (.int .i64 x672004_1)) (fun _ hk => hk.2) (.slice Ao108 x672005_1.length co108)) (fun _ hk => trivial), by (with_reducible repeat (first | apply Kd.R_alloc | apply Kd.R_drewN | apply Kd.R_drew)); exact Kd.R_mono (Kd.R_far (p := ⟨gb649, 5, none⟩) (Kd.R_far (p := ⟨gb649, 4, none⟩) (Kd.R_far (p := ⟨gb649, 3, none⟩) (Kd.R_far (p := ⟨gb649, 2, none⟩) (Kd.R_far (p := ⟨gb649, 1, none⟩) (Kd.R_far (p := ⟨gb649, 0, none⟩) (Kd.R_types HO_672002.out BK649.out (by decide)) (fun _ hk => hk.2) (.slice Ao104 x672000_1.length co104)) (fun _ hk => hk.2) (.int .i64 x672001_1)) (fun _ hk => hk.2) (.slice Ao107 x672002_1.length co107)) (fun _ hk => hk.2) (.int .i64 x672003_1)) (fun _ hk => hk.2) (.int .i64 x672004_1)) (fun _ hk => hk.2) (.slice Ao108 x672005_1.length co108)) (fun _ hk => trivial), by (with_reducible repeat (first | apply Kd.R_alloc | apply Kd.R_drewN | apply Kd.R_drew)); exact Kd.R_mono (Kd.R_far (p := ⟨gb649, 5, none⟩) (Kd.R_far (p := ⟨gb649, 4, none⟩) (Kd.R_far (p := ⟨gb649, 3, none⟩) (Kd.R_far (p := ⟨gb649, 2, none⟩) (Kd.R_far (p := ⟨gb649, 1, none⟩) (Kd.R_far (p := ⟨gb649, 0, none⟩) (Kd.R_types HO_672005.out BK649.out (by decide)) (fun _ hk => hk.2) (.slice Ao104 x672000_1.length co104)) (fun _ hk => hk.2) (.int .i64 x672001_1)) (fun _ hk => hk.2) (.slice Ao107 x672002_1.length co107)) (fun _ hk => hk.2) (.int .i64 x672003_1)) (fun _ hk => hk.2) (.int .i64 x672004_1)) (fun _ hk => hk.2) (.slice Ao108 x672005_1.length co108)) (fun _ hk => trivial), oI105 HI0, oB105 HB, oKe HK⟩
end Go.Proofs.YtojiighpkppckaaDoor.P


namespace Go.Proofs.YtojiighpkppckaaDoor.P
open Go.RowKit Go.Proofs.YtojiighpkppckaaDoorW.PrintWords Go.Proofs.YtojiighpkppckaaDoorW.PrintLast Go.Proofs.YtojiighpkppckaaDoorW.PrintMore
attribute [local go_sem] max2_int min2_int max_two min_two max_three min_three max_four min_four
set_option linter.unusedVariables false
set_option linter.unusedSimpArgs false
def spec_l39Shop.f (k : Nat) (s0_0 : List Int) (s0_1 : Int) (s0_2 : Int) : Option ((List (S145)) × Int × List Int × Int × Int × (List (S85)) × Int × Int) := (spec_l01Once.f s0_0 s0_1 s0_2 2).bind fun bt748 => (if bt748.1 = true then ((spec_SampleShop.f k).bind fun bt751 => (some (bt751.1, bt751.2.1, bt751.2.2.1, bt751.2.2.2.1, bt751.2.2.2.2.1, bt751.2.2.2.2.2, bt748.2.1, bt748.2.2))) else ((spec_l38Shop.f k s0_0 bt748.2.1 bt748.2.2).bind fun bt763 => (some (bt763.1, bt763.2.1, bt763.2.2.1, bt763.2.2.2.1, bt763.2.2.2.2.1, bt763.2.2.2.2.2.1, bt763.2.2.2.2.2.2.1, bt763.2.2.2.2.2.2.2))))
set_option maxHeartbeats 8000000 in
set_option maxRecDepth 100000 in
theorem spec_l39Shop.calls (k : Nat) (g : Nat) (s0_0 : List Int) (s0_1 : Int) (s0_2 : Int) (r1 : List (S145)) (r2 : Int) (r3 : List Int) (r4 : Int) (r5 : Int) (r6 : List (S85)) (r7 : Int) (r8 : Int) (w0 w : World) (hI : IsS105 w0 w g s0_0 s0_1 s0_2) (hB : Below w0.heap.size w0 w) (h : spec_l39Shop.f k s0_0 s0_1 s0_2 = some (r1, r2, r3, r4, r5, r6, r7, r8)) :
  Calls Tryd.prog 38 #[.pointer (some ⟨g, 0, none⟩)] w fun e w' => ∃ v0_ v2_ v5_ : Value, e = .returned (.agg #[v0_, .int .i64 r2, v2_, .int .i64 r4, .int .i64 r5, v5_]) ∧ Kd.R k145 145 w' w.heap.size (fun _ => True) v0_ r1 ∧ Kd.R (Kd.int .i64) 3 w' w.heap.size (fun _ => True) v2_ r3 ∧ Kd.R k85 85 w' w.heap.size (fun _ => True) v5_ r6 ∧ IsS105 w0 w' g s0_0 r7 r8 ∧ Below w0.heap.size w0 w' ∧ KeepBut w w' g none := by
 have hu44 := Tryd.underlying44
 have HI0 := A_ hI
 have HK := A_ (KeepBut.refl w g none)
 have HL := A_ hB.size
 clear hI
 have HW0 := A_ hB.size
 have HB := A_ hB
 clear hB
 have H : ((spec_l01Once.f s0_0 s0_1 s0_2 2).bind fun bt748 => (if bt748.1 = true then ((spec_SampleShop.f k).bind fun bt751 => (some (bt751.1, bt751.2.1, bt751.2.2.1, bt751.2.2.2.1, bt751.2.2.2.2.1, bt751.2.2.2.2.2, bt748.2.1, bt748.2.2))) else ((spec_l38Shop.f k s0_0 bt748.2.1 bt748.2.2).bind fun bt763 => (some (bt763.1, bt763.2.1, bt763.2.2.1, bt763.2.2.2.1, bt763.2.2.2.2.1, bt763.2.2.2.2.2.1, bt763.2.2.2.2.2.2.1, bt763.2.2.2.2.2.2.2))))) = some (r1, r2, r3, r4, r5, r6, r7, r8) := h
 clear h
 replace H := Option.bind_eq_some_iff.mp H
 obtain ⟨⟨t748, t749, t750⟩, A20, H⟩ := H
 (try dsimp only at H)
 have A2 := A_ A20
 clear A20
 by_cases c3 : t748 = true
 ·subst c3
  rw [if_pos rfl] at H
  replace H := Option.bind_eq_some_iff.mp H
  obtain ⟨⟨t751, t754, t755, t758, t759, t760⟩, A40, H⟩ := H
  (try dsimp only at H)
  have A4 := A_ A40
  clear A40
  simp only [Option.some.injEq, Prod.mk.injEq] at H
  obtain ⟨rfl, rfl, rfl, rfl, rfl, rfl, rfl, rfl⟩ := H
  go_enter Tryd.func38, Tryd.ntmps38
  go_wp2_with (first | ((with_reducible refine gate_dst (N := 2) rfl ?_); refine bX (N := 2) (cs := #[.slice none 0 0, .int .i64 0, .slice none 0 0, .int .i64 0, .int .i64 0, .slice none 0 0]) (t := 44) ?_; intro gb747 hg w5 hbox hb; have n0_ := A_ (IsS105.below (oI105 HI0) hb); have n1_ := A_ (KeepBut.trans (oKe HK) (KeepBut.of_below hb g none) (.inl rfl)); have n2_ := A_ (below_step (oB105 HB) hb); have n3_ := A_ (hbox); have n4_ := A_ ((by rw [hg]; exact (keep_size (w := w) (g := g) (row := none) (by repeat (first | (with_reducible first | exact HK.out | apply KeepBut.set_ | apply keep_drewN | apply keep_drew | apply keep_alloc) | exact HK.out))) : w.heap.size ≤ gb747)); have n5_ := A_ ((Nat.le_trans HW0.out (by rw [hg]; exact (keep_size (w := w) (g := g) (row := none) (by repeat (first | (with_reducible first | exact HK.out | apply KeepBut.set_ | apply keep_drewN | apply keep_drew | apply keep_alloc) | exact HK.out))) : w.heap.size ≤ gb747) : w0.heap.size ≤ gb747)); have n6_ := A_ ((by rw [hg]; exact Nat.ne_of_lt (IsS105.lt (show IsS105 w0 _ g s0_0 s0_1 s0_2 from oI105 HI0)) : g ≠ gb747)); have n7_ := A_ ((by rw [hg]; exact Nat.ne_of_gt (IsS105.lt (show IsS105 w0 _ g s0_0 s0_1 s0_2 from oI105 HI0)) : gb747 ≠ g)); clear HI0; clear HK; clear HB; have HI0 := n0_; have HK := n1_; have HB := n2_; have BK747 := n3_; have GW747 := n4_; have GE747 := n5_; have NB0_747 := n6_; have NB747_0 := n7_; clear n0_ n1_ n2_ n3_ n4_ n5_ n6_ n7_; clear hb hbox hg) | ((with_reducible refine gate_callee (f := 63) rfl ?_); refine gL (some 4) Tryd.func63 #[.pointer (some ⟨g, 0, none⟩), .int .i64 2] ?_; (with_reducible refine (spec_l01Once.calls g s0_0 s0_1 s0_2 2 true t749 t750 w0 _ ?side1 ?side2 A2.out).mono ?_); (case side1 => exact oI105 HI0); (case side2 => exact oB105 HB); rintro e w6 ⟨rfl, hi, hb, hk⟩; refine ⟨_, rfl, ?_⟩; have n0_ := A_ (KeepBut.blk hk (g' := gb747) (o := .cells #[.slice none 0 0, .int .i64 0, .slice none 0 0, .int .i64 0, .int .i64 0, .slice none 0 0] 44 (0, 0)) (oK BK747) NB747_0.out (by simp)); have n1_ := A_ (KeepBut.trans (oKe HK) hk (.inl rfl)); have n2_ := A_ (hb); have n3_ := A_ (hi); clear BK747; clear HK; clear HB; clear HI0; have BK747 := n0_; have HK := n1_; have HB := n2_; have HI0 := n3_; clear n0_ n1_ n2_ n3_; (try clear hb); (try clear hb2); (try clear hk); (try clear hi)) | ((with_reducible refine gate_callee (f := 64) rfl ?_); refine gL (some 5) Tryd.func64 #[] ?_; (with_reducible refine (spec_SampleShop.calls k  t751 t754 t755 t758 t759 t760 _ A4.out).mono ?_); rintro e w7 ⟨v752, v756, v761, rfl, ho0, ho1, ho2, hb⟩; refine ⟨_, rfl, ?_⟩; have n0_ := A_ (Kd.R_lower ho0 (keep_size (w := w) (g := g) (row := none) (by repeat (first | (with_reducible first | exact HK.out | apply KeepBut.set_ | apply keep_drewN | apply keep_drew | apply keep_alloc | refine keep_far ?_ GW747.out _) | exact HK.out)))); have n1_ := A_ (Kd.R_lower ho1 (keep_size (w := w) (g := g) (row := none) (by repeat (first | (with_reducible first | exact HK.out | apply KeepBut.set_ | apply keep_drewN | apply keep_drew | apply keep_alloc | refine keep_far ?_ GW747.out _) | exact HK.out)))); have n2_ := A_ (Kd.R_lower ho2 (keep_size (w := w) (g := g) (row := none) (by repeat (first | (with_reducible first | exact HK.out | apply KeepBut.set_ | apply keep_drewN | apply keep_drew | apply keep_alloc | refine keep_far ?_ GW747.out _) | exact HK.out)))); have n3_ := A_ (IsS105.below (oI105 HI0) hb); have n4_ := A_ (bb BK747 hb); have n5_ := A_ (KeepBut.trans (oKe HK) (KeepBut.of_below hb g none) (.inl rfl)); have n6_ := A_ (below_step (oB105 HB) hb); clear HI0; clear BK747; clear HK; clear HB; have HO753 := n0_; have HO757 := n1_; have HO762 := n2_; have HI0 := n3_; have BK747 := n4_; have HK := n5_; have HB := n6_; clear n0_ n1_ n2_ n3_ n4_ n5_ n6_; (try clear hb); (try clear hb2); (try clear hk); (try clear hi); (try clear ho0); (try clear ho1); (try clear ho2); obtain ⟨Ao8, co8, eo8⟩ := Kd.R_slice HO753.out; subst eo8; have hnb9 := NB747_0.out; have hnc9 := NB0_747.out; have hcz10_0 := cz BK747 0; have hcz10_1 := cz BK747 1; have hcz10_2 := cz BK747 2; have hcz10_3 := cz BK747 3; have hcz10_4 := cz BK747 4; have hcz10_5 := cz BK747 5; have hfz10_0 := blk_frozen BK747.out 0; have hfz10_1 := blk_frozen BK747.out 1; have hfz10_2 := blk_frozen BK747.out 2; have hfz10_3 := blk_frozen BK747.out 3; have hfz10_4 := blk_frozen BK747.out 4; have hfz10_5 := blk_frozen BK747.out 5; obtain ⟨Ao11, co11, eo11⟩ := Kd.R_slice HO757.out; subst eo11; obtain ⟨Ao12, co12, eo12⟩ := Kd.R_slice HO762.out; subst eo12))
  refine bodyPost_ret (results_cell_row rfl _ _ gb747 44 #[.slice Ao8 t751.length co8, .int .i64 t754, .slice Ao11 t755.length co11, .int .i64 t758, .int .i64 t759, .slice Ao12 t760.length co12] (0, 0) _ rfl (by (with_reducible repeat (first | refine blk_drewN ?_ _ | refine blk_drew ?_ | refine blk_alloc ?_ _)); refine blk_put (cs := #[.slice Ao8 t751.length co8, .int .i64 t754, .slice Ao11 t755.length co11, .int .i64 t758, .int .i64 t759, .slice none 0 0]) ?_ 5 _ rfl; (with_reducible repeat (first | refine blk_drewN ?_ _ | refine blk_drew ?_ | refine blk_alloc ?_ _)); refine blk_put (cs := #[.slice Ao8 t751.length co8, .int .i64 t754, .slice Ao11 t755.length co11, .int .i64 t758, .int .i64 0, .slice none 0 0]) ?_ 4 _ rfl; (with_reducible repeat (first | refine blk_drewN ?_ _ | refine blk_drew ?_ | refine blk_alloc ?_ _)); refine blk_put (cs := #[.slice Ao8 t751.length co8, .int .i64 t754, .slice Ao11 t755.length co11, .int .i64 0, .int .i64 0, .slice none 0 0]) ?_ 3 _ rfl; (with_reducible repeat (first | refine blk_drewN ?_ _ | refine blk_drew ?_ | refine blk_alloc ?_ _)); refine blk_put (cs := #[.slice Ao8 t751.length co8, .int .i64 t754, .slice none 0 0, .int .i64 0, .int .i64 0, .slice none 0 0]) ?_ 2 _ rfl; (with_reducible repeat (first | refine blk_drewN ?_ _ | refine blk_drew ?_ | refine blk_alloc ?_ _)); refine blk_put (cs := #[.slice Ao8 t751.length co8, .int .i64 0, .slice none 0 0, .int .i64 0, .int .i64 0, .slice none 0 0]) ?_ 1 _ rfl; (with_reducible repeat (first | refine blk_drewN ?_ _ | refine blk_drew ?_ | refine blk_alloc ?_ _)); refine blk_put (cs := #[.slice none 0 0, .int .i64 0, .slice none 0 0, .int .i64 0, .int .i64 0, .slice none 0 0]) ?_ 0 _ rfl; (with_reducible repeat (first | refine blk_drewN ?_ _ | refine blk_drew ?_ | refine blk_alloc ?_ _)); exact BK747.out) Tryd.underlying44 rfl (by kernel_rfl)) rfl ?_
  exact ⟨_, _, _, eR, by (with_reducible repeat (first | apply Kd.R_alloc | apply Kd.R_drewN | apply Kd.R_drew)); exact Kd.R_mono (Kd.R_far (p := ⟨gb747, 5, none⟩) (Kd.R_far (p := ⟨gb747, 4, none⟩) (Kd.R_far (p := ⟨gb747, 3, none⟩) (Kd.R_far (p := ⟨gb747, 2, none⟩) (Kd.R_far (p := ⟨gb747, 1, none⟩) (Kd.R_far (p := ⟨gb747, 0, none⟩) (Kd.R_types HO753.out BK747.out (by decide)) (fun _ hk => hk.2) (.slice Ao8 t751.length co8)) (fun _ hk => hk.2) (.int .i64 t754)) (fun _ hk => hk.2) (.slice Ao11 t755.length co11)) (fun _ hk => hk.2) (.int .i64 t758)) (fun _ hk => hk.2) (.int .i64 t759)) (fun _ hk => hk.2) (.slice Ao12 t760.length co12)) (fun _ hk => trivial), by (with_reducible repeat (first | apply Kd.R_alloc | apply Kd.R_drewN | apply Kd.R_drew)); exact Kd.R_mono (Kd.R_far (p := ⟨gb747, 5, none⟩) (Kd.R_far (p := ⟨gb747, 4, none⟩) (Kd.R_far (p := ⟨gb747, 3, none⟩) (Kd.R_far (p := ⟨gb747, 2, none⟩) (Kd.R_far (p := ⟨gb747, 1, none⟩) (Kd.R_far (p := ⟨gb747, 0, none⟩) (Kd.R_types HO757.out BK747.out (by decide)) (fun _ hk => hk.2) (.slice Ao8 t751.length co8)) (fun _ hk => hk.2) (.int .i64 t754)) (fun _ hk => hk.2) (.slice Ao11 t755.length co11)) (fun _ hk => hk.2) (.int .i64 t758)) (fun _ hk => hk.2) (.int .i64 t759)) (fun _ hk => hk.2) (.slice Ao12 t760.length co12)) (fun _ hk => trivial), by (with_reducible repeat (first | apply Kd.R_alloc | apply Kd.R_drewN | apply Kd.R_drew)); exact Kd.R_mono (Kd.R_far (p := ⟨gb747, 5, none⟩) (Kd.R_far (p := ⟨gb747, 4, none⟩) (Kd.R_far (p := ⟨gb747, 3, none⟩) (Kd.R_far (p := ⟨gb747, 2, none⟩) (Kd.R_far (p := ⟨gb747, 1, none⟩) (Kd.R_far (p := ⟨gb747, 0, none⟩) (Kd.R_types HO762.out BK747.out (by decide)) (fun _ hk => hk.2) (.slice Ao8 t751.length co8)) (fun _ hk => hk.2) (.int .i64 t754)) (fun _ hk => hk.2) (.slice Ao11 t755.length co11)) (fun _ hk => hk.2) (.int .i64 t758)) (fun _ hk => hk.2) (.int .i64 t759)) (fun _ hk => hk.2) (.slice Ao12 t760.length co12)) (fun _ hk => trivial), oI105 HI0, oB105 HB, oKe HK⟩
 ·replace c3 := Bool.eq_false_iff.mpr c3
  subst c3
  rw [if_neg (show ¬ (false = true) by decide)] at H
  replace H := Option.bind_eq_some_iff.mp H
  obtain ⟨⟨t763, t766, t767, t770, t771, t772, t775, t776⟩, A130, H⟩ := H
  (try dsimp only at H)
  have A13 := A_ A130
  clear A130
  simp only [Option.some.injEq, Prod.mk.injEq] at H
  obtain ⟨rfl, rfl, rfl, rfl, rfl, rfl, rfl, rfl⟩ := H
  go_enter Tryd.func38, Tryd.ntmps38
  go_wp2_with (first | ((with_reducible refine gate_dst (N := 2) rfl ?_); refine bX (N := 2) (cs := #[.slice none 0 0, .int .i64 0, .slice none 0 0, .int .i64 0, .int .i64 0, .slice none 0 0]) (t := 44) ?_; intro gb747 hg w14 hbox hb; have n0_ := A_ (IsS105.below (oI105 HI0) hb); have n1_ := A_ (KeepBut.trans (oKe HK) (KeepBut.of_below hb g none) (.inl rfl)); have n2_ := A_ (below_step (oB105 HB) hb); have n3_ := A_ (hbox); have n4_ := A_ ((by rw [hg]; exact (keep_size (w := w) (g := g) (row := none) (by repeat (first | (with_reducible first | exact HK.out | apply KeepBut.set_ | apply keep_drewN | apply keep_drew | apply keep_alloc) | exact HK.out))) : w.heap.size ≤ gb747)); have n5_ := A_ ((Nat.le_trans HW0.out (by rw [hg]; exact (keep_size (w := w) (g := g) (row := none) (by repeat (first | (with_reducible first | exact HK.out | apply KeepBut.set_ | apply keep_drewN | apply keep_drew | apply keep_alloc) | exact HK.out))) : w.heap.size ≤ gb747) : w0.heap.size ≤ gb747)); have n6_ := A_ ((by rw [hg]; exact Nat.ne_of_lt (IsS105.lt (show IsS105 w0 _ g s0_0 s0_1 s0_2 from oI105 HI0)) : g ≠ gb747)); have n7_ := A_ ((by rw [hg]; exact Nat.ne_of_gt (IsS105.lt (show IsS105 w0 _ g s0_0 s0_1 s0_2 from oI105 HI0)) : gb747 ≠ g)); clear HI0; clear HK; clear HB; have HI0 := n0_; have HK := n1_; have HB := n2_; have BK747 := n3_; have GW747 := n4_; have GE747 := n5_; have NB0_747 := n6_; have NB747_0 := n7_; clear n0_ n1_ n2_ n3_ n4_ n5_ n6_ n7_; clear hb hbox hg) | ((with_reducible refine gate_callee (f := 63) rfl ?_); refine gL (some 4) Tryd.func63 #[.pointer (some ⟨g, 0, none⟩), .int .i64 2] ?_; (with_reducible refine (spec_l01Once.calls g s0_0 s0_1 s0_2 2 false t749 t750 w0 _ ?side1 ?side2 A2.out).mono ?_); (case side1 => exact oI105 HI0); (case side2 => exact oB105 HB); rintro e w15 ⟨rfl, hi, hb, hk⟩; refine ⟨_, rfl, ?_⟩; have n0_ := A_ (KeepBut.blk hk (g' := gb747) (o := .cells #[.slice none 0 0, .int .i64 0, .slice none 0 0, .int .i64 0, .int .i64 0, .slice none 0 0] 44 (0, 0)) (oK BK747) NB747_0.out (by simp)); have n1_ := A_ (KeepBut.trans (oKe HK) hk (.inl rfl)); have n2_ := A_ (hb); have n3_ := A_ (hi); clear BK747; clear HK; clear HB; clear HI0; have BK747 := n0_; have HK := n1_; have HB := n2_; have HI0 := n3_; clear n0_ n1_ n2_ n3_; (try clear hb); (try clear hb2); (try clear hk); (try clear hi)) | ((with_reducible refine gate_callee (f := 65) rfl ?_); refine gL (some 7) Tryd.func65 #[.pointer (some ⟨g, 0, none⟩)] ?_; (with_reducible refine (spec_l38Shop.calls k g s0_0 t749 t750 t763 t766 t767 t770 t771 t772 t775 t776 w0 _ ?side1 ?side2 A13.out).mono ?_); (case side1 => exact oI105 HI0); (case side2 => exact oB105 HB); rintro e w16 ⟨v764, v768, v773, rfl, ho0, ho1, ho2, hi, hb, hk⟩; refine ⟨_, rfl, ?_⟩; have n0_ := A_ (KeepBut.blk hk (g' := gb747) (o := .cells #[.slice none 0 0, .int .i64 0, .slice none 0 0, .int .i64 0, .int .i64 0, .slice none 0 0] 44 (0, 0)) (oK BK747) NB747_0.out (by simp)); have n1_ := A_ (Kd.R_lower ho0 (keep_size (w := w) (g := g) (row := none) (by repeat (first | (with_reducible first | exact HK.out | apply KeepBut.set_ | apply keep_drewN | apply keep_drew | apply keep_alloc | refine keep_far ?_ GW747.out _) | exact HK.out)))); have n2_ := A_ (Kd.R_lower ho1 (keep_size (w := w) (g := g) (row := none) (by repeat (first | (with_reducible first | exact HK.out | apply KeepBut.set_ | apply keep_drewN | apply keep_drew | apply keep_alloc | refine keep_far ?_ GW747.out _) | exact HK.out)))); have n3_ := A_ (Kd.R_lower ho2 (keep_size (w := w) (g := g) (row := none) (by repeat (first | (with_reducible first | exact HK.out | apply KeepBut.set_ | apply keep_drewN | apply keep_drew | apply keep_alloc | refine keep_far ?_ GW747.out _) | exact HK.out)))); have n4_ := A_ (KeepBut.trans (oKe HK) hk (.inl rfl)); have n5_ := A_ (hb); have n6_ := A_ (hi); clear BK747; clear HK; clear HB; clear HI0; have BK747 := n0_; have HO765 := n1_; have HO769 := n2_; have HO774 := n3_; have HK := n4_; have HB := n5_; have HI0 := n6_; clear n0_ n1_ n2_ n3_ n4_ n5_ n6_; (try clear hb); (try clear hb2); (try clear hk); (try clear hi); (try clear ho0); (try clear ho1); (try clear ho2); obtain ⟨Ao17, co17, eo17⟩ := Kd.R_slice HO765.out; subst eo17; have hnb18 := NB747_0.out; have hnc18 := NB0_747.out; have hcz19_0 := cz BK747 0; have hcz19_1 := cz BK747 1; have hcz19_2 := cz BK747 2; have hcz19_3 := cz BK747 3; have hcz19_4 := cz BK747 4; have hcz19_5 := cz BK747 5; have hfz19_0 := blk_frozen BK747.out 0; have hfz19_1 := blk_frozen BK747.out 1; have hfz19_2 := blk_frozen BK747.out 2; have hfz19_3 := blk_frozen BK747.out 3; have hfz19_4 := blk_frozen BK747.out 4; have hfz19_5 := blk_frozen BK747.out 5; obtain ⟨Ao20, co20, eo20⟩ := Kd.R_slice HO769.out; subst eo20; obtain ⟨Ao21, co21, eo21⟩ := Kd.R_slice HO774.out; subst eo21))
  refine bodyPost_ret (results_cell_row rfl _ _ gb747 44 #[.slice Ao17 t763.length co17, .int .i64 t766, .slice Ao20 t767.length co20, .int .i64 t770, .int .i64 t771, .slice Ao21 t772.length co21] (0, 0) _ rfl (by (with_reducible repeat (first | refine blk_drewN ?_ _ | refine blk_drew ?_ | refine blk_alloc ?_ _)); refine blk_put (cs := #[.slice Ao17 t763.length co17, .int .i64 t766, .slice Ao20 t767.length co20, .int .i64 t770, .int .i64 t771, .slice none 0 0]) ?_ 5 _ rfl; (with_reducible repeat (first | refine blk_drewN ?_ _ | refine blk_drew ?_ | refine blk_alloc ?_ _)); refine blk_put (cs := #[.slice Ao17 t763.length co17, .int .i64 t766, .slice Ao20 t767.length co20, .int .i64 t770, .int .i64 0, .slice none 0 0]) ?_ 4 _ rfl; (with_reducible repeat (first | refine blk_drewN ?_ _ | refine blk_drew ?_ | refine blk_alloc ?_ _)); refine blk_put (cs := #[.slice Ao17 t763.length co17, .int .i64 t766, .slice Ao20 t767.length co20, .int .i64 0, .int .i64 0, .slice none 0 0]) ?_ 3 _ rfl; (with_reducible repeat (first | refine blk_drewN ?_ _ | refine blk_drew ?_ | refine blk_alloc ?_ _)); refine blk_put (cs := #[.slice Ao17 t763.length co17, .int .i64 t766, .slice none 0 0, .int .i64 0, .int .i64 0, .slice none 0 0]) ?_ 2 _ rfl; (with_reducible repeat (first | refine blk_drewN ?_ _ | refine blk_drew ?_ | refine blk_alloc ?_ _)); refine blk_put (cs := #[.slice Ao17 t763.length co17, .int .i64 0, .slice none 0 0, .int .i64 0, .int .i64 0, .slice none 0 0]) ?_ 1 _ rfl; (with_reducible repeat (first | refine blk_drewN ?_ _ | refine blk_drew ?_ | refine blk_alloc ?_ _)); refine blk_put (cs := #[.slice none 0 0, .int .i64 0, .slice none 0 0, .int .i64 0, .int .i64 0, .slice none 0 0]) ?_ 0 _ rfl; (with_reducible repeat (first | refine blk_drewN ?_ _ | refine blk_drew ?_ | refine blk_alloc ?_ _)); exact BK747.out) Tryd.underlying44 rfl (by kernel_rfl)) rfl ?_
  exact ⟨_, _, _, eR, by (with_reducible repeat (first | apply Kd.R_alloc | apply Kd.R_drewN | apply Kd.R_drew)); exact Kd.R_mono (Kd.R_far (p := ⟨gb747, 5, none⟩) (Kd.R_far (p := ⟨gb747, 4, none⟩) (Kd.R_far (p := ⟨gb747, 3, none⟩) (Kd.R_far (p := ⟨gb747, 2, none⟩) (Kd.R_far (p := ⟨gb747, 1, none⟩) (Kd.R_far (p := ⟨gb747, 0, none⟩) (Kd.R_types HO765.out BK747.out (by decide)) (fun _ hk => hk.2) (.slice Ao17 t763.length co17)) (fun _ hk => hk.2) (.int .i64 t766)) (fun _ hk => hk.2) (.slice Ao20 t767.length co20)) (fun _ hk => hk.2) (.int .i64 t770)) (fun _ hk => hk.2) (.int .i64 t771)) (fun _ hk => hk.2) (.slice Ao21 t772.length co21)) (fun _ hk => trivial), by (with_reducible repeat (first | apply Kd.R_alloc | apply Kd.R_drewN | apply Kd.R_drew)); exact Kd.R_mono (Kd.R_far (p := ⟨gb747, 5, none⟩) (Kd.R_far (p := ⟨gb747, 4, none⟩) (Kd.R_far (p := ⟨gb747, 3, none⟩) (Kd.R_far (p := ⟨gb747, 2, none⟩) (Kd.R_far (p := ⟨gb747, 1, none⟩) (Kd.R_far (p := ⟨gb747, 0, none⟩) (Kd.R_types HO769.out BK747.out (by decide)) (fun _ hk => hk.2) (.slice Ao17 t763.length co17)) (fun _ hk => hk.2) (.int .i64 t766)) (fun _ hk => hk.2) (.slice Ao20 t767.length co20)) (fun _ hk => hk.2) (.int .i64 t770)) (fun _ hk => hk.2) (.int .i64 t771)) (fun _ hk => hk.2) (.slice Ao21 t772.length co21)) (fun _ hk => trivial), by (with_reducible repeat (first | apply Kd.R_alloc | apply Kd.R_drewN | apply Kd.R_drew)); exact Kd.R_mono (Kd.R_far (p := ⟨gb747, 5, none⟩) (Kd.R_far (p := ⟨gb747, 4, none⟩) (Kd.R_far (p := ⟨gb747, 3, none⟩) (Kd.R_far (p := ⟨gb747, 2, none⟩) (Kd.R_far (p := ⟨gb747, 1, none⟩) (Kd.R_far (p := ⟨gb747, 0, none⟩) (Kd.R_types HO774.out BK747.out (by decide)) (fun _ hk => hk.2) (.slice Ao17 t763.length co17)) (fun _ hk => hk.2) (.int .i64 t766)) (fun _ hk => hk.2) (.slice Ao20 t767.length co20)) (fun _ hk => hk.2) (.int .i64 t770)) (fun _ hk => hk.2) (.int .i64 t771)) (fun _ hk => hk.2) (.slice Ao21 t772.length co21)) (fun _ hk => trivial), oI105 HI0, oB105 HB, oKe HK⟩
end Go.Proofs.YtojiighpkppckaaDoor.P


namespace Go.Proofs.YtojiighpkppckaaDoor.P
open Go.RowKit Go.Proofs.YtojiighpkppckaaDoorW.PrintWords Go.Proofs.YtojiighpkppckaaDoorW.PrintLast Go.Proofs.YtojiighpkppckaaDoorW.PrintMore
attribute [local go_sem] max2_int min2_int max_two min_two max_three min_three max_four min_four
set_option linter.unusedVariables false
set_option linter.unusedSimpArgs false
def spec_l39Act.f (s0_0 : List Int) (s0_1 : Int) (s0_2 : Int) : Option (Int × Int × Int × Int × Int × Int) := (spec_l01Below.f s0_0 s0_1 s0_2 12).bind fun bt778 => (if bt778.1 = 0 then ((spec_l01Below.f s0_0 bt778.2.1 bt778.2.2 40).bind fun bt781 => (some (2, wrap64 (bt781.1 - 5), 0, 0, bt781.2.1, bt781.2.2))) else (if bt778.1 = 1 then ((spec_l01PickInt.f s0_0 bt778.2.1 bt778.2.2 (([0, 0, 1] : List Int))).bind fun bt787 => ((spec_l01Below.f s0_0 bt787.2.1 bt787.2.2 6).bind fun bt790 => ((spec_l01Below.f s0_0 bt790.2.1 bt790.2.2 3).bind fun bt793 => (some (3, bt787.1, bt790.1, bt793.1, bt793.2.1, bt793.2.2))))) else (if bt778.1 = 2 then ((spec_l01Below.f s0_0 bt778.2.1 bt778.2.2 12).bind fun bt796 => ((spec_l01Below.f s0_0 bt796.2.1 bt796.2.2 2001).bind fun bt799 => (some (4, bt796.1, wrap64 (bt799.1 - 1000), 0, bt799.2.1, bt799.2.2)))) else (if bt778.1 = 3 then (some (5, 0, 0, 0, bt778.2.1, bt778.2.2)) else (if bt778.1 = 4 then (some (6, 0, 0, 0, bt778.2.1, bt778.2.2)) else (if bt778.1 = 5 then ((spec_l01Below.f s0_0 bt778.2.1 bt778.2.2 12).bind fun bt802 => (some (7, bt802.1, 0, 0, bt802.2.1, bt802.2.2))) else (some (1, 0, 0, 0, bt778.2.1, bt778.2.2))))))))
set_option maxHeartbeats 8000000 in
set_option maxRecDepth 100000 in
theorem spec_l39Act.calls (g : Nat) (s0_0 : List Int) (s0_1 : Int) (s0_2 : Int) (r1 : Int) (r2 : Int) (r3 : Int) (r4 : Int) (r5 : Int) (r6 : Int) (w0 w : World) (hI : IsS105 w0 w g s0_0 s0_1 s0_2) (hB : Below w0.heap.size w0 w) (h : spec_l39Act.f s0_0 s0_1 s0_2 = some (r1, r2, r3, r4, r5, r6)) :
  Calls Tryd.prog 67 #[.pointer (some ⟨g, 0, none⟩)] w fun e w' => e = .returned (.agg #[.int .i64 r1, .int .i64 r2, .int .i64 r3, .int .i64 r4]) ∧ IsS105 w0 w' g s0_0 r5 r6 ∧ Below w0.heap.size w0 w' ∧ KeepBut w w' g none := by
 have hu26 := Tryd.underlying26
 have HI0 := A_ hI
 have HK := A_ (KeepBut.refl w g none)
 have HL := A_ hB.size
 clear hI
 have HW0 := A_ hB.size
 have HB := A_ hB
 clear hB
 have H : ((spec_l01Below.f s0_0 s0_1 s0_2 12).bind fun bt778 => (if bt778.1 = 0 then ((spec_l01Below.f s0_0 bt778.2.1 bt778.2.2 40).bind fun bt781 => (some (2, wrap64 (bt781.1 - 5), 0, 0, bt781.2.1, bt781.2.2))) else (if bt778.1 = 1 then ((spec_l01PickInt.f s0_0 bt778.2.1 bt778.2.2 (([0, 0, 1] : List Int))).bind fun bt787 => ((spec_l01Below.f s0_0 bt787.2.1 bt787.2.2 6).bind fun bt790 => ((spec_l01Below.f s0_0 bt790.2.1 bt790.2.2 3).bind fun bt793 => (some (3, bt787.1, bt790.1, bt793.1, bt793.2.1, bt793.2.2))))) else (if bt778.1 = 2 then ((spec_l01Below.f s0_0 bt778.2.1 bt778.2.2 12).bind fun bt796 => ((spec_l01Below.f s0_0 bt796.2.1 bt796.2.2 2001).bind fun bt799 => (some (4, bt796.1, wrap64 (bt799.1 - 1000), 0, bt799.2.1, bt799.2.2)))) else (if bt778.1 = 3 then (some (5, 0, 0, 0, bt778.2.1, bt778.2.2)) else (if bt778.1 = 4 then (some (6, 0, 0, 0, bt778.2.1, bt778.2.2)) else (if bt778.1 = 5 then ((spec_l01Below.f s0_0 bt778.2.1 bt778.2.2 12).bind fun bt802 => (some (7, bt802.1, 0, 0, bt802.2.1, bt802.2.2))) else (some (1, 0, 0, 0, bt778.2.1, bt778.2.2))))))))) = some (r1, r2, r3, r4, r5, r6) := h
 clear h
 replace H := Option.bind_eq_some_iff.mp H
 obtain ⟨⟨t778, t779, t780⟩, A20, H⟩ := H
 (try dsimp only at H)
 have A2 := A_ A20
 clear A20
 by_cases c3 : t778 = 0
 ·rw [if_pos c3] at H
  have c3b0 : (t778 == 0) = true := beq_iff_eq.mpr c3
  have c3b1 : (t778 != 0) = false := bne_eq_false_iff_eq.mpr c3
  clear c3
  replace H := Option.bind_eq_some_iff.mp H
  obtain ⟨⟨t781, t782, t783⟩, A40, H⟩ := H
  (try dsimp only at H)
  have A4 := A_ A40
  clear A40
  simp only [Option.some.injEq, Prod.mk.injEq] at H
  obtain ⟨rfl, rfl, rfl, rfl, rfl, rfl⟩ := H
  go_enter Tryd.func67, Tryd.ntmps67
  go_wp2_with (first | ((with_reducible refine gate_dst (N := 2) rfl ?_); refine bX (N := 2) (cs := #[.int .i64 0, .int .i64 0, .int .i64 0, .int .i64 0]) (t := 26) ?_; intro gb777 hg w5 hbox hb; have n0_ := A_ (IsS105.below (oI105 HI0) hb); have n1_ := A_ (KeepBut.trans (oKe HK) (KeepBut.of_below hb g none) (.inl rfl)); have n2_ := A_ (below_step (oB105 HB) hb); have n3_ := A_ (hbox); have n4_ := A_ ((by rw [hg]; exact (keep_size (w := w) (g := g) (row := none) (by repeat (first | (with_reducible first | exact HK.out | apply KeepBut.set_ | apply keep_drewN | apply keep_drew | apply keep_alloc) | exact HK.out))) : w.heap.size ≤ gb777)); have n5_ := A_ ((Nat.le_trans HW0.out (by rw [hg]; exact (keep_size (w := w) (g := g) (row := none) (by repeat (first | (with_reducible first | exact HK.out | apply KeepBut.set_ | apply keep_drewN | apply keep_drew | apply keep_alloc) | exact HK.out))) : w.heap.size ≤ gb777) : w0.heap.size ≤ gb777)); have n6_ := A_ ((by rw [hg]; exact Nat.ne_of_lt (IsS105.lt (show IsS105 w0 _ g s0_0 s0_1 s0_2 from oI105 HI0)) : g ≠ gb777)); have n7_ := A_ ((by rw [hg]; exact Nat.ne_of_gt (IsS105.lt (show IsS105 w0 _ g s0_0 s0_1 s0_2 from oI105 HI0)) : gb777 ≠ g)); clear HI0; clear HK; clear HB; have HI0 := n0_; have HK := n1_; have HB := n2_; have BK777 := n3_; have GW777 := n4_; have GE777 := n5_; have NB0_777 := n6_; have NB777_0 := n7_; clear n0_ n1_ n2_ n3_ n4_ n5_ n6_ n7_; clear hb hbox hg) | ((with_reducible refine gate_callee (f := 66) rfl ?_); refine gL (some 4) Tryd.func66 #[.pointer (some ⟨g, 0, none⟩), .int .i64 12] ?_; (with_reducible refine (spec_l01Below.calls g s0_0 s0_1 s0_2 12 t778 t779 t780 w0 _ ?side1 ?side2 A2.out).mono ?_); (case side1 => exact oI105 HI0); (case side2 => exact oB105 HB); rintro e w6 ⟨rfl, hi, hb, hk⟩; refine ⟨_, rfl, ?_⟩; have n0_ := A_ (KeepBut.blk hk (g' := gb777) (o := .cells #[.int .i64 0, .int .i64 0, .int .i64 0, .int .i64 0] 26 (0, 0)) (oK BK777) NB777_0.out (by simp)); have n1_ := A_ (KeepBut.trans (oKe HK) hk (.inl rfl)); have n2_ := A_ (hb); have n3_ := A_ (hi); clear BK777; clear HK; clear HB; clear HI0; have BK777 := n0_; have HK := n1_; have HB := n2_; have HI0 := n3_; clear n0_ n1_ n2_ n3_; (try clear hb); (try clear hb2); (try clear hk); (try clear hi)) | ((with_reducible refine gate_callee (f := 66) rfl ?_); refine gL (some 8) Tryd.func66 #[.pointer (some ⟨g, 0, none⟩), .int .i64 40] ?_; (with_reducible refine (spec_l01Below.calls g s0_0 t779 t780 40 t781 t782 t783 w0 _ ?side1 ?side2 A4.out).mono ?_); (case side1 => exact oI105 HI0); (case side2 => exact oB105 HB); rintro e w7 ⟨rfl, hi, hb, hk⟩; refine ⟨_, rfl, ?_⟩; have n0_ := A_ (KeepBut.blk hk (g' := gb777) (o := .cells #[.int .i64 0, .int .i64 0, .int .i64 0, .int .i64 0] 26 (0, 0)) (oK BK777) NB777_0.out (by simp)); have n1_ := A_ (KeepBut.trans (oKe HK) hk (.inl rfl)); have n2_ := A_ (hb); have n3_ := A_ (hi); clear BK777; clear HK; clear HB; clear HI0; have BK777 := n0_; have HK := n1_; have HB := n2_; have HI0 := n3_; clear n0_ n1_ n2_ n3_; (try clear hb); (try clear hb2); (try clear hk); (try clear hi); have hnb8 := NB777_0.out; have hnc8 := NB0_777.out; have hcz9_0 := cz BK777 0; have hcz9_1 := cz BK777 1; have hcz9_2 := cz BK777 2; have hcz9_3 := cz BK777 3; have hfz9_0 := blk_frozen BK777.out 0; have hfz9_1 := blk_frozen BK777.out 1; have hfz9_2 := blk_frozen BK777.out 2; have hfz9_3 := blk_frozen BK777.out 3))
  refine bodyPost_ret (results_cell_row rfl _ _ gb777 26 #[.int .i64 2, .int .i64 (wrap64 (t781 - 5)), .int .i64 0, .int .i64 0] (0, 0) _ rfl (by (with_reducible repeat (first | refine blk_drewN ?_ _ | refine blk_drew ?_ | refine blk_alloc ?_ _)); refine blk_put (cs := #[.int .i64 2, .int .i64 (wrap64 (t781 - 5)), .int .i64 0, .int .i64 0]) ?_ 3 _ rfl; (with_reducible repeat (first | refine blk_drewN ?_ _ | refine blk_drew ?_ | refine blk_alloc ?_ _)); refine blk_put (cs := #[.int .i64 2, .int .i64 (wrap64 (t781 - 5)), .int .i64 0, .int .i64 0]) ?_ 2 _ rfl; (with_reducible repeat (first | refine blk_drewN ?_ _ | refine blk_drew ?_ | refine blk_alloc ?_ _)); refine blk_put (cs := #[.int .i64 2, .int .i64 0, .int .i64 0, .int .i64 0]) ?_ 1 _ rfl; (with_reducible repeat (first | refine blk_drewN ?_ _ | refine blk_drew ?_ | refine blk_alloc ?_ _)); refine blk_put (cs := #[.int .i64 0, .int .i64 0, .int .i64 0, .int .i64 0]) ?_ 0 _ rfl; (with_reducible repeat (first | refine blk_drewN ?_ _ | refine blk_drew ?_ | refine blk_alloc ?_ _)); exact BK777.out) Tryd.underlying26 rfl (by kernel_rfl)) rfl ?_
  exact ⟨eR, oI105 HI0, oB105 HB, oKe HK⟩
 ·rw [if_neg c3] at H
  have c3b0 : (t778 == 0) = false := beq_eq_false_iff_ne.mpr c3
  have c3b1 : (t778 != 0) = true := bne_iff_ne.mpr c3
  by_cases c10 : t778 = 1
  ·rw [if_pos c10] at H
   have c10b0 : (t778 == 1) = true := beq_iff_eq.mpr c10
   have c10b1 : (t778 != 1) = false := bne_eq_false_iff_eq.mpr c10
   clear c10
   obtain ⟨y784, hy784⟩ : ∃ y_ : List Int, y_ = (([0, 0, 1] : List Int)) := ⟨_, rfl⟩
   replace H : ((spec_l01PickInt.f s0_0 t779 t780 y784).bind fun bt787 => ((spec_l01Below.f s0_0 bt787.2.1 bt787.2.2 6).bind fun bt790 => ((spec_l01Below.f s0_0 bt790.2.1 bt790.2.2 3).bind fun bt793 => (some (3, bt787.1, bt790.1, bt793.1, bt793.2.1, bt793.2.2))))) = some (r1, r2, r3, r4, r5, r6) := by first | (rw [hy784]; with_reducible exact H) | (have H2_ := (Option.bind_some _ _).symm.trans H; rw [hy784]; with_reducible exact H2_) | (have H2_ := (Option.bind_some _ _).symm.trans H; with_reducible exact H2_) | with_reducible exact H | (rw [hy784]; exact H) | exact H
   have Ny784 := A_ hy784
   clear hy784
   replace H := Option.bind_eq_some_iff.mp H
   obtain ⟨⟨t787, t788, t789⟩, A110, H⟩ := H
   (try dsimp only at H)
   have A11 := A_ A110
   clear A110
   replace H := Option.bind_eq_some_iff.mp H
   obtain ⟨⟨t790, t791, t792⟩, A120, H⟩ := H
   (try dsimp only at H)
   have A12 := A_ A120
   clear A120
   replace H := Option.bind_eq_some_iff.mp H
   obtain ⟨⟨t793, t794, t795⟩, A130, H⟩ := H
   (try dsimp only at H)
   have A13 := A_ A130
   clear A130
   simp only [Option.some.injEq, Prod.mk.injEq] at H
   obtain ⟨rfl, rfl, rfl, rfl, rfl, rfl⟩ := H
   go_enter Tryd.func67, Tryd.ntmps67
   go_wp2_with (first | ((with_reducible refine gate_dst (N := 2) rfl ?_); refine bX (N := 2) (cs := #[.int .i64 0, .int .i64 0, .int .i64 0, .int .i64 0]) (t := 26) ?_; intro gb777 hg w14 hbox hb; have n0_ := A_ (IsS105.below (oI105 HI0) hb); have n1_ := A_ (KeepBut.trans (oKe HK) (KeepBut.of_below hb g none) (.inl rfl)); have n2_ := A_ (below_step (oB105 HB) hb); have n3_ := A_ (hbox); have n4_ := A_ ((by rw [hg]; exact (keep_size (w := w) (g := g) (row := none) (by repeat (first | (with_reducible first | exact HK.out | apply KeepBut.set_ | apply keep_drewN | apply keep_drew | apply keep_alloc) | exact HK.out))) : w.heap.size ≤ gb777)); have n5_ := A_ ((Nat.le_trans HW0.out (by rw [hg]; exact (keep_size (w := w) (g := g) (row := none) (by repeat (first | (with_reducible first | exact HK.out | apply KeepBut.set_ | apply keep_drewN | apply keep_drew | apply keep_alloc) | exact HK.out))) : w.heap.size ≤ gb777) : w0.heap.size ≤ gb777)); have n6_ := A_ ((by rw [hg]; exact Nat.ne_of_lt (IsS105.lt (show IsS105 w0 _ g s0_0 s0_1 s0_2 from oI105 HI0)) : g ≠ gb777)); have n7_ := A_ ((by rw [hg]; exact Nat.ne_of_gt (IsS105.lt (show IsS105 w0 _ g s0_0 s0_1 s0_2 from oI105 HI0)) : gb777 ≠ g)); clear HI0; clear HK; clear HB; have HI0 := n0_; have HK := n1_; have HB := n2_; have BK777 := n3_; have GW777 := n4_; have GE777 := n5_; have NB0_777 := n6_; have NB777_0 := n7_; clear n0_ n1_ n2_ n3_ n4_ n5_ n6_ n7_; clear hb hbox hg) | ((with_reducible refine gate_callee (f := 66) rfl ?_); refine gL (some 4) Tryd.func66 #[.pointer (some ⟨g, 0, none⟩), .int .i64 12] ?_; (with_reducible refine (spec_l01Below.calls g s0_0 s0_1 s0_2 12 t778 t779 t780 w0 _ ?side1 ?side2 A2.out).mono ?_); (case side1 => exact oI105 HI0); (case side2 => exact oB105 HB); rintro e w15 ⟨rfl, hi, hb, hk⟩; refine ⟨_, rfl, ?_⟩; have n0_ := A_ (KeepBut.blk hk (g' := gb777) (o := .cells #[.int .i64 0, .int .i64 0, .int .i64 0, .int .i64 0] 26 (0, 0)) (oK BK777) NB777_0.out (by simp)); have n1_ := A_ (KeepBut.trans (oKe HK) hk (.inl rfl)); have n2_ := A_ (hb); have n3_ := A_ (hi); clear BK777; clear HK; clear HB; clear HI0; have BK777 := n0_; have HK := n1_; have HB := n2_; have HI0 := n3_; clear n0_ n1_ n2_ n3_; (try clear hb); (try clear hb2); (try clear hk); (try clear hi)) | ((with_reducible refine gate_dst (N := 14) rfl ?_); refine Kd.R_lit (Kd.int .i64) _ 3 ?hg (N := 14) ?hd (xs := ([0, 0, 1] : List Int)) (inner := [.int .i64 0, .int .i64 0, .int .i64 1]) (ok := fun _ => True) (okp := fun _ => True) ?hr ?hp (fun _ hk => hk) trivial (Below.refl _ _) (Nat.le_refl _) (by simp) ?_; (case hd => rfl); (case hg => rfl); (case hr => first | (go_simp; done) | (go_simp; rfl)); (case hp => exact (Reps.one (show Kd.M (Kd.int .i64) _ _ _ 0 [.int .i64 0] from rfl) (Reps.one (show Kd.M (Kd.int .i64) _ _ _ 0 [.int .i64 0] from rfl) (Reps.one (show Kd.M (Kd.int .i64) _ _ _ 1 [.int .i64 1] from rfl) (Reps.none _ _))))); intro v785 w16 ho17 hb hg_ hnew_; clear hg_ hnew_; (first | rw [← Ny784.out] at ho17 | (simp only [Int.reduceToNat] at ho17; rw [← Ny784.out] at ho17)); have n0_ := A_ (Kd.R_lower ho17 (keep_size (w := w) (g := g) (row := none) (by repeat (first | (with_reducible first | exact HK.out | apply KeepBut.set_ | apply keep_drewN | apply keep_drew | apply keep_alloc | refine keep_far ?_ GW777.out _) | exact HK.out)))); have n1_ := A_ (IsS105.below (oI105 HI0) hb); have n2_ := A_ (bb BK777 hb); have n3_ := A_ (KeepBut.trans (oKe HK) (KeepBut.of_below hb g none) (.inl rfl)); have n4_ := A_ (below_step (oB105 HB) hb); clear HI0; clear BK777; clear HK; clear HB; have HO786 := n0_; have HI0 := n1_; have BK777 := n2_; have HK := n3_; have HB := n4_; clear n0_ n1_ n2_ n3_ n4_; clear hb ho17; obtain ⟨Ao18, co18, eo18⟩ := Kd.R_slice HO786.out; subst eo18) | ((with_reducible refine gate_callee (f := 98) rfl ?_); refine gL (some 15) Tryd.func98 #[.pointer (some ⟨g, 0, none⟩), .slice Ao18 y784.length co18] ?_; (with_reducible refine (spec_l01PickInt.calls g s0_0 t779 t780 _ _ y784 t787 t788 t789 w0 _ ?side1 ?side2 ?side3 ?side4 ?side5 A11.out).mono ?_); (case side1 => exact oI105 HI0); (case side2 => exact oB105 HB); (case side3 => repeat (first | exact (Kd.R_reads' HO786.out).2.2 | (with_reducible refine Kd.C_alloc ?_ _) | (with_reducible refine Kd.C_drewN ?_ _) | (with_reducible refine Kd.C_drew ?_))); (case side4 => exact (Kd.R_reads' HO786.out).2.1); (case side5 => exact far_slice (IsS105.own_ne HI0.out HO786.out (by decide))); rintro e w19 ⟨rfl, hi, hb, hk⟩; refine ⟨_, rfl, ?_⟩; have n0_ := A_ (KeepBut.blk hk (g' := gb777) (o := .cells #[.int .i64 0, .int .i64 0, .int .i64 0, .int .i64 0] 26 (0, 0)) (oK BK777) NB777_0.out (by simp)); have n1_ := A_ (Kd.R_mono (Kd.R_keep (IsS105.apart (show IsS105 w0 _ g s0_0 t779 t780 from oI105 HI0) (oR HO786) (by decide)) hk (fun _ h => h.2)) (fun _ h => h.1)); have n2_ := A_ (KeepBut.trans (oKe HK) hk (.inl rfl)); have n3_ := A_ (hb); have n4_ := A_ (hi); clear BK777; clear HO786; clear HK; clear HB; clear HI0; have BK777 := n0_; have HO786 := n1_; have HK := n2_; have HB := n3_; have HI0 := n4_; clear n0_ n1_ n2_ n3_ n4_; (try clear hb); (try clear hb2); (try clear hk); (try clear hi)) | ((with_reducible refine gate_callee (f := 66) rfl ?_); refine gL (some 17) Tryd.func66 #[.pointer (some ⟨g, 0, none⟩), .int .i64 6] ?_; (with_reducible refine (spec_l01Below.calls g s0_0 t788 t789 6 t790 t791 t792 w0 _ ?side1 ?side2 A12.out).mono ?_); (case side1 => exact oI105 HI0); (case side2 => exact oB105 HB); rintro e w20 ⟨rfl, hi, hb, hk⟩; refine ⟨_, rfl, ?_⟩; have n0_ := A_ (KeepBut.blk hk (g' := gb777) (o := .cells #[.int .i64 0, .int .i64 0, .int .i64 0, .int .i64 0] 26 (0, 0)) (oK BK777) NB777_0.out (by simp)); have n1_ := A_ (Kd.R_mono (Kd.R_keep (IsS105.apart (show IsS105 w0 _ g s0_0 t788 t789 from oI105 HI0) (oR HO786) (by decide)) hk (fun _ h => h.2)) (fun _ h => h.1)); have n2_ := A_ (KeepBut.trans (oKe HK) hk (.inl rfl)); have n3_ := A_ (hb); have n4_ := A_ (hi); clear BK777; clear HO786; clear HK; clear HB; clear HI0; have BK777 := n0_; have HO786 := n1_; have HK := n2_; have HB := n3_; have HI0 := n4_; clear n0_ n1_ n2_ n3_ n4_; (try clear hb); (try clear hb2); (try clear hk); (try clear hi)) | ((with_reducible refine gate_callee (f := 66) rfl ?_); refine gL (some 19) Tryd.func66 #[.pointer (some ⟨g, 0, none⟩), .int .i64 3] ?_; (with_reducible refine (spec_l01Below.calls g s0_0 t791 t792 3 t793 t794 t795 w0 _ ?side1 ?side2 A13.out).mono ?_); (case side1 => exact oI105 HI0); (case side2 => exact oB105 HB); rintro e w21 ⟨rfl, hi, hb, hk⟩; refine ⟨_, rfl, ?_⟩; have n0_ := A_ (KeepBut.blk hk (g' := gb777) (o := .cells #[.int .i64 0, .int .i64 0, .int .i64 0, .int .i64 0] 26 (0, 0)) (oK BK777) NB777_0.out (by simp)); have n1_ := A_ (Kd.R_mono (Kd.R_keep (IsS105.apart (show IsS105 w0 _ g s0_0 t791 t792 from oI105 HI0) (oR HO786) (by decide)) hk (fun _ h => h.2)) (fun _ h => h.1)); have n2_ := A_ (KeepBut.trans (oKe HK) hk (.inl rfl)); have n3_ := A_ (hb); have n4_ := A_ (hi); clear BK777; clear HO786; clear HK; clear HB; clear HI0; have BK777 := n0_; have HO786 := n1_; have HK := n2_; have HB := n3_; have HI0 := n4_; clear n0_ n1_ n2_ n3_ n4_; (try clear hb); (try clear hb2); (try clear hk); (try clear hi); have hnb22 := NB777_0.out; have hnc22 := NB0_777.out; have hcz23_0 := cz BK777 0; have hcz23_1 := cz BK777 1; have hcz23_2 := cz BK777 2; have hcz23_3 := cz BK777 3; have hfz23_0 := blk_frozen BK777.out 0; have hfz23_1 := blk_frozen BK777.out 1; have hfz23_2 := blk_frozen BK777.out 2; have hfz23_3 := blk_frozen BK777.out 3))
   refine bodyPost_ret (results_cell_row rfl _ _ gb777 26 #[.int .i64 3, .int .i64 t787, .int .i64 t790, .int .i64 t793] (0, 0) _ rfl (by (with_reducible repeat (first | refine blk_drewN ?_ _ | refine blk_drew ?_ | refine blk_alloc ?_ _)); refine blk_put (cs := #[.int .i64 3, .int .i64 t787, .int .i64 t790, .int .i64 0]) ?_ 3 _ rfl; (with_reducible repeat (first | refine blk_drewN ?_ _ | refine blk_drew ?_ | refine blk_alloc ?_ _)); refine blk_put (cs := #[.int .i64 3, .int .i64 t787, .int .i64 0, .int .i64 0]) ?_ 2 _ rfl; (with_reducible repeat (first | refine blk_drewN ?_ _ | refine blk_drew ?_ | refine blk_alloc ?_ _)); refine blk_put (cs := #[.int .i64 3, .int .i64 0, .int .i64 0, .int .i64 0]) ?_ 1 _ rfl; (with_reducible repeat (first | refine blk_drewN ?_ _ | refine blk_drew ?_ | refine blk_alloc ?_ _)); refine blk_put (cs := #[.int .i64 0, .int .i64 0, .int .i64 0, .int .i64 0]) ?_ 0 _ rfl; (with_reducible repeat (first | refine blk_drewN ?_ _ | refine blk_drew ?_ | refine blk_alloc ?_ _)); exact BK777.out) Tryd.underlying26 rfl (by kernel_rfl)) rfl ?_
   exact ⟨eR, oI105 HI0, oB105 HB, oKe HK⟩
  ·rw [if_neg c10] at H
   have c10b0 : (t778 == 1) = false := beq_eq_false_iff_ne.mpr c10
   have c10b1 : (t778 != 1) = true := bne_iff_ne.mpr c10
   by_cases c24 : t778 = 2
   ·rw [if_pos c24] at H
    have c24b0 : (t778 == 2) = true := beq_iff_eq.mpr c24
    have c24b1 : (t778 != 2) = false := bne_eq_false_iff_eq.mpr c24
    clear c24
    replace H := Option.bind_eq_some_iff.mp H
    obtain ⟨⟨t796, t797, t798⟩, A250, H⟩ := H
    (try dsimp only at H)
    have A25 := A_ A250
    clear A250
    replace H := Option.bind_eq_some_iff.mp H
    obtain ⟨⟨t799, t800, t801⟩, A260, H⟩ := H
    (try dsimp only at H)
    have A26 := A_ A260
    clear A260
    simp only [Option.some.injEq, Prod.mk.injEq] at H
    obtain ⟨rfl, rfl, rfl, rfl, rfl, rfl⟩ := H
    go_enter Tryd.func67, Tryd.ntmps67
    go_wp2_with (first | ((with_reducible refine gate_dst (N := 2) rfl ?_); refine bX (N := 2) (cs := #[.int .i64 0, .int .i64 0, .int .i64 0, .int .i64 0]) (t := 26) ?_; intro gb777 hg w27 hbox hb; have n0_ := A_ (IsS105.below (oI105 HI0) hb); have n1_ := A_ (KeepBut.trans (oKe HK) (KeepBut.of_below hb g none) (.inl rfl)); have n2_ := A_ (below_step (oB105 HB) hb); have n3_ := A_ (hbox); have n4_ := A_ ((by rw [hg]; exact (keep_size (w := w) (g := g) (row := none) (by repeat (first | (with_reducible first | exact HK.out | apply KeepBut.set_ | apply keep_drewN | apply keep_drew | apply keep_alloc) | exact HK.out))) : w.heap.size ≤ gb777)); have n5_ := A_ ((Nat.le_trans HW0.out (by rw [hg]; exact (keep_size (w := w) (g := g) (row := none) (by repeat (first | (with_reducible first | exact HK.out | apply KeepBut.set_ | apply keep_drewN | apply keep_drew | apply keep_alloc) | exact HK.out))) : w.heap.size ≤ gb777) : w0.heap.size ≤ gb777)); have n6_ := A_ ((by rw [hg]; exact Nat.ne_of_lt (IsS105.lt (show IsS105 w0 _ g s0_0 s0_1 s0_2 from oI105 HI0)) : g ≠ gb777)); have n7_ := A_ ((by rw [hg]; exact Nat.ne_of_gt (IsS105.lt (show IsS105 w0 _ g s0_0 s0_1 s0_2 from oI105 HI0)) : gb777 ≠ g)); clear HI0; clear HK; clear HB; have HI0 := n0_; have HK := n1_; have HB := n2_; have BK777 := n3_; have GW777 := n4_; have GE777 := n5_; have NB0_777 := n6_; have NB777_0 := n7_; clear n0_ n1_ n2_ n3_ n4_ n5_ n6_ n7_; clear hb hbox hg) | ((with_reducible refine gate_callee (f := 66) rfl ?_); refine gL (some 4) Tryd.func66 #[.pointer (some ⟨g, 0, none⟩), .int .i64 12] ?_; (with_reducible refine (spec_l01Below.calls g s0_0 s0_1 s0_2 12 t778 t779 t780 w0 _ ?side1 ?side2 A2.out).mono ?_); (case side1 => exact oI105 HI0); (case side2 => exact oB105 HB); rintro e w28 ⟨rfl, hi, hb, hk⟩; refine ⟨_, rfl, ?_⟩; have n0_ := A_ (KeepBut.blk hk (g' := gb777) (o := .cells #[.int .i64 0, .int .i64 0, .int .i64 0, .int .i64 0] 26 (0, 0)) (oK BK777) NB777_0.out (by simp)); have n1_ := A_ (KeepBut.trans (oKe HK) hk (.inl rfl)); have n2_ := A_ (hb); have n3_ := A_ (hi); clear BK777; clear HK; clear HB; clear HI0; have BK777 := n0_; have HK := n1_; have HB := n2_; have HI0 := n3_; clear n0_ n1_ n2_ n3_; (try clear hb); (try clear hb2); (try clear hk); (try clear hi)) | ((with_reducible refine gate_callee (f := 66) rfl ?_); refine gL (some 24) Tryd.func66 #[.pointer (some ⟨g, 0, none⟩), .int .i64 12] ?_; (with_reducible refine (spec_l01Below.calls g s0_0 t779 t780 12 t796 t797 t798 w0 _ ?side1 ?side2 A25.out).mono ?_); (case side1 => exact oI105 HI0); (case side2 => exact oB105 HB); rintro e w29 ⟨rfl, hi, hb, hk⟩; refine ⟨_, rfl, ?_⟩; have n0_ := A_ (KeepBut.blk hk (g' := gb777) (o := .cells #[.int .i64 0, .int .i64 0, .int .i64 0, .int .i64 0] 26 (0, 0)) (oK BK777) NB777_0.out (by simp)); have n1_ := A_ (KeepBut.trans (oKe HK) hk (.inl rfl)); have n2_ := A_ (hb); have n3_ := A_ (hi); clear BK777; clear HK; clear HB; clear HI0; have BK777 := n0_; have HK := n1_; have HB := n2_; have HI0 := n3_; clear n0_ n1_ n2_ n3_; (try clear hb); (try clear hb2); (try clear hk); (try clear hi)) | ((with_reducible refine gate_callee (f := 66) rfl ?_); refine gL (some 26) Tryd.func66 #[.pointer (some ⟨g, 0, none⟩), .int .i64 2001] ?_; (with_reducible refine (spec_l01Below.calls g s0_0 t797 t798 2001 t799 t800 t801 w0 _ ?side1 ?side2 A26.out).mono ?_); (case side1 => exact oI105 HI0); (case side2 => exact oB105 HB); rintro e w30 ⟨rfl, hi, hb, hk⟩; refine ⟨_, rfl, ?_⟩; have n0_ := A_ (KeepBut.blk hk (g' := gb777) (o := .cells #[.int .i64 0, .int .i64 0, .int .i64 0, .int .i64 0] 26 (0, 0)) (oK BK777) NB777_0.out (by simp)); have n1_ := A_ (KeepBut.trans (oKe HK) hk (.inl rfl)); have n2_ := A_ (hb); have n3_ := A_ (hi); clear BK777; clear HK; clear HB; clear HI0; have BK777 := n0_; have HK := n1_; have HB := n2_; have HI0 := n3_; clear n0_ n1_ n2_ n3_; (try clear hb); (try clear hb2); (try clear hk); (try clear hi); have hnb31 := NB777_0.out; have hnc31 := NB0_777.out; have hcz32_0 := cz BK777 0; have hcz32_1 := cz BK777 1; have hcz32_2 := cz BK777 2; have hcz32_3 := cz BK777 3; have hfz32_0 := blk_frozen BK777.out 0; have hfz32_1 := blk_frozen BK777.out 1; have hfz32_2 := blk_frozen BK777.out 2; have hfz32_3 := blk_frozen BK777.out 3))
    refine bodyPost_ret (results_cell_row rfl _ _ gb777 26 #[.int .i64 4, .int .i64 t796, .int .i64 (wrap64 (t799 - 1000)), .int .i64 0] (0, 0) _ rfl (by (with_reducible repeat (first | refine blk_drewN ?_ _ | refine blk_drew ?_ | refine blk_alloc ?_ _)); refine blk_put (cs := #[.int .i64 4, .int .i64 t796, .int .i64 (wrap64 (t799 - 1000)), .int .i64 0]) ?_ 3 _ rfl; (with_reducible repeat (first | refine blk_drewN ?_ _ | refine blk_drew ?_ | refine blk_alloc ?_ _)); refine blk_put (cs := #[.int .i64 4, .int .i64 t796, .int .i64 0, .int .i64 0]) ?_ 2 _ rfl; (with_reducible repeat (first | refine blk_drewN ?_ _ | refine blk_drew ?_ | refine blk_alloc ?_ _)); refine blk_put (cs := #[.int .i64 4, .int .i64 0, .int .i64 0, .int .i64 0]) ?_ 1 _ rfl; (with_reducible repeat (first | refine blk_drewN ?_ _ | refine blk_drew ?_ | refine blk_alloc ?_ _)); refine blk_put (cs := #[.int .i64 0, .int .i64 0, .int .i64 0, .int .i64 0]) ?_ 0 _ rfl; (with_reducible repeat (first | refine blk_drewN ?_ _ | refine blk_drew ?_ | refine blk_alloc ?_ _)); exact BK777.out) Tryd.underlying26 rfl (by kernel_rfl)) rfl ?_
    exact ⟨eR, oI105 HI0, oB105 HB, oKe HK⟩
   ·rw [if_neg c24] at H
    have c24b0 : (t778 == 2) = false := beq_eq_false_iff_ne.mpr c24
    have c24b1 : (t778 != 2) = true := bne_iff_ne.mpr c24
    by_cases c33 : t778 = 3
    ·rw [if_pos c33] at H
     have c33b0 : (t778 == 3) = true := beq_iff_eq.mpr c33
     have c33b1 : (t778 != 3) = false := bne_eq_false_iff_eq.mpr c33
     clear c33
     simp only [Option.some.injEq, Prod.mk.injEq] at H
     obtain ⟨rfl, rfl, rfl, rfl, rfl, rfl⟩ := H
     go_enter Tryd.func67, Tryd.ntmps67
     go_wp2_with (first | ((with_reducible refine gate_dst (N := 2) rfl ?_); refine bX (N := 2) (cs := #[.int .i64 0, .int .i64 0, .int .i64 0, .int .i64 0]) (t := 26) ?_; intro gb777 hg w34 hbox hb; have n0_ := A_ (IsS105.below (oI105 HI0) hb); have n1_ := A_ (KeepBut.trans (oKe HK) (KeepBut.of_below hb g none) (.inl rfl)); have n2_ := A_ (below_step (oB105 HB) hb); have n3_ := A_ (hbox); have n4_ := A_ ((by rw [hg]; exact (keep_size (w := w) (g := g) (row := none) (by repeat (first | (with_reducible first | exact HK.out | apply KeepBut.set_ | apply keep_drewN | apply keep_drew | apply keep_alloc) | exact HK.out))) : w.heap.size ≤ gb777)); have n5_ := A_ ((Nat.le_trans HW0.out (by rw [hg]; exact (keep_size (w := w) (g := g) (row := none) (by repeat (first | (with_reducible first | exact HK.out | apply KeepBut.set_ | apply keep_drewN | apply keep_drew | apply keep_alloc) | exact HK.out))) : w.heap.size ≤ gb777) : w0.heap.size ≤ gb777)); have n6_ := A_ ((by rw [hg]; exact Nat.ne_of_lt (IsS105.lt (show IsS105 w0 _ g s0_0 s0_1 s0_2 from oI105 HI0)) : g ≠ gb777)); have n7_ := A_ ((by rw [hg]; exact Nat.ne_of_gt (IsS105.lt (show IsS105 w0 _ g s0_0 s0_1 s0_2 from oI105 HI0)) : gb777 ≠ g)); clear HI0; clear HK; clear HB; have HI0 := n0_; have HK := n1_; have HB := n2_; have BK777 := n3_; have GW777 := n4_; have GE777 := n5_; have NB0_777 := n6_; have NB777_0 := n7_; clear n0_ n1_ n2_ n3_ n4_ n5_ n6_ n7_; clear hb hbox hg) | ((with_reducible refine gate_callee (f := 66) rfl ?_); refine gL (some 4) Tryd.func66 #[.pointer (some ⟨g, 0, none⟩), .int .i64 12] ?_; (with_reducible refine (spec_l01Below.calls g s0_0 s0_1 s0_2 12 t778 t779 t780 w0 _ ?side1 ?side2 A2.out).mono ?_); (case side1 => exact oI105 HI0); (case side2 => exact oB105 HB); rintro e w35 ⟨rfl, hi, hb, hk⟩; refine ⟨_, rfl, ?_⟩; have n0_ := A_ (KeepBut.blk hk (g' := gb777) (o := .cells #[.int .i64 0, .int .i64 0, .int .i64 0, .int .i64 0] 26 (0, 0)) (oK BK777) NB777_0.out (by simp)); have n1_ := A_ (KeepBut.trans (oKe HK) hk (.inl rfl)); have n2_ := A_ (hb); have n3_ := A_ (hi); clear BK777; clear HK; clear HB; clear HI0; have BK777 := n0_; have HK := n1_; have HB := n2_; have HI0 := n3_; clear n0_ n1_ n2_ n3_; (try clear hb); (try clear hb2); (try clear hk); (try clear hi); have hnb36 := NB777_0.out; have hnc36 := NB0_777.out; have hcz37_0 := cz BK777 0; have hcz37_1 := cz BK777 1; have hcz37_2 := cz BK777 2; have hcz37_3 := cz BK777 3; have hfz37_0 := blk_frozen BK777.out 0; have hfz37_1 := blk_frozen BK777.out 1; have hfz37_2 := blk_frozen BK777.out 2; have hfz37_3 := blk_frozen BK777.out 3))
     refine bodyPost_ret (results_cell_row rfl _ _ gb777 26 #[.int .i64 5, .int .i64 0, .int .i64 0, .int .i64 0] (0, 0) _ rfl (by (with_reducible repeat (first | refine blk_drewN ?_ _ | refine blk_drew ?_ | refine blk_alloc ?_ _)); refine blk_put (cs := #[.int .i64 5, .int .i64 0, .int .i64 0, .int .i64 0]) ?_ 3 _ rfl; (with_reducible repeat (first | refine blk_drewN ?_ _ | refine blk_drew ?_ | refine blk_alloc ?_ _)); refine blk_put (cs := #[.int .i64 5, .int .i64 0, .int .i64 0, .int .i64 0]) ?_ 2 _ rfl; (with_reducible repeat (first | refine blk_drewN ?_ _ | refine blk_drew ?_ | refine blk_alloc ?_ _)); refine blk_put (cs := #[.int .i64 5, .int .i64 0, .int .i64 0, .int .i64 0]) ?_ 1 _ rfl; (with_reducible repeat (first | refine blk_drewN ?_ _ | refine blk_drew ?_ | refine blk_alloc ?_ _)); refine blk_put (cs := #[.int .i64 0, .int .i64 0, .int .i64 0, .int .i64 0]) ?_ 0 _ rfl; (with_reducible repeat (first | refine blk_drewN ?_ _ | refine blk_drew ?_ | refine blk_alloc ?_ _)); exact BK777.out) Tryd.underlying26 rfl (by kernel_rfl)) rfl ?_
     exact ⟨eR, oI105 HI0, oB105 HB, oKe HK⟩
    ·rw [if_neg c33] at H
     have c33b0 : (t778 == 3) = false := beq_eq_false_iff_ne.mpr c33
     have c33b1 : (t778 != 3) = true := bne_iff_ne.mpr c33
     by_cases c38 : t778 = 4
     ·rw [if_pos c38] at H
      have c38b0 : (t778 == 4) = true := beq_iff_eq.mpr c38
      have c38b1 : (t778 != 4) = false := bne_eq_false_iff_eq.mpr c38
      clear c38
      simp only [Option.some.injEq, Prod.mk.injEq] at H
      obtain ⟨rfl, rfl, rfl, rfl, rfl, rfl⟩ := H
      go_enter Tryd.func67, Tryd.ntmps67
      go_wp2_with (first | ((with_reducible refine gate_dst (N := 2) rfl ?_); refine bX (N := 2) (cs := #[.int .i64 0, .int .i64 0, .int .i64 0, .int .i64 0]) (t := 26) ?_; intro gb777 hg w39 hbox hb; have n0_ := A_ (IsS105.below (oI105 HI0) hb); have n1_ := A_ (KeepBut.trans (oKe HK) (KeepBut.of_below hb g none) (.inl rfl)); have n2_ := A_ (below_step (oB105 HB) hb); have n3_ := A_ (hbox); have n4_ := A_ ((by rw [hg]; exact (keep_size (w := w) (g := g) (row := none) (by repeat (first | (with_reducible first | exact HK.out | apply KeepBut.set_ | apply keep_drewN | apply keep_drew | apply keep_alloc) | exact HK.out))) : w.heap.size ≤ gb777)); have n5_ := A_ ((Nat.le_trans HW0.out (by rw [hg]; exact (keep_size (w := w) (g := g) (row := none) (by repeat (first | (with_reducible first | exact HK.out | apply KeepBut.set_ | apply keep_drewN | apply keep_drew | apply keep_alloc) | exact HK.out))) : w.heap.size ≤ gb777) : w0.heap.size ≤ gb777)); have n6_ := A_ ((by rw [hg]; exact Nat.ne_of_lt (IsS105.lt (show IsS105 w0 _ g s0_0 s0_1 s0_2 from oI105 HI0)) : g ≠ gb777)); have n7_ := A_ ((by rw [hg]; exact Nat.ne_of_gt (IsS105.lt (show IsS105 w0 _ g s0_0 s0_1 s0_2 from oI105 HI0)) : gb777 ≠ g)); clear HI0; clear HK; clear HB; have HI0 := n0_; have HK := n1_; have HB := n2_; have BK777 := n3_; have GW777 := n4_; have GE777 := n5_; have NB0_777 := n6_; have NB777_0 := n7_; clear n0_ n1_ n2_ n3_ n4_ n5_ n6_ n7_; clear hb hbox hg) | ((with_reducible refine gate_callee (f := 66) rfl ?_); refine gL (some 4) Tryd.func66 #[.pointer (some ⟨g, 0, none⟩), .int .i64 12] ?_; (with_reducible refine (spec_l01Below.calls g s0_0 s0_1 s0_2 12 t778 t779 t780 w0 _ ?side1 ?side2 A2.out).mono ?_); (case side1 => exact oI105 HI0); (case side2 => exact oB105 HB); rintro e w40 ⟨rfl, hi, hb, hk⟩; refine ⟨_, rfl, ?_⟩; have n0_ := A_ (KeepBut.blk hk (g' := gb777) (o := .cells #[.int .i64 0, .int .i64 0, .int .i64 0, .int .i64 0] 26 (0, 0)) (oK BK777) NB777_0.out (by simp)); have n1_ := A_ (KeepBut.trans (oKe HK) hk (.inl rfl)); have n2_ := A_ (hb); have n3_ := A_ (hi); clear BK777; clear HK; clear HB; clear HI0; have BK777 := n0_; have HK := n1_; have HB := n2_; have HI0 := n3_; clear n0_ n1_ n2_ n3_; (try clear hb); (try clear hb2); (try clear hk); (try clear hi); have hnb41 := NB777_0.out; have hnc41 := NB0_777.out; have hcz42_0 := cz BK777 0; have hcz42_1 := cz BK777 1; have hcz42_2 := cz BK777 2; have hcz42_3 := cz BK777 3; have hfz42_0 := blk_frozen BK777.out 0; have hfz42_1 := blk_frozen BK777.out 1; have hfz42_2 := blk_frozen BK777.out 2; have hfz42_3 := blk_frozen BK777.out 3))
      refine bodyPost_ret (results_cell_row rfl _ _ gb777 26 #[.int .i64 6, .int .i64 0, .int .i64 0, .int .i64 0] (0, 0) _ rfl (by (with_reducible repeat (first | refine blk_drewN ?_ _ | refine blk_drew ?_ | refine blk_alloc ?_ _)); refine blk_put (cs := #[.int .i64 6, .int .i64 0, .int .i64 0, .int .i64 0]) ?_ 3 _ rfl; (with_reducible repeat (first | refine blk_drewN ?_ _ | refine blk_drew ?_ | refine blk_alloc ?_ _)); refine blk_put (cs := #[.int .i64 6, .int .i64 0, .int .i64 0, .int .i64 0]) ?_ 2 _ rfl; (with_reducible repeat (first | refine blk_drewN ?_ _ | refine blk_drew ?_ | refine blk_alloc ?_ _)); refine blk_put (cs := #[.int .i64 6, .int .i64 0, .int .i64 0, .int .i64 0]) ?_ 1 _ rfl; (with_reducible repeat (first | refine blk_drewN ?_ _ | refine blk_drew ?_ | refine blk_alloc ?_ _)); refine blk_put (cs := #[.int .i64 0, .int .i64 0, .int .i64 0, .int .i64 0]) ?_ 0 _ rfl; (with_reducible repeat (first | refine blk_drewN ?_ _ | refine blk_drew ?_ | refine blk_alloc ?_ _)); exact BK777.out) Tryd.underlying26 rfl (by kernel_rfl)) rfl ?_
      exact ⟨eR, oI105 HI0, oB105 HB, oKe HK⟩
     ·rw [if_neg c38] at H
      have c38b0 : (t778 == 4) = false := beq_eq_false_iff_ne.mpr c38
      have c38b1 : (t778 != 4) = true := bne_iff_ne.mpr c38
      by_cases c43 : t778 = 5
      ·rw [if_pos c43] at H
       have c43b0 : (t778 == 5) = true := beq_iff_eq.mpr c43
       have c43b1 : (t778 != 5) = false := bne_eq_false_iff_eq.mpr c43
       clear c43
       replace H := Option.bind_eq_some_iff.mp H
       obtain ⟨⟨t802, t803, t804⟩, A440, H⟩ := H
       (try dsimp only at H)
       have A44 := A_ A440
       clear A440
       simp only [Option.some.injEq, Prod.mk.injEq] at H
       obtain ⟨rfl, rfl, rfl, rfl, rfl, rfl⟩ := H
       go_enter Tryd.func67, Tryd.ntmps67
       go_wp2_with (first | ((with_reducible refine gate_dst (N := 2) rfl ?_); refine bX (N := 2) (cs := #[.int .i64 0, .int .i64 0, .int .i64 0, .int .i64 0]) (t := 26) ?_; intro gb777 hg w45 hbox hb; have n0_ := A_ (IsS105.below (oI105 HI0) hb); have n1_ := A_ (KeepBut.trans (oKe HK) (KeepBut.of_below hb g none) (.inl rfl)); have n2_ := A_ (below_step (oB105 HB) hb); have n3_ := A_ (hbox); have n4_ := A_ ((by rw [hg]; exact (keep_size (w := w) (g := g) (row := none) (by repeat (first | (with_reducible first | exact HK.out | apply KeepBut.set_ | apply keep_drewN | apply keep_drew | apply keep_alloc) | exact HK.out))) : w.heap.size ≤ gb777)); have n5_ := A_ ((Nat.le_trans HW0.out (by rw [hg]; exact (keep_size (w := w) (g := g) (row := none) (by repeat (first | (with_reducible first | exact HK.out | apply KeepBut.set_ | apply keep_drewN | apply keep_drew | apply keep_alloc) | exact HK.out))) : w.heap.size ≤ gb777) : w0.heap.size ≤ gb777)); have n6_ := A_ ((by rw [hg]; exact Nat.ne_of_lt (IsS105.lt (show IsS105 w0 _ g s0_0 s0_1 s0_2 from oI105 HI0)) : g ≠ gb777)); have n7_ := A_ ((by rw [hg]; exact Nat.ne_of_gt (IsS105.lt (show IsS105 w0 _ g s0_0 s0_1 s0_2 from oI105 HI0)) : gb777 ≠ g)); clear HI0; clear HK; clear HB; have HI0 := n0_; have HK := n1_; have HB := n2_; have BK777 := n3_; have GW777 := n4_; have GE777 := n5_; have NB0_777 := n6_; have NB777_0 := n7_; clear n0_ n1_ n2_ n3_ n4_ n5_ n6_ n7_; clear hb hbox hg) | ((with_reducible refine gate_callee (f := 66) rfl ?_); refine gL (some 4) Tryd.func66 #[.pointer (some ⟨g, 0, none⟩), .int .i64 12] ?_; (with_reducible refine (spec_l01Below.calls g s0_0 s0_1 s0_2 12 t778 t779 t780 w0 _ ?side1 ?side2 A2.out).mono ?_); (case side1 => exact oI105 HI0); (case side2 => exact oB105 HB); rintro e w46 ⟨rfl, hi, hb, hk⟩; refine ⟨_, rfl, ?_⟩; have n0_ := A_ (KeepBut.blk hk (g' := gb777) (o := .cells #[.int .i64 0, .int .i64 0, .int .i64 0, .int .i64 0] 26 (0, 0)) (oK BK777) NB777_0.out (by simp)); have n1_ := A_ (KeepBut.trans (oKe HK) hk (.inl rfl)); have n2_ := A_ (hb); have n3_ := A_ (hi); clear BK777; clear HK; clear HB; clear HI0; have BK777 := n0_; have HK := n1_; have HB := n2_; have HI0 := n3_; clear n0_ n1_ n2_ n3_; (try clear hb); (try clear hb2); (try clear hk); (try clear hi)) | ((with_reducible refine gate_callee (f := 66) rfl ?_); refine gL (some 38) Tryd.func66 #[.pointer (some ⟨g, 0, none⟩), .int .i64 12] ?_; (with_reducible refine (spec_l01Below.calls g s0_0 t779 t780 12 t802 t803 t804 w0 _ ?side1 ?side2 A44.out).mono ?_); (case side1 => exact oI105 HI0); (case side2 => exact oB105 HB); rintro e w47 ⟨rfl, hi, hb, hk⟩; refine ⟨_, rfl, ?_⟩; have n0_ := A_ (KeepBut.blk hk (g' := gb777) (o := .cells #[.int .i64 0, .int .i64 0, .int .i64 0, .int .i64 0] 26 (0, 0)) (oK BK777) NB777_0.out (by simp)); have n1_ := A_ (KeepBut.trans (oKe HK) hk (.inl rfl)); have n2_ := A_ (hb); have n3_ := A_ (hi); clear BK777; clear HK; clear HB; clear HI0; have BK777 := n0_; have HK := n1_; have HB := n2_; have HI0 := n3_; clear n0_ n1_ n2_ n3_; (try clear hb); (try clear hb2); (try clear hk); (try clear hi); have hnb48 := NB777_0.out; have hnc48 := NB0_777.out; have hcz49_0 := cz BK777 0; have hcz49_1 := cz BK777 1; have hcz49_2 := cz BK777 2; have hcz49_3 := cz BK777 3; have hfz49_0 := blk_frozen BK777.out 0; have hfz49_1 := blk_frozen BK777.out 1; have hfz49_2 := blk_frozen BK777.out 2; have hfz49_3 := blk_frozen BK777.out 3))
       refine bodyPost_ret (results_cell_row rfl _ _ gb777 26 #[.int .i64 7, .int .i64 t802, .int .i64 0, .int .i64 0] (0, 0) _ rfl (by (with_reducible repeat (first | refine blk_drewN ?_ _ | refine blk_drew ?_ | refine blk_alloc ?_ _)); refine blk_put (cs := #[.int .i64 7, .int .i64 t802, .int .i64 0, .int .i64 0]) ?_ 3 _ rfl; (with_reducible repeat (first | refine blk_drewN ?_ _ | refine blk_drew ?_ | refine blk_alloc ?_ _)); refine blk_put (cs := #[.int .i64 7, .int .i64 t802, .int .i64 0, .int .i64 0]) ?_ 2 _ rfl; (with_reducible repeat (first | refine blk_drewN ?_ _ | refine blk_drew ?_ | refine blk_alloc ?_ _)); refine blk_put (cs := #[.int .i64 7, .int .i64 0, .int .i64 0, .int .i64 0]) ?_ 1 _ rfl; (with_reducible repeat (first | refine blk_drewN ?_ _ | refine blk_drew ?_ | refine blk_alloc ?_ _)); refine blk_put (cs := #[.int .i64 0, .int .i64 0, .int .i64 0, .int .i64 0]) ?_ 0 _ rfl; (with_reducible repeat (first | refine blk_drewN ?_ _ | refine blk_drew ?_ | refine blk_alloc ?_ _)); exact BK777.out) Tryd.underlying26 rfl (by kernel_rfl)) rfl ?_
       exact ⟨eR, oI105 HI0, oB105 HB, oKe HK⟩
      ·rw [if_neg c43] at H
       have c43b0 : (t778 == 5) = false := beq_eq_false_iff_ne.mpr c43
       have c43b1 : (t778 != 5) = true := bne_iff_ne.mpr c43
       simp only [Option.some.injEq, Prod.mk.injEq] at H
       obtain ⟨rfl, rfl, rfl, rfl, rfl, rfl⟩ := H
       go_enter Tryd.func67, Tryd.ntmps67
       go_wp2_with (first | ((with_reducible refine gate_dst (N := 2) rfl ?_); refine bX (N := 2) (cs := #[.int .i64 0, .int .i64 0, .int .i64 0, .int .i64 0]) (t := 26) ?_; intro gb777 hg w50 hbox hb; have n0_ := A_ (IsS105.below (oI105 HI0) hb); have n1_ := A_ (KeepBut.trans (oKe HK) (KeepBut.of_below hb g none) (.inl rfl)); have n2_ := A_ (below_step (oB105 HB) hb); have n3_ := A_ (hbox); have n4_ := A_ ((by rw [hg]; exact (keep_size (w := w) (g := g) (row := none) (by repeat (first | (with_reducible first | exact HK.out | apply KeepBut.set_ | apply keep_drewN | apply keep_drew | apply keep_alloc) | exact HK.out))) : w.heap.size ≤ gb777)); have n5_ := A_ ((Nat.le_trans HW0.out (by rw [hg]; exact (keep_size (w := w) (g := g) (row := none) (by repeat (first | (with_reducible first | exact HK.out | apply KeepBut.set_ | apply keep_drewN | apply keep_drew | apply keep_alloc) | exact HK.out))) : w.heap.size ≤ gb777) : w0.heap.size ≤ gb777)); have n6_ := A_ ((by rw [hg]; exact Nat.ne_of_lt (IsS105.lt (show IsS105 w0 _ g s0_0 s0_1 s0_2 from oI105 HI0)) : g ≠ gb777)); have n7_ := A_ ((by rw [hg]; exact Nat.ne_of_gt (IsS105.lt (show IsS105 w0 _ g s0_0 s0_1 s0_2 from oI105 HI0)) : gb777 ≠ g)); clear HI0; clear HK; clear HB; have HI0 := n0_; have HK := n1_; have HB := n2_; have BK777 := n3_; have GW777 := n4_; have GE777 := n5_; have NB0_777 := n6_; have NB777_0 := n7_; clear n0_ n1_ n2_ n3_ n4_ n5_ n6_ n7_; clear hb hbox hg) | ((with_reducible refine gate_callee (f := 66) rfl ?_); refine gL (some 4) Tryd.func66 #[.pointer (some ⟨g, 0, none⟩), .int .i64 12] ?_; (with_reducible refine (spec_l01Below.calls g s0_0 s0_1 s0_2 12 t778 t779 t780 w0 _ ?side1 ?side2 A2.out).mono ?_); (case side1 => exact oI105 HI0); (case side2 => exact oB105 HB); rintro e w51 ⟨rfl, hi, hb, hk⟩; refine ⟨_, rfl, ?_⟩; have n0_ := A_ (KeepBut.blk hk (g' := gb777) (o := .cells #[.int .i64 0, .int .i64 0, .int .i64 0, .int .i64 0] 26 (0, 0)) (oK BK777) NB777_0.out (by simp)); have n1_ := A_ (KeepBut.trans (oKe HK) hk (.inl rfl)); have n2_ := A_ (hb); have n3_ := A_ (hi); clear BK777; clear HK; clear HB; clear HI0; have BK777 := n0_; have HK := n1_; have HB := n2_; have HI0 := n3_; clear n0_ n1_ n2_ n3_; (try clear hb); (try clear hb2); (try clear hk); (try clear hi); have hnb52 := NB777_0.out; have hnc52 := NB0_777.out; have hcz53_0 := cz BK777 0; have hcz53_1 := cz BK777 1; have hcz53_2 := cz BK777 2; have hcz53_3 := cz BK777 3; have hfz53_0 := blk_frozen BK777.out 0; have hfz53_1 := blk_frozen BK777.out 1; have hfz53_2 := blk_frozen BK777.out 2; have hfz53_3 := blk_frozen BK777.out 3))
       refine bodyPost_ret (results_cell_row rfl _ _ gb777 26 #[.int .i64 1, .int .i64 0, .int .i64 0, .int .i64 0] (0, 0) _ rfl (by (with_reducible repeat (first | refine blk_drewN ?_ _ | refine blk_drew ?_ | refine blk_alloc ?_ _)); refine blk_put (cs := #[.int .i64 1, .int .i64 0, .int .i64 0, .int .i64 0]) ?_ 3 _ rfl; (with_reducible repeat (first | refine blk_drewN ?_ _ | refine blk_drew ?_ | refine blk_alloc ?_ _)); refine blk_put (cs := #[.int .i64 1, .int .i64 0, .int .i64 0, .int .i64 0]) ?_ 2 _ rfl; (with_reducible repeat (first | refine blk_drewN ?_ _ | refine blk_drew ?_ | refine blk_alloc ?_ _)); refine blk_put (cs := #[.int .i64 1, .int .i64 0, .int .i64 0, .int .i64 0]) ?_ 1 _ rfl; (with_reducible repeat (first | refine blk_drewN ?_ _ | refine blk_drew ?_ | refine blk_alloc ?_ _)); refine blk_put (cs := #[.int .i64 0, .int .i64 0, .int .i64 0, .int .i64 0]) ?_ 0 _ rfl; (with_reducible repeat (first | refine blk_drewN ?_ _ | refine blk_drew ?_ | refine blk_alloc ?_ _)); exact BK777.out) Tryd.underlying26 rfl (by kernel_rfl)) rfl ?_
       exact ⟨eR, oI105 HI0, oB105 HB, oKe HK⟩
end Go.Proofs.YtojiighpkppckaaDoor.P


namespace Go.Proofs.YtojiighpkppckaaDoor.P
open Go.RowKit Go.Proofs.YtojiighpkppckaaDoorW.PrintWords Go.Proofs.YtojiighpkppckaaDoorW.PrintLast Go.Proofs.YtojiighpkppckaaDoorW.PrintMore
attribute [local go_sem] max2_int min2_int max_two min_two max_three min_three max_four min_four
set_option linter.unusedVariables false
set_option linter.unusedSimpArgs false
def spec_l39List.l0 : Nat → List (S26) → Int → Int → List Int → Int → Int → Option ((List (S26)) × Int × Int)
 | 0, _, _, _, _, _, _ => none
 | k + 1, x3, x4, x5, x1000, x1001, x1002 => if x5 < x4 then ((spec_l39Act.f x1000 x1001 x1002).bind fun bt811 => (if x3.length < 4398046511104 then (spec_l39List.l0 k (x3 ++ [(⟨bt811.1, bt811.2.1, bt811.2.2.1, bt811.2.2.2.1⟩ : S26)]) x4 (wrap64 (x5 + 1)) x1000 bt811.2.2.2.2.1 bt811.2.2.2.2.2) else (none))) else (some (x3, x1001, x1002))
def spec_l39List.f (k : Nat) (s0_0 : List Int) (s0_1 : Int) (s0_2 : Int) : Option ((List (S26)) × Int × Int) := (spec_l01Below.f s0_0 s0_1 s0_2 26).bind fun bt808 => (spec_l39List.l0 k (([] : List (S26))) bt808.1 0 s0_0 bt808.2.1 bt808.2.2)
set_option maxHeartbeats 8000000 in
set_option maxRecDepth 100000 in
theorem spec_l39List.calls (k : Nat) (g : Nat) (s0_0 : List Int) (s0_1 : Int) (s0_2 : Int) (r1 : List (S26)) (r2 : Int) (r3 : Int) (w0 w : World) (hI : IsS105 w0 w g s0_0 s0_1 s0_2) (hB : Below w0.heap.size w0 w) (h : spec_l39List.f k s0_0 s0_1 s0_2 = some (r1, r2, r3)) :
  Calls Tryd.prog 39 #[.pointer (some ⟨g, 0, none⟩)] w fun e w' => ∃ v0_ : Value, e = .returned (v0_) ∧ Kd.R k26 26 w' w.heap.size (fun _ => True) v0_ r1 ∧ IsS105 w0 w' g s0_0 r2 r3 ∧ Below w0.heap.size w0 w' ∧ KeepBut w w' g none := by
 have hu26 := Tryd.underlying26
 have HI0 := A_ hI
 have HK := A_ (KeepBut.refl w g none)
 have HL := A_ hB.size
 clear hI
 have HW0 := A_ hB.size
 have HB := A_ hB
 clear hB
 have H : ((spec_l01Below.f s0_0 s0_1 s0_2 26).bind fun bt808 => (spec_l39List.l0 k (([] : List (S26))) bt808.1 0 s0_0 bt808.2.1 bt808.2.2)) = some (r1, r2, r3) := h
 clear h
 obtain ⟨y805, hy805⟩ : ∃ y_ : List (S26), y_ = (([] : List (S26))) := ⟨_, rfl⟩
 replace H : ((spec_l01Below.f s0_0 s0_1 s0_2 26).bind fun bt808 => (spec_l39List.l0 k y805 bt808.1 0 s0_0 bt808.2.1 bt808.2.2)) = some (r1, r2, r3) := by first | (rw [hy805]; with_reducible exact H) | (have H2_ := (Option.bind_some _ _).symm.trans H; rw [hy805]; with_reducible exact H2_) | (have H2_ := (Option.bind_some _ _).symm.trans H; with_reducible exact H2_) | with_reducible exact H | (rw [hy805]; exact H) | exact H
 have Ny805 := A_ hy805
 clear hy805
 replace H := Option.bind_eq_some_iff.mp H
 obtain ⟨⟨t808, t809, t810⟩, A20, H⟩ := H
 (try dsimp only at H)
 have A2 := A_ A20
 clear A20
 have H' := A_ H
 clear H
 go_enter Tryd.func39, Tryd.ntmps39
 go_wp2_with (first | ((with_reducible refine gate_dst (N := 7) rfl ?_); refine Kd.R_lit k26 _ 26 ?hg (N := 7) ?hd (xs := ([] : List (S26))) (inner := []) (ok := fun _ => True) (okp := fun _ => True) ?hr ?hp (fun _ hk => hk) trivial (Below.refl _ _) (Nat.le_refl _) (by simp) ?_; (case hd => rfl); (case hg => rfl); (case hr => first | (go_simp; done) | (go_simp; rfl)); (case hp => exact (Reps.none _ _)); intro v806 w3 ho4 hb hg_ hnew_; clear hg_ hnew_; (first | rw [← Ny805.out] at ho4 | (simp only [Int.reduceToNat] at ho4; rw [← Ny805.out] at ho4)); have n0_ := A_ (Kd.R_lower ho4 (keep_size (w := w) (g := g) (row := none) (by repeat (first | (with_reducible first | exact HK.out | apply KeepBut.set_ | apply keep_drewN | apply keep_drew | apply keep_alloc) | exact HK.out)))); have n1_ := A_ (IsS105.below (oI105 HI0) hb); have n2_ := A_ (KeepBut.trans (oKe HK) (KeepBut.of_below hb g none) (.inl rfl)); have n3_ := A_ (below_step (oB105 HB) hb); clear HI0; clear HK; clear HB; have HO807 := n0_; have HI0 := n1_; have HK := n2_; have HB := n3_; clear n0_ n1_ n2_ n3_; clear hb ho4) | ((with_reducible refine gate_callee (f := 66) rfl ?_); refine gL (some 9) Tryd.func66 #[.pointer (some ⟨g, 0, none⟩), .int .i64 26] ?_; (with_reducible refine (spec_l01Below.calls g s0_0 s0_1 s0_2 26 t808 t809 t810 w0 _ ?side1 ?side2 A2.out).mono ?_); (case side1 => exact oI105 HI0); (case side2 => exact oB105 HB); rintro e w5 ⟨rfl, hi, hb, hk⟩; refine ⟨_, rfl, ?_⟩; have n0_ := A_ (Kd.R_mono (Kd.R_keep (IsS105.apart (show IsS105 w0 _ g s0_0 s0_1 s0_2 from oI105 HI0) (oR HO807) (by decide)) hk (fun _ h => h.2)) (fun _ h => h.1)); have n1_ := A_ (KeepBut.trans (oKe HK) hk (.inl rfl)); have n2_ := A_ (hb); have n3_ := A_ (hi); clear HO807; clear HK; clear HB; clear HI0; have HO807 := n0_; have HK := n1_; have HB := n2_; have HI0 := n3_; clear n0_ n1_ n2_ n3_; (try clear hb); (try clear hb2); (try clear hk); (try clear hi)))
 go_loopg [3, 5] k (fun kq v3 v5 w' => ∃ (x3_1 : List (S26)) (x5_1 : Int) (x1001_1 : Int) (x1002_1 : Int), v5 = .int .i64 x5_1 ∧ Aside0 (spec_l39List.l0 kq x3_1 t808 x5_1 s0_0 x1001_1 x1002_1 = some (r1, r2, r3)) ∧ Aside0 (kq ≤ k) ∧ Aside0 (Kd.R k26 26 w' w.heap.size (fun _ => True) v3 x3_1) ∧ Aside0 (IsS105 w0 w' g s0_0 x1001_1 x1002_1) ∧ Aside0 (KeepBut w w' g none) ∧ Aside0 (Below w0.heap.size w0 w'))
 case atStart => exact ⟨(y805), (0), (t809), (t810), (by first | rfl | (simp; done) | (simp [*]; done)), H', ⟨Nat.le_refl _⟩, ⟨oR HO807⟩, ⟨oI105 HI0⟩, ⟨oKe HK⟩, ⟨oB105 HB⟩⟩
 case round =>
  clear H'
  try clear p2
  try clear c3
  obtain ⟨x3_1, x5_1, x1001_1, x1002_1, rfl, HA, HK1, HO_3, HI0, HK, HB⟩ := hrel
  cases gk with
  | zero => exact absurd HA.out (by simp [spec_l39List.l0])
  | succ k1 =>
   have H := HA.out
   clear HA
   simp only [spec_l39List.l0] at H
   by_cases c6 : x5_1 < t808
   ·rw [if_pos c6] at H
    have c6b0 : decide (x5_1 < t808) = true := decide_eq_true c6
    clear c6
    replace H := Option.bind_eq_some_iff.mp H
    obtain ⟨⟨t811, t812, t813, t814, t815, t816⟩, A70, H⟩ := H
    (try dsimp only at H)
    have A7 := A_ A70
    clear A70
    by_cases c8 : x3_1.length < 4398046511104
    ·rw [if_pos c8] at H
     have LMc8 := A_ c8
     clear c8
     obtain ⟨y818, hy818⟩ : ∃ y_ : List (S26), y_ = (x3_1 ++ [(⟨t811, t812, t813, t814⟩ : S26)]) := ⟨_, rfl⟩
     replace H : (spec_l39List.l0 k1 y818 t808 (wrap64 (x5_1 + 1)) s0_0 t815 t816) = some (r1, r2, r3) := by first | (rw [hy818]; with_reducible exact H) | (have H2_ := (Option.bind_some _ _).symm.trans H; rw [hy818]; with_reducible exact H2_) | (have H2_ := (Option.bind_some _ _).symm.trans H; with_reducible exact H2_) | with_reducible exact H | (rw [hy818]; exact H) | exact H
     have Ny818 := A_ hy818
     clear hy818
     have H' := A_ H
     clear H
     go_wp2_with (first | ((with_reducible refine gate_callee (f := 67) rfl ?_); refine gL (some 16) Tryd.func67 #[.pointer (some ⟨g, 0, none⟩)] ?_; (with_reducible refine (spec_l39Act.calls g s0_0 x1001_1 x1002_1 t811 t812 t813 t814 t815 t816 w0 _ ?side1 ?side2 A7.out).mono ?_); (case side1 => exact oI105 HI0); (case side2 => exact oB105 HB); rintro e w9 ⟨rfl, hi, hb, hk⟩; refine ⟨_, rfl, ?_⟩; have n0_ := A_ (Kd.R_mono (Kd.R_keep (IsS105.apart (show IsS105 w0 _ g s0_0 x1001_1 x1002_1 from oI105 HI0) (oR HO_3) (by decide)) hk (fun _ h => h.2)) (fun _ h => h.1)); have n1_ := A_ (KeepBut.trans (oKe HK) hk (.inl rfl)); have n2_ := A_ (hb); have n3_ := A_ (hi); clear HO_3; clear HK; clear HB; clear HI0; have HO_3 := n0_; have HK := n1_; have HB := n2_; have HI0 := n3_; clear n0_ n1_ n2_ n3_; (try clear hb); (try clear hb2); (try clear hk); (try clear hi)) | ((with_reducible refine gate_dst (N := 6) rfl ?_); refine bX (N := 6) (cs := #[.int .i64 0, .int .i64 0, .int .i64 0, .int .i64 0]) (t := 26) ?_; intro gb817 hg w10 hbox hb; have n0_ := A_ (Kd.R_below (Kd.R_elderB (oR HO_3) gb817 (Nat.le_of_eq hg.symm)) hb); have n1_ := A_ (IsS105.below (oI105 HI0) hb); have n2_ := A_ (KeepBut.trans (oKe HK) (KeepBut.of_below hb g none) (.inl rfl)); have n3_ := A_ (below_step (oB105 HB) hb); have n4_ := A_ (hbox); have n5_ := A_ ((by rw [hg]; exact (keep_size (w := w) (g := g) (row := none) (by repeat (first | (with_reducible first | exact HK.out | apply KeepBut.set_ | apply keep_drewN | apply keep_drew | apply keep_alloc) | exact HK.out))) : w.heap.size ≤ gb817)); have n6_ := A_ ((Nat.le_trans HW0.out (by rw [hg]; exact (keep_size (w := w) (g := g) (row := none) (by repeat (first | (with_reducible first | exact HK.out | apply KeepBut.set_ | apply keep_drewN | apply keep_drew | apply keep_alloc) | exact HK.out))) : w.heap.size ≤ gb817) : w0.heap.size ≤ gb817)); have n7_ := A_ ((by rw [hg]; exact Nat.ne_of_lt (IsS105.lt (show IsS105 w0 _ g s0_0 t815 t816 from oI105 HI0)) : g ≠ gb817)); have n8_ := A_ ((by rw [hg]; exact Nat.ne_of_gt (IsS105.lt (show IsS105 w0 _ g s0_0 t815 t816 from oI105 HI0)) : gb817 ≠ g)); clear HO_3; clear HI0; clear HK; clear HB; have HO_3 := n0_; have HI0 := n1_; have HK := n2_; have HB := n3_; have BK817 := n4_; have GW817 := n5_; have GE817 := n6_; have NB0_817 := n7_; have NB817_0 := n8_; clear n0_ n1_ n2_ n3_ n4_ n5_ n6_ n7_ n8_; clear hb hbox hg; have hnb11 := NB817_0.out; have hnc11 := NB0_817.out; have hcz12_0 := cz BK817 0; have hcz12_1 := cz BK817 1; have hcz12_2 := cz BK817 2; have hcz12_3 := cz BK817 3; have hfz12_0 := blk_frozen BK817.out 0; have hfz12_1 := blk_frozen BK817.out 1; have hfz12_2 := blk_frozen BK817.out 2; have hfz12_3 := blk_frozen BK817.out 3) | ((with_reducible refine gate_builtin (b := .append) (xs := #[.tmp 17, .tmp 19]) rfl ?_); at_builtin; refine Kd.R_append k26 w.heap.size rfl (.tmp 17) (.tmp 19) 32 26 (.agg #[(.int .i64 0), (.int .i64 0), (.int .i64 0), (.int .i64 0)]) 32 rfl Tryd.underlying32 info26 rfl (by decide) (by omega) u3 x3_1 (⟨t811, t812, t813, t814⟩ : S26) [.int .i64 t811, .int .i64 t812, .int .i64 t813, .int .i64 t814] (fun k_ => k_ ≠ gb817) (fun _ => False) rfl (by first | (go_simp; done) | (go_simp; rfl)) ?aP (fun _ hk => hk.elim) ?aF ?aO (Below.refl _ _) ?aS ?aL ?_; (case aP => exact k26_mkM _ _ _ (⟨t811, t812, t813, t814⟩ : S26)); (case aF => exact (fun k_ hk => Kd.freshB (g := gb817) (o := .cells #[.int .i64 t811, .int .i64 t812, .int .i64 t813, .int .i64 t814] 26 (0, 0)) (by (with_reducible repeat (first | refine blk_drewN ?_ _ | refine blk_drew ?_ | refine blk_alloc ?_ _)); refine blk_put (cs := #[.int .i64 t811, .int .i64 t812, .int .i64 t813, .int .i64 0]) ?_ 3 _ rfl; (with_reducible repeat (first | refine blk_drewN ?_ _ | refine blk_drew ?_ | refine blk_alloc ?_ _)); refine blk_put (cs := #[.int .i64 t811, .int .i64 t812, .int .i64 0, .int .i64 0]) ?_ 2 _ rfl; (with_reducible repeat (first | refine blk_drewN ?_ _ | refine blk_drew ?_ | refine blk_alloc ?_ _)); refine blk_put (cs := #[.int .i64 t811, .int .i64 0, .int .i64 0, .int .i64 0]) ?_ 1 _ rfl; (with_reducible repeat (first | refine blk_drewN ?_ _ | refine blk_drew ?_ | refine blk_alloc ?_ _)); refine blk_put (cs := #[.int .i64 0, .int .i64 0, .int .i64 0, .int .i64 0]) ?_ 0 _ rfl; (with_reducible repeat (first | refine blk_drewN ?_ _ | refine blk_drew ?_ | refine blk_alloc ?_ _)); exact BK817.out) k_ hk)); (case aO => exact (by (with_reducible repeat (first | apply Kd.R_alloc | apply Kd.R_drewN | apply Kd.R_drew)); exact Kd.R_mono (Kd.R_far (p := ⟨gb817, 3, none⟩) (Kd.R_far (p := ⟨gb817, 2, none⟩) (Kd.R_far (p := ⟨gb817, 1, none⟩) (Kd.R_far (p := ⟨gb817, 0, none⟩) (Kd.R_mono HO_3.out (fun k_ hk => (⟨hk, hk.2⟩ : _ ∧ k_ ≠ gb817))) (fun _ hk => hk.2) (.int .i64 t811)) (fun _ hk => hk.2) (.int .i64 t812)) (fun _ hk => hk.2) (.int .i64 t813)) (fun _ hk => hk.2) (.int .i64 t814)) (fun _ hk => hk.1.2))); (case aS => exact (keep_size (w := w) (g := g) (row := none) (by repeat (first | (with_reducible first | exact HK.out | apply KeepBut.set_ | apply keep_drewN | apply keep_drew | apply keep_alloc | refine keep_far ?_ GW817.out _) | exact HK.out)))); (case aL => have := LMc8.out; omega); intro v819 w13 ho hb hg hat; rw [← Ny818.out] at ho; have n0_ := A_ (IsS105.grown (show IsS105 w0 _ g s0_0 t815 t816 from oI105 HI0) hg (IsS105.own_ne HI0.out HO_3.out (by decide))); have n1_ := A_ (blk_grown (g := gb817) (o := .cells #[.int .i64 t811, .int .i64 t812, .int .i64 t813, .int .i64 t814] 26 (0, 0)) (by (with_reducible repeat (first | refine blk_drewN ?_ _ | refine blk_drew ?_ | refine blk_alloc ?_ _)); refine blk_put (cs := #[.int .i64 t811, .int .i64 t812, .int .i64 t813, .int .i64 0]) ?_ 3 _ rfl; (with_reducible repeat (first | refine blk_drewN ?_ _ | refine blk_drew ?_ | refine blk_alloc ?_ _)); refine blk_put (cs := #[.int .i64 t811, .int .i64 t812, .int .i64 0, .int .i64 0]) ?_ 2 _ rfl; (with_reducible repeat (first | refine blk_drewN ?_ _ | refine blk_drew ?_ | refine blk_alloc ?_ _)); refine blk_put (cs := #[.int .i64 t811, .int .i64 0, .int .i64 0, .int .i64 0]) ?_ 1 _ rfl; (with_reducible repeat (first | refine blk_drewN ?_ _ | refine blk_drew ?_ | refine blk_alloc ?_ _)); refine blk_put (cs := #[.int .i64 0, .int .i64 0, .int .i64 0, .int .i64 0]) ?_ 0 _ rfl; (with_reducible repeat (first | refine blk_drewN ?_ _ | refine blk_drew ?_ | refine blk_alloc ?_ _)); exact BK817.out) hg (Kd.R_away HO_3.out (fun _ hk => hk.2))); have n2_ := A_ (below_weaken (oB105 HB) HL.out hb); have n3_ := A_ (KeepBut.trans (oKe HK) (KeepBut.of_grown hg g) (Kd.R_base2 HO_3.out)); have n4_ := A_ (ho); clear HI0; clear BK817; clear HB; clear HK; clear HO_3; have HI0 := n0_; have BK817 := n1_; have HB := n2_; have HK := n3_; have HO820 := n4_; clear n0_ n1_ n2_ n3_ n4_; clear ho hb hg hat))
     go_roundg k1
     case measure => have := HK1.out; omega
     case rel => exact ⟨(y818), (wrap64 (x5_1 + 1)), (t815), (t816), (by first | rfl | (simp; done) | (simp [*]; done)), H', ⟨by have := HK1.out; omega⟩, ⟨by (with_reducible repeat (first | apply Kd.R_alloc | apply Kd.R_drewN | apply Kd.R_drew)); exact Kd.R_mono HO820.out (fun _ hk => trivial)⟩, ⟨oI105 HI0⟩, ⟨oKe HK⟩, ⟨oB105 HB⟩⟩
    ·rw [if_neg c8] at H
     exact absurd H (by simp)
   ·rw [if_neg c6] at H
    have c6b0 : decide (x5_1 < t808) = false := decide_eq_false c6
    clear c6
    simp only [Option.some.injEq, Prod.mk.injEq] at H
    obtain ⟨rfl, rfl, rfl⟩ := H
    go_wp2
    go_ret
    exact ⟨_, eR, oR HO_3, oI105 HI0, oB105 HB, oKe HK⟩
end Go.Proofs.YtojiighpkppckaaDoor.P


namespace Go.Proofs.YtojiighpkppckaaDoor.P
open Go.RowKit Go.Proofs.YtojiighpkppckaaDoorW.PrintWords Go.Proofs.YtojiighpkppckaaDoorW.PrintLast Go.Proofs.YtojiighpkppckaaDoorW.PrintMore
attribute [local go_sem] max2_int min2_int max_two min_two max_three min_three max_four min_four
set_option linter.unusedVariables false
set_option linter.unusedSimpArgs false
def spec_DrawActs.f (k : Nat) (l0 : List Int) : Option ((List (S145)) × Int × List Int × Int × Int × (List (S85)) × (List (S26))) := (spec_l01New.f k l0).bind fun bt822 => ((spec_l39Shop.f k bt822.1 bt822.2.1 bt822.2.2).bind fun bt826 => ((spec_l39List.f k bt822.1 bt826.2.2.2.2.2.2.1 bt826.2.2.2.2.2.2.2).bind fun bt840 => (some (bt826.1, bt826.2.1, bt826.2.2.1, bt826.2.2.2.1, bt826.2.2.2.2.1, bt826.2.2.2.2.2.1, bt840.1))))
set_option maxHeartbeats 8000000 in
set_option maxRecDepth 100000 in
theorem spec_DrawActs.calls (k : Nat) (A0 : Option Addr) (c0 : Nat) (l0 : List Int) (r1 : List (S145)) (r2 : Int) (r3 : List Int) (r4 : Int) (r5 : Int) (r6 : List (S85)) (r7 : List (S26)) (w : World) (hr0 : Kd.C (Kd.int .u8) w A0 l0.length l0) (hc0 : l0.length ≤ c0) (h : spec_DrawActs.f k l0 = some (r1, r2, r3, r4, r5, r6, r7)) :
  Calls Tryd.prog 17 #[.slice A0 l0.length c0] w fun e w' => ∃ v0_ v2_ v5_ v6_ : Value, e = .returned (.tuple #[.agg #[v0_, .int .i64 r2, v2_, .int .i64 r4, .int .i64 r5, v5_], v6_]) ∧ Kd.R k145 145 w' w.heap.size (fun _ => True) v0_ r1 ∧ Kd.R (Kd.int .i64) 3 w' w.heap.size (fun _ => True) v2_ r3 ∧ Kd.R k85 85 w' w.heap.size (fun _ => True) v5_ r6 ∧ Kd.R k26 26 w' w.heap.size (fun _ => True) v6_ r7 ∧ Below w.heap.size w w' := by
 have hu44 := Tryd.underlying44
 have HR0 := A_ hr0
 have HC0 := A_ hc0
 clear hr0 hc0
 have HB := A_ (Below.refl w.heap.size w)
 have H : ((spec_l01New.f k l0).bind fun bt822 => ((spec_l39Shop.f k bt822.1 bt822.2.1 bt822.2.2).bind fun bt826 => ((spec_l39List.f k bt822.1 bt826.2.2.2.2.2.2.1 bt826.2.2.2.2.2.2.2).bind fun bt840 => (some (bt826.1, bt826.2.1, bt826.2.2.1, bt826.2.2.2.1, bt826.2.2.2.2.1, bt826.2.2.2.2.2.1, bt840.1))))) = some (r1, r2, r3, r4, r5, r6, r7) := h
 clear h
 replace H := Option.bind_eq_some_iff.mp H
 obtain ⟨⟨t822, t823, t824⟩, A20, H⟩ := H
 (try dsimp only at H)
 have A2 := A_ A20
 clear A20
 replace H := Option.bind_eq_some_iff.mp H
 obtain ⟨⟨t826, t829, t830, t833, t834, t835, t838, t839⟩, A30, H⟩ := H
 (try dsimp only at H)
 have A3 := A_ A30
 clear A30
 replace H := Option.bind_eq_some_iff.mp H
 obtain ⟨⟨t840, t843, t844⟩, A40, H⟩ := H
 (try dsimp only at H)
 have A4 := A_ A40
 clear A40
 simp only [Option.some.injEq, Prod.mk.injEq] at H
 obtain ⟨rfl, rfl, rfl, rfl, rfl, rfl, rfl⟩ := H
 go_enter Tryd.func17, Tryd.ntmps17
 go_wp2_with (first | ((with_reducible refine gate_dst (N := 2) rfl ?_); refine bX (N := 2) (cs := #[.slice none 0 0, .int .i64 0, .slice none 0 0, .int .i64 0, .int .i64 0, .slice none 0 0]) (t := 44) ?_; intro gb821 hg w5 hbox hb; have n0_ := A_ (below_step (oB HB) hb); have n1_ := A_ (hbox); have n2_ := A_ ((by rw [hg]; exact (below_size (oB HB)) : w.heap.size ≤ gb821)); have n3_ := A_ ((by rw [hg]; exact (below_size (oB HB)) : w.heap.size ≤ gb821)); clear HB; have HB := n0_; have BK821 := n1_; have GW821 := n2_; have GE821 := n3_; clear n0_ n1_ n2_ n3_; clear hb hbox hg) | ((with_reducible refine gate_callee (f := 37) rfl ?_); refine gL (some 6) Tryd.func37 #[.slice A0 l0.length c0] ?_; (with_reducible refine (spec_l01New.calls k _ _ l0 t822 t823 t824 w _ ?side1 ?side2 ?side3 A2.out).mono ?_); (case side1 => repeat (first | (with_reducible first | exact HB.out | apply below_alloc | apply pw_below_drewN | apply below_drew1 | refine below_set ?_ GE821.out) | exact HB.out)); (case side2 => exact HR0.out); (case side3 => exact HC0.out); rintro e w6 ⟨g825, rfl, hi, hb, hb2⟩; refine ⟨_, rfl, ?_⟩; have n0_ := A_ (bb BK821 hb2); have n1_ := A_ (hb); have n2_ := A_ (hi); have n3_ := A_ (IsS105.ne_blk hi (bb BK821 hb2) (by decide)); have n4_ := A_ (Ne.symm (IsS105.ne_blk hi (bb BK821 hb2) (by decide))); clear BK821; clear HB; have BK821 := n0_; have HB := n1_; have HI825 := n2_; have NB825_821 := n3_; have NB821_825 := n4_; clear n0_ n1_ n2_ n3_ n4_; (try clear hb); (try clear hb2); (try clear hk); (try clear hi)) | ((with_reducible refine gate_callee (f := 38) rfl ?_); refine gL (some 8) Tryd.func38 #[.pointer (some ⟨g825, 0, none⟩)] ?_; (with_reducible refine (spec_l39Shop.calls k g825 t822 t823 t824 t826 t829 t830 t833 t834 t835 t838 t839 w _ ?side1 ?side2 A3.out).mono ?_); (case side1 => exact oI105 HI825); (case side2 => exact oB105 HB); rintro e w7 ⟨v827, v831, v836, rfl, ho0, ho1, ho2, hi, hb, hk⟩; refine ⟨_, rfl, ?_⟩; have n0_ := A_ (KeepBut.blk hk (g' := gb821) (o := .cells #[.slice none 0 0, .int .i64 0, .slice none 0 0, .int .i64 0, .int .i64 0, .slice none 0 0] 44 (0, 0)) (oK BK821) NB821_825.out (by simp)); have n1_ := A_ (Kd.R_lower ho0 (below_size (oB105 HB))); have n2_ := A_ (Kd.R_lower ho1 (below_size (oB105 HB))); have n3_ := A_ (Kd.R_lower ho2 (below_size (oB105 HB))); have n4_ := A_ (hb); have n5_ := A_ (hi); clear BK821; clear HB; clear HI825; have BK821 := n0_; have HO828 := n1_; have HO832 := n2_; have HO837 := n3_; have HB := n4_; have HI825 := n5_; clear n0_ n1_ n2_ n3_ n4_ n5_; (try clear hb); (try clear hb2); (try clear hk); (try clear hi); (try clear ho0); (try clear ho1); (try clear ho2)) | ((with_reducible refine gate_callee (f := 39) rfl ?_); refine gL (some 10) Tryd.func39 #[.pointer (some ⟨g825, 0, none⟩)] ?_; (with_reducible refine (spec_l39List.calls k g825 t822 t838 t839 t840 t843 t844 w _ ?side1 ?side2 A4.out).mono ?_); (case side1 => exact oI105 HI825); (case side2 => exact oB105 HB); rintro e w8 ⟨v841, rfl, ho0, hi, hb, hk⟩; refine ⟨_, rfl, ?_⟩; have n0_ := A_ (KeepBut.blk hk (g' := gb821) (o := .cells #[.slice none 0 0, .int .i64 0, .slice none 0 0, .int .i64 0, .int .i64 0, .slice none 0 0] 44 (0, 0)) (oK BK821) NB821_825.out (by simp)); have n1_ := A_ (Kd.R_mono (Kd.R_keep (IsS105.apart (show IsS105 w _ g825 t822 t838 t839 from oI105 HI825) (oR HO828) (by decide)) hk (fun _ h => h.2)) (fun _ h => h.1)); have n2_ := A_ (Kd.R_mono (Kd.R_keep (IsS105.apart (show IsS105 w _ g825 t822 t838 t839 from oI105 HI825) (oR HO832) (by decide)) hk (fun _ h => h.2)) (fun _ h => h.1)); have n3_ := A_ (Kd.R_mono (Kd.R_keep (IsS105.apart (show IsS105 w _ g825 t822 t838 t839 from oI105 HI825) (oR HO837) (by decide)) hk (fun _ h => h.2)) (fun _ h => h.1)); have n4_ := A_ (Kd.R_lower ho0 (below_size (oB105 HB))); have n5_ := A_ (hb); have n6_ := A_ (hi); clear BK821; clear HO828; clear HO832; clear HO837; clear HB; clear HI825; have BK821 := n0_; have HO828 := n1_; have HO832 := n2_; have HO837 := n3_; have HO842 := n4_; have HB := n5_; have HI825 := n6_; clear n0_ n1_ n2_ n3_ n4_ n5_ n6_; (try clear hb); (try clear hb2); (try clear hk); (try clear hi); (try clear ho0); obtain ⟨Ao9, co9, eo9⟩ := Kd.R_slice HO828.out; subst eo9; have hnb10 := NB821_825.out; have hnc10 := NB825_821.out; have hcz11_0 := cz BK821 0; have hcz11_1 := cz BK821 1; have hcz11_2 := cz BK821 2; have hcz11_3 := cz BK821 3; have hcz11_4 := cz BK821 4; have hcz11_5 := cz BK821 5; have hfz11_0 := blk_frozen BK821.out 0; have hfz11_1 := blk_frozen BK821.out 1; have hfz11_2 := blk_frozen BK821.out 2; have hfz11_3 := blk_frozen BK821.out 3; have hfz11_4 := blk_frozen BK821.out 4; have hfz11_5 := blk_frozen BK821.out 5; obtain ⟨Ao12, co12, eo12⟩ := Kd.R_slice HO832.out; subst eo12; obtain ⟨Ao13, co13, eo13⟩ := Kd.R_slice HO837.out; subst eo13))
 refine bodyPost_ret (results_ct rfl _ _ gb821 44 #[.slice Ao9 t826.length co9, .int .i64 t829, .slice Ao12 t830.length co12, .int .i64 t833, .int .i64 t834, .slice Ao13 t835.length co13] (0, 0) _ rfl (by (with_reducible repeat (first | refine blk_drewN ?_ _ | refine blk_drew ?_ | refine blk_alloc ?_ _)); refine blk_put (cs := #[.slice Ao9 t826.length co9, .int .i64 t829, .slice Ao12 t830.length co12, .int .i64 t833, .int .i64 t834, .slice none 0 0]) ?_ 5 _ rfl; (with_reducible repeat (first | refine blk_drewN ?_ _ | refine blk_drew ?_ | refine blk_alloc ?_ _)); refine blk_put (cs := #[.slice Ao9 t826.length co9, .int .i64 t829, .slice Ao12 t830.length co12, .int .i64 t833, .int .i64 0, .slice none 0 0]) ?_ 4 _ rfl; (with_reducible repeat (first | refine blk_drewN ?_ _ | refine blk_drew ?_ | refine blk_alloc ?_ _)); refine blk_put (cs := #[.slice Ao9 t826.length co9, .int .i64 t829, .slice Ao12 t830.length co12, .int .i64 0, .int .i64 0, .slice none 0 0]) ?_ 3 _ rfl; (with_reducible repeat (first | refine blk_drewN ?_ _ | refine blk_drew ?_ | refine blk_alloc ?_ _)); refine blk_put (cs := #[.slice Ao9 t826.length co9, .int .i64 t829, .slice none 0 0, .int .i64 0, .int .i64 0, .slice none 0 0]) ?_ 2 _ rfl; (with_reducible repeat (first | refine blk_drewN ?_ _ | refine blk_drew ?_ | refine blk_alloc ?_ _)); refine blk_put (cs := #[.slice Ao9 t826.length co9, .int .i64 0, .slice none 0 0, .int .i64 0, .int .i64 0, .slice none 0 0]) ?_ 1 _ rfl; (with_reducible repeat (first | refine blk_drewN ?_ _ | refine blk_drew ?_ | refine blk_alloc ?_ _)); refine blk_put (cs := #[.slice none 0 0, .int .i64 0, .slice none 0 0, .int .i64 0, .int .i64 0, .slice none 0 0]) ?_ 0 _ rfl; (with_reducible repeat (first | refine blk_drewN ?_ _ | refine blk_drew ?_ | refine blk_alloc ?_ _)); exact BK821.out) Tryd.underlying44 rfl (by kernel_rfl)) rfl ?_
 exact ⟨_, _, _, _, eR, by (with_reducible repeat (first | apply Kd.R_alloc | apply Kd.R_drewN | apply Kd.R_drew)); exact Kd.R_mono (Kd.R_far (p := ⟨gb821, 5, none⟩) (Kd.R_far (p := ⟨gb821, 4, none⟩) (Kd.R_far (p := ⟨gb821, 3, none⟩) (Kd.R_far (p := ⟨gb821, 2, none⟩) (Kd.R_far (p := ⟨gb821, 1, none⟩) (Kd.R_far (p := ⟨gb821, 0, none⟩) (Kd.R_types HO828.out BK821.out (by decide)) (fun _ hk => hk.2) (.slice Ao9 t826.length co9)) (fun _ hk => hk.2) (.int .i64 t829)) (fun _ hk => hk.2) (.slice Ao12 t830.length co12)) (fun _ hk => hk.2) (.int .i64 t833)) (fun _ hk => hk.2) (.int .i64 t834)) (fun _ hk => hk.2) (.slice Ao13 t835.length co13)) (fun _ hk => trivial), by (with_reducible repeat (first | apply Kd.R_alloc | apply Kd.R_drewN | apply Kd.R_drew)); exact Kd.R_mono (Kd.R_far (p := ⟨gb821, 5, none⟩) (Kd.R_far (p := ⟨gb821, 4, none⟩) (Kd.R_far (p := ⟨gb821, 3, none⟩) (Kd.R_far (p := ⟨gb821, 2, none⟩) (Kd.R_far (p := ⟨gb821, 1, none⟩) (Kd.R_far (p := ⟨gb821, 0, none⟩) (Kd.R_types HO832.out BK821.out (by decide)) (fun _ hk => hk.2) (.slice Ao9 t826.length co9)) (fun _ hk => hk.2) (.int .i64 t829)) (fun _ hk => hk.2) (.slice Ao12 t830.length co12)) (fun _ hk => hk.2) (.int .i64 t833)) (fun _ hk => hk.2) (.int .i64 t834)) (fun _ hk => hk.2) (.slice Ao13 t835.length co13)) (fun _ hk => trivial), by (with_reducible repeat (first | apply Kd.R_alloc | apply Kd.R_drewN | apply Kd.R_drew)); exact Kd.R_mono (Kd.R_far (p := ⟨gb821, 5, none⟩) (Kd.R_far (p := ⟨gb821, 4, none⟩) (Kd.R_far (p := ⟨gb821, 3, none⟩) (Kd.R_far (p := ⟨gb821, 2, none⟩) (Kd.R_far (p := ⟨gb821, 1, none⟩) (Kd.R_far (p := ⟨gb821, 0, none⟩) (Kd.R_types HO837.out BK821.out (by decide)) (fun _ hk => hk.2) (.slice Ao9 t826.length co9)) (fun _ hk => hk.2) (.int .i64 t829)) (fun _ hk => hk.2) (.slice Ao12 t830.length co12)) (fun _ hk => hk.2) (.int .i64 t833)) (fun _ hk => hk.2) (.int .i64 t834)) (fun _ hk => hk.2) (.slice Ao13 t835.length co13)) (fun _ hk => trivial), by (with_reducible repeat (first | apply Kd.R_alloc | apply Kd.R_drewN | apply Kd.R_drew)); exact Kd.R_mono (Kd.R_far (p := ⟨gb821, 5, none⟩) (Kd.R_far (p := ⟨gb821, 4, none⟩) (Kd.R_far (p := ⟨gb821, 3, none⟩) (Kd.R_far (p := ⟨gb821, 2, none⟩) (Kd.R_far (p := ⟨gb821, 1, none⟩) (Kd.R_far (p := ⟨gb821, 0, none⟩) (Kd.R_types HO842.out BK821.out (by decide)) (fun _ hk => hk.2) (.slice Ao9 t826.length co9)) (fun _ hk => hk.2) (.int .i64 t829)) (fun _ hk => hk.2) (.slice Ao12 t830.length co12)) (fun _ hk => hk.2) (.int .i64 t833)) (fun _ hk => hk.2) (.int .i64 t834)) (fun _ hk => hk.2) (.slice Ao13 t835.length co13)) (fun _ hk => trivial), oB105 HB⟩
end Go.Proofs.YtojiighpkppckaaDoor.P


namespace Go.Proofs.YtojiighpkppckaaDoor.P
open Go.RowKit Go.Proofs.YtojiighpkppckaaDoorW.PrintWords Go.Proofs.YtojiighpkppckaaDoorW.PrintLast Go.Proofs.YtojiighpkppckaaDoorW.PrintMore Go.Proofs.YtojiighpkppckaaDoor.V
attribute [local go_sem] cell_b frozen_b
attribute [local go_sem] max2_int min2_int max_two min_two max_three min_three max_four min_four
set_option linter.unusedVariables false
set_option linter.unusedSimpArgs false
def strings_Join.f (l0 : List ByteArray) (a1 : ByteArray) : Option (ByteArray) := if l0.length ≤ 140737488355328 ∧ (Go.Lib.join (l0.map (·.data.toList)) a1.data.toList).length ≤ 140737488355328 then some ⟨(Go.Lib.join (l0.map (·.data.toList)) a1.data.toList).toArray⟩ else none
theorem strings_Join.calls (A0 : Option Addr) (c0 : Nat) (l0 : List ByteArray) (a1 : ByteArray) (r : ByteArray) (w : World) (hr0 : Kd.C Kd.string w A0 l0.length l0) (hc0 : l0.length ≤ c0) (h : strings_Join.f l0 a1 = some r) :
  Calls Tryd.prog 58 #[.slice A0 l0.length c0, .string a1] w fun e w' => e = .returned (.string r) ∧ Below w.heap.size w w' := by
 unfold strings_Join.f at h
 by_cases hc : l0.length ≤ 140737488355328 ∧ (Go.Lib.join (l0.map (·.data.toList)) a1.data.toList).length ≤ 140737488355328
 rotate_left
 ·rw [if_neg hc] at h; cases h
 rw [if_pos hc] at h
 obtain rfl := Option.some.inj h
 by_cases hz : l0.length = 0
 ·obtain rfl : l0 = [] := List.eq_nil_of_length_eq_zero hz
  exact (Any.strings_Join_none st156 sx156 A0 c0 a1 w).mono fun e w' ⟨he, hw⟩ => ⟨he, hw ▸ Below.refl _ _⟩
 ·obtain ⟨ad, rfl, hcell⟩ := (Kd.reads_of_C (d := ByteArray.empty) hr0).2.2 (by omega)
  have h0 := hcell 0 (by omega)
  obtain ⟨bk, o, sp⟩ := ad
  obtain rfl : sp = none := by
   cases sp with
   | none => rfl
   | some x => unfold World.cell? at h0; simp only [Addr.add] at h0; split at h0 <;> simp at h0
  refine Any.strings_Join st156 sx156 bk o c0 l0 a1 w (fun j x hx => ?_) (World.block_lt_of_cell? w _ h0) hc.1 hc0 hc.2
  have hj : j < l0.length := by
   rcases Nat.lt_or_ge j l0.length with h' | h'
   ·exact h'
   ·rw [List.getElem?_eq_none h'] at hx; cases hx
  have h1 := hcell j hj
  rw [List.getD_eq_getElem?_getD, hx] at h1
  by_cases hj0 : j = 0
  ·subst hj0; simpa [Addr.add] using h1
  ·simpa [Addr.add, hj0] using h1
end Go.Proofs.YtojiighpkppckaaDoor.P


namespace Go.Proofs.YtojiighpkppckaaDoor.P
open Go.RowKit Go.Proofs.YtojiighpkppckaaDoorW.PrintWords Go.Proofs.YtojiighpkppckaaDoorW.PrintLast Go.Proofs.YtojiighpkppckaaDoorW.PrintMore Go.Proofs.YtojiighpkppckaaDoor.V
attribute [local go_sem] cell_b frozen_b
attribute [local go_sem] max2_int min2_int max_two min_two max_three min_three max_four min_four
set_option linter.unusedVariables false
set_option linter.unusedSimpArgs false
def impl_words.l0 : Nat → List ByteArray → List Int → Int → Int → Option (ByteArray)
 | 0, _, _, _, _ => none
 | k + 1, x3, x7, x8, x9 => if x9 < x8 then (if 0 ≤ x9 then (if x9 < (x7.length : Int) then ((impl_FormatInt.f (rd x7 x9)).bind fun t167 => (if x3.length < 8796093022208 then (impl_words.l0 k (x3 ++ [t167]) x7 x8 (wrap64 (x9 + 1))) else (none))) else (none)) else (none)) else ((strings_Join.f x3 (⟨#[32]⟩ : ByteArray)).bind fun t171 => (some t171))
def impl_words.f (k : Nat) (l0 : List Int) : Option (ByteArray) := impl_words.l0 k (([] : List ByteArray)) l0 (l0.length : Int) 0
set_option maxHeartbeats 8000000 in
set_option maxRecDepth 100000 in
theorem impl_words.calls (k : Nat) (A0 : Option Addr) (c0 : Nat) (l0 : List Int) (r : ByteArray) (w : World) (hr0 : Kd.C (Kd.int .i64) w A0 l0.length l0) (hc0 : l0.length ≤ c0) (h : impl_words.f k l0 = some r) (ht_ : Aside0 (Tab w)) :
  Calls Tryd.prog 34 #[.slice A0 l0.length c0] w fun e w' => e = .returned (.string r) ∧ Below w.heap.size w w' := by
 have HR0 := A_ hr0
 have HC0 := A_ hc0
 clear hr0 hc0
 have HB := A_ (Below.refl w.heap.size w)
 have H : (impl_words.l0 k (([] : List ByteArray)) l0 (l0.length : Int) 0) = some r := h
 clear h
 obtain ⟨y163, hy163⟩ : ∃ y_ : List ByteArray, y_ = (([] : List ByteArray)) := ⟨_, rfl⟩
 replace H : (impl_words.l0 k y163 l0 (l0.length : Int) 0) = some r := by first | (rw [hy163]; with_reducible exact H) | (have H2_ := (Option.bind_some _ _).symm.trans H; rw [hy163]; with_reducible exact H2_) | (have H2_ := (Option.bind_some _ _).symm.trans H; with_reducible exact H2_) | with_reducible exact H | (rw [hy163]; exact H) | exact H
 have Ny163 := A_ hy163
 clear hy163
 have H' := A_ H
 clear H
 go_enter Tryd.func34, Tryd.ntmps34
 go_wp2_with (first | ((with_reducible refine gate_dst (N := 6) rfl ?_); refine Kd.R_lit Kd.string _ 9 ?hg (N := 6) ?hd (xs := ([] : List ByteArray)) (inner := []) (ok := fun _ => True) (okp := fun _ => True) ?hr ?hp (fun _ hk => hk) trivial (Below.refl _ _) (Nat.le_refl _) (by simp) ?_; (case hd => rfl); (case hg => rfl); (case hr => first | (go_simp; done) | (go_simp; rfl)); (case hp => exact (Reps.none _ _)); intro v164 w2 ho3 hb hg_ hnew_; clear hg_ hnew_; (first | rw [← Ny163.out] at ho3 | (simp only [Int.reduceToNat] at ho3; rw [← Ny163.out] at ho3)); have n0_ := A_ (Kd.R_lower ho3 (below_size (oB HB))); have n1_ := A_ (below_step (oB HB) hb); clear HB; have HO165 := n0_; have HB := n1_; clear n0_ n1_; clear hb ho3))
 go_loopg [3, 9] k (fun kq v3 v9 w' => ∃ (x3_1 : List ByteArray) (x9_1 : Int), v9 = .int .i64 x9_1 ∧ Aside0 (impl_words.l0 kq x3_1 l0 (l0.length : Int) x9_1 = some r) ∧ Aside0 (kq ≤ k) ∧ Aside0 (Kd.R Kd.string 9 w' w.heap.size (fun _ => True) v3 x3_1) ∧ Aside0 (Below w.heap.size w w'))
 case atStart => exact ⟨(y163), (0), (by first | rfl | (simp; done) | (simp [*]; done)), H', ⟨Nat.le_refl _⟩, ⟨oR HO165⟩, ⟨oB HB⟩⟩
 case round =>
  clear H'
  try clear p2
  try clear c3
  obtain ⟨x3_1, x9_1, rfl, HA, HK1, HO_3, HB⟩ := hrel
  cases gk with
  | zero => exact absurd HA.out (by simp [impl_words.l0])
  | succ k1 =>
   have H := HA.out
   clear HA
   simp only [impl_words.l0] at H
   by_cases c4 : x9_1 < (l0.length : Int)
   ·rw [if_pos c4] at H
    have c4b0 : decide (x9_1 < (l0.length : Int)) = true := decide_eq_true c4
    clear c4
    by_cases c5 : 0 ≤ x9_1
    ·rw [if_pos c5] at H
     have c5b0 : decide (0 ≤ x9_1) = true := decide_eq_true c5
     clear c5
     by_cases c6 : x9_1 < (l0.length : Int)
     ·rw [if_pos c6] at H
      have c6b0 : decide (x9_1 < (l0.length : Int)) = true := decide_eq_true c6
      clear c6
      replace H := Option.bind_eq_some_iff.mp H
      obtain ⟨t167, A70, H⟩ := H
      (try dsimp only at H)
      have A7 := A_ A70
      clear A70
      by_cases c8 : x3_1.length < 8796093022208
      ·rw [if_pos c8] at H
       have LMc8 := A_ c8
       clear c8
       obtain ⟨y168, hy168⟩ : ∃ y_ : List ByteArray, y_ = (x3_1 ++ [t167]) := ⟨_, rfl⟩
       replace H : (impl_words.l0 k1 y168 l0 (l0.length : Int) (wrap64 (x9_1 + 1))) = some r := by first | (rw [hy168]; with_reducible exact H) | (have H2_ := (Option.bind_some _ _).symm.trans H; rw [hy168]; with_reducible exact H2_) | (have H2_ := (Option.bind_some _ _).symm.trans H; with_reducible exact H2_) | with_reducible exact H | (rw [hy168]; exact H) | exact H
       have Ny168 := A_ hy168
       clear hy168
       have H' := A_ H
       clear H
       have p166 : 0 ≤ (x9_1 : Int) := of_decide_eq_true (by first | (with_reducible assumption) | assumption)
       have q166 : x9_1 < (l0.length : Int) := of_decide_eq_true (by first | (with_reducible assumption) | assumption)
       obtain ⟨ad166, e166, hx166_0⟩ := Kd.at_int HR0.out x9_1 p166 q166
       cases e166
       replace hx166_0 := (HB.out.cell (World.block_lt_of_cell? w _ hx166_0)).trans hx166_0
       replace p166 := eq_true p166
       replace q166 := eq_true q166
       go_wp2_with (first | ((with_reducible refine gate_callee (f := 19) rfl ?_); refine gL (some 15) Tryd.func19 #[.int .i64 (rd l0 x9_1)] ?_; (with_reducible refine (impl_FormatInt.calls (rd l0 x9_1) t167 _ A7.out ?sideT).mono ?_); (case sideT => exact ⟨tab_on ht_.out (oB HB)⟩); rintro e w9 ⟨rfl, hb⟩; refine ⟨_, rfl, ?_⟩; have n0_ := A_ (Kd.R_below (oR HO_3) hb); have n1_ := A_ (below_step (oB HB) hb); clear HO_3; clear HB; have HO_3 := n0_; have HB := n1_; clear n0_ n1_; (try clear hb); (try clear hb2); (try clear hk); (try clear hi)) | ((with_reducible refine gate_builtin (b := .append) (xs := #[.tmp 13, .tmp 16]) rfl ?_); at_builtin; refine Kd.R_append Kd.string (w0 := w) w.heap.size rfl (.tmp 13) (.tmp 16) 47 9 (.string ⟨#[]⟩) 16 rfl Tryd.underlying47 info9 rfl (by decide) (by omega) u3 x3_1 t167 [.string t167] (fun _ => True) (fun _ => False) rfl rfl ?aP (fun _ hk => hk.elim) ?aF ?aO ?aB ?aS ?aL ?_; (case aP => exact rfl); (case aB => exact (oB HB)); (case aF => exact (fun _ _ => trivial)); (case aO => exact (oR HO_3)); (case aS => exact (below_size (oB HB))); (case aL => have := LMc8.out; omega); intro v169 w10 ho hb hg hat; rw [← Ny168.out] at ho; have n0_ := A_ (hb); have n1_ := A_ (ho); clear HB; clear HO_3; have HB := n0_; have HO170 := n1_; clear n0_ n1_; clear ho hb hg hat))
       go_roundg k1
       case measure => have := HK1.out; omega
       case rel => exact ⟨(y168), (wrap64 (x9_1 + 1)), (by first | rfl | (simp; done) | (simp [*]; done)), H', ⟨by have := HK1.out; omega⟩, ⟨oR HO170⟩, ⟨oB HB⟩⟩
      ·rw [if_neg c8] at H
       exact absurd H (by simp)
     ·rw [if_neg c6] at H
      exact absurd H (by simp)
    ·rw [if_neg c5] at H
     exact absurd H (by simp)
   ·rw [if_neg c4] at H
    have c4b0 : decide (x9_1 < (l0.length : Int)) = false := decide_eq_false c4
    clear c4
    replace H := Option.bind_eq_some_iff.mp H
    obtain ⟨t171, A110, H⟩ := H
    (try dsimp only at H)
    have A11 := A_ A110
    clear A110
    obtain rfl := Option.some.inj H
    obtain ⟨Ao12, co12, eo12⟩ := Kd.R_slice HO_3.out
    subst eo12
    go_wp2_with (first | ((with_reducible refine gate_callee (f := 58) rfl ?_); refine gL (some 20) Tryd.func58 #[.slice Ao12 x3_1.length co12, .string (⟨#[32]⟩ : ByteArray)] ?_; (with_reducible refine (strings_Join.calls _ _ x3_1 (⟨#[32]⟩ : ByteArray) t171 _ ?side1 ?side2 A11.out).mono ?_); (case side1 => repeat (first | exact (Kd.R_reads' HO_3.out).2.2 | (with_reducible refine Kd.C_alloc ?_ _) | (with_reducible refine Kd.C_drewN ?_ _) | (with_reducible refine Kd.C_drew ?_))); (case side2 => exact (Kd.R_reads' HO_3.out).2.1); rintro e w13 ⟨rfl, hb⟩; refine ⟨_, rfl, ?_⟩; have n0_ := A_ (Kd.R_below (oR HO_3) hb); have n1_ := A_ (below_step (oB HB) hb); clear HO_3; clear HB; have HO_3 := n0_; have HB := n1_; clear n0_ n1_; (try clear hb); (try clear hb2); (try clear hk); (try clear hi)))
    go_ret
    exact ⟨eR, oB HB⟩
end Go.Proofs.YtojiighpkppckaaDoor.P


namespace Go.Proofs.YtojiighpkppckaaDoor.P
open Go.RowKit Go.Proofs.YtojiighpkppckaaDoorW.PrintWords Go.Proofs.YtojiighpkppckaaDoorW.PrintLast Go.Proofs.YtojiighpkppckaaDoorW.PrintMore
attribute [local go_sem] max2_int min2_int max_two min_two max_three min_three max_four min_four
set_option linter.unusedVariables false
set_option linter.unusedSimpArgs false
def impl_isWarmth.f (a0 : Int) : Option (Bool) := (impl_within.f a0 (-10) 40).bind fun t135 => (some t135)
set_option maxHeartbeats 8000000 in
set_option maxRecDepth 100000 in
theorem impl_isWarmth.calls (a0 : Int) (r : Bool) (w : World) (h : impl_isWarmth.f a0 = some r) :
  Calls Tryd.prog 60 #[.int .i64 a0] w fun e w' => e = .returned (.bool r) ∧ Drawn0 w w' := by
 have H : ((impl_within.f a0 (-10) 40).bind fun t135 => (some t135)) = some r := h
 clear h
 replace H := Option.bind_eq_some_iff.mp H
 obtain ⟨t135, A20, H⟩ := H
 (try dsimp only at H)
 have A2 := A_ A20
 clear A20
 obtain rfl := Option.some.inj H
 go_enter Tryd.func60, Tryd.ntmps60
 go_wp2_with (first | ((with_reducible refine gate_callee (f := 61) rfl ?_); refine gL (some 4) Tryd.func61 #[.int .i64 a0, .int .i64 (-10), .int .i64 40] ?_; (with_reducible refine (impl_within.calls a0 (-10) 40 t135 _ A2.out).mono ?_); rintro e w' ⟨rfl, ⟨nd, rfl⟩⟩; refine ⟨_, rfl, ?_⟩))
 go_ret
 exact ⟨by first | rfl | (simp; done) | (simp [*]; done), by repeat (first | exact Drawn0.refl _ | apply Drawn0.step)⟩
end Go.Proofs.YtojiighpkppckaaDoor.P


namespace Go.Proofs.YtojiighpkppckaaDoor.P
open Go.RowKit Go.Proofs.YtojiighpkppckaaDoorW.PrintWords Go.Proofs.YtojiighpkppckaaDoorW.PrintLast Go.Proofs.YtojiighpkppckaaDoorW.PrintMore Go.Proofs.YtojiighpkppckaaDoor.V
attribute [local go_sem] cell_b frozen_b
attribute [local go_sem] max2_int min2_int max_two min_two max_three min_three max_four min_four
set_option linter.unusedVariables false
set_option linter.unusedSimpArgs false
def impl_LogOk.f (k : Nat) (l0 : List (S85)) : Option (Bool) := some (Q.logOk l0)
attribute [local go_sem] cellR_c
set_option maxHeartbeats 8000000 in
set_option maxRecDepth 100000 in
set_option synthInstance.maxHeartbeats 400000 in
set_option synthInstance.maxSize 100000 in
theorem impl_LogOk.calls (k : Nat) (A0 : Option Addr) (c0 : Nat) (l0 : List (S85)) (r : Bool) (w : World) (hr0 : Kd.C k85 w A0 l0.length l0) (hc0 : l0.length ≤ c0) (h : impl_LogOk.f k l0 = some r) :
  Calls Tryd.prog 69 #[.slice A0 l0.length c0] w fun e w' => e = .returned (.bool r) ∧ Below w.heap.size w w' := by
 have win : ∀ (a b c : Int) (d : Bool), decide (b ≤ a ∧ a ≤ c) = d → Aside0 (∀ W : World, Calls Tryd.prog 61 #[.int .i64 a, .int .i64 b, .int .i64 c] W fun e w' => e = .returned (.bool d) ∧ Drawn0 W w') := fun a b c d hd =>
  ⟨fun W => impl_within.calls a b c d W (by rw [← hd]; unfold impl_within.f; by_cases hh : b ≤ a <;> simp [hh])⟩
 have hm : l0.length ≤ 9223372036854775807 := Kd.C_max hr0
 have HQ : Aside0 ((Q.logGo (Q.prevM l0 0) (l0.drop 0) && decide (l0.length ≤ 30)) = r) := ⟨Option.some.inj h⟩
 have HR0 := A_ hr0
 have WIN := A_ win
 clear hr0 h win
 have hu := Tryd.underlying85
 go_enter Tryd.func69, Tryd.ntmps69
 go_wp2
 go_loopg [7] (l0.length + 1) (fun kq v7 w' => ∃ (i : Nat), v7 = .int .i64 (i : Int) ∧ Aside0 (i + kq = l0.length + 1) ∧ Aside0 (i ≤ l0.length) ∧ Aside0 ((Q.logGo (Q.prevM l0 i) (l0.drop i) && decide (l0.length ≤ 30)) = r) ∧ Aside0 (Below w.heap.size w w'))
 case atStart => exact ⟨0, rfl, ⟨by omega⟩, ⟨by omega⟩, HQ, ⟨by repeat (first | exact Below.refl _ _ | apply below_alloc | apply pw_below_drewN | apply below_drew1)⟩⟩
 case round =>
  clear HQ
  obtain ⟨i, rfl, HI1, HI2, HQ, HB⟩ := hrel
  have jf : From w wr := ⟨HB.out⟩
  have js : Sz w wr := ⟨HB.out.size⟩
  by_cases hlt : i < l0.length
  rotate_left
  ·have hb3 : decide ((i : Int) < (l0.length : Int)) = false := decide_eq_false (by omega)
   have hb4 : decide (i < l0.length) = false := decide_eq_false (by omega)
   obtain rfl : i = l0.length := by have := HI2.out; omega
   have HX : Aside0 (decide (l0.length ≤ 30) = r) := ⟨by rw [← HQ.out, List.drop_eq_nil_of_le (Nat.le_refl _)]; simp [Q.logGo]⟩
   have hx1 : decide ((l0.length : Int) ≤ 30) = r := by rw [← HX.out]; exact decide_eq_decide.mpr (by omega)
   clear HQ HR0 WIN
   go_wp2
   go_ret
   exact ⟨by first | rfl | (simp [hx1]; done), HB.out⟩
  ·have hb3 : decide ((i : Int) < (l0.length : Int)) = true := decide_eq_true (by omega)
   have hb4 : decide (i < l0.length) = true := decide_eq_true hlt
   obtain ⟨ad, e, hx0, hx1, hx2, hx3⟩ := at_T85 HR0.out (i : Int) (by omega) (by omega)
   cases e
   obtain ⟨x, hx⟩ : ∃ x, rd_T85 l0 (i : Int) = x := ⟨_, rfl⟩
   rw [hx] at hx0 hx1 hx2 hx3
   simp only [Int.toNat_natCast] at hx0 hx1 hx2 hx3
   have j0 : CelR wr _ _ := ⟨(HB.out.cell (World.block_lt_of_cell? w _ hx0)).trans hx0⟩
   have j1 : CelR wr _ _ := ⟨(HB.out.cell (World.block_lt_of_cell? w _ hx1)).trans hx1⟩
   have j2 : CelR wr _ _ := ⟨(HB.out.cell (World.block_lt_of_cell? w _ hx2)).trans hx2⟩
   have j3 : CelR wr _ _ := ⟨(HB.out.cell (World.block_lt_of_cell? w _ hx3)).trans hx3⟩
   have e0 : l0[i] = x := by rw [← hx]; simp [rd_T85, List.getD_eq_getElem?_getD, hlt]
   have HD := A_ (Q.logGo_at l0 i hlt)
   rw [e0] at HD
   obtain ⟨b1, hb1⟩ : ∃ b, decide (0 ≤ x.f0.f0 ∧ x.f0.f0 ≤ 3) = b := ⟨_, rfl⟩
   obtain ⟨b2, hb2⟩ : ∃ b, decide (0 ≤ x.f0.f1 ∧ x.f0.f1 ≤ 39) = b := ⟨_, rfl⟩
   obtain ⟨b3, hb3'⟩ : ∃ b, decide (0 ≤ x.f1 ∧ x.f1 ≤ 2) = b := ⟨_, rfl⟩
   obtain ⟨b4, hb4'⟩ : ∃ b, decide (0 ≤ x.f2 ∧ x.f2 ≤ 100000) = b := ⟨_, rfl⟩
   have W1 := WIN.out _ _ _ _ hb1
   have W2 := WIN.out _ _ _ _ hb2
   have W3 := WIN.out _ _ _ _ hb3'
   have W4 := WIN.out _ _ _ _ hb4'
   have HE : Aside0 (Q.entOk x = (b1 && (b2 && (b3 && b4)))) := ⟨by rw [← hb1, ← hb2, ← hb3', ← hb4']; rfl⟩
   have HP : Aside0 (0 < i → Q.prevM l0 i = (rd_T85 l0 ((i - 1 : Nat) : Int)).f2) := ⟨fun h0 => by rw [Q.prevM_pos l0 i h0 hlt]; simp [rd_T85, List.getD_eq_getElem?_getD, show i - 1 < l0.length by omega]⟩
   have HZ : Aside0 (b4 = true → i = 0 → Q.prevM l0 i ≤ x.f2) := ⟨fun h4 h0 => by subst h0; rw [h4, decide_eq_true_eq] at hb4'; exact hb4'.1⟩
   clear hx hx0 hx1 hx2 hx3 e0 WIN hb1 hb2 hb3' hb4'
   cases b1 with
   | false =>
    obtain rfl : false = r := by rw [← HQ.out, HD.out, HE.out]; rfl
    clear HR0 HQ HD HE HP HZ
    go_wp2_with (first         | ((with_reducible refine gate_dst (N := 4) rfl ?_); refine box_event rfl (N := 4) rfl (cs := #[.int .i64 0, .int .i64 0, .int .i64 0, .int .i64 0]) (t := 85) (by first | (go_simp; done) | (go_simp; rfl)) ?_; intro g hg w1 hk hb; have j1 := Born.mk hg; have j2 := Bel.mk hb; have j3 := Blk.mk hk; clear hg hb hk)         | (go_at_call 61; (first | (with_reducible refine (W1.out _).mono ?_) | (with_reducible refine (W2.out _).mono ?_) | (with_reducible refine (W3.out _).mono ?_) | (with_reducible refine (W4.out _).mono ?_)); rintro e w' ⟨rfl, ⟨nd, rfl⟩⟩))
    repeat (go_quiet (first | (go_at_call 61; (first | (with_reducible refine (W1.out _).mono ?_) | (with_reducible refine (W2.out _).mono ?_) | (with_reducible refine (W3.out _).mono ?_) | (with_reducible refine (W4.out _).mono ?_)); rintro e w' ⟨rfl, ⟨nd, rfl⟩⟩; exact ⟨rfl, _, World.drewN_drewN _ _ _⟩)); try go_wp2)
    go_ret
    exact ⟨rfl, From.out⟩
   | true =>
    cases b2 with
    | false =>
     obtain rfl : false = r := by rw [← HQ.out, HD.out, HE.out]; rfl
     clear HR0 HQ HD HE HP HZ
     go_wp2_with (first         | ((with_reducible refine gate_dst (N := 4) rfl ?_); refine box_event rfl (N := 4) rfl (cs := #[.int .i64 0, .int .i64 0, .int .i64 0, .int .i64 0]) (t := 85) (by first | (go_simp; done) | (go_simp; rfl)) ?_; intro g hg w1 hk hb; have j1 := Born.mk hg; have j2 := Bel.mk hb; have j3 := Blk.mk hk; clear hg hb hk)         | (go_at_call 61; (first | (with_reducible refine (W1.out _).mono ?_) | (with_reducible refine (W2.out _).mono ?_) | (with_reducible refine (W3.out _).mono ?_) | (with_reducible refine (W4.out _).mono ?_)); rintro e w' ⟨rfl, ⟨nd, rfl⟩⟩))
     repeat (go_quiet (first | (go_at_call 61; (first | (with_reducible refine (W1.out _).mono ?_) | (with_reducible refine (W2.out _).mono ?_) | (with_reducible refine (W3.out _).mono ?_) | (with_reducible refine (W4.out _).mono ?_)); rintro e w' ⟨rfl, ⟨nd, rfl⟩⟩; exact ⟨rfl, _, World.drewN_drewN _ _ _⟩)); try go_wp2)
     go_ret
     exact ⟨rfl, From.out⟩
    | true =>
     cases b3 with
     | false =>
      obtain rfl : false = r := by rw [← HQ.out, HD.out, HE.out]; rfl
      clear HR0 HQ HD HE HP HZ
      go_wp2_with (first         | ((with_reducible refine gate_dst (N := 4) rfl ?_); refine box_event rfl (N := 4) rfl (cs := #[.int .i64 0, .int .i64 0, .int .i64 0, .int .i64 0]) (t := 85) (by first | (go_simp; done) | (go_simp; rfl)) ?_; intro g hg w1 hk hb; have j1 := Born.mk hg; have j2 := Bel.mk hb; have j3 := Blk.mk hk; clear hg hb hk)         | (go_at_call 61; (first | (with_reducible refine (W1.out _).mono ?_) | (with_reducible refine (W2.out _).mono ?_) | (with_reducible refine (W3.out _).mono ?_) | (with_reducible refine (W4.out _).mono ?_)); rintro e w' ⟨rfl, ⟨nd, rfl⟩⟩))
      repeat (go_quiet (first | (go_at_call 61; (first | (with_reducible refine (W1.out _).mono ?_) | (with_reducible refine (W2.out _).mono ?_) | (with_reducible refine (W3.out _).mono ?_) | (with_reducible refine (W4.out _).mono ?_)); rintro e w' ⟨rfl, ⟨nd, rfl⟩⟩; exact ⟨rfl, _, World.drewN_drewN _ _ _⟩)); try go_wp2)
      go_ret
      exact ⟨rfl, From.out⟩
     | true =>
      cases b4 with
      | false =>
       obtain rfl : false = r := by rw [← HQ.out, HD.out, HE.out]; rfl
       clear HR0 HQ HD HE HP HZ
       go_wp2_with (first         | ((with_reducible refine gate_dst (N := 4) rfl ?_); refine box_event rfl (N := 4) rfl (cs := #[.int .i64 0, .int .i64 0, .int .i64 0, .int .i64 0]) (t := 85) (by first | (go_simp; done) | (go_simp; rfl)) ?_; intro g hg w1 hk hb; have j1 := Born.mk hg; have j2 := Bel.mk hb; have j3 := Blk.mk hk; clear hg hb hk)         | (go_at_call 61; (first | (with_reducible refine (W1.out _).mono ?_) | (with_reducible refine (W2.out _).mono ?_) | (with_reducible refine (W3.out _).mono ?_) | (with_reducible refine (W4.out _).mono ?_)); rintro e w' ⟨rfl, ⟨nd, rfl⟩⟩))
       repeat (go_quiet (first | (go_at_call 61; (first | (with_reducible refine (W1.out _).mono ?_) | (with_reducible refine (W2.out _).mono ?_) | (with_reducible refine (W3.out _).mono ?_) | (with_reducible refine (W4.out _).mono ?_)); rintro e w' ⟨rfl, ⟨nd, rfl⟩⟩; exact ⟨rfl, _, World.drewN_drewN _ _ _⟩)); try go_wp2)
       go_ret
       exact ⟨rfl, From.out⟩
      | true =>
       have hs : (i : Int) + 1 ≤ 9223372036854775807 := by omega
       by_cases hz : i = 0
       ·have hz1 : decide ((i : Int) > 0) = false := decide_eq_false (by omega)
        have hz2 : decide ((0 : Int) < (i : Int)) = false := decide_eq_false (by omega)
        have hz3 : decide (0 < i) = false := decide_eq_false (by omega)
        have HN : Aside0 ((Q.logGo (Q.prevM l0 (i + 1)) (l0.drop (i + 1)) && decide (l0.length ≤ 30)) = r) := ⟨by rw [← HQ.out, HD.out, HE.out, show decide (Q.prevM l0 i ≤ x.f2) = true from decide_eq_true (HZ.out rfl hz)]; rfl⟩
        clear HQ HD HE HP HZ hz
        go_wp2_with (first         | ((with_reducible refine gate_dst (N := 4) rfl ?_); refine box_event rfl (N := 4) rfl (cs := #[.int .i64 0, .int .i64 0, .int .i64 0, .int .i64 0]) (t := 85) (by first | (go_simp; done) | (go_simp; rfl)) ?_; intro g hg w1 hk hb; have j1 := Born.mk hg; have j2 := Bel.mk hb; have j3 := Blk.mk hk; clear hg hb hk)         | (go_at_call 61; (first | (with_reducible refine (W1.out _).mono ?_) | (with_reducible refine (W2.out _).mono ?_) | (with_reducible refine (W3.out _).mono ?_) | (with_reducible refine (W4.out _).mono ?_)); rintro e w' ⟨rfl, ⟨nd, rfl⟩⟩))
        repeat (go_quiet (first | (go_at_call 61; (first | (with_reducible refine (W1.out _).mono ?_) | (with_reducible refine (W2.out _).mono ?_) | (with_reducible refine (W3.out _).mono ?_) | (with_reducible refine (W4.out _).mono ?_)); rintro e w' ⟨rfl, ⟨nd, rfl⟩⟩; exact ⟨rfl, _, World.drewN_drewN _ _ _⟩)); try go_wp2)
        go_roundg (l0.length - i)
        case measure => have := HI1.out; omega
        case rel => exact ⟨i + 1, by go_num, ⟨by omega⟩, ⟨by omega⟩, HN, ⟨From.out⟩⟩
       ·obtain ⟨j, hj⟩ : ∃ j, j = i - 1 := ⟨_, rfl⟩
        have hz1 : decide ((i : Int) > 0) = true := decide_eq_true (by omega)
        have hz2 : decide ((0 : Int) < (i : Int)) = true := decide_eq_true (by omega)
        have hz3 : decide (0 < i) = true := decide_eq_true (by omega)
        have hw1 : wrap64 ((i : Int) - 1) = (j : Int) := by unfold wrap64; omega
        have hw2 : IntKind.i64.wrap ((i : Int) - 1) = (j : Int) := by rw [i64_w]; exact hw1
        have hj1 : (j : Int) < (l0.length : Int) := by omega
        have hj2 : j < l0.length := by omega
        have hl1 : decide ((j : Int) < (l0.length : Int)) = true := decide_eq_true (by omega)
        have hl2 : decide (j < l0.length) = true := decide_eq_true (by omega)
        obtain ⟨ad2, e2, _, _, _, hy3⟩ := at_T85 HR0.out (j : Int) (by omega) (by omega)
        cases e2
        obtain ⟨y, hy⟩ : ∃ y, rd_T85 l0 (j : Int) = y := ⟨_, rfl⟩
        have HP2 := A_ (HP.out (by omega))
        rw [← hj, hy] at HP2
        rw [hy] at hy3
        simp only [Int.toNat_natCast] at hy3
        have j4 : CelR wr _ _ := ⟨(HB.out.cell (World.block_lt_of_cell? w _ hy3)).trans hy3⟩
        clear hy hy3 HP hj
        by_cases h5 : y.f2 ≤ x.f2
        ·have h51 : decide (y.f2 > x.f2) = false := decide_eq_false (by omega)
         have h52 : decide (x.f2 < y.f2) = false := decide_eq_false (by omega)
         have HN : Aside0 ((Q.logGo (Q.prevM l0 (i + 1)) (l0.drop (i + 1)) && decide (l0.length ≤ 30)) = r) := ⟨by rw [← HQ.out, HD.out, HE.out, show decide (Q.prevM l0 i ≤ x.f2) = true from decide_eq_true (by rw [HP2.out]; exact h5)]; rfl⟩
         clear HQ HD HE HP2 HZ HR0
         go_wp2_with (first         | ((with_reducible refine gate_dst (N := 4) rfl ?_); refine box_event rfl (N := 4) rfl (cs := #[.int .i64 0, .int .i64 0, .int .i64 0, .int .i64 0]) (t := 85) (by first | (go_simp; done) | (go_simp; rfl)) ?_; intro g hg w1 hk hb; have j1 := Born.mk hg; have j2 := Bel.mk hb; have j3 := Blk.mk hk; clear hg hb hk)         | (go_at_call 61; (first | (with_reducible refine (W1.out _).mono ?_) | (with_reducible refine (W2.out _).mono ?_) | (with_reducible refine (W3.out _).mono ?_) | (with_reducible refine (W4.out _).mono ?_)); rintro e w' ⟨rfl, ⟨nd, rfl⟩⟩))
         repeat (go_quiet (first | (go_at_call 61; (first | (with_reducible refine (W1.out _).mono ?_) | (with_reducible refine (W2.out _).mono ?_) | (with_reducible refine (W3.out _).mono ?_) | (with_reducible refine (W4.out _).mono ?_)); rintro e w' ⟨rfl, ⟨nd, rfl⟩⟩; exact ⟨rfl, _, World.drewN_drewN _ _ _⟩)); try go_wp2)
         go_roundg (l0.length - i)
         case measure => have := HI1.out; omega
         case rel => exact ⟨i + 1, by go_num, ⟨by omega⟩, ⟨by omega⟩, HN, ⟨From.out⟩⟩
        ·have h51 : decide (y.f2 > x.f2) = true := decide_eq_true (by omega)
         have h52 : decide (x.f2 < y.f2) = true := decide_eq_true (by omega)
         obtain rfl : false = r := by rw [← HQ.out, HD.out, HE.out, show decide (Q.prevM l0 i ≤ x.f2) = false from decide_eq_false (by rw [HP2.out]; exact h5)]; rfl
         clear HQ HD HE HP2 HZ HR0
         go_wp2_with (first         | ((with_reducible refine gate_dst (N := 4) rfl ?_); refine box_event rfl (N := 4) rfl (cs := #[.int .i64 0, .int .i64 0, .int .i64 0, .int .i64 0]) (t := 85) (by first | (go_simp; done) | (go_simp; rfl)) ?_; intro g hg w1 hk hb; have j1 := Born.mk hg; have j2 := Bel.mk hb; have j3 := Blk.mk hk; clear hg hb hk)         | (go_at_call 61; (first | (with_reducible refine (W1.out _).mono ?_) | (with_reducible refine (W2.out _).mono ?_) | (with_reducible refine (W3.out _).mono ?_) | (with_reducible refine (W4.out _).mono ?_)); rintro e w' ⟨rfl, ⟨nd, rfl⟩⟩))
         repeat (go_quiet (first | (go_at_call 61; (first | (with_reducible refine (W1.out _).mono ?_) | (with_reducible refine (W2.out _).mono ?_) | (with_reducible refine (W3.out _).mono ?_) | (with_reducible refine (W4.out _).mono ?_)); rintro e w' ⟨rfl, ⟨nd, rfl⟩⟩; exact ⟨rfl, _, World.drewN_drewN _ _ _⟩)); try go_wp2)
         go_ret
         exact ⟨rfl, From.out⟩
end Go.Proofs.YtojiighpkppckaaDoor.P


namespace Go.Proofs.YtojiighpkppckaaDoor.P
open Go.RowKit Go.Proofs.YtojiighpkppckaaDoorW.PrintWords Go.Proofs.YtojiighpkppckaaDoorW.PrintLast Go.Proofs.YtojiighpkppckaaDoorW.PrintMore Go.Proofs.YtojiighpkppckaaDoor.V
attribute [local go_sem] cell_b frozen_b
attribute [local go_sem] max2_int min2_int max_two min_two max_three min_three max_four min_four
set_option linter.unusedVariables false
set_option linter.unusedSimpArgs false
def impl_ShopOk.f (k : Nat) (l0_0 : List (S145)) (a0_1 : Int) (l0_2 : List Int) (a0_3 : Int) (a0_4 : Int) (l0_5 : List (S85)) : Option (Bool) := some (Q.shopOk l0_0 a0_1 l0_2 a0_3 a0_4 l0_5)
attribute [local go_sem] cellR_c
set_option maxHeartbeats 2000000 in
set_option maxRecDepth 100000 in
set_option synthInstance.maxHeartbeats 400000 in
set_option synthInstance.maxSize 100000 in
theorem impl_ShopOk.calls (k : Nat) (A0_0 : Option Addr) (c0_0 : Nat) (l0_0 : List (S145)) (a0_1 : Int) (A0_2 : Option Addr) (c0_2 : Nat) (l0_2 : List Int) (a0_3 : Int) (a0_4 : Int) (A0_5 : Option Addr) (c0_5 : Nat) (l0_5 : List (S85)) (r : Bool) (w : World) (hr0_0 : Kd.C k145 w A0_0 l0_0.length l0_0) (hc0_0 : l0_0.length ≤ c0_0) (hr0_2 : Kd.C (Kd.int .i64) w A0_2 l0_2.length l0_2) (hc0_2 : l0_2.length ≤ c0_2) (hr0_5 : Kd.C k85 w A0_5 l0_5.length l0_5) (hc0_5 : l0_5.length ≤ c0_5) (h : impl_ShopOk.f k l0_0 a0_1 l0_2 a0_3 a0_4 l0_5 = some r) :
  Calls Tryd.prog 40 #[.agg #[.slice A0_0 l0_0.length c0_0, .int .i64 a0_1, .slice A0_2 l0_2.length c0_2, .int .i64 a0_3, .int .i64 a0_4, .slice A0_5 l0_5.length c0_5]] w fun e w' => e = .returned (.bool r) ∧ Below w.heap.size w w' := by
 obtain ⟨b1, hb1⟩ : ∃ b, workOk l0_0 a0_1 l0_2 = b := ⟨_, rfl⟩
 obtain ⟨b2, hb2⟩ : ∃ b, Q.logOk l0_5 = b := ⟨_, rfl⟩
 obtain ⟨b3, hb3⟩ : ∃ b, decide (-10 ≤ a0_3 ∧ a0_3 ≤ 40) = b := ⟨_, rfl⟩
 obtain ⟨b4, hb4⟩ : ∃ b, decide (0 ≤ a0_4 ∧ a0_4 ≤ 100000) = b := ⟨_, rfl⟩
 obtain ⟨b5, hb5⟩ : ∃ b, decide (Q.lastOk l0_5 a0_4) = b := ⟨_, rfl⟩
 have HQ : Aside0 ((b1 && (b2 && (b3 && (b4 && b5)))) = r) := ⟨by rw [← hb1, ← hb2, ← hb3, ← hb4, ← hb5]; exact Option.some.inj h⟩
 have A1 : Aside0 (impl_WorkOk.f l0_0 a0_1 l0_2 = some b1) := ⟨by rw [← hb1]; rfl⟩
 have A2 : Aside0 (impl_LogOk.f k l0_5 = some b2) := ⟨by rw [← hb2]; rfl⟩
 have A4 : Aside0 (impl_within.f a0_4 0 100000 = some b4) := ⟨by rw [← hb4]; unfold impl_within.f; by_cases hh : 0 ≤ a0_4 <;> simp [hh]⟩
 have A3 : Aside0 (impl_isWarmth.f a0_3 = some b3) := ⟨by rw [← hb3]; unfold impl_isWarmth.f impl_within.f; by_cases hh : -10 ≤ a0_3 <;> simp [hh]⟩
 have H5 := A_ hb5
 have HR := A_ hr0_5
 have HM := A_ (Kd.C_max hr0_5)
 have i0 := RdE.mk hr0_0
 have i1 := LeI.mk hc0_0
 have i2 := RdE.mk hr0_2
 have i3 := LeI.mk hc0_2
 have i4 := RdE.mk hr0_5
 have i5 := LeI.mk hc0_5
 have hu := Tryd.underlying44
 clear hr0_0 hc0_0 hr0_2 hc0_2 hr0_5 hc0_5 h hb1 hb2 hb3 hb4 hb5
 cases b1 with
 | false =>
  obtain rfl : false = r := HQ.out
  clear HQ H5 HR HM
  go_enter Tryd.func40, Tryd.ntmps40
  go_wp2_with (first | ((with_reducible refine gate_dst (N := 1) rfl ?_); (try (refine gate_guard (by rfl) ?_; dsimp only)); refine box_event rfl (N := 1) rfl (cs := #[.slice A0_0 l0_0.length c0_0, .int .i64 a0_1, .slice A0_2 l0_2.length c0_2, .int .i64 a0_3, .int .i64 a0_4, .slice A0_5 l0_5.length c0_5]) (t := 44) (by first | (go_simp; done) | (go_simp; rfl)) ?_; intro g hg w1 hk hb; have j1 := Born.mk hg; have j2 := Bel.mk hb; have j3 := Blk.mk hk; clear hg hb hk) | (go_at_call 68; refine (impl_WorkOk.calls _ _ _ _ _ _ _ _ _ Rd.out LeI.out Rd.out LeI.out A1.out).mono ?_; rintro e w2 ⟨rfl, hb⟩; have jb := Bel.mk hb; clear hb) | (go_at_call 69; refine (impl_LogOk.calls k _ _ _ _ _ Rd.out LeI.out A2.out).mono ?_; rintro e w2 ⟨rfl, hb⟩; have jb := Bel.mk hb; clear hb) | (go_at_call 60; refine (impl_isWarmth.calls _ _ _ A3.out).mono ?_; rintro e w2 ⟨rfl, n, rfl⟩) | (go_at_call 61; refine (impl_within.calls _ _ _ _ _ A4.out).mono ?_; rintro e w2 ⟨rfl, n, rfl⟩))
  repeat (go_quiet (fail); try go_wp2)
  go_ret
  exact ⟨rfl, From.out⟩
 | true =>
  cases b2 with
  | false =>
   obtain rfl : false = r := HQ.out
   clear HQ H5 HR HM
   go_enter Tryd.func40, Tryd.ntmps40
   go_wp2_with (first | ((with_reducible refine gate_dst (N := 1) rfl ?_); (try (refine gate_guard (by rfl) ?_; dsimp only)); refine box_event rfl (N := 1) rfl (cs := #[.slice A0_0 l0_0.length c0_0, .int .i64 a0_1, .slice A0_2 l0_2.length c0_2, .int .i64 a0_3, .int .i64 a0_4, .slice A0_5 l0_5.length c0_5]) (t := 44) (by first | (go_simp; done) | (go_simp; rfl)) ?_; intro g hg w1 hk hb; have j1 := Born.mk hg; have j2 := Bel.mk hb; have j3 := Blk.mk hk; clear hg hb hk) | (go_at_call 68; refine (impl_WorkOk.calls _ _ _ _ _ _ _ _ _ Rd.out LeI.out Rd.out LeI.out A1.out).mono ?_; rintro e w2 ⟨rfl, hb⟩; have jb := Bel.mk hb; clear hb) | (go_at_call 69; refine (impl_LogOk.calls k _ _ _ _ _ Rd.out LeI.out A2.out).mono ?_; rintro e w2 ⟨rfl, hb⟩; have jb := Bel.mk hb; clear hb) | (go_at_call 60; refine (impl_isWarmth.calls _ _ _ A3.out).mono ?_; rintro e w2 ⟨rfl, n, rfl⟩) | (go_at_call 61; refine (impl_within.calls _ _ _ _ _ A4.out).mono ?_; rintro e w2 ⟨rfl, n, rfl⟩))
   repeat (go_quiet (fail); try go_wp2)
   go_ret
   exact ⟨rfl, From.out⟩
  | true =>
   cases b3 with
   | false =>
    obtain rfl : false = r := HQ.out
    clear HQ H5 HR HM
    go_enter Tryd.func40, Tryd.ntmps40
    go_wp2_with (first | ((with_reducible refine gate_dst (N := 1) rfl ?_); (try (refine gate_guard (by rfl) ?_; dsimp only)); refine box_event rfl (N := 1) rfl (cs := #[.slice A0_0 l0_0.length c0_0, .int .i64 a0_1, .slice A0_2 l0_2.length c0_2, .int .i64 a0_3, .int .i64 a0_4, .slice A0_5 l0_5.length c0_5]) (t := 44) (by first | (go_simp; done) | (go_simp; rfl)) ?_; intro g hg w1 hk hb; have j1 := Born.mk hg; have j2 := Bel.mk hb; have j3 := Blk.mk hk; clear hg hb hk) | (go_at_call 68; refine (impl_WorkOk.calls _ _ _ _ _ _ _ _ _ Rd.out LeI.out Rd.out LeI.out A1.out).mono ?_; rintro e w2 ⟨rfl, hb⟩; have jb := Bel.mk hb; clear hb) | (go_at_call 69; refine (impl_LogOk.calls k _ _ _ _ _ Rd.out LeI.out A2.out).mono ?_; rintro e w2 ⟨rfl, hb⟩; have jb := Bel.mk hb; clear hb) | (go_at_call 60; refine (impl_isWarmth.calls _ _ _ A3.out).mono ?_; rintro e w2 ⟨rfl, n, rfl⟩) | (go_at_call 61; refine (impl_within.calls _ _ _ _ _ A4.out).mono ?_; rintro e w2 ⟨rfl, n, rfl⟩))
    repeat (go_quiet (fail); try go_wp2)
    go_ret
    exact ⟨rfl, From.out⟩
   | true =>
    cases b4 with
    | false =>
     obtain rfl : false = r := HQ.out
     clear HQ H5 HR HM
     go_enter Tryd.func40, Tryd.ntmps40
     go_wp2_with (first | ((with_reducible refine gate_dst (N := 1) rfl ?_); (try (refine gate_guard (by rfl) ?_; dsimp only)); refine box_event rfl (N := 1) rfl (cs := #[.slice A0_0 l0_0.length c0_0, .int .i64 a0_1, .slice A0_2 l0_2.length c0_2, .int .i64 a0_3, .int .i64 a0_4, .slice A0_5 l0_5.length c0_5]) (t := 44) (by first | (go_simp; done) | (go_simp; rfl)) ?_; intro g hg w1 hk hb; have j1 := Born.mk hg; have j2 := Bel.mk hb; have j3 := Blk.mk hk; clear hg hb hk) | (go_at_call 68; refine (impl_WorkOk.calls _ _ _ _ _ _ _ _ _ Rd.out LeI.out Rd.out LeI.out A1.out).mono ?_; rintro e w2 ⟨rfl, hb⟩; have jb := Bel.mk hb; clear hb) | (go_at_call 69; refine (impl_LogOk.calls k _ _ _ _ _ Rd.out LeI.out A2.out).mono ?_; rintro e w2 ⟨rfl, hb⟩; have jb := Bel.mk hb; clear hb) | (go_at_call 60; refine (impl_isWarmth.calls _ _ _ A3.out).mono ?_; rintro e w2 ⟨rfl, n, rfl⟩) | (go_at_call 61; refine (impl_within.calls _ _ _ _ _ A4.out).mono ?_; rintro e w2 ⟨rfl, n, rfl⟩))
     repeat (go_quiet (fail); try go_wp2)
     go_ret
     exact ⟨rfl, From.out⟩
    | true =>
     obtain rfl : b5 = r := HQ.out
     by_cases hz : l0_5.length = 0
     ·have z1 : ((l0_5.length : Int) == 0) = true := beq_iff_eq.mpr (by omega)
      have z2 : ((l0_5.length : Int) != 0) = false := bne_eq_false_iff_eq.mpr (by omega)
      have z3 : decide ((l0_5.length : Int) = 0) = true := decide_eq_true (by omega)
      obtain rfl : true = b5 := by rw [← H5.out]; exact (decide_eq_true (.inl hz)).symm
      clear HQ H5 HR HM hz
      go_enter Tryd.func40, Tryd.ntmps40
      go_wp2_with (first | ((with_reducible refine gate_dst (N := 1) rfl ?_); (try (refine gate_guard (by rfl) ?_; dsimp only)); refine box_event rfl (N := 1) rfl (cs := #[.slice A0_0 l0_0.length c0_0, .int .i64 a0_1, .slice A0_2 l0_2.length c0_2, .int .i64 a0_3, .int .i64 a0_4, .slice A0_5 l0_5.length c0_5]) (t := 44) (by first | (go_simp; done) | (go_simp; rfl)) ?_; intro g hg w1 hk hb; have j1 := Born.mk hg; have j2 := Bel.mk hb; have j3 := Blk.mk hk; clear hg hb hk) | (go_at_call 68; refine (impl_WorkOk.calls _ _ _ _ _ _ _ _ _ Rd.out LeI.out Rd.out LeI.out A1.out).mono ?_; rintro e w2 ⟨rfl, hb⟩; have jb := Bel.mk hb; clear hb) | (go_at_call 69; refine (impl_LogOk.calls k _ _ _ _ _ Rd.out LeI.out A2.out).mono ?_; rintro e w2 ⟨rfl, hb⟩; have jb := Bel.mk hb; clear hb) | (go_at_call 60; refine (impl_isWarmth.calls _ _ _ A3.out).mono ?_; rintro e w2 ⟨rfl, n, rfl⟩) | (go_at_call 61; refine (impl_within.calls _ _ _ _ _ A4.out).mono ?_; rintro e w2 ⟨rfl, n, rfl⟩))
      repeat (go_quiet (fail); try go_wp2)
      go_ret
      exact ⟨rfl, From.out⟩
     ·obtain ⟨j, hj⟩ : ∃ j, j + 1 = l0_5.length := ⟨l0_5.length - 1, by omega⟩
      have z1 : ((l0_5.length : Int) == 0) = false := beq_eq_false_iff_ne.mpr (by omega)
      have z2 : ((l0_5.length : Int) != 0) = true := bne_iff_ne.mpr (by omega)
      have z3 : decide ((l0_5.length : Int) = 0) = false := decide_eq_false (by omega)
      have hM := HM.out
      have hw1 : wrap64 ((l0_5.length : Int) - 1) = (j : Int) := by unfold wrap64; omega
      have hw2 : IntKind.i64.wrap ((l0_5.length : Int) - 1) = (j : Int) := by rw [i64_w]; exact hw1
      have hj1 : (j : Int) < (l0_5.length : Int) := by omega
      have hj2 : j < l0_5.length := by omega
      obtain ⟨ad2, e2, _, _, _, hy3⟩ := at_T85 HR.out (j : Int) (by omega) (by omega)
      subst e2
      obtain ⟨y, hy⟩ : ∃ y, rd_T85 l0_5 (j : Int) = y := ⟨_, rfl⟩
      rw [hy] at hy3
      simp only [Int.toNat_natCast] at hy3
      have j4 : CelR w _ _ := ⟨hy3⟩
      have h6 : decide (y.f2 ≤ a0_4) = b5 := by
       rw [← H5.out, ← hy]
       refine decide_eq_decide.mpr ?_
       unfold Q.lastOk
       rw [show l0_5.length - 1 = j by omega]
       simp [rd_T85, hz]
      have h7 : decide (a0_4 ≥ y.f2) = b5 := h6
      clear HQ H5 HR HM hM hy hy3 hz hj
      go_enter Tryd.func40, Tryd.ntmps40
      go_wp2_with (first | ((with_reducible refine gate_dst (N := 1) rfl ?_); (try (refine gate_guard (by rfl) ?_; dsimp only)); refine box_event rfl (N := 1) rfl (cs := #[.slice A0_0 l0_0.length c0_0, .int .i64 a0_1, .slice A0_2 l0_2.length c0_2, .int .i64 a0_3, .int .i64 a0_4, .slice (some ad2) l0_5.length c0_5]) (t := 44) (by first | (go_simp; done) | (go_simp; rfl)) ?_; intro g hg w1 hk hb; have j1 := Born.mk hg; have j2 := Bel.mk hb; have j3 := Blk.mk hk; clear hg hb hk) | (go_at_call 68; refine (impl_WorkOk.calls _ _ _ _ _ _ _ _ _ Rd.out LeI.out Rd.out LeI.out A1.out).mono ?_; rintro e w2 ⟨rfl, hb⟩; have jb := Bel.mk hb; clear hb) | (go_at_call 69; refine (impl_LogOk.calls k _ _ _ _ _ Rd.out LeI.out A2.out).mono ?_; rintro e w2 ⟨rfl, hb⟩; have jb := Bel.mk hb; clear hb) | (go_at_call 60; refine (impl_isWarmth.calls _ _ _ A3.out).mono ?_; rintro e w2 ⟨rfl, n, rfl⟩) | (go_at_call 61; refine (impl_within.calls _ _ _ _ _ A4.out).mono ?_; rintro e w2 ⟨rfl, n, rfl⟩))
      repeat (go_quiet (fail); try go_wp2)
      go_ret
      exact ⟨by first | rfl | (simp [h6]; done), From.out⟩
end Go.Proofs.YtojiighpkppckaaDoor.P

