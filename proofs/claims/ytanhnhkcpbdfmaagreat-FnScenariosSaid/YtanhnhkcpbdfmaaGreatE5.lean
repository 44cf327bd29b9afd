/- What functions of the program come to (f), that their calls come to just this (calls), and the plain laws over lists and numbers, and the law FnScenarios: for every argument it answers true. No condition but those of the given row. -/
import Derived.Test.YtanhnhkcpbdfmaaGreatRows
import Derived.Test.YtanhnhkcpbdfmaaGreatE4
import Derived.WalkKit
import Derived.ProofKit
import Derived.OpenShut
import Derived.ShutString
import Derived.ChangeOld
import Derived.Below
import Derived.SizedLaws
set_option linter.unusedVariables false
set_option linter.unusedSimpArgs false
namespace Go.Proofs.YtanhnhkcpbdfmaaGreat.P
set_option maxHeartbeats 8000000
set_option maxRecDepth 100000
open Go.RowKit Go.Proofs.YtanhnhkcpbdfmaaGreatW.PrintWords Go.Proofs.YtanhnhkcpbdfmaaGreatW.PrintLast Go.Proofs.YtanhnhkcpbdfmaaGreatW.PrintMore
attribute [local go_sem] max2_int min2_int max_two min_two max_three min_three max_four min_four
def spec_l38Shop.l0 : Nat → Int → Int → List Int → Int → Int → List (S112) → Int → List Int → Int → Int → List (S104) → Option ((List (S112)) × Int × List Int × Int × Int × (List (S104)) × Int × Int)
 | 0, _, _, _, _, _, _, _, _, _, _, _ => none
 | k + 1, x5, x6, x1000, x1001, x1002, x1679000, x1679001, x1679002, x1679003, x1679004, x1679005 => if x6 < x5 then ((spec_l01Below.f x1000 x1001 x1002 8).bind fun bt1682 => (if bt1682.1 = 0 then ((spec_l01Below.f x1000 bt1682.2.1 bt1682.2.2 30).bind fun bt1685 => ((spec_ShopWarm.f k x1679000 x1679001 x1679002 x1679003 x1679004 x1679005 bt1685.1).bind fun bt1688 => (spec_l38Shop.l0 k x5 (wrap64 (x6 + 1)) x1000 bt1685.2.1 bt1685.2.2 bt1688.1 bt1688.2.1 bt1688.2.2.1 bt1688.2.2.2.1 bt1688.2.2.2.2.1 bt1688.2.2.2.2.2.1))) else (if bt1682.1 = 1 then ((spec_l34Pipe.f x1000 bt1682.2.1 bt1682.2.2).bind fun bt1701 => ((spec_l01Below.f x1000 bt1701.2.2.1 bt1701.2.2.2 3).bind fun bt1706 => ((spec_ShopFault.f k x1679000 x1679001 x1679002 x1679003 x1679004 x1679005 bt1701.1 bt1701.2.1 bt1706.1).bind fun bt1709 => (spec_l38Shop.l0 k x5 (wrap64 (x6 + 1)) x1000 bt1706.2.1 bt1706.2.2 bt1709.1 bt1709.2.1 bt1709.2.2.1 bt1709.2.2.2.1 bt1709.2.2.2.2.1 bt1709.2.2.2.2.2.1)))) else (if bt1682.1 = 2 then ((spec_l01Below.f x1000 bt1682.2.1 bt1682.2.2 12).bind fun bt1722 => ((spec_l01Below.f x1000 bt1722.2.1 bt1722.2.2 2001).bind fun bt1725 => ((spec_ShopKnock.f k x1679000 x1679001 x1679002 x1679003 x1679004 x1679005 bt1722.1 (wrap64 (bt1725.1 - 1000))).bind fun bt1728 => (spec_l38Shop.l0 k x5 (wrap64 (x6 + 1)) x1000 bt1725.2.1 bt1725.2.2 bt1728.1 bt1728.2.1 bt1728.2.2.1 bt1728.2.2.2.1 bt1728.2.2.2.2.1 bt1728.2.2.2.2.2.1)))) else ((spec_ShopTune.f k x1679000 x1679001 x1679002 x1679003 x1679004 x1679005).bind fun bt1741 => (spec_l38Shop.l0 k x5 (wrap64 (x6 + 1)) x1000 bt1682.2.1 bt1682.2.2 bt1741.1 bt1741.2.1 bt1741.2.2.1 bt1741.2.2.2.1 bt1741.2.2.2.2.1 bt1741.2.2.2.2.2.1)))))) else (some (x1679000, x1679001, x1679002, x1679003, x1679004, x1679005, x1001, x1002))
def spec_l38Shop.f (k : Nat) (s0_0 : List Int) (s0_1 : Int) (s0_2 : Int) : Option ((List (S112)) × Int × List Int × Int × Int × (List (S104)) × Int × Int) := (spec_l01Below.f s0_0 s0_1 s0_2 100000).bind fun bt1657 => ((spec_l19Plan.f k s0_0 bt1657.2.1 bt1657.2.2).bind fun bt1660 => ((spec_NewShop.f k (wrap64 (200000 + bt1657.1)) bt1660.1).bind fun bt1665 => ((spec_l01Below.f s0_0 bt1660.2.1 bt1660.2.2 20).bind fun bt1679 => (spec_l38Shop.l0 k bt1679.1 0 s0_0 bt1679.2.1 bt1679.2.2 bt1665.1 bt1665.2.1 bt1665.2.2.1 bt1665.2.2.2.1 bt1665.2.2.2.2.1 bt1665.2.2.2.2.2.1))))
def spec_l38Shop.T9 : Bool × List (List Nat × List Nat) := (true, [([], []), ([], []), ([1], [1]), ([0, 2, 2], [0, 2]), ([3], [3]), ([4], [4]), ([4], [4]), ([5, 3, 0, 1, 2, 3, 4, 5], [5])])
def spec_l38Shop.B9 : List Nat := [0, 0, 2, 7, 15, 31, 31, 63]
theorem spec_l38Shop.tab9 : rtab .any (opsOf Tryz.f117 9) = spec_l38Shop.T9 := by kernel_rfl
theorem spec_l38Shop.bits9 : waitsOk spec_l38Shop.T9.2 spec_l38Shop.B9 = true := by kernel_rfl
def spec_l38Shop.T12 : Bool × List (List Nat × List Nat) := (true, [([], []), ([], []), ([], []), ([2], [2]), ([0, 1, 3, 3], [0, 1, 3]), ([4], [4]), ([5], [5]), ([5], [5]), ([6, 4, 0, 1, 2, 3, 4, 5, 6], [6])])
def spec_l38Shop.B12 : List Nat := [0, 0, 0, 4, 15, 31, 63, 63, 127]
theorem spec_l38Shop.tab12 : rtab .any (opsOf Tryz.f117 12) = spec_l38Shop.T12 := by kernel_rfl
theorem spec_l38Shop.bits12 : waitsOk spec_l38Shop.T12.2 spec_l38Shop.B12 = true := by kernel_rfl
def spec_l38Shop.T15 : Bool × List (List Nat × List Nat) := (true, [([], []), ([], []), ([], []), ([2], [2]), ([3], [3]), ([0, 1, 4, 3], [0, 1, 4]), ([5], [5]), ([6], [6]), ([6], [6]), ([7, 5, 0, 1, 2, 3, 4, 5, 6, 7], [7])])
def spec_l38Shop.B15 : List Nat := [0, 0, 0, 4, 12, 31, 63, 127, 127, 255]
theorem spec_l38Shop.tab15 : rtab .any (opsOf Tryz.f117 15) = spec_l38Shop.T15 := by kernel_rfl
theorem spec_l38Shop.bits15 : waitsOk spec_l38Shop.T15.2 spec_l38Shop.B15 = true := by kernel_rfl
theorem spec_l38Shop.calls (k : Nat) (g : Nat) (s0_0 : List Int) (s0_1 : Int) (s0_2 : Int) (r1 : List (S112)) (r2 : Int) (r3 : List Int) (r4 : Int) (r5 : Int) (r6 : List (S104)) (r7 : Int) (r8 : Int) (w0 w : World) (hI : IsS132 w0 w g s0_0 s0_1 s0_2) (hB : Below w0.heap.size w0 w) (h : spec_l38Shop.f k s0_0 s0_1 s0_2 = some (r1, r2, r3, r4, r5, r6, r7, r8)) :
  Calls Tryz.prog 117 #[.pointer (some ⟨g, 0, none⟩)] w fun e w' => ∃ v0_ v2_ v5_ : Value, e = .returned (.agg #[v0_, .int .i64 r2, v2_, .int .i64 r4, .int .i64 r5, v5_]) ∧ Kd.R k112 112 w' w.heap.size (fun _ => True) v0_ r1 ∧ Kd.R (Kd.int .i64) 3 w' w.heap.size (fun _ => True) v2_ r3 ∧ Kd.R k104 104 w' w.heap.size (fun _ => True) v5_ r6 ∧ IsS132 w0 w' g s0_0 r7 r8 ∧ Below w0.heap.size w0 w' ∧ KeepBut w w' g none := by
 have hu37 := Tryz.underlying37
 have hu74 := Tryz.underlying74
 have HI0 := A_ hI
 have HK := A_ (KeepBut.refl w g none)
 have HL := A_ hB.size
 clear hI
 have HW0 := A_ hB.size
 have HB := A_ hB
 clear hB
 have H : ((spec_l01Below.f s0_0 s0_1 s0_2 100000).bind fun bt1657 => ((spec_l19Plan.f k s0_0 bt1657.2.1 bt1657.2.2).bind fun bt1660 => ((spec_NewShop.f k (wrap64 (200000 + bt1657.1)) bt1660.1).bind fun bt1665 => ((spec_l01Below.f s0_0 bt1660.2.1 bt1660.2.2 20).bind fun bt1679 => (spec_l38Shop.l0 k bt1679.1 0 s0_0 bt1679.2.1 bt1679.2.2 bt1665.1 bt1665.2.1 bt1665.2.2.1 bt1665.2.2.2.1 bt1665.2.2.2.2.1 bt1665.2.2.2.2.2.1))))) = some (r1, r2, r3, r4, r5, r6, r7, r8) := h
 clear h
 replace H := Option.bind_eq_some_iff.mp H
 obtain ⟨⟨t1657, t1658, t1659⟩, A20, H⟩ := H
 (try dsimp only at H)
 have A2 := A_ A20
 clear A20
 replace H := Option.bind_eq_some_iff.mp H
 obtain ⟨⟨t1660, t1663, t1664⟩, A30, H⟩ := H
 (try dsimp only at H)
 have A3 := A_ A30
 clear A30
 replace H := Option.bind_eq_some_iff.mp H
 obtain ⟨⟨t1665, t1668, t1669, t1672, t1673, t1674, t1677⟩, A40, H⟩ := H
 (try dsimp only at H)
 have A4 := A_ A40
 clear A40
 replace H := Option.bind_eq_some_iff.mp H
 obtain ⟨⟨t1679, t1680, t1681⟩, A50, H⟩ := H
 (try dsimp only at H)
 have A5 := A_ A50
 clear A50
 have H' := A_ H
 clear H
 go_enter Tryz.func117, Tryz.ntmps117
 go_wp2_with (first | ((with_reducible refine gate_dst (N := 2) rfl ?_); refine bX (N := 2) (cs := #[.slice none 0 0, .int .i64 0, .slice none 0 0, .int .i64 0, .int .i64 0, .slice none 0 0]) (t := 37) ?_; intro gb1656 hg w6 hbox hb; have n0_ := A_ (IsS132.below (oI132 HI0) hb); have n1_ := A_ (KeepBut.trans (oKe HK) (KeepBut.of_below hb g none) (.inl rfl)); have n2_ := A_ (below_step (oB132 HB) hb); have n3_ := A_ (hbox); have n4_ := A_ ((by rw [hg]; exact (keep_size (w := w) (g := g) (row := none) (by repeat (first | (with_reducible first | exact HK.out | apply KeepBut.set_ | apply keep_drewN | apply keep_drew | apply keep_alloc) | exact HK.out))) : w.heap.size ≤ gb1656)); have n5_ := A_ ((Nat.le_trans HW0.out (by rw [hg]; exact (keep_size (w := w) (g := g) (row := none) (by repeat (first | (with_reducible first | exact HK.out | apply KeepBut.set_ | apply keep_drewN | apply keep_drew | apply keep_alloc) | exact HK.out))) : w.heap.size ≤ gb1656) : w0.heap.size ≤ gb1656)); have n6_ := A_ ((by rw [hg]; exact Nat.ne_of_lt (IsS132.lt (show IsS132 w0 _ g s0_0 s0_1 s0_2 from oI132 HI0)) : g ≠ gb1656)); have n7_ := A_ ((by rw [hg]; exact Nat.ne_of_gt (IsS132.lt (show IsS132 w0 _ g s0_0 s0_1 s0_2 from oI132 HI0)) : gb1656 ≠ g)); clear HI0; clear HK; clear HB; have HI0 := n0_; have HK := n1_; have HB := n2_; have BK1656 := n3_; have GW1656 := n4_; have GE1656 := n5_; have NB0_1656 := n6_; have NB1656_0 := n7_; clear n0_ n1_ n2_ n3_ n4_ n5_ n6_ n7_; clear hb hbox hg) | ((with_reducible refine gate_callee (f := 75) rfl ?_); refine gL (some 11) Tryz.func75 #[.pointer (some ⟨g, 0, none⟩), .int .i64 100000] ?_; (with_reducible refine (spec_l01Below.calls g s0_0 s0_1 s0_2 100000 t1657 t1658 t1659 w0 _ ?side1 ?side2 A2.out).mono ?_); (case side1 => exact oI132 HI0); (case side2 => exact oB132 HB); rintro e w7 ⟨rfl, hi, hb, hk⟩; refine ⟨_, rfl, ?_⟩; have n0_ := A_ (KeepBut.blk hk (g' := gb1656) (o := .cells #[.slice none 0 0, .int .i64 0, .slice none 0 0, .int .i64 0, .int .i64 0, .slice none 0 0] 37 (0, 0)) (oK BK1656) NB1656_0.out (by simp)); have n1_ := A_ (KeepBut.trans (oKe HK) hk (.inl rfl)); have n2_ := A_ (hb); have n3_ := A_ (hi); clear BK1656; clear HK; clear HB; clear HI0; have BK1656 := n0_; have HK := n1_; have HB := n2_; have HI0 := n3_; clear n0_ n1_ n2_ n3_; (try clear hb); (try clear hb2); (try clear hk); (try clear hi)) | ((with_reducible refine gate_callee (f := 137) rfl ?_); refine gL (some 14) Tryz.func137 #[.pointer (some ⟨g, 0, none⟩)] ?_; (with_reducible refine (spec_l19Plan.calls k g s0_0 t1658 t1659 t1660 t1663 t1664 w0 _ ?side1 ?side2 A3.out).mono ?_); (case side1 => exact oI132 HI0); (case side2 => exact oB132 HB); rintro e w8 ⟨v1661, rfl, ho0, hi, hb, hk⟩; refine ⟨_, rfl, ?_⟩; have n0_ := A_ (KeepBut.blk hk (g' := gb1656) (o := .cells #[.slice none 0 0, .int .i64 0, .slice none 0 0, .int .i64 0, .int .i64 0, .slice none 0 0] 37 (0, 0)) (oK BK1656) NB1656_0.out (by simp)); have n1_ := A_ (Kd.R_lower ho0 (keep_size (w := w) (g := g) (row := none) (by repeat (first | (with_reducible first | exact HK.out | apply KeepBut.set_ | apply keep_drewN | apply keep_drew | apply keep_alloc | refine keep_far ?_ GW1656.out _) | exact HK.out)))); have n2_ := A_ (KeepBut.trans (oKe HK) hk (.inl rfl)); have n3_ := A_ (hb); have n4_ := A_ (hi); clear BK1656; clear HK; clear HB; clear HI0; have BK1656 := n0_; have HO1662 := n1_; have HK := n2_; have HB := n3_; have HI0 := n4_; clear n0_ n1_ n2_ n3_ n4_; (try clear hb); (try clear hb2); (try clear hk); (try clear hi); (try clear ho0); obtain ⟨Ao9, co9, eo9⟩ := Kd.R_slice HO1662.out; subst eo9) | ((with_reducible refine gate_callee (f := 135) rfl ?_); refine gL (some 15) Tryz.func135 #[.int .i64 (wrap64 (200000 + t1657)), .slice Ao9 t1660.length co9] ?_; (with_reducible refine (spec_NewShop.calls k (wrap64 (200000 + t1657)) _ _ t1660 t1665 t1668 t1669 t1672 t1673 t1674 t1677 _ ?side1 ?side2 A4.out).mono ?_); (case side1 => repeat (first | exact (Kd.R_reads' HO1662.out).2.2 | (with_reducible refine Kd.C_alloc ?_ _) | (with_reducible refine Kd.C_drewN ?_ _) | (with_reducible refine Kd.C_drew ?_))); (case side2 => exact (Kd.R_reads' HO1662.out).2.1); rintro e w10 ⟨v1666, v1670, v1675, rfl, ho0, ho1, ho2, hb⟩; refine ⟨_, rfl, ?_⟩; have n0_ := A_ (Kd.R_elder' (oR HO1662) (Kd.R_base ho0) hb); have n1_ := A_ (Kd.R_lower (Kd.R_new' ho0 (Kd.R_lt (oR HO1662))) (keep_size (w := w) (g := g) (row := none) (by repeat (first | (with_reducible first | exact HK.out | apply KeepBut.set_ | apply keep_drewN | apply keep_drew | apply keep_alloc | refine keep_far ?_ GW1656.out _) | exact HK.out)))); have n2_ := A_ (Kd.R_lower ho1 (keep_size (w := w) (g := g) (row := none) (by repeat (first | (with_reducible first | exact HK.out | apply KeepBut.set_ | apply keep_drewN | apply keep_drew | apply keep_alloc | refine keep_far ?_ GW1656.out _) | exact HK.out)))); have n3_ := A_ (Kd.R_lower ho2 (keep_size (w := w) (g := g) (row := none) (by repeat (first | (with_reducible first | exact HK.out | apply KeepBut.set_ | apply keep_drewN | apply keep_drew | apply keep_alloc | refine keep_far ?_ GW1656.out _) | exact HK.out)))); have n4_ := A_ (IsS132.below (oI132 HI0) hb); have n5_ := A_ (bb BK1656 hb); have n6_ := A_ (KeepBut.trans (oKe HK) (KeepBut.of_below hb g none) (.inl rfl)); have n7_ := A_ (below_step (oB132 HB) hb); clear HO1662; clear HI0; clear BK1656; clear HK; clear HB; have HO1662 := n0_; have HO1667 := n1_; have HO1671 := n2_; have HO1676 := n3_; have HI0 := n4_; have BK1656 := n5_; have HK := n6_; have HB := n7_; clear n0_ n1_ n2_ n3_ n4_ n5_ n6_ n7_; (try clear hb); (try clear hb2); (try clear hk); (try clear hi); (try clear ho0); (try clear ho1); (try clear ho2)) | ((with_reducible refine gate_dst (N := 3) rfl ?_); refine bX (N := 3) (cs := #[.slice none 0 0, .int .i64 0, .slice none 0 0, .int .i64 0, .int .i64 0, .slice none 0 0]) (t := 37) ?_; intro gb1678 hg w11 hbox hb; have n0_ := A_ (Kd.R_below (oR HO1662) hb); have n1_ := A_ (Kd.R_below (oR HO1667) hb); have n2_ := A_ (Kd.R_below (oR HO1671) hb); have n3_ := A_ (Kd.R_below (oR HO1676) hb); have n4_ := A_ (IsS132.below (oI132 HI0) hb); have n5_ := A_ (bb BK1656 hb); have n6_ := A_ (KeepBut.trans (oKe HK) (KeepBut.of_below hb g none) (.inl rfl)); have n7_ := A_ (below_step (oB132 HB) hb); have n8_ := A_ (hbox); have n9_ := A_ ((by rw [hg]; exact (keep_size (w := w) (g := g) (row := none) (by repeat (first | (with_reducible first | exact HK.out | apply KeepBut.set_ | apply keep_drewN | apply keep_drew | apply keep_alloc | refine keep_far ?_ GW1656.out _) | exact HK.out))) : w.heap.size ≤ gb1678)); have n10_ := A_ ((Nat.le_trans HW0.out (by rw [hg]; exact (keep_size (w := w) (g := g) (row := none) (by repeat (first | (with_reducible first | exact HK.out | apply KeepBut.set_ | apply keep_drewN | apply keep_drew | apply keep_alloc | refine keep_far ?_ GW1656.out _) | exact HK.out))) : w.heap.size ≤ gb1678) : w0.heap.size ≤ gb1678)); have n11_ := A_ (nL BK1656 hg); have n12_ := A_ (nG BK1656 hg); have n13_ := A_ ((by rw [hg]; exact Nat.ne_of_lt (IsS132.lt (show IsS132 w0 _ g s0_0 t1663 t1664 from oI132 HI0)) : g ≠ gb1678)); have n14_ := A_ ((by rw [hg]; exact Nat.ne_of_gt (IsS132.lt (show IsS132 w0 _ g s0_0 t1663 t1664 from oI132 HI0)) : gb1678 ≠ g)); clear HO1662; clear HO1667; clear HO1671; clear HO1676; clear HI0; clear BK1656; clear HK; clear HB; have HO1662 := n0_; have HO1667 := n1_; have HO1671 := n2_; have HO1676 := n3_; have HI0 := n4_; have BK1656 := n5_; have HK := n6_; have HB := n7_; have BK1678 := n8_; have GW1678 := n9_; have GE1678 := n10_; have NB1656_1678 := n11_; have NB1678_1656 := n12_; have NB0_1678 := n13_; have NB1678_0 := n14_; clear n0_ n1_ n2_ n3_ n4_ n5_ n6_ n7_ n8_ n9_ n10_ n11_ n12_ n13_ n14_; clear hb hbox hg; obtain ⟨Ao12, co12, eo12⟩ := Kd.R_slice HO1667.out; subst eo12; have hnb13 := NB1678_1656.out; have hnc13 := NB1656_1678.out; have hnb14 := NB1678_0.out; have hnc14 := NB0_1678.out; have hcz15_0 := cz BK1678 0; have hcz15_1 := cz BK1678 1; have hcz15_2 := cz BK1678 2; have hcz15_3 := cz BK1678 3; have hcz15_4 := cz BK1678 4; have hcz15_5 := cz BK1678 5; have hfz15_0 := blk_frozen BK1678.out 0; have hfz15_1 := blk_frozen BK1678.out 1; have hfz15_2 := blk_frozen BK1678.out 2; have hfz15_3 := blk_frozen BK1678.out 3; have hfz15_4 := blk_frozen BK1678.out 4; have hfz15_5 := blk_frozen BK1678.out 5; obtain ⟨Ao16, co16, eo16⟩ := Kd.R_slice HO1671.out; subst eo16; obtain ⟨Ao17, co17, eo17⟩ := Kd.R_slice HO1676.out; subst eo17) | ((with_reducible refine gate_callee (f := 75) rfl ?_); refine gL (some 19) Tryz.func75 #[.pointer (some ⟨g, 0, none⟩), .int .i64 20] ?_; (with_reducible refine (spec_l01Below.calls g s0_0 t1663 t1664 20 t1679 t1680 t1681 w0 _ ?side1 ?side2 A5.out).mono ?_); (case side1 => exact oI132 HI0); (case side2 => exact oB132 HB); rintro e w18 ⟨rfl, hi, hb, hk⟩; refine ⟨_, rfl, ?_⟩; have n0_ := A_ (KeepBut.blk hk (g' := gb1656) (o := .cells #[.slice none 0 0, .int .i64 0, .slice none 0 0, .int .i64 0, .int .i64 0, .slice none 0 0] 37 (0, 0)) (by (with_reducible repeat (first | refine blk_drewN ?_ _ | refine blk_drew ?_ | refine blk_alloc ?_ _)); refine blk_far ?_ NB1656_1678.out _; (with_reducible repeat (first | refine blk_drewN ?_ _ | refine blk_drew ?_ | refine blk_alloc ?_ _)); refine blk_far ?_ NB1656_1678.out _; (with_reducible repeat (first | refine blk_drewN ?_ _ | refine blk_drew ?_ | refine blk_alloc ?_ _)); refine blk_far ?_ NB1656_1678.out _; (with_reducible repeat (first | refine blk_drewN ?_ _ | refine blk_drew ?_ | refine blk_alloc ?_ _)); refine blk_far ?_ NB1656_1678.out _; (with_reducible repeat (first | refine blk_drewN ?_ _ | refine blk_drew ?_ | refine blk_alloc ?_ _)); refine blk_far ?_ NB1656_1678.out _; (with_reducible repeat (first | refine blk_drewN ?_ _ | refine blk_drew ?_ | refine blk_alloc ?_ _)); refine blk_far ?_ NB1656_1678.out _; (with_reducible repeat (first | refine blk_drewN ?_ _ | refine blk_drew ?_ | refine blk_alloc ?_ _)); exact BK1656.out) NB1656_0.out (by simp)); have n1_ := A_ (Kd.R_mono (Kd.R_keep (IsS132.apart (show IsS132 w0 _ g s0_0 t1663 t1664 from oI132 HI0) (by (with_reducible repeat (first | apply Kd.R_alloc | apply Kd.R_drewN | apply Kd.R_drew)); exact (Kd.R_mono (Kd.R_far (p := ⟨gb1678, 5, none⟩) (Kd.R_far (p := ⟨gb1678, 4, none⟩) (Kd.R_far (p := ⟨gb1678, 3, none⟩) (Kd.R_far (p := ⟨gb1678, 2, none⟩) (Kd.R_far (p := ⟨gb1678, 1, none⟩) (Kd.R_far (p := ⟨gb1678, 0, none⟩) (Kd.R_types HO1662.out BK1678.out (by decide)) (fun _ hk => hk.2) (.slice Ao12 t1665.length co12)) (fun _ hk => hk.2) (.int .i64 t1668)) (fun _ hk => hk.2) (.slice Ao16 t1669.length co16)) (fun _ hk => hk.2) (.int .i64 t1672)) (fun _ hk => hk.2) (.int .i64 t1673)) (fun _ hk => hk.2) (.slice Ao17 t1674.length co17)) (fun _ h_ => h_.1))) (by decide)) hk (fun _ h => h.2)) (fun _ h => h.1)); have n2_ := A_ (Kd.R_mono (Kd.R_keep (IsS132.apart (show IsS132 w0 _ g s0_0 t1663 t1664 from oI132 HI0) (by (with_reducible repeat (first | apply Kd.R_alloc | apply Kd.R_drewN | apply Kd.R_drew)); exact (Kd.R_mono (Kd.R_far (p := ⟨gb1678, 5, none⟩) (Kd.R_far (p := ⟨gb1678, 4, none⟩) (Kd.R_far (p := ⟨gb1678, 3, none⟩) (Kd.R_far (p := ⟨gb1678, 2, none⟩) (Kd.R_far (p := ⟨gb1678, 1, none⟩) (Kd.R_far (p := ⟨gb1678, 0, none⟩) (Kd.R_types HO1667.out BK1678.out (by decide)) (fun _ hk => hk.2) (.slice Ao12 t1665.length co12)) (fun _ hk => hk.2) (.int .i64 t1668)) (fun _ hk => hk.2) (.slice Ao16 t1669.length co16)) (fun _ hk => hk.2) (.int .i64 t1672)) (fun _ hk => hk.2) (.int .i64 t1673)) (fun _ hk => hk.2) (.slice Ao17 t1674.length co17)) (fun _ h_ => h_.1))) (by decide)) hk (fun _ h => h.2)) (fun _ h => h.1)); have n3_ := A_ (Kd.R_mono (Kd.R_keep (IsS132.apart (show IsS132 w0 _ g s0_0 t1663 t1664 from oI132 HI0) (by (with_reducible repeat (first | apply Kd.R_alloc | apply Kd.R_drewN | apply Kd.R_drew)); exact (Kd.R_mono (Kd.R_far (p := ⟨gb1678, 5, none⟩) (Kd.R_far (p := ⟨gb1678, 4, none⟩) (Kd.R_far (p := ⟨gb1678, 3, none⟩) (Kd.R_far (p := ⟨gb1678, 2, none⟩) (Kd.R_far (p := ⟨gb1678, 1, none⟩) (Kd.R_far (p := ⟨gb1678, 0, none⟩) (Kd.R_types HO1671.out BK1678.out (by decide)) (fun _ hk => hk.2) (.slice Ao12 t1665.length co12)) (fun _ hk => hk.2) (.int .i64 t1668)) (fun _ hk => hk.2) (.slice Ao16 t1669.length co16)) (fun _ hk => hk.2) (.int .i64 t1672)) (fun _ hk => hk.2) (.int .i64 t1673)) (fun _ hk => hk.2) (.slice Ao17 t1674.length co17)) (fun _ h_ => h_.1))) (by decide)) hk (fun _ h => h.2)) (fun _ h => h.1)); have n4_ := A_ (Kd.R_mono (Kd.R_keep (IsS132.apart (show IsS132 w0 _ g s0_0 t1663 t1664 from oI132 HI0) (by (with_reducible repeat (first | apply Kd.R_alloc | apply Kd.R_drewN | apply Kd.R_drew)); exact (Kd.R_mono (Kd.R_far (p := ⟨gb1678, 5, none⟩) (Kd.R_far (p := ⟨gb1678, 4, none⟩) (Kd.R_far (p := ⟨gb1678, 3, none⟩) (Kd.R_far (p := ⟨gb1678, 2, none⟩) (Kd.R_far (p := ⟨gb1678, 1, none⟩) (Kd.R_far (p := ⟨gb1678, 0, none⟩) (Kd.R_types HO1676.out BK1678.out (by decide)) (fun _ hk => hk.2) (.slice Ao12 t1665.length co12)) (fun _ hk => hk.2) (.int .i64 t1668)) (fun _ hk => hk.2) (.slice Ao16 t1669.length co16)) (fun _ hk => hk.2) (.int .i64 t1672)) (fun _ hk => hk.2) (.int .i64 t1673)) (fun _ hk => hk.2) (.slice Ao17 t1674.length co17)) (fun _ h_ => h_.1))) (by decide)) hk (fun _ h => h.2)) (fun _ h => h.1)); have n5_ := A_ (KeepBut.blk hk (g' := gb1678) (o := .cells #[.slice Ao12 t1665.length co12, .int .i64 t1668, .slice Ao16 t1669.length co16, .int .i64 t1672, .int .i64 t1673, .slice Ao17 t1674.length co17] 37 (0, 0)) (by (with_reducible repeat (first | refine blk_drewN ?_ _ | refine blk_drew ?_ | refine blk_alloc ?_ _)); refine blk_put (cs := #[.slice Ao12 t1665.length co12, .int .i64 t1668, .slice Ao16 t1669.length co16, .int .i64 t1672, .int .i64 t1673, .slice none 0 0]) ?_ 5 _ rfl; (with_reducible repeat (first | refine blk_drewN ?_ _ | refine blk_drew ?_ | refine blk_alloc ?_ _)); refine blk_put (cs := #[.slice Ao12 t1665.length co12, .int .i64 t1668, .slice Ao16 t1669.length co16, .int .i64 t1672, .int .i64 0, .slice none 0 0]) ?_ 4 _ rfl; (with_reducible repeat (first | refine blk_drewN ?_ _ | refine blk_drew ?_ | refine blk_alloc ?_ _)); refine blk_put (cs := #[.slice Ao12 t1665.length co12, .int .i64 t1668, .slice Ao16 t1669.length co16, .int .i64 0, .int .i64 0, .slice none 0 0]) ?_ 3 _ rfl; (with_reducible repeat (first | refine blk_drewN ?_ _ | refine blk_drew ?_ | refine blk_alloc ?_ _)); refine blk_put (cs := #[.slice Ao12 t1665.length co12, .int .i64 t1668, .slice none 0 0, .int .i64 0, .int .i64 0, .slice none 0 0]) ?_ 2 _ rfl; (with_reducible repeat (first | refine blk_drewN ?_ _ | refine blk_drew ?_ | refine blk_alloc ?_ _)); refine blk_put (cs := #[.slice Ao12 t1665.length co12, .int .i64 0, .slice none 0 0, .int .i64 0, .int .i64 0, .slice none 0 0]) ?_ 1 _ rfl; (with_reducible repeat (first | refine blk_drewN ?_ _ | refine blk_drew ?_ | refine blk_alloc ?_ _)); refine blk_put (cs := #[.slice none 0 0, .int .i64 0, .slice none 0 0, .int .i64 0, .int .i64 0, .slice none 0 0]) ?_ 0 _ rfl; (with_reducible repeat (first | refine blk_drewN ?_ _ | refine blk_drew ?_ | refine blk_alloc ?_ _)); exact BK1678.out) NB1678_0.out (by simp)); have n6_ := A_ (KeepBut.trans (oKe HK) hk (.inl rfl)); have n7_ := A_ (hb); have n8_ := A_ (hi); clear BK1656; clear HO1662; clear HO1667; clear HO1671; clear HO1676; clear BK1678; clear HK; clear HB; clear HI0; have BK1656 := n0_; have HO1662 := n1_; have HO1667 := n2_; have HO1671 := n3_; have HO1676 := n4_; have BK1678 := n5_; have HK := n6_; have HB := n7_; have HI0 := n8_; clear n0_ n1_ n2_ n3_ n4_ n5_ n6_ n7_ n8_; (try clear hb); (try clear hb2); (try clear hk); (try clear hi)))
 go_loopg [6] k (fun kq v6 w' => ∃ (x6_1 : Int) (x1001_1 : Int) (x1002_1 : Int) (x1679000_1 : List (S112)) (x1679001_1 : Int) (x1679002_1 : List Int) (x1679003_1 : Int) (x1679004_1 : Int) (x1679005_1 : List (S104)) (u1679000 : Value) (u1679002 : Value) (u1679005 : Value), v6 = .int .i64 x6_1 ∧ Aside0 (spec_l38Shop.l0 kq t1679 x6_1 s0_0 x1001_1 x1002_1 x1679000_1 x1679001_1 x1679002_1 x1679003_1 x1679004_1 x1679005_1 = some (r1, r2, r3, r4, r5, r6, r7, r8)) ∧ Aside0 (kq ≤ k) ∧ Aside0 (Kd.R k112 112 w' w.heap.size (fun _ => True) u1679000 x1679000_1) ∧ Aside0 (Kd.R (Kd.int .i64) 3 w' w.heap.size (fun _ => True) u1679002 x1679002_1) ∧ Aside0 (Kd.R k104 104 w' w.heap.size (fun _ => True) u1679005 x1679005_1) ∧ Aside0 (w'.heap[gb1656]? = some (.cells #[(.slice none 0 0), .int .i64 0, (.slice none 0 0), .int .i64 0, .int .i64 0, (.slice none 0 0)] 37 (0, 0))) ∧ Aside0 (w'.heap[gb1678]? = some (.cells #[u1679000, .int .i64 x1679001_1, u1679002, .int .i64 x1679003_1, .int .i64 x1679004_1, u1679005] 37 (0, 0))) ∧ Aside0 (IsS132 w0 w' g s0_0 x1001_1 x1002_1) ∧ Aside0 (KeepBut w w' g none) ∧ Aside0 (Below w0.heap.size w0 w'))
 case atStart => exact ⟨(0), (t1680), (t1681), (t1665), (t1668), (t1669), (t1672), (t1673), (t1674), (.slice Ao12 t1665.length co12), (.slice Ao16 t1669.length co16), (.slice Ao17 t1674.length co17), eS, H', ⟨Nat.le_refl _⟩, ⟨by (with_reducible repeat (first | apply Kd.R_alloc | apply Kd.R_drewN | apply Kd.R_drew)); exact Kd.R_mono HO1667.out (fun _ hk => trivial)⟩, ⟨oR HO1671⟩, ⟨oR HO1676⟩, ⟨oK BK1656⟩, ⟨oK BK1678⟩, ⟨oI132 HI0⟩, ⟨oKe HK⟩, ⟨oB132 HB⟩⟩
 case round =>
  clear H'
  try clear c1
  try clear p2
  try clear p6
  try clear c7
  try clear c11
  try clear c13
  try clear c14
  try clear hcz15_0
  try clear hcz15_1
  try clear hcz15_2
  try clear hcz15_3
  try clear hcz15_4
  try clear hcz15_5
  try clear hfz15_0
  try clear hfz15_1
  try clear hfz15_2
  try clear hfz15_3
  try clear hfz15_4
  try clear hfz15_5
  obtain ⟨x6_1, x1001_1, x1002_1, x1679000_1, x1679001_1, x1679002_1, x1679003_1, x1679004_1, x1679005_1, u1679000, u1679002, u1679005, rfl, HA, HK1, HO_1679000, HO_1679002, HO_1679005, BK1656, BK1678, HI0, HK, HB⟩ := hrel
  cases gk with
  | zero => exact absurd HA.out (by simp [spec_l38Shop.l0])
  | succ k1 =>
   have H := HA.out
   clear HA
   simp only [spec_l38Shop.l0] at H
   by_cases c19 : x6_1 < t1679
   ·rw [if_pos c19] at H
    have c19b0 : decide (x6_1 < t1679) = true := decide_eq_true c19
    clear c19
    replace H := Option.bind_eq_some_iff.mp H
    obtain ⟨⟨t1682, t1683, t1684⟩, A200, H⟩ := H
    (try dsimp only at H)
    have A20 := A_ A200
    clear A200
    by_cases c21 : t1682 = 0
    ·rw [if_pos c21] at H
     have c21b0 : (t1682 == 0) = true := beq_iff_eq.mpr c21
     have c21b1 : (t1682 != 0) = false := bne_eq_false_iff_eq.mpr c21
     clear c21
     replace H := Option.bind_eq_some_iff.mp H
     obtain ⟨⟨t1685, t1686, t1687⟩, A220, H⟩ := H
     (try dsimp only at H)
     have A22 := A_ A220
     clear A220
     replace H := Option.bind_eq_some_iff.mp H
     obtain ⟨⟨t1688, t1691, t1692, t1695, t1696, t1697, t1700⟩, A230, H⟩ := H
     (try dsimp only at H)
     have A23 := A_ A230
     clear A230
     have H' := A_ H
     clear H
     try go_wp2_with (first | ((with_reducible refine gate_callee (f := 75) rfl ?_); refine gL (some 26) Tryz.func75 #[.pointer (some ⟨g, 0, none⟩), .int .i64 8] ?_; (with_reducible refine (spec_l01Below.calls g s0_0 x1001_1 x1002_1 8 t1682 t1683 t1684 w0 _ ?side1 ?side2 A20.out).mono ?_); (case side1 => exact oI132 HI0); (case side2 => exact oB132 HB); rintro e w24 ⟨rfl, hi, hb, hk⟩; refine ⟨_, rfl, ?_⟩; have n0_ := A_ (Kd.R_mono (Kd.R_keep (IsS132.apart (show IsS132 w0 _ g s0_0 x1001_1 x1002_1 from oI132 HI0) (oR HO_1679000) (by decide)) hk (fun _ h => h.2)) (fun _ h => h.1)); have n1_ := A_ (Kd.R_mono (Kd.R_keep (IsS132.apart (show IsS132 w0 _ g s0_0 x1001_1 x1002_1 from oI132 HI0) (oR HO_1679002) (by decide)) hk (fun _ h => h.2)) (fun _ h => h.1)); have n2_ := A_ (Kd.R_mono (Kd.R_keep (IsS132.apart (show IsS132 w0 _ g s0_0 x1001_1 x1002_1 from oI132 HI0) (oR HO_1679005) (by decide)) hk (fun _ h => h.2)) (fun _ h => h.1)); have n3_ := A_ (KeepBut.blk hk (g' := gb1656) (o := .cells #[.slice none 0 0, .int .i64 0, .slice none 0 0, .int .i64 0, .int .i64 0, .slice none 0 0] 37 (0, 0)) (oK BK1656) NB1656_0.out (by simp)); have n4_ := A_ (KeepBut.blk hk (g' := gb1678) (o := .cells #[u1679000, .int .i64 x1679001_1, u1679002, .int .i64 x1679003_1, .int .i64 x1679004_1, u1679005] 37 (0, 0)) (oK BK1678) NB1678_0.out (by simp)); have n5_ := A_ (KeepBut.trans (oKe HK) hk (.inl rfl)); have n6_ := A_ (hb); have n7_ := A_ (hi); clear HO_1679000; clear HO_1679002; clear HO_1679005; clear BK1656; clear BK1678; clear HK; clear HB; clear HI0; have HO_1679000 := n0_; have HO_1679002 := n1_; have HO_1679005 := n2_; have BK1656 := n3_; have BK1678 := n4_; have HK := n5_; have HB := n6_; have HI0 := n7_; clear n0_ n1_ n2_ n3_ n4_ n5_ n6_ n7_; (try clear hb); (try clear hb2); (try clear hk); (try clear hi)))
     have n0_ := A_ (Kd.R_drew HO_1679000.out)
     have n1_ := A_ (Kd.R_drew HO_1679002.out)
     have n2_ := A_ (Kd.R_drew HO_1679005.out)
     have n3_ := A_ (blk_drew BK1656.out)
     have n4_ := A_ (blk_drew BK1678.out)
     have n5_ := A_ (IsS132.drew HI0.out)
     have n6_ := A_ (keep_drew HK.out)
     have n7_ := A_ (below_drew1 HB.out)
     clear HO_1679000
     clear HO_1679002
     clear HO_1679005
     clear BK1656
     clear BK1678
     clear HI0
     clear HK
     clear HB
     have HO_1679000 := n0_
     have HO_1679002 := n1_
     have HO_1679005 := n2_
     have BK1656 := n3_
     have BK1678 := n4_
     have HI0 := n5_
     have HK := n6_
     have HB := n7_
     clear n0_ n1_ n2_ n3_ n4_ n5_ n6_ n7_
     refine start_ (n := 8) (S := fun w' => w'.cell? ⟨gb1678, 0, none⟩ = some (u1679000) ∧ w'.cell? ⟨gb1678, 1, none⟩ = some (.int .i64 x1679001_1) ∧ w'.cell? ⟨gb1678, 2, none⟩ = some (u1679002) ∧ w'.cell? ⟨gb1678, 3, none⟩ = some (.int .i64 x1679003_1) ∧ w'.cell? ⟨gb1678, 4, none⟩ = some (.int .i64 x1679004_1) ∧ w'.cell? ⟨gb1678, 5, none⟩ = some (u1679005)) (ds := [7]) #[false, false, false, false, false, false, false, false] (by kernel_rfl) rfl rfl ⟨cz BK1678 0, cz BK1678 1, cz BK1678 2, cz BK1678 3, cz BK1678 4, cz BK1678 5⟩ (fun hHeld => ?_); refine with_tabW spec_l38Shop.tab9 spec_l38Shop.bits9 (fun HT_ HW_ => ?_)
     generalize w24.drew = w25 at HO_1679000 HO_1679002 HO_1679005 BK1656 BK1678 HI0 HK HB hHeld ⊢
     refine pA 1 (some 36) HT_.out ?_
     refine pT 0 (some 35) HT_.out HW_.out hHeld ?_
     refine one_ (i := 2) (N := some 37) #[true, true, true, false, false, false, false, false] rfl rfl (one_of HT_.out (by kernel_rfl)) (by decide) (fun K hK => ?_)
     refine goes_ Tryz.func75 (by kernel_rfl) rfl #[.pointer (some ⟨g, 0, none⟩), .int .i64 30] (by rfl) rfl rfl (by (try simp only [List.map_toArray, List.map_cons, List.map_nil]); first | done | rfl | (simp only [List.length_drop, List.length_take]; rfl)) ?_
     with_reducible refine (spec_l01Below.calls g s0_0 t1683 t1684 30 t1685 t1686 t1687 w0 _ ?side1 ?side2 A22.out).mono ?_
     (case side1 => exact oI132 HI0)
     (case side2 => exact oB132 HB)
     rintro e w26 ⟨rfl, hi, hb, hk⟩
     refine ⟨_, rfl, ?_⟩
     have n0_ := A_ (Kd.R_mono (Kd.R_keep (IsS132.apart (show IsS132 w0 _ g s0_0 t1683 t1684 from oI132 HI0) (oR HO_1679000) (by decide)) hk (fun _ h => h.2)) (fun _ h => h.1))
     have n1_ := A_ (Kd.R_mono (Kd.R_keep (IsS132.apart (show IsS132 w0 _ g s0_0 t1683 t1684 from oI132 HI0) (oR HO_1679002) (by decide)) hk (fun _ h => h.2)) (fun _ h => h.1))
     have n2_ := A_ (Kd.R_mono (Kd.R_keep (IsS132.apart (show IsS132 w0 _ g s0_0 t1683 t1684 from oI132 HI0) (oR HO_1679005) (by decide)) hk (fun _ h => h.2)) (fun _ h => h.1))
     have n3_ := A_ (KeepBut.blk hk (g' := gb1656) (o := .cells #[.slice none 0 0, .int .i64 0, .slice none 0 0, .int .i64 0, .int .i64 0, .slice none 0 0] 37 (0, 0)) (oK BK1656) NB1656_0.out (by simp))
     have n4_ := A_ (KeepBut.blk hk (g' := gb1678) (o := .cells #[u1679000, .int .i64 x1679001_1, u1679002, .int .i64 x1679003_1, .int .i64 x1679004_1, u1679005] 37 (0, 0)) (oK BK1678) NB1678_0.out (by simp))
     have n5_ := A_ (KeepBut.trans (oKe HK) hk (.inl rfl))
     have n6_ := A_ (hb)
     have n7_ := A_ (hi)
     clear HO_1679000
     clear HO_1679002
     clear HO_1679005
     clear BK1656
     clear BK1678
     clear HK
     clear HB
     clear HI0
     have HO_1679000 := n0_
     have HO_1679002 := n1_
     have HO_1679005 := n2_
     have BK1656 := n3_
     have BK1678 := n4_
     have HK := n5_
     have HB := n6_
     have HI0 := n7_
     clear n0_ n1_ n2_ n3_ n4_ n5_ n6_ n7_
     (try clear hb)
     (try clear hb2)
     (try clear hk)
     (try clear hi)
     obtain ⟨Ao27, co27, eo27⟩ := Kd.R_slice HO_1679000.out
     (first | subst eo27 | (injection eo27 with f1_ f2_ f3_; have f4_ := f1_.symm; have f5_ := f3_.symm; clear f1_ f2_ f3_; subst f4_; subst f5_))
     obtain ⟨Ao28, co28, eo28⟩ := Kd.R_slice HO_1679002.out
     (first | subst eo28 | (injection eo28 with f1_ f2_ f3_; have f4_ := f1_.symm; have f5_ := f3_.symm; clear f1_ f2_ f3_; subst f4_; subst f5_))
     obtain ⟨Ao29, co29, eo29⟩ := Kd.R_slice HO_1679005.out
     (first | subst eo29 | (injection eo29 with f1_ f2_ f3_; have f4_ := f1_.symm; have f5_ := f3_.symm; clear f1_ f2_ f3_; subst f4_; subst f5_))
     refine hK.out _ _ ⟨cz BK1678 0, cz BK1678 1, cz BK1678 2, cz BK1678 3, cz BK1678 4, cz BK1678 5⟩ (fun hHeld => ?_)
     clear hK K
     refine norm_ (a' := ?_) ?_ ?_
     rotate_left
     ·show Act.put _ (some 37) _ = _
      simp only [Act.put, List.setIfInBounds_toArray, List.set_cons_zero, List.set_cons_succ, i64_w, i32_w]
      rfl
     refine one_ (i := 3) (N := some 38) #[true, true, true, true, false, false, false, false] rfl rfl (one_of HT_.out (by kernel_rfl)) (by decide) (fun K hK => ?_)
     refine goes_ Tryz.func48 (by kernel_rfl) rfl #[.agg #[.slice Ao27 x1679000_1.length co27, .int .i64 x1679001_1, .slice Ao28 x1679002_1.length co28, .int .i64 x1679003_1, .int .i64 x1679004_1, .slice Ao29 x1679005_1.length co29], .int .i64 t1685] (by rfl) rfl rfl (by (try simp only [List.map_toArray, List.map_cons, List.map_nil]); first | done | rfl | (simp only [List.length_drop, List.length_take]; rfl)) ?_
     with_reducible refine (spec_ShopWarm.calls k1 _ _ x1679000_1 x1679001_1 _ _ x1679002_1 x1679003_1 x1679004_1 _ _ x1679005_1 t1685 t1688 t1691 t1692 t1695 t1696 t1697 t1700 _ ?side1 ?side2 ?side3 ?side4 ?side5 ?side6 A23.out).mono ?_
     (case side1 => repeat (first | exact (Kd.R_reads' HO_1679000.out).2.2 | (with_reducible refine Kd.C_alloc ?_ _) | (with_reducible refine Kd.C_drewN ?_ _) | (with_reducible refine Kd.C_drew ?_)))
     (case side2 => exact (Kd.R_reads' HO_1679000.out).2.1)
     (case side3 => repeat (first | exact (Kd.R_reads' HO_1679002.out).2.2 | (with_reducible refine Kd.C_alloc ?_ _) | (with_reducible refine Kd.C_drewN ?_ _) | (with_reducible refine Kd.C_drew ?_)))
     (case side4 => exact (Kd.R_reads' HO_1679002.out).2.1)
     (case side5 => repeat (first | exact (Kd.R_reads' HO_1679005.out).2.2 | (with_reducible refine Kd.C_alloc ?_ _) | (with_reducible refine Kd.C_drewN ?_ _) | (with_reducible refine Kd.C_drew ?_)))
     (case side6 => exact (Kd.R_reads' HO_1679005.out).2.1)
     rintro e w30 ⟨v1689, v1693, v1698, rfl, ho0, ho1, ho2, hb⟩
     refine ⟨_, rfl, ?_⟩
     have n0_ := A_ (Kd.R_elder' (oR HO_1679000) (Kd.R_base ho0) hb)
     have n1_ := A_ (Kd.R_elder' (oR HO_1679002) (Kd.R_base ho1) hb)
     have n2_ := A_ (Kd.R_elder' (oR HO_1679005) (Kd.R_base ho2) hb)
     have n3_ := A_ (Kd.R_lower (Kd.R_new' ho0 (Kd.R_lt (oR HO_1679000))) (keep_size (w := w) (g := g) (row := none) (by repeat (first | (with_reducible first | exact HK.out | apply KeepBut.set_ | apply keep_drewN | apply keep_drew | apply keep_alloc | refine keep_far ?_ GW1656.out _ | refine keep_far ?_ GW1678.out _) | exact HK.out))))
     have n4_ := A_ (Kd.R_lower (Kd.R_new' ho1 (Kd.R_lt (oR HO_1679002))) (keep_size (w := w) (g := g) (row := none) (by repeat (first | (with_reducible first | exact HK.out | apply KeepBut.set_ | apply keep_drewN | apply keep_drew | apply keep_alloc | refine keep_far ?_ GW1656.out _ | refine keep_far ?_ GW1678.out _) | exact HK.out))))
     have n5_ := A_ (Kd.R_lower (Kd.R_new' ho2 (Kd.R_lt (oR HO_1679005))) (keep_size (w := w) (g := g) (row := none) (by repeat (first | (with_reducible first | exact HK.out | apply KeepBut.set_ | apply keep_drewN | apply keep_drew | apply keep_alloc | refine keep_far ?_ GW1656.out _ | refine keep_far ?_ GW1678.out _) | exact HK.out))))
     have n6_ := A_ (bb BK1656 hb)
     have n7_ := A_ (bb BK1678 hb)
     have n8_ := A_ (IsS132.below (oI132 HI0) hb)
     have n9_ := A_ (KeepBut.trans (oKe HK) (KeepBut.of_below hb g none) (.inl rfl))
     have n10_ := A_ (below_step (oB132 HB) hb)
     clear HO_1679000
     clear HO_1679002
     clear HO_1679005
     clear BK1656
     clear BK1678
     clear HI0
     clear HK
     clear HB
     have HO_1679000 := n0_
     have HO_1679002 := n1_
     have HO_1679005 := n2_
     have HO1690 := n3_
     have HO1694 := n4_
     have HO1699 := n5_
     have BK1656 := n6_
     have BK1678 := n7_
     have HI0 := n8_
     have HK := n9_
     have HB := n10_
     clear n0_ n1_ n2_ n3_ n4_ n5_ n6_ n7_ n8_ n9_ n10_
     (try clear hb)
     (try clear hb2)
     (try clear hk)
     (try clear hi)
     (try clear ho0)
     (try clear ho1)
     (try clear ho2)
     obtain ⟨Ao31, co31, eo31⟩ := Kd.R_slice HO1690.out
     (first | subst eo31 | (injection eo31 with f1_ f2_ f3_; have f4_ := f1_.symm; have f5_ := f3_.symm; clear f1_ f2_ f3_; subst f4_; subst f5_))
     obtain ⟨Ao34, co34, eo34⟩ := Kd.R_slice HO1694.out
     (first | subst eo34 | (injection eo34 with f1_ f2_ f3_; have f4_ := f1_.symm; have f5_ := f3_.symm; clear f1_ f2_ f3_; subst f4_; subst f5_))
     obtain ⟨Ao38, co38, eo38⟩ := Kd.R_slice HO1699.out
     (first | subst eo38 | (injection eo38 with f1_ f2_ f3_; have f4_ := f1_.symm; have f5_ := f3_.symm; clear f1_ f2_ f3_; subst f4_; subst f5_))
     refine hK.out _ _ ⟨cz BK1678 0, cz BK1678 1, cz BK1678 2, cz BK1678 3, cz BK1678 4, cz BK1678 5⟩ (fun hHeld => ?_)
     clear hK K
     refine norm_ (a' := ?_) ?_ ?_
     rotate_left
     ·show Act.put _ (some 38) _ = _
      simp only [Act.put, List.setIfInBounds_toArray, List.set_cons_zero, List.set_cons_succ, i64_w, i32_w]
      rfl
     refine pA 4 (some 34) HT_.out ?_
     refine pA 5 (some 39) HT_.out ?_
     refine pA 6 (some 40) HT_.out ?_
     refine last_ (i := 7) (N := none) #[true, true, true, true, true, true, true, true] rfl rfl (one_of HT_.out (by kernel_rfl)) (by decide) (fun K hK => ?_)
     have hs32 := cz BK1678 0
     have hfs32 := blk_frozen BK1678.out 0
     have hns32_0 := NB1656_1678.out
     have hms32_0 := NB1678_1656.out
     have hs33 := cz BK1678 1
     have hfs33 := blk_frozen BK1678.out 1
     have hns33_0 := NB1656_1678.out
     have hms33_0 := NB1678_1656.out
     have hs35 := cz BK1678 2
     have hfs35 := blk_frozen BK1678.out 2
     have hns35_0 := NB1656_1678.out
     have hms35_0 := NB1678_1656.out
     have hs36 := cz BK1678 3
     have hfs36 := blk_frozen BK1678.out 3
     have hns36_0 := NB1656_1678.out
     have hms36_0 := NB1678_1656.out
     have hs37 := cz BK1678 4
     have hfs37 := blk_frozen BK1678.out 4
     have hns37_0 := NB1656_1678.out
     have hms37_0 := NB1678_1656.out
     have hs39 := cz BK1678 5
     have hfs39 := blk_frozen BK1678.out 5
     have hns39_0 := NB1656_1678.out
     have hms39_0 := NB1678_1656.out
     refine skip_ (w1 := ?_) (by rfl) rfl ?_ ?_
     rotate_left
     ·go_simp
      rfl
     refine hK.out _ _ ?_
     clear hK K
     refine done_ (done_of HT_.out (by kernel_rfl)) ?_
     try go_wp2
     go_roundg k1
     case measure => have := HK1.out; omega
     case rel => exact ⟨(wrap64 (x6_1 + 1)), (t1686), (t1687), (t1688), (t1691), (t1692), (t1695), (t1696), (t1697), (.slice Ao31 t1688.length co31), (.slice Ao34 t1692.length co34), (.slice Ao38 t1697.length co38), eS, H', ⟨by have := HK1.out; omega⟩, ⟨by (with_reducible repeat (first | apply Kd.R_alloc | apply Kd.R_drewN | apply Kd.R_drew)); exact Kd.R_mono (Kd.R_far (p := ⟨gb1678, 5, none⟩) (Kd.R_far (p := ⟨gb1678, 4, none⟩) (Kd.R_far (p := ⟨gb1678, 3, none⟩) (Kd.R_far (p := ⟨gb1678, 2, none⟩) (Kd.R_far (p := ⟨gb1678, 1, none⟩) (Kd.R_far (p := ⟨gb1678, 0, none⟩) (Kd.R_types HO1690.out BK1678.out (by decide)) (fun _ hk => hk.2) (.slice Ao31 t1688.length co31)) (fun _ hk => hk.2) (.int .i64 t1691)) (fun _ hk => hk.2) (.slice Ao34 t1692.length co34)) (fun _ hk => hk.2) (.int .i64 t1695)) (fun _ hk => hk.2) (.int .i64 t1696)) (fun _ hk => hk.2) (.slice Ao38 t1697.length co38)) (fun _ hk => trivial)⟩, ⟨by (with_reducible repeat (first | apply Kd.R_alloc | apply Kd.R_drewN | apply Kd.R_drew)); exact Kd.R_mono (Kd.R_far (p := ⟨gb1678, 5, none⟩) (Kd.R_far (p := ⟨gb1678, 4, none⟩) (Kd.R_far (p := ⟨gb1678, 3, none⟩) (Kd.R_far (p := ⟨gb1678, 2, none⟩) (Kd.R_far (p := ⟨gb1678, 1, none⟩) (Kd.R_far (p := ⟨gb1678, 0, none⟩) (Kd.R_types HO1694.out BK1678.out (by decide)) (fun _ hk => hk.2) (.slice Ao31 t1688.length co31)) (fun _ hk => hk.2) (.int .i64 t1691)) (fun _ hk => hk.2) (.slice Ao34 t1692.length co34)) (fun _ hk => hk.2) (.int .i64 t1695)) (fun _ hk => hk.2) (.int .i64 t1696)) (fun _ hk => hk.2) (.slice Ao38 t1697.length co38)) (fun _ hk => trivial)⟩, ⟨by (with_reducible repeat (first | apply Kd.R_alloc | apply Kd.R_drewN | apply Kd.R_drew)); exact Kd.R_mono (Kd.R_far (p := ⟨gb1678, 5, none⟩) (Kd.R_far (p := ⟨gb1678, 4, none⟩) (Kd.R_far (p := ⟨gb1678, 3, none⟩) (Kd.R_far (p := ⟨gb1678, 2, none⟩) (Kd.R_far (p := ⟨gb1678, 1, none⟩) (Kd.R_far (p := ⟨gb1678, 0, none⟩) (Kd.R_types HO1699.out BK1678.out (by decide)) (fun _ hk => hk.2) (.slice Ao31 t1688.length co31)) (fun _ hk => hk.2) (.int .i64 t1691)) (fun _ hk => hk.2) (.slice Ao34 t1692.length co34)) (fun _ hk => hk.2) (.int .i64 t1695)) (fun _ hk => hk.2) (.int .i64 t1696)) (fun _ hk => hk.2) (.slice Ao38 t1697.length co38)) (fun _ hk => trivial)⟩, ⟨by (with_reducible repeat (first | refine blk_drewN ?_ _ | refine blk_drew ?_ | refine blk_alloc ?_ _)); refine blk_far ?_ NB1656_1678.out _; (with_reducible repeat (first | refine blk_drewN ?_ _ | refine blk_drew ?_ | refine blk_alloc ?_ _)); refine blk_far ?_ NB1656_1678.out _; (with_reducible repeat (first | refine blk_drewN ?_ _ | refine blk_drew ?_ | refine blk_alloc ?_ _)); refine blk_far ?_ NB1656_1678.out _; (with_reducible repeat (first | refine blk_drewN ?_ _ | refine blk_drew ?_ | refine blk_alloc ?_ _)); refine blk_far ?_ NB1656_1678.out _; (with_reducible repeat (first | refine blk_drewN ?_ _ | refine blk_drew ?_ | refine blk_alloc ?_ _)); refine blk_far ?_ NB1656_1678.out _; (with_reducible repeat (first | refine blk_drewN ?_ _ | refine blk_drew ?_ | refine blk_alloc ?_ _)); refine blk_far ?_ NB1656_1678.out _; (with_reducible repeat (first | refine blk_drewN ?_ _ | refine blk_drew ?_ | refine blk_alloc ?_ _)); exact BK1656.out⟩, ⟨by (with_reducible repeat (first | refine blk_drewN ?_ _ | refine blk_drew ?_ | refine blk_alloc ?_ _)); refine blk_put (cs := #[.slice Ao31 t1688.length co31, .int .i64 t1691, .slice Ao34 t1692.length co34, .int .i64 t1695, .int .i64 t1696, .slice Ao29 x1679005_1.length co29]) ?_ 5 _ rfl; (with_reducible repeat (first | refine blk_drewN ?_ _ | refine blk_drew ?_ | refine blk_alloc ?_ _)); refine blk_put (cs := #[.slice Ao31 t1688.length co31, .int .i64 t1691, .slice Ao34 t1692.length co34, .int .i64 t1695, .int .i64 x1679004_1, .slice Ao29 x1679005_1.length co29]) ?_ 4 _ rfl; (with_reducible repeat (first | refine blk_drewN ?_ _ | refine blk_drew ?_ | refine blk_alloc ?_ _)); refine blk_put (cs := #[.slice Ao31 t1688.length co31, .int .i64 t1691, .slice Ao34 t1692.length co34, .int .i64 x1679003_1, .int .i64 x1679004_1, .slice Ao29 x1679005_1.length co29]) ?_ 3 _ rfl; (with_reducible repeat (first | refine blk_drewN ?_ _ | refine blk_drew ?_ | refine blk_alloc ?_ _)); refine blk_put (cs := #[.slice Ao31 t1688.length co31, .int .i64 t1691, .slice Ao28 x1679002_1.length co28, .int .i64 x1679003_1, .int .i64 x1679004_1, .slice Ao29 x1679005_1.length co29]) ?_ 2 _ rfl; (with_reducible repeat (first | refine blk_drewN ?_ _ | refine blk_drew ?_ | refine blk_alloc ?_ _)); refine blk_put (cs := #[.slice Ao31 t1688.length co31, .int .i64 x1679001_1, .slice Ao28 x1679002_1.length co28, .int .i64 x1679003_1, .int .i64 x1679004_1, .slice Ao29 x1679005_1.length co29]) ?_ 1 _ rfl; (with_reducible repeat (first | refine blk_drewN ?_ _ | refine blk_drew ?_ | refine blk_alloc ?_ _)); refine blk_put (cs := #[.slice Ao27 x1679000_1.length co27, .int .i64 x1679001_1, .slice Ao28 x1679002_1.length co28, .int .i64 x1679003_1, .int .i64 x1679004_1, .slice Ao29 x1679005_1.length co29]) ?_ 0 _ rfl; (with_reducible repeat (first | refine blk_drewN ?_ _ | refine blk_drew ?_ | refine blk_alloc ?_ _)); exact BK1678.out⟩, ⟨oI132 HI0⟩, ⟨oKe HK⟩, ⟨oB132 HB⟩⟩
    ·rw [if_neg c21] at H
     have c21b0 : (t1682 == 0) = false := beq_eq_false_iff_ne.mpr c21
     have c21b1 : (t1682 != 0) = true := bne_iff_ne.mpr c21
     by_cases c40 : t1682 = 1
     ·rw [if_pos c40] at H
      have c40b0 : (t1682 == 1) = true := beq_iff_eq.mpr c40
      have c40b1 : (t1682 != 1) = false := bne_eq_false_iff_eq.mpr c40
      clear c40
      replace H := Option.bind_eq_some_iff.mp H
      obtain ⟨⟨t1701, t1702, t1703, t1704⟩, A410, H⟩ := H
      (try dsimp only at H)
      have A41 := A_ A410
      clear A410
      replace H := Option.bind_eq_some_iff.mp H
      obtain ⟨⟨t1706, t1707, t1708⟩, A420, H⟩ := H
      (try dsimp only at H)
      have A42 := A_ A420
      clear A420
      replace H := Option.bind_eq_some_iff.mp H
      obtain ⟨⟨t1709, t1712, t1713, t1716, t1717, t1718, t1721⟩, A430, H⟩ := H
      (try dsimp only at H)
      have A43 := A_ A430
      clear A430
      have H' := A_ H
      clear H
      try go_wp2_with (first | ((with_reducible refine gate_callee (f := 75) rfl ?_); refine gL (some 26) Tryz.func75 #[.pointer (some ⟨g, 0, none⟩), .int .i64 8] ?_; (with_reducible refine (spec_l01Below.calls g s0_0 x1001_1 x1002_1 8 t1682 t1683 t1684 w0 _ ?side1 ?side2 A20.out).mono ?_); (case side1 => exact oI132 HI0); (case side2 => exact oB132 HB); rintro e w44 ⟨rfl, hi, hb, hk⟩; refine ⟨_, rfl, ?_⟩; have n0_ := A_ (Kd.R_mono (Kd.R_keep (IsS132.apart (show IsS132 w0 _ g s0_0 x1001_1 x1002_1 from oI132 HI0) (oR HO_1679000) (by decide)) hk (fun _ h => h.2)) (fun _ h => h.1)); have n1_ := A_ (Kd.R_mono (Kd.R_keep (IsS132.apart (show IsS132 w0 _ g s0_0 x1001_1 x1002_1 from oI132 HI0) (oR HO_1679002) (by decide)) hk (fun _ h => h.2)) (fun _ h => h.1)); have n2_ := A_ (Kd.R_mono (Kd.R_keep (IsS132.apart (show IsS132 w0 _ g s0_0 x1001_1 x1002_1 from oI132 HI0) (oR HO_1679005) (by decide)) hk (fun _ h => h.2)) (fun _ h => h.1)); have n3_ := A_ (KeepBut.blk hk (g' := gb1656) (o := .cells #[.slice none 0 0, .int .i64 0, .slice none 0 0, .int .i64 0, .int .i64 0, .slice none 0 0] 37 (0, 0)) (oK BK1656) NB1656_0.out (by simp)); have n4_ := A_ (KeepBut.blk hk (g' := gb1678) (o := .cells #[u1679000, .int .i64 x1679001_1, u1679002, .int .i64 x1679003_1, .int .i64 x1679004_1, u1679005] 37 (0, 0)) (oK BK1678) NB1678_0.out (by simp)); have n5_ := A_ (KeepBut.trans (oKe HK) hk (.inl rfl)); have n6_ := A_ (hb); have n7_ := A_ (hi); clear HO_1679000; clear HO_1679002; clear HO_1679005; clear BK1656; clear BK1678; clear HK; clear HB; clear HI0; have HO_1679000 := n0_; have HO_1679002 := n1_; have HO_1679005 := n2_; have BK1656 := n3_; have BK1678 := n4_; have HK := n5_; have HB := n6_; have HI0 := n7_; clear n0_ n1_ n2_ n3_ n4_ n5_ n6_ n7_; (try clear hb); (try clear hb2); (try clear hk); (try clear hi)) | ((with_reducible refine gate_callee (f := 138) rfl ?_); refine gL (some 44) Tryz.func138 #[.pointer (some ⟨g, 0, none⟩)] ?_; (with_reducible refine (spec_l34Pipe.calls g s0_0 t1683 t1684 t1701 t1702 t1703 t1704 w0 _ ?side1 ?side2 A41.out).mono ?_); (case side1 => exact oI132 HI0); (case side2 => exact oB132 HB); rintro e w45 ⟨rfl, hi, hb, hk⟩; refine ⟨_, rfl, ?_⟩; have n0_ := A_ (Kd.R_mono (Kd.R_keep (IsS132.apart (show IsS132 w0 _ g s0_0 t1683 t1684 from oI132 HI0) (oR HO_1679000) (by decide)) hk (fun _ h => h.2)) (fun _ h => h.1)); have n1_ := A_ (Kd.R_mono (Kd.R_keep (IsS132.apart (show IsS132 w0 _ g s0_0 t1683 t1684 from oI132 HI0) (oR HO_1679002) (by decide)) hk (fun _ h => h.2)) (fun _ h => h.1)); have n2_ := A_ (Kd.R_mono (Kd.R_keep (IsS132.apart (show IsS132 w0 _ g s0_0 t1683 t1684 from oI132 HI0) (oR HO_1679005) (by decide)) hk (fun _ h => h.2)) (fun _ h => h.1)); have n3_ := A_ (KeepBut.blk hk (g' := gb1656) (o := .cells #[.slice none 0 0, .int .i64 0, .slice none 0 0, .int .i64 0, .int .i64 0, .slice none 0 0] 37 (0, 0)) (oK BK1656) NB1656_0.out (by simp)); have n4_ := A_ (KeepBut.blk hk (g' := gb1678) (o := .cells #[u1679000, .int .i64 x1679001_1, u1679002, .int .i64 x1679003_1, .int .i64 x1679004_1, u1679005] 37 (0, 0)) (oK BK1678) NB1678_0.out (by simp)); have n5_ := A_ (KeepBut.trans (oKe HK) hk (.inl rfl)); have n6_ := A_ (hb); have n7_ := A_ (hi); clear HO_1679000; clear HO_1679002; clear HO_1679005; clear BK1656; clear BK1678; clear HK; clear HB; clear HI0; have HO_1679000 := n0_; have HO_1679002 := n1_; have HO_1679005 := n2_; have BK1656 := n3_; have BK1678 := n4_; have HK := n5_; have HB := n6_; have HI0 := n7_; clear n0_ n1_ n2_ n3_ n4_ n5_ n6_ n7_; (try clear hb); (try clear hb2); (try clear hk); (try clear hi)) | ((with_reducible refine gate_dst (N := 7) rfl ?_); refine bX (N := 7) (cs := #[.int .i64 0, .int .i64 0]) (t := 74) ?_; intro gb1705 hg w46 hbox hb; have n0_ := A_ (Kd.R_below (oR HO_1679000) hb); have n1_ := A_ (Kd.R_below (oR HO_1679002) hb); have n2_ := A_ (Kd.R_below (oR HO_1679005) hb); have n3_ := A_ (bb BK1656 hb); have n4_ := A_ (bb BK1678 hb); have n5_ := A_ (IsS132.below (oI132 HI0) hb); have n6_ := A_ (KeepBut.trans (oKe HK) (KeepBut.of_below hb g none) (.inl rfl)); have n7_ := A_ (below_step (oB132 HB) hb); have n8_ := A_ (hbox); have n9_ := A_ ((by rw [hg]; exact (keep_size (w := w) (g := g) (row := none) (by repeat (first | (with_reducible first | exact HK.out | apply KeepBut.set_ | apply keep_drewN | apply keep_drew | apply keep_alloc | refine keep_far ?_ GW1656.out _ | refine keep_far ?_ GW1678.out _) | exact HK.out))) : w.heap.size ≤ gb1705)); have n10_ := A_ ((Nat.le_trans HW0.out (by rw [hg]; exact (keep_size (w := w) (g := g) (row := none) (by repeat (first | (with_reducible first | exact HK.out | apply KeepBut.set_ | apply keep_drewN | apply keep_drew | apply keep_alloc | refine keep_far ?_ GW1656.out _ | refine keep_far ?_ GW1678.out _) | exact HK.out))) : w.heap.size ≤ gb1705) : w0.heap.size ≤ gb1705)); have n11_ := A_ (nL BK1656 hg); have n12_ := A_ (nG BK1656 hg); have n13_ := A_ (nL BK1678 hg); have n14_ := A_ (nG BK1678 hg); have n15_ := A_ ((by rw [hg]; exact Nat.ne_of_lt (IsS132.lt (show IsS132 w0 _ g s0_0 t1703 t1704 from oI132 HI0)) : g ≠ gb1705)); have n16_ := A_ ((by rw [hg]; exact Nat.ne_of_gt (IsS132.lt (show IsS132 w0 _ g s0_0 t1703 t1704 from oI132 HI0)) : gb1705 ≠ g)); clear HO_1679000; clear HO_1679002; clear HO_1679005; clear BK1656; clear BK1678; clear HI0; clear HK; clear HB; have HO_1679000 := n0_; have HO_1679002 := n1_; have HO_1679005 := n2_; have BK1656 := n3_; have BK1678 := n4_; have HI0 := n5_; have HK := n6_; have HB := n7_; have BK1705 := n8_; have GW1705 := n9_; have GE1705 := n10_; have NB1656_1705 := n11_; have NB1705_1656 := n12_; have NB1678_1705 := n13_; have NB1705_1678 := n14_; have NB0_1705 := n15_; have NB1705_0 := n16_; clear n0_ n1_ n2_ n3_ n4_ n5_ n6_ n7_ n8_ n9_ n10_ n11_ n12_ n13_ n14_ n15_ n16_; clear hb hbox hg; have hnb47 := NB1705_1656.out; have hnc47 := NB1656_1705.out; have hnb48 := NB1705_1678.out; have hnc48 := NB1678_1705.out; have hnb49 := NB1705_0.out; have hnc49 := NB0_1705.out; have hcz50_0 := cz BK1705 0; have hcz50_1 := cz BK1705 1; have hfz50_0 := blk_frozen BK1705.out 0; have hfz50_1 := blk_frozen BK1705.out 1))
      have n0_ : Aside0 (Kd.R k112 112 ((w46.setCell ⟨gb1705, 0, none⟩ (.int .i64 t1701)).setCell ⟨gb1705, 1, none⟩ (.int .i64 t1702)) w.heap.size (fun _ => True) u1679000 x1679000_1) := ⟨by (with_reducible repeat (first | apply Kd.R_alloc | apply Kd.R_drewN | apply Kd.R_drew)); exact Kd.R_mono (Kd.R_far (p := ⟨gb1705, 1, none⟩) (Kd.R_far (p := ⟨gb1705, 0, none⟩) (Kd.R_types HO_1679000.out BK1705.out (by decide)) (fun _ hk => hk.2) (.int .i64 t1701)) (fun _ hk => hk.2) (.int .i64 t1702)) (fun _ hk => trivial)⟩
      have n1_ : Aside0 (Kd.R (Kd.int .i64) 3 ((w46.setCell ⟨gb1705, 0, none⟩ (.int .i64 t1701)).setCell ⟨gb1705, 1, none⟩ (.int .i64 t1702)) w.heap.size (fun _ => True) u1679002 x1679002_1) := ⟨by (with_reducible repeat (first | apply Kd.R_alloc | apply Kd.R_drewN | apply Kd.R_drew)); exact Kd.R_mono (Kd.R_far (p := ⟨gb1705, 1, none⟩) (Kd.R_far (p := ⟨gb1705, 0, none⟩) (Kd.R_types HO_1679002.out BK1705.out (by decide)) (fun _ hk => hk.2) (.int .i64 t1701)) (fun _ hk => hk.2) (.int .i64 t1702)) (fun _ hk => trivial)⟩
      have n2_ : Aside0 (Kd.R k104 104 ((w46.setCell ⟨gb1705, 0, none⟩ (.int .i64 t1701)).setCell ⟨gb1705, 1, none⟩ (.int .i64 t1702)) w.heap.size (fun _ => True) u1679005 x1679005_1) := ⟨by (with_reducible repeat (first | apply Kd.R_alloc | apply Kd.R_drewN | apply Kd.R_drew)); exact Kd.R_mono (Kd.R_far (p := ⟨gb1705, 1, none⟩) (Kd.R_far (p := ⟨gb1705, 0, none⟩) (Kd.R_types HO_1679005.out BK1705.out (by decide)) (fun _ hk => hk.2) (.int .i64 t1701)) (fun _ hk => hk.2) (.int .i64 t1702)) (fun _ hk => trivial)⟩
      have n3_ : Aside0 (((w46.setCell ⟨gb1705, 0, none⟩ (.int .i64 t1701)).setCell ⟨gb1705, 1, none⟩ (.int .i64 t1702)).heap[gb1656]? = some (.cells #[.slice none 0 0, .int .i64 0, .slice none 0 0, .int .i64 0, .int .i64 0, .slice none 0 0] 37 (0, 0))) := ⟨by (with_reducible repeat (first | refine blk_drewN ?_ _ | refine blk_drew ?_ | refine blk_alloc ?_ _)); refine blk_far ?_ NB1656_1705.out _; (with_reducible repeat (first | refine blk_drewN ?_ _ | refine blk_drew ?_ | refine blk_alloc ?_ _)); refine blk_far ?_ NB1656_1705.out _; (with_reducible repeat (first | refine blk_drewN ?_ _ | refine blk_drew ?_ | refine blk_alloc ?_ _)); exact BK1656.out⟩
      have n4_ : Aside0 (((w46.setCell ⟨gb1705, 0, none⟩ (.int .i64 t1701)).setCell ⟨gb1705, 1, none⟩ (.int .i64 t1702)).heap[gb1678]? = some (.cells #[u1679000, .int .i64 x1679001_1, u1679002, .int .i64 x1679003_1, .int .i64 x1679004_1, u1679005] 37 (0, 0))) := ⟨by (with_reducible repeat (first | refine blk_drewN ?_ _ | refine blk_drew ?_ | refine blk_alloc ?_ _)); refine blk_far ?_ NB1678_1705.out _; (with_reducible repeat (first | refine blk_drewN ?_ _ | refine blk_drew ?_ | refine blk_alloc ?_ _)); refine blk_far ?_ NB1678_1705.out _; (with_reducible repeat (first | refine blk_drewN ?_ _ | refine blk_drew ?_ | refine blk_alloc ?_ _)); exact BK1678.out⟩
      have n5_ : Aside0 (((w46.setCell ⟨gb1705, 0, none⟩ (.int .i64 t1701)).setCell ⟨gb1705, 1, none⟩ (.int .i64 t1702)).heap[gb1705]? = some (.cells #[.int .i64 t1701, .int .i64 t1702] 74 (0, 0))) := ⟨by (with_reducible repeat (first | refine blk_drewN ?_ _ | refine blk_drew ?_ | refine blk_alloc ?_ _)); refine blk_put (cs := #[.int .i64 t1701, .int .i64 0]) ?_ 1 _ rfl; (with_reducible repeat (first | refine blk_drewN ?_ _ | refine blk_drew ?_ | refine blk_alloc ?_ _)); refine blk_put (cs := #[.int .i64 0, .int .i64 0]) ?_ 0 _ rfl; (with_reducible repeat (first | refine blk_drewN ?_ _ | refine blk_drew ?_ | refine blk_alloc ?_ _)); exact BK1705.out⟩
      have n6_ : Aside0 (IsS132 w0 ((w46.setCell ⟨gb1705, 0, none⟩ (.int .i64 t1701)).setCell ⟨gb1705, 1, none⟩ (.int .i64 t1702)) g s0_0 t1703 t1704) := ⟨oI132 HI0⟩
      have n7_ : Aside0 (KeepBut w ((w46.setCell ⟨gb1705, 0, none⟩ (.int .i64 t1701)).setCell ⟨gb1705, 1, none⟩ (.int .i64 t1702)) g none) := ⟨oKe HK⟩
      have n8_ : Aside0 (Below w0.heap.size w0 ((w46.setCell ⟨gb1705, 0, none⟩ (.int .i64 t1701)).setCell ⟨gb1705, 1, none⟩ (.int .i64 t1702))) := ⟨oB132 HB⟩
      (try clear HO_1679000)
      (try clear HO_1679002)
      (try clear HO_1679005)
      (try clear BK1656)
      (try clear BK1678)
      (try clear BK1705)
      (try clear HI0)
      (try clear HK)
      (try clear HB)
      generalize ((w46.setCell ⟨gb1705, 0, none⟩ (.int .i64 t1701)).setCell ⟨gb1705, 1, none⟩ (.int .i64 t1702)) = w51 at n0_ n1_ n2_ n3_ n4_ n5_ n6_ n7_ n8_ ⊢
      have HO_1679000 := n0_
      have HO_1679002 := n1_
      have HO_1679005 := n2_
      have BK1656 := n3_
      have BK1678 := n4_
      have BK1705 := n5_
      have HI0 := n6_
      have HK := n7_
      have HB := n8_
      clear n0_ n1_ n2_ n3_ n4_ n5_ n6_ n7_ n8_
      have n0_ := A_ (Kd.R_drew HO_1679000.out)
      have n1_ := A_ (Kd.R_drew HO_1679002.out)
      have n2_ := A_ (Kd.R_drew HO_1679005.out)
      have n3_ := A_ (blk_drew BK1656.out)
      have n4_ := A_ (blk_drew BK1678.out)
      have n5_ := A_ (blk_drew BK1705.out)
      have n6_ := A_ (IsS132.drew HI0.out)
      have n7_ := A_ (keep_drew HK.out)
      have n8_ := A_ (below_drew1 HB.out)
      clear HO_1679000
      clear HO_1679002
      clear HO_1679005
      clear BK1656
      clear BK1678
      clear BK1705
      clear HI0
      clear HK
      clear HB
      have HO_1679000 := n0_
      have HO_1679002 := n1_
      have HO_1679005 := n2_
      have BK1656 := n3_
      have BK1678 := n4_
      have BK1705 := n5_
      have HI0 := n6_
      have HK := n7_
      have HB := n8_
      clear n0_ n1_ n2_ n3_ n4_ n5_ n6_ n7_ n8_
      refine start_ (n := 9) (S := fun w' => w'.cell? ⟨gb1678, 0, none⟩ = some (u1679000) ∧ w'.cell? ⟨gb1678, 1, none⟩ = some (.int .i64 x1679001_1) ∧ w'.cell? ⟨gb1678, 2, none⟩ = some (u1679002) ∧ w'.cell? ⟨gb1678, 3, none⟩ = some (.int .i64 x1679003_1) ∧ w'.cell? ⟨gb1678, 4, none⟩ = some (.int .i64 x1679004_1) ∧ w'.cell? ⟨gb1678, 5, none⟩ = some (u1679005) ∧ w'.cell? ⟨gb1705, 0, none⟩ = some (.int .i64 t1701) ∧ w'.cell? ⟨gb1705, 1, none⟩ = some (.int .i64 t1702)) (ds := [8]) #[false, false, false, false, false, false, false, false, false] (by kernel_rfl) rfl rfl ⟨cz BK1678 0, cz BK1678 1, cz BK1678 2, cz BK1678 3, cz BK1678 4, cz BK1678 5, cz BK1705 0, cz BK1705 1⟩ (fun hHeld => ?_); refine with_tabW spec_l38Shop.tab12 spec_l38Shop.bits12 (fun HT_ HW_ => ?_)
      generalize w51.drew = w52 at HO_1679000 HO_1679002 HO_1679005 BK1656 BK1678 BK1705 HI0 HK HB hHeld ⊢
      refine pA 2 (some 48) HT_.out ?_
      refine pT 0 (some 46) HT_.out HW_.out hHeld ?_
      refine pT 1 (some 47) HT_.out HW_.out hHeld ?_
      refine one_ (i := 3) (N := some 49) #[true, true, true, true, false, false, false, false, false] rfl rfl (one_of HT_.out (by kernel_rfl)) (by decide) (fun K hK => ?_)
      refine goes_ Tryz.func75 (by kernel_rfl) rfl #[.pointer (some ⟨g, 0, none⟩), .int .i64 3] (by rfl) rfl rfl (by (try simp only [List.map_toArray, List.map_cons, List.map_nil]); first | done | rfl | (simp only [List.length_drop, List.length_take]; rfl)) ?_
      with_reducible refine (spec_l01Below.calls g s0_0 t1703 t1704 3 t1706 t1707 t1708 w0 _ ?side1 ?side2 A42.out).mono ?_
      (case side1 => exact oI132 HI0)
      (case side2 => exact oB132 HB)
      rintro e w53 ⟨rfl, hi, hb, hk⟩
      refine ⟨_, rfl, ?_⟩
      have n0_ := A_ (Kd.R_mono (Kd.R_keep (IsS132.apart (show IsS132 w0 _ g s0_0 t1703 t1704 from oI132 HI0) (oR HO_1679000) (by decide)) hk (fun _ h => h.2)) (fun _ h => h.1))
      have n1_ := A_ (Kd.R_mono (Kd.R_keep (IsS132.apart (show IsS132 w0 _ g s0_0 t1703 t1704 from oI132 HI0) (oR HO_1679002) (by decide)) hk (fun _ h => h.2)) (fun _ h => h.1))
      have n2_ := A_ (Kd.R_mono (Kd.R_keep (IsS132.apart (show IsS132 w0 _ g s0_0 t1703 t1704 from oI132 HI0) (oR HO_1679005) (by decide)) hk (fun _ h => h.2)) (fun _ h => h.1))
      have n3_ := A_ (KeepBut.blk hk (g' := gb1656) (o := .cells #[.slice none 0 0, .int .i64 0, .slice none 0 0, .int .i64 0, .int .i64 0, .slice none 0 0] 37 (0, 0)) (oK BK1656) NB1656_0.out (by simp))
      have n4_ := A_ (KeepBut.blk hk (g' := gb1678) (o := .cells #[u1679000, .int .i64 x1679001_1, u1679002, .int .i64 x1679003_1, .int .i64 x1679004_1, u1679005] 37 (0, 0)) (oK BK1678) NB1678_0.out (by simp))
      have n5_ := A_ (KeepBut.blk hk (g' := gb1705) (o := .cells #[.int .i64 t1701, .int .i64 t1702] 74 (0, 0)) (oK BK1705) NB1705_0.out (by simp))
      have n6_ := A_ (KeepBut.trans (oKe HK) hk (.inl rfl))
      have n7_ := A_ (hb)
      have n8_ := A_ (hi)
      clear HO_1679000
      clear HO_1679002
      clear HO_1679005
      clear BK1656
      clear BK1678
      clear BK1705
      clear HK
      clear HB
      clear HI0
      have HO_1679000 := n0_
      have HO_1679002 := n1_
      have HO_1679005 := n2_
      have BK1656 := n3_
      have BK1678 := n4_
      have BK1705 := n5_
      have HK := n6_
      have HB := n7_
      have HI0 := n8_
      clear n0_ n1_ n2_ n3_ n4_ n5_ n6_ n7_ n8_
      (try clear hb)
      (try clear hb2)
      (try clear hk)
      (try clear hi)
      obtain ⟨Ao54, co54, eo54⟩ := Kd.R_slice HO_1679000.out
      (first | subst eo54 | (injection eo54 with f1_ f2_ f3_; have f4_ := f1_.symm; have f5_ := f3_.symm; clear f1_ f2_ f3_; subst f4_; subst f5_))
      obtain ⟨Ao55, co55, eo55⟩ := Kd.R_slice HO_1679002.out
      (first | subst eo55 | (injection eo55 with f1_ f2_ f3_; have f4_ := f1_.symm; have f5_ := f3_.symm; clear f1_ f2_ f3_; subst f4_; subst f5_))
      obtain ⟨Ao56, co56, eo56⟩ := Kd.R_slice HO_1679005.out
      (first | subst eo56 | (injection eo56 with f1_ f2_ f3_; have f4_ := f1_.symm; have f5_ := f3_.symm; clear f1_ f2_ f3_; subst f4_; subst f5_))
      refine hK.out _ _ ⟨cz BK1678 0, cz BK1678 1, cz BK1678 2, cz BK1678 3, cz BK1678 4, cz BK1678 5, cz BK1705 0, cz BK1705 1⟩ (fun hHeld => ?_)
      clear hK K
      refine norm_ (a' := ?_) ?_ ?_
      rotate_left
      ·show Act.put _ (some 49) _ = _
       simp only [Act.put, List.setIfInBounds_toArray, List.set_cons_zero, List.set_cons_succ, i64_w, i32_w]
       rfl
      refine one_ (i := 4) (N := some 50) #[true, true, true, true, true, false, false, false, false] rfl rfl (one_of HT_.out (by kernel_rfl)) (by decide) (fun K hK => ?_)
      refine goes_ Tryz.func49 (by kernel_rfl) rfl #[.agg #[.slice Ao54 x1679000_1.length co54, .int .i64 x1679001_1, .slice Ao55 x1679002_1.length co55, .int .i64 x1679003_1, .int .i64 x1679004_1, .slice Ao56 x1679005_1.length co56], .agg #[.int .i64 t1701, .int .i64 t1702], .int .i64 t1706] (by rfl) rfl rfl (by (try simp only [List.map_toArray, List.map_cons, List.map_nil]); first | done | rfl | (simp only [List.length_drop, List.length_take]; rfl)) ?_
      with_reducible refine (spec_ShopFault.calls k1 _ _ x1679000_1 x1679001_1 _ _ x1679002_1 x1679003_1 x1679004_1 _ _ x1679005_1 t1701 t1702 t1706 t1709 t1712 t1713 t1716 t1717 t1718 t1721 _ ?side1 ?side2 ?side3 ?side4 ?side5 ?side6 A43.out).mono ?_
      (case side1 => repeat (first | exact (Kd.R_reads' HO_1679000.out).2.2 | (with_reducible refine Kd.C_alloc ?_ _) | (with_reducible refine Kd.C_drewN ?_ _) | (with_reducible refine Kd.C_drew ?_)))
      (case side2 => exact (Kd.R_reads' HO_1679000.out).2.1)
      (case side3 => repeat (first | exact (Kd.R_reads' HO_1679002.out).2.2 | (with_reducible refine Kd.C_alloc ?_ _) | (with_reducible refine Kd.C_drewN ?_ _) | (with_reducible refine Kd.C_drew ?_)))
      (case side4 => exact (Kd.R_reads' HO_1679002.out).2.1)
      (case side5 => repeat (first | exact (Kd.R_reads' HO_1679005.out).2.2 | (with_reducible refine Kd.C_alloc ?_ _) | (with_reducible refine Kd.C_drewN ?_ _) | (with_reducible refine Kd.C_drew ?_)))
      (case side6 => exact (Kd.R_reads' HO_1679005.out).2.1)
      rintro e w57 ⟨v1710, v1714, v1719, rfl, ho0, ho1, ho2, hb⟩
      refine ⟨_, rfl, ?_⟩
      have n0_ := A_ (Kd.R_elder' (oR HO_1679000) (Kd.R_base ho0) hb)
      have n1_ := A_ (Kd.R_elder' (oR HO_1679002) (Kd.R_base ho1) hb)
      have n2_ := A_ (Kd.R_elder' (oR HO_1679005) (Kd.R_base ho2) hb)
      have n3_ := A_ (Kd.R_lower (Kd.R_new' ho0 (Kd.R_lt (oR HO_1679000))) (keep_size (w := w) (g := g) (row := none) (by repeat (first | (with_reducible first | exact HK.out | apply KeepBut.set_ | apply keep_drewN | apply keep_drew | apply keep_alloc | refine keep_far ?_ GW1656.out _ | refine keep_far ?_ GW1678.out _ | refine keep_far ?_ GW1705.out _) | exact HK.out))))
      have n4_ := A_ (Kd.R_lower (Kd.R_new' ho1 (Kd.R_lt (oR HO_1679002))) (keep_size (w := w) (g := g) (row := none) (by repeat (first | (with_reducible first | exact HK.out | apply KeepBut.set_ | apply keep_drewN | apply keep_drew | apply keep_alloc | refine keep_far ?_ GW1656.out _ | refine keep_far ?_ GW1678.out _ | refine keep_far ?_ GW1705.out _) | exact HK.out))))
      have n5_ := A_ (Kd.R_lower (Kd.R_new' ho2 (Kd.R_lt (oR HO_1679005))) (keep_size (w := w) (g := g) (row := none) (by repeat (first | (with_reducible first | exact HK.out | apply KeepBut.set_ | apply keep_drewN | apply keep_drew | apply keep_alloc | refine keep_far ?_ GW1656.out _ | refine keep_far ?_ GW1678.out _ | refine keep_far ?_ GW1705.out _) | exact HK.out))))
      have n6_ := A_ (bb BK1656 hb)
      have n7_ := A_ (bb BK1678 hb)
      have n8_ := A_ (IsS132.below (oI132 HI0) hb)
      have n9_ := A_ (bb BK1705 hb)
      have n10_ := A_ (KeepBut.trans (oKe HK) (KeepBut.of_below hb g none) (.inl rfl))
      have n11_ := A_ (below_step (oB132 HB) hb)
      clear HO_1679000
      clear HO_1679002
      clear HO_1679005
      clear BK1656
      clear BK1678
      clear HI0
      clear BK1705
      clear HK
      clear HB
      have HO_1679000 := n0_
      have HO_1679002 := n1_
      have HO_1679005 := n2_
      have HO1711 := n3_
      have HO1715 := n4_
      have HO1720 := n5_
      have BK1656 := n6_
      have BK1678 := n7_
      have HI0 := n8_
      have BK1705 := n9_
      have HK := n10_
      have HB := n11_
      clear n0_ n1_ n2_ n3_ n4_ n5_ n6_ n7_ n8_ n9_ n10_ n11_
      (try clear hb)
      (try clear hb2)
      (try clear hk)
      (try clear hi)
      (try clear ho0)
      (try clear ho1)
      (try clear ho2)
      obtain ⟨Ao58, co58, eo58⟩ := Kd.R_slice HO1711.out
      (first | subst eo58 | (injection eo58 with f1_ f2_ f3_; have f4_ := f1_.symm; have f5_ := f3_.symm; clear f1_ f2_ f3_; subst f4_; subst f5_))
      obtain ⟨Ao61, co61, eo61⟩ := Kd.R_slice HO1715.out
      (first | subst eo61 | (injection eo61 with f1_ f2_ f3_; have f4_ := f1_.symm; have f5_ := f3_.symm; clear f1_ f2_ f3_; subst f4_; subst f5_))
      obtain ⟨Ao65, co65, eo65⟩ := Kd.R_slice HO1720.out
      (first | subst eo65 | (injection eo65 with f1_ f2_ f3_; have f4_ := f1_.symm; have f5_ := f3_.symm; clear f1_ f2_ f3_; subst f4_; subst f5_))
      refine hK.out _ _ ⟨cz BK1678 0, cz BK1678 1, cz BK1678 2, cz BK1678 3, cz BK1678 4, cz BK1678 5, cz BK1705 0, cz BK1705 1⟩ (fun hHeld => ?_)
      clear hK K
      refine norm_ (a' := ?_) ?_ ?_
      rotate_left
      ·show Act.put _ (some 50) _ = _
       simp only [Act.put, List.setIfInBounds_toArray, List.set_cons_zero, List.set_cons_succ, i64_w, i32_w]
       rfl
      refine pA 5 (some 45) HT_.out ?_
      refine pA 6 (some 51) HT_.out ?_
      refine pA 7 (some 52) HT_.out ?_
      refine last_ (i := 8) (N := none) #[true, true, true, true, true, true, true, true, true] rfl rfl (one_of HT_.out (by kernel_rfl)) (by decide) (fun K hK => ?_)
      have hs59 := cz BK1678 0
      have hfs59 := blk_frozen BK1678.out 0
      have hns59_0 := NB1656_1678.out
      have hns59_2 := NB1705_1678.out
      have hms59_0 := NB1678_1656.out
      have hms59_2 := NB1678_1705.out
      have hs60 := cz BK1678 1
      have hfs60 := blk_frozen BK1678.out 1
      have hns60_0 := NB1656_1678.out
      have hns60_2 := NB1705_1678.out
      have hms60_0 := NB1678_1656.out
      have hms60_2 := NB1678_1705.out
      have hs62 := cz BK1678 2
      have hfs62 := blk_frozen BK1678.out 2
      have hns62_0 := NB1656_1678.out
      have hns62_2 := NB1705_1678.out
      have hms62_0 := NB1678_1656.out
      have hms62_2 := NB1678_1705.out
      have hs63 := cz BK1678 3
      have hfs63 := blk_frozen BK1678.out 3
      have hns63_0 := NB1656_1678.out
      have hns63_2 := NB1705_1678.out
      have hms63_0 := NB1678_1656.out
      have hms63_2 := NB1678_1705.out
      have hs64 := cz BK1678 4
      have hfs64 := blk_frozen BK1678.out 4
      have hns64_0 := NB1656_1678.out
      have hns64_2 := NB1705_1678.out
      have hms64_0 := NB1678_1656.out
      have hms64_2 := NB1678_1705.out
      have hs66 := cz BK1678 5
      have hfs66 := blk_frozen BK1678.out 5
      have hns66_0 := NB1656_1678.out
      have hns66_2 := NB1705_1678.out
      have hms66_0 := NB1678_1656.out
      have hms66_2 := NB1678_1705.out
      refine skip_ (w1 := ?_) (by rfl) rfl ?_ ?_
      rotate_left
      ·go_simp
       rfl
      refine hK.out _ _ ?_
      clear hK K
      refine done_ (done_of HT_.out (by kernel_rfl)) ?_
      try go_wp2
      go_roundg k1
      case measure => have := HK1.out; omega
      case rel => exact ⟨(wrap64 (x6_1 + 1)), (t1707), (t1708), (t1709), (t1712), (t1713), (t1716), (t1717), (t1718), (.slice Ao58 t1709.length co58), (.slice Ao61 t1713.length co61), (.slice Ao65 t1718.length co65), eS, H', ⟨by have := HK1.out; omega⟩, ⟨by (with_reducible repeat (first | apply Kd.R_alloc | apply Kd.R_drewN | apply Kd.R_drew)); exact Kd.R_mono (Kd.R_far (p := ⟨gb1678, 5, none⟩) (Kd.R_far (p := ⟨gb1678, 4, none⟩) (Kd.R_far (p := ⟨gb1678, 3, none⟩) (Kd.R_far (p := ⟨gb1678, 2, none⟩) (Kd.R_far (p := ⟨gb1678, 1, none⟩) (Kd.R_far (p := ⟨gb1678, 0, none⟩) (Kd.R_types HO1711.out BK1678.out (by decide)) (fun _ hk => hk.2) (.slice Ao58 t1709.length co58)) (fun _ hk => hk.2) (.int .i64 t1712)) (fun _ hk => hk.2) (.slice Ao61 t1713.length co61)) (fun _ hk => hk.2) (.int .i64 t1716)) (fun _ hk => hk.2) (.int .i64 t1717)) (fun _ hk => hk.2) (.slice Ao65 t1718.length co65)) (fun _ hk => trivial)⟩, ⟨by (with_reducible repeat (first | apply Kd.R_alloc | apply Kd.R_drewN | apply Kd.R_drew)); exact Kd.R_mono (Kd.R_far (p := ⟨gb1678, 5, none⟩) (Kd.R_far (p := ⟨gb1678, 4, none⟩) (Kd.R_far (p := ⟨gb1678, 3, none⟩) (Kd.R_far (p := ⟨gb1678, 2, none⟩) (Kd.R_far (p := ⟨gb1678, 1, none⟩) (Kd.R_far (p := ⟨gb1678, 0, none⟩) (Kd.R_types HO1715.out BK1678.out (by decide)) (fun _ hk => hk.2) (.slice Ao58 t1709.length co58)) (fun _ hk => hk.2) (.int .i64 t1712)) (fun _ hk => hk.2) (.slice Ao61 t1713.length co61)) (fun _ hk => hk.2) (.int .i64 t1716)) (fun _ hk => hk.2) (.int .i64 t1717)) (fun _ hk => hk.2) (.slice Ao65 t1718.length co65)) (fun _ hk => trivial)⟩, ⟨by (with_reducible repeat (first | apply Kd.R_alloc | apply Kd.R_drewN | apply Kd.R_drew)); exact Kd.R_mono (Kd.R_far (p := ⟨gb1678, 5, none⟩) (Kd.R_far (p := ⟨gb1678, 4, none⟩) (Kd.R_far (p := ⟨gb1678, 3, none⟩) (Kd.R_far (p := ⟨gb1678, 2, none⟩) (Kd.R_far (p := ⟨gb1678, 1, none⟩) (Kd.R_far (p := ⟨gb1678, 0, none⟩) (Kd.R_types HO1720.out BK1678.out (by decide)) (fun _ hk => hk.2) (.slice Ao58 t1709.length co58)) (fun _ hk => hk.2) (.int .i64 t1712)) (fun _ hk => hk.2) (.slice Ao61 t1713.length co61)) (fun _ hk => hk.2) (.int .i64 t1716)) (fun _ hk => hk.2) (.int .i64 t1717)) (fun _ hk => hk.2) (.slice Ao65 t1718.length co65)) (fun _ hk => trivial)⟩, ⟨by (with_reducible repeat (first | refine blk_drewN ?_ _ | refine blk_drew ?_ | refine blk_alloc ?_ _)); refine blk_far ?_ NB1656_1678.out _; (with_reducible repeat (first | refine blk_drewN ?_ _ | refine blk_drew ?_ | refine blk_alloc ?_ _)); refine blk_far ?_ NB1656_1678.out _; (with_reducible repeat (first | refine blk_drewN ?_ _ | refine blk_drew ?_ | refine blk_alloc ?_ _)); refine blk_far ?_ NB1656_1678.out _; (with_reducible repeat (first | refine blk_drewN ?_ _ | refine blk_drew ?_ | refine blk_alloc ?_ _)); refine blk_far ?_ NB1656_1678.out _; (with_reducible repeat (first | refine blk_drewN ?_ _ | refine blk_drew ?_ | refine blk_alloc ?_ _)); refine blk_far ?_ NB1656_1678.out _; (with_reducible repeat (first | refine blk_drewN ?_ _ | refine blk_drew ?_ | refine blk_alloc ?_ _)); refine blk_far ?_ NB1656_1678.out _; (with_reducible repeat (first | refine blk_drewN ?_ _ | refine blk_drew ?_ | refine blk_alloc ?_ _)); exact BK1656.out⟩, ⟨by (with_reducible repeat (first | refine blk_drewN ?_ _ | refine blk_drew ?_ | refine blk_alloc ?_ _)); refine blk_put (cs := #[.slice Ao58 t1709.length co58, .int .i64 t1712, .slice Ao61 t1713.length co61, .int .i64 t1716, .int .i64 t1717, .slice Ao56 x1679005_1.length co56]) ?_ 5 _ rfl; (with_reducible repeat (first | refine blk_drewN ?_ _ | refine blk_drew ?_ | refine blk_alloc ?_ _)); refine blk_put (cs := #[.slice Ao58 t1709.length co58, .int .i64 t1712, .slice Ao61 t1713.length co61, .int .i64 t1716, .int .i64 x1679004_1, .slice Ao56 x1679005_1.length co56]) ?_ 4 _ rfl; (with_reducible repeat (first | refine blk_drewN ?_ _ | refine blk_drew ?_ | refine blk_alloc ?_ _)); refine blk_put (cs := #[.slice Ao58 t1709.length co58, .int .i64 t1712, .slice Ao61 t1713.length co61, .int .i64 x1679003_1, .int .i64 x1679004_1, .slice Ao56 x1679005_1.length co56]) ?_ 3 _ rfl; (with_reducible repeat (first | refine blk_drewN ?_ _ | refine blk_drew ?_ | refine blk_alloc ?_ _)); refine blk_put (cs := #[.slice Ao58 t1709.length co58, .int .i64 t1712, .slice Ao55 x1679002_1.length co55, .int .i64 x1679003_1, .int .i64 x1679004_1, .slice Ao56 x1679005_1.length co56]) ?_ 2 _ rfl; (with_reducible repeat (first | refine blk_drewN ?_ _ | refine blk_drew ?_ | refine blk_alloc ?_ _)); refine blk_put (cs := #[.slice Ao58 t1709.length co58, .int .i64 x1679001_1, .slice Ao55 x1679002_1.length co55, .int .i64 x1679003_1, .int .i64 x1679004_1, .slice Ao56 x1679005_1.length co56]) ?_ 1 _ rfl; (with_reducible repeat (first | refine blk_drewN ?_ _ | refine blk_drew ?_ | refine blk_alloc ?_ _)); refine blk_put (cs := #[.slice Ao54 x1679000_1.length co54, .int .i64 x1679001_1, .slice Ao55 x1679002_1.length co55, .int .i64 x1679003_1, .int .i64 x1679004_1, .slice Ao56 x1679005_1.length co56]) ?_ 0 _ rfl; (with_reducible repeat (first | refine blk_drewN ?_ _ | refine blk_drew ?_ | refine blk_alloc ?_ _)); exact BK1678.out⟩, ⟨oI132 HI0⟩, ⟨oKe HK⟩, ⟨oB132 HB⟩⟩
     ·rw [if_neg c40] at H
      have c40b0 : (t1682 == 1) = false := beq_eq_false_iff_ne.mpr c40
      have c40b1 : (t1682 != 1) = true := bne_iff_ne.mpr c40
      by_cases c67 : t1682 = 2
      ·rw [if_pos c67] at H
       have c67b0 : (t1682 == 2) = true := beq_iff_eq.mpr c67
       have c67b1 : (t1682 != 2) = false := bne_eq_false_iff_eq.mpr c67
       clear c67
       replace H := Option.bind_eq_some_iff.mp H
       obtain ⟨⟨t1722, t1723, t1724⟩, A680, H⟩ := H
       (try dsimp only at H)
       have A68 := A_ A680
       clear A680
       replace H := Option.bind_eq_some_iff.mp H
       obtain ⟨⟨t1725, t1726, t1727⟩, A690, H⟩ := H
       (try dsimp only at H)
       have A69 := A_ A690
       clear A690
       replace H := Option.bind_eq_some_iff.mp H
       obtain ⟨⟨t1728, t1731, t1732, t1735, t1736, t1737, t1740⟩, A700, H⟩ := H
       (try dsimp only at H)
       have A70 := A_ A700
       clear A700
       have H' := A_ H
       clear H
       try go_wp2_with (first | ((with_reducible refine gate_callee (f := 75) rfl ?_); refine gL (some 26) Tryz.func75 #[.pointer (some ⟨g, 0, none⟩), .int .i64 8] ?_; (with_reducible refine (spec_l01Below.calls g s0_0 x1001_1 x1002_1 8 t1682 t1683 t1684 w0 _ ?side1 ?side2 A20.out).mono ?_); (case side1 => exact oI132 HI0); (case side2 => exact oB132 HB); rintro e w71 ⟨rfl, hi, hb, hk⟩; refine ⟨_, rfl, ?_⟩; have n0_ := A_ (Kd.R_mono (Kd.R_keep (IsS132.apart (show IsS132 w0 _ g s0_0 x1001_1 x1002_1 from oI132 HI0) (oR HO_1679000) (by decide)) hk (fun _ h => h.2)) (fun _ h => h.1)); have n1_ := A_ (Kd.R_mono (Kd.R_keep (IsS132.apart (show IsS132 w0 _ g s0_0 x1001_1 x1002_1 from oI132 HI0) (oR HO_1679002) (by decide)) hk (fun _ h => h.2)) (fun _ h => h.1)); have n2_ := A_ (Kd.R_mono (Kd.R_keep (IsS132.apart (show IsS132 w0 _ g s0_0 x1001_1 x1002_1 from oI132 HI0) (oR HO_1679005) (by decide)) hk (fun _ h => h.2)) (fun _ h => h.1)); have n3_ := A_ (KeepBut.blk hk (g' := gb1656) (o := .cells #[.slice none 0 0, .int .i64 0, .slice none 0 0, .int .i64 0, .int .i64 0, .slice none 0 0] 37 (0, 0)) (oK BK1656) NB1656_0.out (by simp)); have n4_ := A_ (KeepBut.blk hk (g' := gb1678) (o := .cells #[u1679000, .int .i64 x1679001_1, u1679002, .int .i64 x1679003_1, .int .i64 x1679004_1, u1679005] 37 (0, 0)) (oK BK1678) NB1678_0.out (by simp)); have n5_ := A_ (KeepBut.trans (oKe HK) hk (.inl rfl)); have n6_ := A_ (hb); have n7_ := A_ (hi); clear HO_1679000; clear HO_1679002; clear HO_1679005; clear BK1656; clear BK1678; clear HK; clear HB; clear HI0; have HO_1679000 := n0_; have HO_1679002 := n1_; have HO_1679005 := n2_; have BK1656 := n3_; have BK1678 := n4_; have HK := n5_; have HB := n6_; have HI0 := n7_; clear n0_ n1_ n2_ n3_ n4_ n5_ n6_ n7_; (try clear hb); (try clear hb2); (try clear hk); (try clear hi)) | ((with_reducible refine gate_callee (f := 75) rfl ?_); refine gL (some 56) Tryz.func75 #[.pointer (some ⟨g, 0, none⟩), .int .i64 12] ?_; (with_reducible refine (spec_l01Below.calls g s0_0 t1683 t1684 12 t1722 t1723 t1724 w0 _ ?side1 ?side2 A68.out).mono ?_); (case side1 => exact oI132 HI0); (case side2 => exact oB132 HB); rintro e w72 ⟨rfl, hi, hb, hk⟩; refine ⟨_, rfl, ?_⟩; have n0_ := A_ (Kd.R_mono (Kd.R_keep (IsS132.apart (show IsS132 w0 _ g s0_0 t1683 t1684 from oI132 HI0) (oR HO_1679000) (by decide)) hk (fun _ h => h.2)) (fun _ h => h.1)); have n1_ := A_ (Kd.R_mono (Kd.R_keep (IsS132.apart (show IsS132 w0 _ g s0_0 t1683 t1684 from oI132 HI0) (oR HO_1679002) (by decide)) hk (fun _ h => h.2)) (fun _ h => h.1)); have n2_ := A_ (Kd.R_mono (Kd.R_keep (IsS132.apart (show IsS132 w0 _ g s0_0 t1683 t1684 from oI132 HI0) (oR HO_1679005) (by decide)) hk (fun _ h => h.2)) (fun _ h => h.1)); have n3_ := A_ (KeepBut.blk hk (g' := gb1656) (o := .cells #[.slice none 0 0, .int .i64 0, .slice none 0 0, .int .i64 0, .int .i64 0, .slice none 0 0] 37 (0, 0)) (oK BK1656) NB1656_0.out (by simp)); have n4_ := A_ (KeepBut.blk hk (g' := gb1678) (o := .cells #[u1679000, .int .i64 x1679001_1, u1679002, .int .i64 x1679003_1, .int .i64 x1679004_1, u1679005] 37 (0, 0)) (oK BK1678) NB1678_0.out (by simp)); have n5_ := A_ (KeepBut.trans (oKe HK) hk (.inl rfl)); have n6_ := A_ (hb); have n7_ := A_ (hi); clear HO_1679000; clear HO_1679002; clear HO_1679005; clear BK1656; clear BK1678; clear HK; clear HB; clear HI0; have HO_1679000 := n0_; have HO_1679002 := n1_; have HO_1679005 := n2_; have BK1656 := n3_; have BK1678 := n4_; have HK := n5_; have HB := n6_; have HI0 := n7_; clear n0_ n1_ n2_ n3_ n4_ n5_ n6_ n7_; (try clear hb); (try clear hb2); (try clear hk); (try clear hi)))
       have n0_ := A_ (Kd.R_drew HO_1679000.out)
       have n1_ := A_ (Kd.R_drew HO_1679002.out)
       have n2_ := A_ (Kd.R_drew HO_1679005.out)
       have n3_ := A_ (blk_drew BK1656.out)
       have n4_ := A_ (blk_drew BK1678.out)
       have n5_ := A_ (IsS132.drew HI0.out)
       have n6_ := A_ (keep_drew HK.out)
       have n7_ := A_ (below_drew1 HB.out)
       clear HO_1679000
       clear HO_1679002
       clear HO_1679005
       clear BK1656
       clear BK1678
       clear HI0
       clear HK
       clear HB
       have HO_1679000 := n0_
       have HO_1679002 := n1_
       have HO_1679005 := n2_
       have BK1656 := n3_
       have BK1678 := n4_
       have HI0 := n5_
       have HK := n6_
       have HB := n7_
       clear n0_ n1_ n2_ n3_ n4_ n5_ n6_ n7_
       refine start_ (n := 10) (S := fun w' => w'.cell? ⟨gb1678, 0, none⟩ = some (u1679000) ∧ w'.cell? ⟨gb1678, 1, none⟩ = some (.int .i64 x1679001_1) ∧ w'.cell? ⟨gb1678, 2, none⟩ = some (u1679002) ∧ w'.cell? ⟨gb1678, 3, none⟩ = some (.int .i64 x1679003_1) ∧ w'.cell? ⟨gb1678, 4, none⟩ = some (.int .i64 x1679004_1) ∧ w'.cell? ⟨gb1678, 5, none⟩ = some (u1679005)) (ds := [9]) #[false, false, false, false, false, false, false, false, false, false] (by kernel_rfl) rfl rfl ⟨cz BK1678 0, cz BK1678 1, cz BK1678 2, cz BK1678 3, cz BK1678 4, cz BK1678 5⟩ (fun hHeld => ?_); refine with_tabW spec_l38Shop.tab15 spec_l38Shop.bits15 (fun HT_ HW_ => ?_)
       generalize w72.drew = w73 at HO_1679000 HO_1679002 HO_1679005 BK1656 BK1678 HI0 HK HB hHeld ⊢
       refine pA 1 (some 59) HT_.out ?_
       refine pA 2 (some 60) HT_.out ?_
       refine pT 0 (some 58) HT_.out HW_.out hHeld ?_
       refine one_ (i := 3) (N := some 61) #[true, true, true, true, false, false, false, false, false, false] rfl rfl (one_of HT_.out (by kernel_rfl)) (by decide) (fun K hK => ?_)
       refine goes_ Tryz.func75 (by kernel_rfl) rfl #[.pointer (some ⟨g, 0, none⟩), .int .i64 2001] (by rfl) rfl rfl (by (try simp only [List.map_toArray, List.map_cons, List.map_nil]); first | done | rfl | (simp only [List.length_drop, List.length_take]; rfl)) ?_
       with_reducible refine (spec_l01Below.calls g s0_0 t1723 t1724 2001 t1725 t1726 t1727 w0 _ ?side1 ?side2 A69.out).mono ?_
       (case side1 => exact oI132 HI0)
       (case side2 => exact oB132 HB)
       rintro e w74 ⟨rfl, hi, hb, hk⟩
       refine ⟨_, rfl, ?_⟩
       have n0_ := A_ (Kd.R_mono (Kd.R_keep (IsS132.apart (show IsS132 w0 _ g s0_0 t1723 t1724 from oI132 HI0) (oR HO_1679000) (by decide)) hk (fun _ h => h.2)) (fun _ h => h.1))
       have n1_ := A_ (Kd.R_mono (Kd.R_keep (IsS132.apart (show IsS132 w0 _ g s0_0 t1723 t1724 from oI132 HI0) (oR HO_1679002) (by decide)) hk (fun _ h => h.2)) (fun _ h => h.1))
       have n2_ := A_ (Kd.R_mono (Kd.R_keep (IsS132.apart (show IsS132 w0 _ g s0_0 t1723 t1724 from oI132 HI0) (oR HO_1679005) (by decide)) hk (fun _ h => h.2)) (fun _ h => h.1))
       have n3_ := A_ (KeepBut.blk hk (g' := gb1656) (o := .cells #[.slice none 0 0, .int .i64 0, .slice none 0 0, .int .i64 0, .int .i64 0, .slice none 0 0] 37 (0, 0)) (oK BK1656) NB1656_0.out (by simp))
       have n4_ := A_ (KeepBut.blk hk (g' := gb1678) (o := .cells #[u1679000, .int .i64 x1679001_1, u1679002, .int .i64 x1679003_1, .int .i64 x1679004_1, u1679005] 37 (0, 0)) (oK BK1678) NB1678_0.out (by simp))
       have n5_ := A_ (KeepBut.trans (oKe HK) hk (.inl rfl))
       have n6_ := A_ (hb)
       have n7_ := A_ (hi)
       clear HO_1679000
       clear HO_1679002
       clear HO_1679005
       clear BK1656
       clear BK1678
       clear HK
       clear HB
       clear HI0
       have HO_1679000 := n0_
       have HO_1679002 := n1_
       have HO_1679005 := n2_
       have BK1656 := n3_
       have BK1678 := n4_
       have HK := n5_
       have HB := n6_
       have HI0 := n7_
       clear n0_ n1_ n2_ n3_ n4_ n5_ n6_ n7_
       (try clear hb)
       (try clear hb2)
       (try clear hk)
       (try clear hi)
       obtain ⟨Ao75, co75, eo75⟩ := Kd.R_slice HO_1679000.out
       (first | subst eo75 | (injection eo75 with f1_ f2_ f3_; have f4_ := f1_.symm; have f5_ := f3_.symm; clear f1_ f2_ f3_; subst f4_; subst f5_))
       obtain ⟨Ao76, co76, eo76⟩ := Kd.R_slice HO_1679002.out
       (first | subst eo76 | (injection eo76 with f1_ f2_ f3_; have f4_ := f1_.symm; have f5_ := f3_.symm; clear f1_ f2_ f3_; subst f4_; subst f5_))
       obtain ⟨Ao77, co77, eo77⟩ := Kd.R_slice HO_1679005.out
       (first | subst eo77 | (injection eo77 with f1_ f2_ f3_; have f4_ := f1_.symm; have f5_ := f3_.symm; clear f1_ f2_ f3_; subst f4_; subst f5_))
       refine hK.out _ _ ⟨cz BK1678 0, cz BK1678 1, cz BK1678 2, cz BK1678 3, cz BK1678 4, cz BK1678 5⟩ (fun hHeld => ?_)
       clear hK K
       refine norm_ (a' := ?_) ?_ ?_
       rotate_left
       ·show Act.put _ (some 61) _ = _
        simp only [Act.put, List.setIfInBounds_toArray, List.set_cons_zero, List.set_cons_succ, i64_w, i32_w]
        rfl
       refine pA 4 (some 62) HT_.out ?_
       refine one_ (i := 5) (N := some 63) #[true, true, true, true, true, true, false, false, false, false] rfl rfl (one_of HT_.out (by kernel_rfl)) (by decide) (fun K hK => ?_)
       refine goes_ Tryz.func50 (by kernel_rfl) rfl #[.agg #[.slice Ao75 x1679000_1.length co75, .int .i64 x1679001_1, .slice Ao76 x1679002_1.length co76, .int .i64 x1679003_1, .int .i64 x1679004_1, .slice Ao77 x1679005_1.length co77], .int .i64 t1722, .int .i64 (wrap64 (t1725 - 1000))] (by rfl) rfl rfl (by (try simp only [List.map_toArray, List.map_cons, List.map_nil]); first | done | rfl | (simp only [List.length_drop, List.length_take]; rfl)) ?_
       with_reducible refine (spec_ShopKnock.calls k1 _ _ x1679000_1 x1679001_1 _ _ x1679002_1 x1679003_1 x1679004_1 _ _ x1679005_1 t1722 (wrap64 (t1725 - 1000)) t1728 t1731 t1732 t1735 t1736 t1737 t1740 _ ?side1 ?side2 ?side3 ?side4 ?side5 ?side6 A70.out).mono ?_
       (case side1 => repeat (first | exact (Kd.R_reads' HO_1679000.out).2.2 | (with_reducible refine Kd.C_alloc ?_ _) | (with_reducible refine Kd.C_drewN ?_ _) | (with_reducible refine Kd.C_drew ?_)))
       (case side2 => exact (Kd.R_reads' HO_1679000.out).2.1)
       (case side3 => repeat (first | exact (Kd.R_reads' HO_1679002.out).2.2 | (with_reducible refine Kd.C_alloc ?_ _) | (with_reducible refine Kd.C_drewN ?_ _) | (with_reducible refine Kd.C_drew ?_)))
       (case side4 => exact (Kd.R_reads' HO_1679002.out).2.1)
       (case side5 => repeat (first | exact (Kd.R_reads' HO_1679005.out).2.2 | (with_reducible refine Kd.C_alloc ?_ _) | (with_reducible refine Kd.C_drewN ?_ _) | (with_reducible refine Kd.C_drew ?_)))
       (case side6 => exact (Kd.R_reads' HO_1679005.out).2.1)
       rintro e w78 ⟨v1729, v1733, v1738, rfl, ho0, ho1, ho2, hb⟩
       refine ⟨_, rfl, ?_⟩
       have n0_ := A_ (Kd.R_elder' (oR HO_1679000) (Kd.R_base ho0) hb)
       have n1_ := A_ (Kd.R_elder' (oR HO_1679002) (Kd.R_base ho1) hb)
       have n2_ := A_ (Kd.R_elder' (oR HO_1679005) (Kd.R_base ho2) hb)
       have n3_ := A_ (Kd.R_lower (Kd.R_new' ho0 (Kd.R_lt (oR HO_1679000))) (keep_size (w := w) (g := g) (row := none) (by repeat (first | (with_reducible first | exact HK.out | apply KeepBut.set_ | apply keep_drewN | apply keep_drew | apply keep_alloc | refine keep_far ?_ GW1656.out _ | refine keep_far ?_ GW1678.out _) | exact HK.out))))
       have n4_ := A_ (Kd.R_lower (Kd.R_new' ho1 (Kd.R_lt (oR HO_1679002))) (keep_size (w := w) (g := g) (row := none) (by repeat (first | (with_reducible first | exact HK.out | apply KeepBut.set_ | apply keep_drewN | apply keep_drew | apply keep_alloc | refine keep_far ?_ GW1656.out _ | refine keep_far ?_ GW1678.out _) | exact HK.out))))
       have n5_ := A_ (Kd.R_lower (Kd.R_new' ho2 (Kd.R_lt (oR HO_1679005))) (keep_size (w := w) (g := g) (row := none) (by repeat (first | (with_reducible first | exact HK.out | apply KeepBut.set_ | apply keep_drewN | apply keep_drew | apply keep_alloc | refine keep_far ?_ GW1656.out _ | refine keep_far ?_ GW1678.out _) | exact HK.out))))
       have n6_ := A_ (bb BK1656 hb)
       have n7_ := A_ (bb BK1678 hb)
       have n8_ := A_ (IsS132.below (oI132 HI0) hb)
       have n9_ := A_ (KeepBut.trans (oKe HK) (KeepBut.of_below hb g none) (.inl rfl))
       have n10_ := A_ (below_step (oB132 HB) hb)
       clear HO_1679000
       clear HO_1679002
       clear HO_1679005
       clear BK1656
       clear BK1678
       clear HI0
       clear HK
       clear HB
       have HO_1679000 := n0_
       have HO_1679002 := n1_
       have HO_1679005 := n2_
       have HO1730 := n3_
       have HO1734 := n4_
       have HO1739 := n5_
       have BK1656 := n6_
       have BK1678 := n7_
       have HI0 := n8_
       have HK := n9_
       have HB := n10_
       clear n0_ n1_ n2_ n3_ n4_ n5_ n6_ n7_ n8_ n9_ n10_
       (try clear hb)
       (try clear hb2)
       (try clear hk)
       (try clear hi)
       (try clear ho0)
       (try clear ho1)
       (try clear ho2)
       obtain ⟨Ao79, co79, eo79⟩ := Kd.R_slice HO1730.out
       (first | subst eo79 | (injection eo79 with f1_ f2_ f3_; have f4_ := f1_.symm; have f5_ := f3_.symm; clear f1_ f2_ f3_; subst f4_; subst f5_))
       obtain ⟨Ao82, co82, eo82⟩ := Kd.R_slice HO1734.out
       (first | subst eo82 | (injection eo82 with f1_ f2_ f3_; have f4_ := f1_.symm; have f5_ := f3_.symm; clear f1_ f2_ f3_; subst f4_; subst f5_))
       obtain ⟨Ao86, co86, eo86⟩ := Kd.R_slice HO1739.out
       (first | subst eo86 | (injection eo86 with f1_ f2_ f3_; have f4_ := f1_.symm; have f5_ := f3_.symm; clear f1_ f2_ f3_; subst f4_; subst f5_))
       refine hK.out _ _ ⟨cz BK1678 0, cz BK1678 1, cz BK1678 2, cz BK1678 3, cz BK1678 4, cz BK1678 5⟩ (fun hHeld => ?_)
       clear hK K
       refine norm_ (a' := ?_) ?_ ?_
       rotate_left
       ·show Act.put _ (some 63) _ = _
        simp only [Act.put, List.setIfInBounds_toArray, List.set_cons_zero, List.set_cons_succ, i64_w, i32_w]
        rfl
       refine pA 6 (some 57) HT_.out ?_
       refine pA 7 (some 64) HT_.out ?_
       refine pA 8 (some 65) HT_.out ?_
       refine last_ (i := 9) (N := none) #[true, true, true, true, true, true, true, true, true, true] rfl rfl (one_of HT_.out (by kernel_rfl)) (by decide) (fun K hK => ?_)
       have hs80 := cz BK1678 0
       have hfs80 := blk_frozen BK1678.out 0
       have hns80_0 := NB1656_1678.out
       have hms80_0 := NB1678_1656.out
       have hs81 := cz BK1678 1
       have hfs81 := blk_frozen BK1678.out 1
       have hns81_0 := NB1656_1678.out
       have hms81_0 := NB1678_1656.out
       have hs83 := cz BK1678 2
       have hfs83 := blk_frozen BK1678.out 2
       have hns83_0 := NB1656_1678.out
       have hms83_0 := NB1678_1656.out
       have hs84 := cz BK1678 3
       have hfs84 := blk_frozen BK1678.out 3
       have hns84_0 := NB1656_1678.out
       have hms84_0 := NB1678_1656.out
       have hs85 := cz BK1678 4
       have hfs85 := blk_frozen BK1678.out 4
       have hns85_0 := NB1656_1678.out
       have hms85_0 := NB1678_1656.out
       have hs87 := cz BK1678 5
       have hfs87 := blk_frozen BK1678.out 5
       have hns87_0 := NB1656_1678.out
       have hms87_0 := NB1678_1656.out
       refine skip_ (w1 := ?_) (by rfl) rfl ?_ ?_
       rotate_left
       ·go_simp
        rfl
       refine hK.out _ _ ?_
       clear hK K
       refine done_ (done_of HT_.out (by kernel_rfl)) ?_
       try go_wp2
       go_roundg k1
       case measure => have := HK1.out; omega
       case rel => exact ⟨(wrap64 (x6_1 + 1)), (t1726), (t1727), (t1728), (t1731), (t1732), (t1735), (t1736), (t1737), (.slice Ao79 t1728.length co79), (.slice Ao82 t1732.length co82), (.slice Ao86 t1737.length co86), eS, H', ⟨by have := HK1.out; omega⟩, ⟨by (with_reducible repeat (first | apply Kd.R_alloc | apply Kd.R_drewN | apply Kd.R_drew)); exact Kd.R_mono (Kd.R_far (p := ⟨gb1678, 5, none⟩) (Kd.R_far (p := ⟨gb1678, 4, none⟩) (Kd.R_far (p := ⟨gb1678, 3, none⟩) (Kd.R_far (p := ⟨gb1678, 2, none⟩) (Kd.R_far (p := ⟨gb1678, 1, none⟩) (Kd.R_far (p := ⟨gb1678, 0, none⟩) (Kd.R_types HO1730.out BK1678.out (by decide)) (fun _ hk => hk.2) (.slice Ao79 t1728.length co79)) (fun _ hk => hk.2) (.int .i64 t1731)) (fun _ hk => hk.2) (.slice Ao82 t1732.length co82)) (fun _ hk => hk.2) (.int .i64 t1735)) (fun _ hk => hk.2) (.int .i64 t1736)) (fun _ hk => hk.2) (.slice Ao86 t1737.length co86)) (fun _ hk => trivial)⟩, ⟨by (with_reducible repeat (first | apply Kd.R_alloc | apply Kd.R_drewN | apply Kd.R_drew)); exact Kd.R_mono (Kd.R_far (p := ⟨gb1678, 5, none⟩) (Kd.R_far (p := ⟨gb1678, 4, none⟩) (Kd.R_far (p := ⟨gb1678, 3, none⟩) (Kd.R_far (p := ⟨gb1678, 2, none⟩) (Kd.R_far (p := ⟨gb1678, 1, none⟩) (Kd.R_far (p := ⟨gb1678, 0, none⟩) (Kd.R_types HO1734.out BK1678.out (by decide)) (fun _ hk => hk.2) (.slice Ao79 t1728.length co79)) (fun _ hk => hk.2) (.int .i64 t1731)) (fun _ hk => hk.2) (.slice Ao82 t1732.length co82)) (fun _ hk => hk.2) (.int .i64 t1735)) (fun _ hk => hk.2) (.int .i64 t1736)) (fun _ hk => hk.2) (.slice Ao86 t1737.length co86)) (fun _ hk => trivial)⟩, ⟨by (with_reducible repeat (first | apply Kd.R_alloc | apply Kd.R_drewN | apply Kd.R_drew)); exact Kd.R_mono (Kd.R_far (p := ⟨gb1678, 5, none⟩) (Kd.R_far (p := ⟨gb1678, 4, none⟩) (Kd.R_far (p := ⟨gb1678, 3, none⟩) (Kd.R_far (p := ⟨gb1678, 2, none⟩) (Kd.R_far (p := ⟨gb1678, 1, none⟩) (Kd.R_far (p := ⟨gb1678, 0, none⟩) (Kd.R_types HO1739.out BK1678.out (by decide)) (fun _ hk => hk.2) (.slice Ao79 t1728.length co79)) (fun _ hk => hk.2) (.int .i64 t1731)) (fun _ hk => hk.2) (.slice Ao82 t1732.length co82)) (fun _ hk => hk.2) (.int .i64 t1735)) (fun _ hk => hk.2) (.int .i64 t1736)) (fun _ hk => hk.2) (.slice Ao86 t1737.length co86)) (fun _ hk => trivial)⟩, ⟨by (with_reducible repeat (first | refine blk_drewN ?_ _ | refine blk_drew ?_ | refine blk_alloc ?_ _)); refine blk_far ?_ NB1656_1678.out _; (with_reducible repeat (first | refine blk_drewN ?_ _ | refine blk_drew ?_ | refine blk_alloc ?_ _)); refine blk_far ?_ NB1656_1678.out _; (with_reducible repeat (first | refine blk_drewN ?_ _ | refine blk_drew ?_ | refine blk_alloc ?_ _)); refine blk_far ?_ NB1656_1678.out _; (with_reducible repeat (first | refine blk_drewN ?_ _ | refine blk_drew ?_ | refine blk_alloc ?_ _)); refine blk_far ?_ NB1656_1678.out _; (with_reducible repeat (first | refine blk_drewN ?_ _ | refine blk_drew ?_ | refine blk_alloc ?_ _)); refine blk_far ?_ NB1656_1678.out _; (with_reducible repeat (first | refine blk_drewN ?_ _ | refine blk_drew ?_ | refine blk_alloc ?_ _)); refine blk_far ?_ NB1656_1678.out _; (with_reducible repeat (first | refine blk_drewN ?_ _ | refine blk_drew ?_ | refine blk_alloc ?_ _)); exact BK1656.out⟩, ⟨by (with_reducible repeat (first | refine blk_drewN ?_ _ | refine blk_drew ?_ | refine blk_alloc ?_ _)); refine blk_put (cs := #[.slice Ao79 t1728.length co79, .int .i64 t1731, .slice Ao82 t1732.length co82, .int .i64 t1735, .int .i64 t1736, .slice Ao77 x1679005_1.length co77]) ?_ 5 _ rfl; (with_reducible repeat (first | refine blk_drewN ?_ _ | refine blk_drew ?_ | refine blk_alloc ?_ _)); refine blk_put (cs := #[.slice Ao79 t1728.length co79, .int .i64 t1731, .slice Ao82 t1732.length co82, .int .i64 t1735, .int .i64 x1679004_1, .slice Ao77 x1679005_1.length co77]) ?_ 4 _ rfl; (with_reducible repeat (first | refine blk_drewN ?_ _ | refine blk_drew ?_ | refine blk_alloc ?_ _)); refine blk_put (cs := #[.slice Ao79 t1728.length co79, .int .i64 t1731, .slice Ao82 t1732.length co82, .int .i64 x1679003_1, .int .i64 x1679004_1, .slice Ao77 x1679005_1.length co77]) ?_ 3 _ rfl; (with_reducible repeat (first | refine blk_drewN ?_ _ | refine blk_drew ?_ | refine blk_alloc ?_ _)); refine blk_put (cs := #[.slice Ao79 t1728.length co79, .int .i64 t1731, .slice Ao76 x1679002_1.length co76, .int .i64 x1679003_1, .int .i64 x1679004_1, .slice Ao77 x1679005_1.length co77]) ?_ 2 _ rfl; (with_reducible repeat (first | refine blk_drewN ?_ _ | refine blk_drew ?_ | refine blk_alloc ?_ _)); refine blk_put (cs := #[.slice Ao79 t1728.length co79, .int .i64 x1679001_1, .slice Ao76 x1679002_1.length co76, .int .i64 x1679003_1, .int .i64 x1679004_1, .slice Ao77 x1679005_1.length co77]) ?_ 1 _ rfl; (with_reducible repeat (first | refine blk_drewN ?_ _ | refine blk_drew ?_ | refine blk_alloc ?_ _)); refine blk_put (cs := #[.slice Ao75 x1679000_1.length co75, .int .i64 x1679001_1, .slice Ao76 x1679002_1.length co76, .int .i64 x1679003_1, .int .i64 x1679004_1, .slice Ao77 x1679005_1.length co77]) ?_ 0 _ rfl; (with_reducible repeat (first | refine blk_drewN ?_ _ | refine blk_drew ?_ | refine blk_alloc ?_ _)); exact BK1678.out⟩, ⟨oI132 HI0⟩, ⟨oKe HK⟩, ⟨oB132 HB⟩⟩
      ·rw [if_neg c67] at H
       have c67b0 : (t1682 == 2) = false := beq_eq_false_iff_ne.mpr c67
       have c67b1 : (t1682 != 2) = true := bne_iff_ne.mpr c67
       replace H := Option.bind_eq_some_iff.mp H
       obtain ⟨⟨t1741, t1744, t1745, t1748, t1749, t1750, t1753⟩, A880, H⟩ := H
       (try dsimp only at H)
       have A88 := A_ A880
       clear A880
       have H' := A_ H
       clear H
       go_wp2_with (first | ((with_reducible refine gate_callee (f := 75) rfl ?_); refine gL (some 26) Tryz.func75 #[.pointer (some ⟨g, 0, none⟩), .int .i64 8] ?_; (with_reducible refine (spec_l01Below.calls g s0_0 x1001_1 x1002_1 8 t1682 t1683 t1684 w0 _ ?side1 ?side2 A20.out).mono ?_); (case side1 => exact oI132 HI0); (case side2 => exact oB132 HB); rintro e w89 ⟨rfl, hi, hb, hk⟩; refine ⟨_, rfl, ?_⟩; have n0_ := A_ (Kd.R_mono (Kd.R_keep (IsS132.apart (show IsS132 w0 _ g s0_0 x1001_1 x1002_1 from oI132 HI0) (oR HO_1679000) (by decide)) hk (fun _ h => h.2)) (fun _ h => h.1)); have n1_ := A_ (Kd.R_mono (Kd.R_keep (IsS132.apart (show IsS132 w0 _ g s0_0 x1001_1 x1002_1 from oI132 HI0) (oR HO_1679002) (by decide)) hk (fun _ h => h.2)) (fun _ h => h.1)); have n2_ := A_ (Kd.R_mono (Kd.R_keep (IsS132.apart (show IsS132 w0 _ g s0_0 x1001_1 x1002_1 from oI132 HI0) (oR HO_1679005) (by decide)) hk (fun _ h => h.2)) (fun _ h => h.1)); have n3_ := A_ (KeepBut.blk hk (g' := gb1656) (o := .cells #[.slice none 0 0, .int .i64 0, .slice none 0 0, .int .i64 0, .int .i64 0, .slice none 0 0] 37 (0, 0)) (oK BK1656) NB1656_0.out (by simp)); have n4_ := A_ (KeepBut.blk hk (g' := gb1678) (o := .cells #[u1679000, .int .i64 x1679001_1, u1679002, .int .i64 x1679003_1, .int .i64 x1679004_1, u1679005] 37 (0, 0)) (oK BK1678) NB1678_0.out (by simp)); have n5_ := A_ (KeepBut.trans (oKe HK) hk (.inl rfl)); have n6_ := A_ (hb); have n7_ := A_ (hi); clear HO_1679000; clear HO_1679002; clear HO_1679005; clear BK1656; clear BK1678; clear HK; clear HB; clear HI0; have HO_1679000 := n0_; have HO_1679002 := n1_; have HO_1679005 := n2_; have BK1656 := n3_; have BK1678 := n4_; have HK := n5_; have HB := n6_; have HI0 := n7_; clear n0_ n1_ n2_ n3_ n4_ n5_ n6_ n7_; (try clear hb); (try clear hb2); (try clear hk); (try clear hi); have hnb90 := NB1678_1656.out; have hnc90 := NB1656_1678.out; have hnb91 := NB1678_0.out; have hnc91 := NB0_1678.out; have hcz92_0 := cz BK1678 0; have hcz92_1 := cz BK1678 1; have hcz92_2 := cz BK1678 2; have hcz92_3 := cz BK1678 3; have hcz92_4 := cz BK1678 4; have hcz92_5 := cz BK1678 5; have hfz92_0 := blk_frozen BK1678.out 0; have hfz92_1 := blk_frozen BK1678.out 1; have hfz92_2 := blk_frozen BK1678.out 2; have hfz92_3 := blk_frozen BK1678.out 3; have hfz92_4 := blk_frozen BK1678.out 4; have hfz92_5 := blk_frozen BK1678.out 5; obtain ⟨Ao93, co93, eo93⟩ := Kd.R_slice HO_1679000.out; subst eo93; obtain ⟨Ao94, co94, eo94⟩ := Kd.R_slice HO_1679002.out; subst eo94; obtain ⟨Ao95, co95, eo95⟩ := Kd.R_slice HO_1679005.out; subst eo95) | ((with_reducible refine gate_callee (f := 47) rfl ?_); refine gL (some 29) Tryz.func47 #[.agg #[.slice Ao93 x1679000_1.length co93, .int .i64 x1679001_1, .slice Ao94 x1679002_1.length co94, .int .i64 x1679003_1, .int .i64 x1679004_1, .slice Ao95 x1679005_1.length co95]] ?_; (with_reducible refine (spec_ShopTune.calls k1 _ _ x1679000_1 x1679001_1 _ _ x1679002_1 x1679003_1 x1679004_1 _ _ x1679005_1 t1741 t1744 t1745 t1748 t1749 t1750 t1753 _ ?side1 ?side2 ?side3 ?side4 ?side5 ?side6 A88.out).mono ?_); (case side1 => repeat (first | exact (Kd.R_reads' HO_1679000.out).2.2 | (with_reducible refine Kd.C_alloc ?_ _) | (with_reducible refine Kd.C_drewN ?_ _) | (with_reducible refine Kd.C_drew ?_))); (case side2 => exact (Kd.R_reads' HO_1679000.out).2.1); (case side3 => repeat (first | exact (Kd.R_reads' HO_1679002.out).2.2 | (with_reducible refine Kd.C_alloc ?_ _) | (with_reducible refine Kd.C_drewN ?_ _) | (with_reducible refine Kd.C_drew ?_))); (case side4 => exact (Kd.R_reads' HO_1679002.out).2.1); (case side5 => repeat (first | exact (Kd.R_reads' HO_1679005.out).2.2 | (with_reducible refine Kd.C_alloc ?_ _) | (with_reducible refine Kd.C_drewN ?_ _) | (with_reducible refine Kd.C_drew ?_))); (case side6 => exact (Kd.R_reads' HO_1679005.out).2.1); rintro e w96 ⟨v1742, v1746, v1751, rfl, ho0, ho1, ho2, hb⟩; refine ⟨_, rfl, ?_⟩; have n0_ := A_ (Kd.R_elder' (oR HO_1679000) (Kd.R_base ho0) hb); have n1_ := A_ (Kd.R_elder' (oR HO_1679002) (Kd.R_base ho1) hb); have n2_ := A_ (Kd.R_elder' (oR HO_1679005) (Kd.R_base ho2) hb); have n3_ := A_ (Kd.R_lower (Kd.R_new' ho0 (Kd.R_lt (oR HO_1679000))) (keep_size (w := w) (g := g) (row := none) (by repeat (first | (with_reducible first | exact HK.out | apply KeepBut.set_ | apply keep_drewN | apply keep_drew | apply keep_alloc | refine keep_far ?_ GW1656.out _ | refine keep_far ?_ GW1678.out _) | exact HK.out)))); have n4_ := A_ (Kd.R_lower (Kd.R_new' ho1 (Kd.R_lt (oR HO_1679002))) (keep_size (w := w) (g := g) (row := none) (by repeat (first | (with_reducible first | exact HK.out | apply KeepBut.set_ | apply keep_drewN | apply keep_drew | apply keep_alloc | refine keep_far ?_ GW1656.out _ | refine keep_far ?_ GW1678.out _) | exact HK.out)))); have n5_ := A_ (Kd.R_lower (Kd.R_new' ho2 (Kd.R_lt (oR HO_1679005))) (keep_size (w := w) (g := g) (row := none) (by repeat (first | (with_reducible first | exact HK.out | apply KeepBut.set_ | apply keep_drewN | apply keep_drew | apply keep_alloc | refine keep_far ?_ GW1656.out _ | refine keep_far ?_ GW1678.out _) | exact HK.out)))); have n6_ := A_ (bb BK1656 hb); have n7_ := A_ (bb BK1678 hb); have n8_ := A_ (IsS132.below (oI132 HI0) hb); have n9_ := A_ (KeepBut.trans (oKe HK) (KeepBut.of_below hb g none) (.inl rfl)); have n10_ := A_ (below_step (oB132 HB) hb); clear HO_1679000; clear HO_1679002; clear HO_1679005; clear BK1656; clear BK1678; clear HI0; clear HK; clear HB; have HO_1679000 := n0_; have HO_1679002 := n1_; have HO_1679005 := n2_; have HO1743 := n3_; have HO1747 := n4_; have HO1752 := n5_; have BK1656 := n6_; have BK1678 := n7_; have HI0 := n8_; have HK := n9_; have HB := n10_; clear n0_ n1_ n2_ n3_ n4_ n5_ n6_ n7_ n8_ n9_ n10_; (try clear hb); (try clear hb2); (try clear hk); (try clear hi); (try clear ho0); (try clear ho1); (try clear ho2); obtain ⟨Ao97, co97, eo97⟩ := Kd.R_slice HO1743.out; subst eo97; have hcz98_0 := cz BK1678 0; have hcz98_1 := cz BK1678 1; have hcz98_2 := cz BK1678 2; have hcz98_3 := cz BK1678 3; have hcz98_4 := cz BK1678 4; have hcz98_5 := cz BK1678 5; have hfz98_0 := blk_frozen BK1678.out 0; have hfz98_1 := blk_frozen BK1678.out 1; have hfz98_2 := blk_frozen BK1678.out 2; have hfz98_3 := blk_frozen BK1678.out 3; have hfz98_4 := blk_frozen BK1678.out 4; have hfz98_5 := blk_frozen BK1678.out 5; obtain ⟨Ao99, co99, eo99⟩ := Kd.R_slice HO1747.out; subst eo99; obtain ⟨Ao100, co100, eo100⟩ := Kd.R_slice HO1752.out; subst eo100))
       go_roundg k1
       case measure => have := HK1.out; omega
       case rel => exact ⟨(wrap64 (x6_1 + 1)), (t1683), (t1684), (t1741), (t1744), (t1745), (t1748), (t1749), (t1750), (.slice Ao97 t1741.length co97), (.slice Ao99 t1745.length co99), (.slice Ao100 t1750.length co100), eS, H', ⟨by have := HK1.out; omega⟩, ⟨by (with_reducible repeat (first | apply Kd.R_alloc | apply Kd.R_drewN | apply Kd.R_drew)); exact Kd.R_mono (Kd.R_far (p := ⟨gb1678, 5, none⟩) (Kd.R_far (p := ⟨gb1678, 4, none⟩) (Kd.R_far (p := ⟨gb1678, 3, none⟩) (Kd.R_far (p := ⟨gb1678, 2, none⟩) (Kd.R_far (p := ⟨gb1678, 1, none⟩) (Kd.R_far (p := ⟨gb1678, 0, none⟩) (Kd.R_types HO1743.out BK1678.out (by decide)) (fun _ hk => hk.2) (.slice Ao97 t1741.length co97)) (fun _ hk => hk.2) (.int .i64 t1744)) (fun _ hk => hk.2) (.slice Ao99 t1745.length co99)) (fun _ hk => hk.2) (.int .i64 t1748)) (fun _ hk => hk.2) (.int .i64 t1749)) (fun _ hk => hk.2) (.slice Ao100 t1750.length co100)) (fun _ hk => trivial)⟩, ⟨by (with_reducible repeat (first | apply Kd.R_alloc | apply Kd.R_drewN | apply Kd.R_drew)); exact Kd.R_mono (Kd.R_far (p := ⟨gb1678, 5, none⟩) (Kd.R_far (p := ⟨gb1678, 4, none⟩) (Kd.R_far (p := ⟨gb1678, 3, none⟩) (Kd.R_far (p := ⟨gb1678, 2, none⟩) (Kd.R_far (p := ⟨gb1678, 1, none⟩) (Kd.R_far (p := ⟨gb1678, 0, none⟩) (Kd.R_types HO1747.out BK1678.out (by decide)) (fun _ hk => hk.2) (.slice Ao97 t1741.length co97)) (fun _ hk => hk.2) (.int .i64 t1744)) (fun _ hk => hk.2) (.slice Ao99 t1745.length co99)) (fun _ hk => hk.2) (.int .i64 t1748)) (fun _ hk => hk.2) (.int .i64 t1749)) (fun _ hk => hk.2) (.slice Ao100 t1750.length co100)) (fun _ hk => trivial)⟩, ⟨by (with_reducible repeat (first | apply Kd.R_alloc | apply Kd.R_drewN | apply Kd.R_drew)); exact Kd.R_mono (Kd.R_far (p := ⟨gb1678, 5, none⟩) (Kd.R_far (p := ⟨gb1678, 4, none⟩) (Kd.R_far (p := ⟨gb1678, 3, none⟩) (Kd.R_far (p := ⟨gb1678, 2, none⟩) (Kd.R_far (p := ⟨gb1678, 1, none⟩) (Kd.R_far (p := ⟨gb1678, 0, none⟩) (Kd.R_types HO1752.out BK1678.out (by decide)) (fun _ hk => hk.2) (.slice Ao97 t1741.length co97)) (fun _ hk => hk.2) (.int .i64 t1744)) (fun _ hk => hk.2) (.slice Ao99 t1745.length co99)) (fun _ hk => hk.2) (.int .i64 t1748)) (fun _ hk => hk.2) (.int .i64 t1749)) (fun _ hk => hk.2) (.slice Ao100 t1750.length co100)) (fun _ hk => trivial)⟩, ⟨by (with_reducible repeat (first | refine blk_drewN ?_ _ | refine blk_drew ?_ | refine blk_alloc ?_ _)); refine blk_far ?_ NB1656_1678.out _; (with_reducible repeat (first | refine blk_drewN ?_ _ | refine blk_drew ?_ | refine blk_alloc ?_ _)); refine blk_far ?_ NB1656_1678.out _; (with_reducible repeat (first | refine blk_drewN ?_ _ | refine blk_drew ?_ | refine blk_alloc ?_ _)); refine blk_far ?_ NB1656_1678.out _; (with_reducible repeat (first | refine blk_drewN ?_ _ | refine blk_drew ?_ | refine blk_alloc ?_ _)); refine blk_far ?_ NB1656_1678.out _; (with_reducible repeat (first | refine blk_drewN ?_ _ | refine blk_drew ?_ | refine blk_alloc ?_ _)); refine blk_far ?_ NB1656_1678.out _; (with_reducible repeat (first | refine blk_drewN ?_ _ | refine blk_drew ?_ | refine blk_alloc ?_ _)); refine blk_far ?_ NB1656_1678.out _; (with_reducible repeat (first | refine blk_drewN ?_ _ | refine blk_drew ?_ | refine blk_alloc ?_ _)); exact BK1656.out⟩, ⟨by (with_reducible repeat (first | refine blk_drewN ?_ _ | refine blk_drew ?_ | refine blk_alloc ?_ _)); refine blk_put (cs := #[.slice Ao97 t1741.length co97, .int .i64 t1744, .slice Ao99 t1745.length co99, .int .i64 t1748, .int .i64 t1749, .slice Ao95 x1679005_1.length co95]) ?_ 5 _ rfl; (with_reducible repeat (first | refine blk_drewN ?_ _ | refine blk_drew ?_ | refine blk_alloc ?_ _)); refine blk_put (cs := #[.slice Ao97 t1741.length co97, .int .i64 t1744, .slice Ao99 t1745.length co99, .int .i64 t1748, .int .i64 x1679004_1, .slice Ao95 x1679005_1.length co95]) ?_ 4 _ rfl; (with_reducible repeat (first | refine blk_drewN ?_ _ | refine blk_drew ?_ | refine blk_alloc ?_ _)); refine blk_put (cs := #[.slice Ao97 t1741.length co97, .int .i64 t1744, .slice Ao99 t1745.length co99, .int .i64 x1679003_1, .int .i64 x1679004_1, .slice Ao95 x1679005_1.length co95]) ?_ 3 _ rfl; (with_reducible repeat (first | refine blk_drewN ?_ _ | refine blk_drew ?_ | refine blk_alloc ?_ _)); refine blk_put (cs := #[.slice Ao97 t1741.length co97, .int .i64 t1744, .slice Ao94 x1679002_1.length co94, .int .i64 x1679003_1, .int .i64 x1679004_1, .slice Ao95 x1679005_1.length co95]) ?_ 2 _ rfl; (with_reducible repeat (first | refine blk_drewN ?_ _ | refine blk_drew ?_ | refine blk_alloc ?_ _)); refine blk_put (cs := #[.slice Ao97 t1741.length co97, .int .i64 x1679001_1, .slice Ao94 x1679002_1.length co94, .int .i64 x1679003_1, .int .i64 x1679004_1, .slice Ao95 x1679005_1.length co95]) ?_ 1 _ rfl; (with_reducible repeat (first | refine blk_drewN ?_ _ | refine blk_drew ?_ | refine blk_alloc ?_ _)); refine blk_put (cs := #[.slice Ao93 x1679000_1.length co93, .int .i64 x1679001_1, .slice Ao94 x1679002_1.length co94, .int .i64 x1679003_1, .int .i64 x1679004_1, .slice Ao95 x1679005_1.length co95]) ?_ 0 _ rfl; (with_reducible repeat (first | refine blk_drewN ?_ _ | refine blk_drew ?_ | refine blk_alloc ?_ _)); exact BK1678.out⟩, ⟨oI132 HI0⟩, ⟨oKe HK⟩, ⟨oB132 HB⟩⟩
   ·rw [if_neg c19] at H
    have c19b0 : decide (x6_1 < t1679) = false := decide_eq_false c19
    clear c19
    simp only [Option.some.injEq, Prod.mk.injEq] at H
    obtain ⟨rfl, rfl, rfl, rfl, rfl, rfl, rfl, rfl⟩ := H
    have hnb101 := NB1678_1656.out
    have hnc101 := NB1656_1678.out
    have hnb102 := NB1678_0.out
    have hnc102 := NB0_1678.out
    have hcz103_0 := cz BK1678 0
    have hcz103_1 := cz BK1678 1
    have hcz103_2 := cz BK1678 2
    have hcz103_3 := cz BK1678 3
    have hcz103_4 := cz BK1678 4
    have hcz103_5 := cz BK1678 5
    have hfz103_0 := blk_frozen BK1678.out 0
    have hfz103_1 := blk_frozen BK1678.out 1
    have hfz103_2 := blk_frozen BK1678.out 2
    have hfz103_3 := blk_frozen BK1678.out 3
    have hfz103_4 := blk_frozen BK1678.out 4
    have hfz103_5 := blk_frozen BK1678.out 5
    obtain ⟨Ao104, co104, eo104⟩ := Kd.R_slice HO_1679000.out
    subst eo104
    have hnb105 := NB1656_0.out
    have hnc105 := NB0_1656.out
    have hcz106_0 := cz BK1656 0
    have hcz106_1 := cz BK1656 1
    have hcz106_2 := cz BK1656 2
    have hcz106_3 := cz BK1656 3
    have hcz106_4 := cz BK1656 4
    have hcz106_5 := cz BK1656 5
    have hfz106_0 := blk_frozen BK1656.out 0
    have hfz106_1 := blk_frozen BK1656.out 1
    have hfz106_2 := blk_frozen BK1656.out 2
    have hfz106_3 := blk_frozen BK1656.out 3
    have hfz106_4 := blk_frozen BK1656.out 4
    have hfz106_5 := blk_frozen BK1656.out 5
    obtain ⟨Ao107, co107, eo107⟩ := Kd.R_slice HO_1679002.out
    subst eo107
    obtain ⟨Ao108, co108, eo108⟩ := Kd.R_slice HO_1679005.out
    subst eo108
    go_wp2
    refine bodyPost_ret (results_cell_row rfl _ _ gb1656 37 #[.slice Ao104 x1679000_1.length co104, .int .i64 x1679001_1, .slice Ao107 x1679002_1.length co107, .int .i64 x1679003_1, .int .i64 x1679004_1, .slice Ao108 x1679005_1.length co108] (0, 0) _ rfl (by (with_reducible repeat (first | refine blk_drewN ?_ _ | refine blk_drew ?_ | refine blk_alloc ?_ _)); refine blk_put (cs := #[.slice Ao104 x1679000_1.length co104, .int .i64 x1679001_1, .slice Ao107 x1679002_1.length co107, .int .i64 x1679003_1, .int .i64 x1679004_1, .slice none 0 0]) ?_ 5 _ rfl; (with_reducible repeat (first | refine blk_drewN ?_ _ | refine blk_drew ?_ | refine blk_alloc ?_ _)); refine blk_put (cs := #[.slice Ao104 x1679000_1.length co104, .int .i64 x1679001_1, .slice Ao107 x1679002_1.length co107, .int .i64 x1679003_1, .int .i64 0, .slice none 0 0]) ?_ 4 _ rfl; (with_reducible repeat (first | refine blk_drewN ?_ _ | refine blk_drew ?_ | refine blk_alloc ?_ _)); refine blk_put (cs := #[.slice Ao104 x1679000_1.length co104, .int .i64 x1679001_1, .slice Ao107 x1679002_1.length co107, .int .i64 0, .int .i64 0, .slice none 0 0]) ?_ 3 _ rfl; (with_reducible repeat (first | refine blk_drewN ?_ _ | refine blk_drew ?_ | refine blk_alloc ?_ _)); refine blk_put (cs := #[.slice Ao104 x1679000_1.length co104, .int .i64 x1679001_1, .slice none 0 0, .int .i64 0, .int .i64 0, .slice none 0 0]) ?_ 2 _ rfl; (with_reducible repeat (first | refine blk_drewN ?_ _ | refine blk_drew ?_ | refine blk_alloc ?_ _)); refine blk_put (cs := #[.slice Ao104 x1679000_1.length co104, .int .i64 0, .slice none 0 0, .int .i64 0, .int .i64 0, .slice none 0 0]) ?_ 1 _ rfl; (with_reducible repeat (first | refine blk_drewN ?_ _ | refine blk_drew ?_ | refine blk_alloc ?_ _)); refine blk_put (cs := #[.slice none 0 0, .int .i64 0, .slice none 0 0, .int .i64 0, .int .i64 0, .slice none 0 0]) ?_ 0 _ rfl; (with_reducible repeat (first | refine blk_drewN ?_ _ | refine blk_drew ?_ | refine blk_alloc ?_ _)); exact BK1656.out) Tryz.underlying37 rfl (by kernel_rfl)) rfl ?_
    exact ⟨_, _, _, eR, by (with_reducible repeat (first | apply Kd.R_alloc | apply Kd.R_drewN | apply Kd.R_drew)); exact Kd.R_mono (Kd.R_far (p := ⟨gb1656, 5, none⟩) (Kd.R_far (p := ⟨gb1656, 4, none⟩) (Kd.R_far (p := ⟨gb1656, 3, none⟩) (Kd.R_far (p := ⟨gb1656, 2, none⟩) (Kd.R_far (p := ⟨gb1656, 1, none⟩) (Kd.R_far (p := ⟨gb1656, 0, none⟩) (Kd.R_types HO_1679000.out BK1656.out (by decide)) (fun _ hk => hk.2) (.slice Ao104 x1679000_1.length co104)) (fun _ hk => hk.2) (.int .i64 x1679001_1)) (fun _ hk => hk.2) (.slice Ao107 x1679002_1.length co107)) (fun _ hk => hk.2) (.int .i64 x1679003_1)) (fun _ hk => hk.2) (.int .i64 x1679004_1)) (fun _ hk => hk.2) (.slice Ao108 x1679005_1.length co108)) (fun _ hk => trivial), by (with_reducible repeat (first | apply Kd.R_alloc | apply Kd.R_drewN | apply Kd.R_drew)); exact Kd.R_mono (Kd.R_far (p := ⟨gb1656, 5, none⟩) (Kd.R_far (p := ⟨gb1656, 4, none⟩) (Kd.R_far (p := ⟨gb1656, 3, none⟩) (Kd.R_far (p := ⟨gb1656, 2, none⟩) (Kd.R_far (p := ⟨gb1656, 1, none⟩) (Kd.R_far (p := ⟨gb1656, 0, none⟩) (Kd.R_types HO_1679002.out BK1656.out (by decide)) (fun _ hk => hk.2) (.slice Ao104 x1679000_1.length co104)) (fun _ hk => hk.2) (.int .i64 x1679001_1)) (fun _ hk => hk.2) (.slice Ao107 x1679002_1.length co107)) (fun _ hk => hk.2) (.int .i64 x1679003_1)) (fun _ hk => hk.2) (.int .i64 x1679004_1)) (fun _ hk => hk.2) (.slice Ao108 x1679005_1.length co108)) (fun _ hk => trivial), by (with_reducible repeat (first | apply Kd.R_alloc | apply Kd.R_drewN | apply Kd.R_drew)); exact Kd.R_mono (Kd.R_far (p := ⟨gb1656, 5, none⟩) (Kd.R_far (p := ⟨gb1656, 4, none⟩) (Kd.R_far (p := ⟨gb1656, 3, none⟩) (Kd.R_far (p := ⟨gb1656, 2, none⟩) (Kd.R_far (p := ⟨gb1656, 1, none⟩) (Kd.R_far (p := ⟨gb1656, 0, none⟩) (Kd.R_types HO_1679005.out BK1656.out (by decide)) (fun _ hk => hk.2) (.slice Ao104 x1679000_1.length co104)) (fun _ hk => hk.2) (.int .i64 x1679001_1)) (fun _ hk => hk.2) (.slice Ao107 x1679002_1.length co107)) (fun _ hk => hk.2) (.int .i64 x1679003_1)) (fun _ hk => hk.2) (.int .i64 x1679004_1)) (fun _ hk => hk.2) (.slice Ao108 x1679005_1.length co108)) (fun _ hk => trivial), oI132 HI0, oB132 HB, oKe HK⟩
def spec_l39Shop.f (k : Nat) (s0_0 : List Int) (s0_1 : Int) (s0_2 : Int) : Option ((List (S112)) × Int × List Int × Int × Int × (List (S104)) × Int × Int) := (spec_l01Once.f s0_0 s0_1 s0_2 2).bind fun bt1755 => (if bt1755.1 = true then ((spec_SampleShop.f k).bind fun bt1758 => (some (bt1758.1, bt1758.2.1, bt1758.2.2.1, bt1758.2.2.2.1, bt1758.2.2.2.2.1, bt1758.2.2.2.2.2, bt1755.2.1, bt1755.2.2))) else ((spec_l38Shop.f k s0_0 bt1755.2.1 bt1755.2.2).bind fun bt1770 => (some (bt1770.1, bt1770.2.1, bt1770.2.2.1, bt1770.2.2.2.1, bt1770.2.2.2.2.1, bt1770.2.2.2.2.2.1, bt1770.2.2.2.2.2.2.1, bt1770.2.2.2.2.2.2.2))))
theorem spec_l39Shop.calls (k : Nat) (g : Nat) (s0_0 : List Int) (s0_1 : Int) (s0_2 : Int) (r1 : List (S112)) (r2 : Int) (r3 : List Int) (r4 : Int) (r5 : Int) (r6 : List (S104)) (r7 : Int) (r8 : Int) (w0 w : World) (hI : IsS132 w0 w g s0_0 s0_1 s0_2) (hB : Below w0.heap.size w0 w) (h : spec_l39Shop.f k s0_0 s0_1 s0_2 = some (r1, r2, r3, r4, r5, r6, r7, r8)) :
  Calls Tryz.prog 73 #[.pointer (some ⟨g, 0, none⟩)] w fun e w' => ∃ v0_ v2_ v5_ : Value, e = .returned (.agg #[v0_, .int .i64 r2, v2_, .int .i64 r4, .int .i64 r5, v5_]) ∧ Kd.R k112 112 w' w.heap.size (fun _ => True) v0_ r1 ∧ Kd.R (Kd.int .i64) 3 w' w.heap.size (fun _ => True) v2_ r3 ∧ Kd.R k104 104 w' w.heap.size (fun _ => True) v5_ r6 ∧ IsS132 w0 w' g s0_0 r7 r8 ∧ Below w0.heap.size w0 w' ∧ KeepBut w w' g none := by
 have hu37 := Tryz.underlying37
 have HI0 := A_ hI
 have HK := A_ (KeepBut.refl w g none)
 have HL := A_ hB.size
 clear hI
 have HW0 := A_ hB.size
 have HB := A_ hB
 clear hB
 have H : ((spec_l01Once.f s0_0 s0_1 s0_2 2).bind fun bt1755 => (if bt1755.1 = true then ((spec_SampleShop.f k).bind fun bt1758 => (some (bt1758.1, bt1758.2.1, bt1758.2.2.1, bt1758.2.2.2.1, bt1758.2.2.2.2.1, bt1758.2.2.2.2.2, bt1755.2.1, bt1755.2.2))) else ((spec_l38Shop.f k s0_0 bt1755.2.1 bt1755.2.2).bind fun bt1770 => (some (bt1770.1, bt1770.2.1, bt1770.2.2.1, bt1770.2.2.2.1, bt1770.2.2.2.2.1, bt1770.2.2.2.2.2.1, bt1770.2.2.2.2.2.2.1, bt1770.2.2.2.2.2.2.2))))) = some (r1, r2, r3, r4, r5, r6, r7, r8) := h
 clear h
 replace H := Option.bind_eq_some_iff.mp H
 obtain ⟨⟨t1755, t1756, t1757⟩, A20, H⟩ := H
 (try dsimp only at H)
 have A2 := A_ A20
 clear A20
 by_cases c3 : t1755 = true
 ·subst c3
  rw [if_pos rfl] at H
  replace H := Option.bind_eq_some_iff.mp H
  obtain ⟨⟨t1758, t1761, t1762, t1765, t1766, t1767⟩, A40, H⟩ := H
  (try dsimp only at H)
  have A4 := A_ A40
  clear A40
  simp only [Option.some.injEq, Prod.mk.injEq] at H
  obtain ⟨rfl, rfl, rfl, rfl, rfl, rfl, rfl, rfl⟩ := H
  go_enter Tryz.func73, Tryz.ntmps73
  go_wp2_with (first | ((with_reducible refine gate_dst (N := 2) rfl ?_); refine bX (N := 2) (cs := #[.slice none 0 0, .int .i64 0, .slice none 0 0, .int .i64 0, .int .i64 0, .slice none 0 0]) (t := 37) ?_; intro gb1754 hg w5 hbox hb; have n0_ := A_ (IsS132.below (oI132 HI0) hb); have n1_ := A_ (KeepBut.trans (oKe HK) (KeepBut.of_below hb g none) (.inl rfl)); have n2_ := A_ (below_step (oB132 HB) hb); have n3_ := A_ (hbox); have n4_ := A_ ((by rw [hg]; exact (keep_size (w := w) (g := g) (row := none) (by repeat (first | (with_reducible first | exact HK.out | apply KeepBut.set_ | apply keep_drewN | apply keep_drew | apply keep_alloc) | exact HK.out))) : w.heap.size ≤ gb1754)); have n5_ := A_ ((Nat.le_trans HW0.out (by rw [hg]; exact (keep_size (w := w) (g := g) (row := none) (by repeat (first | (with_reducible first | exact HK.out | apply KeepBut.set_ | apply keep_drewN | apply keep_drew | apply keep_alloc) | exact HK.out))) : w.heap.size ≤ gb1754) : w0.heap.size ≤ gb1754)); have n6_ := A_ ((by rw [hg]; exact Nat.ne_of_lt (IsS132.lt (show IsS132 w0 _ g s0_0 s0_1 s0_2 from oI132 HI0)) : g ≠ gb1754)); have n7_ := A_ ((by rw [hg]; exact Nat.ne_of_gt (IsS132.lt (show IsS132 w0 _ g s0_0 s0_1 s0_2 from oI132 HI0)) : gb1754 ≠ g)); clear HI0; clear HK; clear HB; have HI0 := n0_; have HK := n1_; have HB := n2_; have BK1754 := n3_; have GW1754 := n4_; have GE1754 := n5_; have NB0_1754 := n6_; have NB1754_0 := n7_; clear n0_ n1_ n2_ n3_ n4_ n5_ n6_ n7_; clear hb hbox hg) | ((with_reducible refine gate_callee (f := 115) rfl ?_); refine gL (some 4) Tryz.func115 #[.pointer (some ⟨g, 0, none⟩), .int .i64 2] ?_; (with_reducible refine (spec_l01Once.calls g s0_0 s0_1 s0_2 2 true t1756 t1757 w0 _ ?side1 ?side2 A2.out).mono ?_); (case side1 => exact oI132 HI0); (case side2 => exact oB132 HB); rintro e w6 ⟨rfl, hi, hb, hk⟩; refine ⟨_, rfl, ?_⟩; have n0_ := A_ (KeepBut.blk hk (g' := gb1754) (o := .cells #[.slice none 0 0, .int .i64 0, .slice none 0 0, .int .i64 0, .int .i64 0, .slice none 0 0] 37 (0, 0)) (oK BK1754) NB1754_0.out (by simp)); have n1_ := A_ (KeepBut.trans (oKe HK) hk (.inl rfl)); have n2_ := A_ (hb); have n3_ := A_ (hi); clear BK1754; clear HK; clear HB; clear HI0; have BK1754 := n0_; have HK := n1_; have HB := n2_; have HI0 := n3_; clear n0_ n1_ n2_ n3_; (try clear hb); (try clear hb2); (try clear hk); (try clear hi)) | ((with_reducible refine gate_callee (f := 116) rfl ?_); refine gL (some 5) Tryz.func116 #[] ?_; (with_reducible refine (spec_SampleShop.calls k  t1758 t1761 t1762 t1765 t1766 t1767 _ A4.out).mono ?_); rintro e w7 ⟨v1759, v1763, v1768, rfl, ho0, ho1, ho2, hb⟩; refine ⟨_, rfl, ?_⟩; have n0_ := A_ (Kd.R_lower ho0 (keep_size (w := w) (g := g) (row := none) (by repeat (first | (with_reducible first | exact HK.out | apply KeepBut.set_ | apply keep_drewN | apply keep_drew | apply keep_alloc | refine keep_far ?_ GW1754.out _) | exact HK.out)))); have n1_ := A_ (Kd.R_lower ho1 (keep_size (w := w) (g := g) (row := none) (by repeat (first | (with_reducible first | exact HK.out | apply KeepBut.set_ | apply keep_drewN | apply keep_drew | apply keep_alloc | refine keep_far ?_ GW1754.out _) | exact HK.out)))); have n2_ := A_ (Kd.R_lower ho2 (keep_size (w := w) (g := g) (row := none) (by repeat (first | (with_reducible first | exact HK.out | apply KeepBut.set_ | apply keep_drewN | apply keep_drew | apply keep_alloc | refine keep_far ?_ GW1754.out _) | exact HK.out)))); have n3_ := A_ (IsS132.below (oI132 HI0) hb); have n4_ := A_ (bb BK1754 hb); have n5_ := A_ (KeepBut.trans (oKe HK) (KeepBut.of_below hb g none) (.inl rfl)); have n6_ := A_ (below_step (oB132 HB) hb); clear HI0; clear BK1754; clear HK; clear HB; have HO1760 := n0_; have HO1764 := n1_; have HO1769 := n2_; have HI0 := n3_; have BK1754 := n4_; have HK := n5_; have HB := n6_; clear n0_ n1_ n2_ n3_ n4_ n5_ n6_; (try clear hb); (try clear hb2); (try clear hk); (try clear hi); (try clear ho0); (try clear ho1); (try clear ho2); obtain ⟨Ao8, co8, eo8⟩ := Kd.R_slice HO1760.out; subst eo8; have hnb9 := NB1754_0.out; have hnc9 := NB0_1754.out; have hcz10_0 := cz BK1754 0; have hcz10_1 := cz BK1754 1; have hcz10_2 := cz BK1754 2; have hcz10_3 := cz BK1754 3; have hcz10_4 := cz BK1754 4; have hcz10_5 := cz BK1754 5; have hfz10_0 := blk_frozen BK1754.out 0; have hfz10_1 := blk_frozen BK1754.out 1; have hfz10_2 := blk_frozen BK1754.out 2; have hfz10_3 := blk_frozen BK1754.out 3; have hfz10_4 := blk_frozen BK1754.out 4; have hfz10_5 := blk_frozen BK1754.out 5; obtain ⟨Ao11, co11, eo11⟩ := Kd.R_slice HO1764.out; subst eo11; obtain ⟨Ao12, co12, eo12⟩ := Kd.R_slice HO1769.out; subst eo12))
  refine bodyPost_ret (results_cell_row rfl _ _ gb1754 37 #[.slice Ao8 t1758.length co8, .int .i64 t1761, .slice Ao11 t1762.length co11, .int .i64 t1765, .int .i64 t1766, .slice Ao12 t1767.length co12] (0, 0) _ rfl (by (with_reducible repeat (first | refine blk_drewN ?_ _ | refine blk_drew ?_ | refine blk_alloc ?_ _)); refine blk_put (cs := #[.slice Ao8 t1758.length co8, .int .i64 t1761, .slice Ao11 t1762.length co11, .int .i64 t1765, .int .i64 t1766, .slice none 0 0]) ?_ 5 _ rfl; (with_reducible repeat (first | refine blk_drewN ?_ _ | refine blk_drew ?_ | refine blk_alloc ?_ _)); refine blk_put (cs := #[.slice Ao8 t1758.length co8, .int .i64 t1761, .slice Ao11 t1762.length co11, .int .i64 t1765, .int .i64 0, .slice none 0 0]) ?_ 4 _ rfl; (with_reducible repeat (first | refine blk_drewN ?_ _ | refine blk_drew ?_ | refine blk_alloc ?_ _)); refine blk_put (cs := #[.slice Ao8 t1758.length co8, .int .i64 t1761, .slice Ao11 t1762.length co11, .int .i64 0, .int .i64 0, .slice none 0 0]) ?_ 3 _ rfl; (with_reducible repeat (first | refine blk_drewN ?_ _ | refine blk_drew ?_ | refine blk_alloc ?_ _)); refine blk_put (cs := #[.slice Ao8 t1758.length co8, .int .i64 t1761, .slice none 0 0, .int .i64 0, .int .i64 0, .slice none 0 0]) ?_ 2 _ rfl; (with_reducible repeat (first | refine blk_drewN ?_ _ | refine blk_drew ?_ | refine blk_alloc ?_ _)); refine blk_put (cs := #[.slice Ao8 t1758.length co8, .int .i64 0, .slice none 0 0, .int .i64 0, .int .i64 0, .slice none 0 0]) ?_ 1 _ rfl; (with_reducible repeat (first | refine blk_drewN ?_ _ | refine blk_drew ?_ | refine blk_alloc ?_ _)); refine blk_put (cs := #[.slice none 0 0, .int .i64 0, .slice none 0 0, .int .i64 0, .int .i64 0, .slice none 0 0]) ?_ 0 _ rfl; (with_reducible repeat (first | refine blk_drewN ?_ _ | refine blk_drew ?_ | refine blk_alloc ?_ _)); exact BK1754.out) Tryz.underlying37 rfl (by kernel_rfl)) rfl ?_
  exact ⟨_, _, _, eR, by (with_reducible repeat (first | apply Kd.R_alloc | apply Kd.R_drewN | apply Kd.R_drew)); exact Kd.R_mono (Kd.R_far (p := ⟨gb1754, 5, none⟩) (Kd.R_far (p := ⟨gb1754, 4, none⟩) (Kd.R_far (p := ⟨gb1754, 3, none⟩) (Kd.R_far (p := ⟨gb1754, 2, none⟩) (Kd.R_far (p := ⟨gb1754, 1, none⟩) (Kd.R_far (p := ⟨gb1754, 0, none⟩) (Kd.R_types HO1760.out BK1754.out (by decide)) (fun _ hk => hk.2) (.slice Ao8 t1758.length co8)) (fun _ hk => hk.2) (.int .i64 t1761)) (fun _ hk => hk.2) (.slice Ao11 t1762.length co11)) (fun _ hk => hk.2) (.int .i64 t1765)) (fun _ hk => hk.2) (.int .i64 t1766)) (fun _ hk => hk.2) (.slice Ao12 t1767.length co12)) (fun _ hk => trivial), by (with_reducible repeat (first | apply Kd.R_alloc | apply Kd.R_drewN | apply Kd.R_drew)); exact Kd.R_mono (Kd.R_far (p := ⟨gb1754, 5, none⟩) (Kd.R_far (p := ⟨gb1754, 4, none⟩) (Kd.R_far (p := ⟨gb1754, 3, none⟩) (Kd.R_far (p := ⟨gb1754, 2, none⟩) (Kd.R_far (p := ⟨gb1754, 1, none⟩) (Kd.R_far (p := ⟨gb1754, 0, none⟩) (Kd.R_types HO1764.out BK1754.out (by decide)) (fun _ hk => hk.2) (.slice Ao8 t1758.length co8)) (fun _ hk => hk.2) (.int .i64 t1761)) (fun _ hk => hk.2) (.slice Ao11 t1762.length co11)) (fun _ hk => hk.2) (.int .i64 t1765)) (fun _ hk => hk.2) (.int .i64 t1766)) (fun _ hk => hk.2) (.slice Ao12 t1767.length co12)) (fun _ hk => trivial), by (with_reducible repeat (first | apply Kd.R_alloc | apply Kd.R_drewN | apply Kd.R_drew)); exact Kd.R_mono (Kd.R_far (p := ⟨gb1754, 5, none⟩) (Kd.R_far (p := ⟨gb1754, 4, none⟩) (Kd.R_far (p := ⟨gb1754, 3, none⟩) (Kd.R_far (p := ⟨gb1754, 2, none⟩) (Kd.R_far (p := ⟨gb1754, 1, none⟩) (Kd.R_far (p := ⟨gb1754, 0, none⟩) (Kd.R_types HO1769.out BK1754.out (by decide)) (fun _ hk => hk.2) (.slice Ao8 t1758.length co8)) (fun _ hk => hk.2) (.int .i64 t1761)) (fun _ hk => hk.2) (.slice Ao11 t1762.length co11)) (fun _ hk => hk.2) (.int .i64 t1765)) (fun _ hk => hk.2) (.int .i64 t1766)) (fun _ hk => hk.2) (.slice Ao12 t1767.length co12)) (fun _ hk => trivial), oI132 HI0, oB132 HB, oKe HK⟩
 ·replace c3 := Bool.eq_false_iff.mpr c3
  subst c3
  rw [if_neg (show ¬ (false = true) by decide)] at H
  replace H := Option.bind_eq_some_iff.mp H
  obtain ⟨⟨t1770, t1773, t1774, t1777, t1778, t1779, t1782, t1783⟩, A130, H⟩ := H
  (try dsimp only at H)
  have A13 := A_ A130
  clear A130
  simp only [Option.some.injEq, Prod.mk.injEq] at H
  obtain ⟨rfl, rfl, rfl, rfl, rfl, rfl, rfl, rfl⟩ := H
  go_enter Tryz.func73, Tryz.ntmps73
  go_wp2_with (first | ((with_reducible refine gate_dst (N := 2) rfl ?_); refine bX (N := 2) (cs := #[.slice none 0 0, .int .i64 0, .slice none 0 0, .int .i64 0, .int .i64 0, .slice none 0 0]) (t := 37) ?_; intro gb1754 hg w14 hbox hb; have n0_ := A_ (IsS132.below (oI132 HI0) hb); have n1_ := A_ (KeepBut.trans (oKe HK) (KeepBut.of_below hb g none) (.inl rfl)); have n2_ := A_ (below_step (oB132 HB) hb); have n3_ := A_ (hbox); have n4_ := A_ ((by rw [hg]; exact (keep_size (w := w) (g := g) (row := none) (by repeat (first | (with_reducible first | exact HK.out | apply KeepBut.set_ | apply keep_drewN | apply keep_drew | apply keep_alloc) | exact HK.out))) : w.heap.size ≤ gb1754)); have n5_ := A_ ((Nat.le_trans HW0.out (by rw [hg]; exact (keep_size (w := w) (g := g) (row := none) (by repeat (first | (with_reducible first | exact HK.out | apply KeepBut.set_ | apply keep_drewN | apply keep_drew | apply keep_alloc) | exact HK.out))) : w.heap.size ≤ gb1754) : w0.heap.size ≤ gb1754)); have n6_ := A_ ((by rw [hg]; exact Nat.ne_of_lt (IsS132.lt (show IsS132 w0 _ g s0_0 s0_1 s0_2 from oI132 HI0)) : g ≠ gb1754)); have n7_ := A_ ((by rw [hg]; exact Nat.ne_of_gt (IsS132.lt (show IsS132 w0 _ g s0_0 s0_1 s0_2 from oI132 HI0)) : gb1754 ≠ g)); clear HI0; clear HK; clear HB; have HI0 := n0_; have HK := n1_; have HB := n2_; have BK1754 := n3_; have GW1754 := n4_; have GE1754 := n5_; have NB0_1754 := n6_; have NB1754_0 := n7_; clear n0_ n1_ n2_ n3_ n4_ n5_ n6_ n7_; clear hb hbox hg) | ((with_reducible refine gate_callee (f := 115) rfl ?_); refine gL (some 4) Tryz.func115 #[.pointer (some ⟨g, 0, none⟩), .int .i64 2] ?_; (with_reducible refine (spec_l01Once.calls g s0_0 s0_1 s0_2 2 false t1756 t1757 w0 _ ?side1 ?side2 A2.out).mono ?_); (case side1 => exact oI132 HI0); (case side2 => exact oB132 HB); rintro e w15 ⟨rfl, hi, hb, hk⟩; refine ⟨_, rfl, ?_⟩; have n0_ := A_ (KeepBut.blk hk (g' := gb1754) (o := .cells #[.slice none 0 0, .int .i64 0, .slice none 0 0, .int .i64 0, .int .i64 0, .slice none 0 0] 37 (0, 0)) (oK BK1754) NB1754_0.out (by simp)); have n1_ := A_ (KeepBut.trans (oKe HK) hk (.inl rfl)); have n2_ := A_ (hb); have n3_ := A_ (hi); clear BK1754; clear HK; clear HB; clear HI0; have BK1754 := n0_; have HK := n1_; have HB := n2_; have HI0 := n3_; clear n0_ n1_ n2_ n3_; (try clear hb); (try clear hb2); (try clear hk); (try clear hi)) | ((with_reducible refine gate_callee (f := 117) rfl ?_); refine gL (some 7) Tryz.func117 #[.pointer (some ⟨g, 0, none⟩)] ?_; (with_reducible refine (spec_l38Shop.calls k g s0_0 t1756 t1757 t1770 t1773 t1774 t1777 t1778 t1779 t1782 t1783 w0 _ ?side1 ?side2 A13.out).mono ?_); (case side1 => exact oI132 HI0); (case side2 => exact oB132 HB); rintro e w16 ⟨v1771, v1775, v1780, rfl, ho0, ho1, ho2, hi, hb, hk⟩; refine ⟨_, rfl, ?_⟩; have n0_ := A_ (KeepBut.blk hk (g' := gb1754) (o := .cells #[.slice none 0 0, .int .i64 0, .slice none 0 0, .int .i64 0, .int .i64 0, .slice none 0 0] 37 (0, 0)) (oK BK1754) NB1754_0.out (by simp)); have n1_ := A_ (Kd.R_lower ho0 (keep_size (w := w) (g := g) (row := none) (by repeat (first | (with_reducible first | exact HK.out | apply KeepBut.set_ | apply keep_drewN | apply keep_drew | apply keep_alloc | refine keep_far ?_ GW1754.out _) | exact HK.out)))); have n2_ := A_ (Kd.R_lower ho1 (keep_size (w := w) (g := g) (row := none) (by repeat (first | (with_reducible first | exact HK.out | apply KeepBut.set_ | apply keep_drewN | apply keep_drew | apply keep_alloc | refine keep_far ?_ GW1754.out _) | exact HK.out)))); have n3_ := A_ (Kd.R_lower ho2 (keep_size (w := w) (g := g) (row := none) (by repeat (first | (with_reducible first | exact HK.out | apply KeepBut.set_ | apply keep_drewN | apply keep_drew | apply keep_alloc | refine keep_far ?_ GW1754.out _) | exact HK.out)))); have n4_ := A_ (KeepBut.trans (oKe HK) hk (.inl rfl)); have n5_ := A_ (hb); have n6_ := A_ (hi); clear BK1754; clear HK; clear HB; clear HI0; have BK1754 := n0_; have HO1772 := n1_; have HO1776 := n2_; have HO1781 := n3_; have HK := n4_; have HB := n5_; have HI0 := n6_; clear n0_ n1_ n2_ n3_ n4_ n5_ n6_; (try clear hb); (try clear hb2); (try clear hk); (try clear hi); (try clear ho0); (try clear ho1); (try clear ho2); obtain ⟨Ao17, co17, eo17⟩ := Kd.R_slice HO1772.out; subst eo17; have hnb18 := NB1754_0.out; have hnc18 := NB0_1754.out; have hcz19_0 := cz BK1754 0; have hcz19_1 := cz BK1754 1; have hcz19_2 := cz BK1754 2; have hcz19_3 := cz BK1754 3; have hcz19_4 := cz BK1754 4; have hcz19_5 := cz BK1754 5; have hfz19_0 := blk_frozen BK1754.out 0; have hfz19_1 := blk_frozen BK1754.out 1; have hfz19_2 := blk_frozen BK1754.out 2; have hfz19_3 := blk_frozen BK1754.out 3; have hfz19_4 := blk_frozen BK1754.out 4; have hfz19_5 := blk_frozen BK1754.out 5; obtain ⟨Ao20, co20, eo20⟩ := Kd.R_slice HO1776.out; subst eo20; obtain ⟨Ao21, co21, eo21⟩ := Kd.R_slice HO1781.out; subst eo21))
  refine bodyPost_ret (results_cell_row rfl _ _ gb1754 37 #[.slice Ao17 t1770.length co17, .int .i64 t1773, .slice Ao20 t1774.length co20, .int .i64 t1777, .int .i64 t1778, .slice Ao21 t1779.length co21] (0, 0) _ rfl (by (with_reducible repeat (first | refine blk_drewN ?_ _ | refine blk_drew ?_ | refine blk_alloc ?_ _)); refine blk_put (cs := #[.slice Ao17 t1770.length co17, .int .i64 t1773, .slice Ao20 t1774.length co20, .int .i64 t1777, .int .i64 t1778, .slice none 0 0]) ?_ 5 _ rfl; (with_reducible repeat (first | refine blk_drewN ?_ _ | refine blk_drew ?_ | refine blk_alloc ?_ _)); refine blk_put (cs := #[.slice Ao17 t1770.length co17, .int .i64 t1773, .slice Ao20 t1774.length co20, .int .i64 t1777, .int .i64 0, .slice none 0 0]) ?_ 4 _ rfl; (with_reducible repeat (first | refine blk_drewN ?_ _ | refine blk_drew ?_ | refine blk_alloc ?_ _)); refine blk_put (cs := #[.slice Ao17 t1770.length co17, .int .i64 t1773, .slice Ao20 t1774.length co20, .int .i64 0, .int .i64 0, .slice none 0 0]) ?_ 3 _ rfl; (with_reducible repeat (first | refine blk_drewN ?_ _ | refine blk_drew ?_ | refine blk_alloc ?_ _)); refine blk_put (cs := #[.slice Ao17 t1770.length co17, .int .i64 t1773, .slice none 0 0, .int .i64 0, .int .i64 0, .slice none 0 0]) ?_ 2 _ rfl; (with_reducible repeat (first | refine blk_drewN ?_ _ | refine blk_drew ?_ | refine blk_alloc ?_ _)); refine blk_put (cs := #[.slice Ao17 t1770.length co17, .int .i64 0, .slice none 0 0, .int .i64 0, .int .i64 0, .slice none 0 0]) ?_ 1 _ rfl; (with_reducible repeat (first | refine blk_drewN ?_ _ | refine blk_drew ?_ | refine blk_alloc ?_ _)); refine blk_put (cs := #[.slice none 0 0, .int .i64 0, .slice none 0 0, .int .i64 0, .int .i64 0, .slice none 0 0]) ?_ 0 _ rfl; (with_reducible repeat (first | refine blk_drewN ?_ _ | refine blk_drew ?_ | refine blk_alloc ?_ _)); exact BK1754.out) Tryz.underlying37 rfl (by kernel_rfl)) rfl ?_
  exact ⟨_, _, _, eR, by (with_reducible repeat (first | apply Kd.R_alloc | apply Kd.R_drewN | apply Kd.R_drew)); exact Kd.R_mono (Kd.R_far (p := ⟨gb1754, 5, none⟩) (Kd.R_far (p := ⟨gb1754, 4, none⟩) (Kd.R_far (p := ⟨gb1754, 3, none⟩) (Kd.R_far (p := ⟨gb1754, 2, none⟩) (Kd.R_far (p := ⟨gb1754, 1, none⟩) (Kd.R_far (p := ⟨gb1754, 0, none⟩) (Kd.R_types HO1772.out BK1754.out (by decide)) (fun _ hk => hk.2) (.slice Ao17 t1770.length co17)) (fun _ hk => hk.2) (.int .i64 t1773)) (fun _ hk => hk.2) (.slice Ao20 t1774.length co20)) (fun _ hk => hk.2) (.int .i64 t1777)) (fun _ hk => hk.2) (.int .i64 t1778)) (fun _ hk => hk.2) (.slice Ao21 t1779.length co21)) (fun _ hk => trivial), by (with_reducible repeat (first | apply Kd.R_alloc | apply Kd.R_drewN | apply Kd.R_drew)); exact Kd.R_mono (Kd.R_far (p := ⟨gb1754, 5, none⟩) (Kd.R_far (p := ⟨gb1754, 4, none⟩) (Kd.R_far (p := ⟨gb1754, 3, none⟩) (Kd.R_far (p := ⟨gb1754, 2, none⟩) (Kd.R_far (p := ⟨gb1754, 1, none⟩) (Kd.R_far (p := ⟨gb1754, 0, none⟩) (Kd.R_types HO1776.out BK1754.out (by decide)) (fun _ hk => hk.2) (.slice Ao17 t1770.length co17)) (fun _ hk => hk.2) (.int .i64 t1773)) (fun _ hk => hk.2) (.slice Ao20 t1774.length co20)) (fun _ hk => hk.2) (.int .i64 t1777)) (fun _ hk => hk.2) (.int .i64 t1778)) (fun _ hk => hk.2) (.slice Ao21 t1779.length co21)) (fun _ hk => trivial), by (with_reducible repeat (first | apply Kd.R_alloc | apply Kd.R_drewN | apply Kd.R_drew)); exact Kd.R_mono (Kd.R_far (p := ⟨gb1754, 5, none⟩) (Kd.R_far (p := ⟨gb1754, 4, none⟩) (Kd.R_far (p := ⟨gb1754, 3, none⟩) (Kd.R_far (p := ⟨gb1754, 2, none⟩) (Kd.R_far (p := ⟨gb1754, 1, none⟩) (Kd.R_far (p := ⟨gb1754, 0, none⟩) (Kd.R_types HO1781.out BK1754.out (by decide)) (fun _ hk => hk.2) (.slice Ao17 t1770.length co17)) (fun _ hk => hk.2) (.int .i64 t1773)) (fun _ hk => hk.2) (.slice Ao20 t1774.length co20)) (fun _ hk => hk.2) (.int .i64 t1777)) (fun _ hk => hk.2) (.int .i64 t1778)) (fun _ hk => hk.2) (.slice Ao21 t1779.length co21)) (fun _ hk => trivial), oI132 HI0, oB132 HB, oKe HK⟩
def spec_DrawActs.f (k : Nat) (l0 : List Int) : Option ((List (S112)) × Int × List Int × Int × Int × (List (S104)) × (List (S41))) := (spec_l01New.f k l0).bind fun bt1829 => ((spec_l39Shop.f k bt1829.1 bt1829.2.1 bt1829.2.2).bind fun bt1833 => ((spec_l39List.f k bt1829.1 bt1833.2.2.2.2.2.2.1 bt1833.2.2.2.2.2.2.2).bind fun bt1847 => (some (bt1833.1, bt1833.2.1, bt1833.2.2.1, bt1833.2.2.2.1, bt1833.2.2.2.2.1, bt1833.2.2.2.2.2.1, bt1847.1))))
theorem spec_DrawActs.calls (k : Nat) (A0 : Option Addr) (c0 : Nat) (l0 : List Int) (r1 : List (S112)) (r2 : Int) (r3 : List Int) (r4 : Int) (r5 : Int) (r6 : List (S104)) (r7 : List (S41)) (w : World) (hr0 : Kd.C (Kd.int .u8) w A0 l0.length l0) (hc0 : l0.length ≤ c0) (h : spec_DrawActs.f k l0 = some (r1, r2, r3, r4, r5, r6, r7)) :
  Calls Tryz.prog 30 #[.slice A0 l0.length c0] w fun e w' => ∃ v0_ v2_ v5_ v6_ : Value, e = .returned (.tuple #[.agg #[v0_, .int .i64 r2, v2_, .int .i64 r4, .int .i64 r5, v5_], v6_]) ∧ Kd.R k112 112 w' w.heap.size (fun _ => True) v0_ r1 ∧ Kd.R (Kd.int .i64) 3 w' w.heap.size (fun _ => True) v2_ r3 ∧ Kd.R k104 104 w' w.heap.size (fun _ => True) v5_ r6 ∧ Kd.R k41 41 w' w.heap.size (fun _ => True) v6_ r7 ∧ Below w.heap.size w w' := by
 have hu37 := Tryz.underlying37
 have HR0 := A_ hr0
 have HC0 := A_ hc0
 clear hr0 hc0
 have HB := A_ (Below.refl w.heap.size w)
 have H : ((spec_l01New.f k l0).bind fun bt1829 => ((spec_l39Shop.f k bt1829.1 bt1829.2.1 bt1829.2.2).bind fun bt1833 => ((spec_l39List.f k bt1829.1 bt1833.2.2.2.2.2.2.1 bt1833.2.2.2.2.2.2.2).bind fun bt1847 => (some (bt1833.1, bt1833.2.1, bt1833.2.2.1, bt1833.2.2.2.1, bt1833.2.2.2.2.1, bt1833.2.2.2.2.2.1, bt1847.1))))) = some (r1, r2, r3, r4, r5, r6, r7) := h
 clear h
 replace H := Option.bind_eq_some_iff.mp H
 obtain ⟨⟨t1829, t1830, t1831⟩, A20, H⟩ := H
 (try dsimp only at H)
 have A2 := A_ A20
 clear A20
 replace H := Option.bind_eq_some_iff.mp H
 obtain ⟨⟨t1833, t1836, t1837, t1840, t1841, t1842, t1845, t1846⟩, A30, H⟩ := H
 (try dsimp only at H)
 have A3 := A_ A30
 clear A30
 replace H := Option.bind_eq_some_iff.mp H
 obtain ⟨⟨t1847, t1850, t1851⟩, A40, H⟩ := H
 (try dsimp only at H)
 have A4 := A_ A40
 clear A40
 simp only [Option.some.injEq, Prod.mk.injEq] at H
 obtain ⟨rfl, rfl, rfl, rfl, rfl, rfl, rfl⟩ := H
 go_enter Tryz.func30, Tryz.ntmps30
 go_wp2_with (first | ((with_reducible refine gate_dst (N := 2) rfl ?_); refine bX (N := 2) (cs := #[.slice none 0 0, .int .i64 0, .slice none 0 0, .int .i64 0, .int .i64 0, .slice none 0 0]) (t := 37) ?_; intro gb1828 hg w5 hbox hb; have n0_ := A_ (below_step (oB HB) hb); have n1_ := A_ (hbox); have n2_ := A_ ((by rw [hg]; exact (below_size (oB HB)) : w.heap.size ≤ gb1828)); have n3_ := A_ ((by rw [hg]; exact (below_size (oB HB)) : w.heap.size ≤ gb1828)); clear HB; have HB := n0_; have BK1828 := n1_; have GW1828 := n2_; have GE1828 := n3_; clear n0_ n1_ n2_ n3_; clear hb hbox hg) | ((with_reducible refine gate_callee (f := 72) rfl ?_); refine gL (some 6) Tryz.func72 #[.slice A0 l0.length c0] ?_; (with_reducible refine (spec_l01New.calls k _ _ l0 t1829 t1830 t1831 w _ ?side1 ?side2 ?side3 A2.out).mono ?_); (case side1 => repeat (first | (with_reducible first | exact HB.out | apply below_alloc | apply pw_below_drewN | apply below_drew1 | refine below_set ?_ GE1828.out) | exact HB.out)); (case side2 => exact HR0.out); (case side3 => exact HC0.out); rintro e w6 ⟨g1832, rfl, hi, hb, hb2⟩; refine ⟨_, rfl, ?_⟩; have n0_ := A_ (bb BK1828 hb2); have n1_ := A_ (hb); have n2_ := A_ (hi); have n3_ := A_ (IsS132.ne_blk hi (bb BK1828 hb2) (by decide)); have n4_ := A_ (Ne.symm (IsS132.ne_blk hi (bb BK1828 hb2) (by decide))); clear BK1828; clear HB; have BK1828 := n0_; have HB := n1_; have HI1832 := n2_; have NB1832_1828 := n3_; have NB1828_1832 := n4_; clear n0_ n1_ n2_ n3_ n4_; (try clear hb); (try clear hb2); (try clear hk); (try clear hi)) | ((with_reducible refine gate_callee (f := 73) rfl ?_); refine gL (some 8) Tryz.func73 #[.pointer (some ⟨g1832, 0, none⟩)] ?_; (with_reducible refine (spec_l39Shop.calls k g1832 t1829 t1830 t1831 t1833 t1836 t1837 t1840 t1841 t1842 t1845 t1846 w _ ?side1 ?side2 A3.out).mono ?_); (case side1 => exact oI132 HI1832); (case side2 => exact oB132 HB); rintro e w7 ⟨v1834, v1838, v1843, rfl, ho0, ho1, ho2, hi, hb, hk⟩; refine ⟨_, rfl, ?_⟩; have n0_ := A_ (KeepBut.blk hk (g' := gb1828) (o := .cells #[.slice none 0 0, .int .i64 0, .slice none 0 0, .int .i64 0, .int .i64 0, .slice none 0 0] 37 (0, 0)) (oK BK1828) NB1828_1832.out (by simp)); have n1_ := A_ (Kd.R_lower ho0 (below_size (oB132 HB))); have n2_ := A_ (Kd.R_lower ho1 (below_size (oB132 HB))); have n3_ := A_ (Kd.R_lower ho2 (below_size (oB132 HB))); have n4_ := A_ (hb); have n5_ := A_ (hi); clear BK1828; clear HB; clear HI1832; have BK1828 := n0_; have HO1835 := n1_; have HO1839 := n2_; have HO1844 := n3_; have HB := n4_; have HI1832 := n5_; clear n0_ n1_ n2_ n3_ n4_ n5_; (try clear hb); (try clear hb2); (try clear hk); (try clear hi); (try clear ho0); (try clear ho1); (try clear ho2)) | ((with_reducible refine gate_callee (f := 74) rfl ?_); refine gL (some 10) Tryz.func74 #[.pointer (some ⟨g1832, 0, none⟩)] ?_; (with_reducible refine (spec_l39List.calls k g1832 t1829 t1845 t1846 t1847 t1850 t1851 w _ ?side1 ?side2 A4.out).mono ?_); (case side1 => exact oI132 HI1832); (case side2 => exact oB132 HB); rintro e w8 ⟨v1848, rfl, ho0, hi, hb, hk⟩; refine ⟨_, rfl, ?_⟩; have n0_ := A_ (KeepBut.blk hk (g' := gb1828) (o := .cells #[.slice none 0 0, .int .i64 0, .slice none 0 0, .int .i64 0, .int .i64 0, .slice none 0 0] 37 (0, 0)) (oK BK1828) NB1828_1832.out (by simp)); have n1_ := A_ (Kd.R_mono (Kd.R_keep (IsS132.apart (show IsS132 w _ g1832 t1829 t1845 t1846 from oI132 HI1832) (oR HO1835) (by decide)) hk (fun _ h => h.2)) (fun _ h => h.1)); have n2_ := A_ (Kd.R_mono (Kd.R_keep (IsS132.apart (show IsS132 w _ g1832 t1829 t1845 t1846 from oI132 HI1832) (oR HO1839) (by decide)) hk (fun _ h => h.2)) (fun _ h => h.1)); have n3_ := A_ (Kd.R_mono (Kd.R_keep (IsS132.apart (show IsS132 w _ g1832 t1829 t1845 t1846 from oI132 HI1832) (oR HO1844) (by decide)) hk (fun _ h => h.2)) (fun _ h => h.1)); have n4_ := A_ (Kd.R_lower ho0 (below_size (oB132 HB))); have n5_ := A_ (hb); have n6_ := A_ (hi); clear BK1828; clear HO1835; clear HO1839; clear HO1844; clear HB; clear HI1832; have BK1828 := n0_; have HO1835 := n1_; have HO1839 := n2_; have HO1844 := n3_; have HO1849 := n4_; have HB := n5_; have HI1832 := n6_; clear n0_ n1_ n2_ n3_ n4_ n5_ n6_; (try clear hb); (try clear hb2); (try clear hk); (try clear hi); (try clear ho0); obtain ⟨Ao9, co9, eo9⟩ := Kd.R_slice HO1835.out; subst eo9; have hnb10 := NB1828_1832.out; have hnc10 := NB1832_1828.out; have hcz11_0 := cz BK1828 0; have hcz11_1 := cz BK1828 1; have hcz11_2 := cz BK1828 2; have hcz11_3 := cz BK1828 3; have hcz11_4 := cz BK1828 4; have hcz11_5 := cz BK1828 5; have hfz11_0 := blk_frozen BK1828.out 0; have hfz11_1 := blk_frozen BK1828.out 1; have hfz11_2 := blk_frozen BK1828.out 2; have hfz11_3 := blk_frozen BK1828.out 3; have hfz11_4 := blk_frozen BK1828.out 4; have hfz11_5 := blk_frozen BK1828.out 5; obtain ⟨Ao12, co12, eo12⟩ := Kd.R_slice HO1839.out; subst eo12; obtain ⟨Ao13, co13, eo13⟩ := Kd.R_slice HO1844.out; subst eo13))
 refine bodyPost_ret (results_ct rfl _ _ gb1828 37 #[.slice Ao9 t1833.length co9, .int .i64 t1836, .slice Ao12 t1837.length co12, .int .i64 t1840, .int .i64 t1841, .slice Ao13 t1842.length co13] (0, 0) _ rfl (by (with_reducible repeat (first | refine blk_drewN ?_ _ | refine blk_drew ?_ | refine blk_alloc ?_ _)); refine blk_put (cs := #[.slice Ao9 t1833.length co9, .int .i64 t1836, .slice Ao12 t1837.length co12, .int .i64 t1840, .int .i64 t1841, .slice none 0 0]) ?_ 5 _ rfl; (with_reducible repeat (first | refine blk_drewN ?_ _ | refine blk_drew ?_ | refine blk_alloc ?_ _)); refine blk_put (cs := #[.slice Ao9 t1833.length co9, .int .i64 t1836, .slice Ao12 t1837.length co12, .int .i64 t1840, .int .i64 0, .slice none 0 0]) ?_ 4 _ rfl; (with_reducible repeat (first | refine blk_drewN ?_ _ | refine blk_drew ?_ | refine blk_alloc ?_ _)); refine blk_put (cs := #[.slice Ao9 t1833.length co9, .int .i64 t1836, .slice Ao12 t1837.length co12, .int .i64 0, .int .i64 0, .slice none 0 0]) ?_ 3 _ rfl; (with_reducible repeat (first | refine blk_drewN ?_ _ | refine blk_drew ?_ | refine blk_alloc ?_ _)); refine blk_put (cs := #[.slice Ao9 t1833.length co9, .int .i64 t1836, .slice none 0 0, .int .i64 0, .int .i64 0, .slice none 0 0]) ?_ 2 _ rfl; (with_reducible repeat (first | refine blk_drewN ?_ _ | refine blk_drew ?_ | refine blk_alloc ?_ _)); refine blk_put (cs := #[.slice Ao9 t1833.length co9, .int .i64 0, .slice none 0 0, .int .i64 0, .int .i64 0, .slice none 0 0]) ?_ 1 _ rfl; (with_reducible repeat (first | refine blk_drewN ?_ _ | refine blk_drew ?_ | refine blk_alloc ?_ _)); refine blk_put (cs := #[.slice none 0 0, .int .i64 0, .slice none 0 0, .int .i64 0, .int .i64 0, .slice none 0 0]) ?_ 0 _ rfl; (with_reducible repeat (first | refine blk_drewN ?_ _ | refine blk_drew ?_ | refine blk_alloc ?_ _)); exact BK1828.out) Tryz.underlying37 rfl (by kernel_rfl)) rfl ?_
 exact ⟨_, _, _, _, eR, by (with_reducible repeat (first | apply Kd.R_alloc | apply Kd.R_drewN | apply Kd.R_drew)); exact Kd.R_mono (Kd.R_far (p := ⟨gb1828, 5, none⟩) (Kd.R_far (p := ⟨gb1828, 4, none⟩) (Kd.R_far (p := ⟨gb1828, 3, none⟩) (Kd.R_far (p := ⟨gb1828, 2, none⟩) (Kd.R_far (p := ⟨gb1828, 1, none⟩) (Kd.R_far (p := ⟨gb1828, 0, none⟩) (Kd.R_types HO1835.out BK1828.out (by decide)) (fun _ hk => hk.2) (.slice Ao9 t1833.length co9)) (fun _ hk => hk.2) (.int .i64 t1836)) (fun _ hk => hk.2) (.slice Ao12 t1837.length co12)) (fun _ hk => hk.2) (.int .i64 t1840)) (fun _ hk => hk.2) (.int .i64 t1841)) (fun _ hk => hk.2) (.slice Ao13 t1842.length co13)) (fun _ hk => trivial), by (with_reducible repeat (first | apply Kd.R_alloc | apply Kd.R_drewN | apply Kd.R_drew)); exact Kd.R_mono (Kd.R_far (p := ⟨gb1828, 5, none⟩) (Kd.R_far (p := ⟨gb1828, 4, none⟩) (Kd.R_far (p := ⟨gb1828, 3, none⟩) (Kd.R_far (p := ⟨gb1828, 2, none⟩) (Kd.R_far (p := ⟨gb1828, 1, none⟩) (Kd.R_far (p := ⟨gb1828, 0, none⟩) (Kd.R_types HO1839.out BK1828.out (by decide)) (fun _ hk => hk.2) (.slice Ao9 t1833.length co9)) (fun _ hk => hk.2) (.int .i64 t1836)) (fun _ hk => hk.2) (.slice Ao12 t1837.length co12)) (fun _ hk => hk.2) (.int .i64 t1840)) (fun _ hk => hk.2) (.int .i64 t1841)) (fun _ hk => hk.2) (.slice Ao13 t1842.length co13)) (fun _ hk => trivial), by (with_reducible repeat (first | apply Kd.R_alloc | apply Kd.R_drewN | apply Kd.R_drew)); exact Kd.R_mono (Kd.R_far (p := ⟨gb1828, 5, none⟩) (Kd.R_far (p := ⟨gb1828, 4, none⟩) (Kd.R_far (p := ⟨gb1828, 3, none⟩) (Kd.R_far (p := ⟨gb1828, 2, none⟩) (Kd.R_far (p := ⟨gb1828, 1, none⟩) (Kd.R_far (p := ⟨gb1828, 0, none⟩) (Kd.R_types HO1844.out BK1828.out (by decide)) (fun _ hk => hk.2) (.slice Ao9 t1833.length co9)) (fun _ hk => hk.2) (.int .i64 t1836)) (fun _ hk => hk.2) (.slice Ao12 t1837.length co12)) (fun _ hk => hk.2) (.int .i64 t1840)) (fun _ hk => hk.2) (.int .i64 t1841)) (fun _ hk => hk.2) (.slice Ao13 t1842.length co13)) (fun _ hk => trivial), by (with_reducible repeat (first | apply Kd.R_alloc | apply Kd.R_drewN | apply Kd.R_drew)); exact Kd.R_mono (Kd.R_far (p := ⟨gb1828, 5, none⟩) (Kd.R_far (p := ⟨gb1828, 4, none⟩) (Kd.R_far (p := ⟨gb1828, 3, none⟩) (Kd.R_far (p := ⟨gb1828, 2, none⟩) (Kd.R_far (p := ⟨gb1828, 1, none⟩) (Kd.R_far (p := ⟨gb1828, 0, none⟩) (Kd.R_types HO1849.out BK1828.out (by decide)) (fun _ hk => hk.2) (.slice Ao9 t1833.length co9)) (fun _ hk => hk.2) (.int .i64 t1836)) (fun _ hk => hk.2) (.slice Ao12 t1837.length co12)) (fun _ hk => hk.2) (.int .i64 t1840)) (fun _ hk => hk.2) (.int .i64 t1841)) (fun _ hk => hk.2) (.slice Ao13 t1842.length co13)) (fun _ hk => trivial), oB132 HB⟩
def laws_FnScenarios.f (k : Nat) (l0 : List Int) : Option (Bool) := (laws_big.f l0).bind fun t1985 => (if t1985 = true then (some true) else ((spec_DrawActs.f k l0).bind fun bt1986 => ((impl_RunActs.f k bt1986.1 bt1986.2.1 bt1986.2.2.1 bt1986.2.2.2.1 bt1986.2.2.2.2.1 bt1986.2.2.2.2.2.1 bt1986.2.2.2.2.2.2).bind fun bt2002 => ((impl_ShopOk.f k bt1986.1 bt1986.2.1 bt1986.2.2.1 bt1986.2.2.2.1 bt1986.2.2.2.2.1 bt1986.2.2.2.2.2.1).bind fun t2018 => (if t2018 = true then ((impl_ShopOk.f k bt2002.1 bt2002.2.1 bt2002.2.2.1 bt2002.2.2.2.1 bt2002.2.2.2.2.1 bt2002.2.2.2.2.2.1).bind fun t2019 => (if t2019 = true then (if (bt2002.2.2.2.2.2.2.length : Int) = (bt1986.2.2.2.2.2.2.length : Int) then ((impl_SampleShop.f k).bind fun bt2020 => ((impl_ShopOk.f k bt2020.1 bt2020.2.1 bt2020.2.2.1 bt2020.2.2.2.1 bt2020.2.2.2.2.1 bt2020.2.2.2.2.2).bind fun t2032 => (some t2032))) else (some false)) else (some false))) else (some false))))))
theorem laws_FnScenarios.calls (k : Nat) (A0 : Option Addr) (c0 : Nat) (l0 : List Int) (r : Bool) (w : World) (hr0 : Kd.C (Kd.int .u8) w A0 l0.length l0) (hc0 : l0.length ≤ c0) (h : laws_FnScenarios.f k l0 = some r) (hrt_ : Aside0 (r = true)) :
  Calls Tryz.prog 7 #[.slice A0 l0.length c0] w fun e w' => e = .returned (.bool r) ∧ Below w.heap.size w w' := by
 have hu37 := Tryz.underlying37
 have HR0 := A_ hr0
 have HC0 := A_ hc0
 clear hr0 hc0
 have HB := A_ (Below.refl w.heap.size w)
 have H : ((laws_big.f l0).bind fun t1985 => (if t1985 = true then (some true) else ((spec_DrawActs.f k l0).bind fun bt1986 => ((impl_RunActs.f k bt1986.1 bt1986.2.1 bt1986.2.2.1 bt1986.2.2.2.1 bt1986.2.2.2.2.1 bt1986.2.2.2.2.2.1 bt1986.2.2.2.2.2.2).bind fun bt2002 => ((impl_ShopOk.f k bt1986.1 bt1986.2.1 bt1986.2.2.1 bt1986.2.2.2.1 bt1986.2.2.2.2.1 bt1986.2.2.2.2.2.1).bind fun t2018 => (if t2018 = true then ((impl_ShopOk.f k bt2002.1 bt2002.2.1 bt2002.2.2.1 bt2002.2.2.2.1 bt2002.2.2.2.2.1 bt2002.2.2.2.2.2.1).bind fun t2019 => (if t2019 = true then (if (bt2002.2.2.2.2.2.2.length : Int) = (bt1986.2.2.2.2.2.2.length : Int) then ((impl_SampleShop.f k).bind fun bt2020 => ((impl_ShopOk.f k bt2020.1 bt2020.2.1 bt2020.2.2.1 bt2020.2.2.2.1 bt2020.2.2.2.2.1 bt2020.2.2.2.2.2).bind fun t2032 => (some t2032))) else (some false)) else (some false))) else (some false))))))) = some r := h
 clear h
 replace H := Option.bind_eq_some_iff.mp H
 obtain ⟨t1985, A20, H⟩ := H
 (try dsimp only at H)
 have A2 := A_ A20
 clear A20
 by_cases c3 : t1985 = true
 ·subst c3
  rw [if_pos rfl] at H
  obtain rfl := Option.some.inj H
  go_enter Tryz.func7, Tryz.ntmps7
  go_wp2_with (first | ((with_reducible refine gate_callee (f := 29) rfl ?_); refine gL (some 8) Tryz.func29 #[.slice A0 l0.length c0] ?_; (with_reducible refine (laws_big.calls _ _ l0 true _ ?side1 ?side2 A2.out).mono ?_); (case side1 => repeat (first | exact HR0.out | (with_reducible refine Kd.C_alloc ?_ _) | (with_reducible refine Kd.C_drewN ?_ _) | (with_reducible refine Kd.C_drew ?_))); (case side2 => exact HC0.out); rintro e w' ⟨rfl, ⟨nd, rfl⟩⟩; refine ⟨_, rfl, ?_⟩))
  go_ret
  exact ⟨eR, oB HB⟩
 ·replace c3 := Bool.eq_false_iff.mpr c3
  subst c3
  rw [if_neg (show ¬ (false = true) by decide)] at H
  replace H := Option.bind_eq_some_iff.mp H
  obtain ⟨⟨t1986, t1989, t1990, t1993, t1994, t1995, t1998⟩, A40, H⟩ := H
  (try dsimp only at H)
  have A4 := A_ A40
  clear A40
  replace H := Option.bind_eq_some_iff.mp H
  obtain ⟨⟨t2002, t2005, t2006, t2009, t2010, t2011, t2014⟩, A50, H⟩ := H
  (try dsimp only at H)
  have A5 := A_ A50
  clear A50
  replace H := Option.bind_eq_some_iff.mp H
  obtain ⟨t2018, A60, H⟩ := H
  (try dsimp only at H)
  have A6 := A_ A60
  clear A60
  by_cases c7 : t2018 = true
  ·subst c7
   rw [if_pos rfl] at H
   replace H := Option.bind_eq_some_iff.mp H
   obtain ⟨t2019, A80, H⟩ := H
   (try dsimp only at H)
   have A8 := A_ A80
   clear A80
   by_cases c9 : t2019 = true
   ·subst c9
    rw [if_pos rfl] at H
    by_cases c10 : (t2014.length : Int) = (t1998.length : Int)
    ·rw [if_pos c10] at H
     have c10b0 : ((t2014.length : Int) == (t1998.length : Int)) = true := beq_iff_eq.mpr c10
     have c10b1 : ((t2014.length : Int) != (t1998.length : Int)) = false := bne_eq_false_iff_eq.mpr c10
     have c10b2 : (t2014.length == t1998.length) = true := by first | simpa using c10 | (simp at c10 ⊢; omega)
     clear c10
     replace H := Option.bind_eq_some_iff.mp H
     obtain ⟨⟨t2020, t2023, t2024, t2027, t2028, t2029⟩, A110, H⟩ := H
     (try dsimp only at H)
     have A11 := A_ A110
     clear A110
     replace H := Option.bind_eq_some_iff.mp H
     obtain ⟨t2032, A120, H⟩ := H
     (try dsimp only at H)
     have A12 := A_ A120
     clear A120
     obtain rfl := Option.some.inj H
     go_enter Tryz.func7, Tryz.ntmps7
     go_wp2_with (first | ((with_reducible refine gate_callee (f := 29) rfl ?_); refine gL (some 8) Tryz.func29 #[.slice A0 l0.length c0] ?_; (with_reducible refine (laws_big.calls _ _ l0 false _ ?side1 ?side2 A2.out).mono ?_); (case side1 => repeat (first | exact HR0.out | (with_reducible refine Kd.C_alloc ?_ _) | (with_reducible refine Kd.C_drewN ?_ _) | (with_reducible refine Kd.C_drew ?_))); (case side2 => exact HC0.out); rintro e w' ⟨rfl, ⟨nd, rfl⟩⟩; refine ⟨_, rfl, ?_⟩) | ((with_reducible refine gate_callee (f := 30) rfl ?_); refine gL (some 11) Tryz.func30 #[.slice A0 l0.length c0] ?_; (with_reducible refine (spec_DrawActs.calls k _ _ l0 t1986 t1989 t1990 t1993 t1994 t1995 t1998 _ ?side1 ?side2 A4.out).mono ?_); (case side1 => repeat (first | exact HR0.out | (with_reducible refine Kd.C_alloc ?_ _) | (with_reducible refine Kd.C_drewN ?_ _) | (with_reducible refine Kd.C_drew ?_))); (case side2 => exact HC0.out); rintro e w13 ⟨v1987, v1991, v1996, v1999, rfl, ho0, ho1, ho2, ho3, hb⟩; refine ⟨_, rfl, ?_⟩; have n0_ := A_ (Kd.R_lower ho0 (below_size (oB HB))); have n1_ := A_ (Kd.R_lower ho1 (below_size (oB HB))); have n2_ := A_ (Kd.R_lower ho2 (below_size (oB HB))); have n3_ := A_ (Kd.R_lower ho3 (below_size (oB HB))); have n4_ := A_ (below_step (oB HB) hb); clear HB; have HO1988 := n0_; have HO1992 := n1_; have HO1997 := n2_; have HO2000 := n3_; have HB := n4_; clear n0_ n1_ n2_ n3_ n4_; (try clear hb); (try clear hb2); (try clear hk); (try clear hi); (try clear ho0); (try clear ho1); (try clear ho2); (try clear ho3)) | ((with_reducible refine gate_dst (N := 3) rfl ?_); (try (refine gate_guard (by rfl) ?_; dsimp only)); refine bX (N := 3) (cs := #[.slice none 0 0, .int .i64 0, .slice none 0 0, .int .i64 0, .int .i64 0, .slice none 0 0]) (t := 37) ?_; intro gb2001 hg w14 hbox hb; have n0_ := A_ (Kd.R_below (oR HO1988) hb); have n1_ := A_ (Kd.R_below (oR HO1992) hb); have n2_ := A_ (Kd.R_below (oR HO1997) hb); have n3_ := A_ (Kd.R_below (oR HO2000) hb); have n4_ := A_ (below_step (oB HB) hb); have n5_ := A_ (hbox); have n6_ := A_ ((by rw [hg]; exact (below_size (oB HB)) : w.heap.size ≤ gb2001)); have n7_ := A_ ((by rw [hg]; exact (below_size (oB HB)) : w.heap.size ≤ gb2001)); clear HO1988; clear HO1992; clear HO1997; clear HO2000; clear HB; have HO1988 := n0_; have HO1992 := n1_; have HO1997 := n2_; have HO2000 := n3_; have HB := n4_; have BK2001 := n5_; have GW2001 := n6_; have GE2001 := n7_; clear n0_ n1_ n2_ n3_ n4_ n5_ n6_ n7_; clear hb hbox hg; obtain ⟨Ao15, co15, eo15⟩ := Kd.R_slice HO1988.out; subst eo15; have hcz16_0 := cz BK2001 0; have hcz16_1 := cz BK2001 1; have hcz16_2 := cz BK2001 2; have hcz16_3 := cz BK2001 3; have hcz16_4 := cz BK2001 4; have hcz16_5 := cz BK2001 5; have hfz16_0 := blk_frozen BK2001.out 0; have hfz16_1 := blk_frozen BK2001.out 1; have hfz16_2 := blk_frozen BK2001.out 2; have hfz16_3 := blk_frozen BK2001.out 3; have hfz16_4 := blk_frozen BK2001.out 4; have hfz16_5 := blk_frozen BK2001.out 5; obtain ⟨Ao17, co17, eo17⟩ := Kd.R_slice HO1992.out; subst eo17; obtain ⟨Ao18, co18, eo18⟩ := Kd.R_slice HO1997.out; subst eo18; obtain ⟨Ao19, co19, eo19⟩ := Kd.R_slice HO2000.out; subst eo19) | ((with_reducible refine gate_callee (f := 20) rfl ?_); refine gL (some 17) Tryz.func20 #[.agg #[.slice Ao15 t1986.length co15, .int .i64 t1989, .slice Ao17 t1990.length co17, .int .i64 t1993, .int .i64 t1994, .slice Ao18 t1995.length co18], .slice Ao19 t1998.length co19] ?_; (with_reducible refine (impl_RunActs.calls k _ _ t1986 t1989 _ _ t1990 t1993 t1994 _ _ t1995 _ _ t1998 t2002 t2005 t2006 t2009 t2010 t2011 t2014 _ ?side1 ?side2 ?side3 ?side4 ?side5 ?side6 ?side7 ?side8 A5.out).mono ?_); (case side1 => refine (Kd.R_reads' (e := 112) (base := w.heap.size) (ok := fun k_ => True) (n := t1986.length) (c := co15) ?_).2.2; exact (by (with_reducible repeat (first | apply Kd.R_alloc | apply Kd.R_drewN | apply Kd.R_drew)); exact (Kd.R_mono (Kd.R_far (p := ⟨gb2001, 5, none⟩) (Kd.R_far (p := ⟨gb2001, 4, none⟩) (Kd.R_far (p := ⟨gb2001, 3, none⟩) (Kd.R_far (p := ⟨gb2001, 2, none⟩) (Kd.R_far (p := ⟨gb2001, 1, none⟩) (Kd.R_far (p := ⟨gb2001, 0, none⟩) (Kd.R_types HO1988.out BK2001.out (by decide)) (fun _ hk => hk.2) (.slice Ao15 t1986.length co15)) (fun _ hk => hk.2) (.int .i64 t1989)) (fun _ hk => hk.2) (.slice Ao17 t1990.length co17)) (fun _ hk => hk.2) (.int .i64 t1993)) (fun _ hk => hk.2) (.int .i64 t1994)) (fun _ hk => hk.2) (.slice Ao18 t1995.length co18)) (fun _ h_ => h_.1)))); (case side2 => exact (Kd.R_reads' HO1988.out).2.1); (case side3 => refine (Kd.R_reads' (e := 3) (base := w.heap.size) (ok := fun k_ => True) (n := t1990.length) (c := co17) ?_).2.2; exact (by (with_reducible repeat (first | apply Kd.R_alloc | apply Kd.R_drewN | apply Kd.R_drew)); exact (Kd.R_mono (Kd.R_far (p := ⟨gb2001, 5, none⟩) (Kd.R_far (p := ⟨gb2001, 4, none⟩) (Kd.R_far (p := ⟨gb2001, 3, none⟩) (Kd.R_far (p := ⟨gb2001, 2, none⟩) (Kd.R_far (p := ⟨gb2001, 1, none⟩) (Kd.R_far (p := ⟨gb2001, 0, none⟩) (Kd.R_types HO1992.out BK2001.out (by decide)) (fun _ hk => hk.2) (.slice Ao15 t1986.length co15)) (fun _ hk => hk.2) (.int .i64 t1989)) (fun _ hk => hk.2) (.slice Ao17 t1990.length co17)) (fun _ hk => hk.2) (.int .i64 t1993)) (fun _ hk => hk.2) (.int .i64 t1994)) (fun _ hk => hk.2) (.slice Ao18 t1995.length co18)) (fun _ h_ => h_.1)))); (case side4 => exact (Kd.R_reads' HO1992.out).2.1); (case side5 => refine (Kd.R_reads' (e := 104) (base := w.heap.size) (ok := fun k_ => True) (n := t1995.length) (c := co18) ?_).2.2; exact (by (with_reducible repeat (first | apply Kd.R_alloc | apply Kd.R_drewN | apply Kd.R_drew)); exact (Kd.R_mono (Kd.R_far (p := ⟨gb2001, 5, none⟩) (Kd.R_far (p := ⟨gb2001, 4, none⟩) (Kd.R_far (p := ⟨gb2001, 3, none⟩) (Kd.R_far (p := ⟨gb2001, 2, none⟩) (Kd.R_far (p := ⟨gb2001, 1, none⟩) (Kd.R_far (p := ⟨gb2001, 0, none⟩) (Kd.R_types HO1997.out BK2001.out (by decide)) (fun _ hk => hk.2) (.slice Ao15 t1986.length co15)) (fun _ hk => hk.2) (.int .i64 t1989)) (fun _ hk => hk.2) (.slice Ao17 t1990.length co17)) (fun _ hk => hk.2) (.int .i64 t1993)) (fun _ hk => hk.2) (.int .i64 t1994)) (fun _ hk => hk.2) (.slice Ao18 t1995.length co18)) (fun _ h_ => h_.1)))); (case side6 => exact (Kd.R_reads' HO1997.out).2.1); (case side7 => refine (Kd.R_reads' (e := 41) (base := w.heap.size) (ok := fun k_ => True) (n := t1998.length) (c := co19) ?_).2.2; exact (by (with_reducible repeat (first | apply Kd.R_alloc | apply Kd.R_drewN | apply Kd.R_drew)); exact (Kd.R_mono (Kd.R_far (p := ⟨gb2001, 5, none⟩) (Kd.R_far (p := ⟨gb2001, 4, none⟩) (Kd.R_far (p := ⟨gb2001, 3, none⟩) (Kd.R_far (p := ⟨gb2001, 2, none⟩) (Kd.R_far (p := ⟨gb2001, 1, none⟩) (Kd.R_far (p := ⟨gb2001, 0, none⟩) (Kd.R_types HO2000.out BK2001.out (by decide)) (fun _ hk => hk.2) (.slice Ao15 t1986.length co15)) (fun _ hk => hk.2) (.int .i64 t1989)) (fun _ hk => hk.2) (.slice Ao17 t1990.length co17)) (fun _ hk => hk.2) (.int .i64 t1993)) (fun _ hk => hk.2) (.int .i64 t1994)) (fun _ hk => hk.2) (.slice Ao18 t1995.length co18)) (fun _ h_ => h_.1)))); (case side8 => exact (Kd.R_reads' HO2000.out).2.1); rintro e w20 ⟨v2003, v2007, v2012, v2015, rfl, ho0, ho1, ho2, ho3, hb⟩; refine ⟨_, rfl, ?_⟩; have n0_ := A_ (Kd.R_elder' (by (with_reducible repeat (first | apply Kd.R_alloc | apply Kd.R_drewN | apply Kd.R_drew)); exact (Kd.R_mono (Kd.R_far (p := ⟨gb2001, 5, none⟩) (Kd.R_far (p := ⟨gb2001, 4, none⟩) (Kd.R_far (p := ⟨gb2001, 3, none⟩) (Kd.R_far (p := ⟨gb2001, 2, none⟩) (Kd.R_far (p := ⟨gb2001, 1, none⟩) (Kd.R_far (p := ⟨gb2001, 0, none⟩) (Kd.R_types HO1988.out BK2001.out (by decide)) (fun _ hk => hk.2) (.slice Ao15 t1986.length co15)) (fun _ hk => hk.2) (.int .i64 t1989)) (fun _ hk => hk.2) (.slice Ao17 t1990.length co17)) (fun _ hk => hk.2) (.int .i64 t1993)) (fun _ hk => hk.2) (.int .i64 t1994)) (fun _ hk => hk.2) (.slice Ao18 t1995.length co18)) (fun _ h_ => h_.1))) (Kd.R_base ho0) hb); have n1_ := A_ (Kd.R_mono (Kd.R_told (Kd.R_told (Kd.R_old (by (with_reducible repeat (first | apply Kd.R_alloc | apply Kd.R_drewN | apply Kd.R_drew)); exact (Kd.R_mono (Kd.R_far (p := ⟨gb2001, 5, none⟩) (Kd.R_far (p := ⟨gb2001, 4, none⟩) (Kd.R_far (p := ⟨gb2001, 3, none⟩) (Kd.R_far (p := ⟨gb2001, 2, none⟩) (Kd.R_far (p := ⟨gb2001, 1, none⟩) (Kd.R_far (p := ⟨gb2001, 0, none⟩) (Kd.R_types HO1992.out BK2001.out (by decide)) (fun _ hk => hk.2) (.slice Ao15 t1986.length co15)) (fun _ hk => hk.2) (.int .i64 t1989)) (fun _ hk => hk.2) (.slice Ao17 t1990.length co17)) (fun _ hk => hk.2) (.int .i64 t1993)) (fun _ hk => hk.2) (.int .i64 t1994)) (fun _ hk => hk.2) (.slice Ao18 t1995.length co18)) (fun _ h_ => h_.1))) hb) (Kd.R_base ho1)) (Kd.R_base ho3)) (fun _ h_ => h_.1)); have n2_ := A_ (Kd.R_elder' (by (with_reducible repeat (first | apply Kd.R_alloc | apply Kd.R_drewN | apply Kd.R_drew)); exact (Kd.R_mono (Kd.R_far (p := ⟨gb2001, 5, none⟩) (Kd.R_far (p := ⟨gb2001, 4, none⟩) (Kd.R_far (p := ⟨gb2001, 3, none⟩) (Kd.R_far (p := ⟨gb2001, 2, none⟩) (Kd.R_far (p := ⟨gb2001, 1, none⟩) (Kd.R_far (p := ⟨gb2001, 0, none⟩) (Kd.R_types HO1997.out BK2001.out (by decide)) (fun _ hk => hk.2) (.slice Ao15 t1986.length co15)) (fun _ hk => hk.2) (.int .i64 t1989)) (fun _ hk => hk.2) (.slice Ao17 t1990.length co17)) (fun _ hk => hk.2) (.int .i64 t1993)) (fun _ hk => hk.2) (.int .i64 t1994)) (fun _ hk => hk.2) (.slice Ao18 t1995.length co18)) (fun _ h_ => h_.1))) (Kd.R_base ho2) hb); have n3_ := A_ (Kd.R_below (by (with_reducible repeat (first | apply Kd.R_alloc | apply Kd.R_drewN | apply Kd.R_drew)); exact (Kd.R_mono (Kd.R_far (p := ⟨gb2001, 5, none⟩) (Kd.R_far (p := ⟨gb2001, 4, none⟩) (Kd.R_far (p := ⟨gb2001, 3, none⟩) (Kd.R_far (p := ⟨gb2001, 2, none⟩) (Kd.R_far (p := ⟨gb2001, 1, none⟩) (Kd.R_far (p := ⟨gb2001, 0, none⟩) (Kd.R_types HO2000.out BK2001.out (by decide)) (fun _ hk => hk.2) (.slice Ao15 t1986.length co15)) (fun _ hk => hk.2) (.int .i64 t1989)) (fun _ hk => hk.2) (.slice Ao17 t1990.length co17)) (fun _ hk => hk.2) (.int .i64 t1993)) (fun _ hk => hk.2) (.int .i64 t1994)) (fun _ hk => hk.2) (.slice Ao18 t1995.length co18)) (fun _ h_ => h_.1))) hb); have n4_ := A_ (Kd.R_lower (Kd.R_new' ho0 (Kd.R_lt (by (with_reducible repeat (first | apply Kd.R_alloc | apply Kd.R_drewN | apply Kd.R_drew)); exact (Kd.R_mono (Kd.R_far (p := ⟨gb2001, 5, none⟩) (Kd.R_far (p := ⟨gb2001, 4, none⟩) (Kd.R_far (p := ⟨gb2001, 3, none⟩) (Kd.R_far (p := ⟨gb2001, 2, none⟩) (Kd.R_far (p := ⟨gb2001, 1, none⟩) (Kd.R_far (p := ⟨gb2001, 0, none⟩) (Kd.R_types HO1988.out BK2001.out (by decide)) (fun _ hk => hk.2) (.slice Ao15 t1986.length co15)) (fun _ hk => hk.2) (.int .i64 t1989)) (fun _ hk => hk.2) (.slice Ao17 t1990.length co17)) (fun _ hk => hk.2) (.int .i64 t1993)) (fun _ hk => hk.2) (.int .i64 t1994)) (fun _ hk => hk.2) (.slice Ao18 t1995.length co18)) (fun _ h_ => h_.1))))) (below_size (oB HB))); have n5_ := A_ (Kd.R_lower (Kd.R_new' ho1 (Kd.R_lt (by (with_reducible repeat (first | apply Kd.R_alloc | apply Kd.R_drewN | apply Kd.R_drew)); exact (Kd.R_mono (Kd.R_far (p := ⟨gb2001, 5, none⟩) (Kd.R_far (p := ⟨gb2001, 4, none⟩) (Kd.R_far (p := ⟨gb2001, 3, none⟩) (Kd.R_far (p := ⟨gb2001, 2, none⟩) (Kd.R_far (p := ⟨gb2001, 1, none⟩) (Kd.R_far (p := ⟨gb2001, 0, none⟩) (Kd.R_types HO1992.out BK2001.out (by decide)) (fun _ hk => hk.2) (.slice Ao15 t1986.length co15)) (fun _ hk => hk.2) (.int .i64 t1989)) (fun _ hk => hk.2) (.slice Ao17 t1990.length co17)) (fun _ hk => hk.2) (.int .i64 t1993)) (fun _ hk => hk.2) (.int .i64 t1994)) (fun _ hk => hk.2) (.slice Ao18 t1995.length co18)) (fun _ h_ => h_.1))))) (below_size (oB HB))); have n6_ := A_ (Kd.R_lower (Kd.R_new' ho2 (Kd.R_lt (by (with_reducible repeat (first | apply Kd.R_alloc | apply Kd.R_drewN | apply Kd.R_drew)); exact (Kd.R_mono (Kd.R_far (p := ⟨gb2001, 5, none⟩) (Kd.R_far (p := ⟨gb2001, 4, none⟩) (Kd.R_far (p := ⟨gb2001, 3, none⟩) (Kd.R_far (p := ⟨gb2001, 2, none⟩) (Kd.R_far (p := ⟨gb2001, 1, none⟩) (Kd.R_far (p := ⟨gb2001, 0, none⟩) (Kd.R_types HO1997.out BK2001.out (by decide)) (fun _ hk => hk.2) (.slice Ao15 t1986.length co15)) (fun _ hk => hk.2) (.int .i64 t1989)) (fun _ hk => hk.2) (.slice Ao17 t1990.length co17)) (fun _ hk => hk.2) (.int .i64 t1993)) (fun _ hk => hk.2) (.int .i64 t1994)) (fun _ hk => hk.2) (.slice Ao18 t1995.length co18)) (fun _ h_ => h_.1))))) (below_size (oB HB))); have n7_ := A_ (Kd.R_lower (Kd.R_new' ho3 (Kd.R_lt (by (with_reducible repeat (first | apply Kd.R_alloc | apply Kd.R_drewN | apply Kd.R_drew)); exact (Kd.R_mono (Kd.R_far (p := ⟨gb2001, 5, none⟩) (Kd.R_far (p := ⟨gb2001, 4, none⟩) (Kd.R_far (p := ⟨gb2001, 3, none⟩) (Kd.R_far (p := ⟨gb2001, 2, none⟩) (Kd.R_far (p := ⟨gb2001, 1, none⟩) (Kd.R_far (p := ⟨gb2001, 0, none⟩) (Kd.R_types HO1992.out BK2001.out (by decide)) (fun _ hk => hk.2) (.slice Ao15 t1986.length co15)) (fun _ hk => hk.2) (.int .i64 t1989)) (fun _ hk => hk.2) (.slice Ao17 t1990.length co17)) (fun _ hk => hk.2) (.int .i64 t1993)) (fun _ hk => hk.2) (.int .i64 t1994)) (fun _ hk => hk.2) (.slice Ao18 t1995.length co18)) (fun _ h_ => h_.1))))) (below_size (oB HB))); have n8_ := A_ (blk_below (g := gb2001) (o := .cells #[.slice Ao15 t1986.length co15, .int .i64 t1989, .slice Ao17 t1990.length co17, .int .i64 t1993, .int .i64 t1994, .slice Ao18 t1995.length co18] 37 (0, 0)) (by (with_reducible repeat (first | refine blk_drewN ?_ _ | refine blk_drew ?_ | refine blk_alloc ?_ _)); refine blk_put (cs := #[.slice Ao15 t1986.length co15, .int .i64 t1989, .slice Ao17 t1990.length co17, .int .i64 t1993, .int .i64 t1994, .slice none 0 0]) ?_ 5 _ rfl; (with_reducible repeat (first | refine blk_drewN ?_ _ | refine blk_drew ?_ | refine blk_alloc ?_ _)); refine blk_put (cs := #[.slice Ao15 t1986.length co15, .int .i64 t1989, .slice Ao17 t1990.length co17, .int .i64 t1993, .int .i64 0, .slice none 0 0]) ?_ 4 _ rfl; (with_reducible repeat (first | refine blk_drewN ?_ _ | refine blk_drew ?_ | refine blk_alloc ?_ _)); refine blk_put (cs := #[.slice Ao15 t1986.length co15, .int .i64 t1989, .slice Ao17 t1990.length co17, .int .i64 0, .int .i64 0, .slice none 0 0]) ?_ 3 _ rfl; (with_reducible repeat (first | refine blk_drewN ?_ _ | refine blk_drew ?_ | refine blk_alloc ?_ _)); refine blk_put (cs := #[.slice Ao15 t1986.length co15, .int .i64 t1989, .slice none 0 0, .int .i64 0, .int .i64 0, .slice none 0 0]) ?_ 2 _ rfl; (with_reducible repeat (first | refine blk_drewN ?_ _ | refine blk_drew ?_ | refine blk_alloc ?_ _)); refine blk_put (cs := #[.slice Ao15 t1986.length co15, .int .i64 0, .slice none 0 0, .int .i64 0, .int .i64 0, .slice none 0 0]) ?_ 1 _ rfl; (with_reducible repeat (first | refine blk_drewN ?_ _ | refine blk_drew ?_ | refine blk_alloc ?_ _)); refine blk_put (cs := #[.slice none 0 0, .int .i64 0, .slice none 0 0, .int .i64 0, .int .i64 0, .slice none 0 0]) ?_ 0 _ rfl; (with_reducible repeat (first | refine blk_drewN ?_ _ | refine blk_drew ?_ | refine blk_alloc ?_ _)); exact BK2001.out) hb); have n9_ := A_ (below_step (oB HB) hb); clear HO1988; clear HO1992; clear HO1997; clear HO2000; clear BK2001; clear HB; have HO1988 := n0_; have HO1992 := n1_; have HO1997 := n2_; have HO2000 := n3_; have HO2004 := n4_; have HO2008 := n5_; have HO2013 := n6_; have HO2016 := n7_; have BK2001 := n8_; have HB := n9_; clear n0_ n1_ n2_ n3_ n4_ n5_ n6_ n7_ n8_ n9_; (try clear hb); (try clear hb2); (try clear hk); (try clear hi); (try clear ho0); (try clear ho1); (try clear ho2); (try clear ho3)) | ((with_reducible refine gate_dst (N := 5) rfl ?_); (try (refine gate_guard (by rfl) ?_; dsimp only)); refine bX (N := 5) (cs := #[.slice none 0 0, .int .i64 0, .slice none 0 0, .int .i64 0, .int .i64 0, .slice none 0 0]) (t := 37) ?_; intro gb2017 hg w21 hbox hb; have n0_ := A_ (Kd.R_below (oR HO1988) hb); have n1_ := A_ (Kd.R_below (oR HO1992) hb); have n2_ := A_ (Kd.R_below (oR HO1997) hb); have n3_ := A_ (Kd.R_below (oR HO2000) hb); have n4_ := A_ (Kd.R_below (oR HO2004) hb); have n5_ := A_ (Kd.R_below (oR HO2008) hb); have n6_ := A_ (Kd.R_below (oR HO2013) hb); have n7_ := A_ (Kd.R_below (oR HO2016) hb); have n8_ := A_ (bb BK2001 hb); have n9_ := A_ (below_step (oB HB) hb); have n10_ := A_ (hbox); have n11_ := A_ ((by rw [hg]; exact (below_size (oB HB)) : w.heap.size ≤ gb2017)); have n12_ := A_ ((by rw [hg]; exact (below_size (oB HB)) : w.heap.size ≤ gb2017)); have n13_ := A_ (nL BK2001 hg); have n14_ := A_ (nG BK2001 hg); clear HO1988; clear HO1992; clear HO1997; clear HO2000; clear HO2004; clear HO2008; clear HO2013; clear HO2016; clear BK2001; clear HB; have HO1988 := n0_; have HO1992 := n1_; have HO1997 := n2_; have HO2000 := n3_; have HO2004 := n4_; have HO2008 := n5_; have HO2013 := n6_; have HO2016 := n7_; have BK2001 := n8_; have HB := n9_; have BK2017 := n10_; have GW2017 := n11_; have GE2017 := n12_; have NB2001_2017 := n13_; have NB2017_2001 := n14_; clear n0_ n1_ n2_ n3_ n4_ n5_ n6_ n7_ n8_ n9_ n10_ n11_ n12_ n13_ n14_; clear hb hbox hg; obtain ⟨Ao22, co22, eo22⟩ := Kd.R_slice HO2004.out; subst eo22; have hnb23 := NB2017_2001.out; have hnc23 := NB2001_2017.out; have hcz24_0 := cz BK2017 0; have hcz24_1 := cz BK2017 1; have hcz24_2 := cz BK2017 2; have hcz24_3 := cz BK2017 3; have hcz24_4 := cz BK2017 4; have hcz24_5 := cz BK2017 5; have hfz24_0 := blk_frozen BK2017.out 0; have hfz24_1 := blk_frozen BK2017.out 1; have hfz24_2 := blk_frozen BK2017.out 2; have hfz24_3 := blk_frozen BK2017.out 3; have hfz24_4 := blk_frozen BK2017.out 4; have hfz24_5 := blk_frozen BK2017.out 5; obtain ⟨Ao25, co25, eo25⟩ := Kd.R_slice HO2008.out; subst eo25; obtain ⟨Ao26, co26, eo26⟩ := Kd.R_slice HO2013.out; subst eo26; have hcz27_0 := cz BK2001 0; have hcz27_1 := cz BK2001 1; have hcz27_2 := cz BK2001 2; have hcz27_3 := cz BK2001 3; have hcz27_4 := cz BK2001 4; have hcz27_5 := cz BK2001 5; have hfz27_0 := blk_frozen BK2001.out 0; have hfz27_1 := blk_frozen BK2001.out 1; have hfz27_2 := blk_frozen BK2001.out 2; have hfz27_3 := blk_frozen BK2001.out 3; have hfz27_4 := blk_frozen BK2001.out 4; have hfz27_5 := blk_frozen BK2001.out 5) | ((with_reducible refine gate_callee (f := 32) rfl ?_); refine gL (some 21) Tryz.func32 #[.agg #[.slice Ao15 t1986.length co15, .int .i64 t1989, .slice Ao17 t1990.length co17, .int .i64 t1993, .int .i64 t1994, .slice Ao18 t1995.length co18]] ?_; (with_reducible refine (impl_ShopOk.calls k _ _ t1986 t1989 _ _ t1990 t1993 t1994 _ _ t1995 true _ ?side1 ?side2 ?side3 ?side4 ?side5 ?side6 A6.out).mono ?_); (case side1 => refine (Kd.R_reads' (e := 112) (base := w.heap.size) (ok := fun k_ => (True ∧ some k_ ≠ (.slice Ao22 t2002.length co22 : Value).ownBlock)) (n := t1986.length) (c := co15) ?_).2.2; exact (by (with_reducible repeat (first | apply Kd.R_alloc | apply Kd.R_drewN | apply Kd.R_drew)); exact (Kd.R_mono (Kd.R_far (p := ⟨gb2017, 5, none⟩) (Kd.R_far (p := ⟨gb2017, 4, none⟩) (Kd.R_far (p := ⟨gb2017, 3, none⟩) (Kd.R_far (p := ⟨gb2017, 2, none⟩) (Kd.R_far (p := ⟨gb2017, 1, none⟩) (Kd.R_far (p := ⟨gb2017, 0, none⟩) (Kd.R_types HO1988.out BK2017.out (by decide)) (fun _ hk => hk.2) (.slice Ao22 t2002.length co22)) (fun _ hk => hk.2) (.int .i64 t2005)) (fun _ hk => hk.2) (.slice Ao25 t2006.length co25)) (fun _ hk => hk.2) (.int .i64 t2009)) (fun _ hk => hk.2) (.int .i64 t2010)) (fun _ hk => hk.2) (.slice Ao26 t2011.length co26)) (fun _ h_ => h_.1)))); (case side2 => exact (Kd.R_reads' HO1988.out).2.1); (case side3 => refine (Kd.R_reads' (e := 3) (base := w.heap.size) (ok := fun k_ => ((True ∧ some k_ ≠ (.slice Ao25 t2006.length co25 : Value).ownBlock) ∧ some k_ ≠ (v2015 : Value).ownBlock)) (n := t1990.length) (c := co17) ?_).2.2; exact (by (with_reducible repeat (first | apply Kd.R_alloc | apply Kd.R_drewN | apply Kd.R_drew)); exact (Kd.R_mono (Kd.R_far (p := ⟨gb2017, 5, none⟩) (Kd.R_far (p := ⟨gb2017, 4, none⟩) (Kd.R_far (p := ⟨gb2017, 3, none⟩) (Kd.R_far (p := ⟨gb2017, 2, none⟩) (Kd.R_far (p := ⟨gb2017, 1, none⟩) (Kd.R_far (p := ⟨gb2017, 0, none⟩) (Kd.R_types HO1992.out BK2017.out (by decide)) (fun _ hk => hk.2) (.slice Ao22 t2002.length co22)) (fun _ hk => hk.2) (.int .i64 t2005)) (fun _ hk => hk.2) (.slice Ao25 t2006.length co25)) (fun _ hk => hk.2) (.int .i64 t2009)) (fun _ hk => hk.2) (.int .i64 t2010)) (fun _ hk => hk.2) (.slice Ao26 t2011.length co26)) (fun _ h_ => h_.1)))); (case side4 => exact (Kd.R_reads' HO1992.out).2.1); (case side5 => refine (Kd.R_reads' (e := 104) (base := w.heap.size) (ok := fun k_ => (True ∧ some k_ ≠ (.slice Ao26 t2011.length co26 : Value).ownBlock)) (n := t1995.length) (c := co18) ?_).2.2; exact (by (with_reducible repeat (first | apply Kd.R_alloc | apply Kd.R_drewN | apply Kd.R_drew)); exact (Kd.R_mono (Kd.R_far (p := ⟨gb2017, 5, none⟩) (Kd.R_far (p := ⟨gb2017, 4, none⟩) (Kd.R_far (p := ⟨gb2017, 3, none⟩) (Kd.R_far (p := ⟨gb2017, 2, none⟩) (Kd.R_far (p := ⟨gb2017, 1, none⟩) (Kd.R_far (p := ⟨gb2017, 0, none⟩) (Kd.R_types HO1997.out BK2017.out (by decide)) (fun _ hk => hk.2) (.slice Ao22 t2002.length co22)) (fun _ hk => hk.2) (.int .i64 t2005)) (fun _ hk => hk.2) (.slice Ao25 t2006.length co25)) (fun _ hk => hk.2) (.int .i64 t2009)) (fun _ hk => hk.2) (.int .i64 t2010)) (fun _ hk => hk.2) (.slice Ao26 t2011.length co26)) (fun _ h_ => h_.1)))); (case side6 => exact (Kd.R_reads' HO1997.out).2.1); rintro e w28 ⟨rfl, hb⟩; refine ⟨_, rfl, ?_⟩; have n0_ := A_ (Kd.R_below (by (with_reducible repeat (first | apply Kd.R_alloc | apply Kd.R_drewN | apply Kd.R_drew)); exact (Kd.R_mono (Kd.R_far (p := ⟨gb2017, 5, none⟩) (Kd.R_far (p := ⟨gb2017, 4, none⟩) (Kd.R_far (p := ⟨gb2017, 3, none⟩) (Kd.R_far (p := ⟨gb2017, 2, none⟩) (Kd.R_far (p := ⟨gb2017, 1, none⟩) (Kd.R_far (p := ⟨gb2017, 0, none⟩) (Kd.R_types HO1988.out BK2017.out (by decide)) (fun _ hk => hk.2) (.slice Ao22 t2002.length co22)) (fun _ hk => hk.2) (.int .i64 t2005)) (fun _ hk => hk.2) (.slice Ao25 t2006.length co25)) (fun _ hk => hk.2) (.int .i64 t2009)) (fun _ hk => hk.2) (.int .i64 t2010)) (fun _ hk => hk.2) (.slice Ao26 t2011.length co26)) (fun _ h_ => h_.1))) hb); have n1_ := A_ (Kd.R_below (by (with_reducible repeat (first | apply Kd.R_alloc | apply Kd.R_drewN | apply Kd.R_drew)); exact (Kd.R_mono (Kd.R_far (p := ⟨gb2017, 5, none⟩) (Kd.R_far (p := ⟨gb2017, 4, none⟩) (Kd.R_far (p := ⟨gb2017, 3, none⟩) (Kd.R_far (p := ⟨gb2017, 2, none⟩) (Kd.R_far (p := ⟨gb2017, 1, none⟩) (Kd.R_far (p := ⟨gb2017, 0, none⟩) (Kd.R_types HO1992.out BK2017.out (by decide)) (fun _ hk => hk.2) (.slice Ao22 t2002.length co22)) (fun _ hk => hk.2) (.int .i64 t2005)) (fun _ hk => hk.2) (.slice Ao25 t2006.length co25)) (fun _ hk => hk.2) (.int .i64 t2009)) (fun _ hk => hk.2) (.int .i64 t2010)) (fun _ hk => hk.2) (.slice Ao26 t2011.length co26)) (fun _ h_ => h_.1))) hb); have n2_ := A_ (Kd.R_below (by (with_reducible repeat (first | apply Kd.R_alloc | apply Kd.R_drewN | apply Kd.R_drew)); exact (Kd.R_mono (Kd.R_far (p := ⟨gb2017, 5, none⟩) (Kd.R_far (p := ⟨gb2017, 4, none⟩) (Kd.R_far (p := ⟨gb2017, 3, none⟩) (Kd.R_far (p := ⟨gb2017, 2, none⟩) (Kd.R_far (p := ⟨gb2017, 1, none⟩) (Kd.R_far (p := ⟨gb2017, 0, none⟩) (Kd.R_types HO1997.out BK2017.out (by decide)) (fun _ hk => hk.2) (.slice Ao22 t2002.length co22)) (fun _ hk => hk.2) (.int .i64 t2005)) (fun _ hk => hk.2) (.slice Ao25 t2006.length co25)) (fun _ hk => hk.2) (.int .i64 t2009)) (fun _ hk => hk.2) (.int .i64 t2010)) (fun _ hk => hk.2) (.slice Ao26 t2011.length co26)) (fun _ h_ => h_.1))) hb); have n3_ := A_ (Kd.R_below (by (with_reducible repeat (first | apply Kd.R_alloc | apply Kd.R_drewN | apply Kd.R_drew)); exact (Kd.R_mono (Kd.R_far (p := ⟨gb2017, 5, none⟩) (Kd.R_far (p := ⟨gb2017, 4, none⟩) (Kd.R_far (p := ⟨gb2017, 3, none⟩) (Kd.R_far (p := ⟨gb2017, 2, none⟩) (Kd.R_far (p := ⟨gb2017, 1, none⟩) (Kd.R_far (p := ⟨gb2017, 0, none⟩) (Kd.R_types HO2000.out BK2017.out (by decide)) (fun _ hk => hk.2) (.slice Ao22 t2002.length co22)) (fun _ hk => hk.2) (.int .i64 t2005)) (fun _ hk => hk.2) (.slice Ao25 t2006.length co25)) (fun _ hk => hk.2) (.int .i64 t2009)) (fun _ hk => hk.2) (.int .i64 t2010)) (fun _ hk => hk.2) (.slice Ao26 t2011.length co26)) (fun _ h_ => h_.1))) hb); have n4_ := A_ (Kd.R_below (by (with_reducible repeat (first | apply Kd.R_alloc | apply Kd.R_drewN | apply Kd.R_drew)); exact (Kd.R_mono (Kd.R_far (p := ⟨gb2017, 5, none⟩) (Kd.R_far (p := ⟨gb2017, 4, none⟩) (Kd.R_far (p := ⟨gb2017, 3, none⟩) (Kd.R_far (p := ⟨gb2017, 2, none⟩) (Kd.R_far (p := ⟨gb2017, 1, none⟩) (Kd.R_far (p := ⟨gb2017, 0, none⟩) (Kd.R_types HO2004.out BK2017.out (by decide)) (fun _ hk => hk.2) (.slice Ao22 t2002.length co22)) (fun _ hk => hk.2) (.int .i64 t2005)) (fun _ hk => hk.2) (.slice Ao25 t2006.length co25)) (fun _ hk => hk.2) (.int .i64 t2009)) (fun _ hk => hk.2) (.int .i64 t2010)) (fun _ hk => hk.2) (.slice Ao26 t2011.length co26)) (fun _ h_ => h_.1))) hb); have n5_ := A_ (Kd.R_below (by (with_reducible repeat (first | apply Kd.R_alloc | apply Kd.R_drewN | apply Kd.R_drew)); exact (Kd.R_mono (Kd.R_far (p := ⟨gb2017, 5, none⟩) (Kd.R_far (p := ⟨gb2017, 4, none⟩) (Kd.R_far (p := ⟨gb2017, 3, none⟩) (Kd.R_far (p := ⟨gb2017, 2, none⟩) (Kd.R_far (p := ⟨gb2017, 1, none⟩) (Kd.R_far (p := ⟨gb2017, 0, none⟩) (Kd.R_types HO2008.out BK2017.out (by decide)) (fun _ hk => hk.2) (.slice Ao22 t2002.length co22)) (fun _ hk => hk.2) (.int .i64 t2005)) (fun _ hk => hk.2) (.slice Ao25 t2006.length co25)) (fun _ hk => hk.2) (.int .i64 t2009)) (fun _ hk => hk.2) (.int .i64 t2010)) (fun _ hk => hk.2) (.slice Ao26 t2011.length co26)) (fun _ h_ => h_.1))) hb); have n6_ := A_ (Kd.R_below (by (with_reducible repeat (first | apply Kd.R_alloc | apply Kd.R_drewN | apply Kd.R_drew)); exact (Kd.R_mono (Kd.R_far (p := ⟨gb2017, 5, none⟩) (Kd.R_far (p := ⟨gb2017, 4, none⟩) (Kd.R_far (p := ⟨gb2017, 3, none⟩) (Kd.R_far (p := ⟨gb2017, 2, none⟩) (Kd.R_far (p := ⟨gb2017, 1, none⟩) (Kd.R_far (p := ⟨gb2017, 0, none⟩) (Kd.R_types HO2013.out BK2017.out (by decide)) (fun _ hk => hk.2) (.slice Ao22 t2002.length co22)) (fun _ hk => hk.2) (.int .i64 t2005)) (fun _ hk => hk.2) (.slice Ao25 t2006.length co25)) (fun _ hk => hk.2) (.int .i64 t2009)) (fun _ hk => hk.2) (.int .i64 t2010)) (fun _ hk => hk.2) (.slice Ao26 t2011.length co26)) (fun _ h_ => h_.1))) hb); have n7_ := A_ (Kd.R_below (by (with_reducible repeat (first | apply Kd.R_alloc | apply Kd.R_drewN | apply Kd.R_drew)); exact (Kd.R_mono (Kd.R_far (p := ⟨gb2017, 5, none⟩) (Kd.R_far (p := ⟨gb2017, 4, none⟩) (Kd.R_far (p := ⟨gb2017, 3, none⟩) (Kd.R_far (p := ⟨gb2017, 2, none⟩) (Kd.R_far (p := ⟨gb2017, 1, none⟩) (Kd.R_far (p := ⟨gb2017, 0, none⟩) (Kd.R_types HO2016.out BK2017.out (by decide)) (fun _ hk => hk.2) (.slice Ao22 t2002.length co22)) (fun _ hk => hk.2) (.int .i64 t2005)) (fun _ hk => hk.2) (.slice Ao25 t2006.length co25)) (fun _ hk => hk.2) (.int .i64 t2009)) (fun _ hk => hk.2) (.int .i64 t2010)) (fun _ hk => hk.2) (.slice Ao26 t2011.length co26)) (fun _ h_ => h_.1))) hb); have n8_ := A_ (blk_below (g := gb2001) (o := .cells #[.slice Ao15 t1986.length co15, .int .i64 t1989, .slice Ao17 t1990.length co17, .int .i64 t1993, .int .i64 t1994, .slice Ao18 t1995.length co18] 37 (0, 0)) (by (with_reducible repeat (first | refine blk_drewN ?_ _ | refine blk_drew ?_ | refine blk_alloc ?_ _)); refine blk_far ?_ NB2001_2017.out _; (with_reducible repeat (first | refine blk_drewN ?_ _ | refine blk_drew ?_ | refine blk_alloc ?_ _)); refine blk_far ?_ NB2001_2017.out _; (with_reducible repeat (first | refine blk_drewN ?_ _ | refine blk_drew ?_ | refine blk_alloc ?_ _)); refine blk_far ?_ NB2001_2017.out _; (with_reducible repeat (first | refine blk_drewN ?_ _ | refine blk_drew ?_ | refine blk_alloc ?_ _)); refine blk_far ?_ NB2001_2017.out _; (with_reducible repeat (first | refine blk_drewN ?_ _ | refine blk_drew ?_ | refine blk_alloc ?_ _)); refine blk_far ?_ NB2001_2017.out _; (with_reducible repeat (first | refine blk_drewN ?_ _ | refine blk_drew ?_ | refine blk_alloc ?_ _)); refine blk_far ?_ NB2001_2017.out _; (with_reducible repeat (first | refine blk_drewN ?_ _ | refine blk_drew ?_ | refine blk_alloc ?_ _)); exact BK2001.out) hb); have n9_ := A_ (blk_below (g := gb2017) (o := .cells #[.slice Ao22 t2002.length co22, .int .i64 t2005, .slice Ao25 t2006.length co25, .int .i64 t2009, .int .i64 t2010, .slice Ao26 t2011.length co26] 37 (0, 0)) (by (with_reducible repeat (first | refine blk_drewN ?_ _ | refine blk_drew ?_ | refine blk_alloc ?_ _)); refine blk_put (cs := #[.slice Ao22 t2002.length co22, .int .i64 t2005, .slice Ao25 t2006.length co25, .int .i64 t2009, .int .i64 t2010, .slice none 0 0]) ?_ 5 _ rfl; (with_reducible repeat (first | refine blk_drewN ?_ _ | refine blk_drew ?_ | refine blk_alloc ?_ _)); refine blk_put (cs := #[.slice Ao22 t2002.length co22, .int .i64 t2005, .slice Ao25 t2006.length co25, .int .i64 t2009, .int .i64 0, .slice none 0 0]) ?_ 4 _ rfl; (with_reducible repeat (first | refine blk_drewN ?_ _ | refine blk_drew ?_ | refine blk_alloc ?_ _)); refine blk_put (cs := #[.slice Ao22 t2002.length co22, .int .i64 t2005, .slice Ao25 t2006.length co25, .int .i64 0, .int .i64 0, .slice none 0 0]) ?_ 3 _ rfl; (with_reducible repeat (first | refine blk_drewN ?_ _ | refine blk_drew ?_ | refine blk_alloc ?_ _)); refine blk_put (cs := #[.slice Ao22 t2002.length co22, .int .i64 t2005, .slice none 0 0, .int .i64 0, .int .i64 0, .slice none 0 0]) ?_ 2 _ rfl; (with_reducible repeat (first | refine blk_drewN ?_ _ | refine blk_drew ?_ | refine blk_alloc ?_ _)); refine blk_put (cs := #[.slice Ao22 t2002.length co22, .int .i64 0, .slice none 0 0, .int .i64 0, .int .i64 0, .slice none 0 0]) ?_ 1 _ rfl; (with_reducible repeat (first | refine blk_drewN ?_ _ | refine blk_drew ?_ | refine blk_alloc ?_ _)); refine blk_put (cs := #[.slice none 0 0, .int .i64 0, .slice none 0 0, .int .i64 0, .int .i64 0, .slice none 0 0]) ?_ 0 _ rfl; (with_reducible repeat (first | refine blk_drewN ?_ _ | refine blk_drew ?_ | refine blk_alloc ?_ _)); exact BK2017.out) hb); have n10_ := A_ (below_step (oB HB) hb); clear HO1988; clear HO1992; clear HO1997; clear HO2000; clear HO2004; clear HO2008; clear HO2013; clear HO2016; clear BK2001; clear BK2017; clear HB; have HO1988 := n0_; have HO1992 := n1_; have HO1997 := n2_; have HO2000 := n3_; have HO2004 := n4_; have HO2008 := n5_; have HO2013 := n6_; have HO2016 := n7_; have BK2001 := n8_; have BK2017 := n9_; have HB := n10_; clear n0_ n1_ n2_ n3_ n4_ n5_ n6_ n7_ n8_ n9_ n10_; (try clear hb); (try clear hb2); (try clear hk); (try clear hi); have hcz29_0 := cz BK2017 0; have hcz29_1 := cz BK2017 1; have hcz29_2 := cz BK2017 2; have hcz29_3 := cz BK2017 3; have hcz29_4 := cz BK2017 4; have hcz29_5 := cz BK2017 5; have hfz29_0 := blk_frozen BK2017.out 0; have hfz29_1 := blk_frozen BK2017.out 1; have hfz29_2 := blk_frozen BK2017.out 2; have hfz29_3 := blk_frozen BK2017.out 3; have hfz29_4 := blk_frozen BK2017.out 4; have hfz29_5 := blk_frozen BK2017.out 5) | (go_at_call 32; (with_reducible refine (impl_ShopOk.calls k _ _ t2002 t2005 _ _ t2006 t2009 t2010 _ _ t2011 true _ ?side1 ?side2 ?side3 ?side4 ?side5 ?side6 A8.out).mono ?_); (case side1 => repeat (first | exact (Kd.R_reads' HO2004.out).2.2 | (with_reducible refine Kd.C_alloc ?_ _) | (with_reducible refine Kd.C_drewN ?_ _) | (with_reducible refine Kd.C_drew ?_))); (case side2 => exact (Kd.R_reads' HO2004.out).2.1); (case side3 => repeat (first | exact (Kd.R_reads' HO2008.out).2.2 | (with_reducible refine Kd.C_alloc ?_ _) | (with_reducible refine Kd.C_drewN ?_ _) | (with_reducible refine Kd.C_drew ?_))); (case side4 => exact (Kd.R_reads' HO2008.out).2.1); (case side5 => repeat (first | exact (Kd.R_reads' HO2013.out).2.2 | (with_reducible refine Kd.C_alloc ?_ _) | (with_reducible refine Kd.C_drewN ?_ _) | (with_reducible refine Kd.C_drew ?_))); (case side6 => exact (Kd.R_reads' HO2013.out).2.1); rintro e w30 ⟨rfl, hb⟩; have n0_ := A_ (Kd.R_below (oR HO1988) hb); have n1_ := A_ (Kd.R_below (oR HO1992) hb); have n2_ := A_ (Kd.R_below (oR HO1997) hb); have n3_ := A_ (Kd.R_below (oR HO2000) hb); have n4_ := A_ (Kd.R_below (oR HO2004) hb); have n5_ := A_ (Kd.R_below (oR HO2008) hb); have n6_ := A_ (Kd.R_below (oR HO2013) hb); have n7_ := A_ (Kd.R_below (oR HO2016) hb); have n8_ := A_ (bb BK2001 hb); have n9_ := A_ (bb BK2017 hb); have n10_ := A_ (below_step (oB HB) hb); clear HO1988; clear HO1992; clear HO1997; clear HO2000; clear HO2004; clear HO2008; clear HO2013; clear HO2016; clear BK2001; clear BK2017; clear HB; have HO1988 := n0_; have HO1992 := n1_; have HO1997 := n2_; have HO2000 := n3_; have HO2004 := n4_; have HO2008 := n5_; have HO2013 := n6_; have HO2016 := n7_; have BK2001 := n8_; have BK2017 := n9_; have HB := n10_; clear n0_ n1_ n2_ n3_ n4_ n5_ n6_ n7_ n8_ n9_ n10_; (try clear hb); (try clear hb2); (try clear hk); (try clear hi); obtain ⟨Ao31, co31, eo31⟩ := Kd.R_slice HO2016.out; subst eo31) | (go_at_call 33; (with_reducible refine (impl_SampleShop.calls k  t2020 t2023 t2024 t2027 t2028 t2029 _ A11.out).mono ?_); rintro e w32 ⟨v2021, v2025, v2030, rfl, ho0, ho1, ho2, hb⟩; have n0_ := A_ (Kd.R_elder' (oR HO1988) (Kd.R_base ho0) hb); have n1_ := A_ (Kd.R_elder' (oR HO1992) (Kd.R_base ho1) hb); have n2_ := A_ (Kd.R_elder' (oR HO1997) (Kd.R_base ho2) hb); have n3_ := A_ (Kd.R_below (oR HO2000) hb); have n4_ := A_ (Kd.R_elder' (oR HO2004) (Kd.R_base ho0) hb); have n5_ := A_ (Kd.R_elder' (oR HO2008) (Kd.R_base ho1) hb); have n6_ := A_ (Kd.R_elder' (oR HO2013) (Kd.R_base ho2) hb); have n7_ := A_ (Kd.R_elder' (oR HO2016) (Kd.R_base ho1) hb); have n8_ := A_ (Kd.R_lower (Kd.R_new' (Kd.R_new' ho0 (Kd.R_lt (oR HO1988))) (Kd.R_lt (oR HO2004))) (below_size (oB HB))); have n9_ := A_ (Kd.R_lower (Kd.R_new' (Kd.R_new' (Kd.R_new' ho1 (Kd.R_lt (oR HO1992))) (Kd.R_lt (oR HO2008))) (Kd.R_lt (oR HO2016))) (below_size (oB HB))); have n10_ := A_ (Kd.R_lower (Kd.R_new' (Kd.R_new' ho2 (Kd.R_lt (oR HO1997))) (Kd.R_lt (oR HO2013))) (below_size (oB HB))); have n11_ := A_ (bb BK2001 hb); have n12_ := A_ (bb BK2017 hb); have n13_ := A_ (below_step (oB HB) hb); clear HO1988; clear HO1992; clear HO1997; clear HO2000; clear HO2004; clear HO2008; clear HO2013; clear HO2016; clear BK2001; clear BK2017; clear HB; have HO1988 := n0_; have HO1992 := n1_; have HO1997 := n2_; have HO2000 := n3_; have HO2004 := n4_; have HO2008 := n5_; have HO2013 := n6_; have HO2016 := n7_; have HO2022 := n8_; have HO2026 := n9_; have HO2031 := n10_; have BK2001 := n11_; have BK2017 := n12_; have HB := n13_; clear n0_ n1_ n2_ n3_ n4_ n5_ n6_ n7_ n8_ n9_ n10_ n11_ n12_ n13_; (try clear hb); (try clear hb2); (try clear hk); (try clear hi); (try clear ho0); (try clear ho1); (try clear ho2); obtain ⟨Ao33, co33, eo33⟩ := Kd.R_slice HO2022.out; subst eo33; obtain ⟨Ao34, co34, eo34⟩ := Kd.R_slice HO2026.out; subst eo34; obtain ⟨Ao35, co35, eo35⟩ := Kd.R_slice HO2031.out; subst eo35) | (go_at_call 32; (with_reducible refine (impl_ShopOk.calls k _ _ t2020 t2023 _ _ t2024 t2027 t2028 _ _ t2029 t2032 _ ?side1 ?side2 ?side3 ?side4 ?side5 ?side6 A12.out).mono ?_); (case side1 => repeat (first | exact (Kd.R_reads' HO2022.out).2.2 | (with_reducible refine Kd.C_alloc ?_ _) | (with_reducible refine Kd.C_drewN ?_ _) | (with_reducible refine Kd.C_drew ?_))); (case side2 => exact (Kd.R_reads' HO2022.out).2.1); (case side3 => repeat (first | exact (Kd.R_reads' HO2026.out).2.2 | (with_reducible refine Kd.C_alloc ?_ _) | (with_reducible refine Kd.C_drewN ?_ _) | (with_reducible refine Kd.C_drew ?_))); (case side4 => exact (Kd.R_reads' HO2026.out).2.1); (case side5 => repeat (first | exact (Kd.R_reads' HO2031.out).2.2 | (with_reducible refine Kd.C_alloc ?_ _) | (with_reducible refine Kd.C_drewN ?_ _) | (with_reducible refine Kd.C_drew ?_))); (case side6 => exact (Kd.R_reads' HO2031.out).2.1); rintro e w36 ⟨rfl, hb⟩; have n0_ := A_ (Kd.R_below (oR HO1988) hb); have n1_ := A_ (Kd.R_below (oR HO1992) hb); have n2_ := A_ (Kd.R_below (oR HO1997) hb); have n3_ := A_ (Kd.R_below (oR HO2000) hb); have n4_ := A_ (Kd.R_below (oR HO2004) hb); have n5_ := A_ (Kd.R_below (oR HO2008) hb); have n6_ := A_ (Kd.R_below (oR HO2013) hb); have n7_ := A_ (Kd.R_below (oR HO2016) hb); have n8_ := A_ (Kd.R_below (oR HO2022) hb); have n9_ := A_ (Kd.R_below (oR HO2026) hb); have n10_ := A_ (Kd.R_below (oR HO2031) hb); have n11_ := A_ (bb BK2001 hb); have n12_ := A_ (bb BK2017 hb); have n13_ := A_ (below_step (oB HB) hb); clear HO1988; clear HO1992; clear HO1997; clear HO2000; clear HO2004; clear HO2008; clear HO2013; clear HO2016; clear HO2022; clear HO2026; clear HO2031; clear BK2001; clear BK2017; clear HB; have HO1988 := n0_; have HO1992 := n1_; have HO1997 := n2_; have HO2000 := n3_; have HO2004 := n4_; have HO2008 := n5_; have HO2013 := n6_; have HO2016 := n7_; have HO2022 := n8_; have HO2026 := n9_; have HO2031 := n10_; have BK2001 := n11_; have BK2017 := n12_; have HB := n13_; clear n0_ n1_ n2_ n3_ n4_ n5_ n6_ n7_ n8_ n9_ n10_ n11_ n12_ n13_; (try clear hb); (try clear hb2); (try clear hk); (try clear hi)))
     go_ret
     exact ⟨eR, oB HB⟩
    ·rw [if_neg c10] at H
     have c10b0 : ((t2014.length : Int) == (t1998.length : Int)) = false := beq_eq_false_iff_ne.mpr c10
     have c10b1 : ((t2014.length : Int) != (t1998.length : Int)) = true := bne_iff_ne.mpr c10
     have c10b2 : (t2014.length == t1998.length) = false := by first | simpa using c10 | (simp at c10 ⊢; omega)
     exact absurd ((Option.some.inj H).trans hrt_.out) (by decide)
   ·replace c9 := Bool.eq_false_iff.mpr c9
    subst c9
    rw [if_neg (show ¬ (false = true) by decide)] at H
    exact absurd ((Option.some.inj H).trans hrt_.out) (by decide)
  ·replace c7 := Bool.eq_false_iff.mpr c7
   subst c7
   rw [if_neg (show ¬ (false = true) by decide)] at H
   exact absurd ((Option.some.inj H).trans hrt_.out) (by decide)
def laws_FnScenarios.Pure : Prop := ∀ (l0 : List Int), l0.length ≤ maxLen → l0.length * 1 ≤ 140737488351232 → (∀ x ∈ l0, (Lit.int .u8 x).wf = true) → ∃ k, laws_FnScenarios.f k l0 = some true
theorem laws_FnScenarios.walk (P : laws_FnScenarios.Pure) (a0 : Option Addr) (len0 cap0 : Nat) (z0 : List Int) (w : World) (w0 : (a0 = none ∧ len0 = 0 ∧ cap0 = 0 ∧ z0 = []) ∨ ∃ x, a0 = some x ∧ len0 ≤ cap0 ∧ cap0 ≤ maxLen ∧ z0.length = cap0 ∧ (∀ i, i < z0.length → w.cell? (x.add i) = some (.int .u8 (z0.getD i 0))) ∧ ∀ n ∈ z0, (Lit.int .u8 n).wf = true) (y0 : len0 * 1 ≤ 140737488351232) :
  Calls Tryz.prog 7 #[.slice a0 len0 cap0] w fun e w' => e = .returned (.bool true) ∧ Below w.heap.size w w' := by
 obtain ⟨l0, rfl, hr0, hm0, hw0, hc0⟩ := ReadsInt.ofRowC w0
 obtain ⟨k, h⟩ := P l0 hm0 y0 hw0
 refine (laws_FnScenarios.calls k _ _ l0 true w (Kd.C_of_reads (d := (0 : Int)) (h1 := fun _ => rfl) hr0) hc0 h ⟨rfl⟩).mono ?_
 rintro e w' ⟨rfl, hd⟩
 exact ⟨rfl, hd⟩
end Go.Proofs.YtanhnhkcpbdfmaaGreat.P
namespace Go.Proofs.YtanhnhkcpbdfmaaGreat.Q
open Go.RowKit Go.Proofs.YtanhnhkcpbdfmaaGreat.P Go.Proofs.YtanhnhkcpbdfmaaGreatW.PrintWords Go.Proofs.YtanhnhkcpbdfmaaGreatW.PrintMore
theorem isWarmth_eq (a : Int) : impl_isWarmth.f a = some (decide (-10 ≤ a ∧ a ≤ 40)) := by unfold impl_isWarmth.f; rw [within_eq]; rfl
theorem shopOk_impl (p : List S112) (d : Int) (q : List Int) (a m : Int) (l : List S104) (hl : l.length ≤ 1048577) : Ev (fun k => impl_ShopOk.f k p d q a m l) (shopOk p d q a m l) := Ev.now _
theorem shopOk_spec (p : List S112) (d : Int) (q : List Int) (a m : Int) (l : List S104) (hl : l.length ≤ 1048577) : Ev (fun k => spec_ShopOk.f k p d q a m l) (shopOk p d q a m l) := Ev.bind (workOk_spec p d q) (Ev.now _)
def shopWarm (p : List S112) (d : Int) (q : List Int) (a m : Int) (l : List S104) (x : Int) : List S112 × Int × List Int × Int × Int × List S104 × Bool :=
  if shopOk p d q a m l = true ∧ m ≠ 100000 ∧ (-10 ≤ x ∧ x ≤ 40) then (p, d, q, x, m + 1, l, true) else (p, d, q, a, m, l, false)
theorem lastOk_mono {l : List S104} {m n : Int} (h : lastOk l m) (hm : m ≤ n) : lastOk l n := by
  rcases h with h | h
  · exact .inl h
  · exact .inr (by omega)
theorem swarm_impl (p : List S112) (d : Int) (q : List Int) (a m : Int) (l : List S104) (x : Int) (hp : p.length ≤ 4000000) (hq : q.length ≤ 4000000) (hl : l.length ≤ 1048576) : Ev (fun k => impl_ShopWarm.f k p d q a m l x) (shopWarm p d q a m l x) := by
  unfold impl_ShopWarm.f shopWarm
  refine evb (copyShop_eq p d q a m l hp hq (by omega)) (Ev.bind (shopOk_impl p d q a m l (by omega)) ?_)
  by_cases h : shopOk p d q a m l = true
  rotate_left
  · exact rneg (fun h2 => h h2.1) <| evn h (evb (copyShop_eq p d q a m l hp hq (by omega)) (Ev.now _))
  obtain ⟨h1, h2, h3, h4, h5⟩ := shopOk_iff.1 h
  rw [w64 (n := m + 1) (by omega) (by omega)]
  refine evp h (Ev.bind (shopOk_impl p d q x (m + 1) l (by omega)) ?_)
  by_cases h6 : m ≠ 100000 ∧ (-10 ≤ x ∧ x ≤ 40)
  · exact rpos ⟨h, h6⟩ <| evp (shopOk_iff.2 ⟨h1, h2, h6.2, by omega, lastOk_mono h5 (by omega)⟩) (Ev.now _)
  · refine rneg (fun h7 => h6 h7.2) <| evn (fun h7 => ?_) (evb (copyShop_eq p d q a m l hp hq (by omega)) (Ev.now _))
    obtain ⟨g1, g2, g3, g4, g5⟩ := shopOk_iff.1 h7
    exact h6 ⟨by omega, g3⟩
theorem swarm_spec (p : List S112) (d : Int) (q : List Int) (a m : Int) (l : List S104) (x : Int) (hp : p.length ≤ 4000000) (hq : q.length ≤ 4000000) (hl : l.length ≤ 1048576) : Ev (fun k => spec_ShopWarm.f k p d q a m l x) (shopWarm p d q a m l x) := by
  unfold spec_ShopWarm.f shopWarm
  refine evb (l38Copy_eq p d q a m l hp hq (by omega)) (Ev.bind (shopOk_spec p d q a m l (by omega)) ?_)
  by_cases h : shopOk p d q a m l = true
  rotate_left
  · exact rneg (fun h2 => h h2.1) <| evn h (evb (l38Copy_eq p d q a m l hp hq (by omega)) (Ev.now _))
  obtain ⟨h1, h2, h3, h4, h5⟩ := shopOk_iff.1 h
  refine evp h ?_
  by_cases h8 : m = 100000
  · exact rneg (fun h7 => h7.2.1 h8) <| evp h8 (evb (l38Copy_eq p d q a m l hp hq (by omega)) (Ev.now _))
  refine evn h8 (Ev.bind (shopOk_spec p d q x m l (by omega)) ?_)
  by_cases h6 : -10 ≤ x ∧ x ≤ 40
  · rw [w64 (n := m + 1) (by omega) (by omega)]
    exact rpos ⟨h, h8, h6⟩ <| evp (shopOk_iff.2 ⟨h1, h2, h6, h4, h5⟩) (Ev.now _)
  · refine rneg (fun h7 => h6 h7.2.2) <| evn (fun h7 => ?_) (evb (l38Copy_eq p d q a m l hp hq (by omega)) (Ev.now _))
    exact h6 (shopOk_iff.1 h7).2.2.1
theorem shopWarm_len (p : List S112) (d : Int) (q : List Int) (a m : Int) (l : List S104) (x : Int) : (shopWarm p d q a m l x).1 = p ∧ (shopWarm p d q a m l x).2.2.1 = q ∧ (shopWarm p d q a m l x).2.2.2.2.2.1 = l := by
  unfold shopWarm; split <;> exact ⟨rfl, rfl, rfl⟩
def shopFault (p : List S112) (d : Int) (q : List Int) (a m : Int) (l : List S104) (r n f : Int) : List S112 × Int × List Int × Int × Int × List S104 × Bool :=
  if shopOk p d q a m l = true ∧ (addEntry l r n f m).2 = true then (p, d, q, a, m, (addEntry l r n f m).1, true) else (p, d, q, a, m, l, false)
theorem sfault_impl (p : List S112) (d : Int) (q : List Int) (a m : Int) (l : List S104) (r n f : Int) (hp : p.length ≤ 4000000) (hq : q.length ≤ 4000000) (hl : l.length ≤ 1048576) : Ev (fun k => impl_ShopFault.f k p d q a m l r n f) (shopFault p d q a m l r n f) := by
  unfold impl_ShopFault.f shopFault
  refine evb (copyShop_eq p d q a m l hp hq (by omega)) (Ev.bind (shopOk_impl p d q a m l (by omega)) ?_)
  by_cases h : shopOk p d q a m l = true
  rotate_left
  · exact rneg (fun h2 => h h2.1) <| evn h (Ev.now _)
  refine evp h (Ev.bind (add_impl l r n f m hl) ?_)
  by_cases h2 : (addEntry l r n f m).2 = true
  · exact rpos ⟨h, h2⟩ <| evp h2 (Ev.now _)
  · exact rneg (fun h3 => h2 h3.2) <| evn h2 (Ev.now _)
theorem sfault_spec (p : List S112) (d : Int) (q : List Int) (a m : Int) (l : List S104) (r n f : Int) (hp : p.length ≤ 4000000) (hq : q.length ≤ 4000000) (hl : l.length ≤ 1048576) : Ev (fun k => spec_ShopFault.f k p d q a m l r n f) (shopFault p d q a m l r n f) := by
  unfold spec_ShopFault.f shopFault
  refine evb (l38Copy_eq p d q a m l hp hq (by omega)) (Ev.bind (add_spec l r n f m hl) (Ev.bind (shopOk_spec p d q a m l (by omega)) ?_))
  by_cases h : shopOk p d q a m l = true
  rotate_left
  · exact rneg (fun h2 => h h2.1) <| evn h (Ev.now _)
  refine evp h ?_
  by_cases h2 : (addEntry l r n f m).2 = true
  · exact rpos ⟨h, h2⟩ <| evp h2 (Ev.now _)
  · exact rneg (fun h3 => h2 h3.2) <| evn h2 (Ev.now _)
theorem shopFault_len (p : List S112) (d : Int) (q : List Int) (a m : Int) (l : List S104) (r n f : Int) : (shopFault p d q a m l r n f).1 = p ∧ (shopFault p d q a m l r n f).2.2.1 = q ∧ (shopFault p d q a m l r n f).2.2.2.2.2.1.length ≤ l.length + 1 := by
  unfold shopFault; split
  · exact ⟨rfl, rfl, addEntry_len l r n f m⟩
  · exact ⟨rfl, rfl, Nat.le_succ _⟩
def shopKnock (p : List S112) (d : Int) (q : List Int) (a m : Int) (l : List S104) (c x : Int) : List S112 × Int × List Int × Int × Int × List S104 × Bool :=
  if shopOk p d q a m l = true then ((knockKey p d q c x).1, (knockKey p d q c x).2.1, (knockKey p d q c x).2.2.1, a, m, l, (knockKey p d q c x).2.2.2) else (p, d, q, a, m, l, false)
theorem sknock_impl (p : List S112) (d : Int) (q : List Int) (a m : Int) (l : List S104) (c x : Int) (hp : p.length ≤ 4000000) (hq : q.length ≤ 4000000) (hl : l.length ≤ 1048576) : Ev (fun k => impl_ShopKnock.f k p d q a m l c x) (shopKnock p d q a m l c x) := by
  unfold impl_ShopKnock.f shopKnock
  refine evb (copyShop_eq p d q a m l hp hq (by omega)) (Ev.bind (shopOk_impl p d q a m l (by omega)) ?_)
  by_cases h : shopOk p d q a m l = true
  · exact rpos h <| evp h (Ev.bind (knock_impl p d q c x hp hq) (Ev.now _))
  · exact rneg h <| evn h (Ev.now _)
theorem sknock_spec (p : List S112) (d : Int) (q : List Int) (a m : Int) (l : List S104) (c x : Int) (hp : p.length ≤ 4000000) (hq : q.length ≤ 4000000) (hl : l.length ≤ 1048576) : Ev (fun k => spec_ShopKnock.f k p d q a m l c x) (shopKnock p d q a m l c x) := by
  unfold spec_ShopKnock.f shopKnock
  refine evb (l38Copy_eq p d q a m l hp hq (by omega)) (Ev.bind (shopOk_spec p d q a m l (by omega)) ?_)
  by_cases h : shopOk p d q a m l = true
  · exact rpos h <| evp h (Ev.bind (knock_spec p d q c x hp hq) (Ev.now _))
  · exact rneg h <| evn h (Ev.now _)
theorem shopKnock_len (p : List S112) (d : Int) (q : List Int) (a m : Int) (l : List S104) (c x : Int) : (shopKnock p d q a m l c x).1 = p ∧ (shopKnock p d q a m l c x).2.2.1.length = q.length ∧ (shopKnock p d q a m l c x).2.2.2.2.2.1 = l := by
  unfold shopKnock; split
  · exact ⟨(knockKey_len p d q c x).1, (knockKey_len p d q c x).2, rfl⟩
  · exact ⟨rfl, rfl, rfl⟩
theorem mendStep_false (p : List S112) (d : Int) (q : List Int) (h : ¬ (mendStep p d q).2.2.2 = true) : mendStep p d q = (p, d, q, false) := by
  unfold mendStep at h ⊢
  split
  · rfl
  · split
    · rfl
    · rename_i h2 h3; rw [h2] at h; simp only [if_neg h3] at h; exact absurd trivial h
theorem workStep_false (p : List S112) (d : Int) (q : List Int) (h : ¬ (workStep p d q).2.2.2 = true) : workStep p d q = (p, d, q, false) := by
  unfold workStep at h ⊢
  split
  · rename_i h1
    rw [if_pos h1] at h
    split
    · rfl
    · rename_i h2
      rw [if_neg h2] at h
      split
      · rfl
      · rename_i h3; rw [if_neg h3] at h; exact absurd rfl h
  · rfl
def tuneStep (p : List S112) (d : Int) (q : List Int) : List S112 × Int × List Int × Bool := if (((wrongSteps p d q).length : Nat) : Int) > 0 then mendStep p d q else workStep p d q
def shopTune (p : List S112) (d : Int) (q : List Int) (a m : Int) (l : List S104) : List S112 × Int × List Int × Int × Int × List S104 × Bool :=
  if shopOk p d q a m l = true then ((tuneStep p d q).1, (tuneStep p d q).2.1, (tuneStep p d q).2.2.1, a, m, l, (tuneStep p d q).2.2.2) else (p, d, q, a, m, l, false)
theorem stune_impl (p : List S112) (d : Int) (q : List Int) (a m : Int) (l : List S104) (hp : p.length ≤ 4000000) (hq : q.length ≤ 4000000) (hl : l.length ≤ 1048576) : Ev (fun k => impl_ShopTune.f k p d q a m l) (shopTune p d q a m l) := by
  unfold impl_ShopTune.f shopTune tuneStep
  refine evb (copyShop_eq p d q a m l hp hq (by omega)) (Ev.bind (shopOk_impl p d q a m l (by omega)) ?_)
  by_cases h : shopOk p d q a m l = true
  rotate_left
  · exact rneg h <| evn h (Ev.now _)
  refine rpos h <| evp h (Ev.bind (step_impl p d q hp hq) (Ev.bind (wrong_impl p d q) ?_))
  by_cases h2 : (((wrongSteps p d q).length : Nat) : Int) > 0
  · simp only [if_pos h2]
    refine Ev.bind (mend_impl p d q hp hq) ?_
    by_cases h3 : (mendStep p d q).2.2.2 = true
    · exact evp h3 (evs (by rw [h3]))
    · exact evn h3 (evs (by rw [mendStep_false p d q h3]))
  · simp only [if_neg h2]
    by_cases h3 : (workStep p d q).2.2.2 = true
    · exact evp h3 (evs (by rw [h3]))
    · exact evn h3 (evs (by rw [workStep_false p d q h3]))
theorem stune_spec (p : List S112) (d : Int) (q : List Int) (a m : Int) (l : List S104) (hp : p.length ≤ 4000000) (hq : q.length ≤ 4000000) (hl : l.length ≤ 1048576) : Ev (fun k => spec_ShopTune.f k p d q a m l) (shopTune p d q a m l) := by
  unfold spec_ShopTune.f shopTune tuneStep
  refine evb (l38Copy_eq p d q a m l hp hq (by omega)) (Ev.bind (shopOk_spec p d q a m l (by omega)) ?_)
  by_cases h : shopOk p d q a m l = true
  rotate_left
  · exact rneg h <| evn h (Ev.now _)
  refine rpos h <| evp h (Ev.bind (wrong_spec p d q) ?_)
  by_cases h2 : (((wrongSteps p d q).length : Nat) : Int) > 0
  · simp only [if_pos h2]; exact Ev.bind (mend_spec p d q hp hq) (Ev.now _)
  · simp only [if_neg h2]; exact Ev.bind (step_spec p d q hp hq) (Ev.now _)
theorem shopTune_len (p : List S112) (d : Int) (q : List Int) (a m : Int) (l : List S104) : (shopTune p d q a m l).1 = p ∧ (shopTune p d q a m l).2.2.1.length = q.length ∧ (shopTune p d q a m l).2.2.2.2.2.1 = l := by
  unfold shopTune tuneStep; split
  · split
    · exact ⟨(mendStep_len p d q).1, (mendStep_len p d q).2.2, rfl⟩
    · exact ⟨(workStep_len p d q).1, (workStep_len p d q).2, rfl⟩
  · exact ⟨rfl, rfl, rfl⟩
structure GShop (p : List S112) (d : Int) (q : List Int) (a m : Int) (l : List S104) (c : Nat) : Prop where
  plan : gPlan p
  work : ∃ n : Nat, d = (n : Int) ∧ n ≤ p.length ∧ workOk p (n : Int) q = true
  lo : 200000 - 1000 * (c : Int) ≤ q.getD 0 0
  hi : q.getD 0 0 ≤ 299999 + 1000 * (c : Int)
  log : logOk l = true
  last : lastOk l m
  warm : -10 ≤ a ∧ a ≤ 40
  mom : 0 ≤ m ∧ m ≤ (c : Int)
  few : l.length ≤ c
section
variable {p : List S112} {d : Int} {q : List Int} {a m : Int} {l : List S104} {c : Nat}
theorem GShop.ok (h : GShop p d q a m l c) (hc : c ≤ 45) : shopOk p d q a m l = true := by
  obtain ⟨n, rfl, hn, hw⟩ := h.work
  have := h.mom
  exact shopOk_iff.2 ⟨hw, h.log, h.warm, by omega, h.last⟩
theorem GShop.len (h : GShop p d q a m l c) : q.length = 12 := by
  obtain ⟨n, rfl, hn, hw⟩ := h.work
  exact ((workOk_good h.plan n hn q).1 hw).1
theorem logOk_len {l : List S104} (h : logOk l = true) : l.length ≤ 30 := by
  unfold logOk at h
  simp only [Bool.and_eq_true, decide_eq_true_eq] at h
  exact h.2
theorem GShop.step (h : GShop p d q a m l c) : GShop p d q a m l (c + 1) :=
  ⟨h.plan, h.work, by have := h.lo; omega, by have := h.hi; omega, h.log, h.last, h.warm, by have := h.mom; omega, by have := h.few; omega⟩
theorem GShop.warmed (h : GShop p d q a m l c) (x : Int) :
    GShop (shopWarm p d q a m l x).1 (shopWarm p d q a m l x).2.1 (shopWarm p d q a m l x).2.2.1 (shopWarm p d q a m l x).2.2.2.1 (shopWarm p d q a m l x).2.2.2.2.1 (shopWarm p d q a m l x).2.2.2.2.2.1 (c + 1) := by
  unfold shopWarm
  split
  · rename_i hc
    have := h.mom
    exact ⟨h.plan, h.work, by have := h.lo; dsimp only; omega, by have := h.hi; dsimp only; omega, h.log, lastOk_mono h.last (by dsimp only; omega), hc.2.2, by dsimp only; omega, by have := h.few; dsimp only; omega⟩
  · exact h.step
theorem GShop.faulted (h : GShop p d q a m l c) (r n f : Int) :
    GShop (shopFault p d q a m l r n f).1 (shopFault p d q a m l r n f).2.1 (shopFault p d q a m l r n f).2.2.1 (shopFault p d q a m l r n f).2.2.2.1 (shopFault p d q a m l r n f).2.2.2.2.1 (shopFault p d q a m l r n f).2.2.2.2.2.1 (c + 1) := by
  unfold shopFault
  split
  · rename_i hc
    refine ⟨h.plan, h.work, by have := h.lo; dsimp only; omega, by have := h.hi; dsimp only; omega, ?_, ?_, h.warm, by have := h.mom; dsimp only; omega, by have := h.few; dsimp only; unfold addEntry; split <;> simp <;> omega⟩
    · have h2 := hc.2
      unfold addEntry at h2 ⊢
      split
      · rename_i h3; exact h3.2
      · rename_i h3; rw [if_neg h3] at h2; cases h2
    · have h2 := hc.2
      unfold addEntry at h2 ⊢
      split
      · exact .inr (by simp [List.getD_eq_getElem?_getD, ent])
      · rename_i h3; rw [if_neg h3] at h2; cases h2
  · exact h.step
theorem GShop.knocked (h : GShop p d q a m l c) (k x : Int) (hx : -1000 ≤ x ∧ x ≤ 1000) :
    GShop (shopKnock p d q a m l k x).1 (shopKnock p d q a m l k x).2.1 (shopKnock p d q a m l k x).2.2.1 (shopKnock p d q a m l k x).2.2.2.1 (shopKnock p d q a m l k x).2.2.2.2.1 (shopKnock p d q a m l k x).2.2.2.2.2.1 (c + 1) := by
  obtain ⟨n, rfl, hn, hw⟩ := h.work
  obtain ⟨k1, k2, k3, k4, k5⟩ := knock_good h.plan hn hw k x hx
  unfold shopKnock
  split
  · refine ⟨by rw [k1]; exact h.plan, ⟨n, k2, by rw [k1]; exact hn, by rw [k1]; exact k3⟩, by have := h.lo; dsimp only; omega, by have := h.hi; dsimp only; omega, h.log, h.last, h.warm, by have := h.mom; dsimp only; omega, by have := h.few; dsimp only; omega⟩
  · exact h.step
theorem bad_or (g : gPlan p) (q : List Int) : ∀ i : Nat, i ≤ p.length → (∃ j, j < i ∧ rightTo p q j ∧ isBad p q j = true) ∨ rightTo p q i := by
  intro i
  induction i with
  | zero => exact fun _ => .inr (rightTo_zero p q)
  | succ i ih =>
    intro hi
    rcases ih (by omega) with ⟨j, h1, h2, h3⟩ | h
    · exact .inl ⟨j, by omega, h2, h3⟩
    · by_cases hb : isBad p q i = true
      · exact .inl ⟨i, by omega, h, hb⟩
      · exact .inr (rightTo_succ g (by omega) h hb)
theorem tune_good (g : gPlan p) {n : Nat} (hn : n ≤ p.length) (hw : workOk p (n : Int) q = true) (hs : 155000 ≤ q.getD 0 0 ∧ q.getD 0 0 ≤ 345000) :
    (tuneStep p (n : Int) q).1 = p ∧ (∃ n' : Nat, (tuneStep p (n : Int) q).2.1 = (n' : Int) ∧ n' ≤ p.length ∧ workOk p (n' : Int) (tuneStep p (n : Int) q).2.2.1 = true) ∧ (tuneStep p (n : Int) q).2.2.1.getD 0 0 = q.getD 0 0 := by
  unfold tuneStep
  rcases bad_or g q n hn with ⟨j, h1, h2, h3⟩ | h
  · obtain ⟨e, he⟩ : ∃ e, n = j + (e + 1) := ⟨n - j - 1, by omega⟩
    obtain ⟨r, hr⟩ := wrongs_first g (by omega : j + (e + 1) ≤ p.length) h2 h3
    have hm := mendStep_good g hn he hw hs h2 h3
    obtain ⟨m1, m2, m3⟩ := mended g hn h1 hw hs h2
    rw [wrongSteps_good hw, if_pos (by rw [he, hr]; simp only [List.length_cons]; omega), hm]
    exact ⟨rfl, ⟨n, rfl, hn, m1⟩, m2⟩
  · rw [wrongSteps_good hw, wrongs_none g hn h, if_neg (by simp)]
    have hq := right_pits g hn hw h
    have e0 : ∀ k, (pits p (q.getD 0 0) k).getD 0 0 = q.getD 0 0 := fun k => by rw [pits_get _ _ _ _ (by omega), if_pos (Nat.zero_le _)]; rfl
    by_cases hlt : n < p.length
    · have := workStep_good g hs hlt
      rw [← hq] at this
      rw [this]
      exact ⟨rfl, ⟨n + 1, rfl, hlt, workOk_pits g hs (n + 1) hlt⟩, e0 _⟩
    · obtain rfl : n = p.length := by omega
      have := workStep_end g hs
      rw [← hq] at this
      rw [this]
      exact ⟨rfl, ⟨p.length, rfl, Nat.le_refl _, hw⟩, rfl⟩
theorem GShop.tuned (h : GShop p d q a m l c) (hc : c ≤ 45) :
    GShop (shopTune p d q a m l).1 (shopTune p d q a m l).2.1 (shopTune p d q a m l).2.2.1 (shopTune p d q a m l).2.2.2.1 (shopTune p d q a m l).2.2.2.2.1 (shopTune p d q a m l).2.2.2.2.2.1 (c + 1) := by
  obtain ⟨n, rfl, hn, hw⟩ := h.work
  have h1 := h.lo
  have h2 := h.hi
  obtain ⟨t1, ⟨n', t2, t3, t4⟩, t5⟩ := tune_good h.plan hn hw ⟨by omega, by omega⟩
  unfold shopTune
  split
  · exact ⟨by rw [t1]; exact h.plan, ⟨n', t2, by rw [t1]; exact t3, by rw [t1]; exact t4⟩, by dsimp only; omega, by dsimp only; omega, h.log, h.last, h.warm, by have := h.mom; dsimp only; omega, by have := h.few; dsimp only; omega⟩
  · exact h.step
end
theorem made_good (p : List S112) (g : gPlan p) (s : Int) (hs : 200000 ≤ s ∧ s ≤ 299999) :
    GShop (newShop s p).1 (newShop s p).2.1 (newShop s p).2.2.1 (newShop s p).2.2.2.1 (newShop s p).2.2.2.2.1 (newShop s p).2.2.2.2.2.1 0 := by
  have hn := newWork_good g (s := s) ⟨by omega, by omega⟩
  unfold newShop
  rw [if_pos (by rw [hn]), hn]
  have e0 : (pits p s 0).getD 0 0 = s := by rw [pits_get _ _ _ _ (by omega), if_pos (Nat.zero_le _)]; rfl
  refine ⟨g, ⟨0, rfl, Nat.zero_le _, workOk_pits g ⟨by omega, by omega⟩ 0 (Nat.zero_le _)⟩, ?_, ?_, (show logOk ([] : List S104) = true from by decide), .inl rfl, (by dsimp only; omega), (by dsimp only; omega), Nat.le_refl _⟩
  · show _ ≤ (pits p s 0).getD 0 0; rw [e0]; omega
  · show (pits p s 0).getD 0 0 ≤ _; rw [e0]; omega
def Drawn (s : List S112 × Int × List Int × Int × Int × List S104) : Prop := GShop s.1 s.2.1 s.2.2.1 s.2.2.2.1 s.2.2.2.2.1 s.2.2.2.2.2 20
theorem GShop.more {p : List S112} {d : Int} {q : List Int} {a m : Int} {l : List S104} {c c' : Nat} (h : GShop p d q a m l c) (hc : c ≤ c') : GShop p d q a m l c' :=
  ⟨h.plan, h.work, by have := h.lo; omega, by have := h.hi; omega, h.log, h.last, h.warm, by have := h.mom; omega, by have := h.few; omega⟩
section
variable (b : List Int) (hb : b.length ≤ 1048576)
include hb
theorem shop_l0 (N : Nat) (hN : N ≤ 19) : ∀ e : Nat, e ≤ N → ∀ (i h : Int) (p : List S112) (d : Int) (q : List Int) (a m : Int) (l : List S104), 0 ≤ i → GShop p d q a m l (N - e) →
    ∃ s i' h', Ev (fun k => spec_l38Shop.l0 k (N : Int) ((N - e : Nat) : Int) b i h p d q a m l) (s.1, s.2.1, s.2.2.1, s.2.2.2.1, s.2.2.2.2.1, s.2.2.2.2.2, i', h') ∧ Drawn s ∧ 0 ≤ i' := by
  intro e
  induction e with
  | zero =>
    intro _ i h p d q a m l hi g
    exact ⟨(p, d, q, a, m, l), i, h, Ev.step (fun k => by rw [spec_l38Shop.l0]) (evn (by omega) (Ev.now _)), g.more (by omega), hi⟩
  | succ e ih =>
    intro he i h p d q a m l hi g
    have lq := g.len
    have lp := g.plan.1
    have ll := logOk_len g.log
    obtain ⟨x, i1, h1, e1, x0, x1, _, j1⟩ := below_ev b hb i h 8 hi
    have hs : N - e = N - (e + 1) + 1 := by omega
    by_cases y0 : x = 0
    · obtain ⟨y, i2, h2, e2, _, _, _, j2⟩ := below_ev b hb i1 h1 30 j1
      obtain ⟨s, i', h', ev, gs, hi'⟩ := ih (by omega) i2 h2 _ _ _ _ _ _ j2 (hs ▸ g.warmed y)
      refine ⟨s, i', h', Ev.step (fun k => by rw [spec_l38Shop.l0]) (evp (by omega) (evb e1 (evp y0 (evb e2 (Ev.bind (swarm_spec p d q a m l y (by omega) (by omega) (by omega)) ?_))))), gs, hi'⟩
      rw [show wrap64 (((N - (e + 1) : Nat) : Int) + 1) = ((N - e : Nat) : Int) from by rw [w64 (by omega) (by omega)]; omega]; exact ev
    by_cases y1 : x = 1
    · obtain ⟨r, n, i2, h2, e2, gp, j2⟩ := pipe_ev b hb i1 h1 j1
      obtain ⟨f, i3, h3, e3, _, _, _, j3⟩ := below_ev b hb i2 h2 3 j2
      obtain ⟨s, i', h', ev, gs, hi'⟩ := ih (by omega) i3 h3 _ _ _ _ _ _ j3 (hs ▸ g.faulted r n f)
      refine ⟨s, i', h', Ev.step (fun k => by rw [spec_l38Shop.l0]) (evp (by omega) (evb e1 (evn y0 (evp y1 (evb e2 (evb e3 (Ev.bind (sfault_spec p d q a m l r n f (by omega) (by omega) (by omega)) ?_))))))), gs, hi'⟩
      rw [show wrap64 (((N - (e + 1) : Nat) : Int) + 1) = ((N - e : Nat) : Int) from by rw [w64 (by omega) (by omega)]; omega]; exact ev
    by_cases y2 : x = 2
    · obtain ⟨k0, i2, h2, e2, _, _, _, j2⟩ := below_ev b hb i1 h1 12 j1
      obtain ⟨z, i3, h3, e3, z0, z1, _, j3⟩ := below_ev b hb i2 h2 2001 j2
      have z2 := z1 (by omega)
      obtain ⟨s, i', h', ev, gs, hi'⟩ := ih (by omega) i3 h3 _ _ _ _ _ _ j3 (hs ▸ g.knocked k0 (z - 1000) (by omega))
      refine ⟨s, i', h', Ev.step (fun k => by rw [spec_l38Shop.l0]) (evp (by omega) (evb e1 (evn y0 (evn y1 (evp y2 (evb e2 (evb e3 ?_))))))), gs, hi'⟩
      dsimp only
      rw [show wrap64 (z - 1000) = z - 1000 from w64 (by omega) (by omega)]
      refine Ev.bind (sknock_spec p d q a m l k0 (z - 1000) (by omega) (by omega) (by omega)) ?_
      rw [show wrap64 (((N - (e + 1) : Nat) : Int) + 1) = ((N - e : Nat) : Int) from by rw [w64 (by omega) (by omega)]; omega]; exact ev
    · obtain ⟨s, i', h', ev, gs, hi'⟩ := ih (by omega) i1 h1 _ _ _ _ _ _ j1 (hs ▸ g.tuned (by omega))
      refine ⟨s, i', h', Ev.step (fun k => by rw [spec_l38Shop.l0]) (evp (by omega) (evb e1 (evn y0 (evn y1 (evn y2 (Ev.bind (stune_spec p d q a m l (by omega) (by omega) (by omega)) ?_)))))), gs, hi'⟩
      rw [show wrap64 (((N - (e + 1) : Nat) : Int) + 1) = ((N - e : Nat) : Int) from by rw [w64 (by omega) (by omega)]; omega]; exact ev
theorem shop_ev (i h : Int) (hi : 0 ≤ i) : ∃ s i' h', Ev (fun k => spec_l38Shop.f k b i h) (s.1, s.2.1, s.2.2.1, s.2.2.2.1, s.2.2.2.2.1, s.2.2.2.2.2, i', h') ∧ Drawn s ∧ 0 ≤ i' := by
  obtain ⟨x, i1, h1, e1, x0, x1, _, j1⟩ := below_ev b hb i h 100000 hi
  have x2 := x1 (by omega)
  obtain ⟨p, i2, h2, e2, g, j2⟩ := plan_ev b hb i1 h1 j1
  obtain ⟨y, i3, h3, e3, y0, y1, _, j3⟩ := below_ev b hb i2 h2 20 j2
  have y2 := y1 (by omega)
  obtain ⟨N, rfl⟩ := Int.eq_ofNat_of_zero_le y0
  obtain ⟨s, i', h', ev, gs, hi'⟩ := shop_l0 b hb N (by omega) N (Nat.le_refl _) i3 h3 _ _ _ _ _ _ j3 ((made_good p g (200000 + x) (by omega)).more (Nat.zero_le _))
  refine ⟨s, i', h', ?_, gs, hi'⟩
  unfold spec_l38Shop.f
  refine evb e1 (Ev.bind e2 ?_)
  dsimp only
  rw [show wrap64 (200000 + x) = 200000 + x from w64 (by omega) (by omega)]
  refine Ev.bind (newShop_spec (200000 + x) p) (evb e3 ?_)
  rw [show N - N = 0 by omega] at ev
  exact ev
theorem anyShop_ev (i h : Int) (hi : 0 ≤ i) : ∃ s i' h', Ev (fun k => spec_l39Shop.f k b i h) (s.1, s.2.1, s.2.2.1, s.2.2.2.1, s.2.2.2.2.1, s.2.2.2.2.2, i', h') ∧ Drawn s ∧ 0 ≤ i' := by
  obtain ⟨v, i1, h1, e1, j1⟩ := once_ev b hb i h 2 hi
  unfold spec_l39Shop.f
  by_cases hv : v = true
  · refine ⟨sampleShop, i1, h1, evb e1 (evp hv (Ev.bind sample_spec (Ev.now _))), ?_, j1⟩
    have := (made_good (usualPlan 700) (gPlan_usual 700 (by omega)).1 264000 (by omega)).more (Nat.zero_le 20)
    exact this
  · obtain ⟨s, i', h', ev, gs, hi'⟩ := shop_ev b hb i1 h1 j1
    exact ⟨s, i', h', evb e1 (evn hv (Ev.bind ev (Ev.now _))), gs, hi'⟩
end
structure GAct (x : S41) : Prop where
  ok : actOk x.f0 x.f1 x.f2 x.f3 = true
  small : (-1000 ≤ x.f1 ∧ x.f1 ≤ 1000) ∧ (-1000 ≤ x.f2 ∧ x.f2 ≤ 1000) ∧ (-1000 ≤ x.f3 ∧ x.f3 ≤ 1000)
section
variable (b : List Int) (hb : b.length ≤ 1048576)
include hb
theorem act_ev (i h : Int) (hi : 0 ≤ i) : ∃ n x y z i' h', spec_l39Act.f b i h = some (n, x, y, z, i', h') ∧ GAct ⟨n, x, y, z⟩ ∧ 0 ≤ i' := by
  obtain ⟨v, i1, h1, e1, v0, v1, _, j1⟩ := below_ev b hb i h 12 hi
  have v2 := v1 (by omega)
  unfold spec_l39Act.f
  rw [e1, Option.bind_some]; dsimp only
  by_cases c0 : v = 0
  · obtain ⟨x, i2, h2, e2, x0, x1, _, j2⟩ := below_ev b hb i1 h1 40 j1
    have x2 := x1 (by omega)
    rw [if_pos c0, e2, Option.bind_some]; dsimp only
    rw [show wrap64 (x - 5) = x - 5 from w64 (by omega) (by omega)]
    exact ⟨_, _, _, _, _, _, rfl, ⟨by unfold actOk; dsimp only; rw [if_neg (by omega), if_pos rfl, decide_eq_true_eq]; omega, by dsimp only; omega⟩, j2⟩
  rw [if_neg c0]
  by_cases c1 : v = 1
  · obtain ⟨x, i2, h2, e2, x0, j2⟩ := pick_ev b hb i1 h1 [0, 0, 1] j1 (by decide)
    obtain ⟨y, i3, h3, e3, y0, y1, _, j3⟩ := below_ev b hb i2 h2 6 j2
    obtain ⟨z, i4, h4, e4, z0, z1, _, j4⟩ := below_ev b hb i3 h3 3 j3
    have y2 := y1 (by omega)
    have z2 := z1 (by omega)
    have x2 : x = 0 ∨ x = 1 := by simp at x0; omega
    rw [if_pos c1, e2, Option.bind_some]; dsimp only
    rw [e3, Option.bind_some]; dsimp only
    rw [e4, Option.bind_some]
    exact ⟨_, _, _, _, _, _, rfl, ⟨by unfold actOk; dsimp only; rw [if_neg (by omega), if_neg (by omega), if_pos rfl, decide_eq_true_eq]; omega, by dsimp only; omega⟩, j4⟩
  rw [if_neg c1]
  by_cases c2 : v = 2
  · obtain ⟨x, i2, h2, e2, x0, x1, _, j2⟩ := below_ev b hb i1 h1 12 j1
    obtain ⟨y, i3, h3, e3, y0, y1, _, j3⟩ := below_ev b hb i2 h2 2001 j2
    have x2 := x1 (by omega)
    have y2 := y1 (by omega)
    rw [if_pos c2, e2, Option.bind_some]; dsimp only
    rw [e3, Option.bind_some]; dsimp only
    rw [show wrap64 (y - 1000) = y - 1000 from w64 (by omega) (by omega)]
    exact ⟨_, _, _, _, _, _, rfl, ⟨by unfold actOk; dsimp only; rw [if_neg (by omega), if_neg (by omega), if_neg (by omega), if_pos rfl, decide_eq_true_eq]; omega, by dsimp only; omega⟩, j3⟩
  rw [if_neg c2]
  by_cases c3 : v = 3
  · rw [if_pos c3]; exact ⟨_, _, _, _, _, _, rfl, ⟨by decide, by dsimp only; omega⟩, j1⟩
  rw [if_neg c3]
  by_cases c4 : v = 4
  · rw [if_pos c4]; exact ⟨_, _, _, _, _, _, rfl, ⟨by decide, by dsimp only; omega⟩, j1⟩
  rw [if_neg c4]
  by_cases c5 : v = 5
  · obtain ⟨x, i2, h2, e2, x0, x1, _, j2⟩ := below_ev b hb i1 h1 12 j1
    have x2 := x1 (by omega)
    rw [if_pos c5, e2, Option.bind_some]
    exact ⟨_, _, _, _, _, _, rfl, ⟨by unfold actOk; dsimp only; rw [if_neg (by omega), if_neg (by omega), if_neg (by omega), if_neg (by omega), if_pos rfl, decide_eq_true_eq]; omega, by dsimp only; omega⟩, j2⟩
  rw [if_neg c5]
  exact ⟨_, _, _, _, _, _, rfl, ⟨by decide, by dsimp only; omega⟩, j1⟩
theorem acts_ev (i h : Int) (hi : 0 ≤ i) : ∃ l i' h', Ev (fun k => spec_l39List.f k b i h) (l, i', h') ∧ l.length ≤ 25 ∧ (∀ x ∈ l, GAct x) ∧ 0 ≤ i' := by
  obtain ⟨n, i1, h1, e1, n0, n1, _, j1⟩ := below_ev b hb i h 26 hi
  have n2 := n1 (by omega)
  obtain ⟨N, rfl⟩ := Int.eq_ofNat_of_zero_le n0
  have key : ∀ m : Nat, m ≤ N → ∀ (acc : List S41) (i h : Int), 0 ≤ i → acc.length = N - m → (∀ x ∈ acc, GAct x) →
      ∃ l i' h', Ev (fun k => spec_l39List.l0 k acc (N : Int) ((N - m : Nat) : Int) b i h) (l, i', h') ∧ l.length ≤ 25 ∧ (∀ x ∈ l, GAct x) ∧ 0 ≤ i' := by
    intro m
    induction m with
    | zero =>
      intro _ acc i h hi hl hx
      exact ⟨acc, i, h, Ev.step (fun k => by rw [spec_l39List.l0]) (evn (by omega) (Ev.now _)), by omega, hx, hi⟩
    | succ m ih =>
      intro hm acc i h hi hl hx
      obtain ⟨a, x, y, z, i2, h2, e2, g, j2⟩ := act_ev b hb i h hi
      obtain ⟨l, i', h', ev, l1, l2, j⟩ := ih (by omega) (acc ++ [⟨a, x, y, z⟩]) i2 h2 j2 (by simp; omega) (by
        intro w hw
        rcases List.mem_append.1 hw with hw | hw
        · exact hx w hw
        · simp at hw; subst hw; exact g)
      refine ⟨l, i', h', Ev.step (fun k => by rw [spec_l39List.l0]) (evp (by omega) (evb e2 ?_)), l1, l2, j⟩
      refine evp (show acc.length < 4398046511104 by omega) ?_
      rw [show wrap64 (((N - (m + 1) : Nat) : Int) + 1) = ((N - m : Nat) : Int) from by rw [w64 (by omega) (by omega)]; omega]
      exact ev
  obtain ⟨l, i', h', ev, l1, l2, j⟩ := key N (Nat.le_refl _) [] i1 h1 j1 (by simp) (by simp)
  refine ⟨l, i', h', ?_, l1, l2, j⟩
  unfold spec_l39List.f
  refine evb e1 ?_
  rw [show N - N = 0 by omega] at ev
  exact ev
theorem drawActs_ev : ∃ s l, Ev (fun k => spec_DrawActs.f k b) (s.1, s.2.1, s.2.2.1, s.2.2.2.1, s.2.2.2.2.1, s.2.2.2.2.2, l) ∧ Drawn s ∧ l.length ≤ 25 ∧ ∀ x ∈ l, GAct x := by
  obtain ⟨h0, e0⟩ := new_ev b
  obtain ⟨s, i1, h1, e1, g, j1⟩ := anyShop_ev b hb 0 h0 (by omega)
  obtain ⟨l, i2, h2, e2, l1, l2, j2⟩ := acts_ev b hb i1 h1 j1
  refine ⟨s, l, ?_, g, l1, l2⟩
  unfold spec_DrawActs.f
  exact Ev.bind e0 (Ev.bind e1 (Ev.bind e2 (Ev.now _)))
end
def stepsLeft (p : List S112) (d : Int) (q : List Int) (a m : Int) (l : List S104) : Int :=
  if shopOk p d q a m l = true then wrap64 ((wrap64 ((p.length : Int) - d)) + ((wrongSteps p d q).length : Int)) else 0
theorem left_impl (p : List S112) (d : Int) (q : List Int) (a m : Int) (l : List S104) (hl : l.length ≤ 1048577) : Ev (fun k => impl_StepsLeft.f k p d q a m l) (stepsLeft p d q a m l) := by
  unfold impl_StepsLeft.f stepsLeft
  refine Ev.bind (shopOk_impl p d q a m l hl) ?_
  by_cases h : shopOk p d q a m l = true
  · exact rpos h <| evp h (Ev.bind (wrong_impl p d q) (Ev.now _))
  · exact rneg h <| evn h (Ev.now _)
def warmPitch (p t : Int) : Int := if fine p = true then (if -10 ≤ t ∧ t ≤ 40 then wrap64 (Int.tdiv (wrap64 (p * (wrap64 (1000 + (wrap64 (2 * (wrap64 (t - 15)))))))) 1000) else 0) else 0
theorem warm_impl (p t : Int) : impl_WarmPitch.f p t = some (warmPitch p t) := by
  unfold impl_WarmPitch.f warmPitch
  rw [isFine_eq, isWarmth_eq]
  cases fine p <;> by_cases h : -10 ≤ t ∧ t ≤ 40 <;> simp [h]
theorem warm_zero (t : Int) : warmPitch 0 t = 0 := by
  have : fine 0 = false := by decide
  unfold warmPitch
  rw [this]
  rfl
def heardAt (p : List S112) (d : Int) (q : List Int) (a m : Int) (l : List S104) (c : Int) : Int :=
  if shopOk p d q a m l = true then (if 0 ≤ c ∧ c ≤ 11 then (if faultOf l ⟨0, c⟩ = 1 then 0 else warmPitch (rd q c) a) else 0) else 0
theorem heard_impl (p : List S112) (d : Int) (q : List Int) (a m : Int) (l : List S104) (c : Int) (hl : l.length ≤ 1048577) : Ev (fun k => impl_HeardAt.f k p d q a m l c) (heardAt p d q a m l c) := by
  unfold impl_HeardAt.f
  refine Ev.bind (shopOk_impl p d q a m l hl) ?_
  by_cases h0 : shopOk p d q a m l = true
  rotate_left
  · exact evn h0 (evs (by simp [heardAt, h0]))
  refine evp h0 (evb (within_eq _ _ _) ?_)
  obtain ⟨hw, hlo, _⟩ := shopOk_iff.mp h0
  have hq : q.length = 12 := by
    unfold workOk at hw
    simp only [Bool.and_eq_true, decide_eq_true_eq] at hw
    exact hw.2.2.1
  by_cases hc : 0 ≤ c ∧ c ≤ 11
  rotate_left
  · exact evn (by simpa using hc) (evs (by simp [heardAt, hc]))
  refine evp (by simpa using hc) (evp hc.1 (evp (by omega) ?_))
  by_cases hz : rd q c = 0
  · exact evp hz (evs (by simp [heardAt, hz, warm_zero]))
  refine evn hz ?_
  have F : impl_FaultOf.f l 0 c = some (faultOf l ⟨0, c⟩) := by
    unfold impl_FaultOf.f
    rw [if_pos ⟨wf64_of (by omega) (by omega), wf64_of (by omega) (by omega), hl⟩, if_pos hlo]
  refine evb F ?_
  by_cases hf : faultOf l ⟨0, c⟩ = 1
  · exact evp hf (evs (by simp [heardAt, hf]))
  exact evn hf (evb (warm_impl _ _) (evs (by simp [heardAt, h0, hc, hf])))
def tru (b : Bool) : Int := if b = true then 1 else 0
theorem truth_impl (b : Bool) : impl_truth.f b = some (tru b) := by unfold impl_truth.f tru; cases b <;> rfl
def doAct (p : List S112) (d : Int) (q : List Int) (a m : Int) (l : List S104) (n x y z : Int) : List S112 × Int × List Int × Int × Int × List S104 × Int :=
  if shopOk p d q a m l = true ∧ actOk n x y z = true then
    (if n = 1 then ((shopTune p d q a m l).1, (shopTune p d q a m l).2.1, (shopTune p d q a m l).2.2.1, (shopTune p d q a m l).2.2.2.1, (shopTune p d q a m l).2.2.2.2.1, (shopTune p d q a m l).2.2.2.2.2.1, tru (shopTune p d q a m l).2.2.2.2.2.2)
    else if n = 2 then ((shopWarm p d q a m l x).1, (shopWarm p d q a m l x).2.1, (shopWarm p d q a m l x).2.2.1, (shopWarm p d q a m l x).2.2.2.1, (shopWarm p d q a m l x).2.2.2.2.1, (shopWarm p d q a m l x).2.2.2.2.2.1, tru (shopWarm p d q a m l x).2.2.2.2.2.2)
    else if n = 3 then ((shopFault p d q a m l x y z).1, (shopFault p d q a m l x y z).2.1, (shopFault p d q a m l x y z).2.2.1, (shopFault p d q a m l x y z).2.2.2.1, (shopFault p d q a m l x y z).2.2.2.2.1, (shopFault p d q a m l x y z).2.2.2.2.2.1, tru (shopFault p d q a m l x y z).2.2.2.2.2.2)
    else if n = 4 then ((shopKnock p d q a m l x y).1, (shopKnock p d q a m l x y).2.1, (shopKnock p d q a m l x y).2.2.1, (shopKnock p d q a m l x y).2.2.2.1, (shopKnock p d q a m l x y).2.2.2.2.1, (shopKnock p d q a m l x y).2.2.2.2.2.1, tru (shopKnock p d q a m l x y).2.2.2.2.2.2)
    else if n = 5 then (p, d, q, a, m, (repNext l m).1, tru (repNext l m).2)
    else if n = 6 then (p, d, q, a, m, l, stepsLeft p d q a m l)
    else (p, d, q, a, m, l, heardAt p d q a m l x))
  else (p, d, q, a, m, l, -1)
section
variable (p : List S112) (d : Int) (q : List Int) (a m : Int) (l : List S104) (n x y z : Int) (hp : p.length ≤ 4000000) (hq : q.length ≤ 4000000) (hl : l.length ≤ 1048576)
include hp hq hl
theorem doAct_impl : Ev (fun k => impl_DoAct.f k p d q a m l n x y z) (doAct p d q a m l n x y z) := by
  have E := copyShop_eq p d q a m l hp hq (by omega)
  have O := shopOk_impl p d q a m l (by omega)
  have AO := actOk_impl n x y z
  have T := stune_impl p d q a m l hp hq hl
  have W := swarm_impl p d q a m l x hp hq hl
  have F := sfault_impl p d q a m l x y z hp hq hl
  have K := sknock_impl p d q a m l x y hp hq hl
  have R := repNext_impl l m hl
  have L := left_impl p d q a m l (by omega)
  have H := heard_impl p d q a m l x (by omega)
  have jt : Ev (fun k => impl_DoAct.j0 k true p d q a m l n x y z) (p, d, q, a, m, l, -1) := Ev.step (fun k => by rw [impl_DoAct.j0]) (evp rfl (evb E (Ev.now _)))
  unfold impl_DoAct.f doAct
  refine Ev.bind O ?_
  by_cases h0 : shopOk p d q a m l = true
  rotate_left
  · exact rneg (fun hh => h0 hh.1) (evn h0 jt)
  refine evp h0 (Ev.bind AO ?_)
  by_cases h1 : actOk n x y z = true
  rotate_left
  · exact rneg (fun hh => h1 hh.2) (by rw [show (!actOk n x y z) = true by simp [h1]]; exact jt)
  refine rpos ⟨h0, h1⟩ ?_
  rw [show (!actOk n x y z) = false by simp [h1]]
  refine Ev.step (fun k => by rw [impl_DoAct.j0]) (evn (by decide) ?_)
  by_cases c1 : n = 1
  · exact rpos c1 (evp c1 (Ev.bind T (evb (truth_impl _) (Ev.now _))))
  refine rneg c1 (evn c1 ?_)
  by_cases c2 : n = 2
  · exact rpos c2 (evp c2 (Ev.bind W (evb (truth_impl _) (Ev.now _))))
  refine rneg c2 (evn c2 ?_)
  by_cases c3 : n = 3
  · exact rpos c3 (evp c3 (Ev.bind F (evb (truth_impl _) (Ev.now _))))
  refine rneg c3 (evn c3 ?_)
  by_cases c4 : n = 4
  · exact rpos c4 (evp c4 (Ev.bind K (evb (truth_impl _) (Ev.now _))))
  refine rneg c4 (evn c4 ?_)
  by_cases c5 : n = 5
  · exact rpos c5 (evp c5 (evb E (Ev.bind R (evb (truth_impl _) (Ev.now _)))))
  refine rneg c5 (evn c5 ?_)
  by_cases c6 : n = 6
  · exact rpos c6 (evp c6 (evb E (Ev.bind L (Ev.now _))))
  exact rneg c6 (evn c6 (evb E (Ev.bind H (Ev.now _))))
end
theorem doAct_len (p : List S112) (d : Int) (q : List Int) (a m : Int) (l : List S104) (n x y z : Int) : (doAct p d q a m l n x y z).1 = p ∧ (doAct p d q a m l n x y z).2.2.1.length = q.length ∧ (doAct p d q a m l n x y z).2.2.2.2.2.1.length ≤ l.length + 1 := by
  have t := shopTune_len p d q a m l
  have w := shopWarm_len p d q a m l x
  have f := shopFault_len p d q a m l x y z
  have k := shopKnock_len p d q a m l x y
  have r := repNext_len l m
  unfold doAct
  split
  · split
    · exact ⟨t.1, t.2.1, by dsimp only; rw [t.2.2]; omega⟩
    split
    · exact ⟨w.1, by dsimp only; rw [w.2.1], by dsimp only; rw [w.2.2]; omega⟩
    split
    · exact ⟨f.1, by dsimp only; rw [f.2.1], f.2.2⟩
    split
    · exact ⟨k.1, k.2.1, by dsimp only; rw [k.2.2]; omega⟩
    split
    · exact ⟨rfl, rfl, r⟩
    split
    · exact ⟨rfl, rfl, by dsimp only; omega⟩
    · exact ⟨rfl, rfl, by dsimp only; omega⟩
  · exact ⟨rfl, rfl, by dsimp only; omega⟩
def runA : List S41 → List S112 → Int → List Int → Int → Int → List S104 → List Int → List S112 × Int × List Int × Int × Int × List S104 × List Int
  | [], p, d, q, a, m, l, r => (p, d, q, a, m, l, r)
  | x :: xs, p, d, q, a, m, l, r => runA xs (doAct p d q a m l x.f0 x.f1 x.f2 x.f3).1 (doAct p d q a m l x.f0 x.f1 x.f2 x.f3).2.1 (doAct p d q a m l x.f0 x.f1 x.f2 x.f3).2.2.1 (doAct p d q a m l x.f0 x.f1 x.f2 x.f3).2.2.2.1 (doAct p d q a m l x.f0 x.f1 x.f2 x.f3).2.2.2.2.1 (doAct p d q a m l x.f0 x.f1 x.f2 x.f3).2.2.2.2.2.1 (r ++ [(doAct p d q a m l x.f0 x.f1 x.f2 x.f3).2.2.2.2.2.2])
def runActs (p : List S112) (d : Int) (q : List Int) (a m : Int) (l : List S104) (xs : List S41) : List S112 × Int × List Int × Int × Int × List S104 × List Int :=
  if shopOk p d q a m l = true ∧ xs.length ≤ 40 then runA xs p d q a m l [] else (p, d, q, a, m, l, [])
theorem runA_len : ∀ (xs : List S41) (p : List S112) (d : Int) (q : List Int) (a m : Int) (l : List S104) (r : List Int),
    (runA xs p d q a m l r).1 = p ∧ (runA xs p d q a m l r).2.2.1.length = q.length ∧ (runA xs p d q a m l r).2.2.2.2.2.1.length ≤ l.length + xs.length ∧ (runA xs p d q a m l r).2.2.2.2.2.2.length = r.length + xs.length
  | [], p, d, q, a, m, l, r => ⟨rfl, rfl, Nat.le_refl _, rfl⟩
  | x :: xs, p, d, q, a, m, l, r => by
    obtain ⟨h1, h2, h3⟩ := doAct_len p d q a m l x.f0 x.f1 x.f2 x.f3
    unfold runA
    generalize doAct p d q a m l x.f0 x.f1 x.f2 x.f3 = R at *
    obtain ⟨g1, g2, g3, g4⟩ := runA_len xs R.1 R.2.1 R.2.2.1 R.2.2.2.1 R.2.2.2.2.1 R.2.2.2.2.2.1 (r ++ [R.2.2.2.2.2.2])
    refine ⟨g1.trans h1, g2.trans h2, ?_, ?_⟩
    · simp only [List.length_cons]; omega
    · rw [g4]; simp; omega
theorem logLen_ {l : List S104} (h : logOk l = true) : l.length ≤ 30 := by
  unfold logOk at h
  simp only [Bool.and_eq_true, decide_eq_true_eq] at h
  exact h.2
section
variable (xs : List S41) (hx : xs.length ≤ 40)
include hx
theorem runs_impl : ∀ i, i ≤ xs.length → ∀ (p : List S112) (d : Int) (q : List Int) (a m : Int) (l : List S104) (r : List Int), p.length ≤ 4000000 → q.length ≤ 4000000 → l.length ≤ 30 + i → r.length = i →
    Ev (fun k => impl_RunActs.l0 k r xs (xs.length : Int) (i : Int) p d q a m l) (runA (xs.drop i) p d q a m l r) := by
  refine down (n := xs.length) ?_ ?_
  · intro p d q a m l r hp hq hl hr
    refine Ev.step (fun k => by rw [impl_RunActs.l0]) (evn (by omega) (evs ?_))
    rw [drop_end]; rfl
  · intro i hi ih p d q a m l r hp hq hl hr
    refine Ev.step (fun k => by rw [impl_RunActs.l0]) (evp (by omega) (evp (by omega) (evp (by omega) ?_)))
    rw [rdA xs i hi, drop_cons xs i hi]
    obtain ⟨h1, h2, h3⟩ := doAct_len p d q a m l xs[i].f0 xs[i].f1 xs[i].f2 xs[i].f3
    refine Ev.bind (doAct_impl p d q a m l xs[i].f0 xs[i].f1 xs[i].f2 xs[i].f3 hp hq (by omega)) (evp (by omega) ?_)
    rw [w64 (n := (i : Int) + 1) (by omega) (by omega)]
    unfold runA
    exact ih _ _ _ _ _ _ _ (by rw [h1]; exact hp) (by rw [h2]; exact hq) (by omega) (by simp; omega)
end
section
variable (p : List S112) (d : Int) (q : List Int) (a m : Int) (l : List S104) (xs : List S41) (hp : p.length ≤ 4000000) (hq : q.length ≤ 4000000) (hl : l.length ≤ 1048576)
include hp hq hl
theorem runActs_impl : Ev (fun k => impl_RunActs.f k p d q a m l xs) (runActs p d q a m l xs) := by
  have jt : Ev (fun k => impl_RunActs.j0 k xs true p d q a m l) (p, d, q, a, m, l, []) := Ev.step (fun k => by rw [impl_RunActs.j0]) (evp rfl (Ev.now _))
  unfold impl_RunActs.f runActs
  refine evb (copyShop_eq p d q a m l hp hq (by omega)) (Ev.bind (shopOk_impl p d q a m l (by omega)) ?_)
  by_cases h0 : shopOk p d q a m l = true
  rotate_left
  · exact rneg (fun hh => h0 hh.1) (evn h0 jt)
  refine evp h0 ?_
  by_cases h1 : xs.length ≤ 40
  rotate_left
  · exact rneg (fun hh => h1 hh.2) (by rw [show decide ((xs.length : Int) > 40) = true from decide_eq_true (by omega)]; exact jt)
  refine rpos ⟨h0, h1⟩ ?_
  rw [show decide ((xs.length : Int) > 40) = false from decide_eq_false (by omega)]
  have key := runs_impl xs h1 0 (Nat.zero_le _) p d q a m l [] hp hq (logLen_ (shopOk_iff.1 h0).2.1) rfl
  refine Ev.step (fun k => by rw [impl_RunActs.j0]) (evn (by decide) ?_)
  exact key
end
section
variable {p : List S112} {d : Int} {q : List Int} {a m : Int} {l : List S104} {c : Nat}
theorem GShop.repaired (h : GShop p d q a m l c) : GShop p d q a m (repNext l m).1 (c + 1) := by
  unfold repNext
  split
  · unfold addEntry
    split
    · rename_i h2
      exact ⟨h.plan, h.work, by have := h.lo; omega, by have := h.hi; omega, h2.2, .inr (by simp [List.getD_eq_getElem?_getD, ent]), h.warm, by have := h.mom; omega, by have := h.few; simp; omega⟩
    · exact h.step
  · exact h.step
theorem GShop.acted (h : GShop p d q a m l c) (hc : c ≤ 45) {x : S41} (g : GAct x) :
    GShop (doAct p d q a m l x.f0 x.f1 x.f2 x.f3).1 (doAct p d q a m l x.f0 x.f1 x.f2 x.f3).2.1 (doAct p d q a m l x.f0 x.f1 x.f2 x.f3).2.2.1 (doAct p d q a m l x.f0 x.f1 x.f2 x.f3).2.2.2.1 (doAct p d q a m l x.f0 x.f1 x.f2 x.f3).2.2.2.2.1 (doAct p d q a m l x.f0 x.f1 x.f2 x.f3).2.2.2.2.2.1 (c + 1) := by
  unfold doAct
  rw [if_pos ⟨h.ok hc, g.ok⟩]
  split
  · exact h.tuned hc
  split
  · exact h.warmed x.f1
  split
  · exact h.faulted x.f1 x.f2 x.f3
  split
  · exact h.knocked x.f1 x.f2 g.small.2.1
  split
  · exact h.repaired
  split
  · exact h.step
  · exact h.step
theorem runA_good : ∀ (xs : List S41) (p : List S112) (d : Int) (q : List Int) (a m : Int) (l : List S104) (r : List Int) (c : Nat), GShop p d q a m l c → c + xs.length ≤ 45 → (∀ x ∈ xs, GAct x) →
    GShop (runA xs p d q a m l r).1 (runA xs p d q a m l r).2.1 (runA xs p d q a m l r).2.2.1 (runA xs p d q a m l r).2.2.2.1 (runA xs p d q a m l r).2.2.2.2.1 (runA xs p d q a m l r).2.2.2.2.2.1 45
  | [], p, d, q, a, m, l, r, c, h, hc, _ => h.more (by simp at hc; omega)
  | x :: xs, p, d, q, a, m, l, r, c, h, hc, hx => by
    unfold runA
    simp only [List.length_cons] at hc
    exact runA_good xs _ _ _ _ _ _ _ (c + 1) (h.acted (by omega) (hx x List.mem_cons_self)) (by omega) (fun y hy => hx y (List.mem_cons_of_mem _ hy))
theorem runActs_good (g : GShop p d q a m l 20) {xs : List S41} (hl : xs.length ≤ 25) (hx : ∀ x ∈ xs, GAct x) :
    GShop (runActs p d q a m l xs).1 (runActs p d q a m l xs).2.1 (runActs p d q a m l xs).2.2.1 (runActs p d q a m l xs).2.2.2.1 (runActs p d q a m l xs).2.2.2.2.1 (runActs p d q a m l xs).2.2.2.2.2.1 45 ∧ (runActs p d q a m l xs).2.2.2.2.2.2.length = xs.length := by
  unfold runActs
  rw [if_pos ⟨g.ok (by omega), by omega⟩]
  exact ⟨runA_good xs _ _ _ _ _ _ _ 20 g (by omega) hx, by rw [(runA_len xs _ _ _ _ _ _ _).2.2.2]; simp⟩
end
end Go.Proofs.YtanhnhkcpbdfmaaGreat.Q
namespace Go.Proofs.YtanhnhkcpbdfmaaGreat.Pure
open Go.RowKit Go.Proofs.YtanhnhkcpbdfmaaGreat.P Go.Proofs.YtanhnhkcpbdfmaaGreat.Q Go.Proofs.YtanhnhkcpbdfmaaGreatW.PrintWords Go.Proofs.YtanhnhkcpbdfmaaGreatW.PrintLast
theorem FnScenarios : laws_FnScenarios.Pure := by
  intro b hb1 hb2 hb3
  refine Ev.rounds ?_
  unfold laws_FnScenarios.f
  by_cases hbig : (b.length : Int) > 1048576
  · exact evb (a := true) (by unfold laws_big.f; rw [decide_eq_true hbig]) (evp rfl (Ev.now _))
  refine evb (a := false) (by unfold laws_big.f; rw [decide_eq_false hbig]) (evn (by decide) ?_)
  have hb : b.length ≤ 1048576 := by omega
  obtain ⟨⟨p, d, q, a, m, l⟩, xs, D, g, hx1, hx2⟩ := drawActs_ev b hb
  have g : GShop p d q a m l 20 := g
  have lq := g.len
  have lp := g.plan.1
  have lf := g.few
  have hok := g.ok (by omega)
  obtain ⟨gX, eX⟩ := runActs_good g hx1 hx2
  have X := runActs_impl p d q a m l xs (by omega) (by omega) (by omega)
  generalize runActs p d q a m l xs = R at gX eX X
  have lr := gX.few
  have okX := gX.ok (by omega)
  have O := shopOk_impl p d q a m l (by omega)
  rw [hok] at O
  have OX := shopOk_impl R.1 R.2.1 R.2.2.1 R.2.2.2.1 R.2.2.2.2.1 R.2.2.2.2.2.1 (by omega)
  rw [okX] at OX
  have sg := made_good (usualPlan 700) (gPlan_usual 700 (by omega)).1 264000 (by omega)
  have SA := sample_impl
  have okS : shopOk sampleShop.1 sampleShop.2.1 sampleShop.2.2.1 sampleShop.2.2.2.1 sampleShop.2.2.2.2.1 sampleShop.2.2.2.2.2 = true := sg.ok (by omega)
  have ls : sampleShop.2.2.2.2.2.length ≤ 0 := sg.few
  have OS := shopOk_impl sampleShop.1 sampleShop.2.1 sampleShop.2.2.1 sampleShop.2.2.2.1 sampleShop.2.2.2.2.1 sampleShop.2.2.2.2.2 (by omega)
  rw [okS] at OS
  refine Ev.bind D (Ev.bind X (Ev.bind O (evp rfl (Ev.bind OX (evp rfl (evp ?_ (Ev.bind SA (Ev.bind OS (Ev.now _)))))))))
  show (R.2.2.2.2.2.2.length : Int) = (xs.length : Int)
  omega
end Go.Proofs.YtanhnhkcpbdfmaaGreat.Pure
namespace Go.Proofs.YtanhnhkcpbdfmaaGreat.fnScenarios
open Go.ChangeShapes Go.WideShapes Go.ChangeAt Go.RowKit
open Go.ChangeMaps (open_string shut_string)
theorem own : ownKnob Tryz.prog.godebug = none := by kernel_rfl
theorem laidOut : laidOutB Tryz.prog = true := by kernel_rfl
def IsRow (k : IntKind) (w : World) (a : Option Addr) (len cap : Nat) (zs : List Int) : Prop :=
  (a = none ∧ len = 0 ∧ cap = 0 ∧ zs = []) ∨
  ∃ x, a = some x ∧ len ≤ cap ∧ cap ≤ maxLen ∧ zs.length = cap ∧ (∀ i, i < zs.length → w.cell? (x.add i) = some (.int k (zs.getD i 0))) ∧ ∀ n ∈ zs, (Lit.int k n).wf = true
set_option maxRecDepth 100000 in
theorem lifted (os : Os) (started : os.Started) (H : Type) (enc : TypeId × Value → H) :
    ReturnsInHanded {} Tryz.checked os 7 .any (Rows.fnScenariosSpec.pre6 enc Tryz.prog Tryz.f7 Rows.fnScenariosRow.domain false) (Rows.fnScenariosSpec.post enc Tryz.prog Tryz.f7 false true false false) := by
  refine returnsInHanded_of_change_sized (C := Tryz.checked) own started (by kernel_rfl) Tryz.func7
    (ChangeSpec.witness6 (enc := enc) (C := Tryz.checked) false ⟨#[], #[.slice none 0 0], []⟩ 8 (by kernel_rfl) (by kernel_rfl) (by kernel_rfl) (by kernel_rfl)) ?_
  intro W base args ds gs before hval0 hW hcnd hsz0 _
  have hsz : (DataW.weightsEach Tryz.prog (Tryz.f7.params.toList ++ Rows.fnScenariosSpec.plain.varTypes Tryz.prog) (ds ++ gs)).all (· ≤ reachBytes) = true := hsz0
  have hval : ∀ (j : Nat) t v, Tryz.f7.params[j]? = some t → args[j]? = some v → Value.okWide Tryz.prog W .any base t v := hval0
  have hW' := hW
  obtain ⟨p, q, hA0, hV, rfl, hfz, hnd⟩ := hW
  have hA : DataW.TrodAll enc Tryz.prog W 0 (fun _ => true) true Tryz.f7.params.toList args.toList ds p := hA0
  rw [Tryz.params7] at hA hval hsz
  obtain ⟨v0, vs0, d0, ds0, p0, q0, hargs, rfl, rfl, h0, r0⟩ := trodAll_cons hA
  obtain ⟨rfl, rfl, rfl⟩ := trodAll_nil r0
  obtain rfl : args = #[v0] := by cases args; simp_all
  obtain ⟨rfl, rfl⟩ := trodVars_none hV
  obtain ⟨a0, len0, cap0, rfl⟩ := okWide_slice Tryz.underlying60 (hval 0 60 v0 rfl rfl)
  have k0 := h0
  have lt0 : ∀ x ∈ p0, x.block < W.heap.size := by obtain ⟨m, hm⟩ := k0; exact DataW.trod_lt m _ _ _ hm
  obtain ⟨z0, w0⟩ : ∃ zs, IsRow .u8 W a0 len0 cap0 zs := by
    obtain ⟨fuel, hf⟩ := h0
    rcases open_ints Tryz.underlying60 Tryz.underlying5 (by kernel_rfl) hf with ⟨hcs, _⟩ | ⟨x, l, c, zs, hcs, _, hl, hm, hz, _, hcell, hwz⟩
    · simp [Value.cells] at hcs
      obtain ⟨rfl, rfl, rfl⟩ := hcs
      exact ⟨[], .inl ⟨rfl, rfl, rfl, rfl⟩⟩
    · simp [Value.cells] at hcs
      obtain ⟨rfl, rfl, rfl⟩ := hcs
      exact ⟨zs, .inr ⟨_, rfl, hl, hm, by simpa using hz, hcell, hwz⟩⟩
  have y0 : len0 * 1 ≤ 140737488351232 := Go.Proofs.YtanhnhkcpbdfmaaGreatW.PrintWords.sized_ints hsz (j := 0) (t := 60) rfl rfl Tryz.underlying60 Tryz.underlying5 (by kernel_rfl) (by kernel_rfl) h0
  clear hA0 hval0 hsz0 hsz
  refine (P.laws_FnScenarios.walk Pure.FnScenarios a0 len0 cap0 z0 W w0 y0).mono fun e W' ⟨he, bel⟩ => ?_
  subst he
  exact ⟨_, rfl, _, _, _, [], _, [], hW', trodAll_mk1 (shut_bool Tryz.underlying4 _), (trodAll_cons_mk (Below.trod laidOut (by kernel_rfl) (of_decide_eq_true (by kernel_rfl)) k0 bel lt0) trodAll_mk0), rfl, bel.frame _, fun h => by cases h⟩
theorem over : Rows.fnScenariosRow.holds Tryz.pinned (OpenSpec.ofChange Rows.fnScenariosSpec) :=
  OpenClaim.holds_of_wide 7 Tryz.f7 rfl rfl rfl rfl rfl rfl rfl ⟨rfl, rfl, rfl, rfl, rfl⟩ rfl rfl rfl rfl rfl (by kernel_rfl) Tryz.func7 (by kernel_rfl)
    (of_decide_eq_true (by kernel_rfl)) (by unfold Func.isWrapper; first | (rw [if_pos (by decide +kernel)]; kernel_rfl) | (rw [if_neg (by decide +kernel)]; exact ⟨rfl, rfl⟩))
    (fun os started H enc _ => lifted os started H enc)
theorem proved : Rows.FnScenariosSaid := over
#print axioms proved
end Go.Proofs.YtanhnhkcpbdfmaaGreat.fnScenarios
namespace Go.Proofs.YtanhnhkcpbdfmaaGreat
theorem fnScenarios_holds : Rows.FnScenariosSaid := fnScenarios.proved
end Go.Proofs.YtanhnhkcpbdfmaaGreat
