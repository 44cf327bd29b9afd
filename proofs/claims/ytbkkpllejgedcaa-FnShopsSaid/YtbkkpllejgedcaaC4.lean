/- What functions of the program come to (f), that their calls come to just this (calls), and the plain laws over lists and numbers. No condition but those of the given row. -/
import Derived.Test.YtbkkpllejgedcaaC3
namespace Go.Proofs.Ytbkkpllejgedcaa.P
open Go.RowKit Go.Proofs.YtbkkpllejgedcaaW.PrintWords Go.Proofs.YtbkkpllejgedcaaW.PrintLast Go.Proofs.YtbkkpllejgedcaaW.PrintMore
attribute [local go_sem] max2_int min2_int max_two min_two max_three min_three max_four min_four
set_option linter.unusedVariables false
set_option linter.unusedSimpArgs false
def spec_l38Shop.l0 : Nat → Int → Int → List Int → Int → Int → List (S96) → Int → List Int → Int → Int → List (S74) → Option ((List (S96)) × Int × List Int × Int × Int × (List (S74)) × Int × Int)
 | 0, _, _, _, _, _, _, _, _, _, _, _ => none
 | k + 1, x5, x6, x1000, x1001, x1002, x1692000, x1692001, x1692002, x1692003, x1692004, x1692005 => if x6 < x5 then ((spec_l01Below.f x1000 x1001 x1002 8).bind fun bt1695 => (if bt1695.1 = 0 then ((spec_l01Below.f x1000 bt1695.2.1 bt1695.2.2 30).bind fun bt1698 => ((spec_ShopWarm.f k x1692000 x1692001 x1692002 x1692003 x1692004 x1692005 bt1698.1).bind fun bt1701 => (spec_l38Shop.l0 k x5 (wrap64 (x6 + 1)) x1000 bt1698.2.1 bt1698.2.2 bt1701.1 bt1701.2.1 bt1701.2.2.1 bt1701.2.2.2.1 bt1701.2.2.2.2.1 bt1701.2.2.2.2.2.1))) else (if bt1695.1 = 1 then ((spec_l34Pipe.f x1000 bt1695.2.1 bt1695.2.2).bind fun bt1714 => ((spec_l01Below.f x1000 bt1714.2.2.1 bt1714.2.2.2 3).bind fun bt1719 => ((spec_ShopFault.f k x1692000 x1692001 x1692002 x1692003 x1692004 x1692005 bt1714.1 bt1714.2.1 bt1719.1).bind fun bt1722 => (spec_l38Shop.l0 k x5 (wrap64 (x6 + 1)) x1000 bt1719.2.1 bt1719.2.2 bt1722.1 bt1722.2.1 bt1722.2.2.1 bt1722.2.2.2.1 bt1722.2.2.2.2.1 bt1722.2.2.2.2.2.1)))) else (if bt1695.1 = 2 then ((spec_l01Below.f x1000 bt1695.2.1 bt1695.2.2 12).bind fun bt1735 => ((spec_l01Below.f x1000 bt1735.2.1 bt1735.2.2 2001).bind fun bt1738 => ((spec_ShopKnock.f k x1692000 x1692001 x1692002 x1692003 x1692004 x1692005 bt1735.1 (wrap64 (bt1738.1 - 1000))).bind fun bt1741 => (spec_l38Shop.l0 k x5 (wrap64 (x6 + 1)) x1000 bt1738.2.1 bt1738.2.2 bt1741.1 bt1741.2.1 bt1741.2.2.1 bt1741.2.2.2.1 bt1741.2.2.2.2.1 bt1741.2.2.2.2.2.1)))) else ((spec_ShopTune.f k x1692000 x1692001 x1692002 x1692003 x1692004 x1692005).bind fun bt1754 => (spec_l38Shop.l0 k x5 (wrap64 (x6 + 1)) x1000 bt1695.2.1 bt1695.2.2 bt1754.1 bt1754.2.1 bt1754.2.2.1 bt1754.2.2.2.1 bt1754.2.2.2.2.1 bt1754.2.2.2.2.2.1)))))) else (some (x1692000, x1692001, x1692002, x1692003, x1692004, x1692005, x1001, x1002))
def spec_l38Shop.f (k : Nat) (s0_0 : List Int) (s0_1 : Int) (s0_2 : Int) : Option ((List (S96)) × Int × List Int × Int × Int × (List (S74)) × Int × Int) := (spec_l01Below.f s0_0 s0_1 s0_2 100000).bind fun bt1670 => ((spec_l19Plan.f k s0_0 bt1670.2.1 bt1670.2.2).bind fun bt1673 => ((spec_NewShop.f k (wrap64 (200000 + bt1670.1)) bt1673.1).bind fun bt1678 => ((spec_l01Below.f s0_0 bt1673.2.1 bt1673.2.2 20).bind fun bt1692 => (spec_l38Shop.l0 k bt1692.1 0 s0_0 bt1692.2.1 bt1692.2.2 bt1678.1 bt1678.2.1 bt1678.2.2.1 bt1678.2.2.2.1 bt1678.2.2.2.2.1 bt1678.2.2.2.2.2.1))))
def spec_l38Shop.T9 : Bool × List (List Nat × List Nat) := (true, [([], []), ([], []), ([1], [1]), ([0, 2, 2], [0, 2]), ([3], [3]), ([4], [4]), ([4], [4]), ([5, 3, 0, 1, 2, 3, 4, 5], [5])])
def spec_l38Shop.B9 : List Nat := [0, 0, 2, 7, 15, 31, 31, 63]
theorem spec_l38Shop.tab9 : rtab .any (opsOf Try.f91 9) = spec_l38Shop.T9 := by kernel_rfl
theorem spec_l38Shop.bits9 : waitsOk spec_l38Shop.T9.2 spec_l38Shop.B9 = true := by kernel_rfl
def spec_l38Shop.T12 : Bool × List (List Nat × List Nat) := (true, [([], []), ([], []), ([], []), ([2], [2]), ([0, 1, 3, 3], [0, 1, 3]), ([4], [4]), ([5], [5]), ([5], [5]), ([6, 4, 0, 1, 2, 3, 4, 5, 6], [6])])
def spec_l38Shop.B12 : List Nat := [0, 0, 0, 4, 15, 31, 63, 63, 127]
theorem spec_l38Shop.tab12 : rtab .any (opsOf Try.f91 12) = spec_l38Shop.T12 := by kernel_rfl
theorem spec_l38Shop.bits12 : waitsOk spec_l38Shop.T12.2 spec_l38Shop.B12 = true := by kernel_rfl
def spec_l38Shop.T15 : Bool × List (List Nat × List Nat) := (true, [([], []), ([], []), ([], []), ([2], [2]), ([3], [3]), ([0, 1, 4, 3], [0, 1, 4]), ([5], [5]), ([6], [6]), ([6], [6]), ([7, 5, 0, 1, 2, 3, 4, 5, 6, 7], [7])])
def spec_l38Shop.B15 : List Nat := [0, 0, 0, 4, 12, 31, 63, 127, 127, 255]
theorem spec_l38Shop.tab15 : rtab .any (opsOf Try.f91 15) = spec_l38Shop.T15 := by kernel_rfl
theorem spec_l38Shop.bits15 : waitsOk spec_l38Shop.T15.2 spec_l38Shop.B15 = true := by kernel_rfl
set_option maxHeartbeats 8000000 in
set_option maxRecDepth 100000 in
theorem spec_l38Shop.calls (k : Nat) (g : Nat) (s0_0 : List Int) (s0_1 : Int) (s0_2 : Int) (r1 : List (S96)) (r2 : Int) (r3 : List Int) (r4 : Int) (r5 : Int) (r6 : List (S74)) (r7 : Int) (r8 : Int) (w0 w : World) (hI : IsS129 w0 w g s0_0 s0_1 s0_2) (hB : Below w0.heap.size w0 w) (h : spec_l38Shop.f k s0_0 s0_1 s0_2 = some (r1, r2, r3, r4, r5, r6, r7, r8)) :
  Calls Try.prog 91 #[.pointer (some ⟨g, 0, none⟩)] w fun e w' => ∃ v0_ v2_ v5_ : Value, e = .returned (.agg #[v0_, .int .i64 r2, v2_, .int .i64 r4, .int .i64 r5, v5_]) ∧ Kd.R k96 96 w' w.heap.size (fun _ => True) v0_ r1 ∧ Kd.R (Kd.int .i64) 3 w' w.heap.size (fun _ => True) v2_ r3 ∧ Kd.R k74 74 w' w.heap.size (fun _ => True) v5_ r6 ∧ IsS129 w0 w' g s0_0 r7 r8 ∧ Below w0.heap.size w0 w' ∧ KeepBut w w' g none := by
 have hu36 := Try.underlying36
 have hu56 := Try.underlying56
 have HI0 := A_ hI
 have HK := A_ (KeepBut.refl w g none)
 have HL := A_ hB.size
 clear hI
 have HW0 := A_ hB.size
 have HB := A_ hB
 clear hB
 have H : ((spec_l01Below.f s0_0 s0_1 s0_2 100000).bind fun bt1670 => ((spec_l19Plan.f k s0_0 bt1670.2.1 bt1670.2.2).bind fun bt1673 => ((spec_NewShop.f k (wrap64 (200000 + bt1670.1)) bt1673.1).bind fun bt1678 => ((spec_l01Below.f s0_0 bt1673.2.1 bt1673.2.2 20).bind fun bt1692 => (spec_l38Shop.l0 k bt1692.1 0 s0_0 bt1692.2.1 bt1692.2.2 bt1678.1 bt1678.2.1 bt1678.2.2.1 bt1678.2.2.2.1 bt1678.2.2.2.2.1 bt1678.2.2.2.2.2.1))))) = some (r1, r2, r3, r4, r5, r6, r7, r8) := h
 clear h
 replace H := Option.bind_eq_some_iff.mp H
 obtain ⟨⟨t1670, t1671, t1672⟩, A20, H⟩ := H
 (try dsimp only at H)
 have A2 := A_ A20
 clear A20
 replace H := Option.bind_eq_some_iff.mp H
 obtain ⟨⟨t1673, t1676, t1677⟩, A30, H⟩ := H
 (try dsimp only at H)
 have A3 := A_ A30
 clear A30
 replace H := Option.bind_eq_some_iff.mp H
 obtain ⟨⟨t1678, t1681, t1682, t1685, t1686, t1687, t1690⟩, A40, H⟩ := H
 (try dsimp only at H)
 have A4 := A_ A40
 clear A40
 replace H := Option.bind_eq_some_iff.mp H
 obtain ⟨⟨t1692, t1693, t1694⟩, A50, H⟩ := H
 (try dsimp only at H)
 have A5 := A_ A50
 clear A50
 have H' := A_ H
 clear H
 go_enter Try.func91, Try.ntmps91
 go_wp2_with (first | ((with_reducible refine gate_dst (N := 2) rfl ?_); refine bX (N := 2) (cs := #[.slice none 0 0, .int .i64 0, .slice none 0 0, .int .i64 0, .int .i64 0, .slice none 0 0]) (t := 36) ?_; intro gb1669 hg w6 hbox hb; have n0_ := A_ (IsS129.below (oI129 HI0) hb); have n1_ := A_ (KeepBut.trans (oKe HK) (KeepBut.of_below hb g none) (.inl rfl)); have n2_ := A_ (below_step (oB129 HB) hb); have n3_ := A_ (hbox); have n4_ := A_ ((by rw [hg]; exact (keep_size (w := w) (g := g) (row := none) (by repeat (first | (with_reducible first | exact HK.out | apply KeepBut.set_ | apply keep_drewN | apply keep_drew | apply keep_alloc) | exact HK.out))) : w.heap.size ≤ gb1669)); have n5_ := A_ ((Nat.le_trans HW0.out (by rw [hg]; exact (keep_size (w := w) (g := g) (row := none) (by repeat (first | (with_reducible first | exact HK.out | apply KeepBut.set_ | apply keep_drewN | apply keep_drew | apply keep_alloc) | exact HK.out))) : w.heap.size ≤ gb1669) : w0.heap.size ≤ gb1669)); have n6_ := A_ ((by rw [hg]; exact Nat.ne_of_lt (IsS129.lt (show IsS129 w0 _ g s0_0 s0_1 s0_2 from oI129 HI0)) : g ≠ gb1669)); have n7_ := A_ ((by rw [hg]; exact Nat.ne_of_gt (IsS129.lt (show IsS129 w0 _ g s0_0 s0_1 s0_2 from oI129 HI0)) : gb1669 ≠ g)); clear HI0; clear HK; clear HB; have HI0 := n0_; have HK := n1_; have HB := n2_; have BK1669 := n3_; have GW1669 := n4_; have GE1669 := n5_; have NB0_1669 := n6_; have NB1669_0 := n7_; clear n0_ n1_ n2_ n3_ n4_ n5_ n6_ n7_; clear hb hbox hg) | ((with_reducible refine gate_callee (f := 120) rfl ?_); refine gL (some 11) Try.func120 #[.pointer (some ⟨g, 0, none⟩), .int .i64 100000] ?_; (with_reducible refine (spec_l01Below.calls g s0_0 s0_1 s0_2 100000 t1670 t1671 t1672 w0 _ ?side1 ?side2 A2.out).mono ?_); (case side1 => exact oI129 HI0); (case side2 => exact oB129 HB); rintro e w7 ⟨rfl, hi, hb, hk⟩; refine ⟨_, rfl, ?_⟩; have n0_ := A_ (KeepBut.blk hk (g' := gb1669) (o := .cells #[.slice none 0 0, .int .i64 0, .slice none 0 0, .int .i64 0, .int .i64 0, .slice none 0 0] 36 (0, 0)) (oK BK1669) NB1669_0.out (by simp)); have n1_ := A_ (KeepBut.trans (oKe HK) hk (.inl rfl)); have n2_ := A_ (hb); have n3_ := A_ (hi); clear BK1669; clear HK; clear HB; clear HI0; have BK1669 := n0_; have HK := n1_; have HB := n2_; have HI0 := n3_; clear n0_ n1_ n2_ n3_; (try clear hb); (try clear hb2); (try clear hk); (try clear hi)) | ((with_reducible refine gate_callee (f := 121) rfl ?_); refine gL (some 14) Try.func121 #[.pointer (some ⟨g, 0, none⟩)] ?_; (with_reducible refine (spec_l19Plan.calls k g s0_0 t1671 t1672 t1673 t1676 t1677 w0 _ ?side1 ?side2 A3.out).mono ?_); (case side1 => exact oI129 HI0); (case side2 => exact oB129 HB); rintro e w8 ⟨v1674, rfl, ho0, hi, hb, hk⟩; refine ⟨_, rfl, ?_⟩; have n0_ := A_ (KeepBut.blk hk (g' := gb1669) (o := .cells #[.slice none 0 0, .int .i64 0, .slice none 0 0, .int .i64 0, .int .i64 0, .slice none 0 0] 36 (0, 0)) (oK BK1669) NB1669_0.out (by simp)); have n1_ := A_ (Kd.R_lower ho0 (keep_size (w := w) (g := g) (row := none) (by repeat (first | (with_reducible first | exact HK.out | apply KeepBut.set_ | apply keep_drewN | apply keep_drew | apply keep_alloc | refine keep_far ?_ GW1669.out _) | exact HK.out)))); have n2_ := A_ (KeepBut.trans (oKe HK) hk (.inl rfl)); have n3_ := A_ (hb); have n4_ := A_ (hi); clear BK1669; clear HK; clear HB; clear HI0; have BK1669 := n0_; have HO1675 := n1_; have HK := n2_; have HB := n3_; have HI0 := n4_; clear n0_ n1_ n2_ n3_ n4_; (try clear hb); (try clear hb2); (try clear hk); (try clear hi); (try clear ho0); obtain ⟨Ao9, co9, eo9⟩ := Kd.R_slice HO1675.out; subst eo9) | ((with_reducible refine gate_callee (f := 23) rfl ?_); refine gL (some 15) Try.func23 #[.int .i64 (wrap64 (200000 + t1670)), .slice Ao9 t1673.length co9] ?_; (with_reducible refine (spec_NewShop.calls k (wrap64 (200000 + t1670)) _ _ t1673 t1678 t1681 t1682 t1685 t1686 t1687 t1690 _ ?side1 ?side2 A4.out).mono ?_); (case side1 => repeat (first | exact (Kd.R_reads' HO1675.out).2.2 | (with_reducible refine Kd.C_alloc ?_ _) | (with_reducible refine Kd.C_drewN ?_ _) | (with_reducible refine Kd.C_drew ?_))); (case side2 => exact (Kd.R_reads' HO1675.out).2.1); rintro e w10 ⟨v1679, v1683, v1688, rfl, ho0, ho1, ho2, hb⟩; refine ⟨_, rfl, ?_⟩; have n0_ := A_ (Kd.R_elder' (oR HO1675) (Kd.R_base ho0) hb); have n1_ := A_ (Kd.R_lower (Kd.R_new' ho0 (Kd.R_lt (oR HO1675))) (keep_size (w := w) (g := g) (row := none) (by repeat (first | (with_reducible first | exact HK.out | apply KeepBut.set_ | apply keep_drewN | apply keep_drew | apply keep_alloc | refine keep_far ?_ GW1669.out _) | exact HK.out)))); have n2_ := A_ (Kd.R_lower ho1 (keep_size (w := w) (g := g) (row := none) (by repeat (first | (with_reducible first | exact HK.out | apply KeepBut.set_ | apply keep_drewN | apply keep_drew | apply keep_alloc | refine keep_far ?_ GW1669.out _) | exact HK.out)))); have n3_ := A_ (Kd.R_lower ho2 (keep_size (w := w) (g := g) (row := none) (by repeat (first | (with_reducible first | exact HK.out | apply KeepBut.set_ | apply keep_drewN | apply keep_drew | apply keep_alloc | refine keep_far ?_ GW1669.out _) | exact HK.out)))); have n4_ := A_ (IsS129.below (oI129 HI0) hb); have n5_ := A_ (bb BK1669 hb); have n6_ := A_ (KeepBut.trans (oKe HK) (KeepBut.of_below hb g none) (.inl rfl)); have n7_ := A_ (below_step (oB129 HB) hb); clear HO1675; clear HI0; clear BK1669; clear HK; clear HB; have HO1675 := n0_; have HO1680 := n1_; have HO1684 := n2_; have HO1689 := n3_; have HI0 := n4_; have BK1669 := n5_; have HK := n6_; have HB := n7_; clear n0_ n1_ n2_ n3_ n4_ n5_ n6_ n7_; (try clear hb); (try clear hb2); (try clear hk); (try clear hi); (try clear ho0); (try clear ho1); (try clear ho2)) | ((with_reducible refine gate_dst (N := 3) rfl ?_); refine bX (N := 3) (cs := #[.slice none 0 0, .int .i64 0, .slice none 0 0, .int .i64 0, .int .i64 0, .slice none 0 0]) (t := 36) ?_; intro gb1691 hg w11 hbox hb; have n0_ := A_ (Kd.R_below (oR HO1675) hb); have n1_ := A_ (Kd.R_below (oR HO1680) hb); have n2_ := A_ (Kd.R_below (oR HO1684) hb); have n3_ := A_ (Kd.R_below (oR HO1689) hb); have n4_ := A_ (IsS129.below (oI129 HI0) hb); have n5_ := A_ (bb BK1669 hb); have n6_ := A_ (KeepBut.trans (oKe HK) (KeepBut.of_below hb g none) (.inl rfl)); have n7_ := A_ (below_step (oB129 HB) hb); have n8_ := A_ (hbox); have n9_ := A_ ((by rw [hg]; exact (keep_size (w := w) (g := g) (row := none) (by repeat (first | (with_reducible first | exact HK.out | apply KeepBut.set_ | apply keep_drewN | apply keep_drew | apply keep_alloc | refine keep_far ?_ GW1669.out _) | exact HK.out))) : w.heap.size ≤ gb1691)); have n10_ := A_ ((Nat.le_trans HW0.out (by rw [hg]; exact (keep_size (w := w) (g := g) (row := none) (by repeat (first | (with_reducible first | exact HK.out | apply KeepBut.set_ | apply keep_drewN | apply keep_drew | apply keep_alloc | refine keep_far ?_ GW1669.out _) | exact HK.out))) : w.heap.size ≤ gb1691) : w0.heap.size ≤ gb1691)); have n11_ := A_ (nL BK1669 hg); have n12_ := A_ (nG BK1669 hg); have n13_ := A_ ((by rw [hg]; exact Nat.ne_of_lt (IsS129.lt (show IsS129 w0 _ g s0_0 t1676 t1677 from oI129 HI0)) : g ≠ gb1691)); have n14_ := A_ ((by rw [hg]; exact Nat.ne_of_gt (IsS129.lt (show IsS129 w0 _ g s0_0 t1676 t1677 from oI129 HI0)) : gb1691 ≠ g)); clear HO1675; clear HO1680; clear HO1684; clear HO1689; clear HI0; clear BK1669; clear HK; clear HB; have HO1675 := n0_; have HO1680 := n1_; have HO1684 := n2_; have HO1689 := n3_; have HI0 := n4_; have BK1669 := n5_; have HK := n6_; have HB := n7_; have BK1691 := n8_; have GW1691 := n9_; have GE1691 := n10_; have NB1669_1691 := n11_; have NB1691_1669 := n12_; have NB0_1691 := n13_; have NB1691_0 := n14_; clear n0_ n1_ n2_ n3_ n4_ n5_ n6_ n7_ n8_ n9_ n10_ n11_ n12_ n13_ n14_; clear hb hbox hg; obtain ⟨Ao12, co12, eo12⟩ := Kd.R_slice HO1680.out; subst eo12; have hnb13 := NB1691_1669.out; have hnc13 := NB1669_1691.out; have hnb14 := NB1691_0.out; have hnc14 := NB0_1691.out; have hcz15_0 := cz BK1691 0; have hcz15_1 := cz BK1691 1; have hcz15_2 := cz BK1691 2; have hcz15_3 := cz BK1691 3; have hcz15_4 := cz BK1691 4; have hcz15_5 := cz BK1691 5; have hfz15_0 := blk_frozen BK1691.out 0; have hfz15_1 := blk_frozen BK1691.out 1; have hfz15_2 := blk_frozen BK1691.out 2; have hfz15_3 := blk_frozen BK1691.out 3; have hfz15_4 := blk_frozen BK1691.out 4; have hfz15_5 := blk_frozen BK1691.out 5; obtain ⟨Ao16, co16, eo16⟩ := Kd.R_slice HO1684.out; subst eo16; obtain ⟨Ao17, co17, eo17⟩ := Kd.R_slice HO1689.out; subst eo17) | ((with_reducible refine gate_callee (f := 120) rfl ?_); refine gL (some 19) Try.func120 #[.pointer (some ⟨g, 0, none⟩), .int .i64 20] ?_; (with_reducible refine (spec_l01Below.calls g s0_0 t1676 t1677 20 t1692 t1693 t1694 w0 _ ?side1 ?side2 A5.out).mono ?_); (case side1 => exact oI129 HI0); (case side2 => exact oB129 HB); rintro e w18 ⟨rfl, hi, hb, hk⟩; refine ⟨_, rfl, ?_⟩; have n0_ := A_ (KeepBut.blk hk (g' := gb1669) (o := .cells #[.slice none 0 0, .int .i64 0, .slice none 0 0, .int .i64 0, .int .i64 0, .slice none 0 0] 36 (0, 0)) (by (with_reducible repeat (first | refine blk_drewN ?_ _ | refine blk_drew ?_ | refine blk_alloc ?_ _)); refine blk_far ?_ NB1669_1691.out _; (with_reducible repeat (first | refine blk_drewN ?_ _ | refine blk_drew ?_ | refine blk_alloc ?_ _)); refine blk_far ?_ NB1669_1691.out _; (with_reducible repeat (first | refine blk_drewN ?_ _ | refine blk_drew ?_ | refine blk_alloc ?_ _)); refine blk_far ?_ NB1669_1691.out _; (with_reducible repeat (first | refine blk_drewN ?_ _ | refine blk_drew ?_ | refine blk_alloc ?_ _)); refine blk_far ?_ NB1669_1691.out _; (with_reducible repeat (first | refine blk_drewN ?_ _ | refine blk_drew ?_ | refine blk_alloc ?_ _)); refine blk_far ?_ NB1669_1691.out _; (with_reducible repeat (first | refine blk_drewN ?_ _ | refine blk_drew ?_ | refine blk_alloc ?_ _)); refine blk_far ?_ NB1669_1691.out _; (with_reducible repeat (first | refine blk_drewN ?_ _ | refine blk_drew ?_ | refine blk_alloc ?_ _)); exact BK1669.out) NB1669_0.out (by simp)); have n1_ := A_ (Kd.R_mono (Kd.R_keep (IsS129.apart (show IsS129 w0 _ g s0_0 t1676 t1677 from oI129 HI0) (by (with_reducible repeat (first | apply Kd.R_alloc | apply Kd.R_drewN | apply Kd.R_drew)); exact (Kd.R_mono (Kd.R_far (p := ⟨gb1691, 5, none⟩) (Kd.R_far (p := ⟨gb1691, 4, none⟩) (Kd.R_far (p := ⟨gb1691, 3, none⟩) (Kd.R_far (p := ⟨gb1691, 2, none⟩) (Kd.R_far (p := ⟨gb1691, 1, none⟩) (Kd.R_far (p := ⟨gb1691, 0, none⟩) (Kd.R_types HO1675.out BK1691.out (by decide)) (fun _ hk => hk.2) (.slice Ao12 t1678.length co12)) (fun _ hk => hk.2) (.int .i64 t1681)) (fun _ hk => hk.2) (.slice Ao16 t1682.length co16)) (fun _ hk => hk.2) (.int .i64 t1685)) (fun _ hk => hk.2) (.int .i64 t1686)) (fun _ hk => hk.2) (.slice Ao17 t1687.length co17)) (fun _ h_ => h_.1))) (by decide)) hk (fun _ h => h.2)) (fun _ h => h.1)); have n2_ := A_ (Kd.R_mono (Kd.R_keep (IsS129.apart (show IsS129 w0 _ g s0_0 t1676 t1677 from oI129 HI0) (by (with_reducible repeat (first | apply Kd.R_alloc | apply Kd.R_drewN | apply Kd.R_drew)); exact (Kd.R_mono (Kd.R_far (p := ⟨gb1691, 5, none⟩) (Kd.R_far (p := ⟨gb1691, 4, none⟩) (Kd.R_far (p := ⟨gb1691, 3, none⟩) (Kd.R_far (p := ⟨gb1691, 2, none⟩) (Kd.R_far (p := ⟨gb1691, 1, none⟩) (Kd.R_far (p := ⟨gb1691, 0, none⟩) (Kd.R_types HO1680.out BK1691.out (by decide)) (fun _ hk => hk.2) (.slice Ao12 t1678.length co12)) (fun _ hk => hk.2) (.int .i64 t1681)) (fun _ hk => hk.2) (.slice Ao16 t1682.length co16)) (fun _ hk => hk.2) (.int .i64 t1685)) (fun _ hk => hk.2) (.int .i64 t1686)) (fun _ hk => hk.2) (.slice Ao17 t1687.length co17)) (fun _ h_ => h_.1))) (by decide)) hk (fun _ h => h.2)) (fun _ h => h.1)); have n3_ := A_ (Kd.R_mono (Kd.R_keep (IsS129.apart (show IsS129 w0 _ g s0_0 t1676 t1677 from oI129 HI0) (by (with_reducible repeat (first | apply Kd.R_alloc | apply Kd.R_drewN | apply Kd.R_drew)); exact (Kd.R_mono (Kd.R_far (p := ⟨gb1691, 5, none⟩) (Kd.R_far (p := ⟨gb1691, 4, none⟩) (Kd.R_far (p := ⟨gb1691, 3, none⟩) (Kd.R_far (p := ⟨gb1691, 2, none⟩) (Kd.R_far (p := ⟨gb1691, 1, none⟩) (Kd.R_far (p := ⟨gb1691, 0, none⟩) (Kd.R_types HO1684.out BK1691.out (by decide)) (fun _ hk => hk.2) (.slice Ao12 t1678.length co12)) (fun _ hk => hk.2) (.int .i64 t1681)) (fun _ hk => hk.2) (.slice Ao16 t1682.length co16)) (fun _ hk => hk.2) (.int .i64 t1685)) (fun _ hk => hk.2) (.int .i64 t1686)) (fun _ hk => hk.2) (.slice Ao17 t1687.length co17)) (fun _ h_ => h_.1))) (by decide)) hk (fun _ h => h.2)) (fun _ h => h.1)); have n4_ := A_ (Kd.R_mono (Kd.R_keep (IsS129.apart (show IsS129 w0 _ g s0_0 t1676 t1677 from oI129 HI0) (by (with_reducible repeat (first | apply Kd.R_alloc | apply Kd.R_drewN | apply Kd.R_drew)); exact (Kd.R_mono (Kd.R_far (p := ⟨gb1691, 5, none⟩) (Kd.R_far (p := ⟨gb1691, 4, none⟩) (Kd.R_far (p := ⟨gb1691, 3, none⟩) (Kd.R_far (p := ⟨gb1691, 2, none⟩) (Kd.R_far (p := ⟨gb1691, 1, none⟩) (Kd.R_far (p := ⟨gb1691, 0, none⟩) (Kd.R_types HO1689.out BK1691.out (by decide)) (fun _ hk => hk.2) (.slice Ao12 t1678.length co12)) (fun _ hk => hk.2) (.int .i64 t1681)) (fun _ hk => hk.2) (.slice Ao16 t1682.length co16)) (fun _ hk => hk.2) (.int .i64 t1685)) (fun _ hk => hk.2) (.int .i64 t1686)) (fun _ hk => hk.2) (.slice Ao17 t1687.length co17)) (fun _ h_ => h_.1))) (by decide)) hk (fun _ h => h.2)) (fun _ h => h.1)); have n5_ := A_ (KeepBut.blk hk (g' := gb1691) (o := .cells #[.slice Ao12 t1678.length co12, .int .i64 t1681, .slice Ao16 t1682.length co16, .int .i64 t1685, .int .i64 t1686, .slice Ao17 t1687.length co17] 36 (0, 0)) (by (with_reducible repeat (first | refine blk_drewN ?_ _ | refine blk_drew ?_ | refine blk_alloc ?_ _)); refine blk_put (cs := #[.slice Ao12 t1678.length co12, .int .i64 t1681, .slice Ao16 t1682.length co16, .int .i64 t1685, .int .i64 t1686, .slice none 0 0]) ?_ 5 _ rfl; (with_reducible repeat (first | refine blk_drewN ?_ _ | refine blk_drew ?_ | refine blk_alloc ?_ _)); refine blk_put (cs := #[.slice Ao12 t1678.length co12, .int .i64 t1681, .slice Ao16 t1682.length co16, .int .i64 t1685, .int .i64 0, .slice none 0 0]) ?_ 4 _ rfl; (with_reducible repeat (first | refine blk_drewN ?_ _ | refine blk_drew ?_ | refine blk_alloc ?_ _)); refine blk_put (cs := #[.slice Ao12 t1678.length co12, .int .i64 t1681, .slice Ao16 t1682.length co16, .int .i64 0, .int .i64 0, .slice none 0 0]) ?_ 3 _ rfl; (with_reducible repeat (first | refine blk_drewN ?_ _ | refine blk_drew ?_ | refine blk_alloc ?_ _)); refine blk_put (cs := #[.slice Ao12 t1678.length co12, .int .i64 t1681, .slice none 0 0, .int .i64 0, .int .i64 0, .slice none 0 0]) ?_ 2 _ rfl; (with_reducible repeat (first | refine blk_drewN ?_ _ | refine blk_drew ?_ | refine blk_alloc ?_ _)); refine blk_put (cs := #[.slice Ao12 t1678.length co12, .int .i64 0, .slice none 0 0, .int .i64 0, .int .i64 0, .slice none 0 0]) ?_ 1 _ rfl; (with_reducible repeat (first | refine blk_drewN ?_ _ | refine blk_drew ?_ | refine blk_alloc ?_ _)); refine blk_put (cs := #[.slice none 0 0, .int .i64 0, .slice none 0 0, .int .i64 0, .int .i64 0, .slice none 0 0]) ?_ 0 _ rfl; (with_reducible repeat (first | refine blk_drewN ?_ _ | refine blk_drew ?_ | refine blk_alloc ?_ _)); exact BK1691.out) NB1691_0.out (by simp)); have n6_ := A_ (KeepBut.trans (oKe HK) hk (.inl rfl)); have n7_ := A_ (hb); have n8_ := A_ (hi); clear BK1669; clear HO1675; clear HO1680; clear HO1684; clear HO1689; clear BK1691; clear HK; clear HB; clear HI0; have BK1669 := n0_; have HO1675 := n1_; have HO1680 := n2_; have HO1684 := n3_; have HO1689 := n4_; have BK1691 := n5_; have HK := n6_; have HB := n7_; have HI0 := n8_; clear n0_ n1_ n2_ n3_ n4_ n5_ n6_ n7_ n8_; (try clear hb); (try clear hb2); (try clear hk); (try clear hi)))
 go_loopg [6] k (fun kq v6 w' => ∃ (x6_1 : Int) (x1001_1 : Int) (x1002_1 : Int) (x1692000_1 : List (S96)) (x1692001_1 : Int) (x1692002_1 : List Int) (x1692003_1 : Int) (x1692004_1 : Int) (x1692005_1 : List (S74)) (u1692000 : Value) (u1692002 : Value) (u1692005 : Value), v6 = .int .i64 x6_1 ∧ Aside0 (spec_l38Shop.l0 kq t1692 x6_1 s0_0 x1001_1 x1002_1 x1692000_1 x1692001_1 x1692002_1 x1692003_1 x1692004_1 x1692005_1 = some (r1, r2, r3, r4, r5, r6, r7, r8)) ∧ Aside0 (kq ≤ k) ∧ Aside0 (Kd.R k96 96 w' w.heap.size (fun _ => True) u1692000 x1692000_1) ∧ Aside0 (Kd.R (Kd.int .i64) 3 w' w.heap.size (fun _ => True) u1692002 x1692002_1) ∧ Aside0 (Kd.R k74 74 w' w.heap.size (fun _ => True) u1692005 x1692005_1) ∧ Aside0 (w'.heap[gb1669]? = some (.cells #[(.slice none 0 0), .int .i64 0, (.slice none 0 0), .int .i64 0, .int .i64 0, (.slice none 0 0)] 36 (0, 0))) ∧ Aside0 (w'.heap[gb1691]? = some (.cells #[u1692000, .int .i64 x1692001_1, u1692002, .int .i64 x1692003_1, .int .i64 x1692004_1, u1692005] 36 (0, 0))) ∧ Aside0 (IsS129 w0 w' g s0_0 x1001_1 x1002_1) ∧ Aside0 (KeepBut w w' g none) ∧ Aside0 (Below w0.heap.size w0 w'))
 case atStart => exact ⟨(0), (t1693), (t1694), (t1678), (t1681), (t1682), (t1685), (t1686), (t1687), (.slice Ao12 t1678.length co12), (.slice Ao16 t1682.length co16), (.slice Ao17 t1687.length co17), (by first | rfl | (simp; done) | (simp [*]; done)), H', ⟨Nat.le_refl _⟩, ⟨by (with_reducible repeat (first | apply Kd.R_alloc | apply Kd.R_drewN | apply Kd.R_drew)); exact Kd.R_mono HO1680.out (fun _ hk => trivial)⟩, ⟨oR HO1684⟩, ⟨oR HO1689⟩, ⟨oK BK1669⟩, ⟨oK BK1691⟩, ⟨oI129 HI0⟩, ⟨oKe HK⟩, ⟨oB129 HB⟩⟩
 case round =>
  clear H'
  try clear c1
  try clear c2
  try clear p2
  try clear p6
  try clear c9
  try clear c12
  try clear c13
  try clear c14
  try clear hcz15_0
  try clear hcz15_1
  try clear hcz15_2
  try clear hcz15_3
  try clear hcz15_4
  try clear hcz15_5
  try clear hfz15_0
  try clear hfz15_1
  try clear hfz15_2
  try clear hfz15_3
  try clear hfz15_4
  try clear hfz15_5
  obtain ⟨x6_1, x1001_1, x1002_1, x1692000_1, x1692001_1, x1692002_1, x1692003_1, x1692004_1, x1692005_1, u1692000, u1692002, u1692005, rfl, HA, HK1, HO_1692000, HO_1692002, HO_1692005, BK1669, BK1691, HI0, HK, HB⟩ := hrel
  cases gk with
  | zero => exact absurd HA.out (by simp [spec_l38Shop.l0])
  | succ k1 =>
   have H := HA.out
   clear HA
   simp only [spec_l38Shop.l0] at H
   by_cases c19 : x6_1 < t1692
   ·rw [if_pos c19] at H
    have c19b0 : decide (x6_1 < t1692) = true := decide_eq_true c19
    clear c19
    replace H := Option.bind_eq_some_iff.mp H
    obtain ⟨⟨t1695, t1696, t1697⟩, A200, H⟩ := H
    (try dsimp only at H)
    have A20 := A_ A200
    clear A200
    by_cases c21 : t1695 = 0
    ·rw [if_pos c21] at H
     have c21b0 : (t1695 == 0) = true := beq_iff_eq.mpr c21
     have c21b1 : (t1695 != 0) = false := bne_eq_false_iff_eq.mpr c21
     clear c21
     replace H := Option.bind_eq_some_iff.mp H
     obtain ⟨⟨t1698, t1699, t1700⟩, A220, H⟩ := H
     (try dsimp only at H)
     have A22 := A_ A220
     clear A220
     replace H := Option.bind_eq_some_iff.mp H
     obtain ⟨⟨t1701, t1704, t1705, t1708, t1709, t1710, t1713⟩, A230, H⟩ := H
     (try dsimp only at H)
     have A23 := A_ A230
     clear A230
     have H' := A_ H
     clear H
     try go_wp2_with (first | ((with_reducible refine gate_callee (f := 120) rfl ?_); refine gL (some 26) Try.func120 #[.pointer (some ⟨g, 0, none⟩), .int .i64 8] ?_; (with_reducible refine (spec_l01Below.calls g s0_0 x1001_1 x1002_1 8 t1695 t1696 t1697 w0 _ ?side1 ?side2 A20.out).mono ?_); (case side1 => exact oI129 HI0); (case side2 => exact oB129 HB); rintro e w24 ⟨rfl, hi, hb, hk⟩; refine ⟨_, rfl, ?_⟩; have n0_ := A_ (Kd.R_mono (Kd.R_keep (IsS129.apart (show IsS129 w0 _ g s0_0 x1001_1 x1002_1 from oI129 HI0) (oR HO_1692000) (by decide)) hk (fun _ h => h.2)) (fun _ h => h.1)); have n1_ := A_ (Kd.R_mono (Kd.R_keep (IsS129.apart (show IsS129 w0 _ g s0_0 x1001_1 x1002_1 from oI129 HI0) (oR HO_1692002) (by decide)) hk (fun _ h => h.2)) (fun _ h => h.1)); have n2_ := A_ (Kd.R_mono (Kd.R_keep (IsS129.apart (show IsS129 w0 _ g s0_0 x1001_1 x1002_1 from oI129 HI0) (oR HO_1692005) (by decide)) hk (fun _ h => h.2)) (fun _ h => h.1)); have n3_ := A_ (KeepBut.blk hk (g' := gb1669) (o := .cells #[.slice none 0 0, .int .i64 0, .slice none 0 0, .int .i64 0, .int .i64 0, .slice none 0 0] 36 (0, 0)) (oK BK1669) NB1669_0.out (by simp)); have n4_ := A_ (KeepBut.blk hk (g' := gb1691) (o := .cells #[u1692000, .int .i64 x1692001_1, u1692002, .int .i64 x1692003_1, .int .i64 x1692004_1, u1692005] 36 (0, 0)) (oK BK1691) NB1691_0.out (by simp)); have n5_ := A_ (KeepBut.trans (oKe HK) hk (.inl rfl)); have n6_ := A_ (hb); have n7_ := A_ (hi); clear HO_1692000; clear HO_1692002; clear HO_1692005; clear BK1669; clear BK1691; clear HK; clear HB; clear HI0; have HO_1692000 := n0_; have HO_1692002 := n1_; have HO_1692005 := n2_; have BK1669 := n3_; have BK1691 := n4_; have HK := n5_; have HB := n6_; have HI0 := n7_; clear n0_ n1_ n2_ n3_ n4_ n5_ n6_ n7_; (try clear hb); (try clear hb2); (try clear hk); (try clear hi)))
     have n0_ := A_ (Kd.R_drew HO_1692000.out)
     have n1_ := A_ (Kd.R_drew HO_1692002.out)
     have n2_ := A_ (Kd.R_drew HO_1692005.out)
     have n3_ := A_ (blk_drew BK1669.out)
     have n4_ := A_ (blk_drew BK1691.out)
     have n5_ := A_ (IsS129.drew HI0.out)
     have n6_ := A_ (keep_drew HK.out)
     have n7_ := A_ (below_drew1 HB.out)
     clear HO_1692000
     clear HO_1692002
     clear HO_1692005
     clear BK1669
     clear BK1691
     clear HI0
     clear HK
     clear HB
     have HO_1692000 := n0_
     have HO_1692002 := n1_
     have HO_1692005 := n2_
     have BK1669 := n3_
     have BK1691 := n4_
     have HI0 := n5_
     have HK := n6_
     have HB := n7_
     clear n0_ n1_ n2_ n3_ n4_ n5_ n6_ n7_
     refine start_ (n := 8) (S := fun w' => w'.cell? ⟨gb1691, 0, none⟩ = some (u1692000) ∧ w'.cell? ⟨gb1691, 1, none⟩ = some (.int .i64 x1692001_1) ∧ w'.cell? ⟨gb1691, 2, none⟩ = some (u1692002) ∧ w'.cell? ⟨gb1691, 3, none⟩ = some (.int .i64 x1692003_1) ∧ w'.cell? ⟨gb1691, 4, none⟩ = some (.int .i64 x1692004_1) ∧ w'.cell? ⟨gb1691, 5, none⟩ = some (u1692005)) (ds := [7]) #[false, false, false, false, false, false, false, false] (by kernel_rfl) rfl rfl ⟨cz BK1691 0, cz BK1691 1, cz BK1691 2, cz BK1691 3, cz BK1691 4, cz BK1691 5⟩ (fun hHeld => ?_); refine with_tabW spec_l38Shop.tab9 spec_l38Shop.bits9 (fun HT_ HW_ => ?_)
     generalize w24.drew = w25 at HO_1692000 HO_1692002 HO_1692005 BK1669 BK1691 HI0 HK HB hHeld ⊢
     refine pA 1 (some 36) HT_.out ?_
     refine pT 0 (some 35) HT_.out HW_.out hHeld ?_
     refine one_ (i := 2) (N := some 37) #[true, true, true, false, false, false, false, false] rfl rfl (one_of HT_.out (by kernel_rfl)) (by decide) (fun K hK => ?_)
     refine goes_ Try.func120 (by kernel_rfl) rfl #[.pointer (some ⟨g, 0, none⟩), .int .i64 30] (by rfl) rfl rfl (by (try simp only [List.map_toArray, List.map_cons, List.map_nil]); first | done | rfl | (simp only [List.length_drop, List.length_take]; rfl)) ?_
     with_reducible refine (spec_l01Below.calls g s0_0 t1696 t1697 30 t1698 t1699 t1700 w0 _ ?side1 ?side2 A22.out).mono ?_
     (case side1 => exact oI129 HI0)
     (case side2 => exact oB129 HB)
     rintro e w26 ⟨rfl, hi, hb, hk⟩
     refine ⟨_, rfl, ?_⟩
     have n0_ := A_ (Kd.R_mono (Kd.R_keep (IsS129.apart (show IsS129 w0 _ g s0_0 t1696 t1697 from oI129 HI0) (oR HO_1692000) (by decide)) hk (fun _ h => h.2)) (fun _ h => h.1))
     have n1_ := A_ (Kd.R_mono (Kd.R_keep (IsS129.apart (show IsS129 w0 _ g s0_0 t1696 t1697 from oI129 HI0) (oR HO_1692002) (by decide)) hk (fun _ h => h.2)) (fun _ h => h.1))
     have n2_ := A_ (Kd.R_mono (Kd.R_keep (IsS129.apart (show IsS129 w0 _ g s0_0 t1696 t1697 from oI129 HI0) (oR HO_1692005) (by decide)) hk (fun _ h => h.2)) (fun _ h => h.1))
     have n3_ := A_ (KeepBut.blk hk (g' := gb1669) (o := .cells #[.slice none 0 0, .int .i64 0, .slice none 0 0, .int .i64 0, .int .i64 0, .slice none 0 0] 36 (0, 0)) (oK BK1669) NB1669_0.out (by simp))
     have n4_ := A_ (KeepBut.blk hk (g' := gb1691) (o := .cells #[u1692000, .int .i64 x1692001_1, u1692002, .int .i64 x1692003_1, .int .i64 x1692004_1, u1692005] 36 (0, 0)) (oK BK1691) NB1691_0.out (by simp))
     have n5_ := A_ (KeepBut.trans (oKe HK) hk (.inl rfl))
     have n6_ := A_ (hb)
     have n7_ := A_ (hi)
     clear HO_1692000
     clear HO_1692002
     clear HO_1692005
     clear BK1669
     clear BK1691
     clear HK
     clear HB
     clear HI0
     have HO_1692000 := n0_
     have HO_1692002 := n1_
     have HO_1692005 := n2_
     have BK1669 := n3_
     have BK1691 := n4_
     have HK := n5_
     have HB := n6_
     have HI0 := n7_
     clear n0_ n1_ n2_ n3_ n4_ n5_ n6_ n7_
     (try clear hb)
     (try clear hb2)
     (try clear hk)
     (try clear hi)
     obtain ⟨Ao27, co27, eo27⟩ := Kd.R_slice HO_1692000.out
     (first | subst eo27 | (injection eo27 with f1_ f2_ f3_; have f4_ := f1_.symm; have f5_ := f3_.symm; clear f1_ f2_ f3_; subst f4_; subst f5_))
     obtain ⟨Ao28, co28, eo28⟩ := Kd.R_slice HO_1692002.out
     (first | subst eo28 | (injection eo28 with f1_ f2_ f3_; have f4_ := f1_.symm; have f5_ := f3_.symm; clear f1_ f2_ f3_; subst f4_; subst f5_))
     obtain ⟨Ao29, co29, eo29⟩ := Kd.R_slice HO_1692005.out
     (first | subst eo29 | (injection eo29 with f1_ f2_ f3_; have f4_ := f1_.symm; have f5_ := f3_.symm; clear f1_ f2_ f3_; subst f4_; subst f5_))
     refine hK.out _ _ ⟨cz BK1691 0, cz BK1691 1, cz BK1691 2, cz BK1691 3, cz BK1691 4, cz BK1691 5⟩ (fun hHeld => ?_)
     clear hK K
     refine norm_ (a' := ?_) ?_ ?_
     rotate_left
     ·show Act.put _ (some 37) _ = _
      simp only [Act.put, List.setIfInBounds_toArray, List.set_cons_zero, List.set_cons_succ, i64_w, i32_w]
      rfl
     refine one_ (i := 3) (N := some 38) #[true, true, true, true, false, false, false, false] rfl rfl (one_of HT_.out (by kernel_rfl)) (by decide) (fun K hK => ?_)
     refine goes_ Try.func34 (by kernel_rfl) rfl #[.agg #[.slice Ao27 x1692000_1.length co27, .int .i64 x1692001_1, .slice Ao28 x1692002_1.length co28, .int .i64 x1692003_1, .int .i64 x1692004_1, .slice Ao29 x1692005_1.length co29], .int .i64 t1698] (by rfl) rfl rfl (by (try simp only [List.map_toArray, List.map_cons, List.map_nil]); first | done | rfl | (simp only [List.length_drop, List.length_take]; rfl)) ?_
     with_reducible refine (spec_ShopWarm.calls k1 _ _ x1692000_1 x1692001_1 _ _ x1692002_1 x1692003_1 x1692004_1 _ _ x1692005_1 t1698 t1701 t1704 t1705 t1708 t1709 t1710 t1713 _ ?side1 ?side2 ?side3 ?side4 ?side5 ?side6 A23.out).mono ?_
     (case side1 => repeat (first | exact (Kd.R_reads' HO_1692000.out).2.2 | (with_reducible refine Kd.C_alloc ?_ _) | (with_reducible refine Kd.C_drewN ?_ _) | (with_reducible refine Kd.C_drew ?_)))
     (case side2 => exact (Kd.R_reads' HO_1692000.out).2.1)
     (case side3 => repeat (first | exact (Kd.R_reads' HO_1692002.out).2.2 | (with_reducible refine Kd.C_alloc ?_ _) | (with_reducible refine Kd.C_drewN ?_ _) | (with_reducible refine Kd.C_drew ?_)))
     (case side4 => exact (Kd.R_reads' HO_1692002.out).2.1)
     (case side5 => repeat (first | exact (Kd.R_reads' HO_1692005.out).2.2 | (with_reducible refine Kd.C_alloc ?_ _) | (with_reducible refine Kd.C_drewN ?_ _) | (with_reducible refine Kd.C_drew ?_)))
     (case side6 => exact (Kd.R_reads' HO_1692005.out).2.1)
     rintro e w30 ⟨v1702, v1706, v1711, rfl, ho0, ho1, ho2, hb⟩
     refine ⟨_, rfl, ?_⟩
     have n0_ := A_ (Kd.R_elder' (oR HO_1692000) (Kd.R_base ho0) hb)
     have n1_ := A_ (Kd.R_elder' (oR HO_1692002) (Kd.R_base ho1) hb)
     have n2_ := A_ (Kd.R_elder' (oR HO_1692005) (Kd.R_base ho2) hb)
     have n3_ := A_ (Kd.R_lower (Kd.R_new' ho0 (Kd.R_lt (oR HO_1692000))) (keep_size (w := w) (g := g) (row := none) (by repeat (first | (with_reducible first | exact HK.out | apply KeepBut.set_ | apply keep_drewN | apply keep_drew | apply keep_alloc | refine keep_far ?_ GW1669.out _ | refine keep_far ?_ GW1691.out _) | exact HK.out))))
     have n4_ := A_ (Kd.R_lower (Kd.R_new' ho1 (Kd.R_lt (oR HO_1692002))) (keep_size (w := w) (g := g) (row := none) (by repeat (first | (with_reducible first | exact HK.out | apply KeepBut.set_ | apply keep_drewN | apply keep_drew | apply keep_alloc | refine keep_far ?_ GW1669.out _ | refine keep_far ?_ GW1691.out _) | exact HK.out))))
     have n5_ := A_ (Kd.R_lower (Kd.R_new' ho2 (Kd.R_lt (oR HO_1692005))) (keep_size (w := w) (g := g) (row := none) (by repeat (first | (with_reducible first | exact HK.out | apply KeepBut.set_ | apply keep_drewN | apply keep_drew | apply keep_alloc | refine keep_far ?_ GW1669.out _ | refine keep_far ?_ GW1691.out _) | exact HK.out))))
     have n6_ := A_ (bb BK1669 hb)
     have n7_ := A_ (bb BK1691 hb)
     have n8_ := A_ (IsS129.below (oI129 HI0) hb)
     have n9_ := A_ (KeepBut.trans (oKe HK) (KeepBut.of_below hb g none) (.inl rfl))
     have n10_ := A_ (below_step (oB129 HB) hb)
     clear HO_1692000
     clear HO_1692002
     clear HO_1692005
     clear BK1669
     clear BK1691
     clear HI0
     clear HK
     clear HB
     have HO_1692000 := n0_
     have HO_1692002 := n1_
     have HO_1692005 := n2_
     have HO1703 := n3_
     have HO1707 := n4_
     have HO1712 := n5_
     have BK1669 := n6_
     have BK1691 := n7_
     have HI0 := n8_
     have HK := n9_
     have HB := n10_
     clear n0_ n1_ n2_ n3_ n4_ n5_ n6_ n7_ n8_ n9_ n10_
     (try clear hb)
     (try clear hb2)
     (try clear hk)
     (try clear hi)
     (try clear ho0)
     (try clear ho1)
     (try clear ho2)
     obtain ⟨Ao31, co31, eo31⟩ := Kd.R_slice HO1703.out
     (first | subst eo31 | (injection eo31 with f1_ f2_ f3_; have f4_ := f1_.symm; have f5_ := f3_.symm; clear f1_ f2_ f3_; subst f4_; subst f5_))
     obtain ⟨Ao34, co34, eo34⟩ := Kd.R_slice HO1707.out
     (first | subst eo34 | (injection eo34 with f1_ f2_ f3_; have f4_ := f1_.symm; have f5_ := f3_.symm; clear f1_ f2_ f3_; subst f4_; subst f5_))
     obtain ⟨Ao38, co38, eo38⟩ := Kd.R_slice HO1712.out
     (first | subst eo38 | (injection eo38 with f1_ f2_ f3_; have f4_ := f1_.symm; have f5_ := f3_.symm; clear f1_ f2_ f3_; subst f4_; subst f5_))
     refine hK.out _ _ ⟨cz BK1691 0, cz BK1691 1, cz BK1691 2, cz BK1691 3, cz BK1691 4, cz BK1691 5⟩ (fun hHeld => ?_)
     clear hK K
     refine norm_ (a' := ?_) ?_ ?_
     rotate_left
     ·show Act.put _ (some 38) _ = _
      simp only [Act.put, List.setIfInBounds_toArray, List.set_cons_zero, List.set_cons_succ, i64_w, i32_w]
      rfl
     refine pA 4 (some 34) HT_.out ?_
     refine pA 5 (some 39) HT_.out ?_
     refine pA 6 (some 40) HT_.out ?_
     refine last_ (i := 7) (N := none) #[true, true, true, true, true, true, true, true] rfl rfl (one_of HT_.out (by kernel_rfl)) (by decide) (fun K hK => ?_)
     have hs32 := cz BK1691 0
     have hfs32 := blk_frozen BK1691.out 0
     have hns32_0 := NB1669_1691.out
     have hms32_0 := NB1691_1669.out
     have hs33 := cz BK1691 1
     have hfs33 := blk_frozen BK1691.out 1
     have hns33_0 := NB1669_1691.out
     have hms33_0 := NB1691_1669.out
     have hs35 := cz BK1691 2
     have hfs35 := blk_frozen BK1691.out 2
     have hns35_0 := NB1669_1691.out
     have hms35_0 := NB1691_1669.out
     have hs36 := cz BK1691 3
     have hfs36 := blk_frozen BK1691.out 3
     have hns36_0 := NB1669_1691.out
     have hms36_0 := NB1691_1669.out
     have hs37 := cz BK1691 4
     have hfs37 := blk_frozen BK1691.out 4
     have hns37_0 := NB1669_1691.out
     have hms37_0 := NB1691_1669.out
     have hs39 := cz BK1691 5
     have hfs39 := blk_frozen BK1691.out 5
     have hns39_0 := NB1669_1691.out
     have hms39_0 := NB1691_1669.out
     refine skip_ (w1 := ?_) (by rfl) rfl ?_ ?_
     rotate_left
     ·go_simp
      rfl
     refine hK.out _ _ ?_
     clear hK K
     refine done_ (done_of HT_.out (by kernel_rfl)) ?_
     try go_wp2
     go_roundg k1
     case measure => have := HK1.out; omega
     case rel => exact ⟨(wrap64 (x6_1 + 1)), (t1699), (t1700), (t1701), (t1704), (t1705), (t1708), (t1709), (t1710), (.slice Ao31 t1701.length co31), (.slice Ao34 t1705.length co34), (.slice Ao38 t1710.length co38), (by first | rfl | (simp; done) | (simp [*]; done)), H', ⟨by have := HK1.out; omega⟩, ⟨by (with_reducible repeat (first | apply Kd.R_alloc | apply Kd.R_drewN | apply Kd.R_drew)); exact Kd.R_mono (Kd.R_far (p := ⟨gb1691, 5, none⟩) (Kd.R_far (p := ⟨gb1691, 4, none⟩) (Kd.R_far (p := ⟨gb1691, 3, none⟩) (Kd.R_far (p := ⟨gb1691, 2, none⟩) (Kd.R_far (p := ⟨gb1691, 1, none⟩) (Kd.R_far (p := ⟨gb1691, 0, none⟩) (Kd.R_types HO1703.out BK1691.out (by decide)) (fun _ hk => hk.2) (.slice Ao31 t1701.length co31)) (fun _ hk => hk.2) (.int .i64 t1704)) (fun _ hk => hk.2) (.slice Ao34 t1705.length co34)) (fun _ hk => hk.2) (.int .i64 t1708)) (fun _ hk => hk.2) (.int .i64 t1709)) (fun _ hk => hk.2) (.slice Ao38 t1710.length co38)) (fun _ hk => trivial)⟩, ⟨by (with_reducible repeat (first | apply Kd.R_alloc | apply Kd.R_drewN | apply Kd.R_drew)); exact Kd.R_mono (Kd.R_far (p := ⟨gb1691, 5, none⟩) (Kd.R_far (p := ⟨gb1691, 4, none⟩) (Kd.R_far (p := ⟨gb1691, 3, none⟩) (Kd.R_far (p := ⟨gb1691, 2, none⟩) (Kd.R_far (p := ⟨gb1691, 1, none⟩) (Kd.R_far (p := ⟨gb1691, 0, none⟩) (Kd.R_types HO1707.out BK1691.out (by decide)) (fun _ hk => hk.2) (.slice Ao31 t1701.length co31)) (fun _ hk => hk.2) (.int .i64 t1704)) (fun _ hk => hk.2) (.slice Ao34 t1705.length co34)) (fun _ hk => hk.2) (.int .i64 t1708)) (fun _ hk => hk.2) (.int .i64 t1709)) (fun _ hk => hk.2) (.slice Ao38 t1710.length co38)) (fun _ hk => trivial)⟩, ⟨by (with_reducible repeat (first | apply Kd.R_alloc | apply Kd.R_drewN | apply Kd.R_drew)); exact Kd.R_mono (Kd.R_far (p := ⟨gb1691, 5, none⟩) (Kd.R_far (p := ⟨gb1691, 4, none⟩) (Kd.R_far (p := ⟨gb1691, 3, none⟩) (Kd.R_far (p := ⟨gb1691, 2, none⟩) (Kd.R_far (p := ⟨gb1691, 1, none⟩) (Kd.R_far (p := ⟨gb1691, 0, none⟩) (Kd.R_types HO1712.out BK1691.out (by decide)) (fun _ hk => hk.2) (.slice Ao31 t1701.length co31)) (fun _ hk => hk.2) (.int .i64 t1704)) (fun _ hk => hk.2) (.slice Ao34 t1705.length co34)) (fun _ hk => hk.2) (.int .i64 t1708)) (fun _ hk => hk.2) (.int .i64 t1709)) (fun _ hk => hk.2) (.slice Ao38 t1710.length co38)) (fun _ hk => trivial)⟩, ⟨by (with_reducible repeat (first | refine blk_drewN ?_ _ | refine blk_drew ?_ | refine blk_alloc ?_ _)); refine blk_far ?_ NB1669_1691.out _; (with_reducible repeat (first | refine blk_drewN ?_ _ | refine blk_drew ?_ | refine blk_alloc ?_ _)); refine blk_far ?_ NB1669_1691.out _; (with_reducible repeat (first | refine blk_drewN ?_ _ | refine blk_drew ?_ | refine blk_alloc ?_ _)); refine blk_far ?_ NB1669_1691.out _; (with_reducible repeat (first | refine blk_drewN ?_ _ | refine blk_drew ?_ | refine blk_alloc ?_ _)); refine blk_far ?_ NB1669_1691.out _; (with_reducible repeat (first | refine blk_drewN ?_ _ | refine blk_drew ?_ | refine blk_alloc ?_ _)); refine blk_far ?_ NB1669_1691.out _; (with_reducible repeat (first | refine blk_drewN ?_ _ | refine blk_drew ?_ | refine blk_alloc ?_ _)); refine blk_far ?_ NB1669_1691.out _; (with_reducible repeat (first | refine blk_drewN ?_ _ | refine blk_drew ?_ | refine blk_alloc ?_ _)); exact BK1669.out⟩, ⟨by (with_reducible repeat (first | refine blk_drewN ?_ _ | refine blk_drew ?_ | refine blk_alloc ?_ _)); refine blk_put (cs := #[.slice Ao31 t1701.length co31, .int .i64 t1704, .slice Ao34 t1705.length co34, .int .i64 t1708, .int .i64 t1709, .slice Ao29 x1692005_1.length co29]) ?_ 5 _ rfl; (with_reducible repeat (first | refine blk_drewN ?_ _ | refine blk_drew ?_ | refine blk_alloc ?_ _)); refine blk_put (cs := #[.slice Ao31 t1701.length co31, .int .i64 t1704, .slice Ao34 t1705.length co34, .int .i64 t1708, .int .i64 x1692004_1, .slice Ao29 x1692005_1.length co29]) ?_ 4 _ rfl; (with_reducible repeat (first | refine blk_drewN ?_ _ | refine blk_drew ?_ | refine blk_alloc ?_ _)); refine blk_put (cs := #[.slice Ao31 t1701.length co31, .int .i64 t1704, .slice Ao34 t1705.length co34, .int .i64 x1692003_1, .int .i64 x1692004_1, .slice Ao29 x1692005_1.length co29]) ?_ 3 _ rfl; (with_reducible repeat (first | refine blk_drewN ?_ _ | refine blk_drew ?_ | refine blk_alloc ?_ _)); refine blk_put (cs := #[.slice Ao31 t1701.length co31, .int .i64 t1704, .slice Ao28 x1692002_1.length co28, .int .i64 x1692003_1, .int .i64 x1692004_1, .slice Ao29 x1692005_1.length co29]) ?_ 2 _ rfl; (with_reducible repeat (first | refine blk_drewN ?_ _ | refine blk_drew ?_ | refine blk_alloc ?_ _)); refine blk_put (cs := #[.slice Ao31 t1701.length co31, .int .i64 x1692001_1, .slice Ao28 x1692002_1.length co28, .int .i64 x1692003_1, .int .i64 x1692004_1, .slice Ao29 x1692005_1.length co29]) ?_ 1 _ rfl; (with_reducible repeat (first | refine blk_drewN ?_ _ | refine blk_drew ?_ | refine blk_alloc ?_ _)); refine blk_put (cs := #[.slice Ao27 x1692000_1.length co27, .int .i64 x1692001_1, .slice Ao28 x1692002_1.length co28, .int .i64 x1692003_1, .int .i64 x1692004_1, .slice Ao29 x1692005_1.length co29]) ?_ 0 _ rfl; (with_reducible repeat (first | refine blk_drewN ?_ _ | refine blk_drew ?_ | refine blk_alloc ?_ _)); exact BK1691.out⟩, ⟨oI129 HI0⟩, ⟨oKe HK⟩, ⟨oB129 HB⟩⟩
    ·rw [if_neg c21] at H
     have c21b0 : (t1695 == 0) = false := beq_eq_false_iff_ne.mpr c21
     have c21b1 : (t1695 != 0) = true := bne_iff_ne.mpr c21
     by_cases c40 : t1695 = 1
     ·rw [if_pos c40] at H
      have c40b0 : (t1695 == 1) = true := beq_iff_eq.mpr c40
      have c40b1 : (t1695 != 1) = false := bne_eq_false_iff_eq.mpr c40
      clear c40
      replace H := Option.bind_eq_some_iff.mp H
      obtain ⟨⟨t1714, t1715, t1716, t1717⟩, A410, H⟩ := H
      (try dsimp only at H)
      have A41 := A_ A410
      clear A410
      replace H := Option.bind_eq_some_iff.mp H
      obtain ⟨⟨t1719, t1720, t1721⟩, A420, H⟩ := H
      (try dsimp only at H)
      have A42 := A_ A420
      clear A420
      replace H := Option.bind_eq_some_iff.mp H
      obtain ⟨⟨t1722, t1725, t1726, t1729, t1730, t1731, t1734⟩, A430, H⟩ := H
      (try dsimp only at H)
      have A43 := A_ A430
      clear A430
      have H' := A_ H
      clear H
      try go_wp2_with (first | ((with_reducible refine gate_callee (f := 120) rfl ?_); refine gL (some 26) Try.func120 #[.pointer (some ⟨g, 0, none⟩), .int .i64 8] ?_; (with_reducible refine (spec_l01Below.calls g s0_0 x1001_1 x1002_1 8 t1695 t1696 t1697 w0 _ ?side1 ?side2 A20.out).mono ?_); (case side1 => exact oI129 HI0); (case side2 => exact oB129 HB); rintro e w44 ⟨rfl, hi, hb, hk⟩; refine ⟨_, rfl, ?_⟩; have n0_ := A_ (Kd.R_mono (Kd.R_keep (IsS129.apart (show IsS129 w0 _ g s0_0 x1001_1 x1002_1 from oI129 HI0) (oR HO_1692000) (by decide)) hk (fun _ h => h.2)) (fun _ h => h.1)); have n1_ := A_ (Kd.R_mono (Kd.R_keep (IsS129.apart (show IsS129 w0 _ g s0_0 x1001_1 x1002_1 from oI129 HI0) (oR HO_1692002) (by decide)) hk (fun _ h => h.2)) (fun _ h => h.1)); have n2_ := A_ (Kd.R_mono (Kd.R_keep (IsS129.apart (show IsS129 w0 _ g s0_0 x1001_1 x1002_1 from oI129 HI0) (oR HO_1692005) (by decide)) hk (fun _ h => h.2)) (fun _ h => h.1)); have n3_ := A_ (KeepBut.blk hk (g' := gb1669) (o := .cells #[.slice none 0 0, .int .i64 0, .slice none 0 0, .int .i64 0, .int .i64 0, .slice none 0 0] 36 (0, 0)) (oK BK1669) NB1669_0.out (by simp)); have n4_ := A_ (KeepBut.blk hk (g' := gb1691) (o := .cells #[u1692000, .int .i64 x1692001_1, u1692002, .int .i64 x1692003_1, .int .i64 x1692004_1, u1692005] 36 (0, 0)) (oK BK1691) NB1691_0.out (by simp)); have n5_ := A_ (KeepBut.trans (oKe HK) hk (.inl rfl)); have n6_ := A_ (hb); have n7_ := A_ (hi); clear HO_1692000; clear HO_1692002; clear HO_1692005; clear BK1669; clear BK1691; clear HK; clear HB; clear HI0; have HO_1692000 := n0_; have HO_1692002 := n1_; have HO_1692005 := n2_; have BK1669 := n3_; have BK1691 := n4_; have HK := n5_; have HB := n6_; have HI0 := n7_; clear n0_ n1_ n2_ n3_ n4_ n5_ n6_ n7_; (try clear hb); (try clear hb2); (try clear hk); (try clear hi)) | ((with_reducible refine gate_callee (f := 122) rfl ?_); refine gL (some 44) Try.func122 #[.pointer (some ⟨g, 0, none⟩)] ?_; (with_reducible refine (spec_l34Pipe.calls g s0_0 t1696 t1697 t1714 t1715 t1716 t1717 w0 _ ?side1 ?side2 A41.out).mono ?_); (case side1 => exact oI129 HI0); (case side2 => exact oB129 HB); rintro e w45 ⟨rfl, hi, hb, hk⟩; refine ⟨_, rfl, ?_⟩; have n0_ := A_ (Kd.R_mono (Kd.R_keep (IsS129.apart (show IsS129 w0 _ g s0_0 t1696 t1697 from oI129 HI0) (oR HO_1692000) (by decide)) hk (fun _ h => h.2)) (fun _ h => h.1)); have n1_ := A_ (Kd.R_mono (Kd.R_keep (IsS129.apart (show IsS129 w0 _ g s0_0 t1696 t1697 from oI129 HI0) (oR HO_1692002) (by decide)) hk (fun _ h => h.2)) (fun _ h => h.1)); have n2_ := A_ (Kd.R_mono (Kd.R_keep (IsS129.apart (show IsS129 w0 _ g s0_0 t1696 t1697 from oI129 HI0) (oR HO_1692005) (by decide)) hk (fun _ h => h.2)) (fun _ h => h.1)); have n3_ := A_ (KeepBut.blk hk (g' := gb1669) (o := .cells #[.slice none 0 0, .int .i64 0, .slice none 0 0, .int .i64 0, .int .i64 0, .slice none 0 0] 36 (0, 0)) (oK BK1669) NB1669_0.out (by simp)); have n4_ := A_ (KeepBut.blk hk (g' := gb1691) (o := .cells #[u1692000, .int .i64 x1692001_1, u1692002, .int .i64 x1692003_1, .int .i64 x1692004_1, u1692005] 36 (0, 0)) (oK BK1691) NB1691_0.out (by simp)); have n5_ := A_ (KeepBut.trans (oKe HK) hk (.inl rfl)); have n6_ := A_ (hb); have n7_ := A_ (hi); clear HO_1692000; clear HO_1692002; clear HO_1692005; clear BK1669; clear BK1691; clear HK; clear HB; clear HI0; have HO_1692000 := n0_; have HO_1692002 := n1_; have HO_1692005 := n2_; have BK1669 := n3_; have BK1691 := n4_; have HK := n5_; have HB := n6_; have HI0 := n7_; clear n0_ n1_ n2_ n3_ n4_ n5_ n6_ n7_; (try clear hb); (try clear hb2); (try clear hk); (try clear hi)) | ((with_reducible refine gate_dst (N := 7) rfl ?_); refine bX (N := 7) (cs := #[.int .i64 0, .int .i64 0]) (t := 56) ?_; intro gb1718 hg w46 hbox hb; have n0_ := A_ (Kd.R_below (oR HO_1692000) hb); have n1_ := A_ (Kd.R_below (oR HO_1692002) hb); have n2_ := A_ (Kd.R_below (oR HO_1692005) hb); have n3_ := A_ (bb BK1669 hb); have n4_ := A_ (bb BK1691 hb); have n5_ := A_ (IsS129.below (oI129 HI0) hb); have n6_ := A_ (KeepBut.trans (oKe HK) (KeepBut.of_below hb g none) (.inl rfl)); have n7_ := A_ (below_step (oB129 HB) hb); have n8_ := A_ (hbox); have n9_ := A_ ((by rw [hg]; exact (keep_size (w := w) (g := g) (row := none) (by repeat (first | (with_reducible first | exact HK.out | apply KeepBut.set_ | apply keep_drewN | apply keep_drew | apply keep_alloc | refine keep_far ?_ GW1669.out _ | refine keep_far ?_ GW1691.out _) | exact HK.out))) : w.heap.size ≤ gb1718)); have n10_ := A_ ((Nat.le_trans HW0.out (by rw [hg]; exact (keep_size (w := w) (g := g) (row := none) (by repeat (first | (with_reducible first | exact HK.out | apply KeepBut.set_ | apply keep_drewN | apply keep_drew | apply keep_alloc | refine keep_far ?_ GW1669.out _ | refine keep_far ?_ GW1691.out _) | exact HK.out))) : w.heap.size ≤ gb1718) : w0.heap.size ≤ gb1718)); have n11_ := A_ (nL BK1669 hg); have n12_ := A_ (nG BK1669 hg); have n13_ := A_ (nL BK1691 hg); have n14_ := A_ (nG BK1691 hg); have n15_ := A_ ((by rw [hg]; exact Nat.ne_of_lt (IsS129.lt (show IsS129 w0 _ g s0_0 t1716 t1717 from oI129 HI0)) : g ≠ gb1718)); have n16_ := A_ ((by rw [hg]; exact Nat.ne_of_gt (IsS129.lt (show IsS129 w0 _ g s0_0 t1716 t1717 from oI129 HI0)) : gb1718 ≠ g)); clear HO_1692000; clear HO_1692002; clear HO_1692005; clear BK1669; clear BK1691; clear HI0; clear HK; clear HB; have HO_1692000 := n0_; have HO_1692002 := n1_; have HO_1692005 := n2_; have BK1669 := n3_; have BK1691 := n4_; have HI0 := n5_; have HK := n6_; have HB := n7_; have BK1718 := n8_; have GW1718 := n9_; have GE1718 := n10_; have NB1669_1718 := n11_; have NB1718_1669 := n12_; have NB1691_1718 := n13_; have NB1718_1691 := n14_; have NB0_1718 := n15_; have NB1718_0 := n16_; clear n0_ n1_ n2_ n3_ n4_ n5_ n6_ n7_ n8_ n9_ n10_ n11_ n12_ n13_ n14_ n15_ n16_; clear hb hbox hg; have hnb47 := NB1718_1669.out; have hnc47 := NB1669_1718.out; have hnb48 := NB1718_1691.out; have hnc48 := NB1691_1718.out; have hnb49 := NB1718_0.out; have hnc49 := NB0_1718.out; have hcz50_0 := cz BK1718 0; have hcz50_1 := cz BK1718 1; have hfz50_0 := blk_frozen BK1718.out 0; have hfz50_1 := blk_frozen BK1718.out 1))
      have n0_ : Aside0 (Kd.R k96 96 ((w46.setCell ⟨gb1718, 0, none⟩ (.int .i64 t1714)).setCell ⟨gb1718, 1, none⟩ (.int .i64 t1715)) w.heap.size (fun _ => True) u1692000 x1692000_1) := ⟨by (with_reducible repeat (first | apply Kd.R_alloc | apply Kd.R_drewN | apply Kd.R_drew)); exact Kd.R_mono (Kd.R_far (p := ⟨gb1718, 1, none⟩) (Kd.R_far (p := ⟨gb1718, 0, none⟩) (Kd.R_types HO_1692000.out BK1718.out (by decide)) (fun _ hk => hk.2) (.int .i64 t1714)) (fun _ hk => hk.2) (.int .i64 t1715)) (fun _ hk => trivial)⟩
      have n1_ : Aside0 (Kd.R (Kd.int .i64) 3 ((w46.setCell ⟨gb1718, 0, none⟩ (.int .i64 t1714)).setCell ⟨gb1718, 1, none⟩ (.int .i64 t1715)) w.heap.size (fun _ => True) u1692002 x1692002_1) := ⟨by (with_reducible repeat (first | apply Kd.R_alloc | apply Kd.R_drewN | apply Kd.R_drew)); exact Kd.R_mono (Kd.R_far (p := ⟨gb1718, 1, none⟩) (Kd.R_far (p := ⟨gb1718, 0, none⟩) (Kd.R_types HO_1692002.out BK1718.out (by decide)) (fun _ hk => hk.2) (.int .i64 t1714)) (fun _ hk => hk.2) (.int .i64 t1715)) (fun _ hk => trivial)⟩
      have n2_ : Aside0 (Kd.R k74 74 ((w46.setCell ⟨gb1718, 0, none⟩ (.int .i64 t1714)).setCell ⟨gb1718, 1, none⟩ (.int .i64 t1715)) w.heap.size (fun _ => True) u1692005 x1692005_1) := ⟨by (with_reducible repeat (first | apply Kd.R_alloc | apply Kd.R_drewN | apply Kd.R_drew)); exact Kd.R_mono (Kd.R_far (p := ⟨gb1718, 1, none⟩) (Kd.R_far (p := ⟨gb1718, 0, none⟩) (Kd.R_types HO_1692005.out BK1718.out (by decide)) (fun _ hk => hk.2) (.int .i64 t1714)) (fun _ hk => hk.2) (.int .i64 t1715)) (fun _ hk => trivial)⟩
      have n3_ : Aside0 (((w46.setCell ⟨gb1718, 0, none⟩ (.int .i64 t1714)).setCell ⟨gb1718, 1, none⟩ (.int .i64 t1715)).heap[gb1669]? = some (.cells #[.slice none 0 0, .int .i64 0, .slice none 0 0, .int .i64 0, .int .i64 0, .slice none 0 0] 36 (0, 0))) := ⟨by (with_reducible repeat (first | refine blk_drewN ?_ _ | refine blk_drew ?_ | refine blk_alloc ?_ _)); refine blk_far ?_ NB1669_1718.out _; (with_reducible repeat (first | refine blk_drewN ?_ _ | refine blk_drew ?_ | refine blk_alloc ?_ _)); refine blk_far ?_ NB1669_1718.out _; (with_reducible repeat (first | refine blk_drewN ?_ _ | refine blk_drew ?_ | refine blk_alloc ?_ _)); exact BK1669.out⟩
      have n4_ : Aside0 (((w46.setCell ⟨gb1718, 0, none⟩ (.int .i64 t1714)).setCell ⟨gb1718, 1, none⟩ (.int .i64 t1715)).heap[gb1691]? = some (.cells #[u1692000, .int .i64 x1692001_1, u1692002, .int .i64 x1692003_1, .int .i64 x1692004_1, u1692005] 36 (0, 0))) := ⟨by (with_reducible repeat (first | refine blk_drewN ?_ _ | refine blk_drew ?_ | refine blk_alloc ?_ _)); refine blk_far ?_ NB1691_1718.out _; (with_reducible repeat (first | refine blk_drewN ?_ _ | refine blk_drew ?_ | refine blk_alloc ?_ _)); refine blk_far ?_ NB1691_1718.out _; (with_reducible repeat (first | refine blk_drewN ?_ _ | refine blk_drew ?_ | refine blk_alloc ?_ _)); exact BK1691.out⟩
      have n5_ : Aside0 (((w46.setCell ⟨gb1718, 0, none⟩ (.int .i64 t1714)).setCell ⟨gb1718, 1, none⟩ (.int .i64 t1715)).heap[gb1718]? = some (.cells #[.int .i64 t1714, .int .i64 t1715] 56 (0, 0))) := ⟨by (with_reducible repeat (first | refine blk_drewN ?_ _ | refine blk_drew ?_ | refine blk_alloc ?_ _)); refine blk_put (cs := #[.int .i64 t1714, .int .i64 0]) ?_ 1 _ rfl; (with_reducible repeat (first | refine blk_drewN ?_ _ | refine blk_drew ?_ | refine blk_alloc ?_ _)); refine blk_put (cs := #[.int .i64 0, .int .i64 0]) ?_ 0 _ rfl; (with_reducible repeat (first | refine blk_drewN ?_ _ | refine blk_drew ?_ | refine blk_alloc ?_ _)); exact BK1718.out⟩
      have n6_ : Aside0 (IsS129 w0 ((w46.setCell ⟨gb1718, 0, none⟩ (.int .i64 t1714)).setCell ⟨gb1718, 1, none⟩ (.int .i64 t1715)) g s0_0 t1716 t1717) := ⟨oI129 HI0⟩
      have n7_ : Aside0 (KeepBut w ((w46.setCell ⟨gb1718, 0, none⟩ (.int .i64 t1714)).setCell ⟨gb1718, 1, none⟩ (.int .i64 t1715)) g none) := ⟨oKe HK⟩
      have n8_ : Aside0 (Below w0.heap.size w0 ((w46.setCell ⟨gb1718, 0, none⟩ (.int .i64 t1714)).setCell ⟨gb1718, 1, none⟩ (.int .i64 t1715))) := ⟨oB129 HB⟩
      (try clear HO_1692000)
      (try clear HO_1692002)
      (try clear HO_1692005)
      (try clear BK1669)
      (try clear BK1691)
      (try clear BK1718)
      (try clear HI0)
      (try clear HK)
      (try clear HB)
      generalize ((w46.setCell ⟨gb1718, 0, none⟩ (.int .i64 t1714)).setCell ⟨gb1718, 1, none⟩ (.int .i64 t1715)) = w51 at n0_ n1_ n2_ n3_ n4_ n5_ n6_ n7_ n8_ ⊢
      have HO_1692000 := n0_
      have HO_1692002 := n1_
      have HO_1692005 := n2_
      have BK1669 := n3_
      have BK1691 := n4_
      have BK1718 := n5_
      have HI0 := n6_
      have HK := n7_
      have HB := n8_
      clear n0_ n1_ n2_ n3_ n4_ n5_ n6_ n7_ n8_
      have n0_ := A_ (Kd.R_drew HO_1692000.out)
      have n1_ := A_ (Kd.R_drew HO_1692002.out)
      have n2_ := A_ (Kd.R_drew HO_1692005.out)
      have n3_ := A_ (blk_drew BK1669.out)
      have n4_ := A_ (blk_drew BK1691.out)
      have n5_ := A_ (blk_drew BK1718.out)
      have n6_ := A_ (IsS129.drew HI0.out)
      have n7_ := A_ (keep_drew HK.out)
      have n8_ := A_ (below_drew1 HB.out)
      clear HO_1692000
      clear HO_1692002
      clear HO_1692005
      clear BK1669
      clear BK1691
      clear BK1718
      clear HI0
      clear HK
      clear HB
      have HO_1692000 := n0_
      have HO_1692002 := n1_
      have HO_1692005 := n2_
      have BK1669 := n3_
      have BK1691 := n4_
      have BK1718 := n5_
      have HI0 := n6_
      have HK := n7_
      have HB := n8_
      clear n0_ n1_ n2_ n3_ n4_ n5_ n6_ n7_ n8_
      refine start_ (n := 9) (S := fun w' => w'.cell? ⟨gb1691, 0, none⟩ = some (u1692000) ∧ w'.cell? ⟨gb1691, 1, none⟩ = some (.int .i64 x1692001_1) ∧ w'.cell? ⟨gb1691, 2, none⟩ = some (u1692002) ∧ w'.cell? ⟨gb1691, 3, none⟩ = some (.int .i64 x1692003_1) ∧ w'.cell? ⟨gb1691, 4, none⟩ = some (.int .i64 x1692004_1) ∧ w'.cell? ⟨gb1691, 5, none⟩ = some (u1692005) ∧ w'.cell? ⟨gb1718, 0, none⟩ = some (.int .i64 t1714) ∧ w'.cell? ⟨gb1718, 1, none⟩ = some (.int .i64 t1715)) (ds := [8]) #[false, false, false, false, false, false, false, false, false] (by kernel_rfl) rfl rfl ⟨cz BK1691 0, cz BK1691 1, cz BK1691 2, cz BK1691 3, cz BK1691 4, cz BK1691 5, cz BK1718 0, cz BK1718 1⟩ (fun hHeld => ?_); refine with_tabW spec_l38Shop.tab12 spec_l38Shop.bits12 (fun HT_ HW_ => ?_)
      generalize w51.drew = w52 at HO_1692000 HO_1692002 HO_1692005 BK1669 BK1691 BK1718 HI0 HK HB hHeld ⊢
      refine pA 2 (some 48) HT_.out ?_
      refine pT 0 (some 46) HT_.out HW_.out hHeld ?_
      refine pT 1 (some 47) HT_.out HW_.out hHeld ?_
      refine one_ (i := 3) (N := some 49) #[true, true, true, true, false, false, false, false, false] rfl rfl (one_of HT_.out (by kernel_rfl)) (by decide) (fun K hK => ?_)
      refine goes_ Try.func120 (by kernel_rfl) rfl #[.pointer (some ⟨g, 0, none⟩), .int .i64 3] (by rfl) rfl rfl (by (try simp only [List.map_toArray, List.map_cons, List.map_nil]); first | done | rfl | (simp only [List.length_drop, List.length_take]; rfl)) ?_
      with_reducible refine (spec_l01Below.calls g s0_0 t1716 t1717 3 t1719 t1720 t1721 w0 _ ?side1 ?side2 A42.out).mono ?_
      (case side1 => exact oI129 HI0)
      (case side2 => exact oB129 HB)
      rintro e w53 ⟨rfl, hi, hb, hk⟩
      refine ⟨_, rfl, ?_⟩
      have n0_ := A_ (Kd.R_mono (Kd.R_keep (IsS129.apart (show IsS129 w0 _ g s0_0 t1716 t1717 from oI129 HI0) (oR HO_1692000) (by decide)) hk (fun _ h => h.2)) (fun _ h => h.1))
      have n1_ := A_ (Kd.R_mono (Kd.R_keep (IsS129.apart (show IsS129 w0 _ g s0_0 t1716 t1717 from oI129 HI0) (oR HO_1692002) (by decide)) hk (fun _ h => h.2)) (fun _ h => h.1))
      have n2_ := A_ (Kd.R_mono (Kd.R_keep (IsS129.apart (show IsS129 w0 _ g s0_0 t1716 t1717 from oI129 HI0) (oR HO_1692005) (by decide)) hk (fun _ h => h.2)) (fun _ h => h.1))
      have n3_ := A_ (KeepBut.blk hk (g' := gb1669) (o := .cells #[.slice none 0 0, .int .i64 0, .slice none 0 0, .int .i64 0, .int .i64 0, .slice none 0 0] 36 (0, 0)) (oK BK1669) NB1669_0.out (by simp))
      have n4_ := A_ (KeepBut.blk hk (g' := gb1691) (o := .cells #[u1692000, .int .i64 x1692001_1, u1692002, .int .i64 x1692003_1, .int .i64 x1692004_1, u1692005] 36 (0, 0)) (oK BK1691) NB1691_0.out (by simp))
      have n5_ := A_ (KeepBut.blk hk (g' := gb1718) (o := .cells #[.int .i64 t1714, .int .i64 t1715] 56 (0, 0)) (oK BK1718) NB1718_0.out (by simp))
      have n6_ := A_ (KeepBut.trans (oKe HK) hk (.inl rfl))
      have n7_ := A_ (hb)
      have n8_ := A_ (hi)
      clear HO_1692000
      clear HO_1692002
      clear HO_1692005
      clear BK1669
      clear BK1691
      clear BK1718
      clear HK
      clear HB
      clear HI0
      have HO_1692000 := n0_
      have HO_1692002 := n1_
      have HO_1692005 := n2_
      have BK1669 := n3_
      have BK1691 := n4_
      have BK1718 := n5_
      have HK := n6_
      have HB := n7_
      have HI0 := n8_
      clear n0_ n1_ n2_ n3_ n4_ n5_ n6_ n7_ n8_
      (try clear hb)
      (try clear hb2)
      (try clear hk)
      (try clear hi)
      obtain ⟨Ao54, co54, eo54⟩ := Kd.R_slice HO_1692000.out
      (first | subst eo54 | (injection eo54 with f1_ f2_ f3_; have f4_ := f1_.symm; have f5_ := f3_.symm; clear f1_ f2_ f3_; subst f4_; subst f5_))
      obtain ⟨Ao55, co55, eo55⟩ := Kd.R_slice HO_1692002.out
      (first | subst eo55 | (injection eo55 with f1_ f2_ f3_; have f4_ := f1_.symm; have f5_ := f3_.symm; clear f1_ f2_ f3_; subst f4_; subst f5_))
      obtain ⟨Ao56, co56, eo56⟩ := Kd.R_slice HO_1692005.out
      (first | subst eo56 | (injection eo56 with f1_ f2_ f3_; have f4_ := f1_.symm; have f5_ := f3_.symm; clear f1_ f2_ f3_; subst f4_; subst f5_))
      refine hK.out _ _ ⟨cz BK1691 0, cz BK1691 1, cz BK1691 2, cz BK1691 3, cz BK1691 4, cz BK1691 5, cz BK1718 0, cz BK1718 1⟩ (fun hHeld => ?_)
      clear hK K
      refine norm_ (a' := ?_) ?_ ?_
      rotate_left
      ·show Act.put _ (some 49) _ = _
       simp only [Act.put, List.setIfInBounds_toArray, List.set_cons_zero, List.set_cons_succ, i64_w, i32_w]
       rfl
      refine one_ (i := 4) (N := some 50) #[true, true, true, true, true, false, false, false, false] rfl rfl (one_of HT_.out (by kernel_rfl)) (by decide) (fun K hK => ?_)
      refine goes_ Try.func36 (by kernel_rfl) rfl #[.agg #[.slice Ao54 x1692000_1.length co54, .int .i64 x1692001_1, .slice Ao55 x1692002_1.length co55, .int .i64 x1692003_1, .int .i64 x1692004_1, .slice Ao56 x1692005_1.length co56], .agg #[.int .i64 t1714, .int .i64 t1715], .int .i64 t1719] (by rfl) rfl rfl (by (try simp only [List.map_toArray, List.map_cons, List.map_nil]); first | done | rfl | (simp only [List.length_drop, List.length_take]; rfl)) ?_
      with_reducible refine (spec_ShopFault.calls k1 _ _ x1692000_1 x1692001_1 _ _ x1692002_1 x1692003_1 x1692004_1 _ _ x1692005_1 t1714 t1715 t1719 t1722 t1725 t1726 t1729 t1730 t1731 t1734 _ ?side1 ?side2 ?side3 ?side4 ?side5 ?side6 A43.out).mono ?_
      (case side1 => repeat (first | exact (Kd.R_reads' HO_1692000.out).2.2 | (with_reducible refine Kd.C_alloc ?_ _) | (with_reducible refine Kd.C_drewN ?_ _) | (with_reducible refine Kd.C_drew ?_)))
      (case side2 => exact (Kd.R_reads' HO_1692000.out).2.1)
      (case side3 => repeat (first | exact (Kd.R_reads' HO_1692002.out).2.2 | (with_reducible refine Kd.C_alloc ?_ _) | (with_reducible refine Kd.C_drewN ?_ _) | (with_reducible refine Kd.C_drew ?_)))
      (case side4 => exact (Kd.R_reads' HO_1692002.out).2.1)
      (case side5 => repeat (first | exact (Kd.R_reads' HO_1692005.out).2.2 | (with_reducible refine Kd.C_alloc ?_ _) | (with_reducible refine Kd.C_drewN ?_ _) | (with_reducible refine Kd.C_drew ?_)))
      (case side6 => exact (Kd.R_reads' HO_1692005.out).2.1)
      rintro e w57 ⟨v1723, v1727, v1732, rfl, ho0, ho1, ho2, hb⟩
      refine ⟨_, rfl, ?_⟩
      have n0_ := A_ (Kd.R_elder' (oR HO_1692000) (Kd.R_base ho0) hb)
      have n1_ := A_ (Kd.R_elder' (oR HO_1692002) (Kd.R_base ho1) hb)
      have n2_ := A_ (Kd.R_elder' (oR HO_1692005) (Kd.R_base ho2) hb)
      have n3_ := A_ (Kd.R_lower (Kd.R_new' ho0 (Kd.R_lt (oR HO_1692000))) (keep_size (w := w) (g := g) (row := none) (by repeat (first | (with_reducible first | exact HK.out | apply KeepBut.set_ | apply keep_drewN | apply keep_drew | apply keep_alloc | refine keep_far ?_ GW1669.out _ | refine keep_far ?_ GW1691.out _ | refine keep_far ?_ GW1718.out _) | exact HK.out))))
      have n4_ := A_ (Kd.R_lower (Kd.R_new' ho1 (Kd.R_lt (oR HO_1692002))) (keep_size (w := w) (g := g) (row := none) (by repeat (first | (with_reducible first | exact HK.out | apply KeepBut.set_ | apply keep_drewN | apply keep_drew | apply keep_alloc | refine keep_far ?_ GW1669.out _ | refine keep_far ?_ GW1691.out _ | refine keep_far ?_ GW1718.out _) | exact HK.out))))
      have n5_ := A_ (Kd.R_lower (Kd.R_new' ho2 (Kd.R_lt (oR HO_1692005))) (keep_size (w := w) (g := g) (row := none) (by repeat (first | (with_reducible first | exact HK.out | apply KeepBut.set_ | apply keep_drewN | apply keep_drew | apply keep_alloc | refine keep_far ?_ GW1669.out _ | refine keep_far ?_ GW1691.out _ | refine keep_far ?_ GW1718.out _) | exact HK.out))))
      have n6_ := A_ (bb BK1669 hb)
      have n7_ := A_ (bb BK1691 hb)
      have n8_ := A_ (IsS129.below (oI129 HI0) hb)
      have n9_ := A_ (bb BK1718 hb)
      have n10_ := A_ (KeepBut.trans (oKe HK) (KeepBut.of_below hb g none) (.inl rfl))
      have n11_ := A_ (below_step (oB129 HB) hb)
      clear HO_1692000
      clear HO_1692002
      clear HO_1692005
      clear BK1669
      clear BK1691
      clear HI0
      clear BK1718
      clear HK
      clear HB
      have HO_1692000 := n0_
      have HO_1692002 := n1_
      have HO_1692005 := n2_
      have HO1724 := n3_
      have HO1728 := n4_
      have HO1733 := n5_
      have BK1669 := n6_
      have BK1691 := n7_
      have HI0 := n8_
      have BK1718 := n9_
      have HK := n10_
      have HB := n11_
      clear n0_ n1_ n2_ n3_ n4_ n5_ n6_ n7_ n8_ n9_ n10_ n11_
      (try clear hb)
      (try clear hb2)
      (try clear hk)
      (try clear hi)
      (try clear ho0)
      (try clear ho1)
      (try clear ho2)
      obtain ⟨Ao58, co58, eo58⟩ := Kd.R_slice HO1724.out
      (first | subst eo58 | (injection eo58 with f1_ f2_ f3_; have f4_ := f1_.symm; have f5_ := f3_.symm; clear f1_ f2_ f3_; subst f4_; subst f5_))
      obtain ⟨Ao61, co61, eo61⟩ := Kd.R_slice HO1728.out
      (first | subst eo61 | (injection eo61 with f1_ f2_ f3_; have f4_ := f1_.symm; have f5_ := f3_.symm; clear f1_ f2_ f3_; subst f4_; subst f5_))
      obtain ⟨Ao65, co65, eo65⟩ := Kd.R_slice HO1733.out
      (first | subst eo65 | (injection eo65 with f1_ f2_ f3_; have f4_ := f1_.symm; have f5_ := f3_.symm; clear f1_ f2_ f3_; subst f4_; subst f5_))
      refine hK.out _ _ ⟨cz BK1691 0, cz BK1691 1, cz BK1691 2, cz BK1691 3, cz BK1691 4, cz BK1691 5, cz BK1718 0, cz BK1718 1⟩ (fun hHeld => ?_)
      clear hK K
      refine norm_ (a' := ?_) ?_ ?_
      rotate_left
      ·show Act.put _ (some 50) _ = _
       simp only [Act.put, List.setIfInBounds_toArray, List.set_cons_zero, List.set_cons_succ, i64_w, i32_w]
       rfl
      refine pA 5 (some 45) HT_.out ?_
      refine pA 6 (some 51) HT_.out ?_
      refine pA 7 (some 52) HT_.out ?_
      refine last_ (i := 8) (N := none) #[true, true, true, true, true, true, true, true, true] rfl rfl (one_of HT_.out (by kernel_rfl)) (by decide) (fun K hK => ?_)
      have hs59 := cz BK1691 0
      have hfs59 := blk_frozen BK1691.out 0
      have hns59_0 := NB1669_1691.out
      have hns59_2 := NB1718_1691.out
      have hms59_0 := NB1691_1669.out
      have hms59_2 := NB1691_1718.out
      have hs60 := cz BK1691 1
      have hfs60 := blk_frozen BK1691.out 1
      have hns60_0 := NB1669_1691.out
      have hns60_2 := NB1718_1691.out
      have hms60_0 := NB1691_1669.out
      have hms60_2 := NB1691_1718.out
      have hs62 := cz BK1691 2
      have hfs62 := blk_frozen BK1691.out 2
      have hns62_0 := NB1669_1691.out
      have hns62_2 := NB1718_1691.out
      have hms62_0 := NB1691_1669.out
      have hms62_2 := NB1691_1718.out
      have hs63 := cz BK1691 3
      have hfs63 := blk_frozen BK1691.out 3
      have hns63_0 := NB1669_1691.out
      have hns63_2 := NB1718_1691.out
      have hms63_0 := NB1691_1669.out
      have hms63_2 := NB1691_1718.out
      have hs64 := cz BK1691 4
      have hfs64 := blk_frozen BK1691.out 4
      have hns64_0 := NB1669_1691.out
      have hns64_2 := NB1718_1691.out
      have hms64_0 := NB1691_1669.out
      have hms64_2 := NB1691_1718.out
      have hs66 := cz BK1691 5
      have hfs66 := blk_frozen BK1691.out 5
      have hns66_0 := NB1669_1691.out
      have hns66_2 := NB1718_1691.out
      have hms66_0 := NB1691_1669.out
      have hms66_2 := NB1691_1718.out
      refine skip_ (w1 := ?_) (by rfl) rfl ?_ ?_
      rotate_left
      ·go_simp
       rfl
      refine hK.out _ _ ?_
      clear hK K
      refine done_ (done_of HT_.out (by kernel_rfl)) ?_
      try go_wp2
      go_roundg k1
      case measure => have := HK1.out; omega
      case rel => exact ⟨(wrap64 (x6_1 + 1)), (t1720), (t1721), (t1722), (t1725), (t1726), (t1729), (t1730), (t1731), (.slice Ao58 t1722.length co58), (.slice Ao61 t1726.length co61), (.slice Ao65 t1731.length co65), (by first | rfl | (simp; done) | (simp [*]; done)), H', ⟨by have := HK1.out; omega⟩, ⟨by (with_reducible repeat (first | apply Kd.R_alloc | apply Kd.R_drewN | apply Kd.R_drew)); exact Kd.R_mono (Kd.R_far (p := ⟨gb1691, 5, none⟩) (Kd.R_far (p := ⟨gb1691, 4, none⟩) (Kd.R_far (p := ⟨gb1691, 3, none⟩) (Kd.R_far (p := ⟨gb1691, 2, none⟩) (Kd.R_far (p := ⟨gb1691, 1, none⟩) (Kd.R_far (p := ⟨gb1691, 0, none⟩) (Kd.R_types HO1724.out BK1691.out (by decide)) (fun _ hk => hk.2) (.slice Ao58 t1722.length co58)) (fun _ hk => hk.2) (.int .i64 t1725)) (fun _ hk => hk.2) (.slice Ao61 t1726.length co61)) (fun _ hk => hk.2) (.int .i64 t1729)) (fun _ hk => hk.2) (.int .i64 t1730)) (fun _ hk => hk.2) (.slice Ao65 t1731.length co65)) (fun _ hk => trivial)⟩, ⟨by (with_reducible repeat (first | apply Kd.R_alloc | apply Kd.R_drewN | apply Kd.R_drew)); exact Kd.R_mono (Kd.R_far (p := ⟨gb1691, 5, none⟩) (Kd.R_far (p := ⟨gb1691, 4, none⟩) (Kd.R_far (p := ⟨gb1691, 3, none⟩) (Kd.R_far (p := ⟨gb1691, 2, none⟩) (Kd.R_far (p := ⟨gb1691, 1, none⟩) (Kd.R_far (p := ⟨gb1691, 0, none⟩) (Kd.R_types HO1728.out BK1691.out (by decide)) (fun _ hk => hk.2) (.slice Ao58 t1722.length co58)) (fun _ hk => hk.2) (.int .i64 t1725)) (fun _ hk => hk.2) (.slice Ao61 t1726.length co61)) (fun _ hk => hk.2) (.int .i64 t1729)) (fun _ hk => hk.2) (.int .i64 t1730)) (fun _ hk => hk.2) (.slice Ao65 t1731.length co65)) (fun _ hk => trivial)⟩, ⟨by (with_reducible repeat (first | apply Kd.R_alloc | apply Kd.R_drewN | apply Kd.R_drew)); exact Kd.R_mono (Kd.R_far (p := ⟨gb1691, 5, none⟩) (Kd.R_far (p := ⟨gb1691, 4, none⟩) (Kd.R_far (p := ⟨gb1691, 3, none⟩) (Kd.R_far (p := ⟨gb1691, 2, none⟩) (Kd.R_far (p := ⟨gb1691, 1, none⟩) (Kd.R_far (p := ⟨gb1691, 0, none⟩) (Kd.R_types HO1733.out BK1691.out (by decide)) (fun _ hk => hk.2) (.slice Ao58 t1722.length co58)) (fun _ hk => hk.2) (.int .i64 t1725)) (fun _ hk => hk.2) (.slice Ao61 t1726.length co61)) (fun _ hk => hk.2) (.int .i64 t1729)) (fun _ hk => hk.2) (.int .i64 t1730)) (fun _ hk => hk.2) (.slice Ao65 t1731.length co65)) (fun _ hk => trivial)⟩, ⟨by (with_reducible repeat (first | refine blk_drewN ?_ _ | refine blk_drew ?_ | refine blk_alloc ?_ _)); refine blk_far ?_ NB1669_1691.out _; (with_reducible repeat (first | refine blk_drewN ?_ _ | refine blk_drew ?_ | refine blk_alloc ?_ _)); refine blk_far ?_ NB1669_1691.out _; (with_reducible repeat (first | refine blk_drewN ?_ _ | refine blk_drew ?_ | refine blk_alloc ?_ _)); refine blk_far ?_ NB1669_1691.out _; (with_reducible repeat (first | refine blk_drewN ?_ _ | refine blk_drew ?_ | refine blk_alloc ?_ _)); refine blk_far ?_ NB1669_1691.out _; (with_reducible repeat (first | refine blk_drewN ?_ _ | refine blk_drew ?_ | refine blk_alloc ?_ _)); refine blk_far ?_ NB1669_1691.out _; (with_reducible repeat (first | refine blk_drewN ?_ _ | refine blk_drew ?_ | refine blk_alloc ?_ _)); refine blk_far ?_ NB1669_1691.out _; (with_reducible repeat (first | refine blk_drewN ?_ _ | refine blk_drew ?_ | refine blk_alloc ?_ _)); exact BK1669.out⟩, ⟨by (with_reducible repeat (first | refine blk_drewN ?_ _ | refine blk_drew ?_ | refine blk_alloc ?_ _)); refine blk_put (cs := #[.slice Ao58 t1722.length co58, .int .i64 t1725, .slice Ao61 t1726.length co61, .int .i64 t1729, .int .i64 t1730, .slice Ao56 x1692005_1.length co56]) ?_ 5 _ rfl; (with_reducible repeat (first | refine blk_drewN ?_ _ | refine blk_drew ?_ | refine blk_alloc ?_ _)); refine blk_put (cs := #[.slice Ao58 t1722.length co58, .int .i64 t1725, .slice Ao61 t1726.length co61, .int .i64 t1729, .int .i64 x1692004_1, .slice Ao56 x1692005_1.length co56]) ?_ 4 _ rfl; (with_reducible repeat (first | refine blk_drewN ?_ _ | refine blk_drew ?_ | refine blk_alloc ?_ _)); refine blk_put (cs := #[.slice Ao58 t1722.length co58, .int .i64 t1725, .slice Ao61 t1726.length co61, .int .i64 x1692003_1, .int .i64 x1692004_1, .slice Ao56 x1692005_1.length co56]) ?_ 3 _ rfl; (with_reducible repeat (first | refine blk_drewN ?_ _ | refine blk_drew ?_ | refine blk_alloc ?_ _)); refine blk_put (cs := #[.slice Ao58 t1722.length co58, .int .i64 t1725, .slice Ao55 x1692002_1.length co55, .int .i64 x1692003_1, .int .i64 x1692004_1, .slice Ao56 x1692005_1.length co56]) ?_ 2 _ rfl; (with_reducible repeat (first | refine blk_drewN ?_ _ | refine blk_drew ?_ | refine blk_alloc ?_ _)); refine blk_put (cs := #[.slice Ao58 t1722.length co58, .int .i64 x1692001_1, .slice Ao55 x1692002_1.length co55, .int .i64 x1692003_1, .int .i64 x1692004_1, .slice Ao56 x1692005_1.length co56]) ?_ 1 _ rfl; (with_reducible repeat (first | refine blk_drewN ?_ _ | refine blk_drew ?_ | refine blk_alloc ?_ _)); refine blk_put (cs := #[.slice Ao54 x1692000_1.length co54, .int .i64 x1692001_1, .slice Ao55 x1692002_1.length co55, .int .i64 x1692003_1, .int .i64 x1692004_1, .slice Ao56 x1692005_1.length co56]) ?_ 0 _ rfl; (with_reducible repeat (first | refine blk_drewN ?_ _ | refine blk_drew ?_ | refine blk_alloc ?_ _)); exact BK1691.out⟩, ⟨oI129 HI0⟩, ⟨oKe HK⟩, ⟨oB129 HB⟩⟩
     ·rw [if_neg c40] at H
      have c40b0 : (t1695 == 1) = false := beq_eq_false_iff_ne.mpr c40
      have c40b1 : (t1695 != 1) = true := bne_iff_ne.mpr c40
      by_cases c67 : t1695 = 2
      ·rw [if_pos c67] at H
       have c67b0 : (t1695 == 2) = true := beq_iff_eq.mpr c67
       have c67b1 : (t1695 != 2) = false := bne_eq_false_iff_eq.mpr c67
       clear c67
       replace H := Option.bind_eq_some_iff.mp H
       obtain ⟨⟨t1735, t1736, t1737⟩, A680, H⟩ := H
       (try dsimp only at H)
       have A68 := A_ A680
       clear A680
       replace H := Option.bind_eq_some_iff.mp H
       obtain ⟨⟨t1738, t1739, t1740⟩, A690, H⟩ := H
       (try dsimp only at H)
       have A69 := A_ A690
       clear A690
       replace H := Option.bind_eq_some_iff.mp H
       obtain ⟨⟨t1741, t1744, t1745, t1748, t1749, t1750, t1753⟩, A700, H⟩ := H
       (try dsimp only at H)
       have A70 := A_ A700
       clear A700
       have H' := A_ H
       clear H
       try go_wp2_with (first | ((with_reducible refine gate_callee (f := 120) rfl ?_); refine gL (some 26) Try.func120 #[.pointer (some ⟨g, 0, none⟩), .int .i64 8] ?_; (with_reducible refine (spec_l01Below.calls g s0_0 x1001_1 x1002_1 8 t1695 t1696 t1697 w0 _ ?side1 ?side2 A20.out).mono ?_); (case side1 => exact oI129 HI0); (case side2 => exact oB129 HB); rintro e w71 ⟨rfl, hi, hb, hk⟩; refine ⟨_, rfl, ?_⟩; have n0_ := A_ (Kd.R_mono (Kd.R_keep (IsS129.apart (show IsS129 w0 _ g s0_0 x1001_1 x1002_1 from oI129 HI0) (oR HO_1692000) (by decide)) hk (fun _ h => h.2)) (fun _ h => h.1)); have n1_ := A_ (Kd.R_mono (Kd.R_keep (IsS129.apart (show IsS129 w0 _ g s0_0 x1001_1 x1002_1 from oI129 HI0) (oR HO_1692002) (by decide)) hk (fun _ h => h.2)) (fun _ h => h.1)); have n2_ := A_ (Kd.R_mono (Kd.R_keep (IsS129.apart (show IsS129 w0 _ g s0_0 x1001_1 x1002_1 from oI129 HI0) (oR HO_1692005) (by decide)) hk (fun _ h => h.2)) (fun _ h => h.1)); have n3_ := A_ (KeepBut.blk hk (g' := gb1669) (o := .cells #[.slice none 0 0, .int .i64 0, .slice none 0 0, .int .i64 0, .int .i64 0, .slice none 0 0] 36 (0, 0)) (oK BK1669) NB1669_0.out (by simp)); have n4_ := A_ (KeepBut.blk hk (g' := gb1691) (o := .cells #[u1692000, .int .i64 x1692001_1, u1692002, .int .i64 x1692003_1, .int .i64 x1692004_1, u1692005] 36 (0, 0)) (oK BK1691) NB1691_0.out (by simp)); have n5_ := A_ (KeepBut.trans (oKe HK) hk (.inl rfl)); have n6_ := A_ (hb); have n7_ := A_ (hi); clear HO_1692000; clear HO_1692002; clear HO_1692005; clear BK1669; clear BK1691; clear HK; clear HB; clear HI0; have HO_1692000 := n0_; have HO_1692002 := n1_; have HO_1692005 := n2_; have BK1669 := n3_; have BK1691 := n4_; have HK := n5_; have HB := n6_; have HI0 := n7_; clear n0_ n1_ n2_ n3_ n4_ n5_ n6_ n7_; (try clear hb); (try clear hb2); (try clear hk); (try clear hi)) | ((with_reducible refine gate_callee (f := 120) rfl ?_); refine gL (some 56) Try.func120 #[.pointer (some ⟨g, 0, none⟩), .int .i64 12] ?_; (with_reducible refine (spec_l01Below.calls g s0_0 t1696 t1697 12 t1735 t1736 t1737 w0 _ ?side1 ?side2 A68.out).mono ?_); (case side1 => exact oI129 HI0); (case side2 => exact oB129 HB); rintro e w72 ⟨rfl, hi, hb, hk⟩; refine ⟨_, rfl, ?_⟩; have n0_ := A_ (Kd.R_mono (Kd.R_keep (IsS129.apart (show IsS129 w0 _ g s0_0 t1696 t1697 from oI129 HI0) (oR HO_1692000) (by decide)) hk (fun _ h => h.2)) (fun _ h => h.1)); have n1_ := A_ (Kd.R_mono (Kd.R_keep (IsS129.apart (show IsS129 w0 _ g s0_0 t1696 t1697 from oI129 HI0) (oR HO_1692002) (by decide)) hk (fun _ h => h.2)) (fun _ h => h.1)); have n2_ := A_ (Kd.R_mono (Kd.R_keep (IsS129.apart (show IsS129 w0 _ g s0_0 t1696 t1697 from oI129 HI0) (oR HO_1692005) (by decide)) hk (fun _ h => h.2)) (fun _ h => h.1)); have n3_ := A_ (KeepBut.blk hk (g' := gb1669) (o := .cells #[.slice none 0 0, .int .i64 0, .slice none 0 0, .int .i64 0, .int .i64 0, .slice none 0 0] 36 (0, 0)) (oK BK1669) NB1669_0.out (by simp)); have n4_ := A_ (KeepBut.blk hk (g' := gb1691) (o := .cells #[u1692000, .int .i64 x1692001_1, u1692002, .int .i64 x1692003_1, .int .i64 x1692004_1, u1692005] 36 (0, 0)) (oK BK1691) NB1691_0.out (by simp)); have n5_ := A_ (KeepBut.trans (oKe HK) hk (.inl rfl)); have n6_ := A_ (hb); have n7_ := A_ (hi); clear HO_1692000; clear HO_1692002; clear HO_1692005; clear BK1669; clear BK1691; clear HK; clear HB; clear HI0; have HO_1692000 := n0_; have HO_1692002 := n1_; have HO_1692005 := n2_; have BK1669 := n3_; have BK1691 := n4_; have HK := n5_; have HB := n6_; have HI0 := n7_; clear n0_ n1_ n2_ n3_ n4_ n5_ n6_ n7_; (try clear hb); (try clear hb2); (try clear hk); (try clear hi)))
       have n0_ := A_ (Kd.R_drew HO_1692000.out)
       have n1_ := A_ (Kd.R_drew HO_1692002.out)
       have n2_ := A_ (Kd.R_drew HO_1692005.out)
       have n3_ := A_ (blk_drew BK1669.out)
       have n4_ := A_ (blk_drew BK1691.out)
       have n5_ := A_ (IsS129.drew HI0.out)
       have n6_ := A_ (keep_drew HK.out)
       have n7_ := A_ (below_drew1 HB.out)
       clear HO_1692000
       clear HO_1692002
       clear HO_1692005
       clear BK1669
       clear BK1691
       clear HI0
       clear HK
       clear HB
       have HO_1692000 := n0_
       have HO_1692002 := n1_
       have HO_1692005 := n2_
       have BK1669 := n3_
       have BK1691 := n4_
       have HI0 := n5_
       have HK := n6_
       have HB := n7_
       clear n0_ n1_ n2_ n3_ n4_ n5_ n6_ n7_
       refine start_ (n := 10) (S := fun w' => w'.cell? ⟨gb1691, 0, none⟩ = some (u1692000) ∧ w'.cell? ⟨gb1691, 1, none⟩ = some (.int .i64 x1692001_1) ∧ w'.cell? ⟨gb1691, 2, none⟩ = some (u1692002) ∧ w'.cell? ⟨gb1691, 3, none⟩ = some (.int .i64 x1692003_1) ∧ w'.cell? ⟨gb1691, 4, none⟩ = some (.int .i64 x1692004_1) ∧ w'.cell? ⟨gb1691, 5, none⟩ = some (u1692005)) (ds := [9]) #[false, false, false, false, false, false, false, false, false, false] (by kernel_rfl) rfl rfl ⟨cz BK1691 0, cz BK1691 1, cz BK1691 2, cz BK1691 3, cz BK1691 4, cz BK1691 5⟩ (fun hHeld => ?_); refine with_tabW spec_l38Shop.tab15 spec_l38Shop.bits15 (fun HT_ HW_ => ?_)
       generalize w72.drew = w73 at HO_1692000 HO_1692002 HO_1692005 BK1669 BK1691 HI0 HK HB hHeld ⊢
       refine pA 1 (some 59) HT_.out ?_
       refine pA 2 (some 60) HT_.out ?_
       refine pT 0 (some 58) HT_.out HW_.out hHeld ?_
       refine one_ (i := 3) (N := some 61) #[true, true, true, true, false, false, false, false, false, false] rfl rfl (one_of HT_.out (by kernel_rfl)) (by decide) (fun K hK => ?_)
       refine goes_ Try.func120 (by kernel_rfl) rfl #[.pointer (some ⟨g, 0, none⟩), .int .i64 2001] (by rfl) rfl rfl (by (try simp only [List.map_toArray, List.map_cons, List.map_nil]); first | done | rfl | (simp only [List.length_drop, List.length_take]; rfl)) ?_
       with_reducible refine (spec_l01Below.calls g s0_0 t1736 t1737 2001 t1738 t1739 t1740 w0 _ ?side1 ?side2 A69.out).mono ?_
       (case side1 => exact oI129 HI0)
       (case side2 => exact oB129 HB)
       rintro e w74 ⟨rfl, hi, hb, hk⟩
       refine ⟨_, rfl, ?_⟩
       have n0_ := A_ (Kd.R_mono (Kd.R_keep (IsS129.apart (show IsS129 w0 _ g s0_0 t1736 t1737 from oI129 HI0) (oR HO_1692000) (by decide)) hk (fun _ h => h.2)) (fun _ h => h.1))
       have n1_ := A_ (Kd.R_mono (Kd.R_keep (IsS129.apart (show IsS129 w0 _ g s0_0 t1736 t1737 from oI129 HI0) (oR HO_1692002) (by decide)) hk (fun _ h => h.2)) (fun _ h => h.1))
       have n2_ := A_ (Kd.R_mono (Kd.R_keep (IsS129.apart (show IsS129 w0 _ g s0_0 t1736 t1737 from oI129 HI0) (oR HO_1692005) (by decide)) hk (fun _ h => h.2)) (fun _ h => h.1))
       have n3_ := A_ (KeepBut.blk hk (g' := gb1669) (o := .cells #[.slice none 0 0, .int .i64 0, .slice none 0 0, .int .i64 0, .int .i64 0, .slice none 0 0] 36 (0, 0)) (oK BK1669) NB1669_0.out (by simp))
       have n4_ := A_ (KeepBut.blk hk (g' := gb1691) (o := .cells #[u1692000, .int .i64 x1692001_1, u1692002, .int .i64 x1692003_1, .int .i64 x1692004_1, u1692005] 36 (0, 0)) (oK BK1691) NB1691_0.out (by simp))
       have n5_ := A_ (KeepBut.trans (oKe HK) hk (.inl rfl))
       have n6_ := A_ (hb)
       have n7_ := A_ (hi)
       clear HO_1692000
       clear HO_1692002
       clear HO_1692005
       clear BK1669
       clear BK1691
       clear HK
       clear HB
       clear HI0
       have HO_1692000 := n0_
       have HO_1692002 := n1_
       have HO_1692005 := n2_
       have BK1669 := n3_
       have BK1691 := n4_
       have HK := n5_
       have HB := n6_
       have HI0 := n7_
       clear n0_ n1_ n2_ n3_ n4_ n5_ n6_ n7_
       (try clear hb)
       (try clear hb2)
       (try clear hk)
       (try clear hi)
       obtain ⟨Ao75, co75, eo75⟩ := Kd.R_slice HO_1692000.out
       (first | subst eo75 | (injection eo75 with f1_ f2_ f3_; have f4_ := f1_.symm; have f5_ := f3_.symm; clear f1_ f2_ f3_; subst f4_; subst f5_))
       obtain ⟨Ao76, co76, eo76⟩ := Kd.R_slice HO_1692002.out
       (first | subst eo76 | (injection eo76 with f1_ f2_ f3_; have f4_ := f1_.symm; have f5_ := f3_.symm; clear f1_ f2_ f3_; subst f4_; subst f5_))
       obtain ⟨Ao77, co77, eo77⟩ := Kd.R_slice HO_1692005.out
       (first | subst eo77 | (injection eo77 with f1_ f2_ f3_; have f4_ := f1_.symm; have f5_ := f3_.symm; clear f1_ f2_ f3_; subst f4_; subst f5_))
       refine hK.out _ _ ⟨cz BK1691 0, cz BK1691 1, cz BK1691 2, cz BK1691 3, cz BK1691 4, cz BK1691 5⟩ (fun hHeld => ?_)
       clear hK K
       refine norm_ (a' := ?_) ?_ ?_
       rotate_left
       ·show Act.put _ (some 61) _ = _
        simp only [Act.put, List.setIfInBounds_toArray, List.set_cons_zero, List.set_cons_succ, i64_w, i32_w]
        rfl
       refine pA 4 (some 62) HT_.out ?_
       refine one_ (i := 5) (N := some 63) #[true, true, true, true, true, true, false, false, false, false] rfl rfl (one_of HT_.out (by kernel_rfl)) (by decide) (fun K hK => ?_)
       refine goes_ Try.func39 (by kernel_rfl) rfl #[.agg #[.slice Ao75 x1692000_1.length co75, .int .i64 x1692001_1, .slice Ao76 x1692002_1.length co76, .int .i64 x1692003_1, .int .i64 x1692004_1, .slice Ao77 x1692005_1.length co77], .int .i64 t1735, .int .i64 (wrap64 (t1738 - 1000))] (by rfl) rfl rfl (by (try simp only [List.map_toArray, List.map_cons, List.map_nil]); first | done | rfl | (simp only [List.length_drop, List.length_take]; rfl)) ?_
       with_reducible refine (spec_ShopKnock.calls k1 _ _ x1692000_1 x1692001_1 _ _ x1692002_1 x1692003_1 x1692004_1 _ _ x1692005_1 t1735 (wrap64 (t1738 - 1000)) t1741 t1744 t1745 t1748 t1749 t1750 t1753 _ ?side1 ?side2 ?side3 ?side4 ?side5 ?side6 A70.out).mono ?_
       (case side1 => repeat (first | exact (Kd.R_reads' HO_1692000.out).2.2 | (with_reducible refine Kd.C_alloc ?_ _) | (with_reducible refine Kd.C_drewN ?_ _) | (with_reducible refine Kd.C_drew ?_)))
       (case side2 => exact (Kd.R_reads' HO_1692000.out).2.1)
       (case side3 => repeat (first | exact (Kd.R_reads' HO_1692002.out).2.2 | (with_reducible refine Kd.C_alloc ?_ _) | (with_reducible refine Kd.C_drewN ?_ _) | (with_reducible refine Kd.C_drew ?_)))
       (case side4 => exact (Kd.R_reads' HO_1692002.out).2.1)
       (case side5 => repeat (first | exact (Kd.R_reads' HO_1692005.out).2.2 | (with_reducible refine Kd.C_alloc ?_ _) | (with_reducible refine Kd.C_drewN ?_ _) | (with_reducible refine Kd.C_drew ?_)))
       (case side6 => exact (Kd.R_reads' HO_1692005.out).2.1)
       rintro e w78 ⟨v1742, v1746, v1751, rfl, ho0, ho1, ho2, hb⟩
       refine ⟨_, rfl, ?_⟩
       have n0_ := A_ (Kd.R_elder' (oR HO_1692000) (Kd.R_base ho0) hb)
       have n1_ := A_ (Kd.R_elder' (oR HO_1692002) (Kd.R_base ho1) hb)
       have n2_ := A_ (Kd.R_elder' (oR HO_1692005) (Kd.R_base ho2) hb)
       have n3_ := A_ (Kd.R_lower (Kd.R_new' ho0 (Kd.R_lt (oR HO_1692000))) (keep_size (w := w) (g := g) (row := none) (by repeat (first | (with_reducible first | exact HK.out | apply KeepBut.set_ | apply keep_drewN | apply keep_drew | apply keep_alloc | refine keep_far ?_ GW1669.out _ | refine keep_far ?_ GW1691.out _) | exact HK.out))))
       have n4_ := A_ (Kd.R_lower (Kd.R_new' ho1 (Kd.R_lt (oR HO_1692002))) (keep_size (w := w) (g := g) (row := none) (by repeat (first | (with_reducible first | exact HK.out | apply KeepBut.set_ | apply keep_drewN | apply keep_drew | apply keep_alloc | refine keep_far ?_ GW1669.out _ | refine keep_far ?_ GW1691.out _) | exact HK.out))))
       have n5_ := A_ (Kd.R_lower (Kd.R_new' ho2 (Kd.R_lt (oR HO_1692005))) (keep_size (w := w) (g := g) (row := none) (by repeat (first | (with_reducible first | exact HK.out | apply KeepBut.set_ | apply keep_drewN | apply keep_drew | apply keep_alloc | refine keep_far ?_ GW1669.out _ | refine keep_far ?_ GW1691.out _) | exact HK.out))))
       have n6_ := A_ (bb BK1669 hb)
       have n7_ := A_ (bb BK1691 hb)
       have n8_ := A_ (IsS129.below (oI129 HI0) hb)
       have n9_ := A_ (KeepBut.trans (oKe HK) (KeepBut.of_below hb g none) (.inl rfl))
       have n10_ := A_ (below_step (oB129 HB) hb)
       clear HO_1692000
       clear HO_1692002
       clear HO_1692005
       clear BK1669
       clear BK1691
       clear HI0
       clear HK
       clear HB
       have HO_1692000 := n0_
       have HO_1692002 := n1_
       have HO_1692005 := n2_
       have HO1743 := n3_
       have HO1747 := n4_
       have HO1752 := n5_
       have BK1669 := n6_
       have BK1691 := n7_
       have HI0 := n8_
       have HK := n9_
       have HB := n10_
       clear n0_ n1_ n2_ n3_ n4_ n5_ n6_ n7_ n8_ n9_ n10_
       (try clear hb)
       (try clear hb2)
       (try clear hk)
       (try clear hi)
       (try clear ho0)
       (try clear ho1)
       (try clear ho2)
       obtain ⟨Ao79, co79, eo79⟩ := Kd.R_slice HO1743.out
       (first | subst eo79 | (injection eo79 with f1_ f2_ f3_; have f4_ := f1_.symm; have f5_ := f3_.symm; clear f1_ f2_ f3_; subst f4_; subst f5_))
       obtain ⟨Ao82, co82, eo82⟩ := Kd.R_slice HO1747.out
       (first | subst eo82 | (injection eo82 with f1_ f2_ f3_; have f4_ := f1_.symm; have f5_ := f3_.symm; clear f1_ f2_ f3_; subst f4_; subst f5_))
       obtain ⟨Ao86, co86, eo86⟩ := Kd.R_slice HO1752.out
       (first | subst eo86 | (injection eo86 with f1_ f2_ f3_; have f4_ := f1_.symm; have f5_ := f3_.symm; clear f1_ f2_ f3_; subst f4_; subst f5_))
       refine hK.out _ _ ⟨cz BK1691 0, cz BK1691 1, cz BK1691 2, cz BK1691 3, cz BK1691 4, cz BK1691 5⟩ (fun hHeld => ?_)
       clear hK K
       refine norm_ (a' := ?_) ?_ ?_
       rotate_left
       ·show Act.put _ (some 63) _ = _
        simp only [Act.put, List.setIfInBounds_toArray, List.set_cons_zero, List.set_cons_succ, i64_w, i32_w]
        rfl
       refine pA 6 (some 57) HT_.out ?_
       refine pA 7 (some 64) HT_.out ?_
       refine pA 8 (some 65) HT_.out ?_
       refine last_ (i := 9) (N := none) #[true, true, true, true, true, true, true, true, true, true] rfl rfl (one_of HT_.out (by kernel_rfl)) (by decide) (fun K hK => ?_)
       have hs80 := cz BK1691 0
       have hfs80 := blk_frozen BK1691.out 0
       have hns80_0 := NB1669_1691.out
       have hms80_0 := NB1691_1669.out
       have hs81 := cz BK1691 1
       have hfs81 := blk_frozen BK1691.out 1
       have hns81_0 := NB1669_1691.out
       have hms81_0 := NB1691_1669.out
       have hs83 := cz BK1691 2
       have hfs83 := blk_frozen BK1691.out 2
       have hns83_0 := NB1669_1691.out
       have hms83_0 := NB1691_1669.out
       have hs84 := cz BK1691 3
       have hfs84 := blk_frozen BK1691.out 3
       have hns84_0 := NB1669_1691.out
       have hms84_0 := NB1691_1669.out
       have hs85 := cz BK1691 4
       have hfs85 := blk_frozen BK1691.out 4
       have hns85_0 := NB1669_1691.out
       have hms85_0 := NB1691_1669.out
       have hs87 := cz BK1691 5
       have hfs87 := blk_frozen BK1691.out 5
       have hns87_0 := NB1669_1691.out
       have hms87_0 := NB1691_1669.out
       refine skip_ (w1 := ?_) (by rfl) rfl ?_ ?_
       rotate_left
       ·go_simp
        rfl
       refine hK.out _ _ ?_
       clear hK K
       refine done_ (done_of HT_.out (by kernel_rfl)) ?_
       try go_wp2
       go_roundg k1
       case measure => have := HK1.out; omega
       case rel => exact ⟨(wrap64 (x6_1 + 1)), (t1739), (t1740), (t1741), (t1744), (t1745), (t1748), (t1749), (t1750), (.slice Ao79 t1741.length co79), (.slice Ao82 t1745.length co82), (.slice Ao86 t1750.length co86), (by first | rfl | (simp; done) | (simp [*]; done)), H', ⟨by have := HK1.out; omega⟩, ⟨by (with_reducible repeat (first | apply Kd.R_alloc | apply Kd.R_drewN | apply Kd.R_drew)); exact Kd.R_mono (Kd.R_far (p := ⟨gb1691, 5, none⟩) (Kd.R_far (p := ⟨gb1691, 4, none⟩) (Kd.R_far (p := ⟨gb1691, 3, none⟩) (Kd.R_far (p := ⟨gb1691, 2, none⟩) (Kd.R_far (p := ⟨gb1691, 1, none⟩) (Kd.R_far (p := ⟨gb1691, 0, none⟩) (Kd.R_types HO1743.out BK1691.out (by decide)) (fun _ hk => hk.2) (.slice Ao79 t1741.length co79)) (fun _ hk => hk.2) (.int .i64 t1744)) (fun _ hk => hk.2) (.slice Ao82 t1745.length co82)) (fun _ hk => hk.2) (.int .i64 t1748)) (fun _ hk => hk.2) (.int .i64 t1749)) (fun _ hk => hk.2) (.slice Ao86 t1750.length co86)) (fun _ hk => trivial)⟩, ⟨by (with_reducible repeat (first | apply Kd.R_alloc | apply Kd.R_drewN | apply Kd.R_drew)); exact Kd.R_mono (Kd.R_far (p := ⟨gb1691, 5, none⟩) (Kd.R_far (p := ⟨gb1691, 4, none⟩) (Kd.R_far (p := ⟨gb1691, 3, none⟩) (Kd.R_far (p := ⟨gb1691, 2, none⟩) (Kd.R_far (p := ⟨gb1691, 1, none⟩) (Kd.R_far (p := ⟨gb1691, 0, none⟩) (Kd.R_types HO1747.out BK1691.out (by decide)) (fun _ hk => hk.2) (.slice Ao79 t1741.length co79)) (fun _ hk => hk.2) (.int .i64 t1744)) (fun _ hk => hk.2) (.slice Ao82 t1745.length co82)) (fun _ hk => hk.2) (.int .i64 t1748)) (fun _ hk => hk.2) (.int .i64 t1749)) (fun _ hk => hk.2) (.slice Ao86 t1750.length co86)) (fun _ hk => trivial)⟩, ⟨by (with_reducible repeat (first | apply Kd.R_alloc | apply Kd.R_drewN | apply Kd.R_drew)); exact Kd.R_mono (Kd.R_far (p := ⟨gb1691, 5, none⟩) (Kd.R_far (p := ⟨gb1691, 4, none⟩) (Kd.R_far (p := ⟨gb1691, 3, none⟩) (Kd.R_far (p := ⟨gb1691, 2, none⟩) (Kd.R_far (p := ⟨gb1691, 1, none⟩) (Kd.R_far (p := ⟨gb1691, 0, none⟩) (Kd.R_types HO1752.out BK1691.out (by decide)) (fun _ hk => hk.2) (.slice Ao79 t1741.length co79)) (fun _ hk => hk.2) (.int .i64 t1744)) (fun _ hk => hk.2) (.slice Ao82 t1745.length co82)) (fun _ hk => hk.2) (.int .i64 t1748)) (fun _ hk => hk.2) (.int .i64 t1749)) (fun _ hk => hk.2) (.slice Ao86 t1750.length co86)) (fun _ hk => trivial)⟩, ⟨by (with_reducible repeat (first | refine blk_drewN ?_ _ | refine blk_drew ?_ | refine blk_alloc ?_ _)); refine blk_far ?_ NB1669_1691.out _; (with_reducible repeat (first | refine blk_drewN ?_ _ | refine blk_drew ?_ | refine blk_alloc ?_ _)); refine blk_far ?_ NB1669_1691.out _; (with_reducible repeat (first | refine blk_drewN ?_ _ | refine blk_drew ?_ | refine blk_alloc ?_ _)); refine blk_far ?_ NB1669_1691.out _; (with_reducible repeat (first | refine blk_drewN ?_ _ | refine blk_drew ?_ | refine blk_alloc ?_ _)); refine blk_far ?_ NB1669_1691.out _; (with_reducible repeat (first | refine blk_drewN ?_ _ | refine blk_drew ?_ | refine blk_alloc ?_ _)); refine blk_far ?_ NB1669_1691.out _; (with_reducible repeat (first | refine blk_drewN ?_ _ | refine blk_drew ?_ | refine blk_alloc ?_ _)); refine blk_far ?_ NB1669_1691.out _; (with_reducible repeat (first | refine blk_drewN ?_ _ | refine blk_drew ?_ | refine blk_alloc ?_ _)); exact BK1669.out⟩, ⟨by (with_reducible repeat (first | refine blk_drewN ?_ _ | refine blk_drew ?_ | refine blk_alloc ?_ _)); refine blk_put (cs := #[.slice Ao79 t1741.length co79, .int .i64 t1744, .slice Ao82 t1745.length co82, .int .i64 t1748, .int .i64 t1749, .slice Ao77 x1692005_1.length co77]) ?_ 5 _ rfl; (with_reducible repeat (first | refine blk_drewN ?_ _ | refine blk_drew ?_ | refine blk_alloc ?_ _)); refine blk_put (cs := #[.slice Ao79 t1741.length co79, .int .i64 t1744, .slice Ao82 t1745.length co82, .int .i64 t1748, .int .i64 x1692004_1, .slice Ao77 x1692005_1.length co77]) ?_ 4 _ rfl; (with_reducible repeat (first | refine blk_drewN ?_ _ | refine blk_drew ?_ | refine blk_alloc ?_ _)); refine blk_put (cs := #[.slice Ao79 t1741.length co79, .int .i64 t1744, .slice Ao82 t1745.length co82, .int .i64 x1692003_1, .int .i64 x1692004_1, .slice Ao77 x1692005_1.length co77]) ?_ 3 _ rfl; (with_reducible repeat (first | refine blk_drewN ?_ _ | refine blk_drew ?_ | refine blk_alloc ?_ _)); refine blk_put (cs := #[.slice Ao79 t1741.length co79, .int .i64 t1744, .slice Ao76 x1692002_1.length co76, .int .i64 x1692003_1, .int .i64 x1692004_1, .slice Ao77 x1692005_1.length co77]) ?_ 2 _ rfl; (with_reducible repeat (first | refine blk_drewN ?_ _ | refine blk_drew ?_ | refine blk_alloc ?_ _)); refine blk_put (cs := #[.slice Ao79 t1741.length co79, .int .i64 x1692001_1, .slice Ao76 x1692002_1.length co76, .int .i64 x1692003_1, .int .i64 x1692004_1, .slice Ao77 x1692005_1.length co77]) ?_ 1 _ rfl; (with_reducible repeat (first | refine blk_drewN ?_ _ | refine blk_drew ?_ | refine blk_alloc ?_ _)); refine blk_put (cs := #[.slice Ao75 x1692000_1.length co75, .int .i64 x1692001_1, .slice Ao76 x1692002_1.length co76, .int .i64 x1692003_1, .int .i64 x1692004_1, .slice Ao77 x1692005_1.length co77]) ?_ 0 _ rfl; (with_reducible repeat (first | refine blk_drewN ?_ _ | refine blk_drew ?_ | refine blk_alloc ?_ _)); exact BK1691.out⟩, ⟨oI129 HI0⟩, ⟨oKe HK⟩, ⟨oB129 HB⟩⟩
      ·rw [if_neg c67] at H
       have c67b0 : (t1695 == 2) = false := beq_eq_false_iff_ne.mpr c67
       have c67b1 : (t1695 != 2) = true := bne_iff_ne.mpr c67
       replace H := Option.bind_eq_some_iff.mp H
       obtain ⟨⟨t1754, t1757, t1758, t1761, t1762, t1763, t1766⟩, A880, H⟩ := H
       (try dsimp only at H)
       have A88 := A_ A880
       clear A880
       have H' := A_ H
       clear H
       go_wp2_with (first | ((with_reducible refine gate_callee (f := 120) rfl ?_); refine gL (some 26) Try.func120 #[.pointer (some ⟨g, 0, none⟩), .int .i64 8] ?_; (with_reducible refine (spec_l01Below.calls g s0_0 x1001_1 x1002_1 8 t1695 t1696 t1697 w0 _ ?side1 ?side2 A20.out).mono ?_); (case side1 => exact oI129 HI0); (case side2 => exact oB129 HB); rintro e w89 ⟨rfl, hi, hb, hk⟩; refine ⟨_, rfl, ?_⟩; have n0_ := A_ (Kd.R_mono (Kd.R_keep (IsS129.apart (show IsS129 w0 _ g s0_0 x1001_1 x1002_1 from oI129 HI0) (oR HO_1692000) (by decide)) hk (fun _ h => h.2)) (fun _ h => h.1)); have n1_ := A_ (Kd.R_mono (Kd.R_keep (IsS129.apart (show IsS129 w0 _ g s0_0 x1001_1 x1002_1 from oI129 HI0) (oR HO_1692002) (by decide)) hk (fun _ h => h.2)) (fun _ h => h.1)); have n2_ := A_ (Kd.R_mono (Kd.R_keep (IsS129.apart (show IsS129 w0 _ g s0_0 x1001_1 x1002_1 from oI129 HI0) (oR HO_1692005) (by decide)) hk (fun _ h => h.2)) (fun _ h => h.1)); have n3_ := A_ (KeepBut.blk hk (g' := gb1669) (o := .cells #[.slice none 0 0, .int .i64 0, .slice none 0 0, .int .i64 0, .int .i64 0, .slice none 0 0] 36 (0, 0)) (oK BK1669) NB1669_0.out (by simp)); have n4_ := A_ (KeepBut.blk hk (g' := gb1691) (o := .cells #[u1692000, .int .i64 x1692001_1, u1692002, .int .i64 x1692003_1, .int .i64 x1692004_1, u1692005] 36 (0, 0)) (oK BK1691) NB1691_0.out (by simp)); have n5_ := A_ (KeepBut.trans (oKe HK) hk (.inl rfl)); have n6_ := A_ (hb); have n7_ := A_ (hi); clear HO_1692000; clear HO_1692002; clear HO_1692005; clear BK1669; clear BK1691; clear HK; clear HB; clear HI0; have HO_1692000 := n0_; have HO_1692002 := n1_; have HO_1692005 := n2_; have BK1669 := n3_; have BK1691 := n4_; have HK := n5_; have HB := n6_; have HI0 := n7_; clear n0_ n1_ n2_ n3_ n4_ n5_ n6_ n7_; (try clear hb); (try clear hb2); (try clear hk); (try clear hi); have hnb90 := NB1691_1669.out; have hnc90 := NB1669_1691.out; have hnb91 := NB1691_0.out; have hnc91 := NB0_1691.out; have hcz92_0 := cz BK1691 0; have hcz92_1 := cz BK1691 1; have hcz92_2 := cz BK1691 2; have hcz92_3 := cz BK1691 3; have hcz92_4 := cz BK1691 4; have hcz92_5 := cz BK1691 5; have hfz92_0 := blk_frozen BK1691.out 0; have hfz92_1 := blk_frozen BK1691.out 1; have hfz92_2 := blk_frozen BK1691.out 2; have hfz92_3 := blk_frozen BK1691.out 3; have hfz92_4 := blk_frozen BK1691.out 4; have hfz92_5 := blk_frozen BK1691.out 5; obtain ⟨Ao93, co93, eo93⟩ := Kd.R_slice HO_1692000.out; subst eo93; obtain ⟨Ao94, co94, eo94⟩ := Kd.R_slice HO_1692002.out; subst eo94; obtain ⟨Ao95, co95, eo95⟩ := Kd.R_slice HO_1692005.out; subst eo95) | ((with_reducible refine gate_callee (f := 41) rfl ?_); refine gL (some 29) Try.func41 #[.agg #[.slice Ao93 x1692000_1.length co93, .int .i64 x1692001_1, .slice Ao94 x1692002_1.length co94, .int .i64 x1692003_1, .int .i64 x1692004_1, .slice Ao95 x1692005_1.length co95]] ?_; (with_reducible refine (spec_ShopTune.calls k1 _ _ x1692000_1 x1692001_1 _ _ x1692002_1 x1692003_1 x1692004_1 _ _ x1692005_1 t1754 t1757 t1758 t1761 t1762 t1763 t1766 _ ?side1 ?side2 ?side3 ?side4 ?side5 ?side6 A88.out).mono ?_); (case side1 => repeat (first | exact (Kd.R_reads' HO_1692000.out).2.2 | (with_reducible refine Kd.C_alloc ?_ _) | (with_reducible refine Kd.C_drewN ?_ _) | (with_reducible refine Kd.C_drew ?_))); (case side2 => exact (Kd.R_reads' HO_1692000.out).2.1); (case side3 => repeat (first | exact (Kd.R_reads' HO_1692002.out).2.2 | (with_reducible refine Kd.C_alloc ?_ _) | (with_reducible refine Kd.C_drewN ?_ _) | (with_reducible refine Kd.C_drew ?_))); (case side4 => exact (Kd.R_reads' HO_1692002.out).2.1); (case side5 => repeat (first | exact (Kd.R_reads' HO_1692005.out).2.2 | (with_reducible refine Kd.C_alloc ?_ _) | (with_reducible refine Kd.C_drewN ?_ _) | (with_reducible refine Kd.C_drew ?_))); (case side6 => exact (Kd.R_reads' HO_1692005.out).2.1); rintro e w96 ⟨v1755, v1759, v1764, rfl, ho0, ho1, ho2, hb⟩; refine ⟨_, rfl, ?_⟩; have n0_ := A_ (Kd.R_elder' (oR HO_1692000) (Kd.R_base ho0) hb); have n1_ := A_ (Kd.R_elder' (oR HO_1692002) (Kd.R_base ho1) hb); have n2_ := A_ (Kd.R_elder' (oR HO_1692005) (Kd.R_base ho2) hb); have n3_ := A_ (Kd.R_lower (Kd.R_new' ho0 (Kd.R_lt (oR HO_1692000))) (keep_size (w := w) (g := g) (row := none) (by repeat (first | (with_reducible first | exact HK.out | apply KeepBut.set_ | apply keep_drewN | apply keep_drew | apply keep_alloc | refine keep_far ?_ GW1669.out _ | refine keep_far ?_ GW1691.out _) | exact HK.out)))); have n4_ := A_ (Kd.R_lower (Kd.R_new' ho1 (Kd.R_lt (oR HO_1692002))) (keep_size (w := w) (g := g) (row := none) (by repeat (first | (with_reducible first | exact HK.out | apply KeepBut.set_ | apply keep_drewN | apply keep_drew | apply keep_alloc | refine keep_far ?_ GW1669.out _ | refine keep_far ?_ GW1691.out _) | exact HK.out)))); have n5_ := A_ (Kd.R_lower (Kd.R_new' ho2 (Kd.R_lt (oR HO_1692005))) (keep_size (w := w) (g := g) (row := none) (by repeat (first | (with_reducible first | exact HK.out | apply KeepBut.set_ | apply keep_drewN | apply keep_drew | apply keep_alloc | refine keep_far ?_ GW1669.out _ | refine keep_far ?_ GW1691.out _) | exact HK.out)))); have n6_ := A_ (bb BK1669 hb); have n7_ := A_ (bb BK1691 hb); have n8_ := A_ (IsS129.below (oI129 HI0) hb); have n9_ := A_ (KeepBut.trans (oKe HK) (KeepBut.of_below hb g none) (.inl rfl)); have n10_ := A_ (below_step (oB129 HB) hb); clear HO_1692000; clear HO_1692002; clear HO_1692005; clear BK1669; clear BK1691; clear HI0; clear HK; clear HB; have HO_1692000 := n0_; have HO_1692002 := n1_; have HO_1692005 := n2_; have HO1756 := n3_; have HO1760 := n4_; have HO1765 := n5_; have BK1669 := n6_; have BK1691 := n7_; have HI0 := n8_; have HK := n9_; have HB := n10_; clear n0_ n1_ n2_ n3_ n4_ n5_ n6_ n7_ n8_ n9_ n10_; (try clear hb); (try clear hb2); (try clear hk); (try clear hi); (try clear ho0); (try clear ho1); (try clear ho2); obtain ⟨Ao97, co97, eo97⟩ := Kd.R_slice HO1756.out; subst eo97; have hcz98_0 := cz BK1691 0; have hcz98_1 := cz BK1691 1; have hcz98_2 := cz BK1691 2; have hcz98_3 := cz BK1691 3; have hcz98_4 := cz BK1691 4; have hcz98_5 := cz BK1691 5; have hfz98_0 := blk_frozen BK1691.out 0; have hfz98_1 := blk_frozen BK1691.out 1; have hfz98_2 := blk_frozen BK1691.out 2; have hfz98_3 := blk_frozen BK1691.out 3; have hfz98_4 := blk_frozen BK1691.out 4; have hfz98_5 := blk_frozen BK1691.out 5; obtain ⟨Ao99, co99, eo99⟩ := Kd.R_slice HO1760.out; subst eo99; obtain ⟨Ao100, co100, eo100⟩ := Kd.R_slice HO1765.out; subst eo100))
       go_roundg k1
       case measure => have := HK1.out; omega
       case rel => exact ⟨(wrap64 (x6_1 + 1)), (t1696), (t1697), (t1754), (t1757), (t1758), (t1761), (t1762), (t1763), (.slice Ao97 t1754.length co97), (.slice Ao99 t1758.length co99), (.slice Ao100 t1763.length co100), (by first | rfl | (simp; done) | (simp [*]; done)), H', ⟨by have := HK1.out; omega⟩, ⟨by (with_reducible repeat (first | apply Kd.R_alloc | apply Kd.R_drewN | apply Kd.R_drew)); exact Kd.R_mono (Kd.R_far (p := ⟨gb1691, 5, none⟩) (Kd.R_far (p := ⟨gb1691, 4, none⟩) (Kd.R_far (p := ⟨gb1691, 3, none⟩) (Kd.R_far (p := ⟨gb1691, 2, none⟩) (Kd.R_far (p := ⟨gb1691, 1, none⟩) (Kd.R_far (p := ⟨gb1691, 0, none⟩) (Kd.R_types HO1756.out BK1691.out (by decide)) (fun _ hk => hk.2) (.slice Ao97 t1754.length co97)) (fun _ hk => hk.2) (.int .i64 t1757)) (fun _ hk => hk.2) (.slice Ao99 t1758.length co99)) (fun _ hk => hk.2) (.int .i64 t1761)) (fun _ hk => hk.2) (.int .i64 t1762)) (fun _ hk => hk.2) (.slice Ao100 t1763.length co100)) (fun _ hk => trivial)⟩, ⟨by (with_reducible repeat (first | apply Kd.R_alloc | apply Kd.R_drewN | apply Kd.R_drew)); exact Kd.R_mono (Kd.R_far (p := ⟨gb1691, 5, none⟩) (Kd.R_far (p := ⟨gb1691, 4, none⟩) (Kd.R_far (p := ⟨gb1691, 3, none⟩) (Kd.R_far (p := ⟨gb1691, 2, none⟩) (Kd.R_far (p := ⟨gb1691, 1, none⟩) (Kd.R_far (p := ⟨gb1691, 0, none⟩) (Kd.R_types HO1760.out BK1691.out (by decide)) (fun _ hk => hk.2) (.slice Ao97 t1754.length co97)) (fun _ hk => hk.2) (.int .i64 t1757)) (fun _ hk => hk.2) (.slice Ao99 t1758.length co99)) (fun _ hk => hk.2) (.int .i64 t1761)) (fun _ hk => hk.2) (.int .i64 t1762)) (fun _ hk => hk.2) (.slice Ao100 t1763.length co100)) (fun _ hk => trivial)⟩, ⟨by (with_reducible repeat (first | apply Kd.R_alloc | apply Kd.R_drewN | apply Kd.R_drew)); exact Kd.R_mono (Kd.R_far (p := ⟨gb1691, 5, none⟩) (Kd.R_far (p := ⟨gb1691, 4, none⟩) (Kd.R_far (p := ⟨gb1691, 3, none⟩) (Kd.R_far (p := ⟨gb1691, 2, none⟩) (Kd.R_far (p := ⟨gb1691, 1, none⟩) (Kd.R_far (p := ⟨gb1691, 0, none⟩) (Kd.R_types HO1765.out BK1691.out (by decide)) (fun _ hk => hk.2) (.slice Ao97 t1754.length co97)) (fun _ hk => hk.2) (.int .i64 t1757)) (fun _ hk => hk.2) (.slice Ao99 t1758.length co99)) (fun _ hk => hk.2) (.int .i64 t1761)) (fun _ hk => hk.2) (.int .i64 t1762)) (fun _ hk => hk.2) (.slice Ao100 t1763.length co100)) (fun _ hk => trivial)⟩, ⟨by (with_reducible repeat (first | refine blk_drewN ?_ _ | refine blk_drew ?_ | refine blk_alloc ?_ _)); refine blk_far ?_ NB1669_1691.out _; (with_reducible repeat (first | refine blk_drewN ?_ _ | refine blk_drew ?_ | refine blk_alloc ?_ _)); refine blk_far ?_ NB1669_1691.out _; (with_reducible repeat (first | refine blk_drewN ?_ _ | refine blk_drew ?_ | refine blk_alloc ?_ _)); refine blk_far ?_ NB1669_1691.out _; (with_reducible repeat (first | refine blk_drewN ?_ _ | refine blk_drew ?_ | refine blk_alloc ?_ _)); refine blk_far ?_ NB1669_1691.out _; (with_reducible repeat (first | refine blk_drewN ?_ _ | refine blk_drew ?_ | refine blk_alloc ?_ _)); refine blk_far ?_ NB1669_1691.out _; (with_reducible repeat (first | refine blk_drewN ?_ _ | refine blk_drew ?_ | refine blk_alloc ?_ _)); refine blk_far ?_ NB1669_1691.out _; (with_reducible repeat (first | refine blk_drewN ?_ _ | refine blk_drew ?_ | refine blk_alloc ?_ _)); exact BK1669.out⟩, ⟨by (with_reducible repeat (first | refine blk_drewN ?_ _ | refine blk_drew ?_ | refine blk_alloc ?_ _)); refine blk_put (cs := #[.slice Ao97 t1754.length co97, .int .i64 t1757, .slice Ao99 t1758.length co99, .int .i64 t1761, .int .i64 t1762, .slice Ao95 x1692005_1.length co95]) ?_ 5 _ rfl; (with_reducible repeat (first | refine blk_drewN ?_ _ | refine blk_drew ?_ | refine blk_alloc ?_ _)); refine blk_put (cs := #[.slice Ao97 t1754.length co97, .int .i64 t1757, .slice Ao99 t1758.length co99, .int .i64 t1761, .int .i64 x1692004_1, .slice Ao95 x1692005_1.length co95]) ?_ 4 _ rfl; (with_reducible repeat (first | refine blk_drewN ?_ _ | refine blk_drew ?_ | refine blk_alloc ?_ _)); refine blk_put (cs := #[.slice Ao97 t1754.length co97, .int .i64 t1757, .slice Ao99 t1758.length co99, .int .i64 x1692003_1, .int .i64 x1692004_1, .slice Ao95 x1692005_1.length co95]) ?_ 3 _ rfl; (with_reducible repeat (first | refine blk_drewN ?_ _ | refine blk_drew ?_ | refine blk_alloc ?_ _)); refine blk_put (cs := #[.slice Ao97 t1754.length co97, .int .i64 t1757, .slice Ao94 x1692002_1.length co94, .int .i64 x1692003_1, .int .i64 x1692004_1, .slice Ao95 x1692005_1.length co95]) ?_ 2 _ rfl; (with_reducible repeat (first | refine blk_drewN ?_ _ | refine blk_drew ?_ | refine blk_alloc ?_ _)); refine blk_put (cs := #[.slice Ao97 t1754.length co97, .int .i64 x1692001_1, .slice Ao94 x1692002_1.length co94, .int .i64 x1692003_1, .int .i64 x1692004_1, .slice Ao95 x1692005_1.length co95]) ?_ 1 _ rfl; (with_reducible repeat (first | refine blk_drewN ?_ _ | refine blk_drew ?_ | refine blk_alloc ?_ _)); refine blk_put (cs := #[.slice Ao93 x1692000_1.length co93, .int .i64 x1692001_1, .slice Ao94 x1692002_1.length co94, .int .i64 x1692003_1, .int .i64 x1692004_1, .slice Ao95 x1692005_1.length co95]) ?_ 0 _ rfl; (with_reducible repeat (first | refine blk_drewN ?_ _ | refine blk_drew ?_ | refine blk_alloc ?_ _)); exact BK1691.out⟩, ⟨oI129 HI0⟩, ⟨oKe HK⟩, ⟨oB129 HB⟩⟩
   ·rw [if_neg c19] at H
    have c19b0 : decide (x6_1 < t1692) = false := decide_eq_false c19
    clear c19
    simp only [Option.some.injEq, Prod.mk.injEq] at H
    obtain ⟨rfl, rfl, rfl, rfl, rfl, rfl, rfl, rfl⟩ := H
    have hnb101 := NB1691_1669.out
    have hnc101 := NB1669_1691.out
    have hnb102 := NB1691_0.out
    have hnc102 := NB0_1691.out
    have hcz103_0 := cz BK1691 0
    have hcz103_1 := cz BK1691 1
    have hcz103_2 := cz BK1691 2
    have hcz103_3 := cz BK1691 3
    have hcz103_4 := cz BK1691 4
    have hcz103_5 := cz BK1691 5
    have hfz103_0 := blk_frozen BK1691.out 0
    have hfz103_1 := blk_frozen BK1691.out 1
    have hfz103_2 := blk_frozen BK1691.out 2
    have hfz103_3 := blk_frozen BK1691.out 3
    have hfz103_4 := blk_frozen BK1691.out 4
    have hfz103_5 := blk_frozen BK1691.out 5
    obtain ⟨Ao104, co104, eo104⟩ := Kd.R_slice HO_1692000.out
    subst eo104
    have hnb105 := NB1669_0.out
    have hnc105 := NB0_1669.out
    have hcz106_0 := cz BK1669 0
    have hcz106_1 := cz BK1669 1
    have hcz106_2 := cz BK1669 2
    have hcz106_3 := cz BK1669 3
    have hcz106_4 := cz BK1669 4
    have hcz106_5 := cz BK1669 5
    have hfz106_0 := blk_frozen BK1669.out 0
    have hfz106_1 := blk_frozen BK1669.out 1
    have hfz106_2 := blk_frozen BK1669.out 2
    have hfz106_3 := blk_frozen BK1669.out 3
    have hfz106_4 := blk_frozen BK1669.out 4
    have hfz106_5 := blk_frozen BK1669.out 5
    obtain ⟨Ao107, co107, eo107⟩ := Kd.R_slice HO_1692002.out
    subst eo107
    obtain ⟨Ao108, co108, eo108⟩ := Kd.R_slice HO_1692005.out
    subst eo108
    go_wp2
    refine bodyPost_ret (results_cell_row rfl _ _ gb1669 36 #[.slice Ao104 x1692000_1.length co104, .int .i64 x1692001_1, .slice Ao107 x1692002_1.length co107, .int .i64 x1692003_1, .int .i64 x1692004_1, .slice Ao108 x1692005_1.length co108] (0, 0) _ rfl (by (with_reducible repeat (first | refine blk_drewN ?_ _ | refine blk_drew ?_ | refine blk_alloc ?_ _)); refine blk_put (cs := #[.slice Ao104 x1692000_1.length co104, .int .i64 x1692001_1, .slice Ao107 x1692002_1.length co107, .int .i64 x1692003_1, .int .i64 x1692004_1, .slice none 0 0]) ?_ 5 _ rfl; (with_reducible repeat (first | refine blk_drewN ?_ _ | refine blk_drew ?_ | refine blk_alloc ?_ _)); refine blk_put (cs := #[.slice Ao104 x1692000_1.length co104, .int .i64 x1692001_1, .slice Ao107 x1692002_1.length co107, .int .i64 x1692003_1, .int .i64 0, .slice none 0 0]) ?_ 4 _ rfl; (with_reducible repeat (first | refine blk_drewN ?_ _ | refine blk_drew ?_ | refine blk_alloc ?_ _)); refine blk_put (cs := #[.slice Ao104 x1692000_1.length co104, .int .i64 x1692001_1, .slice Ao107 x1692002_1.length co107, .int .i64 0, .int .i64 0, .slice none 0 0]) ?_ 3 _ rfl; (with_reducible repeat (first | refine blk_drewN ?_ _ | refine blk_drew ?_ | refine blk_alloc ?_ _)); refine blk_put (cs := #[.slice Ao104 x1692000_1.length co104, .int .i64 x1692001_1, .slice none 0 0, .int .i64 0, .int .i64 0, .slice none 0 0]) ?_ 2 _ rfl; (with_reducible repeat (first | refine blk_drewN ?_ _ | refine blk_drew ?_ | refine blk_alloc ?_ _)); refine blk_put (cs := #[.slice Ao104 x1692000_1.length co104, .int .i64 0, .slice none 0 0, .int .i64 0, .int .i64 0, .slice none 0 0]) ?_ 1 _ rfl; (with_reducible repeat (first | refine blk_drewN ?_ _ | refine blk_drew ?_ | refine blk_alloc ?_ _)); refine blk_put (cs := #[.slice none 0 0, .int .i64 0, .slice none 0 0, .int .i64 0, .int .i64 0, .slice none 0 0]) ?_ 0 _ rfl; (with_reducible repeat (first | refine blk_drewN ?_ _ | refine blk_drew ?_ | refine blk_alloc ?_ _)); exact BK1669.out) Try.underlying36 rfl (by kernel_rfl)) rfl ?_
    exact ⟨_, _, _, eR, by (with_reducible repeat (first | apply Kd.R_alloc | apply Kd.R_drewN | apply Kd.R_drew)); exact Kd.R_mono (Kd.R_far (p := ⟨gb1669, 5, none⟩) (Kd.R_far (p := ⟨gb1669, 4, none⟩) (Kd.R_far (p := ⟨gb1669, 3, none⟩) (Kd.R_far (p := ⟨gb1669, 2, none⟩) (Kd.R_far (p := ⟨gb1669, 1, none⟩) (Kd.R_far (p := ⟨gb1669, 0, none⟩) (Kd.R_types HO_1692000.out BK1669.out (by decide)) (fun _ hk => hk.2) (.slice Ao104 x1692000_1.length co104)) (fun _ hk => hk.2) (.int .i64 x1692001_1)) (fun _ hk => hk.2) (.slice Ao107 x1692002_1.length co107)) (fun _ hk => hk.2) (.int .i64 x1692003_1)) (fun _ hk => hk.2) (.int .i64 x1692004_1)) (fun _ hk => hk.2) (.slice Ao108 x1692005_1.length co108)) (fun _ hk => trivial), by (with_reducible repeat (first | apply Kd.R_alloc | apply Kd.R_drewN | apply Kd.R_drew)); exact Kd.R_mono (Kd.R_far (p := ⟨gb1669, 5, none⟩) (Kd.R_far (p := ⟨gb1669, 4, none⟩) (Kd.R_far (p := ⟨gb1669, 3, none⟩) (Kd.R_far (p := ⟨gb1669, 2, none⟩) (Kd.R_far (p := ⟨gb1669, 1, none⟩) (Kd.R_far (p := ⟨gb1669, 0, none⟩) (Kd.R_types HO_1692002.out BK1669.out (by decide)) (fun _ hk => hk.2) (.slice Ao104 x1692000_1.length co104)) (fun _ hk => hk.2) (.int .i64 x1692001_1)) (fun _ hk => hk.2) (.slice Ao107 x1692002_1.length co107)) (fun _ hk => hk.2) (.int .i64 x1692003_1)) (fun _ hk => hk.2) (.int .i64 x1692004_1)) (fun _ hk => hk.2) (.slice Ao108 x1692005_1.length co108)) (fun _ hk => trivial), by (with_reducible repeat (first | apply Kd.R_alloc | apply Kd.R_drewN | apply Kd.R_drew)); exact Kd.R_mono (Kd.R_far (p := ⟨gb1669, 5, none⟩) (Kd.R_far (p := ⟨gb1669, 4, none⟩) (Kd.R_far (p := ⟨gb1669, 3, none⟩) (Kd.R_far (p := ⟨gb1669, 2, none⟩) (Kd.R_far (p := ⟨gb1669, 1, none⟩) (Kd.R_far (p := ⟨gb1669, 0, none⟩) (Kd.R_types HO_1692005.out BK1669.out (by decide)) (fun _ hk => hk.2) (.slice Ao104 x1692000_1.length co104)) (fun _ hk => hk.2) (.int .i64 x1692001_1)) (fun _ hk => hk.2) (.slice Ao107 x1692002_1.length co107)) (fun _ hk => hk.2) (.int .i64 x1692003_1)) (fun _ hk => hk.2) (.int .i64 x1692004_1)) (fun _ hk => hk.2) (.slice Ao108 x1692005_1.length co108)) (fun _ hk => trivial), oI129 HI0, oB129 HB, oKe HK⟩
end Go.Proofs.Ytbkkpllejgedcaa.P


namespace Go.Proofs.Ytbkkpllejgedcaa.P
open Go.RowKit Go.Proofs.YtbkkpllejgedcaaW.PrintWords Go.Proofs.YtbkkpllejgedcaaW.PrintLast Go.Proofs.YtbkkpllejgedcaaW.PrintMore
attribute [local go_sem] max2_int min2_int max_two min_two max_three min_three max_four min_four
set_option linter.unusedVariables false
set_option linter.unusedSimpArgs false
def spec_l01New.l0 : Nat → List Int → Int → Int → Option (List Int × Int × Int)
 | 0, _, _, _ => none
 | k + 1, x0, x3, x4 => if x4 < (x0.length : Int) then (if x4 < 4000 then (if 0 ≤ x4 then (spec_l01New.l0 k x0 (Go.bits .and .i64 (wrap64 ((wrap64 ((wrap64 (x3 * 131)) + (wrap64 (rd x0 x4)))) + 7)) 1073741823) (wrap64 (x4 + 1))) else (none)) else (some (x0, 0, x3))) else (some (x0, 0, x3))
def spec_l01New.f (k : Nat) (l0 : List Int) : Option (List Int × Int × Int) := spec_l01New.l0 k l0 (wrap64 (98939 + (l0.length : Int))) 0
set_option maxHeartbeats 8000000 in
set_option maxRecDepth 100000 in
theorem spec_l01New.calls (k : Nat) (A0 : Option Addr) (c0 : Nat) (l0 : List Int) (r1 : List Int) (r2 : Int) (r3 : Int) (w0 w : World) (hB : Below w0.heap.size w0 w) (hr0 : Kd.C (Kd.int .u8) w0 A0 l0.length l0) (hc0 : l0.length ≤ c0) (h : spec_l01New.f k l0 = some (r1, r2, r3)) :
  Calls Try.prog 92 #[.slice A0 l0.length c0] w fun e w' => ∃ g_ : Nat, e = .returned (.pointer (some ⟨g_, 0, none⟩)) ∧ IsS129 w0 w' g_ r1 r2 r3 ∧ Below w0.heap.size w0 w' ∧ Below w.heap.size w w' := by
 have hu129 := Try.underlying129
 have HR0 := A_ hr0
 have HC0 := A_ hc0
 clear hr0 hc0
 have HBW := A_ (Below.refl w.heap.size w)
 have HW0 := A_ hB.size
 have HB := A_ hB
 clear hB
 have H : (spec_l01New.l0 k l0 (wrap64 (98939 + (l0.length : Int))) 0) = some (r1, r2, r3) := h
 clear h
 have H' := A_ H
 clear H
 go_enter Try.func92, Try.ntmps92
 go_wp2
 go_loopg [3, 4] k (fun kq v3 v4 w' => ∃ (x3_1 : Int) (x4_1 : Int), v3 = .int .i64 x3_1 ∧ v4 = .int .i64 x4_1 ∧ Aside0 (spec_l01New.l0 kq l0 x3_1 x4_1 = some (r1, r2, r3)) ∧ Aside0 (kq ≤ k) ∧ Aside0 (Below w0.heap.size w0 w') ∧ Aside0 (Below w.heap.size w w'))
 case atStart => exact ⟨(wrap64 (98939 + (l0.length : Int))), (0), (by first | rfl | (simp; done) | (simp [*]; done)), (by first | rfl | (simp; done) | (simp [*]; done)), H', ⟨Nat.le_refl _⟩, ⟨oB HB⟩, ⟨HBW.out⟩⟩
 case round =>
  clear H' HB HBW
  obtain ⟨x3_1, x4_1, rfl, rfl, HA, HK1, HB, HBW⟩ := hrel
  cases gk with
  | zero => exact absurd HA.out (by simp [spec_l01New.l0])
  | succ k1 =>
   have H := HA.out
   clear HA
   simp only [spec_l01New.l0] at H
   by_cases c2 : x4_1 < (l0.length : Int)
   ·rw [if_pos c2] at H
    have c2b0 : decide (x4_1 < (l0.length : Int)) = true := decide_eq_true c2
    clear c2
    by_cases c3 : x4_1 < 4000
    ·rw [if_pos c3] at H
     have c3b0 : decide (x4_1 < 4000) = true := decide_eq_true c3
     clear c3
     by_cases c4 : 0 ≤ x4_1
     ·rw [if_pos c4] at H
      have c4b0 : decide (0 ≤ x4_1) = true := decide_eq_true c4
      clear c4
      have H' := A_ H
      clear H
      have p1767 : 0 ≤ (x4_1 : Int) := of_decide_eq_true (by first | (with_reducible assumption) | assumption)
      have q1767 : x4_1 < (l0.length : Int) := of_decide_eq_true (by first | (with_reducible assumption) | assumption)
      obtain ⟨ad1767, e1767, hx1767_0⟩ := Kd.at_int HR0.out x4_1 p1767 q1767
      cases e1767
      replace hx1767_0 := pw_cell_below HB.out hx1767_0
      replace p1767 := eq_true p1767
      replace q1767 := eq_true q1767
      go_wp2
      go_roundg k1
      case measure => have := HK1.out; omega
      case rel => exact ⟨(Go.bits .and .i64 (wrap64 ((wrap64 ((wrap64 (x3_1 * 131)) + (wrap64 (rd l0 x4_1)))) + 7)) 1073741823), (wrap64 (x4_1 + 1)), (by first | rfl | (simp; done) | (simp [*]; done)), (by first | rfl | (simp; done) | (simp [*]; done)), H', ⟨by have := HK1.out; omega⟩, ⟨oB HB⟩, HBW⟩
     ·rw [if_neg c4] at H
      exact absurd H (by simp)
    ·rw [if_neg c3] at H
     have c3b0 : decide (x4_1 < 4000) = false := decide_eq_false c3
     clear c3
     simp only [Option.some.injEq, Prod.mk.injEq] at H
     obtain ⟨rfl, rfl, rfl⟩ := H
     go_wp2
     go_ret
     exact ⟨_, rfl, ⟨_, _, by simpa using heap_alloc_new _ _, HB.out.size, HR0.out⟩, below_alloc HB.out _, below_alloc HBW.out _⟩
   ·rw [if_neg c2] at H
    have c2b0 : decide (x4_1 < (l0.length : Int)) = false := decide_eq_false c2
    clear c2
    simp only [Option.some.injEq, Prod.mk.injEq] at H
    obtain ⟨rfl, rfl, rfl⟩ := H
    go_wp2
    go_ret
    exact ⟨_, rfl, ⟨_, _, by simpa using heap_alloc_new _ _, HB.out.size, HR0.out⟩, below_alloc HB.out _, below_alloc HBW.out _⟩
end Go.Proofs.Ytbkkpllejgedcaa.P


namespace Go.Proofs.Ytbkkpllejgedcaa.P
open Go.RowKit Go.Proofs.YtbkkpllejgedcaaW.PrintWords Go.Proofs.YtbkkpllejgedcaaW.PrintLast Go.Proofs.YtbkkpllejgedcaaW.PrintMore
attribute [local go_sem] max2_int min2_int max_two min_two max_three min_three max_four min_four
set_option linter.unusedVariables false
set_option linter.unusedSimpArgs false
def spec_DrawShop.f (k : Nat) (l0 : List Int) : Option ((List (S96)) × Int × List Int × Int × Int × (List (S74))) := (spec_l01New.f k l0).bind fun bt1771 => ((spec_l38Shop.f k bt1771.1 bt1771.2.1 bt1771.2.2).bind fun bt1775 => (some (bt1775.1, bt1775.2.1, bt1775.2.2.1, bt1775.2.2.2.1, bt1775.2.2.2.2.1, bt1775.2.2.2.2.2.1)))
set_option maxHeartbeats 8000000 in
set_option maxRecDepth 100000 in
theorem spec_DrawShop.calls (k : Nat) (A0 : Option Addr) (c0 : Nat) (l0 : List Int) (r1 : List (S96)) (r2 : Int) (r3 : List Int) (r4 : Int) (r5 : Int) (r6 : List (S74)) (w : World) (hr0 : Kd.C (Kd.int .u8) w A0 l0.length l0) (hc0 : l0.length ≤ c0) (h : spec_DrawShop.f k l0 = some (r1, r2, r3, r4, r5, r6)) :
  Calls Try.prog 44 #[.slice A0 l0.length c0] w fun e w' => ∃ v0_ v2_ v5_ : Value, e = .returned (.agg #[v0_, .int .i64 r2, v2_, .int .i64 r4, .int .i64 r5, v5_]) ∧ Kd.R k96 96 w' w.heap.size (fun _ => True) v0_ r1 ∧ Kd.R (Kd.int .i64) 3 w' w.heap.size (fun _ => True) v2_ r3 ∧ Kd.R k74 74 w' w.heap.size (fun _ => True) v5_ r6 ∧ Below w.heap.size w w' := by
 have hu36 := Try.underlying36
 have HR0 := A_ hr0
 have HC0 := A_ hc0
 clear hr0 hc0
 have HB := A_ (Below.refl w.heap.size w)
 have H : ((spec_l01New.f k l0).bind fun bt1771 => ((spec_l38Shop.f k bt1771.1 bt1771.2.1 bt1771.2.2).bind fun bt1775 => (some (bt1775.1, bt1775.2.1, bt1775.2.2.1, bt1775.2.2.2.1, bt1775.2.2.2.2.1, bt1775.2.2.2.2.2.1)))) = some (r1, r2, r3, r4, r5, r6) := h
 clear h
 replace H := Option.bind_eq_some_iff.mp H
 obtain ⟨⟨t1771, t1772, t1773⟩, A20, H⟩ := H
 (try dsimp only at H)
 have A2 := A_ A20
 clear A20
 replace H := Option.bind_eq_some_iff.mp H
 obtain ⟨⟨t1775, t1778, t1779, t1782, t1783, t1784, t1787, t1788⟩, A30, H⟩ := H
 (try dsimp only at H)
 have A3 := A_ A30
 clear A30
 simp only [Option.some.injEq, Prod.mk.injEq] at H
 obtain ⟨rfl, rfl, rfl, rfl, rfl, rfl⟩ := H
 go_enter Try.func44, Try.ntmps44
 go_wp2_with (first | ((with_reducible refine gate_dst (N := 2) rfl ?_); refine bX (N := 2) (cs := #[.slice none 0 0, .int .i64 0, .slice none 0 0, .int .i64 0, .int .i64 0, .slice none 0 0]) (t := 36) ?_; intro gb1770 hg w4 hbox hb; have n0_ := A_ (below_step (oB HB) hb); have n1_ := A_ (hbox); have n2_ := A_ ((by rw [hg]; exact (below_size (oB HB)) : w.heap.size ≤ gb1770)); have n3_ := A_ ((by rw [hg]; exact (below_size (oB HB)) : w.heap.size ≤ gb1770)); clear HB; have HB := n0_; have BK1770 := n1_; have GW1770 := n2_; have GE1770 := n3_; clear n0_ n1_ n2_ n3_; clear hb hbox hg) | ((with_reducible refine gate_callee (f := 92) rfl ?_); refine gL (some 4) Try.func92 #[.slice A0 l0.length c0] ?_; (with_reducible refine (spec_l01New.calls k _ _ l0 t1771 t1772 t1773 w _ ?side1 ?side2 ?side3 A2.out).mono ?_); (case side1 => repeat (first | (with_reducible first | exact HB.out | apply below_alloc | apply pw_below_drewN | apply below_drew1 | refine below_set ?_ GE1770.out) | exact HB.out)); (case side2 => exact HR0.out); (case side3 => exact HC0.out); rintro e w5 ⟨g1774, rfl, hi, hb, hb2⟩; refine ⟨_, rfl, ?_⟩; have n0_ := A_ (bb BK1770 hb2); have n1_ := A_ (hb); have n2_ := A_ (hi); have n3_ := A_ (IsS129.ne_blk hi (bb BK1770 hb2) (by decide)); have n4_ := A_ (Ne.symm (IsS129.ne_blk hi (bb BK1770 hb2) (by decide))); clear BK1770; clear HB; have BK1770 := n0_; have HB := n1_; have HI1774 := n2_; have NB1774_1770 := n3_; have NB1770_1774 := n4_; clear n0_ n1_ n2_ n3_ n4_; (try clear hb); (try clear hb2); (try clear hk); (try clear hi)) | ((with_reducible refine gate_callee (f := 91) rfl ?_); refine gL (some 5) Try.func91 #[.pointer (some ⟨g1774, 0, none⟩)] ?_; (with_reducible refine (spec_l38Shop.calls k g1774 t1771 t1772 t1773 t1775 t1778 t1779 t1782 t1783 t1784 t1787 t1788 w _ ?side1 ?side2 A3.out).mono ?_); (case side1 => exact oI129 HI1774); (case side2 => exact oB129 HB); rintro e w6 ⟨v1776, v1780, v1785, rfl, ho0, ho1, ho2, hi, hb, hk⟩; refine ⟨_, rfl, ?_⟩; have n0_ := A_ (KeepBut.blk hk (g' := gb1770) (o := .cells #[.slice none 0 0, .int .i64 0, .slice none 0 0, .int .i64 0, .int .i64 0, .slice none 0 0] 36 (0, 0)) (oK BK1770) NB1770_1774.out (by simp)); have n1_ := A_ (Kd.R_lower ho0 (below_size (oB129 HB))); have n2_ := A_ (Kd.R_lower ho1 (below_size (oB129 HB))); have n3_ := A_ (Kd.R_lower ho2 (below_size (oB129 HB))); have n4_ := A_ (hb); have n5_ := A_ (hi); clear BK1770; clear HB; clear HI1774; have BK1770 := n0_; have HO1777 := n1_; have HO1781 := n2_; have HO1786 := n3_; have HB := n4_; have HI1774 := n5_; clear n0_ n1_ n2_ n3_ n4_ n5_; (try clear hb); (try clear hb2); (try clear hk); (try clear hi); (try clear ho0); (try clear ho1); (try clear ho2); obtain ⟨Ao7, co7, eo7⟩ := Kd.R_slice HO1777.out; subst eo7; have hnb8 := NB1770_1774.out; have hnc8 := NB1774_1770.out; have hcz9_0 := cz BK1770 0; have hcz9_1 := cz BK1770 1; have hcz9_2 := cz BK1770 2; have hcz9_3 := cz BK1770 3; have hcz9_4 := cz BK1770 4; have hcz9_5 := cz BK1770 5; have hfz9_0 := blk_frozen BK1770.out 0; have hfz9_1 := blk_frozen BK1770.out 1; have hfz9_2 := blk_frozen BK1770.out 2; have hfz9_3 := blk_frozen BK1770.out 3; have hfz9_4 := blk_frozen BK1770.out 4; have hfz9_5 := blk_frozen BK1770.out 5; obtain ⟨Ao10, co10, eo10⟩ := Kd.R_slice HO1781.out; subst eo10; obtain ⟨Ao11, co11, eo11⟩ := Kd.R_slice HO1786.out; subst eo11))
 refine bodyPost_ret (results_cell_row rfl _ _ gb1770 36 #[.slice Ao7 t1775.length co7, .int .i64 t1778, .slice Ao10 t1779.length co10, .int .i64 t1782, .int .i64 t1783, .slice Ao11 t1784.length co11] (0, 0) _ rfl (by (with_reducible repeat (first | refine blk_drewN ?_ _ | refine blk_drew ?_ | refine blk_alloc ?_ _)); refine blk_put (cs := #[.slice Ao7 t1775.length co7, .int .i64 t1778, .slice Ao10 t1779.length co10, .int .i64 t1782, .int .i64 t1783, .slice none 0 0]) ?_ 5 _ rfl; (with_reducible repeat (first | refine blk_drewN ?_ _ | refine blk_drew ?_ | refine blk_alloc ?_ _)); refine blk_put (cs := #[.slice Ao7 t1775.length co7, .int .i64 t1778, .slice Ao10 t1779.length co10, .int .i64 t1782, .int .i64 0, .slice none 0 0]) ?_ 4 _ rfl; (with_reducible repeat (first | refine blk_drewN ?_ _ | refine blk_drew ?_ | refine blk_alloc ?_ _)); refine blk_put (cs := #[.slice Ao7 t1775.length co7, .int .i64 t1778, .slice Ao10 t1779.length co10, .int .i64 0, .int .i64 0, .slice none 0 0]) ?_ 3 _ rfl; (with_reducible repeat (first | refine blk_drewN ?_ _ | refine blk_drew ?_ | refine blk_alloc ?_ _)); refine blk_put (cs := #[.slice Ao7 t1775.length co7, .int .i64 t1778, .slice none 0 0, .int .i64 0, .int .i64 0, .slice none 0 0]) ?_ 2 _ rfl; (with_reducible repeat (first | refine blk_drewN ?_ _ | refine blk_drew ?_ | refine blk_alloc ?_ _)); refine blk_put (cs := #[.slice Ao7 t1775.length co7, .int .i64 0, .slice none 0 0, .int .i64 0, .int .i64 0, .slice none 0 0]) ?_ 1 _ rfl; (with_reducible repeat (first | refine blk_drewN ?_ _ | refine blk_drew ?_ | refine blk_alloc ?_ _)); refine blk_put (cs := #[.slice none 0 0, .int .i64 0, .slice none 0 0, .int .i64 0, .int .i64 0, .slice none 0 0]) ?_ 0 _ rfl; (with_reducible repeat (first | refine blk_drewN ?_ _ | refine blk_drew ?_ | refine blk_alloc ?_ _)); exact BK1770.out) Try.underlying36 rfl (by kernel_rfl)) rfl ?_
 exact ⟨_, _, _, eR, by (with_reducible repeat (first | apply Kd.R_alloc | apply Kd.R_drewN | apply Kd.R_drew)); exact Kd.R_mono (Kd.R_far (p := ⟨gb1770, 5, none⟩) (Kd.R_far (p := ⟨gb1770, 4, none⟩) (Kd.R_far (p := ⟨gb1770, 3, none⟩) (Kd.R_far (p := ⟨gb1770, 2, none⟩) (Kd.R_far (p := ⟨gb1770, 1, none⟩) (Kd.R_far (p := ⟨gb1770, 0, none⟩) (Kd.R_types HO1777.out BK1770.out (by decide)) (fun _ hk => hk.2) (.slice Ao7 t1775.length co7)) (fun _ hk => hk.2) (.int .i64 t1778)) (fun _ hk => hk.2) (.slice Ao10 t1779.length co10)) (fun _ hk => hk.2) (.int .i64 t1782)) (fun _ hk => hk.2) (.int .i64 t1783)) (fun _ hk => hk.2) (.slice Ao11 t1784.length co11)) (fun _ hk => trivial), by (with_reducible repeat (first | apply Kd.R_alloc | apply Kd.R_drewN | apply Kd.R_drew)); exact Kd.R_mono (Kd.R_far (p := ⟨gb1770, 5, none⟩) (Kd.R_far (p := ⟨gb1770, 4, none⟩) (Kd.R_far (p := ⟨gb1770, 3, none⟩) (Kd.R_far (p := ⟨gb1770, 2, none⟩) (Kd.R_far (p := ⟨gb1770, 1, none⟩) (Kd.R_far (p := ⟨gb1770, 0, none⟩) (Kd.R_types HO1781.out BK1770.out (by decide)) (fun _ hk => hk.2) (.slice Ao7 t1775.length co7)) (fun _ hk => hk.2) (.int .i64 t1778)) (fun _ hk => hk.2) (.slice Ao10 t1779.length co10)) (fun _ hk => hk.2) (.int .i64 t1782)) (fun _ hk => hk.2) (.int .i64 t1783)) (fun _ hk => hk.2) (.slice Ao11 t1784.length co11)) (fun _ hk => trivial), by (with_reducible repeat (first | apply Kd.R_alloc | apply Kd.R_drewN | apply Kd.R_drew)); exact Kd.R_mono (Kd.R_far (p := ⟨gb1770, 5, none⟩) (Kd.R_far (p := ⟨gb1770, 4, none⟩) (Kd.R_far (p := ⟨gb1770, 3, none⟩) (Kd.R_far (p := ⟨gb1770, 2, none⟩) (Kd.R_far (p := ⟨gb1770, 1, none⟩) (Kd.R_far (p := ⟨gb1770, 0, none⟩) (Kd.R_types HO1786.out BK1770.out (by decide)) (fun _ hk => hk.2) (.slice Ao7 t1775.length co7)) (fun _ hk => hk.2) (.int .i64 t1778)) (fun _ hk => hk.2) (.slice Ao10 t1779.length co10)) (fun _ hk => hk.2) (.int .i64 t1782)) (fun _ hk => hk.2) (.int .i64 t1783)) (fun _ hk => hk.2) (.slice Ao11 t1784.length co11)) (fun _ hk => trivial), oB129 HB⟩
end Go.Proofs.Ytbkkpllejgedcaa.P


namespace Go.Proofs.Ytbkkpllejgedcaa.P
open Go.RowKit Go.Proofs.YtbkkpllejgedcaaW.PrintWords Go.Proofs.YtbkkpllejgedcaaW.PrintLast Go.Proofs.YtbkkpllejgedcaaW.PrintMore
attribute [local go_sem] max2_int min2_int max_two min_two max_three min_three max_four min_four
set_option linter.unusedVariables false
set_option linter.unusedSimpArgs false
def laws_at.f (l0 : List Int) (a1 : Int) : Option (Int) := if (l0.length : Int) = 0 then (some 0) else (if 0 ≤ (Int.tmod (wrap64 ((wrap64 (a1 * 5)) + 1)) (l0.length : Int)) then (if (Int.tmod (wrap64 ((wrap64 (a1 * 5)) + 1)) (l0.length : Int)) < (l0.length : Int) then (some (wrap64 (rd l0 (Int.tmod (wrap64 ((wrap64 (a1 * 5)) + 1)) (l0.length : Int))))) else (none)) else (none))
set_option maxHeartbeats 8000000 in
set_option maxRecDepth 100000 in
theorem laws_at.calls (A0 : Option Addr) (c0 : Nat) (l0 : List Int) (a1 : Int) (r : Int) (w : World) (hr0 : Kd.C (Kd.int .u8) w A0 l0.length l0) (hc0 : l0.length ≤ c0) (h : laws_at.f l0 a1 = some r) :
  Calls Try.prog 45 #[.slice A0 l0.length c0, .int .i64 a1] w fun e w' => e = .returned (.int .i64 r) ∧ Drawn0 w w' := by
 have HR0 := A_ hr0
 have HC0 := A_ hc0
 clear hr0 hc0
 have H : (if (l0.length : Int) = 0 then (some 0) else (if 0 ≤ (Int.tmod (wrap64 ((wrap64 (a1 * 5)) + 1)) (l0.length : Int)) then (if (Int.tmod (wrap64 ((wrap64 (a1 * 5)) + 1)) (l0.length : Int)) < (l0.length : Int) then (some (wrap64 (rd l0 (Int.tmod (wrap64 ((wrap64 (a1 * 5)) + 1)) (l0.length : Int))))) else (none)) else (none))) = some r := h
 clear h
 by_cases c3 : (l0.length : Int) = 0
 ·rw [if_pos c3] at H
  have c3b0 : ((l0.length : Int) == 0) = true := beq_iff_eq.mpr c3
  have c3b1 : ((l0.length : Int) != 0) = false := bne_eq_false_iff_eq.mpr c3
  clear c3
  obtain rfl := Option.some.inj H
  go_enter Try.func45, Try.ntmps45
  go_wp2
  go_ret
  exact ⟨by first | rfl | (simp; done) | (simp [*]; done), by repeat (first | exact Drawn0.refl _ | apply Drawn0.step)⟩
 ·rw [if_neg c3] at H
  have c3b0 : ((l0.length : Int) == 0) = false := beq_eq_false_iff_ne.mpr c3
  have c3b1 : ((l0.length : Int) != 0) = true := bne_iff_ne.mpr c3
  have c3b2 : ¬ (l0 = []) := fun h_ => c3 (by rw [h_]; rfl)
  obtain ⟨ji4, hji4⟩ : ∃ j_ : Int, (Int.tmod (wrap64 ((wrap64 (a1 * 5)) + 1)) (l0.length : Int)) = j_ := ⟨_, rfl⟩
  replace H : (if 0 ≤ (ji4) then (if (ji4) < (l0.length : Int) then (some (wrap64 (rd l0 (ji4)))) else (none)) else (none)) = some r := by first | (rw [hji4] at H; exact H) | (simp only [hji4] at H ⊢; exact H)
  by_cases c5 : 0 ≤ (ji4)
  ·rw [if_pos c5] at H
   have c5b0 : decide (0 ≤ (ji4)) = true := decide_eq_true c5
   clear c5
   by_cases c6 : (ji4) < (l0.length : Int)
   ·rw [if_pos c6] at H
    have c6b0 : decide ((ji4) < (l0.length : Int)) = true := decide_eq_true c6
    clear c6
    obtain rfl := Option.some.inj H
    have p1789 : 0 ≤ ((ji4) : Int) := of_decide_eq_true (by first | (with_reducible assumption) | assumption)
    have q1789 : (ji4) < (l0.length : Int) := of_decide_eq_true (by first | (with_reducible assumption) | assumption)
    obtain ⟨ad1789, e1789, hx1789_0⟩ := Kd.at_int HR0.out (ji4) p1789 q1789
    cases e1789
    replace p1789 := eq_true p1789
    replace q1789 := eq_true q1789
    go_enter Try.func45, Try.ntmps45
    go_wp2
    go_ret
    exact ⟨by first | rfl | (simp; done) | (simp only [← hji4] <;> (first | rfl | simp)) | (simp [*]; done), by repeat (first | exact Drawn0.refl _ | apply Drawn0.step)⟩
   ·rw [if_neg c6] at H
    exact absurd H (by simp)
  ·rw [if_neg c5] at H
   exact absurd H (by simp)
end Go.Proofs.Ytbkkpllejgedcaa.P


namespace Go.Proofs.Ytbkkpllejgedcaa.P
open Go.RowKit Go.Proofs.YtbkkpllejgedcaaW.PrintWords Go.Proofs.YtbkkpllejgedcaaW.PrintLast Go.Proofs.YtbkkpllejgedcaaW.PrintMore
attribute [local go_sem] max2_int min2_int max_two min_two max_three min_three max_four min_four
set_option linter.unusedVariables false
set_option linter.unusedSimpArgs false
def laws_sameInts.l0 : Nat → List Int → List Int → Int → Option (Bool)
 | 0, _, _, _ => none
 | k + 1, x0, x1, x5 => if x5 < (x0.length : Int) then (if 0 ≤ x5 then (if x5 < (x1.length : Int) then (if (rd x0 x5) = (rd x1 x5) then (laws_sameInts.l0 k x0 x1 (wrap64 (x5 + 1))) else (some false)) else (none)) else (none)) else (some true)
def laws_sameInts.f (k : Nat) (l0 : List Int) (l1 : List Int) : Option (Bool) := if (l0.length : Int) = (l1.length : Int) then (laws_sameInts.l0 k l0 l1 0) else (some false)
set_option maxHeartbeats 8000000 in
set_option maxRecDepth 100000 in
theorem laws_sameInts.calls (k : Nat) (A0 : Option Addr) (c0 : Nat) (l0 : List Int) (A1 : Option Addr) (c1 : Nat) (l1 : List Int) (r : Bool) (w : World) (hr0 : Kd.C (Kd.int .i64) w A0 l0.length l0) (hc0 : l0.length ≤ c0) (hr1 : Kd.C (Kd.int .i64) w A1 l1.length l1) (hc1 : l1.length ≤ c1) (h : laws_sameInts.f k l0 l1 = some r) :
  Calls Try.prog 46 #[.slice A0 l0.length c0, .slice A1 l1.length c1] w fun e w' => e = .returned (.bool r) ∧ Drawn0 w w' := by
 have HR0 := A_ hr0
 have HC0 := A_ hc0
 clear hr0 hc0
 have HR1 := A_ hr1
 have HC1 := A_ hc1
 clear hr1 hc1
 have H : (if (l0.length : Int) = (l1.length : Int) then (laws_sameInts.l0 k l0 l1 0) else (some false)) = some r := h
 clear h
 by_cases c3 : (l0.length : Int) = (l1.length : Int)
 ·rw [if_pos c3] at H
  have c3b0 : ((l0.length : Int) == (l1.length : Int)) = true := beq_iff_eq.mpr c3
  have c3b1 : ((l0.length : Int) != (l1.length : Int)) = false := bne_eq_false_iff_eq.mpr c3
  have c3b2 : (l0.length == l1.length) = true := by first | simpa using c3 | (simp at c3 ⊢; omega)
  clear c3
  have H' := A_ H
  clear H
  go_enter Try.func46, Try.ntmps46
  go_wp2
  repeat (go_quiet (fail); try go_wp2)
  go_loopg [5] k (fun kq v5 w' => ∃ (x5_1 : Int), v5 = .int .i64 x5_1 ∧ Aside0 (laws_sameInts.l0 kq l0 l1 x5_1 = some r) ∧ Aside0 (kq ≤ k) ∧ Drawn0 w w')
  case atStart => exact ⟨(0), (by first | rfl | (simp; done) | (simp [*]; done)), H', ⟨Nat.le_refl _⟩, by repeat (first | exact Drawn0.refl _ | apply Drawn0.step)⟩
  case round =>
   clear H'
   try clear c1
   try clear p2
   try clear c3
   try clear c3b0
   try clear c3b1
   try clear c3b2
   obtain ⟨x5_1, rfl, HA, HK1, ⟨m1, rfl⟩⟩ := hrel
   cases gk with
   | zero => exact absurd HA.out (by simp [laws_sameInts.l0])
   | succ k1 =>
    have H := HA.out
    clear HA
    simp only [laws_sameInts.l0] at H
    by_cases c4 : x5_1 < (l0.length : Int)
    ·rw [if_pos c4] at H
     have c4b0 : decide (x5_1 < (l0.length : Int)) = true := decide_eq_true c4
     clear c4
     by_cases c5 : 0 ≤ x5_1
     ·rw [if_pos c5] at H
      have c5b0 : decide (0 ≤ x5_1) = true := decide_eq_true c5
      clear c5
      by_cases c6 : x5_1 < (l1.length : Int)
      ·rw [if_pos c6] at H
       have c6b0 : decide (x5_1 < (l1.length : Int)) = true := decide_eq_true c6
       clear c6
       by_cases c7 : (rd l0 x5_1) = (rd l1 x5_1)
       ·rw [if_pos c7] at H
        have c7b0 : ((rd l0 x5_1) == (rd l1 x5_1)) = true := beq_iff_eq.mpr c7
        have c7b1 : ((rd l0 x5_1) != (rd l1 x5_1)) = false := bne_eq_false_iff_eq.mpr c7
        clear c7
        have H' := A_ H
        clear H
        have p1790 : 0 ≤ (x5_1 : Int) := of_decide_eq_true (by first | (with_reducible assumption) | assumption)
        have q1790 : x5_1 < (l0.length : Int) := of_decide_eq_true (by first | (with_reducible assumption) | assumption)
        obtain ⟨ad1790, e1790, hx1790_0⟩ := Kd.at_int HR0.out x5_1 p1790 q1790
        cases e1790
        replace p1790 := eq_true p1790
        replace q1790 := eq_true q1790
        have p1791 : 0 ≤ (x5_1 : Int) := of_decide_eq_true (by first | (with_reducible assumption) | assumption)
        have q1791 : x5_1 < (l1.length : Int) := of_decide_eq_true (by first | (with_reducible assumption) | assumption)
        obtain ⟨ad1791, e1791, hx1791_0⟩ := Kd.at_int HR1.out x5_1 p1791 q1791
        cases e1791
        replace p1791 := eq_true p1791
        replace q1791 := eq_true q1791
        go_wp2
        repeat (go_quiet (fail); try go_wp2)
        go_roundg k1
        case measure => have := HK1.out; omega
        case rel => exact ⟨(wrap64 (x5_1 + 1)), (by first | rfl | (simp; done) | (simp [*]; done)), H', ⟨by have := HK1.out; omega⟩, by repeat (first | exact Drawn0.refl _ | apply Drawn0.step)⟩
       ·rw [if_neg c7] at H
        have c7b0 : ((rd l0 x5_1) == (rd l1 x5_1)) = false := beq_eq_false_iff_ne.mpr c7
        have c7b1 : ((rd l0 x5_1) != (rd l1 x5_1)) = true := bne_iff_ne.mpr c7
        obtain rfl := Option.some.inj H
        have p1790 : 0 ≤ (x5_1 : Int) := of_decide_eq_true (by first | (with_reducible assumption) | assumption)
        have q1790 : x5_1 < (l0.length : Int) := of_decide_eq_true (by first | (with_reducible assumption) | assumption)
        obtain ⟨ad1790, e1790, hx1790_0⟩ := Kd.at_int HR0.out x5_1 p1790 q1790
        cases e1790
        replace p1790 := eq_true p1790
        replace q1790 := eq_true q1790
        have p1791 : 0 ≤ (x5_1 : Int) := of_decide_eq_true (by first | (with_reducible assumption) | assumption)
        have q1791 : x5_1 < (l1.length : Int) := of_decide_eq_true (by first | (with_reducible assumption) | assumption)
        obtain ⟨ad1791, e1791, hx1791_0⟩ := Kd.at_int HR1.out x5_1 p1791 q1791
        cases e1791
        replace p1791 := eq_true p1791
        replace q1791 := eq_true q1791
        go_wp2
        repeat (go_quiet (fail); try go_wp2)
        go_ret
        exact ⟨by first | rfl | (simp; done) | (simp [*]; done), by repeat (first | exact Drawn0.refl _ | apply Drawn0.step)⟩
      ·rw [if_neg c6] at H
       exact absurd H (by simp)
     ·rw [if_neg c5] at H
      exact absurd H (by simp)
    ·rw [if_neg c4] at H
     have c4b0 : decide (x5_1 < (l0.length : Int)) = false := decide_eq_false c4
     clear c4
     obtain rfl := Option.some.inj H
     go_wp2
     repeat (go_quiet (fail); try go_wp2)
     go_ret
     exact ⟨by first | rfl | (simp; done) | (simp [*]; done), by repeat (first | exact Drawn0.refl _ | apply Drawn0.step)⟩
 ·rw [if_neg c3] at H
  have c3b0 : ((l0.length : Int) == (l1.length : Int)) = false := beq_eq_false_iff_ne.mpr c3
  have c3b1 : ((l0.length : Int) != (l1.length : Int)) = true := bne_iff_ne.mpr c3
  have c3b2 : (l0.length == l1.length) = false := by first | simpa using c3 | (simp at c3 ⊢; omega)
  obtain rfl := Option.some.inj H
  go_enter Try.func46, Try.ntmps46
  go_wp2
  repeat (go_quiet (fail); try go_wp2)
  go_ret
  exact ⟨by first | rfl | (simp; done) | (simp [*]; done), by repeat (first | exact Drawn0.refl _ | apply Drawn0.step)⟩
end Go.Proofs.Ytbkkpllejgedcaa.P

