/- What functions of the program come to (f), that their calls come to just this (calls), and the plain laws over lists and numbers. No condition but those of the given row. -/
import Derived.Test.YtanhnhkcpbdfmaaGreatE1
import Derived.Maps.RangeWalk
import Derived.Maps.OwnSet
import Derived.Maps.OwnOps
import Derived.Maps.Ext
import Derived.DeepKeys5
import Derived.Deep.RegionHeld3
set_option linter.unusedVariables false
set_option linter.unusedSimpArgs false
namespace Go.Proofs.YtanhnhkcpbdfmaaGreat.P
set_option maxHeartbeats 8000000
set_option maxRecDepth 100000
open Go.RowKit Go.Proofs.YtanhnhkcpbdfmaaGreatW.PrintWords Go.Proofs.YtanhnhkcpbdfmaaGreatW.PrintLast Go.Proofs.YtanhnhkcpbdfmaaGreatW.PrintMore
attribute [local go_sem] max2_int min2_int max_two min_two max_three min_three max_four min_four
def spec_l39Act.f (s0_0 : List Int) (s0_1 : Int) (s0_2 : Int) : Option (Int × Int × Int × Int × Int × Int) := (spec_l01Below.f s0_0 s0_1 s0_2 12).bind fun bt1785 => (if bt1785.1 = 0 then ((spec_l01Below.f s0_0 bt1785.2.1 bt1785.2.2 40).bind fun bt1788 => (some (2, wrap64 (bt1788.1 - 5), 0, 0, bt1788.2.1, bt1788.2.2))) else (if bt1785.1 = 1 then ((spec_l01PickInt.f s0_0 bt1785.2.1 bt1785.2.2 (([0, 0, 1] : List Int))).bind fun bt1794 => ((spec_l01Below.f s0_0 bt1794.2.1 bt1794.2.2 6).bind fun bt1797 => ((spec_l01Below.f s0_0 bt1797.2.1 bt1797.2.2 3).bind fun bt1800 => (some (3, bt1794.1, bt1797.1, bt1800.1, bt1800.2.1, bt1800.2.2))))) else (if bt1785.1 = 2 then ((spec_l01Below.f s0_0 bt1785.2.1 bt1785.2.2 12).bind fun bt1803 => ((spec_l01Below.f s0_0 bt1803.2.1 bt1803.2.2 2001).bind fun bt1806 => (some (4, bt1803.1, wrap64 (bt1806.1 - 1000), 0, bt1806.2.1, bt1806.2.2)))) else (if bt1785.1 = 3 then (some (5, 0, 0, 0, bt1785.2.1, bt1785.2.2)) else (if bt1785.1 = 4 then (some (6, 0, 0, 0, bt1785.2.1, bt1785.2.2)) else (if bt1785.1 = 5 then ((spec_l01Below.f s0_0 bt1785.2.1 bt1785.2.2 12).bind fun bt1809 => (some (7, bt1809.1, 0, 0, bt1809.2.1, bt1809.2.2))) else (some (1, 0, 0, 0, bt1785.2.1, bt1785.2.2))))))))
theorem spec_l39Act.calls (g : Nat) (s0_0 : List Int) (s0_1 : Int) (s0_2 : Int) (r1 : Int) (r2 : Int) (r3 : Int) (r4 : Int) (r5 : Int) (r6 : Int) (w0 w : World) (hI : IsS132 w0 w g s0_0 s0_1 s0_2) (hB : Below w0.heap.size w0 w) (h : spec_l39Act.f s0_0 s0_1 s0_2 = some (r1, r2, r3, r4, r5, r6)) :
  Calls Tryz.prog 118 #[.pointer (some ⟨g, 0, none⟩)] w fun e w' => e = .returned (.agg #[.int .i64 r1, .int .i64 r2, .int .i64 r3, .int .i64 r4]) ∧ IsS132 w0 w' g s0_0 r5 r6 ∧ Below w0.heap.size w0 w' ∧ KeepBut w w' g none := by
 have hu41 := Tryz.underlying41
 have HI0 := A_ hI
 have HK := A_ (KeepBut.refl w g none)
 have HL := A_ hB.size
 clear hI
 have HW0 := A_ hB.size
 have HB := A_ hB
 clear hB
 have H : ((spec_l01Below.f s0_0 s0_1 s0_2 12).bind fun bt1785 => (if bt1785.1 = 0 then ((spec_l01Below.f s0_0 bt1785.2.1 bt1785.2.2 40).bind fun bt1788 => (some (2, wrap64 (bt1788.1 - 5), 0, 0, bt1788.2.1, bt1788.2.2))) else (if bt1785.1 = 1 then ((spec_l01PickInt.f s0_0 bt1785.2.1 bt1785.2.2 (([0, 0, 1] : List Int))).bind fun bt1794 => ((spec_l01Below.f s0_0 bt1794.2.1 bt1794.2.2 6).bind fun bt1797 => ((spec_l01Below.f s0_0 bt1797.2.1 bt1797.2.2 3).bind fun bt1800 => (some (3, bt1794.1, bt1797.1, bt1800.1, bt1800.2.1, bt1800.2.2))))) else (if bt1785.1 = 2 then ((spec_l01Below.f s0_0 bt1785.2.1 bt1785.2.2 12).bind fun bt1803 => ((spec_l01Below.f s0_0 bt1803.2.1 bt1803.2.2 2001).bind fun bt1806 => (some (4, bt1803.1, wrap64 (bt1806.1 - 1000), 0, bt1806.2.1, bt1806.2.2)))) else (if bt1785.1 = 3 then (some (5, 0, 0, 0, bt1785.2.1, bt1785.2.2)) else (if bt1785.1 = 4 then (some (6, 0, 0, 0, bt1785.2.1, bt1785.2.2)) else (if bt1785.1 = 5 then ((spec_l01Below.f s0_0 bt1785.2.1 bt1785.2.2 12).bind fun bt1809 => (some (7, bt1809.1, 0, 0, bt1809.2.1, bt1809.2.2))) else (some (1, 0, 0, 0, bt1785.2.1, bt1785.2.2))))))))) = some (r1, r2, r3, r4, r5, r6) := h
 clear h
 replace H := Option.bind_eq_some_iff.mp H
 obtain ⟨⟨t1785, t1786, t1787⟩, A20, H⟩ := H
 (try dsimp only at H)
 have A2 := A_ A20
 clear A20
 by_cases c3 : t1785 = 0
 ·rw [if_pos c3] at H
  have c3b0 : (t1785 == 0) = true := beq_iff_eq.mpr c3
  have c3b1 : (t1785 != 0) = false := bne_eq_false_iff_eq.mpr c3
  clear c3
  replace H := Option.bind_eq_some_iff.mp H
  obtain ⟨⟨t1788, t1789, t1790⟩, A40, H⟩ := H
  (try dsimp only at H)
  have A4 := A_ A40
  clear A40
  simp only [Option.some.injEq, Prod.mk.injEq] at H
  obtain ⟨rfl, rfl, rfl, rfl, rfl, rfl⟩ := H
  go_enter Tryz.func118, Tryz.ntmps118
  go_wp2_with (first | ((with_reducible refine gate_dst (N := 2) rfl ?_); refine bX (N := 2) (cs := #[.int .i64 0, .int .i64 0, .int .i64 0, .int .i64 0]) (t := 41) ?_; intro gb1784 hg w5 hbox hb; have n0_ := A_ (IsS132.below (oI132 HI0) hb); have n1_ := A_ (KeepBut.trans (oKe HK) (KeepBut.of_below hb g none) (.inl rfl)); have n2_ := A_ (below_step (oB132 HB) hb); have n3_ := A_ (hbox); have n4_ := A_ ((by rw [hg]; exact (keep_size (w := w) (g := g) (row := none) (by repeat (first | (with_reducible first | exact HK.out | apply KeepBut.set_ | apply keep_drewN | apply keep_drew | apply keep_alloc) | exact HK.out))) : w.heap.size ≤ gb1784)); have n5_ := A_ ((Nat.le_trans HW0.out (by rw [hg]; exact (keep_size (w := w) (g := g) (row := none) (by repeat (first | (with_reducible first | exact HK.out | apply KeepBut.set_ | apply keep_drewN | apply keep_drew | apply keep_alloc) | exact HK.out))) : w.heap.size ≤ gb1784) : w0.heap.size ≤ gb1784)); have n6_ := A_ ((by rw [hg]; exact Nat.ne_of_lt (IsS132.lt (show IsS132 w0 _ g s0_0 s0_1 s0_2 from oI132 HI0)) : g ≠ gb1784)); have n7_ := A_ ((by rw [hg]; exact Nat.ne_of_gt (IsS132.lt (show IsS132 w0 _ g s0_0 s0_1 s0_2 from oI132 HI0)) : gb1784 ≠ g)); clear HI0; clear HK; clear HB; have HI0 := n0_; have HK := n1_; have HB := n2_; have BK1784 := n3_; have GW1784 := n4_; have GE1784 := n5_; have NB0_1784 := n6_; have NB1784_0 := n7_; clear n0_ n1_ n2_ n3_ n4_ n5_ n6_ n7_; clear hb hbox hg) | ((with_reducible refine gate_callee (f := 75) rfl ?_); refine gL (some 4) Tryz.func75 #[.pointer (some ⟨g, 0, none⟩), .int .i64 12] ?_; (with_reducible refine (spec_l01Below.calls g s0_0 s0_1 s0_2 12 t1785 t1786 t1787 w0 _ ?side1 ?side2 A2.out).mono ?_); (case side1 => exact oI132 HI0); (case side2 => exact oB132 HB); rintro e w6 ⟨rfl, hi, hb, hk⟩; refine ⟨_, rfl, ?_⟩; have n0_ := A_ (KeepBut.blk hk (g' := gb1784) (o := .cells #[.int .i64 0, .int .i64 0, .int .i64 0, .int .i64 0] 41 (0, 0)) (oK BK1784) NB1784_0.out (by simp)); have n1_ := A_ (KeepBut.trans (oKe HK) hk (.inl rfl)); have n2_ := A_ (hb); have n3_ := A_ (hi); clear BK1784; clear HK; clear HB; clear HI0; have BK1784 := n0_; have HK := n1_; have HB := n2_; have HI0 := n3_; clear n0_ n1_ n2_ n3_; (try clear hb); (try clear hb2); (try clear hk); (try clear hi)) | ((with_reducible refine gate_callee (f := 75) rfl ?_); refine gL (some 8) Tryz.func75 #[.pointer (some ⟨g, 0, none⟩), .int .i64 40] ?_; (with_reducible refine (spec_l01Below.calls g s0_0 t1786 t1787 40 t1788 t1789 t1790 w0 _ ?side1 ?side2 A4.out).mono ?_); (case side1 => exact oI132 HI0); (case side2 => exact oB132 HB); rintro e w7 ⟨rfl, hi, hb, hk⟩; refine ⟨_, rfl, ?_⟩; have n0_ := A_ (KeepBut.blk hk (g' := gb1784) (o := .cells #[.int .i64 0, .int .i64 0, .int .i64 0, .int .i64 0] 41 (0, 0)) (oK BK1784) NB1784_0.out (by simp)); have n1_ := A_ (KeepBut.trans (oKe HK) hk (.inl rfl)); have n2_ := A_ (hb); have n3_ := A_ (hi); clear BK1784; clear HK; clear HB; clear HI0; have BK1784 := n0_; have HK := n1_; have HB := n2_; have HI0 := n3_; clear n0_ n1_ n2_ n3_; (try clear hb); (try clear hb2); (try clear hk); (try clear hi); have hnb8 := NB1784_0.out; have hnc8 := NB0_1784.out; have hcz9_0 := cz BK1784 0; have hcz9_1 := cz BK1784 1; have hcz9_2 := cz BK1784 2; have hcz9_3 := cz BK1784 3; have hfz9_0 := blk_frozen BK1784.out 0; have hfz9_1 := blk_frozen BK1784.out 1; have hfz9_2 := blk_frozen BK1784.out 2; have hfz9_3 := blk_frozen BK1784.out 3))
  refine bodyPost_ret (results_cell_row rfl _ _ gb1784 41 #[.int .i64 2, .int .i64 (wrap64 (t1788 - 5)), .int .i64 0, .int .i64 0] (0, 0) _ rfl (by (with_reducible repeat (first | refine blk_drewN ?_ _ | refine blk_drew ?_ | refine blk_alloc ?_ _)); refine blk_put (cs := #[.int .i64 2, .int .i64 (wrap64 (t1788 - 5)), .int .i64 0, .int .i64 0]) ?_ 3 _ rfl; (with_reducible repeat (first | refine blk_drewN ?_ _ | refine blk_drew ?_ | refine blk_alloc ?_ _)); refine blk_put (cs := #[.int .i64 2, .int .i64 (wrap64 (t1788 - 5)), .int .i64 0, .int .i64 0]) ?_ 2 _ rfl; (with_reducible repeat (first | refine blk_drewN ?_ _ | refine blk_drew ?_ | refine blk_alloc ?_ _)); refine blk_put (cs := #[.int .i64 2, .int .i64 0, .int .i64 0, .int .i64 0]) ?_ 1 _ rfl; (with_reducible repeat (first | refine blk_drewN ?_ _ | refine blk_drew ?_ | refine blk_alloc ?_ _)); refine blk_put (cs := #[.int .i64 0, .int .i64 0, .int .i64 0, .int .i64 0]) ?_ 0 _ rfl; (with_reducible repeat (first | refine blk_drewN ?_ _ | refine blk_drew ?_ | refine blk_alloc ?_ _)); exact BK1784.out) Tryz.underlying41 rfl (by kernel_rfl)) rfl ?_
  exact ⟨eR, oI132 HI0, oB132 HB, oKe HK⟩
 ·rw [if_neg c3] at H
  have c3b0 : (t1785 == 0) = false := beq_eq_false_iff_ne.mpr c3
  have c3b1 : (t1785 != 0) = true := bne_iff_ne.mpr c3
  by_cases c10 : t1785 = 1
  ·rw [if_pos c10] at H
   have c10b0 : (t1785 == 1) = true := beq_iff_eq.mpr c10
   have c10b1 : (t1785 != 1) = false := bne_eq_false_iff_eq.mpr c10
   clear c10
   obtain ⟨y1791, hy1791⟩ : ∃ y_ : List Int, y_ = (([0, 0, 1] : List Int)) := ⟨_, rfl⟩
   replace H : ((spec_l01PickInt.f s0_0 t1786 t1787 y1791).bind fun bt1794 => ((spec_l01Below.f s0_0 bt1794.2.1 bt1794.2.2 6).bind fun bt1797 => ((spec_l01Below.f s0_0 bt1797.2.1 bt1797.2.2 3).bind fun bt1800 => (some (3, bt1794.1, bt1797.1, bt1800.1, bt1800.2.1, bt1800.2.2))))) = some (r1, r2, r3, r4, r5, r6) := by first | (rw [hy1791]; with_reducible exact H) | (have H2_ := (Option.bind_some _ _).symm.trans H; rw [hy1791]; with_reducible exact H2_) | (have H2_ := (Option.bind_some _ _).symm.trans H; with_reducible exact H2_) | with_reducible exact H | (rw [hy1791]; exact H) | exact H
   have Ny1791 := A_ hy1791
   clear hy1791
   replace H := Option.bind_eq_some_iff.mp H
   obtain ⟨⟨t1794, t1795, t1796⟩, A110, H⟩ := H
   (try dsimp only at H)
   have A11 := A_ A110
   clear A110
   replace H := Option.bind_eq_some_iff.mp H
   obtain ⟨⟨t1797, t1798, t1799⟩, A120, H⟩ := H
   (try dsimp only at H)
   have A12 := A_ A120
   clear A120
   replace H := Option.bind_eq_some_iff.mp H
   obtain ⟨⟨t1800, t1801, t1802⟩, A130, H⟩ := H
   (try dsimp only at H)
   have A13 := A_ A130
   clear A130
   simp only [Option.some.injEq, Prod.mk.injEq] at H
   obtain ⟨rfl, rfl, rfl, rfl, rfl, rfl⟩ := H
   go_enter Tryz.func118, Tryz.ntmps118
   go_wp2_with (first | ((with_reducible refine gate_dst (N := 2) rfl ?_); refine bX (N := 2) (cs := #[.int .i64 0, .int .i64 0, .int .i64 0, .int .i64 0]) (t := 41) ?_; intro gb1784 hg w14 hbox hb; have n0_ := A_ (IsS132.below (oI132 HI0) hb); have n1_ := A_ (KeepBut.trans (oKe HK) (KeepBut.of_below hb g none) (.inl rfl)); have n2_ := A_ (below_step (oB132 HB) hb); have n3_ := A_ (hbox); have n4_ := A_ ((by rw [hg]; exact (keep_size (w := w) (g := g) (row := none) (by repeat (first | (with_reducible first | exact HK.out | apply KeepBut.set_ | apply keep_drewN | apply keep_drew | apply keep_alloc) | exact HK.out))) : w.heap.size ≤ gb1784)); have n5_ := A_ ((Nat.le_trans HW0.out (by rw [hg]; exact (keep_size (w := w) (g := g) (row := none) (by repeat (first | (with_reducible first | exact HK.out | apply KeepBut.set_ | apply keep_drewN | apply keep_drew | apply keep_alloc) | exact HK.out))) : w.heap.size ≤ gb1784) : w0.heap.size ≤ gb1784)); have n6_ := A_ ((by rw [hg]; exact Nat.ne_of_lt (IsS132.lt (show IsS132 w0 _ g s0_0 s0_1 s0_2 from oI132 HI0)) : g ≠ gb1784)); have n7_ := A_ ((by rw [hg]; exact Nat.ne_of_gt (IsS132.lt (show IsS132 w0 _ g s0_0 s0_1 s0_2 from oI132 HI0)) : gb1784 ≠ g)); clear HI0; clear HK; clear HB; have HI0 := n0_; have HK := n1_; have HB := n2_; have BK1784 := n3_; have GW1784 := n4_; have GE1784 := n5_; have NB0_1784 := n6_; have NB1784_0 := n7_; clear n0_ n1_ n2_ n3_ n4_ n5_ n6_ n7_; clear hb hbox hg) | ((with_reducible refine gate_callee (f := 75) rfl ?_); refine gL (some 4) Tryz.func75 #[.pointer (some ⟨g, 0, none⟩), .int .i64 12] ?_; (with_reducible refine (spec_l01Below.calls g s0_0 s0_1 s0_2 12 t1785 t1786 t1787 w0 _ ?side1 ?side2 A2.out).mono ?_); (case side1 => exact oI132 HI0); (case side2 => exact oB132 HB); rintro e w15 ⟨rfl, hi, hb, hk⟩; refine ⟨_, rfl, ?_⟩; have n0_ := A_ (KeepBut.blk hk (g' := gb1784) (o := .cells #[.int .i64 0, .int .i64 0, .int .i64 0, .int .i64 0] 41 (0, 0)) (oK BK1784) NB1784_0.out (by simp)); have n1_ := A_ (KeepBut.trans (oKe HK) hk (.inl rfl)); have n2_ := A_ (hb); have n3_ := A_ (hi); clear BK1784; clear HK; clear HB; clear HI0; have BK1784 := n0_; have HK := n1_; have HB := n2_; have HI0 := n3_; clear n0_ n1_ n2_ n3_; (try clear hb); (try clear hb2); (try clear hk); (try clear hi)) | ((with_reducible refine gate_dst (N := 14) rfl ?_); refine Kd.R_lit (Kd.int .i64) _ 3 ?hg (N := 14) ?hd (xs := ([0, 0, 1] : List Int)) (inner := [.int .i64 0, .int .i64 0, .int .i64 1]) (ok := fun _ => True) (okp := fun _ => True) ?hr ?hp (fun _ hk => hk) trivial (Below.refl _ _) (Nat.le_refl _) (by simp) ?_; (case hd => rfl); (case hg => rfl); (case hr => first | (go_simp; done) | (go_simp; rfl)); (case hp => exact (Reps.one (show Kd.M (Kd.int .i64) _ _ _ 0 [.int .i64 0] from rfl) (Reps.one (show Kd.M (Kd.int .i64) _ _ _ 0 [.int .i64 0] from rfl) (Reps.one (show Kd.M (Kd.int .i64) _ _ _ 1 [.int .i64 1] from rfl) (Reps.none _ _))))); intro v1792 w16 ho17 hb hg_ hnew_; clear hg_ hnew_; (first | rw [← Ny1791.out] at ho17 | (simp only [Int.reduceToNat] at ho17; rw [← Ny1791.out] at ho17)); have n0_ := A_ (Kd.R_lower ho17 (keep_size (w := w) (g := g) (row := none) (by repeat (first | (with_reducible first | exact HK.out | apply KeepBut.set_ | apply keep_drewN | apply keep_drew | apply keep_alloc | refine keep_far ?_ GW1784.out _) | exact HK.out)))); have n1_ := A_ (IsS132.below (oI132 HI0) hb); have n2_ := A_ (bb BK1784 hb); have n3_ := A_ (KeepBut.trans (oKe HK) (KeepBut.of_below hb g none) (.inl rfl)); have n4_ := A_ (below_step (oB132 HB) hb); clear HI0; clear BK1784; clear HK; clear HB; have HO1793 := n0_; have HI0 := n1_; have BK1784 := n2_; have HK := n3_; have HB := n4_; clear n0_ n1_ n2_ n3_ n4_; clear hb ho17; obtain ⟨Ao18, co18, eo18⟩ := Kd.R_slice HO1793.out; subst eo18) | ((with_reducible refine gate_callee (f := 139) rfl ?_); refine gL (some 15) Tryz.func139 #[.pointer (some ⟨g, 0, none⟩), .slice Ao18 y1791.length co18] ?_; (with_reducible refine (spec_l01PickInt.calls g s0_0 t1786 t1787 _ _ y1791 t1794 t1795 t1796 w0 _ ?side1 ?side2 ?side3 ?side4 ?side5 A11.out).mono ?_); (case side1 => exact oI132 HI0); (case side2 => exact oB132 HB); (case side3 => repeat (first | exact (Kd.R_reads' HO1793.out).2.2 | (with_reducible refine Kd.C_alloc ?_ _) | (with_reducible refine Kd.C_drewN ?_ _) | (with_reducible refine Kd.C_drew ?_))); (case side4 => exact (Kd.R_reads' HO1793.out).2.1); (case side5 => exact far_slice (IsS132.own_ne HI0.out HO1793.out (by decide))); rintro e w19 ⟨rfl, hi, hb, hk⟩; refine ⟨_, rfl, ?_⟩; have n0_ := A_ (KeepBut.blk hk (g' := gb1784) (o := .cells #[.int .i64 0, .int .i64 0, .int .i64 0, .int .i64 0] 41 (0, 0)) (oK BK1784) NB1784_0.out (by simp)); have n1_ := A_ (Kd.R_mono (Kd.R_keep (IsS132.apart (show IsS132 w0 _ g s0_0 t1786 t1787 from oI132 HI0) (oR HO1793) (by decide)) hk (fun _ h => h.2)) (fun _ h => h.1)); have n2_ := A_ (KeepBut.trans (oKe HK) hk (.inl rfl)); have n3_ := A_ (hb); have n4_ := A_ (hi); clear BK1784; clear HO1793; clear HK; clear HB; clear HI0; have BK1784 := n0_; have HO1793 := n1_; have HK := n2_; have HB := n3_; have HI0 := n4_; clear n0_ n1_ n2_ n3_ n4_; (try clear hb); (try clear hb2); (try clear hk); (try clear hi)) | ((with_reducible refine gate_callee (f := 75) rfl ?_); refine gL (some 17) Tryz.func75 #[.pointer (some ⟨g, 0, none⟩), .int .i64 6] ?_; (with_reducible refine (spec_l01Below.calls g s0_0 t1795 t1796 6 t1797 t1798 t1799 w0 _ ?side1 ?side2 A12.out).mono ?_); (case side1 => exact oI132 HI0); (case side2 => exact oB132 HB); rintro e w20 ⟨rfl, hi, hb, hk⟩; refine ⟨_, rfl, ?_⟩; have n0_ := A_ (KeepBut.blk hk (g' := gb1784) (o := .cells #[.int .i64 0, .int .i64 0, .int .i64 0, .int .i64 0] 41 (0, 0)) (oK BK1784) NB1784_0.out (by simp)); have n1_ := A_ (Kd.R_mono (Kd.R_keep (IsS132.apart (show IsS132 w0 _ g s0_0 t1795 t1796 from oI132 HI0) (oR HO1793) (by decide)) hk (fun _ h => h.2)) (fun _ h => h.1)); have n2_ := A_ (KeepBut.trans (oKe HK) hk (.inl rfl)); have n3_ := A_ (hb); have n4_ := A_ (hi); clear BK1784; clear HO1793; clear HK; clear HB; clear HI0; have BK1784 := n0_; have HO1793 := n1_; have HK := n2_; have HB := n3_; have HI0 := n4_; clear n0_ n1_ n2_ n3_ n4_; (try clear hb); (try clear hb2); (try clear hk); (try clear hi)) | ((with_reducible refine gate_callee (f := 75) rfl ?_); refine gL (some 19) Tryz.func75 #[.pointer (some ⟨g, 0, none⟩), .int .i64 3] ?_; (with_reducible refine (spec_l01Below.calls g s0_0 t1798 t1799 3 t1800 t1801 t1802 w0 _ ?side1 ?side2 A13.out).mono ?_); (case side1 => exact oI132 HI0); (case side2 => exact oB132 HB); rintro e w21 ⟨rfl, hi, hb, hk⟩; refine ⟨_, rfl, ?_⟩; have n0_ := A_ (KeepBut.blk hk (g' := gb1784) (o := .cells #[.int .i64 0, .int .i64 0, .int .i64 0, .int .i64 0] 41 (0, 0)) (oK BK1784) NB1784_0.out (by simp)); have n1_ := A_ (Kd.R_mono (Kd.R_keep (IsS132.apart (show IsS132 w0 _ g s0_0 t1798 t1799 from oI132 HI0) (oR HO1793) (by decide)) hk (fun _ h => h.2)) (fun _ h => h.1)); have n2_ := A_ (KeepBut.trans (oKe HK) hk (.inl rfl)); have n3_ := A_ (hb); have n4_ := A_ (hi); clear BK1784; clear HO1793; clear HK; clear HB; clear HI0; have BK1784 := n0_; have HO1793 := n1_; have HK := n2_; have HB := n3_; have HI0 := n4_; clear n0_ n1_ n2_ n3_ n4_; (try clear hb); (try clear hb2); (try clear hk); (try clear hi); have hnb22 := NB1784_0.out; have hnc22 := NB0_1784.out; have hcz23_0 := cz BK1784 0; have hcz23_1 := cz BK1784 1; have hcz23_2 := cz BK1784 2; have hcz23_3 := cz BK1784 3; have hfz23_0 := blk_frozen BK1784.out 0; have hfz23_1 := blk_frozen BK1784.out 1; have hfz23_2 := blk_frozen BK1784.out 2; have hfz23_3 := blk_frozen BK1784.out 3))
   refine bodyPost_ret (results_cell_row rfl _ _ gb1784 41 #[.int .i64 3, .int .i64 t1794, .int .i64 t1797, .int .i64 t1800] (0, 0) _ rfl (by (with_reducible repeat (first | refine blk_drewN ?_ _ | refine blk_drew ?_ | refine blk_alloc ?_ _)); refine blk_put (cs := #[.int .i64 3, .int .i64 t1794, .int .i64 t1797, .int .i64 0]) ?_ 3 _ rfl; (with_reducible repeat (first | refine blk_drewN ?_ _ | refine blk_drew ?_ | refine blk_alloc ?_ _)); refine blk_put (cs := #[.int .i64 3, .int .i64 t1794, .int .i64 0, .int .i64 0]) ?_ 2 _ rfl; (with_reducible repeat (first | refine blk_drewN ?_ _ | refine blk_drew ?_ | refine blk_alloc ?_ _)); refine blk_put (cs := #[.int .i64 3, .int .i64 0, .int .i64 0, .int .i64 0]) ?_ 1 _ rfl; (with_reducible repeat (first | refine blk_drewN ?_ _ | refine blk_drew ?_ | refine blk_alloc ?_ _)); refine blk_put (cs := #[.int .i64 0, .int .i64 0, .int .i64 0, .int .i64 0]) ?_ 0 _ rfl; (with_reducible repeat (first | refine blk_drewN ?_ _ | refine blk_drew ?_ | refine blk_alloc ?_ _)); exact BK1784.out) Tryz.underlying41 rfl (by kernel_rfl)) rfl ?_
   exact ⟨eR, oI132 HI0, oB132 HB, oKe HK⟩
  ·rw [if_neg c10] at H
   have c10b0 : (t1785 == 1) = false := beq_eq_false_iff_ne.mpr c10
   have c10b1 : (t1785 != 1) = true := bne_iff_ne.mpr c10
   by_cases c24 : t1785 = 2
   ·rw [if_pos c24] at H
    have c24b0 : (t1785 == 2) = true := beq_iff_eq.mpr c24
    have c24b1 : (t1785 != 2) = false := bne_eq_false_iff_eq.mpr c24
    clear c24
    replace H := Option.bind_eq_some_iff.mp H
    obtain ⟨⟨t1803, t1804, t1805⟩, A250, H⟩ := H
    (try dsimp only at H)
    have A25 := A_ A250
    clear A250
    replace H := Option.bind_eq_some_iff.mp H
    obtain ⟨⟨t1806, t1807, t1808⟩, A260, H⟩ := H
    (try dsimp only at H)
    have A26 := A_ A260
    clear A260
    simp only [Option.some.injEq, Prod.mk.injEq] at H
    obtain ⟨rfl, rfl, rfl, rfl, rfl, rfl⟩ := H
    go_enter Tryz.func118, Tryz.ntmps118
    go_wp2_with (first | ((with_reducible refine gate_dst (N := 2) rfl ?_); refine bX (N := 2) (cs := #[.int .i64 0, .int .i64 0, .int .i64 0, .int .i64 0]) (t := 41) ?_; intro gb1784 hg w27 hbox hb; have n0_ := A_ (IsS132.below (oI132 HI0) hb); have n1_ := A_ (KeepBut.trans (oKe HK) (KeepBut.of_below hb g none) (.inl rfl)); have n2_ := A_ (below_step (oB132 HB) hb); have n3_ := A_ (hbox); have n4_ := A_ ((by rw [hg]; exact (keep_size (w := w) (g := g) (row := none) (by repeat (first | (with_reducible first | exact HK.out | apply KeepBut.set_ | apply keep_drewN | apply keep_drew | apply keep_alloc) | exact HK.out))) : w.heap.size ≤ gb1784)); have n5_ := A_ ((Nat.le_trans HW0.out (by rw [hg]; exact (keep_size (w := w) (g := g) (row := none) (by repeat (first | (with_reducible first | exact HK.out | apply KeepBut.set_ | apply keep_drewN | apply keep_drew | apply keep_alloc) | exact HK.out))) : w.heap.size ≤ gb1784) : w0.heap.size ≤ gb1784)); have n6_ := A_ ((by rw [hg]; exact Nat.ne_of_lt (IsS132.lt (show IsS132 w0 _ g s0_0 s0_1 s0_2 from oI132 HI0)) : g ≠ gb1784)); have n7_ := A_ ((by rw [hg]; exact Nat.ne_of_gt (IsS132.lt (show IsS132 w0 _ g s0_0 s0_1 s0_2 from oI132 HI0)) : gb1784 ≠ g)); clear HI0; clear HK; clear HB; have HI0 := n0_; have HK := n1_; have HB := n2_; have BK1784 := n3_; have GW1784 := n4_; have GE1784 := n5_; have NB0_1784 := n6_; have NB1784_0 := n7_; clear n0_ n1_ n2_ n3_ n4_ n5_ n6_ n7_; clear hb hbox hg) | ((with_reducible refine gate_callee (f := 75) rfl ?_); refine gL (some 4) Tryz.func75 #[.pointer (some ⟨g, 0, none⟩), .int .i64 12] ?_; (with_reducible refine (spec_l01Below.calls g s0_0 s0_1 s0_2 12 t1785 t1786 t1787 w0 _ ?side1 ?side2 A2.out).mono ?_); (case side1 => exact oI132 HI0); (case side2 => exact oB132 HB); rintro e w28 ⟨rfl, hi, hb, hk⟩; refine ⟨_, rfl, ?_⟩; have n0_ := A_ (KeepBut.blk hk (g' := gb1784) (o := .cells #[.int .i64 0, .int .i64 0, .int .i64 0, .int .i64 0] 41 (0, 0)) (oK BK1784) NB1784_0.out (by simp)); have n1_ := A_ (KeepBut.trans (oKe HK) hk (.inl rfl)); have n2_ := A_ (hb); have n3_ := A_ (hi); clear BK1784; clear HK; clear HB; clear HI0; have BK1784 := n0_; have HK := n1_; have HB := n2_; have HI0 := n3_; clear n0_ n1_ n2_ n3_; (try clear hb); (try clear hb2); (try clear hk); (try clear hi)) | ((with_reducible refine gate_callee (f := 75) rfl ?_); refine gL (some 24) Tryz.func75 #[.pointer (some ⟨g, 0, none⟩), .int .i64 12] ?_; (with_reducible refine (spec_l01Below.calls g s0_0 t1786 t1787 12 t1803 t1804 t1805 w0 _ ?side1 ?side2 A25.out).mono ?_); (case side1 => exact oI132 HI0); (case side2 => exact oB132 HB); rintro e w29 ⟨rfl, hi, hb, hk⟩; refine ⟨_, rfl, ?_⟩; have n0_ := A_ (KeepBut.blk hk (g' := gb1784) (o := .cells #[.int .i64 0, .int .i64 0, .int .i64 0, .int .i64 0] 41 (0, 0)) (oK BK1784) NB1784_0.out (by simp)); have n1_ := A_ (KeepBut.trans (oKe HK) hk (.inl rfl)); have n2_ := A_ (hb); have n3_ := A_ (hi); clear BK1784; clear HK; clear HB; clear HI0; have BK1784 := n0_; have HK := n1_; have HB := n2_; have HI0 := n3_; clear n0_ n1_ n2_ n3_; (try clear hb); (try clear hb2); (try clear hk); (try clear hi)) | ((with_reducible refine gate_callee (f := 75) rfl ?_); refine gL (some 26) Tryz.func75 #[.pointer (some ⟨g, 0, none⟩), .int .i64 2001] ?_; (with_reducible refine (spec_l01Below.calls g s0_0 t1804 t1805 2001 t1806 t1807 t1808 w0 _ ?side1 ?side2 A26.out).mono ?_); (case side1 => exact oI132 HI0); (case side2 => exact oB132 HB); rintro e w30 ⟨rfl, hi, hb, hk⟩; refine ⟨_, rfl, ?_⟩; have n0_ := A_ (KeepBut.blk hk (g' := gb1784) (o := .cells #[.int .i64 0, .int .i64 0, .int .i64 0, .int .i64 0] 41 (0, 0)) (oK BK1784) NB1784_0.out (by simp)); have n1_ := A_ (KeepBut.trans (oKe HK) hk (.inl rfl)); have n2_ := A_ (hb); have n3_ := A_ (hi); clear BK1784; clear HK; clear HB; clear HI0; have BK1784 := n0_; have HK := n1_; have HB := n2_; have HI0 := n3_; clear n0_ n1_ n2_ n3_; (try clear hb); (try clear hb2); (try clear hk); (try clear hi); have hnb31 := NB1784_0.out; have hnc31 := NB0_1784.out; have hcz32_0 := cz BK1784 0; have hcz32_1 := cz BK1784 1; have hcz32_2 := cz BK1784 2; have hcz32_3 := cz BK1784 3; have hfz32_0 := blk_frozen BK1784.out 0; have hfz32_1 := blk_frozen BK1784.out 1; have hfz32_2 := blk_frozen BK1784.out 2; have hfz32_3 := blk_frozen BK1784.out 3))
    refine bodyPost_ret (results_cell_row rfl _ _ gb1784 41 #[.int .i64 4, .int .i64 t1803, .int .i64 (wrap64 (t1806 - 1000)), .int .i64 0] (0, 0) _ rfl (by (with_reducible repeat (first | refine blk_drewN ?_ _ | refine blk_drew ?_ | refine blk_alloc ?_ _)); refine blk_put (cs := #[.int .i64 4, .int .i64 t1803, .int .i64 (wrap64 (t1806 - 1000)), .int .i64 0]) ?_ 3 _ rfl; (with_reducible repeat (first | refine blk_drewN ?_ _ | refine blk_drew ?_ | refine blk_alloc ?_ _)); refine blk_put (cs := #[.int .i64 4, .int .i64 t1803, .int .i64 0, .int .i64 0]) ?_ 2 _ rfl; (with_reducible repeat (first | refine blk_drewN ?_ _ | refine blk_drew ?_ | refine blk_alloc ?_ _)); refine blk_put (cs := #[.int .i64 4, .int .i64 0, .int .i64 0, .int .i64 0]) ?_ 1 _ rfl; (with_reducible repeat (first | refine blk_drewN ?_ _ | refine blk_drew ?_ | refine blk_alloc ?_ _)); refine blk_put (cs := #[.int .i64 0, .int .i64 0, .int .i64 0, .int .i64 0]) ?_ 0 _ rfl; (with_reducible repeat (first | refine blk_drewN ?_ _ | refine blk_drew ?_ | refine blk_alloc ?_ _)); exact BK1784.out) Tryz.underlying41 rfl (by kernel_rfl)) rfl ?_
    exact ⟨eR, oI132 HI0, oB132 HB, oKe HK⟩
   ·rw [if_neg c24] at H
    have c24b0 : (t1785 == 2) = false := beq_eq_false_iff_ne.mpr c24
    have c24b1 : (t1785 != 2) = true := bne_iff_ne.mpr c24
    by_cases c33 : t1785 = 3
    ·rw [if_pos c33] at H
     have c33b0 : (t1785 == 3) = true := beq_iff_eq.mpr c33
     have c33b1 : (t1785 != 3) = false := bne_eq_false_iff_eq.mpr c33
     clear c33
     simp only [Option.some.injEq, Prod.mk.injEq] at H
     obtain ⟨rfl, rfl, rfl, rfl, rfl, rfl⟩ := H
     go_enter Tryz.func118, Tryz.ntmps118
     go_wp2_with (first | ((with_reducible refine gate_dst (N := 2) rfl ?_); refine bX (N := 2) (cs := #[.int .i64 0, .int .i64 0, .int .i64 0, .int .i64 0]) (t := 41) ?_; intro gb1784 hg w34 hbox hb; have n0_ := A_ (IsS132.below (oI132 HI0) hb); have n1_ := A_ (KeepBut.trans (oKe HK) (KeepBut.of_below hb g none) (.inl rfl)); have n2_ := A_ (below_step (oB132 HB) hb); have n3_ := A_ (hbox); have n4_ := A_ ((by rw [hg]; exact (keep_size (w := w) (g := g) (row := none) (by repeat (first | (with_reducible first | exact HK.out | apply KeepBut.set_ | apply keep_drewN | apply keep_drew | apply keep_alloc) | exact HK.out))) : w.heap.size ≤ gb1784)); have n5_ := A_ ((Nat.le_trans HW0.out (by rw [hg]; exact (keep_size (w := w) (g := g) (row := none) (by repeat (first | (with_reducible first | exact HK.out | apply KeepBut.set_ | apply keep_drewN | apply keep_drew | apply keep_alloc) | exact HK.out))) : w.heap.size ≤ gb1784) : w0.heap.size ≤ gb1784)); have n6_ := A_ ((by rw [hg]; exact Nat.ne_of_lt (IsS132.lt (show IsS132 w0 _ g s0_0 s0_1 s0_2 from oI132 HI0)) : g ≠ gb1784)); have n7_ := A_ ((by rw [hg]; exact Nat.ne_of_gt (IsS132.lt (show IsS132 w0 _ g s0_0 s0_1 s0_2 from oI132 HI0)) : gb1784 ≠ g)); clear HI0; clear HK; clear HB; have HI0 := n0_; have HK := n1_; have HB := n2_; have BK1784 := n3_; have GW1784 := n4_; have GE1784 := n5_; have NB0_1784 := n6_; have NB1784_0 := n7_; clear n0_ n1_ n2_ n3_ n4_ n5_ n6_ n7_; clear hb hbox hg) | ((with_reducible refine gate_callee (f := 75) rfl ?_); refine gL (some 4) Tryz.func75 #[.pointer (some ⟨g, 0, none⟩), .int .i64 12] ?_; (with_reducible refine (spec_l01Below.calls g s0_0 s0_1 s0_2 12 t1785 t1786 t1787 w0 _ ?side1 ?side2 A2.out).mono ?_); (case side1 => exact oI132 HI0); (case side2 => exact oB132 HB); rintro e w35 ⟨rfl, hi, hb, hk⟩; refine ⟨_, rfl, ?_⟩; have n0_ := A_ (KeepBut.blk hk (g' := gb1784) (o := .cells #[.int .i64 0, .int .i64 0, .int .i64 0, .int .i64 0] 41 (0, 0)) (oK BK1784) NB1784_0.out (by simp)); have n1_ := A_ (KeepBut.trans (oKe HK) hk (.inl rfl)); have n2_ := A_ (hb); have n3_ := A_ (hi); clear BK1784; clear HK; clear HB; clear HI0; have BK1784 := n0_; have HK := n1_; have HB := n2_; have HI0 := n3_; clear n0_ n1_ n2_ n3_; (try clear hb); (try clear hb2); (try clear hk); (try clear hi); have hnb36 := NB1784_0.out; have hnc36 := NB0_1784.out; have hcz37_0 := cz BK1784 0; have hcz37_1 := cz BK1784 1; have hcz37_2 := cz BK1784 2; have hcz37_3 := cz BK1784 3; have hfz37_0 := blk_frozen BK1784.out 0; have hfz37_1 := blk_frozen BK1784.out 1; have hfz37_2 := blk_frozen BK1784.out 2; have hfz37_3 := blk_frozen BK1784.out 3))
     refine bodyPost_ret (results_cell_row rfl _ _ gb1784 41 #[.int .i64 5, .int .i64 0, .int .i64 0, .int .i64 0] (0, 0) _ rfl (by (with_reducible repeat (first | refine blk_drewN ?_ _ | refine blk_drew ?_ | refine blk_alloc ?_ _)); refine blk_put (cs := #[.int .i64 5, .int .i64 0, .int .i64 0, .int .i64 0]) ?_ 3 _ rfl; (with_reducible repeat (first | refine blk_drewN ?_ _ | refine blk_drew ?_ | refine blk_alloc ?_ _)); refine blk_put (cs := #[.int .i64 5, .int .i64 0, .int .i64 0, .int .i64 0]) ?_ 2 _ rfl; (with_reducible repeat (first | refine blk_drewN ?_ _ | refine blk_drew ?_ | refine blk_alloc ?_ _)); refine blk_put (cs := #[.int .i64 5, .int .i64 0, .int .i64 0, .int .i64 0]) ?_ 1 _ rfl; (with_reducible repeat (first | refine blk_drewN ?_ _ | refine blk_drew ?_ | refine blk_alloc ?_ _)); refine blk_put (cs := #[.int .i64 0, .int .i64 0, .int .i64 0, .int .i64 0]) ?_ 0 _ rfl; (with_reducible repeat (first | refine blk_drewN ?_ _ | refine blk_drew ?_ | refine blk_alloc ?_ _)); exact BK1784.out) Tryz.underlying41 rfl (by kernel_rfl)) rfl ?_
     exact ⟨eR, oI132 HI0, oB132 HB, oKe HK⟩
    ·rw [if_neg c33] at H
     have c33b0 : (t1785 == 3) = false := beq_eq_false_iff_ne.mpr c33
     have c33b1 : (t1785 != 3) = true := bne_iff_ne.mpr c33
     by_cases c38 : t1785 = 4
     ·rw [if_pos c38] at H
      have c38b0 : (t1785 == 4) = true := beq_iff_eq.mpr c38
      have c38b1 : (t1785 != 4) = false := bne_eq_false_iff_eq.mpr c38
      clear c38
      simp only [Option.some.injEq, Prod.mk.injEq] at H
      obtain ⟨rfl, rfl, rfl, rfl, rfl, rfl⟩ := H
      go_enter Tryz.func118, Tryz.ntmps118
      go_wp2_with (first | ((with_reducible refine gate_dst (N := 2) rfl ?_); refine bX (N := 2) (cs := #[.int .i64 0, .int .i64 0, .int .i64 0, .int .i64 0]) (t := 41) ?_; intro gb1784 hg w39 hbox hb; have n0_ := A_ (IsS132.below (oI132 HI0) hb); have n1_ := A_ (KeepBut.trans (oKe HK) (KeepBut.of_below hb g none) (.inl rfl)); have n2_ := A_ (below_step (oB132 HB) hb); have n3_ := A_ (hbox); have n4_ := A_ ((by rw [hg]; exact (keep_size (w := w) (g := g) (row := none) (by repeat (first | (with_reducible first | exact HK.out | apply KeepBut.set_ | apply keep_drewN | apply keep_drew | apply keep_alloc) | exact HK.out))) : w.heap.size ≤ gb1784)); have n5_ := A_ ((Nat.le_trans HW0.out (by rw [hg]; exact (keep_size (w := w) (g := g) (row := none) (by repeat (first | (with_reducible first | exact HK.out | apply KeepBut.set_ | apply keep_drewN | apply keep_drew | apply keep_alloc) | exact HK.out))) : w.heap.size ≤ gb1784) : w0.heap.size ≤ gb1784)); have n6_ := A_ ((by rw [hg]; exact Nat.ne_of_lt (IsS132.lt (show IsS132 w0 _ g s0_0 s0_1 s0_2 from oI132 HI0)) : g ≠ gb1784)); have n7_ := A_ ((by rw [hg]; exact Nat.ne_of_gt (IsS132.lt (show IsS132 w0 _ g s0_0 s0_1 s0_2 from oI132 HI0)) : gb1784 ≠ g)); clear HI0; clear HK; clear HB; have HI0 := n0_; have HK := n1_; have HB := n2_; have BK1784 := n3_; have GW1784 := n4_; have GE1784 := n5_; have NB0_1784 := n6_; have NB1784_0 := n7_; clear n0_ n1_ n2_ n3_ n4_ n5_ n6_ n7_; clear hb hbox hg) | ((with_reducible refine gate_callee (f := 75) rfl ?_); refine gL (some 4) Tryz.func75 #[.pointer (some ⟨g, 0, none⟩), .int .i64 12] ?_; (with_reducible refine (spec_l01Below.calls g s0_0 s0_1 s0_2 12 t1785 t1786 t1787 w0 _ ?side1 ?side2 A2.out).mono ?_); (case side1 => exact oI132 HI0); (case side2 => exact oB132 HB); rintro e w40 ⟨rfl, hi, hb, hk⟩; refine ⟨_, rfl, ?_⟩; have n0_ := A_ (KeepBut.blk hk (g' := gb1784) (o := .cells #[.int .i64 0, .int .i64 0, .int .i64 0, .int .i64 0] 41 (0, 0)) (oK BK1784) NB1784_0.out (by simp)); have n1_ := A_ (KeepBut.trans (oKe HK) hk (.inl rfl)); have n2_ := A_ (hb); have n3_ := A_ (hi); clear BK1784; clear HK; clear HB; clear HI0; have BK1784 := n0_; have HK := n1_; have HB := n2_; have HI0 := n3_; clear n0_ n1_ n2_ n3_; (try clear hb); (try clear hb2); (try clear hk); (try clear hi); have hnb41 := NB1784_0.out; have hnc41 := NB0_1784.out; have hcz42_0 := cz BK1784 0; have hcz42_1 := cz BK1784 1; have hcz42_2 := cz BK1784 2; have hcz42_3 := cz BK1784 3; have hfz42_0 := blk_frozen BK1784.out 0; have hfz42_1 := blk_frozen BK1784.out 1; have hfz42_2 := blk_frozen BK1784.out 2; have hfz42_3 := blk_frozen BK1784.out 3))
      refine bodyPost_ret (results_cell_row rfl _ _ gb1784 41 #[.int .i64 6, .int .i64 0, .int .i64 0, .int .i64 0] (0, 0) _ rfl (by (with_reducible repeat (first | refine blk_drewN ?_ _ | refine blk_drew ?_ | refine blk_alloc ?_ _)); refine blk_put (cs := #[.int .i64 6, .int .i64 0, .int .i64 0, .int .i64 0]) ?_ 3 _ rfl; (with_reducible repeat (first | refine blk_drewN ?_ _ | refine blk_drew ?_ | refine blk_alloc ?_ _)); refine blk_put (cs := #[.int .i64 6, .int .i64 0, .int .i64 0, .int .i64 0]) ?_ 2 _ rfl; (with_reducible repeat (first | refine blk_drewN ?_ _ | refine blk_drew ?_ | refine blk_alloc ?_ _)); refine blk_put (cs := #[.int .i64 6, .int .i64 0, .int .i64 0, .int .i64 0]) ?_ 1 _ rfl; (with_reducible repeat (first | refine blk_drewN ?_ _ | refine blk_drew ?_ | refine blk_alloc ?_ _)); refine blk_put (cs := #[.int .i64 0, .int .i64 0, .int .i64 0, .int .i64 0]) ?_ 0 _ rfl; (with_reducible repeat (first | refine blk_drewN ?_ _ | refine blk_drew ?_ | refine blk_alloc ?_ _)); exact BK1784.out) Tryz.underlying41 rfl (by kernel_rfl)) rfl ?_
      exact ⟨eR, oI132 HI0, oB132 HB, oKe HK⟩
     ·rw [if_neg c38] at H
      have c38b0 : (t1785 == 4) = false := beq_eq_false_iff_ne.mpr c38
      have c38b1 : (t1785 != 4) = true := bne_iff_ne.mpr c38
      by_cases c43 : t1785 = 5
      ·rw [if_pos c43] at H
       have c43b0 : (t1785 == 5) = true := beq_iff_eq.mpr c43
       have c43b1 : (t1785 != 5) = false := bne_eq_false_iff_eq.mpr c43
       clear c43
       replace H := Option.bind_eq_some_iff.mp H
       obtain ⟨⟨t1809, t1810, t1811⟩, A440, H⟩ := H
       (try dsimp only at H)
       have A44 := A_ A440
       clear A440
       simp only [Option.some.injEq, Prod.mk.injEq] at H
       obtain ⟨rfl, rfl, rfl, rfl, rfl, rfl⟩ := H
       go_enter Tryz.func118, Tryz.ntmps118
       go_wp2_with (first | ((with_reducible refine gate_dst (N := 2) rfl ?_); refine bX (N := 2) (cs := #[.int .i64 0, .int .i64 0, .int .i64 0, .int .i64 0]) (t := 41) ?_; intro gb1784 hg w45 hbox hb; have n0_ := A_ (IsS132.below (oI132 HI0) hb); have n1_ := A_ (KeepBut.trans (oKe HK) (KeepBut.of_below hb g none) (.inl rfl)); have n2_ := A_ (below_step (oB132 HB) hb); have n3_ := A_ (hbox); have n4_ := A_ ((by rw [hg]; exact (keep_size (w := w) (g := g) (row := none) (by repeat (first | (with_reducible first | exact HK.out | apply KeepBut.set_ | apply keep_drewN | apply keep_drew | apply keep_alloc) | exact HK.out))) : w.heap.size ≤ gb1784)); have n5_ := A_ ((Nat.le_trans HW0.out (by rw [hg]; exact (keep_size (w := w) (g := g) (row := none) (by repeat (first | (with_reducible first | exact HK.out | apply KeepBut.set_ | apply keep_drewN | apply keep_drew | apply keep_alloc) | exact HK.out))) : w.heap.size ≤ gb1784) : w0.heap.size ≤ gb1784)); have n6_ := A_ ((by rw [hg]; exact Nat.ne_of_lt (IsS132.lt (show IsS132 w0 _ g s0_0 s0_1 s0_2 from oI132 HI0)) : g ≠ gb1784)); have n7_ := A_ ((by rw [hg]; exact Nat.ne_of_gt (IsS132.lt (show IsS132 w0 _ g s0_0 s0_1 s0_2 from oI132 HI0)) : gb1784 ≠ g)); clear HI0; clear HK; clear HB; have HI0 := n0_; have HK := n1_; have HB := n2_; have BK1784 := n3_; have GW1784 := n4_; have GE1784 := n5_; have NB0_1784 := n6_; have NB1784_0 := n7_; clear n0_ n1_ n2_ n3_ n4_ n5_ n6_ n7_; clear hb hbox hg) | ((with_reducible refine gate_callee (f := 75) rfl ?_); refine gL (some 4) Tryz.func75 #[.pointer (some ⟨g, 0, none⟩), .int .i64 12] ?_; (with_reducible refine (spec_l01Below.calls g s0_0 s0_1 s0_2 12 t1785 t1786 t1787 w0 _ ?side1 ?side2 A2.out).mono ?_); (case side1 => exact oI132 HI0); (case side2 => exact oB132 HB); rintro e w46 ⟨rfl, hi, hb, hk⟩; refine ⟨_, rfl, ?_⟩; have n0_ := A_ (KeepBut.blk hk (g' := gb1784) (o := .cells #[.int .i64 0, .int .i64 0, .int .i64 0, .int .i64 0] 41 (0, 0)) (oK BK1784) NB1784_0.out (by simp)); have n1_ := A_ (KeepBut.trans (oKe HK) hk (.inl rfl)); have n2_ := A_ (hb); have n3_ := A_ (hi); clear BK1784; clear HK; clear HB; clear HI0; have BK1784 := n0_; have HK := n1_; have HB := n2_; have HI0 := n3_; clear n0_ n1_ n2_ n3_; (try clear hb); (try clear hb2); (try clear hk); (try clear hi)) | ((with_reducible refine gate_callee (f := 75) rfl ?_); refine gL (some 38) Tryz.func75 #[.pointer (some ⟨g, 0, none⟩), .int .i64 12] ?_; (with_reducible refine (spec_l01Below.calls g s0_0 t1786 t1787 12 t1809 t1810 t1811 w0 _ ?side1 ?side2 A44.out).mono ?_); (case side1 => exact oI132 HI0); (case side2 => exact oB132 HB); rintro e w47 ⟨rfl, hi, hb, hk⟩; refine ⟨_, rfl, ?_⟩; have n0_ := A_ (KeepBut.blk hk (g' := gb1784) (o := .cells #[.int .i64 0, .int .i64 0, .int .i64 0, .int .i64 0] 41 (0, 0)) (oK BK1784) NB1784_0.out (by simp)); have n1_ := A_ (KeepBut.trans (oKe HK) hk (.inl rfl)); have n2_ := A_ (hb); have n3_ := A_ (hi); clear BK1784; clear HK; clear HB; clear HI0; have BK1784 := n0_; have HK := n1_; have HB := n2_; have HI0 := n3_; clear n0_ n1_ n2_ n3_; (try clear hb); (try clear hb2); (try clear hk); (try clear hi); have hnb48 := NB1784_0.out; have hnc48 := NB0_1784.out; have hcz49_0 := cz BK1784 0; have hcz49_1 := cz BK1784 1; have hcz49_2 := cz BK1784 2; have hcz49_3 := cz BK1784 3; have hfz49_0 := blk_frozen BK1784.out 0; have hfz49_1 := blk_frozen BK1784.out 1; have hfz49_2 := blk_frozen BK1784.out 2; have hfz49_3 := blk_frozen BK1784.out 3))
       refine bodyPost_ret (results_cell_row rfl _ _ gb1784 41 #[.int .i64 7, .int .i64 t1809, .int .i64 0, .int .i64 0] (0, 0) _ rfl (by (with_reducible repeat (first | refine blk_drewN ?_ _ | refine blk_drew ?_ | refine blk_alloc ?_ _)); refine blk_put (cs := #[.int .i64 7, .int .i64 t1809, .int .i64 0, .int .i64 0]) ?_ 3 _ rfl; (with_reducible repeat (first | refine blk_drewN ?_ _ | refine blk_drew ?_ | refine blk_alloc ?_ _)); refine blk_put (cs := #[.int .i64 7, .int .i64 t1809, .int .i64 0, .int .i64 0]) ?_ 2 _ rfl; (with_reducible repeat (first | refine blk_drewN ?_ _ | refine blk_drew ?_ | refine blk_alloc ?_ _)); refine blk_put (cs := #[.int .i64 7, .int .i64 0, .int .i64 0, .int .i64 0]) ?_ 1 _ rfl; (with_reducible repeat (first | refine blk_drewN ?_ _ | refine blk_drew ?_ | refine blk_alloc ?_ _)); refine blk_put (cs := #[.int .i64 0, .int .i64 0, .int .i64 0, .int .i64 0]) ?_ 0 _ rfl; (with_reducible repeat (first | refine blk_drewN ?_ _ | refine blk_drew ?_ | refine blk_alloc ?_ _)); exact BK1784.out) Tryz.underlying41 rfl (by kernel_rfl)) rfl ?_
       exact ⟨eR, oI132 HI0, oB132 HB, oKe HK⟩
      ·rw [if_neg c43] at H
       have c43b0 : (t1785 == 5) = false := beq_eq_false_iff_ne.mpr c43
       have c43b1 : (t1785 != 5) = true := bne_iff_ne.mpr c43
       simp only [Option.some.injEq, Prod.mk.injEq] at H
       obtain ⟨rfl, rfl, rfl, rfl, rfl, rfl⟩ := H
       go_enter Tryz.func118, Tryz.ntmps118
       go_wp2_with (first | ((with_reducible refine gate_dst (N := 2) rfl ?_); refine bX (N := 2) (cs := #[.int .i64 0, .int .i64 0, .int .i64 0, .int .i64 0]) (t := 41) ?_; intro gb1784 hg w50 hbox hb; have n0_ := A_ (IsS132.below (oI132 HI0) hb); have n1_ := A_ (KeepBut.trans (oKe HK) (KeepBut.of_below hb g none) (.inl rfl)); have n2_ := A_ (below_step (oB132 HB) hb); have n3_ := A_ (hbox); have n4_ := A_ ((by rw [hg]; exact (keep_size (w := w) (g := g) (row := none) (by repeat (first | (with_reducible first | exact HK.out | apply KeepBut.set_ | apply keep_drewN | apply keep_drew | apply keep_alloc) | exact HK.out))) : w.heap.size ≤ gb1784)); have n5_ := A_ ((Nat.le_trans HW0.out (by rw [hg]; exact (keep_size (w := w) (g := g) (row := none) (by repeat (first | (with_reducible first | exact HK.out | apply KeepBut.set_ | apply keep_drewN | apply keep_drew | apply keep_alloc) | exact HK.out))) : w.heap.size ≤ gb1784) : w0.heap.size ≤ gb1784)); have n6_ := A_ ((by rw [hg]; exact Nat.ne_of_lt (IsS132.lt (show IsS132 w0 _ g s0_0 s0_1 s0_2 from oI132 HI0)) : g ≠ gb1784)); have n7_ := A_ ((by rw [hg]; exact Nat.ne_of_gt (IsS132.lt (show IsS132 w0 _ g s0_0 s0_1 s0_2 from oI132 HI0)) : gb1784 ≠ g)); clear HI0; clear HK; clear HB; have HI0 := n0_; have HK := n1_; have HB := n2_; have BK1784 := n3_; have GW1784 := n4_; have GE1784 := n5_; have NB0_1784 := n6_; have NB1784_0 := n7_; clear n0_ n1_ n2_ n3_ n4_ n5_ n6_ n7_; clear hb hbox hg) | ((with_reducible refine gate_callee (f := 75) rfl ?_); refine gL (some 4) Tryz.func75 #[.pointer (some ⟨g, 0, none⟩), .int .i64 12] ?_; (with_reducible refine (spec_l01Below.calls g s0_0 s0_1 s0_2 12 t1785 t1786 t1787 w0 _ ?side1 ?side2 A2.out).mono ?_); (case side1 => exact oI132 HI0); (case side2 => exact oB132 HB); rintro e w51 ⟨rfl, hi, hb, hk⟩; refine ⟨_, rfl, ?_⟩; have n0_ := A_ (KeepBut.blk hk (g' := gb1784) (o := .cells #[.int .i64 0, .int .i64 0, .int .i64 0, .int .i64 0] 41 (0, 0)) (oK BK1784) NB1784_0.out (by simp)); have n1_ := A_ (KeepBut.trans (oKe HK) hk (.inl rfl)); have n2_ := A_ (hb); have n3_ := A_ (hi); clear BK1784; clear HK; clear HB; clear HI0; have BK1784 := n0_; have HK := n1_; have HB := n2_; have HI0 := n3_; clear n0_ n1_ n2_ n3_; (try clear hb); (try clear hb2); (try clear hk); (try clear hi); have hnb52 := NB1784_0.out; have hnc52 := NB0_1784.out; have hcz53_0 := cz BK1784 0; have hcz53_1 := cz BK1784 1; have hcz53_2 := cz BK1784 2; have hcz53_3 := cz BK1784 3; have hfz53_0 := blk_frozen BK1784.out 0; have hfz53_1 := blk_frozen BK1784.out 1; have hfz53_2 := blk_frozen BK1784.out 2; have hfz53_3 := blk_frozen BK1784.out 3))
       refine bodyPost_ret (results_cell_row rfl _ _ gb1784 41 #[.int .i64 1, .int .i64 0, .int .i64 0, .int .i64 0] (0, 0) _ rfl (by (with_reducible repeat (first | refine blk_drewN ?_ _ | refine blk_drew ?_ | refine blk_alloc ?_ _)); refine blk_put (cs := #[.int .i64 1, .int .i64 0, .int .i64 0, .int .i64 0]) ?_ 3 _ rfl; (with_reducible repeat (first | refine blk_drewN ?_ _ | refine blk_drew ?_ | refine blk_alloc ?_ _)); refine blk_put (cs := #[.int .i64 1, .int .i64 0, .int .i64 0, .int .i64 0]) ?_ 2 _ rfl; (with_reducible repeat (first | refine blk_drewN ?_ _ | refine blk_drew ?_ | refine blk_alloc ?_ _)); refine blk_put (cs := #[.int .i64 1, .int .i64 0, .int .i64 0, .int .i64 0]) ?_ 1 _ rfl; (with_reducible repeat (first | refine blk_drewN ?_ _ | refine blk_drew ?_ | refine blk_alloc ?_ _)); refine blk_put (cs := #[.int .i64 0, .int .i64 0, .int .i64 0, .int .i64 0]) ?_ 0 _ rfl; (with_reducible repeat (first | refine blk_drewN ?_ _ | refine blk_drew ?_ | refine blk_alloc ?_ _)); exact BK1784.out) Tryz.underlying41 rfl (by kernel_rfl)) rfl ?_
       exact ⟨eR, oI132 HI0, oB132 HB, oKe HK⟩
def spec_l39List.l0 : Nat → List (S41) → Int → Int → List Int → Int → Int → Option ((List (S41)) × Int × Int)
 | 0, _, _, _, _, _, _ => none
 | k + 1, x3, x4, x5, x1000, x1001, x1002 => if x5 < x4 then ((spec_l39Act.f x1000 x1001 x1002).bind fun bt1818 => (if x3.length < 4398046511104 then (spec_l39List.l0 k (x3 ++ [(⟨bt1818.1, bt1818.2.1, bt1818.2.2.1, bt1818.2.2.2.1⟩ : S41)]) x4 (wrap64 (x5 + 1)) x1000 bt1818.2.2.2.2.1 bt1818.2.2.2.2.2) else (none))) else (some (x3, x1001, x1002))
def spec_l39List.f (k : Nat) (s0_0 : List Int) (s0_1 : Int) (s0_2 : Int) : Option ((List (S41)) × Int × Int) := (spec_l01Below.f s0_0 s0_1 s0_2 26).bind fun bt1815 => (spec_l39List.l0 k (([] : List (S41))) bt1815.1 0 s0_0 bt1815.2.1 bt1815.2.2)
theorem spec_l39List.calls (k : Nat) (g : Nat) (s0_0 : List Int) (s0_1 : Int) (s0_2 : Int) (r1 : List (S41)) (r2 : Int) (r3 : Int) (w0 w : World) (hI : IsS132 w0 w g s0_0 s0_1 s0_2) (hB : Below w0.heap.size w0 w) (h : spec_l39List.f k s0_0 s0_1 s0_2 = some (r1, r2, r3)) :
  Calls Tryz.prog 74 #[.pointer (some ⟨g, 0, none⟩)] w fun e w' => ∃ v0_ : Value, e = .returned (v0_) ∧ Kd.R k41 41 w' w.heap.size (fun _ => True) v0_ r1 ∧ IsS132 w0 w' g s0_0 r2 r3 ∧ Below w0.heap.size w0 w' ∧ KeepBut w w' g none := by
 have hu41 := Tryz.underlying41
 have HI0 := A_ hI
 have HK := A_ (KeepBut.refl w g none)
 have HL := A_ hB.size
 clear hI
 have HW0 := A_ hB.size
 have HB := A_ hB
 clear hB
 have H : ((spec_l01Below.f s0_0 s0_1 s0_2 26).bind fun bt1815 => (spec_l39List.l0 k (([] : List (S41))) bt1815.1 0 s0_0 bt1815.2.1 bt1815.2.2)) = some (r1, r2, r3) := h
 clear h
 obtain ⟨y1812, hy1812⟩ : ∃ y_ : List (S41), y_ = (([] : List (S41))) := ⟨_, rfl⟩
 replace H : ((spec_l01Below.f s0_0 s0_1 s0_2 26).bind fun bt1815 => (spec_l39List.l0 k y1812 bt1815.1 0 s0_0 bt1815.2.1 bt1815.2.2)) = some (r1, r2, r3) := by first | (rw [hy1812]; with_reducible exact H) | (have H2_ := (Option.bind_some _ _).symm.trans H; rw [hy1812]; with_reducible exact H2_) | (have H2_ := (Option.bind_some _ _).symm.trans H; with_reducible exact H2_) | with_reducible exact H | (rw [hy1812]; exact H) | exact H
 have Ny1812 := A_ hy1812
 clear hy1812
 replace H := Option.bind_eq_some_iff.mp H
 obtain ⟨⟨t1815, t1816, t1817⟩, A20, H⟩ := H
 (try dsimp only at H)
 have A2 := A_ A20
 clear A20
 have H' := A_ H
 clear H
 go_enter Tryz.func74, Tryz.ntmps74
 go_wp2_with (first | ((with_reducible refine gate_dst (N := 7) rfl ?_); refine Kd.R_lit k41 _ 41 ?hg (N := 7) ?hd (xs := ([] : List (S41))) (inner := []) (ok := fun _ => True) (okp := fun _ => True) ?hr ?hp (fun _ hk => hk) trivial (Below.refl _ _) (Nat.le_refl _) (by simp) ?_; (case hd => rfl); (case hg => rfl); (case hr => first | (go_simp; done) | (go_simp; rfl)); (case hp => exact (Reps.none _ _)); intro v1813 w3 ho4 hb hg_ hnew_; clear hg_ hnew_; (first | rw [← Ny1812.out] at ho4 | (simp only [Int.reduceToNat] at ho4; rw [← Ny1812.out] at ho4)); have n0_ := A_ (Kd.R_lower ho4 (keep_size (w := w) (g := g) (row := none) (by repeat (first | (with_reducible first | exact HK.out | apply KeepBut.set_ | apply keep_drewN | apply keep_drew | apply keep_alloc) | exact HK.out)))); have n1_ := A_ (IsS132.below (oI132 HI0) hb); have n2_ := A_ (KeepBut.trans (oKe HK) (KeepBut.of_below hb g none) (.inl rfl)); have n3_ := A_ (below_step (oB132 HB) hb); clear HI0; clear HK; clear HB; have HO1814 := n0_; have HI0 := n1_; have HK := n2_; have HB := n3_; clear n0_ n1_ n2_ n3_; clear hb ho4) | ((with_reducible refine gate_callee (f := 75) rfl ?_); refine gL (some 9) Tryz.func75 #[.pointer (some ⟨g, 0, none⟩), .int .i64 26] ?_; (with_reducible refine (spec_l01Below.calls g s0_0 s0_1 s0_2 26 t1815 t1816 t1817 w0 _ ?side1 ?side2 A2.out).mono ?_); (case side1 => exact oI132 HI0); (case side2 => exact oB132 HB); rintro e w5 ⟨rfl, hi, hb, hk⟩; refine ⟨_, rfl, ?_⟩; have n0_ := A_ (Kd.R_mono (Kd.R_keep (IsS132.apart (show IsS132 w0 _ g s0_0 s0_1 s0_2 from oI132 HI0) (oR HO1814) (by decide)) hk (fun _ h => h.2)) (fun _ h => h.1)); have n1_ := A_ (KeepBut.trans (oKe HK) hk (.inl rfl)); have n2_ := A_ (hb); have n3_ := A_ (hi); clear HO1814; clear HK; clear HB; clear HI0; have HO1814 := n0_; have HK := n1_; have HB := n2_; have HI0 := n3_; clear n0_ n1_ n2_ n3_; (try clear hb); (try clear hb2); (try clear hk); (try clear hi)))
 go_loopg [3, 5] k (fun kq v3 v5 w' => ∃ (x3_1 : List (S41)) (x5_1 : Int) (x1001_1 : Int) (x1002_1 : Int), v5 = .int .i64 x5_1 ∧ Aside0 (spec_l39List.l0 kq x3_1 t1815 x5_1 s0_0 x1001_1 x1002_1 = some (r1, r2, r3)) ∧ Aside0 (kq ≤ k) ∧ Aside0 (Kd.R k41 41 w' w.heap.size (fun _ => True) v3 x3_1) ∧ Aside0 (IsS132 w0 w' g s0_0 x1001_1 x1002_1) ∧ Aside0 (KeepBut w w' g none) ∧ Aside0 (Below w0.heap.size w0 w'))
 case atStart => exact ⟨(y1812), (0), (t1816), (t1817), eS, H', ⟨Nat.le_refl _⟩, ⟨oR HO1814⟩, ⟨oI132 HI0⟩, ⟨oKe HK⟩, ⟨oB132 HB⟩⟩
 case round =>
  clear H'
  try clear p2
  obtain ⟨x3_1, x5_1, x1001_1, x1002_1, rfl, HA, HK1, HO_3, HI0, HK, HB⟩ := hrel
  cases gk with
  | zero => exact absurd HA.out (by simp [spec_l39List.l0])
  | succ k1 =>
   have H := HA.out
   clear HA
   simp only [spec_l39List.l0] at H
   by_cases c6 : x5_1 < t1815
   ·rw [if_pos c6] at H
    have c6b0 : decide (x5_1 < t1815) = true := decide_eq_true c6
    clear c6
    replace H := Option.bind_eq_some_iff.mp H
    obtain ⟨⟨t1818, t1819, t1820, t1821, t1822, t1823⟩, A70, H⟩ := H
    (try dsimp only at H)
    have A7 := A_ A70
    clear A70
    by_cases c8 : x3_1.length < 4398046511104
    ·rw [if_pos c8] at H
     have LMc8 := A_ c8
     clear c8
     obtain ⟨y1825, hy1825⟩ : ∃ y_ : List (S41), y_ = (x3_1 ++ [(⟨t1818, t1819, t1820, t1821⟩ : S41)]) := ⟨_, rfl⟩
     replace H : (spec_l39List.l0 k1 y1825 t1815 (wrap64 (x5_1 + 1)) s0_0 t1822 t1823) = some (r1, r2, r3) := by first | (rw [hy1825]; with_reducible exact H) | (have H2_ := (Option.bind_some _ _).symm.trans H; rw [hy1825]; with_reducible exact H2_) | (have H2_ := (Option.bind_some _ _).symm.trans H; with_reducible exact H2_) | with_reducible exact H | (rw [hy1825]; exact H) | exact H
     have Ny1825 := A_ hy1825
     clear hy1825
     have H' := A_ H
     clear H
     go_wp2_with (first | ((with_reducible refine gate_callee (f := 118) rfl ?_); refine gL (some 16) Tryz.func118 #[.pointer (some ⟨g, 0, none⟩)] ?_; (with_reducible refine (spec_l39Act.calls g s0_0 x1001_1 x1002_1 t1818 t1819 t1820 t1821 t1822 t1823 w0 _ ?side1 ?side2 A7.out).mono ?_); (case side1 => exact oI132 HI0); (case side2 => exact oB132 HB); rintro e w9 ⟨rfl, hi, hb, hk⟩; refine ⟨_, rfl, ?_⟩; have n0_ := A_ (Kd.R_mono (Kd.R_keep (IsS132.apart (show IsS132 w0 _ g s0_0 x1001_1 x1002_1 from oI132 HI0) (oR HO_3) (by decide)) hk (fun _ h => h.2)) (fun _ h => h.1)); have n1_ := A_ (KeepBut.trans (oKe HK) hk (.inl rfl)); have n2_ := A_ (hb); have n3_ := A_ (hi); clear HO_3; clear HK; clear HB; clear HI0; have HO_3 := n0_; have HK := n1_; have HB := n2_; have HI0 := n3_; clear n0_ n1_ n2_ n3_; (try clear hb); (try clear hb2); (try clear hk); (try clear hi)) | ((with_reducible refine gate_dst (N := 6) rfl ?_); refine bX (N := 6) (cs := #[.int .i64 0, .int .i64 0, .int .i64 0, .int .i64 0]) (t := 41) ?_; intro gb1824 hg w10 hbox hb; have n0_ := A_ (Kd.R_below (Kd.R_elderB (oR HO_3) gb1824 (Nat.le_of_eq hg.symm)) hb); have n1_ := A_ (IsS132.below (oI132 HI0) hb); have n2_ := A_ (KeepBut.trans (oKe HK) (KeepBut.of_below hb g none) (.inl rfl)); have n3_ := A_ (below_step (oB132 HB) hb); have n4_ := A_ (hbox); have n5_ := A_ ((by rw [hg]; exact (keep_size (w := w) (g := g) (row := none) (by repeat (first | (with_reducible first | exact HK.out | apply KeepBut.set_ | apply keep_drewN | apply keep_drew | apply keep_alloc) | exact HK.out))) : w.heap.size ≤ gb1824)); have n6_ := A_ ((Nat.le_trans HW0.out (by rw [hg]; exact (keep_size (w := w) (g := g) (row := none) (by repeat (first | (with_reducible first | exact HK.out | apply KeepBut.set_ | apply keep_drewN | apply keep_drew | apply keep_alloc) | exact HK.out))) : w.heap.size ≤ gb1824) : w0.heap.size ≤ gb1824)); have n7_ := A_ ((by rw [hg]; exact Nat.ne_of_lt (IsS132.lt (show IsS132 w0 _ g s0_0 t1822 t1823 from oI132 HI0)) : g ≠ gb1824)); have n8_ := A_ ((by rw [hg]; exact Nat.ne_of_gt (IsS132.lt (show IsS132 w0 _ g s0_0 t1822 t1823 from oI132 HI0)) : gb1824 ≠ g)); clear HO_3; clear HI0; clear HK; clear HB; have HO_3 := n0_; have HI0 := n1_; have HK := n2_; have HB := n3_; have BK1824 := n4_; have GW1824 := n5_; have GE1824 := n6_; have NB0_1824 := n7_; have NB1824_0 := n8_; clear n0_ n1_ n2_ n3_ n4_ n5_ n6_ n7_ n8_; clear hb hbox hg; have hnb11 := NB1824_0.out; have hnc11 := NB0_1824.out; have hcz12_0 := cz BK1824 0; have hcz12_1 := cz BK1824 1; have hcz12_2 := cz BK1824 2; have hcz12_3 := cz BK1824 3; have hfz12_0 := blk_frozen BK1824.out 0; have hfz12_1 := blk_frozen BK1824.out 1; have hfz12_2 := blk_frozen BK1824.out 2; have hfz12_3 := blk_frozen BK1824.out 3) | ((with_reducible refine gate_builtin (b := .append) (xs := #[.tmp 17, .tmp 19]) rfl ?_); at_builtin; refine Kd.R_append k41 w.heap.size rfl (.tmp 17) (.tmp 19) 50 41 (.agg #[(.int .i64 0), (.int .i64 0), (.int .i64 0), (.int .i64 0)]) 32 rfl Tryz.underlying50 info41 rfl (by decide) (by omega) u3 x3_1 (⟨t1818, t1819, t1820, t1821⟩ : S41) [.int .i64 t1818, .int .i64 t1819, .int .i64 t1820, .int .i64 t1821] (fun k_ => k_ ≠ gb1824) (fun _ => False) rfl (by first | (go_simp; done) | (go_simp; rfl)) ?aP (fun _ hk => hk.elim) ?aF ?aO (Below.refl _ _) ?aS ?aL ?_; (case aP => exact k41_mkM _ _ _ (⟨t1818, t1819, t1820, t1821⟩ : S41)); (case aF => exact (fun k_ hk => Kd.freshB (g := gb1824) (o := .cells #[.int .i64 t1818, .int .i64 t1819, .int .i64 t1820, .int .i64 t1821] 41 (0, 0)) (by (with_reducible repeat (first | refine blk_drewN ?_ _ | refine blk_drew ?_ | refine blk_alloc ?_ _)); refine blk_put (cs := #[.int .i64 t1818, .int .i64 t1819, .int .i64 t1820, .int .i64 0]) ?_ 3 _ rfl; (with_reducible repeat (first | refine blk_drewN ?_ _ | refine blk_drew ?_ | refine blk_alloc ?_ _)); refine blk_put (cs := #[.int .i64 t1818, .int .i64 t1819, .int .i64 0, .int .i64 0]) ?_ 2 _ rfl; (with_reducible repeat (first | refine blk_drewN ?_ _ | refine blk_drew ?_ | refine blk_alloc ?_ _)); refine blk_put (cs := #[.int .i64 t1818, .int .i64 0, .int .i64 0, .int .i64 0]) ?_ 1 _ rfl; (with_reducible repeat (first | refine blk_drewN ?_ _ | refine blk_drew ?_ | refine blk_alloc ?_ _)); refine blk_put (cs := #[.int .i64 0, .int .i64 0, .int .i64 0, .int .i64 0]) ?_ 0 _ rfl; (with_reducible repeat (first | refine blk_drewN ?_ _ | refine blk_drew ?_ | refine blk_alloc ?_ _)); exact BK1824.out) k_ hk)); (case aO => exact (by (with_reducible repeat (first | apply Kd.R_alloc | apply Kd.R_drewN | apply Kd.R_drew)); exact Kd.R_mono (Kd.R_far (p := ⟨gb1824, 3, none⟩) (Kd.R_far (p := ⟨gb1824, 2, none⟩) (Kd.R_far (p := ⟨gb1824, 1, none⟩) (Kd.R_far (p := ⟨gb1824, 0, none⟩) (Kd.R_mono HO_3.out (fun k_ hk => (⟨hk, hk.2⟩ : _ ∧ k_ ≠ gb1824))) (fun _ hk => hk.2) (.int .i64 t1818)) (fun _ hk => hk.2) (.int .i64 t1819)) (fun _ hk => hk.2) (.int .i64 t1820)) (fun _ hk => hk.2) (.int .i64 t1821)) (fun _ hk => hk.1.2))); (case aS => exact (keep_size (w := w) (g := g) (row := none) (by repeat (first | (with_reducible first | exact HK.out | apply KeepBut.set_ | apply keep_drewN | apply keep_drew | apply keep_alloc | refine keep_far ?_ GW1824.out _) | exact HK.out)))); (case aL => have := LMc8.out; omega); intro v1826 w13 ho hb hg hat; rw [← Ny1825.out] at ho; have n0_ := A_ (IsS132.grown (show IsS132 w0 _ g s0_0 t1822 t1823 from oI132 HI0) hg (IsS132.own_ne HI0.out HO_3.out (by decide))); have n1_ := A_ (blk_grown (g := gb1824) (o := .cells #[.int .i64 t1818, .int .i64 t1819, .int .i64 t1820, .int .i64 t1821] 41 (0, 0)) (by (with_reducible repeat (first | refine blk_drewN ?_ _ | refine blk_drew ?_ | refine blk_alloc ?_ _)); refine blk_put (cs := #[.int .i64 t1818, .int .i64 t1819, .int .i64 t1820, .int .i64 0]) ?_ 3 _ rfl; (with_reducible repeat (first | refine blk_drewN ?_ _ | refine blk_drew ?_ | refine blk_alloc ?_ _)); refine blk_put (cs := #[.int .i64 t1818, .int .i64 t1819, .int .i64 0, .int .i64 0]) ?_ 2 _ rfl; (with_reducible repeat (first | refine blk_drewN ?_ _ | refine blk_drew ?_ | refine blk_alloc ?_ _)); refine blk_put (cs := #[.int .i64 t1818, .int .i64 0, .int .i64 0, .int .i64 0]) ?_ 1 _ rfl; (with_reducible repeat (first | refine blk_drewN ?_ _ | refine blk_drew ?_ | refine blk_alloc ?_ _)); refine blk_put (cs := #[.int .i64 0, .int .i64 0, .int .i64 0, .int .i64 0]) ?_ 0 _ rfl; (with_reducible repeat (first | refine blk_drewN ?_ _ | refine blk_drew ?_ | refine blk_alloc ?_ _)); exact BK1824.out) hg (Kd.R_away HO_3.out (fun _ hk => hk.2))); have n2_ := A_ (below_weaken (oB132 HB) HL.out hb); have n3_ := A_ (KeepBut.trans (oKe HK) (KeepBut.of_grown hg g) (Kd.R_base2 HO_3.out)); have n4_ := A_ (ho); clear HI0; clear BK1824; clear HB; clear HK; clear HO_3; have HI0 := n0_; have BK1824 := n1_; have HB := n2_; have HK := n3_; have HO1827 := n4_; clear n0_ n1_ n2_ n3_ n4_; clear ho hb hg hat))
     go_roundg k1
     case measure => have := HK1.out; omega
     case rel => exact ⟨(y1825), (wrap64 (x5_1 + 1)), (t1822), (t1823), eS, H', ⟨by have := HK1.out; omega⟩, ⟨by (with_reducible repeat (first | apply Kd.R_alloc | apply Kd.R_drewN | apply Kd.R_drew)); exact Kd.R_mono HO1827.out (fun _ hk => trivial)⟩, ⟨oI132 HI0⟩, ⟨oKe HK⟩, ⟨oB132 HB⟩⟩
    ·rw [if_neg c8] at H
     exact absurd H (by simp)
   ·rw [if_neg c6] at H
    have c6b0 : decide (x5_1 < t1815) = false := decide_eq_false c6
    clear c6
    simp only [Option.some.injEq, Prod.mk.injEq] at H
    obtain ⟨rfl, rfl, rfl⟩ := H
    go_wp2
    go_ret
    exact ⟨_, eR, oR HO_3, oI132 HI0, oB132 HB, oKe HK⟩
def impl_UsualPlan.l0 : Nat → Int → List (S112) → Int → Option ((List (S112)))
 | 0, _, _, _ => none
 | k + 1, x0, x3, x4 => if x4 < 11 then (if x4 = 0 then (if x3.length < 4398046511104 then (impl_UsualPlan.l0 k x0 (x3 ++ [(⟨x4, wrap64 (x4 + 1), 1, x0⟩ : S112)]) (wrap64 (x4 + 1))) else (none)) else (if x4 = 2 then (if x3.length < 4398046511104 then (impl_UsualPlan.l0 k x0 (x3 ++ [(⟨x4, wrap64 (x4 + 1), 1, x0⟩ : S112)]) (wrap64 (x4 + 1))) else (none)) else (if x4 = 4 then (if x3.length < 4398046511104 then (impl_UsualPlan.l0 k x0 (x3 ++ [(⟨x4, wrap64 (x4 + 1), 1, x0⟩ : S112)]) (wrap64 (x4 + 1))) else (none)) else (if x4 = 7 then (if x3.length < 4398046511104 then (impl_UsualPlan.l0 k x0 (x3 ++ [(⟨x4, wrap64 (x4 + 1), 1, x0⟩ : S112)]) (wrap64 (x4 + 1))) else (none)) else (if x4 = 9 then (if x3.length < 4398046511104 then (impl_UsualPlan.l0 k x0 (x3 ++ [(⟨x4, wrap64 (x4 + 1), 1, x0⟩ : S112)]) (wrap64 (x4 + 1))) else (none)) else (if x3.length < 4398046511104 then (impl_UsualPlan.l0 k x0 (x3 ++ [(⟨x4, wrap64 (x4 + 1), 2, x0⟩ : S112)]) (wrap64 (x4 + 1))) else (none))))))) else (some x3)
def impl_UsualPlan.f (k : Nat) (a0 : Int) : Option ((List (S112))) := (impl_within.f a0 0 5000).bind fun t1945 => (if t1945 = true then (impl_UsualPlan.l0 k a0 (([] : List (S112))) 0) else (some ([] : List (S112))))
theorem impl_UsualPlan.calls (k : Nat) (a0 : Int) (r : List (S112)) (w : World) (h : impl_UsualPlan.f k a0 = some r) :
  Calls Tryz.prog 81 #[.int .i64 a0] w fun e w' => ∃ v0_ : Value, e = .returned (v0_) ∧ Kd.R k112 112 w' w.heap.size (fun _ => True) v0_ r ∧ Below w.heap.size w w' := by
 have hu112 := Tryz.underlying112
 have HB := A_ (Below.refl w.heap.size w)
 have H : ((impl_within.f a0 0 5000).bind fun t1945 => (if t1945 = true then (impl_UsualPlan.l0 k a0 (([] : List (S112))) 0) else (some ([] : List (S112))))) = some r := h
 clear h
 replace H := Option.bind_eq_some_iff.mp H
 obtain ⟨t1945, A20, H⟩ := H
 (try dsimp only at H)
 have A2 := A_ A20
 clear A20
 by_cases c3 : t1945 = true
 ·subst c3
  rw [if_pos rfl] at H
  obtain ⟨y1946, hy1946⟩ : ∃ y_ : List (S112), y_ = (([] : List (S112))) := ⟨_, rfl⟩
  replace H : (impl_UsualPlan.l0 k a0 y1946 0) = some r := by first | (rw [hy1946]; with_reducible exact H) | (have H2_ := (Option.bind_some _ _).symm.trans H; rw [hy1946]; with_reducible exact H2_) | (have H2_ := (Option.bind_some _ _).symm.trans H; with_reducible exact H2_) | with_reducible exact H | (rw [hy1946]; exact H) | exact H
  have Ny1946 := A_ hy1946
  clear hy1946
  have H' := A_ H
  clear H
  go_enter Tryz.func81, Tryz.ntmps81
  go_wp2_with (first | ((with_reducible refine gate_callee (f := 79) rfl ?_); refine gL (some 7) Tryz.func79 #[.int .i64 a0, .int .i64 0, .int .i64 5000] ?_; (with_reducible refine (impl_within.calls a0 0 5000 true _ A2.out).mono ?_); rintro e w' ⟨rfl, ⟨nd, rfl⟩⟩; refine ⟨_, rfl, ?_⟩) | ((with_reducible refine gate_dst (N := 9) rfl ?_); refine Kd.R_lit k112 _ 112 ?hg (N := 9) ?hd (xs := ([] : List (S112))) (inner := []) (ok := fun _ => True) (okp := fun _ => True) ?hr ?hp (fun _ hk => hk) trivial (Below.refl _ _) (Nat.le_refl _) (by simp) ?_; (case hd => rfl); (case hg => rfl); (case hr => first | (go_simp; done) | (go_simp; rfl)); (case hp => exact (Reps.none _ _)); intro v1947 w4 ho5 hb hg_ hnew_; clear hg_ hnew_; (first | rw [← Ny1946.out] at ho5 | (simp only [Int.reduceToNat] at ho5; rw [← Ny1946.out] at ho5)); have n0_ := A_ (Kd.R_lower ho5 (below_size (oB HB))); have n1_ := A_ (below_step (oB HB) hb); clear HB; have HO1948 := n0_; have HB := n1_; clear n0_ n1_; clear hb ho5))
  go_loopg [3, 4] k (fun kq v3 v4 w' => ∃ (x3_1 : List (S112)) (x4_1 : Int), v4 = .int .i64 x4_1 ∧ Aside0 (impl_UsualPlan.l0 kq a0 x3_1 x4_1 = some r) ∧ Aside0 (kq ≤ k) ∧ Aside0 (Kd.R k112 112 w' w.heap.size (fun _ => True) v3 x3_1) ∧ Aside0 (Below w.heap.size w w'))
  case atStart => exact ⟨(y1946), (0), eS, H', ⟨Nat.le_refl _⟩, ⟨oR HO1948⟩, ⟨oB HB⟩⟩
  case round =>
   clear H'
   try clear p2
   try clear c3
   obtain ⟨x3_1, x4_1, rfl, HA, HK1, HO_3, HB⟩ := hrel
   cases gk with
   | zero => exact absurd HA.out (by simp [impl_UsualPlan.l0])
   | succ k1 =>
    have H := HA.out
    clear HA
    simp only [impl_UsualPlan.l0] at H
    by_cases c6 : x4_1 < 11
    ·rw [if_pos c6] at H
     have c6b0 : decide (x4_1 < 11) = true := decide_eq_true c6
     clear c6
     by_cases c7 : x4_1 = 0
     ·rw [if_pos c7] at H
      have c7b0 : (x4_1 == 0) = true := beq_iff_eq.mpr c7
      have c7b1 : (x4_1 != 0) = false := bne_eq_false_iff_eq.mpr c7
      clear c7
      by_cases c8 : x3_1.length < 4398046511104
      ·rw [if_pos c8] at H
       have LMc8 := A_ c8
       clear c8
       obtain ⟨y1949, hy1949⟩ : ∃ y_ : List (S112), y_ = (x3_1 ++ [(⟨x4_1, wrap64 (x4_1 + 1), 1, a0⟩ : S112)]) := ⟨_, rfl⟩
       replace H : (impl_UsualPlan.l0 k1 a0 y1949 (wrap64 (x4_1 + 1))) = some r := by first | (rw [hy1949]; with_reducible exact H) | (have H2_ := (Option.bind_some _ _).symm.trans H; rw [hy1949]; with_reducible exact H2_) | (have H2_ := (Option.bind_some _ _).symm.trans H; with_reducible exact H2_) | with_reducible exact H | (rw [hy1949]; exact H) | exact H
       have Ny1949 := A_ hy1949
       clear hy1949
       have H' := A_ H
       clear H
       go_wp2_with (first | ((with_reducible refine gate_builtin (b := .append) (xs := #[.tmp 32, .tmp 39]) rfl ?_); at_builtin; refine Kd.R_append k112 (w0 := w) w.heap.size rfl (.tmp 32) (.tmp 39) 32 112 (.agg #[(.int .i64 0), (.int .i64 0), (.int .i64 0), (.int .i64 0)]) 32 rfl Tryz.underlying32 info112 rfl (by decide) (by omega) u3 x3_1 (⟨x4_1, wrap64 (x4_1 + 1), 1, a0⟩ : S112) [.int .i64 x4_1, .int .i64 (wrap64 (x4_1 + 1)), .int .i64 1, .int .i64 a0] (fun _ => True) (fun _ => False) rfl rfl ?aP (fun _ hk => hk.elim) ?aF ?aO ?aB ?aS ?aL ?_; (case aP => exact k112_mkM _ _ _ (⟨x4_1, wrap64 (x4_1 + 1), 1, a0⟩ : S112)); (case aB => exact (oB HB)); (case aF => exact (fun _ _ => trivial)); (case aO => exact (oR HO_3)); (case aS => exact (below_size (oB HB))); (case aL => have := LMc8.out; omega); intro v1950 w9 ho hb hg hat; rw [← Ny1949.out] at ho; have n0_ := A_ (hb); have n1_ := A_ (ho); clear HB; clear HO_3; have HB := n0_; have HO1951 := n1_; clear n0_ n1_; clear ho hb hg hat))
       go_roundg k1
       case measure => have := HK1.out; omega
       case rel => exact ⟨(y1949), (wrap64 (x4_1 + 1)), eS, H', ⟨by have := HK1.out; omega⟩, ⟨oR HO1951⟩, ⟨oB HB⟩⟩
      ·rw [if_neg c8] at H
       exact absurd H (by simp)
     ·rw [if_neg c7] at H
      have c7b0 : (x4_1 == 0) = false := beq_eq_false_iff_ne.mpr c7
      have c7b1 : (x4_1 != 0) = true := bne_iff_ne.mpr c7
      by_cases c10 : x4_1 = 2
      ·rw [if_pos c10] at H
       have c10b0 : (x4_1 == 2) = true := beq_iff_eq.mpr c10
       have c10b1 : (x4_1 != 2) = false := bne_eq_false_iff_eq.mpr c10
       clear c10
       by_cases c11 : x3_1.length < 4398046511104
       ·rw [if_pos c11] at H
        have LMc11 := A_ c11
        clear c11
        obtain ⟨y1952, hy1952⟩ : ∃ y_ : List (S112), y_ = (x3_1 ++ [(⟨x4_1, wrap64 (x4_1 + 1), 1, a0⟩ : S112)]) := ⟨_, rfl⟩
        replace H : (impl_UsualPlan.l0 k1 a0 y1952 (wrap64 (x4_1 + 1))) = some r := by first | (rw [hy1952]; with_reducible exact H) | (have H2_ := (Option.bind_some _ _).symm.trans H; rw [hy1952]; with_reducible exact H2_) | (have H2_ := (Option.bind_some _ _).symm.trans H; with_reducible exact H2_) | with_reducible exact H | (rw [hy1952]; exact H) | exact H
        have Ny1952 := A_ hy1952
        clear hy1952
        have H' := A_ H
        clear H
        go_wp2_with (first | ((with_reducible refine gate_builtin (b := .append) (xs := #[.tmp 32, .tmp 39]) rfl ?_); at_builtin; refine Kd.R_append k112 (w0 := w) w.heap.size rfl (.tmp 32) (.tmp 39) 32 112 (.agg #[(.int .i64 0), (.int .i64 0), (.int .i64 0), (.int .i64 0)]) 32 rfl Tryz.underlying32 info112 rfl (by decide) (by omega) u3 x3_1 (⟨x4_1, wrap64 (x4_1 + 1), 1, a0⟩ : S112) [.int .i64 x4_1, .int .i64 (wrap64 (x4_1 + 1)), .int .i64 1, .int .i64 a0] (fun _ => True) (fun _ => False) rfl rfl ?aP (fun _ hk => hk.elim) ?aF ?aO ?aB ?aS ?aL ?_; (case aP => exact k112_mkM _ _ _ (⟨x4_1, wrap64 (x4_1 + 1), 1, a0⟩ : S112)); (case aB => exact (oB HB)); (case aF => exact (fun _ _ => trivial)); (case aO => exact (oR HO_3)); (case aS => exact (below_size (oB HB))); (case aL => have := LMc11.out; omega); intro v1953 w12 ho hb hg hat; rw [← Ny1952.out] at ho; have n0_ := A_ (hb); have n1_ := A_ (ho); clear HB; clear HO_3; have HB := n0_; have HO1954 := n1_; clear n0_ n1_; clear ho hb hg hat))
        go_roundg k1
        case measure => have := HK1.out; omega
        case rel => exact ⟨(y1952), (wrap64 (x4_1 + 1)), eS, H', ⟨by have := HK1.out; omega⟩, ⟨oR HO1954⟩, ⟨oB HB⟩⟩
       ·rw [if_neg c11] at H
        exact absurd H (by simp)
      ·rw [if_neg c10] at H
       have c10b0 : (x4_1 == 2) = false := beq_eq_false_iff_ne.mpr c10
       have c10b1 : (x4_1 != 2) = true := bne_iff_ne.mpr c10
       by_cases c13 : x4_1 = 4
       ·rw [if_pos c13] at H
        have c13b0 : (x4_1 == 4) = true := beq_iff_eq.mpr c13
        have c13b1 : (x4_1 != 4) = false := bne_eq_false_iff_eq.mpr c13
        clear c13
        by_cases c14 : x3_1.length < 4398046511104
        ·rw [if_pos c14] at H
         have LMc14 := A_ c14
         clear c14
         obtain ⟨y1955, hy1955⟩ : ∃ y_ : List (S112), y_ = (x3_1 ++ [(⟨x4_1, wrap64 (x4_1 + 1), 1, a0⟩ : S112)]) := ⟨_, rfl⟩
         replace H : (impl_UsualPlan.l0 k1 a0 y1955 (wrap64 (x4_1 + 1))) = some r := by first | (rw [hy1955]; with_reducible exact H) | (have H2_ := (Option.bind_some _ _).symm.trans H; rw [hy1955]; with_reducible exact H2_) | (have H2_ := (Option.bind_some _ _).symm.trans H; with_reducible exact H2_) | with_reducible exact H | (rw [hy1955]; exact H) | exact H
         have Ny1955 := A_ hy1955
         clear hy1955
         have H' := A_ H
         clear H
         go_wp2_with (first | ((with_reducible refine gate_builtin (b := .append) (xs := #[.tmp 32, .tmp 39]) rfl ?_); at_builtin; refine Kd.R_append k112 (w0 := w) w.heap.size rfl (.tmp 32) (.tmp 39) 32 112 (.agg #[(.int .i64 0), (.int .i64 0), (.int .i64 0), (.int .i64 0)]) 32 rfl Tryz.underlying32 info112 rfl (by decide) (by omega) u3 x3_1 (⟨x4_1, wrap64 (x4_1 + 1), 1, a0⟩ : S112) [.int .i64 x4_1, .int .i64 (wrap64 (x4_1 + 1)), .int .i64 1, .int .i64 a0] (fun _ => True) (fun _ => False) rfl rfl ?aP (fun _ hk => hk.elim) ?aF ?aO ?aB ?aS ?aL ?_; (case aP => exact k112_mkM _ _ _ (⟨x4_1, wrap64 (x4_1 + 1), 1, a0⟩ : S112)); (case aB => exact (oB HB)); (case aF => exact (fun _ _ => trivial)); (case aO => exact (oR HO_3)); (case aS => exact (below_size (oB HB))); (case aL => have := LMc14.out; omega); intro v1956 w15 ho hb hg hat; rw [← Ny1955.out] at ho; have n0_ := A_ (hb); have n1_ := A_ (ho); clear HB; clear HO_3; have HB := n0_; have HO1957 := n1_; clear n0_ n1_; clear ho hb hg hat))
         go_roundg k1
         case measure => have := HK1.out; omega
         case rel => exact ⟨(y1955), (wrap64 (x4_1 + 1)), eS, H', ⟨by have := HK1.out; omega⟩, ⟨oR HO1957⟩, ⟨oB HB⟩⟩
        ·rw [if_neg c14] at H
         exact absurd H (by simp)
       ·rw [if_neg c13] at H
        have c13b0 : (x4_1 == 4) = false := beq_eq_false_iff_ne.mpr c13
        have c13b1 : (x4_1 != 4) = true := bne_iff_ne.mpr c13
        by_cases c16 : x4_1 = 7
        ·rw [if_pos c16] at H
         have c16b0 : (x4_1 == 7) = true := beq_iff_eq.mpr c16
         have c16b1 : (x4_1 != 7) = false := bne_eq_false_iff_eq.mpr c16
         clear c16
         by_cases c17 : x3_1.length < 4398046511104
         ·rw [if_pos c17] at H
          have LMc17 := A_ c17
          clear c17
          obtain ⟨y1958, hy1958⟩ : ∃ y_ : List (S112), y_ = (x3_1 ++ [(⟨x4_1, wrap64 (x4_1 + 1), 1, a0⟩ : S112)]) := ⟨_, rfl⟩
          replace H : (impl_UsualPlan.l0 k1 a0 y1958 (wrap64 (x4_1 + 1))) = some r := by first | (rw [hy1958]; with_reducible exact H) | (have H2_ := (Option.bind_some _ _).symm.trans H; rw [hy1958]; with_reducible exact H2_) | (have H2_ := (Option.bind_some _ _).symm.trans H; with_reducible exact H2_) | with_reducible exact H | (rw [hy1958]; exact H) | exact H
          have Ny1958 := A_ hy1958
          clear hy1958
          have H' := A_ H
          clear H
          go_wp2_with (first | ((with_reducible refine gate_builtin (b := .append) (xs := #[.tmp 32, .tmp 39]) rfl ?_); at_builtin; refine Kd.R_append k112 (w0 := w) w.heap.size rfl (.tmp 32) (.tmp 39) 32 112 (.agg #[(.int .i64 0), (.int .i64 0), (.int .i64 0), (.int .i64 0)]) 32 rfl Tryz.underlying32 info112 rfl (by decide) (by omega) u3 x3_1 (⟨x4_1, wrap64 (x4_1 + 1), 1, a0⟩ : S112) [.int .i64 x4_1, .int .i64 (wrap64 (x4_1 + 1)), .int .i64 1, .int .i64 a0] (fun _ => True) (fun _ => False) rfl rfl ?aP (fun _ hk => hk.elim) ?aF ?aO ?aB ?aS ?aL ?_; (case aP => exact k112_mkM _ _ _ (⟨x4_1, wrap64 (x4_1 + 1), 1, a0⟩ : S112)); (case aB => exact (oB HB)); (case aF => exact (fun _ _ => trivial)); (case aO => exact (oR HO_3)); (case aS => exact (below_size (oB HB))); (case aL => have := LMc17.out; omega); intro v1959 w18 ho hb hg hat; rw [← Ny1958.out] at ho; have n0_ := A_ (hb); have n1_ := A_ (ho); clear HB; clear HO_3; have HB := n0_; have HO1960 := n1_; clear n0_ n1_; clear ho hb hg hat))
          go_roundg k1
          case measure => have := HK1.out; omega
          case rel => exact ⟨(y1958), (wrap64 (x4_1 + 1)), eS, H', ⟨by have := HK1.out; omega⟩, ⟨oR HO1960⟩, ⟨oB HB⟩⟩
         ·rw [if_neg c17] at H
          exact absurd H (by simp)
        ·rw [if_neg c16] at H
         have c16b0 : (x4_1 == 7) = false := beq_eq_false_iff_ne.mpr c16
         have c16b1 : (x4_1 != 7) = true := bne_iff_ne.mpr c16
         by_cases c19 : x4_1 = 9
         ·rw [if_pos c19] at H
          have c19b0 : (x4_1 == 9) = true := beq_iff_eq.mpr c19
          have c19b1 : (x4_1 != 9) = false := bne_eq_false_iff_eq.mpr c19
          clear c19
          by_cases c20 : x3_1.length < 4398046511104
          ·rw [if_pos c20] at H
           have LMc20 := A_ c20
           clear c20
           obtain ⟨y1961, hy1961⟩ : ∃ y_ : List (S112), y_ = (x3_1 ++ [(⟨x4_1, wrap64 (x4_1 + 1), 1, a0⟩ : S112)]) := ⟨_, rfl⟩
           replace H : (impl_UsualPlan.l0 k1 a0 y1961 (wrap64 (x4_1 + 1))) = some r := by first | (rw [hy1961]; with_reducible exact H) | (have H2_ := (Option.bind_some _ _).symm.trans H; rw [hy1961]; with_reducible exact H2_) | (have H2_ := (Option.bind_some _ _).symm.trans H; with_reducible exact H2_) | with_reducible exact H | (rw [hy1961]; exact H) | exact H
           have Ny1961 := A_ hy1961
           clear hy1961
           have H' := A_ H
           clear H
           go_wp2_with (first | ((with_reducible refine gate_builtin (b := .append) (xs := #[.tmp 32, .tmp 39]) rfl ?_); at_builtin; refine Kd.R_append k112 (w0 := w) w.heap.size rfl (.tmp 32) (.tmp 39) 32 112 (.agg #[(.int .i64 0), (.int .i64 0), (.int .i64 0), (.int .i64 0)]) 32 rfl Tryz.underlying32 info112 rfl (by decide) (by omega) u3 x3_1 (⟨x4_1, wrap64 (x4_1 + 1), 1, a0⟩ : S112) [.int .i64 x4_1, .int .i64 (wrap64 (x4_1 + 1)), .int .i64 1, .int .i64 a0] (fun _ => True) (fun _ => False) rfl rfl ?aP (fun _ hk => hk.elim) ?aF ?aO ?aB ?aS ?aL ?_; (case aP => exact k112_mkM _ _ _ (⟨x4_1, wrap64 (x4_1 + 1), 1, a0⟩ : S112)); (case aB => exact (oB HB)); (case aF => exact (fun _ _ => trivial)); (case aO => exact (oR HO_3)); (case aS => exact (below_size (oB HB))); (case aL => have := LMc20.out; omega); intro v1962 w21 ho hb hg hat; rw [← Ny1961.out] at ho; have n0_ := A_ (hb); have n1_ := A_ (ho); clear HB; clear HO_3; have HB := n0_; have HO1963 := n1_; clear n0_ n1_; clear ho hb hg hat))
           go_roundg k1
           case measure => have := HK1.out; omega
           case rel => exact ⟨(y1961), (wrap64 (x4_1 + 1)), eS, H', ⟨by have := HK1.out; omega⟩, ⟨oR HO1963⟩, ⟨oB HB⟩⟩
          ·rw [if_neg c20] at H
           exact absurd H (by simp)
         ·rw [if_neg c19] at H
          have c19b0 : (x4_1 == 9) = false := beq_eq_false_iff_ne.mpr c19
          have c19b1 : (x4_1 != 9) = true := bne_iff_ne.mpr c19
          by_cases c22 : x3_1.length < 4398046511104
          ·rw [if_pos c22] at H
           have LMc22 := A_ c22
           clear c22
           obtain ⟨y1964, hy1964⟩ : ∃ y_ : List (S112), y_ = (x3_1 ++ [(⟨x4_1, wrap64 (x4_1 + 1), 2, a0⟩ : S112)]) := ⟨_, rfl⟩
           replace H : (impl_UsualPlan.l0 k1 a0 y1964 (wrap64 (x4_1 + 1))) = some r := by first | (rw [hy1964]; with_reducible exact H) | (have H2_ := (Option.bind_some _ _).symm.trans H; rw [hy1964]; with_reducible exact H2_) | (have H2_ := (Option.bind_some _ _).symm.trans H; with_reducible exact H2_) | with_reducible exact H | (rw [hy1964]; exact H) | exact H
           have Ny1964 := A_ hy1964
           clear hy1964
           have H' := A_ H
           clear H
           go_wp2_with (first | ((with_reducible refine gate_builtin (b := .append) (xs := #[.tmp 32, .tmp 39]) rfl ?_); at_builtin; refine Kd.R_append k112 (w0 := w) w.heap.size rfl (.tmp 32) (.tmp 39) 32 112 (.agg #[(.int .i64 0), (.int .i64 0), (.int .i64 0), (.int .i64 0)]) 32 rfl Tryz.underlying32 info112 rfl (by decide) (by omega) u3 x3_1 (⟨x4_1, wrap64 (x4_1 + 1), 2, a0⟩ : S112) [.int .i64 x4_1, .int .i64 (wrap64 (x4_1 + 1)), .int .i64 2, .int .i64 a0] (fun _ => True) (fun _ => False) rfl rfl ?aP (fun _ hk => hk.elim) ?aF ?aO ?aB ?aS ?aL ?_; (case aP => exact k112_mkM _ _ _ (⟨x4_1, wrap64 (x4_1 + 1), 2, a0⟩ : S112)); (case aB => exact (oB HB)); (case aF => exact (fun _ _ => trivial)); (case aO => exact (oR HO_3)); (case aS => exact (below_size (oB HB))); (case aL => have := LMc22.out; omega); intro v1965 w23 ho hb hg hat; rw [← Ny1964.out] at ho; have n0_ := A_ (hb); have n1_ := A_ (ho); clear HB; clear HO_3; have HB := n0_; have HO1966 := n1_; clear n0_ n1_; clear ho hb hg hat))
           go_roundg k1
           case measure => have := HK1.out; omega
           case rel => exact ⟨(y1964), (wrap64 (x4_1 + 1)), eS, H', ⟨by have := HK1.out; omega⟩, ⟨oR HO1966⟩, ⟨oB HB⟩⟩
          ·rw [if_neg c22] at H
           exact absurd H (by simp)
    ·rw [if_neg c6] at H
     have c6b0 : decide (x4_1 < 11) = false := decide_eq_false c6
     clear c6
     obtain rfl := Option.some.inj H
     go_wp2
     go_ret
     exact ⟨_, eR, oR HO_3, oB HB⟩
 ·replace c3 := Bool.eq_false_iff.mpr c3
  subst c3
  rw [if_neg (show ¬ (false = true) by decide)] at H
  obtain rfl := Option.some.inj H
  go_enter Tryz.func81, Tryz.ntmps81
  go_wp2_with (first | ((with_reducible refine gate_callee (f := 79) rfl ?_); refine gL (some 7) Tryz.func79 #[.int .i64 a0, .int .i64 0, .int .i64 5000] ?_; (with_reducible refine (impl_within.calls a0 0 5000 false _ A2.out).mono ?_); rintro e w' ⟨rfl, ⟨nd, rfl⟩⟩; refine ⟨_, rfl, ?_⟩))
  go_ret
  exact ⟨_, eR, by first | exact Kd.R_nil _ _ _ _ _ | exact Kd.N_nil _ _ _ _ _ | exact Kd.V_nil _ _ _ _ _ | exact Kd.Q_nil _ _ _ _ _ | exact Kd.S_nil _ _ _ _ _, oB HB⟩
end Go.Proofs.YtanhnhkcpbdfmaaGreat.P
namespace Go.Proofs.YtanhnhkcpbdfmaaGreat.P
open Go.RowKit Go.Proofs.YtanhnhkcpbdfmaaGreatW.PrintWords Go.Proofs.YtanhnhkcpbdfmaaGreatW.PrintLast Go.Proofs.YtanhnhkcpbdfmaaGreatW.PrintMore
attribute [local go_sem] max2_int min2_int max_two min_two max_three min_three max_four min_four
theorem eqA41 (d : Nat) (w : World) (x0 y0 : Int) (x1 y1 : Int) (x2 y2 : Int) (x3 y3 : Int) :
  (Op.equalIn (d + 2) 41 (.agg #[.int .i64 x0, .int .i64 x1, .int .i64 x2, .int .i64 x3]) (.agg #[.int .i64 y0, .int .i64 y1, .int .i64 y2, .int .i64 y3])).run Tryz.prog w = .ok (x0 == y0 && (x1 == y1 && (x2 == y2 && (x3 == y3)))) w := by
 refine eqA_of Tryz.underlying41 (by kernel_rfl) ?_
 refine eqf_cons (by rfl) (by go_simp; rfl) (by go_simp; rfl) (by go_simp) ?_
 refine eqf_cons (by rfl) (by go_simp; rfl) (by go_simp; rfl) (by go_simp) ?_
 refine eqf_cons (by rfl) (by go_simp; rfl) (by go_simp; rfl) (by go_simp) ?_
 exact eqf_last (by rfl) (by go_simp; rfl) (by go_simp; rfl) (by go_simp)
theorem eqA74 (d : Nat) (w : World) (x0 y0 : Int) (x1 y1 : Int) :
  (Op.equalIn (d + 2) 74 (.agg #[.int .i64 x0, .int .i64 x1]) (.agg #[.int .i64 y0, .int .i64 y1])).run Tryz.prog w = .ok (x0 == y0 && (x1 == y1)) w := by
 refine eqA_of Tryz.underlying74 (by kernel_rfl) ?_
 refine eqf_cons (by rfl) (by go_simp; rfl) (by go_simp; rfl) (by go_simp) ?_
 exact eqf_last (by rfl) (by go_simp; rfl) (by go_simp; rfl) (by go_simp)
end Go.Proofs.YtanhnhkcpbdfmaaGreat.P
namespace Go.Proofs.YtanhnhkcpbdfmaaGreat.Q
open Go.RowKit Go.Proofs.YtanhnhkcpbdfmaaGreat.P Go.Proofs.YtanhnhkcpbdfmaaGreatW.PrintWords Go.Proofs.YtanhnhkcpbdfmaaGreatW.PrintMore
theorem copyLog_eq (l : List S104) (hl : l.length ≤ 4000000) : impl_copyLog.f l = some l := by
  unfold impl_copyLog.f; simp only [Option.bind_some]; rw [if_pos (by simp; omega)]; simp
theorem l34Copy_eq (l : List S104) (hl : l.length ≤ 4000000) : spec_l34Copy.f l = some l := by
  unfold spec_l34Copy.f; simp only [Option.bind_some]; rw [if_pos (by simp; omega)]; simp
theorem bits_and (x y : Int) : Go.bits .and .i64 x y = wrap64 (((BitVec.ofInt IntKind.i64.bits x &&& BitVec.ofInt IntKind.i64.bits y).toNat : Nat) : Int) := by
  unfold Go.bits
  rw [IntWalk.i64_left]
theorem bits255 (x : Int) : 0 ≤ Go.bits .and .i64 x 255 ∧ Go.bits .and .i64 x 255 ≤ 255 := by
  have h2 : (BitVec.ofInt IntKind.i64.bits 255).toNat ≤ 255 := by decide
  rw [bits_and]
  obtain ⟨y, hy⟩ : ∃ y, BitVec.ofInt IntKind.i64.bits 255 = y := ⟨_, rfl⟩
  rw [hy] at h2 ⊢
  have h : (BitVec.ofInt IntKind.i64.bits x &&& y).toNat ≤ 255 := by
    rw [BitVec.toNat_and]; exact Nat.le_trans Nat.and_le_right h2
  rw [w64 (by omega) (by omega)]
  omega
section
variable (b : List Int) (hb : b.length ≤ 1048576)
include hb
theorem byte_ev (i h : Int) (hi : 0 ≤ i) : ∃ v i' h', spec_l01Byte.f b i h = some (v, i', h') ∧ 0 ≤ v ∧ v ≤ 255 ∧ 0 ≤ i' := by
  unfold spec_l01Byte.f
  by_cases h1 : i < (b.length : Int)
  · rw [if_pos h1, if_pos hi]
    exact ⟨_, _, _, rfl, (bits255 _).1, (bits255 _).2, by rw [w64 (by omega) (by omega)]; omega⟩
  · rw [if_neg h1]
    exact ⟨_, _, _, rfl, (bits255 _).1, (bits255 _).2, hi⟩
theorem below_ev (i h n : Int) (hi : 0 ≤ i) : ∃ v i' h', spec_l01Below.f b i h n = some (v, i', h') ∧ 0 ≤ v ∧ (0 < n → v < n) ∧ (n ≤ 0 → v = 0) ∧ 0 ≤ i' := by
  unfold spec_l01Below.f
  by_cases h1 : n ≤ 0
  · rw [if_pos h1]
    exact ⟨_, _, _, rfl, by omega, by omega, fun _ => rfl, hi⟩
  rw [if_neg h1]
  have key : ∀ v : Int, 0 ≤ v → 0 ≤ Int.tmod v n ∧ (0 < n → Int.tmod v n < n) := fun v hv => ⟨Int.tmod_nonneg n hv, fun h2 => by rw [Int.tmod_eq_emod_of_nonneg hv]; exact Int.emod_lt_of_pos v h2⟩
  by_cases h2 : n ≤ 256
  · rw [if_pos h2]
    obtain ⟨v, i1, h1', e, v0, v1, i0⟩ := byte_ev b hb i h hi
    rw [e, Option.bind_some, if_neg (by omega)]
    exact ⟨_, _, _, rfl, (key v v0).1, (key v v0).2, by omega, i0⟩
  rw [if_neg h2]
  obtain ⟨x, i1, g1, e1, x0, x1, j1⟩ := byte_ev b hb i h hi
  obtain ⟨y, i2, g2, e2, y0, y1, j2⟩ := byte_ev b hb i1 g1 j1
  obtain ⟨z, i3, g3, e3, z0, z1, j3⟩ := byte_ev b hb i2 g2 j2
  obtain ⟨u, i4, g4, e4, u0, u1, j4⟩ := byte_ev b hb i3 g3 j3
  rw [e1, Option.bind_some]; dsimp only
  rw [e2, Option.bind_some]; dsimp only
  rw [e3, Option.bind_some]; dsimp only
  rw [e4, Option.bind_some, if_neg (by omega)]; dsimp only
  rw [w64 (n := x * 16777216) (by omega) (by omega), w64 (n := y * 65536) (by omega) (by omega), w64 (n := z * 256) (by omega) (by omega), w64 (n := x * 16777216 + y * 65536) (by omega) (by omega), w64 (n := x * 16777216 + y * 65536 + z * 256) (by omega) (by omega), w64 (by omega) (by omega)]
  exact ⟨_, _, _, rfl, (key _ (by omega)).1, (key _ (by omega)).2, by omega, j4⟩
omit hb in
theorem new_ev : ∃ h, Ev (fun k => spec_l01New.f k b) (b, 0, h) := by
  have key : ∀ i, i ≤ b.length → ∀ x : Int, ∃ h, Ev (fun k => spec_l01New.l0 k b x (i : Int)) (b, 0, h) := by
    refine down (n := b.length) ?_ ?_
    · intro x
      exact ⟨x, Ev.step (fun k => by rw [spec_l01New.l0]) (evn (by omega) (Ev.now _))⟩
    · intro i hi ih x
      by_cases h4 : (i : Int) < 4000
      · obtain ⟨h, he⟩ := ih (Go.bits .and .i64 (wrap64 ((wrap64 ((wrap64 (x * 131)) + (wrap64 (rd b (i : Int))))) + 7)) 1073741823)
        refine ⟨h, Ev.step (fun k => by rw [spec_l01New.l0]) (evp (by omega) (evp h4 (evp (by omega) ?_)))⟩
        rw [w64 (n := (i : Int) + 1) (by omega) (by omega)]
        exact he
      · exact ⟨x, Ev.step (fun k => by rw [spec_l01New.l0]) (evp (by omega) (evn h4 (Ev.now _)))⟩
  unfold spec_l01New.f
  exact key 0 (Nat.zero_le _) _
end
section
variable (b : List Int) (hb : b.length ≤ 1048576)
include hb
theorem once_ev (i h n : Int) (hi : 0 ≤ i) : ∃ v i' h', spec_l01Once.f b i h n = some (v, i', h') ∧ 0 ≤ i' := by
  unfold spec_l01Once.f
  obtain ⟨v, i1, h1, e, _, _, _, j⟩ := below_ev b hb i h n hi
  rw [e, Option.bind_some]
  exact ⟨_, _, _, rfl, j⟩
theorem pick_ev (i h : Int) (l : List Int) (hi : 0 ≤ i) (hl : 0 < l.length) : ∃ v i' h', spec_l01PickInt.f b i h l = some (v, i', h') ∧ v ∈ l ∧ 0 ≤ i' := by
  unfold spec_l01PickInt.f
  obtain ⟨v, i1, h1, e, v0, v1, _, j⟩ := below_ev b hb i h (l.length : Int) hi
  rw [e, Option.bind_some, if_pos v0, if_pos (v1 (by omega))]
  obtain ⟨m, rfl⟩ := Int.eq_ofNat_of_zero_le v0
  have hm : m < l.length := by have := v1 (by omega); omega
  exact ⟨_, _, _, rfl, by dsimp only; rw [rd_nat l m hm]; exact List.getElem_mem hm, j⟩
end
end Go.Proofs.YtanhnhkcpbdfmaaGreat.Q
namespace Go.Proofs.YtanhnhkcpbdfmaaGreat.Q
open Go.RowKit Go.Proofs.YtanhnhkcpbdfmaaGreat.P
def entOk (e : S104) : Bool := decide (0 ≤ e.f0.f0 ∧ e.f0.f0 ≤ 3) && (decide (0 ≤ e.f0.f1 ∧ e.f0.f1 ≤ 39) && (decide (0 ≤ e.f1 ∧ e.f1 ≤ 2) && decide (0 ≤ e.f2 ∧ e.f2 ≤ 100000)))
def logGo : Int → List S104 → Bool
  | _, [] => true
  | p, e :: r => entOk e && (decide (p ≤ e.f2) && logGo e.f2 r)
def logOk (l : List S104) : Bool := logGo 0 l && decide (l.length ≤ 30)
def prevM (l : List S104) (i : Nat) : Int := if i = 0 then 0 else (l.getD (i - 1) z104).f2
theorem prevM_succ (l : List S104) (i : Nat) (h : i < l.length) : prevM l (i + 1) = l[i].f2 := by simp [prevM, List.getD_eq_getElem?_getD, h]
theorem prevM_pos (l : List S104) (i : Nat) (h0 : 0 < i) (h : i < l.length) : prevM l i = l[i - 1].f2 := by
  simp [prevM, List.getD_eq_getElem?_getD, show i ≠ 0 by omega, show i - 1 < l.length by omega]
theorem logGo_at (l : List S104) (i : Nat) (h : i < l.length) : logGo (prevM l i) (l.drop i) = (entOk l[i] && (decide (prevM l i ≤ l[i].f2) && logGo (prevM l (i + 1)) (l.drop (i + 1)))) := by
  rw [List.drop_eq_getElem_cons h, prevM_succ l i h]; rfl
end Go.Proofs.YtanhnhkcpbdfmaaGreat.Q
namespace Go.Proofs.YtanhnhkcpbdfmaaGreat.P
open Go.RowKit Go.Proofs.YtanhnhkcpbdfmaaGreatW.PrintWords
def stepOk (x : S112) (t : List Bool) : Bool :=
  (decide (x.f2 = 1) || decide (x.f2 = 2)) && (decide (0 ≤ x.f3 ∧ x.f3 ≤ 5000) && (decide (0 ≤ x.f0 ∧ x.f0 ≤ 11) && (decide (0 ≤ x.f1 ∧ x.f1 ≤ 11) && (decide (x.f1 = (x.f0 + 1) % 12) && (t.getD x.f0.toNat false && !t.getD x.f1.toNat false)))))
def planGo : List S112 → List Bool → Bool
  | [], _ => true
  | x :: r, t => stepOk x t && planGo r (t.set x.f1.toNat true)
def tuned0 : List Bool := true :: List.replicate 11 false
def planOk (l : List S112) : Bool := decide (l.length ≤ 11) && planGo l tuned0
def tunedBy (l : List S112) (t : List Bool) : List Bool := l.foldl (fun t x => t.set x.f1.toNat true) t
def keyGo : List Bool → List Int → Bool
  | b :: t, p :: q => (if b then decide (1 ≤ p ∧ p ≤ 10000000) else decide (p = 0)) && keyGo t q
  | _, _ => true
def workOk (p : List S112) (d : Int) (q : List Int) : Bool :=
  planOk p && (decide (0 ≤ d ∧ d ≤ p.length) && (decide (q.length = 12) && keyGo (tunedBy (p.take d.toNat) tuned0) q))
theorem planGo_keys : ∀ (l : List S112) (t : List Bool), planGo l t = true → ∀ x ∈ l, 0 ≤ x.f1 ∧ x.f1 ≤ 11
  | [], _, _, x, hx => by simp at hx
  | y :: r, t, h, x, hx => by
    simp only [planGo, Bool.and_eq_true] at h
    rcases List.mem_cons.1 hx with rfl | hx
    · have h1 := h.1; simp [stepOk] at h1; exact h1.2.2.2.1
    · exact planGo_keys r _ h.2 x hx
theorem tunedBy_len (l : List S112) : ∀ t : List Bool, (tunedBy l t).length = t.length := by
  induction l with
  | nil => intro t; rfl
  | cons x r ih => intro t; show (tunedBy r _).length = _; rw [ih, List.length_set]
theorem tunedBy_snoc (l : List S112) (x : S112) (t : List Bool) : tunedBy (l ++ [x]) t = (tunedBy l t).set x.f1.toNat true := by simp [tunedBy, List.foldl_append]
end Go.Proofs.YtanhnhkcpbdfmaaGreat.P
namespace Go.Proofs.YtanhnhkcpbdfmaaGreat.P
set_option maxHeartbeats 8000000
set_option maxRecDepth 100000
open Go.RowKit Go.Proofs.YtanhnhkcpbdfmaaGreatW.PrintWords Go.Proofs.YtanhnhkcpbdfmaaGreatW.PrintLast Go.Proofs.YtanhnhkcpbdfmaaGreatW.PrintMore
attribute [local go_sem] max2_int min2_int max_two min_two max_three min_three max_four min_four
def impl_PlanOk.f (l0 : List (S112)) : Option (Bool) := some (planOk l0)
theorem impl_PlanOk.calls (A0 : Option Addr) (c0 : Nat) (l0 : List (S112)) (r : Bool) (w : World) (hr0 : Kd.C k112 w A0 l0.length l0) (hc0 : l0.length ≤ c0) (h : impl_PlanOk.f l0 = some r) :
    Calls Tryz.prog 89 #[.slice A0 l0.length c0] w fun e w' => e = .returned (.bool r) ∧ Below w.heap.size w w' := by
  have H := Option.some.inj h
  clear h
  by_cases h11 : l0.length ≤ 11
  rotate_left
  · have hb : decide (11 < (l0.length : Int)) = true := decide_eq_true (by omega)
    have hb2 : decide (11 < l0.length) = true := decide_eq_true (by omega)
    obtain rfl : false = r := by rw [← H]; simp [planOk, h11]
    go_enter Tryz.func89, Tryz.ntmps89
    go_wp2
    go_ret
    exact ⟨rfl, Below.refl _ _⟩
  · have hb : decide (11 < (l0.length : Int)) = false := decide_eq_false (by omega)
    have hb2 : decide (11 < l0.length) = false := decide_eq_false (by omega)
    go_enter Tryz.func89, Tryz.ntmps89
    go_wp2
    go_loopg [12] (l0.length + 1) (fun kq v12 w' => ∃ (i : Nat) (tn : List Bool), v12 = .int .i64 (i : Int) ∧ Aside0 (i + kq = l0.length + 1) ∧ Aside0 (i ≤ l0.length) ∧ Aside0 (tn.length = 12) ∧ Aside0 (w'.heap[w.heap.size]? = some (.cells (tn.map Value.bool).toArray 136 (0, 0))) ∧ Aside0 (planGo (l0.drop i) tn = r) ∧ Aside0 (Below w.heap.size w w'))
    case atStart =>
      exact ⟨0, tuned0, rfl, ⟨by omega⟩, ⟨by omega⟩, ⟨rfl⟩, ⟨by rw [heap_alloc_new]; rfl⟩, ⟨by rw [← H]; simp [planOk, h11]⟩, ⟨below_alloc (Below.refl _ _) _⟩⟩
    case round =>
      obtain ⟨i, tn, rfl, HK, HI, HT, HA, HP, HB⟩ := hrel
      by_cases hlt : i < l0.length
      rotate_left
      · have hb3 : decide ((i : Int) < (l0.length : Int)) = false := decide_eq_false (by omega)
        have hb4 : decide (i < l0.length) = false := decide_eq_false (by omega)
        obtain rfl : true = r := by
          have h1 := HP.out
          rw [List.drop_eq_nil_of_le (by omega)] at h1
          exact h1
        go_wp2
        go_ret
        exact ⟨rfl, HB.out⟩
      · have hb3 : decide ((i : Int) < (l0.length : Int)) = true := decide_eq_true (by omega)
        have hb4 : decide (i < l0.length) = true := decide_eq_true (by omega)
        obtain ⟨ad, e, hx0, hx1, hx2, hx3⟩ := at_T112 hr0 (i : Int) (by omega) (by omega)
        cases e
        replace hx0 := hW HB hx0
        replace hx1 := hW HB hx1
        replace hx2 := hW HB hx2
        replace hx3 := hW HB hx3
        obtain ⟨x, hx⟩ : ∃ x, rd_T112 l0 (i : Int) = x := ⟨_, rfl⟩
        rw [hx] at hx0 hx1 hx2 hx3
        simp only [Int.toNat_natCast] at hx0 hx1 hx2 hx3
        have hd : planGo (l0.drop i) tn = (stepOk x tn && planGo (l0.drop (i + 1)) (tn.set x.f1.toNat true)) := by
          rw [List.drop_eq_getElem_cons hlt]
          have e0 : l0[i] = x := by rw [← hx]; simp [rd_T112, List.getD_eq_getElem?_getD, hlt]
          rw [e0]; rfl
        have HX := A_ hx
        clear hx
        have HD := A_ hd
        clear hd
        have win : ∀ (a b c : Int) (d : Bool) (W : World), decide (b ≤ a ∧ a ≤ c) = d → Calls Tryz.prog 79 #[.int .i64 a, .int .i64 b, .int .i64 c] W fun e w' => e = .returned (.bool d) ∧ Drawn0 W w' := fun a b c d W hd =>
          impl_within.calls a b c d W (by rw [← hd]; unfold impl_within.f; by_cases hh : b ≤ a <;> simp [hh])
        have tc : ∀ k, k < 12 → ∀ o : Obj, (wr.alloc o).cell? ⟨w.heap.size, k, none⟩ = some (.bool (tn.getD k false)) := fun k hk o => (blk_cell (blk_alloc HA.out o) k).trans (by have := HT.out; simp [List.getD_eq_getElem?_getD, show k < tn.length by omega])
        by_cases q1 : 0 ≤ x.f3 ∧ x.f3 ≤ 5000
        rotate_left
        · have W1 := A_ fun W => win x.f3 0 5000 false W (decide_eq_false q1)
          have Q1 := A_ q1
          clear q1 win tc
          go_wp2_with (first | (go_at_call 79; (with_reducible refine (W1.out _).mono ?_); rintro e w' ⟨rfl, ⟨nd, rfl⟩⟩))
          all_goals
            obtain rfl : false = r := by
              rw [← HP.out, HD.out]; simp [stepOk, Q1.out]
            go_ret
            exact ⟨rfl, by repeat (first | exact HB.out | apply below_alloc | apply pw_below_drewN | apply below_drew1)⟩
        have W1 := A_ fun W => win x.f3 0 5000 true W (decide_eq_true q1)
        by_cases q2 : 0 ≤ x.f0 ∧ x.f0 ≤ 11
        rotate_left
        · have W2 := A_ fun W => win x.f0 0 11 false W (decide_eq_false q2)
          have Q1 := A_ q2
          clear q1 q2 win tc
          go_wp2_with (first | (go_at_call 79; (with_reducible refine (W1.out _).mono ?_); rintro e w' ⟨rfl, ⟨nd, rfl⟩⟩) | (go_at_call 79; (with_reducible refine (W2.out _).mono ?_); rintro e w' ⟨rfl, ⟨nd, rfl⟩⟩))
          all_goals
            obtain rfl : false = r := by
              rw [← HP.out, HD.out]; simp [stepOk, Q1.out]
            go_ret
            exact ⟨rfl, by repeat (first | exact HB.out | apply below_alloc | apply pw_below_drewN | apply below_drew1)⟩
        have W2 := A_ fun W => win x.f0 0 11 true W (decide_eq_true q2)
        by_cases q3 : 0 ≤ x.f1 ∧ x.f1 ≤ 11
        rotate_left
        · have W3 := A_ fun W => win x.f1 0 11 false W (decide_eq_false q3)
          have Q1 := A_ q3
          clear q1 q2 q3 win tc
          go_wp2_with (first | (go_at_call 79; (with_reducible refine (W1.out _).mono ?_); rintro e w' ⟨rfl, ⟨nd, rfl⟩⟩) | (go_at_call 79; (with_reducible refine (W2.out _).mono ?_); rintro e w' ⟨rfl, ⟨nd, rfl⟩⟩) | (go_at_call 79; (with_reducible refine (W3.out _).mono ?_); rintro e w' ⟨rfl, ⟨nd, rfl⟩⟩))
          all_goals
            obtain rfl : false = r := by
              rw [← HP.out, HD.out]; simp [stepOk, Q1.out]
            go_ret
            exact ⟨rfl, by repeat (first | exact HB.out | apply below_alloc | apply pw_below_drewN | apply below_drew1)⟩
        have W3 := A_ fun W => win x.f1 0 11 true W (decide_eq_true q3)
        clear win
        obtain ⟨q2a, q2b⟩ := q2
        obtain ⟨q3a, q3b⟩ := q3
        have Q13 := A_ q1
        clear q1
        have hc0 := tc x.f0.toNat (by omega)
        have hc1 := tc x.f1.toNat (by omega)
        have hfz := fun o : Obj => blk_frozen (blk_alloc HA.out o) x.f1.toNat
        clear tc
        by_cases q4 : x.f1 = (x.f0 + 1) % 12
        rotate_left
        · have q4a : (x.f1 == (x.f0 + 1) % 12) = false := beq_eq_false_iff_ne.mpr q4
          have q4b : (x.f1 != (x.f0 + 1) % 12) = true := bne_iff_ne.mpr q4
          have Q4 := A_ q4
          clear q4 hc0 hc1 hfz
          go_wp2_with (first | (go_at_call 79; (with_reducible refine (W1.out _).mono ?_); rintro e w' ⟨rfl, ⟨nd, rfl⟩⟩) | (go_at_call 79; (with_reducible refine (W2.out _).mono ?_); rintro e w' ⟨rfl, ⟨nd, rfl⟩⟩) | (go_at_call 79; (with_reducible refine (W3.out _).mono ?_); rintro e w' ⟨rfl, ⟨nd, rfl⟩⟩))
          all_goals
            obtain rfl : false = r := by
              rw [← HP.out, HD.out]; simp [stepOk, Q4.out]
            go_ret
            exact ⟨rfl, by repeat (first | exact HB.out | apply below_alloc | apply pw_below_drewN | apply below_drew1)⟩
        have q4a : (x.f1 == (x.f0 + 1) % 12) = true := beq_iff_eq.mpr q4
        have q4b : (x.f1 != (x.f0 + 1) % 12) = false := bne_eq_false_iff_eq.mpr q4
        have Q4 := A_ q4
        clear q4
        obtain ⟨b0, hb0⟩ : ∃ b, tn.getD x.f0.toNat false = b := ⟨_, rfl⟩
        obtain ⟨b1, hb1⟩ : ∃ b, tn.getD x.f1.toNat false = b := ⟨_, rfl⟩
        rw [hb0] at hc0
        rw [hb1] at hc1
        have B0 := A_ hb0
        have B1 := A_ hb1
        clear hb0 hb1
        go_wp2_with (first | (go_at_call 79; (with_reducible refine (W1.out _).mono ?_); rintro e w' ⟨rfl, ⟨nd, rfl⟩⟩) | (go_at_call 79; (with_reducible refine (W2.out _).mono ?_); rintro e w' ⟨rfl, ⟨nd, rfl⟩⟩) | (go_at_call 79; (with_reducible refine (W3.out _).mono ?_); rintro e w' ⟨rfl, ⟨nd, rfl⟩⟩))
        all_goals first
          | (go_ret
             have e : false = r := by
               have h3 := B0.out; have h4 := B1.out
               rw [← HP.out, HD.out]; unfold stepOk; rw [h3, h4]; simp [*]
             subst e
             exact ⟨rfl, by repeat (first | exact HB.out | apply below_alloc | apply pw_below_drewN | apply below_drew1)⟩)
          | (go_roundg (gk - 1)
             case measure => have := HK.out; omega
             case rel =>
               refine ⟨i + 1, tn.set x.f1.toNat true, by go_num, ⟨by have := HK.out; omega⟩, ⟨by omega⟩, ⟨by rw [List.length_set]; exact HT.out⟩, ⟨?_⟩, ⟨?_⟩, ⟨?_⟩⟩
               · refine blk_put (cs := (tn.map Value.bool).toArray) ?_ x.f1.toNat (.bool true) ?_
                 · repeat (first | exact HA.out | refine blk_drewN ?_ _ | refine blk_drew ?_ | refine blk_alloc ?_ _)
                 · simp [List.map_set]
               · rw [← HP.out, HD.out]
                 have e : stepOk x tn = true := by
                   have h1 := Q4.out; have h2 := Q13.out; have h3 := B0.out; have h4 := B1.out
                   unfold stepOk; rw [h3, h4]; simp [*]; omega
                 rw [e, Bool.true_and]
               · refine below_set ?_ (Nat.le_refl _)
                 repeat (first | exact HB.out | apply below_alloc | apply pw_below_drewN | apply below_drew1))
def impl_WorkOk.f (l0_0 : List (S112)) (a0_1 : Int) (l0_2 : List Int) : Option (Bool) := some (workOk l0_0 a0_1 l0_2)
theorem impl_WorkOk.calls (A0_0 : Option Addr) (c0_0 : Nat) (l0_0 : List (S112)) (a0_1 : Int) (A0_2 : Option Addr) (c0_2 : Nat) (l0_2 : List Int) (r : Bool) (w : World) (hr0_0 : Kd.C k112 w A0_0 l0_0.length l0_0) (hc0_0 : l0_0.length ≤ c0_0) (hr0_2 : Kd.C (Kd.int .i64) w A0_2 l0_2.length l0_2) (hc0_2 : l0_2.length ≤ c0_2) (h : impl_WorkOk.f l0_0 a0_1 l0_2 = some r) :
  Calls Tryz.prog 76 #[.agg #[.slice A0_0 l0_0.length c0_0, .int .i64 a0_1, .slice A0_2 l0_2.length c0_2]] w fun e w' => e = .returned (.bool r) ∧ Below w.heap.size w w' := by
 have HH := A_ (Option.some.inj h)
 clear h
 have win : ∀ (a b c : Int) (d : Bool) (W : World), decide (b ≤ a ∧ a ≤ c) = d → Calls Tryz.prog 79 #[.int .i64 a, .int .i64 b, .int .i64 c] W fun e w' => e = .returned (.bool d) ∧ Drawn0 W w' := fun a b c d W hd =>
  impl_within.calls a b c d W (by rw [← hd]; unfold impl_within.f; by_cases hh : b ≤ a <;> simp [hh])
 have hpl : ∀ (b : Bool) (o : Obj), planOk l0_0 = b → Calls Tryz.prog 89 #[.slice A0_0 l0_0.length c0_0] (w.alloc o) fun e w' => e = .returned (.bool b) ∧ Below (w.alloc o).heap.size (w.alloc o) w' := fun b o hb =>
  impl_PlanOk.calls A0_0 c0_0 l0_0 b (w.alloc o) (Kd.C_alloc hr0_0 o) hc0_0 (by unfold impl_PlanOk.f; rw [hb])
 have hbx : ∀ (w1 : World) (o : Obj), Below (w.alloc o).heap.size (w.alloc o) w1 → w1.heap[w.heap.size]? = some o ∧ Below w.heap.size w w1 ∧ w.heap.size + 1 ≤ w1.heap.size := fun w1 o hb =>
  ⟨blk_below (blk_new w o) hb, below_step (below_alloc (Below.refl _ _) o) hb, by have := hb.size; simpa using this⟩
 by_cases p1 : planOk l0_0 = true
 rotate_left
 ·have P1 := A_ fun o => hpl false o (Bool.eq_false_iff.2 p1)
  obtain rfl : false = r := by rw [← HH.out]; simp [workOk, p1]
  clear hpl win p1
  go_enter Tryz.func76, Tryz.ntmps76
  go_wp2_with (first | (go_at_call 89; (with_reducible refine (P1.out _).mono ?_); rintro e w1 ⟨rfl, hb⟩; obtain ⟨hB1, hB2, hB3⟩ := hbx w1 _ hb; have HB := A_ hB2; clear hb hB1 hB2 hB3))
  go_ret
  exact ⟨rfl, by repeat (first | exact HB.out | apply below_alloc | apply pw_below_drewN | apply below_drew1)⟩
 have P1 := A_ fun o => hpl true o p1
 by_cases p2 : 0 ≤ a0_1 ∧ a0_1 ≤ (l0_0.length : Int)
 rotate_left
 ·have W1 := A_ fun W => win a0_1 0 l0_0.length false W (decide_eq_false p2)
  obtain rfl : false = r := by rw [← HH.out]; simp [workOk, p2]
  clear hpl win p1 p2
  go_enter Tryz.func76, Tryz.ntmps76
  go_wp2_with (first | (go_at_call 89; (with_reducible refine (P1.out _).mono ?_); rintro e w1 ⟨rfl, hb⟩; obtain ⟨hB1, hB2, hB3⟩ := hbx w1 _ hb; have HB := A_ hB2; have hcz0 := blk_cell hB1 0; have hcz1 := blk_cell hB1 1; have hcz2 := blk_cell hB1 2; clear hb hB1 hB2 hB3) | (go_at_call 79; (with_reducible refine (W1.out _).mono ?_); rintro e w' ⟨rfl, ⟨nd, rfl⟩⟩))
  go_ret
  exact ⟨rfl, by repeat (first | exact HB.out | apply below_alloc | apply pw_below_drewN | apply below_drew1)⟩
 have W1 := A_ fun W => win a0_1 0 l0_0.length true W (decide_eq_true p2)
 by_cases p3 : l0_2.length = 12
 rotate_left
 ·have p3a : ((l0_2.length : Int) != 12) = true := bne_iff_ne.mpr (by omega)
  have p3b : ((l0_2.length : Int) == 12) = false := beq_eq_false_iff_ne.mpr (by omega)
  obtain rfl : false = r := by rw [← HH.out]; simp [workOk, p3]
  have P3 := A_ p3
  clear hpl win p1 p2 p3
  go_enter Tryz.func76, Tryz.ntmps76
  go_wp2_with (first | (go_at_call 89; (with_reducible refine (P1.out _).mono ?_); rintro e w1 ⟨rfl, hb⟩; obtain ⟨hB1, hB2, hB3⟩ := hbx w1 _ hb; have HB := A_ hB2; have HX := A_ hB1; have HS := A_ hB3; have hcz0 := blk_cell hB1 0; have hcz1 := blk_cell hB1 1; clear hb hB1 hB2 hB3) | (go_at_call 79; (with_reducible refine (W1.out _).mono ?_); rintro e w2 ⟨rfl, hdr⟩; have n1 := A_ (below_step HB.out hdr.below); have hB1 := blk_below HX.out hdr.below; have n3 := A_ (Nat.le_trans HS.out hdr.below.size); clear HB HX HS hcz0 hcz1 hdr; have HB := n1; have HX := A_ hB1; have HS := n3; clear n1 n3; have hcz0 := blk_cell hB1 0; have hcz1 := blk_cell hB1 1; have hcz2 := blk_cell hB1 2; have hca0 := fun o : Obj => blk_cell (blk_alloc hB1 o) 0; have hca1 := fun o : Obj => blk_cell (blk_alloc hB1 o) 1; have hca2 := fun o : Obj => blk_cell (blk_alloc hB1 o) 2; clear hB1))
  go_ret
  exact ⟨rfl, by repeat (first | exact HB.out | apply below_alloc | apply pw_below_drewN | apply below_drew1)⟩
 have p3a : ((l0_2.length : Int) != 12) = false := bne_eq_false_iff_eq.mpr (by omega)
 have p3b : ((l0_2.length : Int) == 12) = true := beq_iff_eq.mpr (by omega)
 obtain ⟨d, rfl⟩ : ∃ d : Nat, a0_1 = (d : Int) := ⟨a0_1.toNat, by omega⟩
 have hd1 : d ≤ l0_0.length := by omega
 have hd2 : d ≤ c0_0 := by omega
 have hm : l0_0.length ≤ 9223372036854775807 := Kd.C_max hr0_0
 have HK := A_ (planGo_keys l0_0 tuned0 (by have := p1; simp [planOk] at this; exact this.2))
 have HQ : Aside0 (keyGo (tunedBy (l0_0.take d) tuned0) l0_2 = r) := ⟨by rw [← HH.out]; simp [workOk, p1, p3, hd1]⟩
 have P3 := A_ p3
 have HR0 := A_ hr0_0
 have HR2 := A_ hr0_2
 clear hpl p1 p2 p3 HH hr0_0 hr0_2
 go_enter Tryz.func76, Tryz.ntmps76
 go_wp2_with (first | (go_at_call 89; (with_reducible refine (P1.out _).mono ?_); rintro e w1 ⟨rfl, hb⟩; obtain ⟨hB1, hB2, hB3⟩ := hbx w1 _ hb; have HB := A_ hB2; have HX := A_ hB1; have HS := A_ hB3; have hcz0 := blk_cell hB1 0; have hcz1 := blk_cell hB1 1; clear hb hB1 hB2 hB3) | (go_at_call 79; (with_reducible refine (W1.out _).mono ?_); rintro e w2 ⟨rfl, hdr⟩; have n1 := A_ (below_step HB.out hdr.below); have hB1 := blk_below HX.out hdr.below; have n3 := A_ (Nat.le_trans HS.out hdr.below.size); clear HB HX HS hcz0 hcz1 hdr; have HB := n1; have HX := A_ hB1; have HS := n3; clear n1 n3; have hcz0 := blk_cell hB1 0; have hcz1 := blk_cell hB1 1; have hcz2 := blk_cell hB1 2; have hca0 := fun o : Obj => blk_cell (blk_alloc hB1 o) 0; have hca1 := fun o : Obj => blk_cell (blk_alloc hB1 o) 1; have hca2 := fun o : Obj => blk_cell (blk_alloc hB1 o) 2; clear hB1))
 have BX := A_ (rfl : #[Value.slice A0_0 l0_0.length c0_0, .int .i64 (d : Int), .slice A0_2 l0_2.length c0_2] = #[Value.slice A0_0 l0_0.length c0_0, .int .i64 (d : Int), .slice A0_2 l0_2.length c0_2])
 go_loopg [34] (d + 1) (fun kq v34 w' => ∃ (i : Nat), v34 = .int .i64 (i : Int) ∧ Aside0 (i + kq = d + 1) ∧ Aside0 (i ≤ d) ∧ Aside0 (w'.heap[w2.heap.size]? = some (.cells ((tunedBy (l0_0.take i) tuned0).map Value.bool).toArray 136 (0, 0))) ∧ Aside0 (w'.heap[w.heap.size]? = some (.cells #[.slice A0_0 l0_0.length c0_0, .int .i64 (d : Int), .slice A0_2 l0_2.length c0_2] 34 (0, 0))) ∧ Aside0 (Below w.heap.size w w'))
 case atStart =>
  exact ⟨0, rfl, ⟨by omega⟩, ⟨by omega⟩, ⟨by rw [heap_alloc_new]; rfl⟩, ⟨blk_alloc HX.out _⟩, ⟨below_alloc HB.out _⟩⟩
 case round =>
  clear hcz0 hcz1 hcz2 hca0 hca1 hca2 HB HX
  obtain ⟨i, rfl, HI1, HI2, HA, HX, HB⟩ := hrel
  have hTl : (tunedBy (l0_0.take i) tuned0).length = 12 := tunedBy_len _ _
  by_cases hlt : i < d
  ·have hb3 : decide ((i : Int) < (d : Int)) = true := decide_eq_true (by omega)
   have hb4 : decide (i < d) = true := decide_eq_true (by omega)
   obtain ⟨ad, e, hx0, hx1, hx2, hx3⟩ := at_T112 HR0.out (i : Int) (by omega) (by omega)
   cases e
   replace hx0 := hW HB hx0
   replace hx1 := hW HB hx1
   replace hx2 := hW HB hx2
   replace hx3 := hW HB hx3
   obtain ⟨x, hx⟩ : ∃ x, rd_T112 l0_0 (i : Int) = x := ⟨_, rfl⟩
   rw [hx] at hx0 hx1 hx2 hx3
   simp only [Int.toNat_natCast] at hx0 hx1 hx2 hx3
   have hil : i < l0_0.length := by omega
   have e0 : l0_0[i] = x := by rw [← hx]; simp [rd_T112, List.getD_eq_getElem?_getD, hil]
   obtain ⟨q1, q2⟩ := HK.out x (by rw [← e0]; exact List.getElem_mem hil)
   have HT : Aside0 (tunedBy (l0_0.take (i + 1)) tuned0 = (tunedBy (l0_0.take i) tuned0).set x.f1.toNat true) := ⟨by rw [List.take_succ_eq_append_getElem hil, e0, tunedBy_snoc]⟩
   obtain ⟨tn, htn⟩ : ∃ tn, tunedBy (l0_0.take i) tuned0 = tn := ⟨_, rfl⟩
   have HA' := A_ (show wr.heap[w2.heap.size]? = some (.cells (tn.map Value.bool).toArray 136 (0, 0)) by rw [← htn]; exact HA.out)
   rw [htn] at hTl HT
   have hc1 : ∀ o : Obj, (wr.alloc o).cell? ⟨w2.heap.size, x.f1.toNat, none⟩ = some (.bool (tn.getD x.f1.toNat false)) := fun o => (blk_cell (blk_alloc HA'.out o) _).trans (by simp [List.getD_eq_getElem?_getD, show x.f1.toNat < tn.length by omega])
   have hfz := fun o : Obj => blk_frozen (blk_alloc HA'.out o) x.f1.toNat
   clear hx e0 htn HA hTl
   go_wp2
   go_roundg (d - i)
   case measure => have := HI1.out; omega
   case rel =>
    refine ⟨i + 1, by go_num, ⟨by omega⟩, ⟨by omega⟩, ⟨?_⟩, ⟨?_⟩, ⟨?_⟩⟩
    ·rw [HT.out]
     refine blk_put (cs := (tn.map Value.bool).toArray) (blk_alloc HA'.out _) x.f1.toNat (.bool true) ?_
     simp [List.map_set]
    ·refine blk_far ?_ (by have := HS.out; show w.heap.size ≠ w2.heap.size; omega) _
     exact blk_alloc HX.out _
    ·refine below_set (below_alloc HB.out _) (by have := HS.out; omega)
  ·have hb3 : decide ((i : Int) < (d : Int)) = false := decide_eq_false (by omega)
   have hb4 : decide (i < d) = false := decide_eq_false (by omega)
   obtain rfl : i = d := by have := HI2.out; omega
   obtain ⟨tn, htn⟩ : ∃ tn, tunedBy (l0_0.take i) tuned0 = tn := ⟨_, rfl⟩
   have HA' := A_ (show wr.heap[w2.heap.size]? = some (.cells (tn.map Value.bool).toArray 136 (0, 0)) by rw [← htn]; exact HA.out)
   have HT := A_ (show tn.length = 12 by rw [← htn]; exact hTl)
   have HQ' := A_ (show keyGo tn l0_2 = r by rw [← htn]; exact HQ.out)
   have hcz0 := blk_cell HX.out 0
   have hcz1 := blk_cell HX.out 1
   have hcz2 := blk_cell HX.out 2
   clear HA HQ htn hTl
   go_wp2
   have H12 := P3.out
   go_loopg [45] 13 (fun kq v45 w' => ∃ (j : Nat), v45 = .int .i64 (j : Int) ∧ Aside0 (j + kq = 13) ∧ Aside0 (j ≤ 12) ∧ Aside0 (keyGo (tn.drop j) (l0_2.drop j) = r) ∧ Aside0 (w'.heap[w2.heap.size]? = some (.cells (tn.map Value.bool).toArray 136 (0, 0))) ∧ Aside0 (Below w.heap.size w w'))
   case atStart => exact ⟨0, rfl, ⟨by omega⟩, ⟨by omega⟩, ⟨HQ'.out⟩, ⟨HA'.out⟩, ⟨HB.out⟩⟩
   case round =>
    clear hcz0 hcz1 hcz2 HB HX HA' HQ'
    obtain ⟨j, rfl, HJ1, HJ2, HQ, HA, HB⟩ := hrel
    by_cases hlt2 : j < 12
    rotate_left
    ·have hb5 : decide ((j : Int) < (l0_2.length : Int)) = false := decide_eq_false (by omega)
     have hb6 : decide (j < l0_2.length) = false := decide_eq_false (by omega)
     obtain rfl : true = r := by
      have h1 := HQ.out
      rw [List.drop_eq_nil_of_le (by have := HT.out; omega)] at h1
      simpa [keyGo] using h1
     clear H12
     go_wp2
     go_ret
     exact ⟨rfl, HB.out⟩
    ·have hb5 : decide ((j : Int) < (l0_2.length : Int)) = true := decide_eq_true (by omega)
     have hb6 : decide (j < l0_2.length) = true := decide_eq_true (by omega)
     have hj : j < l0_2.length := by omega
     obtain ⟨ad, e, hy⟩ := Kd.at_int HR2.out (j : Int) (by omega) (by omega)
     cases e
     replace hy := hW HB hy
     obtain ⟨y, hyy⟩ : ∃ y, rd l0_2 (j : Int) = y := ⟨_, rfl⟩
     obtain ⟨b, hbb⟩ : ∃ b, tn.getD j false = b := ⟨_, rfl⟩
     rw [hyy] at hy
     simp only [Int.toNat_natCast] at hy
     have hT12 := HT.out
     have hct : wr.cell? ⟨w2.heap.size, j, none⟩ = some (.bool b) := (blk_cell HA.out j).trans (by rw [← hbb]; simp [List.getD_eq_getElem?_getD, show j < tn.length by omega])
     have HD : Aside0 (keyGo (tn.drop j) (l0_2.drop j) = ((if b then decide (1 ≤ y ∧ y ≤ 10000000) else decide (y = 0)) && keyGo (tn.drop (j + 1)) (l0_2.drop (j + 1)))) := ⟨by
      rw [List.drop_eq_getElem_cons (show j < tn.length by omega), List.drop_eq_getElem_cons (show j < l0_2.length by omega)]
      have e1 : tn[j] = b := by rw [← hbb]; simp [List.getD_eq_getElem?_getD, show j < tn.length by omega]
      have e2 : l0_2[j] = y := by rw [← hyy]; simp [rd, List.getD_eq_getElem?_getD, show j < l0_2.length by omega]
      rw [e1, e2]; rfl⟩
     have fine : ∀ (d : Bool) (W : World), decide (1 ≤ y ∧ y ≤ 10000000) = d → Calls Tryz.prog 90 #[.int .i64 y] W fun e w' => e = .returned (.bool d) ∧ Drawn0 W w' := fun d W hd =>
      impl_isFine.calls y d W (by rw [← hd]; unfold impl_isFine.f impl_within.f; by_cases hh : 1 ≤ y <;> simp [hh])
     clear hyy hbb hT12 H12
     cases b with
     | true =>
      by_cases q : 1 ≤ y ∧ y ≤ 10000000
      ·have F1 := A_ fun W => fine true W (decide_eq_true q)
       have Q := A_ q
       clear q fine
       go_wp2_with (first | (go_at_call 90; (with_reducible refine (F1.out _).mono ?_); rintro e w' ⟨rfl, ⟨nd, rfl⟩⟩))
       go_roundg (12 - j)
       case measure => have := HJ1.out; omega
       case rel =>
        refine ⟨j + 1, by go_num, ⟨by omega⟩, ⟨by omega⟩, ⟨?_⟩, ⟨?_⟩, ⟨?_⟩⟩
        ·rw [← HQ.out, HD.out]; simp [Q.out]
        ·repeat (first | exact HA.out | refine blk_drewN ?_ _ | refine blk_drew ?_)
        ·repeat (first | exact HB.out | apply below_alloc | apply pw_below_drewN | apply below_drew1)
      ·have F1 := A_ fun W => fine false W (decide_eq_false q)
       have Q := A_ q
       clear q fine
       obtain rfl : false = r := by rw [← HQ.out, HD.out]; simp [Q.out]
       go_wp2_with (first | (go_at_call 90; (with_reducible refine (F1.out _).mono ?_); rintro e w' ⟨rfl, ⟨nd, rfl⟩⟩))
       go_ret
       exact ⟨rfl, by repeat (first | exact HB.out | apply below_alloc | apply pw_below_drewN | apply below_drew1)⟩
     | false =>
      by_cases q : y = 0
      ·have q1 : (y != 0) = false := bne_eq_false_iff_eq.mpr q
       have q2 : (y == 0) = true := beq_iff_eq.mpr q
       have Q := A_ q
       clear q fine
       go_wp2
       go_roundg (12 - j)
       case measure => have := HJ1.out; omega
       case rel =>
        refine ⟨j + 1, by go_num, ⟨by omega⟩, ⟨by omega⟩, ⟨?_⟩, ⟨?_⟩, ⟨?_⟩⟩
        ·rw [← HQ.out, HD.out]; simp [Q.out]
        ·repeat (first | exact HA.out | refine blk_drewN ?_ _ | refine blk_drew ?_)
        ·repeat (first | exact HB.out | apply below_alloc | apply pw_below_drewN | apply below_drew1)
      ·have q1 : (y != 0) = true := bne_iff_ne.mpr q
       have q2 : (y == 0) = false := beq_eq_false_iff_ne.mpr q
       have Q := A_ q
       clear q fine
       obtain rfl : false = r := by rw [← HQ.out, HD.out]; simp [Q.out]
       go_wp2
       go_ret
       exact ⟨rfl, by repeat (first | exact HB.out | apply below_alloc | apply pw_below_drewN | apply below_drew1)⟩
def impl_WrongSteps.l0 : Nat → List Int → List (S112) → Int → Int → List (S112) → Int → List Int → Option (List Int)
 | 0, _, _, _, _, _, _, _ => none
 | k + 1, x3, x14, x15, x16, x607000, x607001, x607002 => if x16 < x15 then (if 0 ≤ x16 then (if x16 < (x14.length : Int) then (if 0 ≤ ((rd_T112 x14 x16).f1) then (if ((rd_T112 x14 x16).f1) < (x607002.length : Int) then ((impl_tunedBy.f k x607000 x607001 x607002 x16).bind fun t618 => (if (rd x607002 ((rd_T112 x14 x16).f1)) = t618 then (impl_WrongSteps.l0 k x3 x14 x15 (wrap64 (x16 + 1)) x607000 x607001 x607002) else (if x3.length < 17592186044416 then (impl_WrongSteps.l0 k (x3 ++ [x16]) x14 x15 (wrap64 (x16 + 1)) x607000 x607001 x607002) else (none)))) else (none)) else (none)) else (none)) else (none)) else (some x3)
def impl_WrongSteps.f (k : Nat) (l0_0 : List (S112)) (a0_1 : Int) (l0_2 : List Int) : Option (List Int) := (impl_WorkOk.f l0_0 a0_1 l0_2).bind fun t607 => (if t607 = true then (if 0 ≤ a0_1 then (if a0_1 ≤ (l0_0.length : Int) then ((some (l0_0.take (a0_1 : Int).toNat : List (S112))).bind fun y611 => (impl_WrongSteps.l0 k (([] : List Int)) y611 (y611.length : Int) 0 l0_0 a0_1 l0_2)) else (none)) else (none)) else (some ([] : List Int)))
def impl_WrongSteps.T7 : Bool × List (List Nat × List Nat) := (true, [([], []), ([0], [0]), ([], []), ([2], [2]), ([1, 3], [1, 3]), ([4], [4]), ([], []), ([], []), ([6, 7], [6, 7]), ([5, 8], [5, 8])])
def impl_WrongSteps.B7 : List Nat := [0, 1, 0, 4, 15, 31, 0, 0, 192, 511]
theorem impl_WrongSteps.tab7 : rtab .any (opsOf Tryz.f82 7) = impl_WrongSteps.T7 := by kernel_rfl
theorem impl_WrongSteps.bits7 : waitsOk impl_WrongSteps.T7.2 impl_WrongSteps.B7 = true := by kernel_rfl
theorem impl_WrongSteps.calls (k : Nat) (A0_0 : Option Addr) (c0_0 : Nat) (l0_0 : List (S112)) (a0_1 : Int) (A0_2 : Option Addr) (c0_2 : Nat) (l0_2 : List Int) (r : List Int) (w : World) (hr0_0 : Kd.C k112 w A0_0 l0_0.length l0_0) (hc0_0 : l0_0.length ≤ c0_0) (hr0_2 : Kd.C (Kd.int .i64) w A0_2 l0_2.length l0_2) (hc0_2 : l0_2.length ≤ c0_2) (h : impl_WrongSteps.f k l0_0 a0_1 l0_2 = some r) :
  Calls Tryz.prog 82 #[.agg #[.slice A0_0 l0_0.length c0_0, .int .i64 a0_1, .slice A0_2 l0_2.length c0_2]] w fun e w' => ∃ v0_ : Value, e = .returned (v0_) ∧ Kd.R (Kd.int .i64) 3 w' w.heap.size (fun _ => True) v0_ r ∧ Below w.heap.size w w' := by
 have hu34 := Tryz.underlying34
 have hu112 := Tryz.underlying112
 have HR0_0 := A_ hr0_0
 have HC0_0 := A_ hc0_0
 clear hr0_0 hc0_0
 have HR0_2 := A_ hr0_2
 have HC0_2 := A_ hc0_2
 clear hr0_2 hc0_2
 have HB := A_ (Below.refl w.heap.size w)
 have H : ((impl_WorkOk.f l0_0 a0_1 l0_2).bind fun t607 => (if t607 = true then (if 0 ≤ a0_1 then (if a0_1 ≤ (l0_0.length : Int) then ((some (l0_0.take (a0_1 : Int).toNat : List (S112))).bind fun y611 => (impl_WrongSteps.l0 k (([] : List Int)) y611 (y611.length : Int) 0 l0_0 a0_1 l0_2)) else (none)) else (none)) else (some ([] : List Int)))) = some r := h
 clear h
 replace H := Option.bind_eq_some_iff.mp H
 obtain ⟨t607, A20, H⟩ := H
 (try dsimp only at H)
 have A2 := A_ A20
 clear A20
 by_cases c3 : t607 = true
 ·subst c3
  rw [if_pos rfl] at H
  obtain ⟨y608, hy608⟩ : ∃ y_ : List Int, y_ = (([] : List Int)) := ⟨_, rfl⟩
  replace H : (if 0 ≤ a0_1 then (if a0_1 ≤ (l0_0.length : Int) then ((some (l0_0.take (a0_1 : Int).toNat : List (S112))).bind fun y611 => (impl_WrongSteps.l0 k y608 y611 (y611.length : Int) 0 l0_0 a0_1 l0_2)) else (none)) else (none)) = some r := by first | (rw [hy608]; with_reducible exact H) | (have H2_ := (Option.bind_some _ _).symm.trans H; rw [hy608]; with_reducible exact H2_) | (have H2_ := (Option.bind_some _ _).symm.trans H; with_reducible exact H2_) | with_reducible exact H | (rw [hy608]; exact H) | exact H
  have Ny608 := A_ hy608
  clear hy608
  by_cases c4 : 0 ≤ a0_1
  ·rw [if_pos c4] at H
   have c4b0 := eq_true c4
   have c4b1 : decide (0 ≤ a0_1) = true := decide_eq_true c4
   clear c4
   by_cases c5 : a0_1 ≤ (l0_0.length : Int)
   ·rw [if_pos c5] at H
    have c5b0 := eq_true c5
    have c5b1 : decide (a0_1 ≤ (l0_0.length : Int)) = true := decide_eq_true c5
    clear c5
    obtain ⟨y611, hy611⟩ : ∃ y_ : List (S112), y_ = (l0_0.take (a0_1 : Int).toNat) := ⟨_, rfl⟩
    replace H : (impl_WrongSteps.l0 k y608 y611 (y611.length : Int) 0 l0_0 a0_1 l0_2) = some r := by first | (rw [hy611]; with_reducible exact H) | (have H2_ := (Option.bind_some _ _).symm.trans H; rw [hy611]; with_reducible exact H2_) | (have H2_ := (Option.bind_some _ _).symm.trans H; with_reducible exact H2_) | with_reducible exact H | (rw [hy611]; exact H) | exact H
    have Ny611 := A_ hy611
    clear hy611
    have H' := A_ H
    clear H
    go_enter Tryz.func82, Tryz.ntmps82
    go_wp2_with (first | ((with_reducible refine gate_dst (N := 1) rfl ?_); refine bX (N := 1) (cs := #[.slice A0_0 l0_0.length c0_0, .int .i64 a0_1, .slice A0_2 l0_2.length c0_2]) (t := 34) ?_; intro gb606 hg w6 hbox hb; have n0_ := A_ (below_step (oB HB) hb); have n1_ := A_ (hbox); have n2_ := A_ ((by rw [hg]; exact (below_size (oB HB)) : w.heap.size ≤ gb606)); have n3_ := A_ ((by rw [hg]; exact (below_size (oB HB)) : w.heap.size ≤ gb606)); clear HB; have HB := n0_; have BK606 := n1_; have GW606 := n2_; have GE606 := n3_; clear n0_ n1_ n2_ n3_; clear hb hbox hg; have hcz7_0 := cz BK606 0; have hcz7_1 := cz BK606 1; have hcz7_2 := cz BK606 2; have hfz7_0 := blk_frozen BK606.out 0; have hfz7_1 := blk_frozen BK606.out 1; have hfz7_2 := blk_frozen BK606.out 2) | ((with_reducible refine gate_callee (f := 76) rfl ?_); refine gL (some 7) Tryz.func76 #[.agg #[.slice A0_0 l0_0.length c0_0, .int .i64 a0_1, .slice A0_2 l0_2.length c0_2]] ?_; (with_reducible refine (impl_WorkOk.calls _ _ l0_0 a0_1 _ _ l0_2 true _ ?side1 ?side2 ?side3 ?side4 A2.out).mono ?_); (case side1 => exact oc_ HR0_0.out); (case side2 => exact HC0_0.out); (case side3 => exact oc_ HR0_2.out); (case side4 => exact HC0_2.out); rintro e w8 ⟨rfl, hb⟩; refine ⟨_, rfl, ?_⟩; have n0_ := A_ (bb BK606 hb); have n1_ := A_ (below_step (oB HB) hb); clear BK606; clear HB; have BK606 := n0_; have HB := n1_; clear n0_ n1_; (try clear hb); (try clear hb2); (try clear hk); (try clear hi)) | ((with_reducible refine gate_dst (N := 9) rfl ?_); refine Kd.R_lit (Kd.int .i64) _ 3 ?hg (N := 9) ?hd (xs := ([] : List Int)) (inner := []) (ok := fun _ => True) (okp := fun _ => True) ?hr ?hp (fun _ hk => hk) trivial (Below.refl _ _) (Nat.le_refl _) (by simp) ?_; (case hd => rfl); (case hg => rfl); (case hr => first | (go_simp; done) | (go_simp; rfl)); (case hp => exact (Reps.none _ _)); intro v609 w9 ho10 hb hg_ hnew_; clear hg_ hnew_; (first | rw [← Ny608.out] at ho10 | (simp only [Int.reduceToNat] at ho10; rw [← Ny608.out] at ho10)); have n0_ := A_ (Kd.R_lower ho10 (below_size (oB HB))); have n1_ := A_ (bb BK606 hb); have n2_ := A_ (below_step (oB HB) hb); clear BK606; clear HB; have HO610 := n0_; have BK606 := n1_; have HB := n2_; clear n0_ n1_ n2_; clear hb ho10; have hcz11_0 := cz BK606 0; have hcz11_1 := cz BK606 1; have hcz11_2 := cz BK606 2; have hfz11_0 := blk_frozen BK606.out 0; have hfz11_1 := blk_frozen BK606.out 1; have hfz11_2 := blk_frozen BK606.out 2; have q12 : (a0_1 : Int) ≤ ((l0_0.length : Int) : Int) := oD; obtain ⟨i012, hi012, _, hsz12, _⟩ := info_parts info112; have hroom12 : l0_0.length ≤ c0_0 := HC0_0.out; have hC12 : Kd.C k112 _ A0_0 l0_0.length l0_0 := HR0_0.out; have hcut12 := cut_to (P := Tryz.prog) 32 112 .i64 Tryz.underlying32 hi012 A0_0 l0_0.length c0_0 a0_1 (oD) q12 hroom12; have hr12 := Kd.C_take (m := (a0_1 : Int).toNat) hC12 (by omega); have hy12 : y611.length = (a0_1 : Int).toNat := (by rw [Ny611.out, List.length_take]; omega); rw [← Ny611.out] at hr12; rw [← hy12] at hcut12; have HR614 := A_ hr12; have HC614 := A_ (show y611.length ≤ c0_0 from by omega); clear hr12 hC12 hroom12 hi012 hsz12; have KY12 := A_ hy12; clear hy12; replace q12 := eq_true q12))
    go_loopg [3, 16] k (fun kq v3 v16 w' => ∃ (x3_1 : List Int) (x16_1 : Int), v16 = .int .i64 x16_1 ∧ Aside0 (impl_WrongSteps.l0 kq x3_1 y611 (y611.length : Int) x16_1 l0_0 a0_1 l0_2 = some r) ∧ Aside0 (kq ≤ k) ∧ Aside0 (Kd.R (Kd.int .i64) 3 w' w.heap.size (fun _ => True) v3 x3_1) ∧ Aside0 (w'.heap[gb606]? = some (.cells #[(.slice A0_0 l0_0.length c0_0), .int .i64 a0_1, (.slice A0_2 l0_2.length c0_2)] 34 (0, 0))) ∧ Aside0 (Below w.heap.size w w'))
    case atStart => exact ⟨(y608), (0), eS, H', ⟨Nat.le_refl _⟩, ⟨oR HO610⟩, ⟨oK BK606⟩, ⟨oB HB⟩⟩
    case round =>
     clear H'
     try clear q1
     try clear p2
     try clear c3
     try clear c4
     try clear c4b0
     try clear c4b1
     try clear c5
     try clear c5b0
     try clear c5b1
     try clear c7
     try clear c8
     try clear q12
     try clear hcz11_0
     try clear hcz11_1
     try clear hcz11_2
     try clear hcz7_0
     try clear hcz7_1
     try clear hcz7_2
     try clear hfz11_0
     try clear hfz11_1
     try clear hfz11_2
     try clear hfz7_0
     try clear hfz7_1
     try clear hfz7_2
     try clear q12
     obtain ⟨x3_1, x16_1, rfl, HA, HK1, HO_3, BK606, HB⟩ := hrel
     cases gk with
     | zero => exact absurd HA.out (by simp [impl_WrongSteps.l0])
     | succ k1 =>
      have H := HA.out
      clear HA
      simp only [impl_WrongSteps.l0] at H
      by_cases c13 : x16_1 < (y611.length : Int)
      ·rw [if_pos c13] at H
       have c13b0 : decide (x16_1 < (y611.length : Int)) = true := decide_eq_true c13
       clear c13
       by_cases c14 : 0 ≤ x16_1
       ·rw [if_pos c14] at H
        have c14b0 : decide (0 ≤ x16_1) = true := decide_eq_true c14
        clear c14
        by_cases c15 : x16_1 < (y611.length : Int)
        ·rw [if_pos c15] at H
         have c15b0 : decide (x16_1 < (y611.length : Int)) = true := decide_eq_true c15
         clear c15
         by_cases c16 : 0 ≤ ((rd_T112 y611 x16_1).f1)
         ·rw [if_pos c16] at H
          have c16b0 : decide (0 ≤ ((rd_T112 y611 x16_1).f1)) = true := decide_eq_true c16
          clear c16
          by_cases c17 : ((rd_T112 y611 x16_1).f1) < (l0_2.length : Int)
          ·rw [if_pos c17] at H
           have c17b0 : decide (((rd_T112 y611 x16_1).f1) < (l0_2.length : Int)) = true := decide_eq_true c17
           clear c17
           replace H := Option.bind_eq_some_iff.mp H
           obtain ⟨t618, A180, H⟩ := H
           (try dsimp only at H)
           have A18 := A_ A180
           clear A180
           by_cases c19 : (rd l0_2 ((rd_T112 y611 x16_1).f1)) = t618
           ·rw [if_pos c19] at H
            have c19b0 : ((rd l0_2 ((rd_T112 y611 x16_1).f1)) == t618) = true := beq_iff_eq.mpr c19
            have c19b1 : ((rd l0_2 ((rd_T112 y611 x16_1).f1)) != t618) = false := bne_eq_false_iff_eq.mpr c19
            clear c19
            have H' := A_ H
            clear H
            have p615 : 0 ≤ (x16_1 : Int) := oD
            have q615 : x16_1 < (y611.length : Int) := oD
            obtain ⟨ad615, e615, hx615_0, hx615_1, hx615_2, hx615_3⟩ := at_T112 HR614.out x16_1 p615 q615
            cases e615
            replace hx615_0 := hW HB hx615_0
            replace hx615_1 := hW HB hx615_1
            replace hx615_2 := hW HB hx615_2
            replace hx615_3 := hW HB hx615_3
            replace p615 := eq_true p615
            replace q615 := eq_true q615
            try go_wp2_with (first | ((with_reducible refine gate_dst (N := 5) rfl ?_); refine bX (N := 5) (cs := #[.int .i64 0, .int .i64 0, .int .i64 0, .int .i64 0]) (t := 112) ?_; intro gb616 hg w20 hbox hb; have n0_ := A_ (Kd.R_below (oR HO_3) hb); have n1_ := A_ (bb BK606 hb); have n2_ := A_ (below_step (oB HB) hb); have n3_ := A_ (hbox); have n4_ := A_ ((by rw [hg]; exact (below_size (oB HB)) : w.heap.size ≤ gb616)); have n5_ := A_ ((by rw [hg]; exact (below_size (oB HB)) : w.heap.size ≤ gb616)); have n6_ := A_ (nL BK606 hg); have n7_ := A_ (nG BK606 hg); clear HO_3; clear BK606; clear HB; have HO_3 := n0_; have BK606 := n1_; have HB := n2_; have BK616 := n3_; have GW616 := n4_; have GE616 := n5_; have NB606_616 := n6_; have NB616_606 := n7_; clear n0_ n1_ n2_ n3_ n4_ n5_ n6_ n7_; clear hb hbox hg; have hnb21 := NB616_606.out; have hnc21 := NB606_616.out; have hcz22_0 := cz BK616 0; have hcz22_1 := cz BK616 1; have hcz22_2 := cz BK616 2; have hcz22_3 := cz BK616 3; have hfz22_0 := blk_frozen BK616.out 0; have hfz22_1 := blk_frozen BK616.out 1; have hfz22_2 := blk_frozen BK616.out 2; have hfz22_3 := blk_frozen BK616.out 3))
            have n0_ : Aside0 (Kd.R (Kd.int .i64) 3 ((((w20.setCell ⟨gb616, 0, none⟩ (.int .i64 ((rd_T112 y611 x16_1).f0))).setCell ⟨gb616, 1, none⟩ (.int .i64 ((rd_T112 y611 x16_1).f1))).setCell ⟨gb616, 2, none⟩ (.int .i64 ((rd_T112 y611 x16_1).f2))).setCell ⟨gb616, 3, none⟩ (.int .i64 ((rd_T112 y611 x16_1).f3))) w.heap.size (fun _ => True) u3 x3_1) := ⟨by (with_reducible repeat (first | apply Kd.R_alloc | apply Kd.R_drewN | apply Kd.R_drew)); exact Kd.R_mono (Kd.R_far (p := ⟨gb616, 3, none⟩) (Kd.R_far (p := ⟨gb616, 2, none⟩) (Kd.R_far (p := ⟨gb616, 1, none⟩) (Kd.R_far (p := ⟨gb616, 0, none⟩) (Kd.R_types HO_3.out BK616.out (by decide)) (fun _ hk => hk.2) (.int .i64 ((rd_T112 y611 x16_1).f0))) (fun _ hk => hk.2) (.int .i64 ((rd_T112 y611 x16_1).f1))) (fun _ hk => hk.2) (.int .i64 ((rd_T112 y611 x16_1).f2))) (fun _ hk => hk.2) (.int .i64 ((rd_T112 y611 x16_1).f3))) (fun _ hk => trivial)⟩
            have n1_ : Aside0 (((((w20.setCell ⟨gb616, 0, none⟩ (.int .i64 ((rd_T112 y611 x16_1).f0))).setCell ⟨gb616, 1, none⟩ (.int .i64 ((rd_T112 y611 x16_1).f1))).setCell ⟨gb616, 2, none⟩ (.int .i64 ((rd_T112 y611 x16_1).f2))).setCell ⟨gb616, 3, none⟩ (.int .i64 ((rd_T112 y611 x16_1).f3))).heap[gb606]? = some (.cells #[.slice (some ad615) l0_0.length c0_0, .int .i64 a0_1, .slice A0_2 l0_2.length c0_2] 34 (0, 0))) := ⟨by (with_reducible repeat (first | refine blk_drewN ?_ _ | refine blk_drew ?_ | refine blk_alloc ?_ _)); refine blk_far ?_ NB606_616.out _; (with_reducible repeat (first | refine blk_drewN ?_ _ | refine blk_drew ?_ | refine blk_alloc ?_ _)); refine blk_far ?_ NB606_616.out _; (with_reducible repeat (first | refine blk_drewN ?_ _ | refine blk_drew ?_ | refine blk_alloc ?_ _)); refine blk_far ?_ NB606_616.out _; (with_reducible repeat (first | refine blk_drewN ?_ _ | refine blk_drew ?_ | refine blk_alloc ?_ _)); refine blk_far ?_ NB606_616.out _; (with_reducible repeat (first | refine blk_drewN ?_ _ | refine blk_drew ?_ | refine blk_alloc ?_ _)); exact BK606.out⟩
            have n2_ : Aside0 (((((w20.setCell ⟨gb616, 0, none⟩ (.int .i64 ((rd_T112 y611 x16_1).f0))).setCell ⟨gb616, 1, none⟩ (.int .i64 ((rd_T112 y611 x16_1).f1))).setCell ⟨gb616, 2, none⟩ (.int .i64 ((rd_T112 y611 x16_1).f2))).setCell ⟨gb616, 3, none⟩ (.int .i64 ((rd_T112 y611 x16_1).f3))).heap[gb616]? = some (.cells #[.int .i64 ((rd_T112 y611 x16_1).f0), .int .i64 ((rd_T112 y611 x16_1).f1), .int .i64 ((rd_T112 y611 x16_1).f2), .int .i64 ((rd_T112 y611 x16_1).f3)] 112 (0, 0))) := ⟨by (with_reducible repeat (first | refine blk_drewN ?_ _ | refine blk_drew ?_ | refine blk_alloc ?_ _)); refine blk_put (cs := #[.int .i64 ((rd_T112 y611 x16_1).f0), .int .i64 ((rd_T112 y611 x16_1).f1), .int .i64 ((rd_T112 y611 x16_1).f2), .int .i64 0]) ?_ 3 _ rfl; (with_reducible repeat (first | refine blk_drewN ?_ _ | refine blk_drew ?_ | refine blk_alloc ?_ _)); refine blk_put (cs := #[.int .i64 ((rd_T112 y611 x16_1).f0), .int .i64 ((rd_T112 y611 x16_1).f1), .int .i64 0, .int .i64 0]) ?_ 2 _ rfl; (with_reducible repeat (first | refine blk_drewN ?_ _ | refine blk_drew ?_ | refine blk_alloc ?_ _)); refine blk_put (cs := #[.int .i64 ((rd_T112 y611 x16_1).f0), .int .i64 0, .int .i64 0, .int .i64 0]) ?_ 1 _ rfl; (with_reducible repeat (first | refine blk_drewN ?_ _ | refine blk_drew ?_ | refine blk_alloc ?_ _)); refine blk_put (cs := #[.int .i64 0, .int .i64 0, .int .i64 0, .int .i64 0]) ?_ 0 _ rfl; (with_reducible repeat (first | refine blk_drewN ?_ _ | refine blk_drew ?_ | refine blk_alloc ?_ _)); exact BK616.out⟩
            have n3_ : Aside0 (Below w.heap.size w ((((w20.setCell ⟨gb616, 0, none⟩ (.int .i64 ((rd_T112 y611 x16_1).f0))).setCell ⟨gb616, 1, none⟩ (.int .i64 ((rd_T112 y611 x16_1).f1))).setCell ⟨gb616, 2, none⟩ (.int .i64 ((rd_T112 y611 x16_1).f2))).setCell ⟨gb616, 3, none⟩ (.int .i64 ((rd_T112 y611 x16_1).f3)))) := ⟨oB HB⟩
            (try clear HO_3)
            (try clear BK606)
            (try clear BK616)
            (try clear HB)
            generalize ((((w20.setCell ⟨gb616, 0, none⟩ (.int .i64 ((rd_T112 y611 x16_1).f0))).setCell ⟨gb616, 1, none⟩ (.int .i64 ((rd_T112 y611 x16_1).f1))).setCell ⟨gb616, 2, none⟩ (.int .i64 ((rd_T112 y611 x16_1).f2))).setCell ⟨gb616, 3, none⟩ (.int .i64 ((rd_T112 y611 x16_1).f3))) = w23 at n0_ n1_ n2_ n3_ ⊢
            have HO_3 := n0_
            have BK606 := n1_
            have BK616 := n2_
            have HB := n3_
            clear n0_ n1_ n2_ n3_
            have n0_ := A_ (Kd.R_drew HO_3.out)
            have n1_ := A_ (blk_drew BK606.out)
            have n2_ := A_ (blk_drew BK616.out)
            have n3_ := A_ (below_drew1 HB.out)
            clear HO_3
            clear BK606
            clear BK616
            clear HB
            have HO_3 := n0_
            have BK606 := n1_
            have BK616 := n2_
            have HB := n3_
            clear n0_ n1_ n2_ n3_
            have p617 : 0 ≤ (((rd_T112 y611 x16_1).f1) : Int) := oD
            have q617 : ((rd_T112 y611 x16_1).f1) < (l0_2.length : Int) := oD
            obtain ⟨ad617, e617, hx617_0⟩ := Kd.at_int HR0_2.out ((rd_T112 y611 x16_1).f1) p617 q617
            have hw617_0 := hx617_0
            cases e617
            replace hx617_0 := hW HB hx617_0
            replace p617 := eq_true p617
            replace q617 := eq_true q617
            refine start_ (n := 10) (S := fun w' => w'.cell? ⟨gb606, 0, none⟩ = some (.slice (some ad615) l0_0.length c0_0) ∧ w'.cell? ⟨gb606, 1, none⟩ = some (.int .i64 a0_1) ∧ w'.cell? ⟨gb606, 2, none⟩ = some (.slice (some ad617) l0_2.length c0_2) ∧ w'.cell? ⟨gb616, 0, none⟩ = some (.int .i64 ((rd_T112 y611 x16_1).f0)) ∧ w'.cell? ⟨gb616, 1, none⟩ = some (.int .i64 ((rd_T112 y611 x16_1).f1)) ∧ w'.cell? ⟨gb616, 2, none⟩ = some (.int .i64 ((rd_T112 y611 x16_1).f2)) ∧ w'.cell? ⟨gb616, 3, none⟩ = some (.int .i64 ((rd_T112 y611 x16_1).f3)) ∧ w'.cell? (ad617.add (((rd_T112 y611 x16_1).f1)).toNat) = some (.int .i64 (rd l0_2 ((rd_T112 y611 x16_1).f1)))) (ds := []) #[false, false, false, false, false, false, false, false, false, false] (by kernel_rfl) rfl rfl ⟨cz BK606 0, cz BK606 1, cz BK606 2, cz BK616 0, cz BK616 1, cz BK616 2, cz BK616 3, (hW HB hw617_0)⟩ (fun hHeld => ?_); refine with_tabW impl_WrongSteps.tab7 impl_WrongSteps.bits7 (fun HT_ HW_ => ?_)
            generalize w23.drew = w24 at HO_3 BK606 BK616 HB hx617_0 hHeld ⊢
            refine pA 0 (some 21) HT_.out ?_
            refine pA 2 (some 23) HT_.out ?_
            refine pA 7 (some 28) HT_.out ?_
            refine pT 1 (some 22) HT_.out HW_.out hHeld ?_
            refine pT 3 (some 24) HT_.out HW_.out hHeld ?_
            refine pA 4 (some 25) HT_.out ?_
            refine pT 5 (some 26) HT_.out HW_.out hHeld ?_
            refine pT 6 (some 27) HT_.out HW_.out hHeld ?_
            refine one_ (i := 8) (N := some 29) #[true, true, true, true, true, true, true, true, true, false] rfl rfl (one_of HT_.out (by kernel_rfl)) (by decide) (fun K hK => ?_)
            refine goes_ Tryz.func121 (by kernel_rfl) rfl #[.agg #[.slice (some ad615) l0_0.length c0_0, .int .i64 a0_1, .slice (some ad617) l0_2.length c0_2], .int .i64 x16_1] (by rfl) rfl rfl (by (try simp only [List.map_toArray, List.map_cons, List.map_nil]); first | done | rfl | (simp only [List.length_drop, List.length_take]; rfl)) ?_
            with_reducible refine (impl_tunedBy.calls k1 _ _ l0_0 a0_1 _ _ l0_2 x16_1 t618 _ ?side1 ?side2 ?side3 ?side4 A18.out).mono ?_
            (case side1 => exact oc_ HR0_0.out)
            (case side2 => exact HC0_0.out)
            (case side3 => exact oc_ HR0_2.out)
            (case side4 => exact HC0_2.out)
            rintro e w25 ⟨rfl, hb⟩
            refine ⟨_, rfl, ?_⟩
            have n0_ := A_ (Kd.R_below (oR HO_3) hb)
            have n1_ := A_ (bb BK606 hb)
            have n2_ := A_ (bb BK616 hb)
            have n3_ := A_ (below_step (oB HB) hb)
            clear HO_3
            clear BK606
            clear BK616
            clear HB
            have HO_3 := n0_
            have BK606 := n1_
            have BK616 := n2_
            have HB := n3_
            clear n0_ n1_ n2_ n3_
            (try clear hb)
            (try clear hb2)
            (try clear hk)
            (try clear hi)
            refine hK.out _ _ ⟨cz BK606 0, cz BK606 1, cz BK606 2, cz BK616 0, cz BK616 1, cz BK616 2, cz BK616 3, (hW HB hw617_0)⟩ (fun hHeld => ?_)
            clear hK K
            refine norm_ (a' := ?_) ?_ ?_
            rotate_left
            ·show Act.put _ (some 29) _ = _
             simp only [Act.put, List.setIfInBounds_toArray, List.set_cons_zero, List.set_cons_succ, i64_w, i32_w]
             rfl
            refine pA 9 (some 30) HT_.out ?_
            refine done_ (done_of HT_.out (by kernel_rfl)) ?_
            try go_wp2
            go_roundg k1
            case measure => have := HK1.out; omega
            case rel => exact ⟨(x3_1), (wrap64 (x16_1 + 1)), eS, H', ⟨by have := HK1.out; omega⟩, ⟨oR HO_3⟩, ⟨oK BK606⟩, ⟨oB HB⟩⟩
           ·rw [if_neg c19] at H
            have c19b0 : ((rd l0_2 ((rd_T112 y611 x16_1).f1)) == t618) = false := beq_eq_false_iff_ne.mpr c19
            have c19b1 : ((rd l0_2 ((rd_T112 y611 x16_1).f1)) != t618) = true := bne_iff_ne.mpr c19
            by_cases c26 : x3_1.length < 17592186044416
            ·rw [if_pos c26] at H
             have LMc26 := A_ c26
             clear c26
             obtain ⟨y619, hy619⟩ : ∃ y_ : List Int, y_ = (x3_1 ++ [x16_1]) := ⟨_, rfl⟩
             replace H : (impl_WrongSteps.l0 k1 y619 y611 (y611.length : Int) (wrap64 (x16_1 + 1)) l0_0 a0_1 l0_2) = some r := by first | (rw [hy619]; with_reducible exact H) | (have H2_ := (Option.bind_some _ _).symm.trans H; rw [hy619]; with_reducible exact H2_) | (have H2_ := (Option.bind_some _ _).symm.trans H; with_reducible exact H2_) | with_reducible exact H | (rw [hy619]; exact H) | exact H
             have Ny619 := A_ hy619
             clear hy619
             have H' := A_ H
             clear H
             have p615 : 0 ≤ (x16_1 : Int) := oD
             have q615 : x16_1 < (y611.length : Int) := oD
             obtain ⟨ad615, e615, hx615_0, hx615_1, hx615_2, hx615_3⟩ := at_T112 HR614.out x16_1 p615 q615
             cases e615
             replace hx615_0 := hW HB hx615_0
             replace hx615_1 := hW HB hx615_1
             replace hx615_2 := hW HB hx615_2
             replace hx615_3 := hW HB hx615_3
             replace p615 := eq_true p615
             replace q615 := eq_true q615
             try go_wp2_with (first | ((with_reducible refine gate_dst (N := 5) rfl ?_); refine bX (N := 5) (cs := #[.int .i64 0, .int .i64 0, .int .i64 0, .int .i64 0]) (t := 112) ?_; intro gb616 hg w27 hbox hb; have n0_ := A_ (Kd.R_below (oR HO_3) hb); have n1_ := A_ (bb BK606 hb); have n2_ := A_ (below_step (oB HB) hb); have n3_ := A_ (hbox); have n4_ := A_ ((by rw [hg]; exact (below_size (oB HB)) : w.heap.size ≤ gb616)); have n5_ := A_ ((by rw [hg]; exact (below_size (oB HB)) : w.heap.size ≤ gb616)); have n6_ := A_ (nL BK606 hg); have n7_ := A_ (nG BK606 hg); clear HO_3; clear BK606; clear HB; have HO_3 := n0_; have BK606 := n1_; have HB := n2_; have BK616 := n3_; have GW616 := n4_; have GE616 := n5_; have NB606_616 := n6_; have NB616_606 := n7_; clear n0_ n1_ n2_ n3_ n4_ n5_ n6_ n7_; clear hb hbox hg; have hnb28 := NB616_606.out; have hnc28 := NB606_616.out; have hcz29_0 := cz BK616 0; have hcz29_1 := cz BK616 1; have hcz29_2 := cz BK616 2; have hcz29_3 := cz BK616 3; have hfz29_0 := blk_frozen BK616.out 0; have hfz29_1 := blk_frozen BK616.out 1; have hfz29_2 := blk_frozen BK616.out 2; have hfz29_3 := blk_frozen BK616.out 3))
             have n0_ : Aside0 (Kd.R (Kd.int .i64) 3 ((((w27.setCell ⟨gb616, 0, none⟩ (.int .i64 ((rd_T112 y611 x16_1).f0))).setCell ⟨gb616, 1, none⟩ (.int .i64 ((rd_T112 y611 x16_1).f1))).setCell ⟨gb616, 2, none⟩ (.int .i64 ((rd_T112 y611 x16_1).f2))).setCell ⟨gb616, 3, none⟩ (.int .i64 ((rd_T112 y611 x16_1).f3))) w.heap.size (fun _ => True) u3 x3_1) := ⟨by (with_reducible repeat (first | apply Kd.R_alloc | apply Kd.R_drewN | apply Kd.R_drew)); exact Kd.R_mono (Kd.R_far (p := ⟨gb616, 3, none⟩) (Kd.R_far (p := ⟨gb616, 2, none⟩) (Kd.R_far (p := ⟨gb616, 1, none⟩) (Kd.R_far (p := ⟨gb616, 0, none⟩) (Kd.R_types HO_3.out BK616.out (by decide)) (fun _ hk => hk.2) (.int .i64 ((rd_T112 y611 x16_1).f0))) (fun _ hk => hk.2) (.int .i64 ((rd_T112 y611 x16_1).f1))) (fun _ hk => hk.2) (.int .i64 ((rd_T112 y611 x16_1).f2))) (fun _ hk => hk.2) (.int .i64 ((rd_T112 y611 x16_1).f3))) (fun _ hk => trivial)⟩
             have n1_ : Aside0 (((((w27.setCell ⟨gb616, 0, none⟩ (.int .i64 ((rd_T112 y611 x16_1).f0))).setCell ⟨gb616, 1, none⟩ (.int .i64 ((rd_T112 y611 x16_1).f1))).setCell ⟨gb616, 2, none⟩ (.int .i64 ((rd_T112 y611 x16_1).f2))).setCell ⟨gb616, 3, none⟩ (.int .i64 ((rd_T112 y611 x16_1).f3))).heap[gb606]? = some (.cells #[.slice (some ad615) l0_0.length c0_0, .int .i64 a0_1, .slice A0_2 l0_2.length c0_2] 34 (0, 0))) := ⟨by (with_reducible repeat (first | refine blk_drewN ?_ _ | refine blk_drew ?_ | refine blk_alloc ?_ _)); refine blk_far ?_ NB606_616.out _; (with_reducible repeat (first | refine blk_drewN ?_ _ | refine blk_drew ?_ | refine blk_alloc ?_ _)); refine blk_far ?_ NB606_616.out _; (with_reducible repeat (first | refine blk_drewN ?_ _ | refine blk_drew ?_ | refine blk_alloc ?_ _)); refine blk_far ?_ NB606_616.out _; (with_reducible repeat (first | refine blk_drewN ?_ _ | refine blk_drew ?_ | refine blk_alloc ?_ _)); refine blk_far ?_ NB606_616.out _; (with_reducible repeat (first | refine blk_drewN ?_ _ | refine blk_drew ?_ | refine blk_alloc ?_ _)); exact BK606.out⟩
             have n2_ : Aside0 (((((w27.setCell ⟨gb616, 0, none⟩ (.int .i64 ((rd_T112 y611 x16_1).f0))).setCell ⟨gb616, 1, none⟩ (.int .i64 ((rd_T112 y611 x16_1).f1))).setCell ⟨gb616, 2, none⟩ (.int .i64 ((rd_T112 y611 x16_1).f2))).setCell ⟨gb616, 3, none⟩ (.int .i64 ((rd_T112 y611 x16_1).f3))).heap[gb616]? = some (.cells #[.int .i64 ((rd_T112 y611 x16_1).f0), .int .i64 ((rd_T112 y611 x16_1).f1), .int .i64 ((rd_T112 y611 x16_1).f2), .int .i64 ((rd_T112 y611 x16_1).f3)] 112 (0, 0))) := ⟨by (with_reducible repeat (first | refine blk_drewN ?_ _ | refine blk_drew ?_ | refine blk_alloc ?_ _)); refine blk_put (cs := #[.int .i64 ((rd_T112 y611 x16_1).f0), .int .i64 ((rd_T112 y611 x16_1).f1), .int .i64 ((rd_T112 y611 x16_1).f2), .int .i64 0]) ?_ 3 _ rfl; (with_reducible repeat (first | refine blk_drewN ?_ _ | refine blk_drew ?_ | refine blk_alloc ?_ _)); refine blk_put (cs := #[.int .i64 ((rd_T112 y611 x16_1).f0), .int .i64 ((rd_T112 y611 x16_1).f1), .int .i64 0, .int .i64 0]) ?_ 2 _ rfl; (with_reducible repeat (first | refine blk_drewN ?_ _ | refine blk_drew ?_ | refine blk_alloc ?_ _)); refine blk_put (cs := #[.int .i64 ((rd_T112 y611 x16_1).f0), .int .i64 0, .int .i64 0, .int .i64 0]) ?_ 1 _ rfl; (with_reducible repeat (first | refine blk_drewN ?_ _ | refine blk_drew ?_ | refine blk_alloc ?_ _)); refine blk_put (cs := #[.int .i64 0, .int .i64 0, .int .i64 0, .int .i64 0]) ?_ 0 _ rfl; (with_reducible repeat (first | refine blk_drewN ?_ _ | refine blk_drew ?_ | refine blk_alloc ?_ _)); exact BK616.out⟩
             have n3_ : Aside0 (Below w.heap.size w ((((w27.setCell ⟨gb616, 0, none⟩ (.int .i64 ((rd_T112 y611 x16_1).f0))).setCell ⟨gb616, 1, none⟩ (.int .i64 ((rd_T112 y611 x16_1).f1))).setCell ⟨gb616, 2, none⟩ (.int .i64 ((rd_T112 y611 x16_1).f2))).setCell ⟨gb616, 3, none⟩ (.int .i64 ((rd_T112 y611 x16_1).f3)))) := ⟨oB HB⟩
             (try clear HO_3)
             (try clear BK606)
             (try clear BK616)
             (try clear HB)
             generalize ((((w27.setCell ⟨gb616, 0, none⟩ (.int .i64 ((rd_T112 y611 x16_1).f0))).setCell ⟨gb616, 1, none⟩ (.int .i64 ((rd_T112 y611 x16_1).f1))).setCell ⟨gb616, 2, none⟩ (.int .i64 ((rd_T112 y611 x16_1).f2))).setCell ⟨gb616, 3, none⟩ (.int .i64 ((rd_T112 y611 x16_1).f3))) = w30 at n0_ n1_ n2_ n3_ ⊢
             have HO_3 := n0_
             have BK606 := n1_
             have BK616 := n2_
             have HB := n3_
             clear n0_ n1_ n2_ n3_
             have n0_ := A_ (Kd.R_drew HO_3.out)
             have n1_ := A_ (blk_drew BK606.out)
             have n2_ := A_ (blk_drew BK616.out)
             have n3_ := A_ (below_drew1 HB.out)
             clear HO_3
             clear BK606
             clear BK616
             clear HB
             have HO_3 := n0_
             have BK606 := n1_
             have BK616 := n2_
             have HB := n3_
             clear n0_ n1_ n2_ n3_
             have p617 : 0 ≤ (((rd_T112 y611 x16_1).f1) : Int) := oD
             have q617 : ((rd_T112 y611 x16_1).f1) < (l0_2.length : Int) := oD
             obtain ⟨ad617, e617, hx617_0⟩ := Kd.at_int HR0_2.out ((rd_T112 y611 x16_1).f1) p617 q617
             have hw617_0 := hx617_0
             cases e617
             replace hx617_0 := hW HB hx617_0
             replace p617 := eq_true p617
             replace q617 := eq_true q617
             refine start_ (n := 10) (S := fun w' => w'.cell? ⟨gb606, 0, none⟩ = some (.slice (some ad615) l0_0.length c0_0) ∧ w'.cell? ⟨gb606, 1, none⟩ = some (.int .i64 a0_1) ∧ w'.cell? ⟨gb606, 2, none⟩ = some (.slice (some ad617) l0_2.length c0_2) ∧ w'.cell? ⟨gb616, 0, none⟩ = some (.int .i64 ((rd_T112 y611 x16_1).f0)) ∧ w'.cell? ⟨gb616, 1, none⟩ = some (.int .i64 ((rd_T112 y611 x16_1).f1)) ∧ w'.cell? ⟨gb616, 2, none⟩ = some (.int .i64 ((rd_T112 y611 x16_1).f2)) ∧ w'.cell? ⟨gb616, 3, none⟩ = some (.int .i64 ((rd_T112 y611 x16_1).f3)) ∧ w'.cell? (ad617.add (((rd_T112 y611 x16_1).f1)).toNat) = some (.int .i64 (rd l0_2 ((rd_T112 y611 x16_1).f1)))) (ds := []) #[false, false, false, false, false, false, false, false, false, false] (by kernel_rfl) rfl rfl ⟨cz BK606 0, cz BK606 1, cz BK606 2, cz BK616 0, cz BK616 1, cz BK616 2, cz BK616 3, (hW HB hw617_0)⟩ (fun hHeld => ?_); refine with_tabW impl_WrongSteps.tab7 impl_WrongSteps.bits7 (fun HT_ HW_ => ?_)
             generalize w30.drew = w31 at HO_3 BK606 BK616 HB hx617_0 hHeld ⊢
             refine pA 0 (some 21) HT_.out ?_
             refine pA 2 (some 23) HT_.out ?_
             refine pA 7 (some 28) HT_.out ?_
             refine pT 1 (some 22) HT_.out HW_.out hHeld ?_
             refine pT 3 (some 24) HT_.out HW_.out hHeld ?_
             refine pA 4 (some 25) HT_.out ?_
             refine pT 5 (some 26) HT_.out HW_.out hHeld ?_
             refine pT 6 (some 27) HT_.out HW_.out hHeld ?_
             refine one_ (i := 8) (N := some 29) #[true, true, true, true, true, true, true, true, true, false] rfl rfl (one_of HT_.out (by kernel_rfl)) (by decide) (fun K hK => ?_)
             refine goes_ Tryz.func121 (by kernel_rfl) rfl #[.agg #[.slice (some ad615) l0_0.length c0_0, .int .i64 a0_1, .slice (some ad617) l0_2.length c0_2], .int .i64 x16_1] (by rfl) rfl rfl (by (try simp only [List.map_toArray, List.map_cons, List.map_nil]); first | done | rfl | (simp only [List.length_drop, List.length_take]; rfl)) ?_
             with_reducible refine (impl_tunedBy.calls k1 _ _ l0_0 a0_1 _ _ l0_2 x16_1 t618 _ ?side1 ?side2 ?side3 ?side4 A18.out).mono ?_
             (case side1 => exact oc_ HR0_0.out)
             (case side2 => exact HC0_0.out)
             (case side3 => exact oc_ HR0_2.out)
             (case side4 => exact HC0_2.out)
             rintro e w32 ⟨rfl, hb⟩
             refine ⟨_, rfl, ?_⟩
             have n0_ := A_ (Kd.R_below (oR HO_3) hb)
             have n1_ := A_ (bb BK606 hb)
             have n2_ := A_ (bb BK616 hb)
             have n3_ := A_ (below_step (oB HB) hb)
             clear HO_3
             clear BK606
             clear BK616
             clear HB
             have HO_3 := n0_
             have BK606 := n1_
             have BK616 := n2_
             have HB := n3_
             clear n0_ n1_ n2_ n3_
             (try clear hb)
             (try clear hb2)
             (try clear hk)
             (try clear hi)
             refine hK.out _ _ ⟨cz BK606 0, cz BK606 1, cz BK606 2, cz BK616 0, cz BK616 1, cz BK616 2, cz BK616 3, (hW HB hw617_0)⟩ (fun hHeld => ?_)
             clear hK K
             refine norm_ (a' := ?_) ?_ ?_
             rotate_left
             ·show Act.put _ (some 29) _ = _
              simp only [Act.put, List.setIfInBounds_toArray, List.set_cons_zero, List.set_cons_succ, i64_w, i32_w]
              rfl
             refine pA 9 (some 30) HT_.out ?_
             refine done_ (done_of HT_.out (by kernel_rfl)) ?_
             try go_wp2_with (first | ((with_reducible refine gate_builtin (b := .append) (xs := #[.tmp 31, .tmp 33]) rfl ?_); at_builtin; refine Kd.R_append (Kd.int .i64) (w0 := w) w.heap.size rfl (.tmp 31) (.tmp 33) 23 3 (.int .i64 0) 8 rfl Tryz.underlying23 info3 rfl (by decide) (by omega) u3 x3_1 x16_1 [.int .i64 x16_1] (fun _ => True) (fun _ => False) rfl rfl ?aP (fun _ hk => hk.elim) ?aF ?aO ?aB ?aS ?aL ?_; (case aP => exact rfl); (case aB => exact (oB HB)); (case aF => exact (fun _ _ => trivial)); (case aO => exact (oR HO_3)); (case aS => exact (below_size (oB HB))); (case aL => have := LMc26.out; omega); intro v620 w33 ho hb hg hat; rw [← Ny619.out] at ho; have n0_ := A_ (bg BK606 hg (Kd.R_ne HO_3.out BK606.out (by decide))); have n1_ := A_ (bg BK616 hg (Kd.R_ne HO_3.out BK616.out (by decide))); have n2_ := A_ (hb); have n3_ := A_ (ho); clear BK606; clear BK616; clear HB; clear HO_3; have BK606 := n0_; have BK616 := n1_; have HB := n2_; have HO621 := n3_; clear n0_ n1_ n2_ n3_; clear ho hb hg hat))
             go_roundg k1
             case measure => have := HK1.out; omega
             case rel => exact ⟨(y619), (wrap64 (x16_1 + 1)), eS, H', ⟨by have := HK1.out; omega⟩, ⟨oR HO621⟩, ⟨oK BK606⟩, ⟨oB HB⟩⟩
            ·rw [if_neg c26] at H
             exact absurd H (by simp)
          ·rw [if_neg c17] at H
           exact absurd H (by simp)
         ·rw [if_neg c16] at H
          exact absurd H (by simp)
        ·rw [if_neg c15] at H
         exact absurd H (by simp)
       ·rw [if_neg c14] at H
        exact absurd H (by simp)
      ·rw [if_neg c13] at H
       have c13b0 : decide (x16_1 < (y611.length : Int)) = false := decide_eq_false c13
       clear c13
       obtain rfl := Option.some.inj H
       go_wp2
       go_ret
       exact ⟨_, eR, oR HO_3, oB HB⟩
   ·rw [if_neg c5] at H
    exact absurd H (by simp)
  ·rw [if_neg c4] at H
   exact absurd H (by simp)
 ·replace c3 := Bool.eq_false_iff.mpr c3
  subst c3
  rw [if_neg (show ¬ (false = true) by decide)] at H
  obtain rfl := Option.some.inj H
  go_enter Tryz.func82, Tryz.ntmps82
  go_wp2_with (first | ((with_reducible refine gate_dst (N := 1) rfl ?_); refine bX (N := 1) (cs := #[.slice A0_0 l0_0.length c0_0, .int .i64 a0_1, .slice A0_2 l0_2.length c0_2]) (t := 34) ?_; intro gb606 hg w34 hbox hb; have n0_ := A_ (below_step (oB HB) hb); have n1_ := A_ (hbox); have n2_ := A_ ((by rw [hg]; exact (below_size (oB HB)) : w.heap.size ≤ gb606)); have n3_ := A_ ((by rw [hg]; exact (below_size (oB HB)) : w.heap.size ≤ gb606)); clear HB; have HB := n0_; have BK606 := n1_; have GW606 := n2_; have GE606 := n3_; clear n0_ n1_ n2_ n3_; clear hb hbox hg; have hcz35_0 := cz BK606 0; have hcz35_1 := cz BK606 1; have hcz35_2 := cz BK606 2; have hfz35_0 := blk_frozen BK606.out 0; have hfz35_1 := blk_frozen BK606.out 1; have hfz35_2 := blk_frozen BK606.out 2) | ((with_reducible refine gate_callee (f := 76) rfl ?_); refine gL (some 7) Tryz.func76 #[.agg #[.slice A0_0 l0_0.length c0_0, .int .i64 a0_1, .slice A0_2 l0_2.length c0_2]] ?_; (with_reducible refine (impl_WorkOk.calls _ _ l0_0 a0_1 _ _ l0_2 false _ ?side1 ?side2 ?side3 ?side4 A2.out).mono ?_); (case side1 => exact oc_ HR0_0.out); (case side2 => exact HC0_0.out); (case side3 => exact oc_ HR0_2.out); (case side4 => exact HC0_2.out); rintro e w36 ⟨rfl, hb⟩; refine ⟨_, rfl, ?_⟩; have n0_ := A_ (bb BK606 hb); have n1_ := A_ (below_step (oB HB) hb); clear BK606; clear HB; have BK606 := n0_; have HB := n1_; clear n0_ n1_; (try clear hb); (try clear hb2); (try clear hk); (try clear hi)))
  go_ret
  exact ⟨_, eR, by first | exact Kd.R_nil _ _ _ _ _ | exact Kd.N_nil _ _ _ _ _ | exact Kd.V_nil _ _ _ _ _ | exact Kd.Q_nil _ _ _ _ _ | exact Kd.S_nil _ _ _ _ _, oB HB⟩
mutual
def impl_RunPlan.j0 : Nat → Int → List (S112) → Bool → Option (List Int × Bool)
 | 0, _, _, _ => none
 | k + 1, x0, x1, x16 => if x16 = true then (some (([] : List Int), false)) else (if 12 ≤ 35184372088832 then ((some (List.replicate 12 0 : List Int)).bind fun y1912 => (if 0 < (y1912.length : Int) then (impl_RunPlan.l0 k (y1912.set (0 : Int).toNat x0) x1 (x1.length : Int) 0) else (none))) else (none))
def impl_RunPlan.l0 : Nat → List Int → List (S112) → Int → Int → Option (List Int × Bool)
 | 0, _, _, _, _ => none
 | k + 1, x6, x21, x22, x23 => if x23 < x22 then (if 0 ≤ x23 then (if x23 < (x21.length : Int) then (if 0 ≤ ((rd_T112 x21 x23).f0) then (if ((rd_T112 x21 x23).f0) < (x6.length : Int) then ((impl_TunedPitch.f k (rd x6 ((rd_T112 x21 x23).f0)) ((rd_T112 x21 x23).f2) ((rd_T112 x21 x23).f3)).bind fun t1919 => (if 0 ≤ ((rd_T112 x21 x23).f1) then (if ((rd_T112 x21 x23).f1) < (x6.length : Int) then (if t1919 = 0 then (some (([] : List Int), false)) else (impl_RunPlan.l0 k (x6.set (((rd_T112 x21 x23).f1) : Int).toNat t1919) x21 x22 (wrap64 (x23 + 1)))) else (none)) else (none))) else (none)) else (none)) else (none)) else (none)) else (some (x6, true))
end
def impl_RunPlan.f (k : Nat) (a0 : Int) (l1 : List (S112)) : Option (List Int × Bool) := (impl_PlanOk.f l1).bind fun t1910 => (if t1910 = true then ((impl_isFine.f a0).bind fun t1911 => (impl_RunPlan.j0 k a0 l1 (!t1911))) else (impl_RunPlan.j0 k a0 l1 true))
def impl_RunPlan.T8 : Bool × List (List Nat × List Nat) := (true, [([], []), ([], []), ([1], [1]), ([], []), ([], []), ([4], [4]), ([3, 5], [3, 5]), ([6], [6]), ([], []), ([8], [8]), ([], []), ([10], [10]), ([7, 9, 11], [7, 9, 11]), ([0, 2, 0, 1, 2, 3, 4, 5, 6, 7, 8, 9, 10, 11, 12], [0, 2]), ([13, 12, 12, 0, 1, 2, 3, 4, 5, 6, 7, 8, 9, 10, 11, 12], [12, 13])])
def impl_RunPlan.B8 : List Nat := [0, 0, 2, 0, 0, 16, 56, 120, 0, 256, 0, 1024, 4088, 8191, 16383]
theorem impl_RunPlan.tab8 : rtab .any (opsOf Tryz.f38 8) = impl_RunPlan.T8 := by kernel_rfl
theorem impl_RunPlan.bits8 : waitsOk impl_RunPlan.T8.2 impl_RunPlan.B8 = true := by kernel_rfl
theorem impl_RunPlan.calls (k : Nat) (a0 : Int) (A1 : Option Addr) (c1 : Nat) (l1 : List (S112)) (r1 : List Int) (r2 : Bool) (w : World) (hr1 : Kd.C k112 w A1 l1.length l1) (hc1 : l1.length ≤ c1) (h : impl_RunPlan.f k a0 l1 = some (r1, r2)) :
  Calls Tryz.prog 38 #[.int .i64 a0, .slice A1 l1.length c1] w fun e w' => ∃ v0_ : Value, e = .returned (.tuple #[v0_, .bool r2]) ∧ Kd.R (Kd.int .i64) 3 w' w.heap.size (fun _ => True) v0_ r1 ∧ Below w.heap.size w w' := by
 have hu112 := Tryz.underlying112
 have HR1 := A_ hr1
 have HC1 := A_ hc1
 clear hr1 hc1
 have HB := A_ (Below.refl w.heap.size w)
 have H : ((impl_PlanOk.f l1).bind fun t1910 => (if t1910 = true then ((impl_isFine.f a0).bind fun t1911 => (impl_RunPlan.j0 k a0 l1 (!t1911))) else (impl_RunPlan.j0 k a0 l1 true))) = some (r1, r2) := h
 clear h
 have HC3 := A_ H
 clear H
 go_enter Tryz.func38, Tryz.ntmps38
 go_upto_region 1 with (fail)
 go_cut [16] (fun v16 wc => ∃ (kq : Nat) (x16_2 : Bool), v16 = .bool x16_2 ∧ Aside0 (impl_RunPlan.j0 kq a0 l1 x16_2 = some (r1, r2)) ∧ Aside0 (kq ≤ k) ∧ Aside0 (Below w.heap.size w wc))
 case first =>
  have H := HC3.out
  clear HC3
  replace H := Option.bind_eq_some_iff.mp H
  obtain ⟨t1910, A40, H⟩ := H
  (try dsimp only at H)
  have A4 := A_ A40
  clear A40
  by_cases c5 : t1910 = true
  ·subst c5
   rw [if_pos rfl] at H
   replace H := Option.bind_eq_some_iff.mp H
   obtain ⟨t1911, A60, H⟩ := H
   (try dsimp only at H)
   have A6 := A_ A60
   clear A60
   have H' := A_ H
   clear H
   go_wp2_with (first | ((with_reducible refine gate_callee (f := 89) rfl ?_); refine gL (some 10) Tryz.func89 #[.slice A1 l1.length c1] ?_; (with_reducible refine (impl_PlanOk.calls _ _ l1 true _ ?side1 ?side2 A4.out).mono ?_); (case side1 => exact oc_ HR1.out); (case side2 => exact HC1.out); rintro e w7 ⟨rfl, hb⟩; refine ⟨_, rfl, ?_⟩; have n0_ := A_ (below_step (oB HB) hb); clear HB; have HB := n0_; clear n0_; (try clear hb); (try clear hb2); (try clear hk); (try clear hi)) | (go_at_call 90; (with_reducible refine (impl_isFine.calls a0 t1911 _ A6.out).mono ?_); rintro e w' ⟨rfl, ⟨nd, rfl⟩⟩))
   go_meet
   case rel => exact ⟨_, (!t1911), eS, H', ⟨by first | omega | exact Nat.le_refl _⟩, ⟨oB HB⟩⟩
  ·replace c5 := Bool.eq_false_iff.mpr c5
   subst c5
   rw [if_neg (show ¬ (false = true) by decide)] at H
   have H' := A_ H
   clear H
   go_wp2_with (first | ((with_reducible refine gate_callee (f := 89) rfl ?_); refine gL (some 10) Tryz.func89 #[.slice A1 l1.length c1] ?_; (with_reducible refine (impl_PlanOk.calls _ _ l1 false _ ?side1 ?side2 A4.out).mono ?_); (case side1 => exact oc_ HR1.out); (case side2 => exact HC1.out); rintro e w8 ⟨rfl, hb⟩; refine ⟨_, rfl, ?_⟩; have n0_ := A_ (below_step (oB HB) hb); clear HB; have HB := n0_; clear n0_; (try clear hb); (try clear hb2); (try clear hk); (try clear hi)))
   go_meet
   case rel => exact ⟨_, (true), eS, H', ⟨by first | omega | exact Nat.le_refl _⟩, ⟨oB HB⟩⟩
 case rest =>
  clear HC3
  try clear c1
  try clear p2
  try clear c3
  try clear c5
  try clear c8
  obtain ⟨kq, x16_2, rfl, HA, HJ2, HB⟩ := hcut
  cases kq with
  | zero => exact absurd HA.out (by simp [impl_RunPlan.j0])
  | succ kj2 =>
   have H := HA.out
   clear HA
   simp only [impl_RunPlan.j0] at H
   by_cases c9 : x16_2 = true
   ·subst c9
    rw [if_pos rfl] at H
    simp only [Option.some.injEq, Prod.mk.injEq] at H
    obtain ⟨rfl, rfl⟩ := H
    go_wp2
    go_ret2
    exact ⟨_, eR, by first | exact Kd.R_nil _ _ _ _ _ | exact Kd.N_nil _ _ _ _ _ | exact Kd.V_nil _ _ _ _ _ | exact Kd.Q_nil _ _ _ _ _ | exact Kd.S_nil _ _ _ _ _, oB HB⟩
   ·replace c9 := Bool.eq_false_iff.mpr c9
    subst c9
    rw [if_neg (show ¬ (false = true) by decide)] at H
    by_cases c10 : 12 ≤ 35184372088832
    ·rw [if_pos c10] at H
     have c10b0 := eq_true c10
     have c10b1 : decide (12 ≤ 35184372088832) = true := decide_eq_true c10
     clear c10
     obtain ⟨y1912, hy1912⟩ : ∃ y_ : List Int, y_ = (List.replicate 12 0) := ⟨_, rfl⟩
     replace H : (if 0 < (y1912.length : Int) then (impl_RunPlan.l0 kj2 (y1912.set (0 : Int).toNat a0) l1 (l1.length : Int) 0) else (none)) = some (r1, r2) := by first | (rw [hy1912]; with_reducible exact H) | (have H2_ := (Option.bind_some _ _).symm.trans H; rw [hy1912]; with_reducible exact H2_) | (have H2_ := (Option.bind_some _ _).symm.trans H; with_reducible exact H2_) | with_reducible exact H | (rw [hy1912]; exact H) | exact H
     have Ny1912 := A_ hy1912
     clear hy1912
     by_cases c11 : 0 < (y1912.length : Int)
     ·rw [if_pos c11] at H
      have c11b0 : decide (0 < (y1912.length : Int)) = true := decide_eq_true c11
      have c11b1 : decide (0 < y1912.length) = true := decide_eq_true (by omega)
      clear c11
      obtain ⟨y1915, hy1915⟩ : ∃ y_ : List Int, y_ = (y1912.set (0 : Int).toNat a0) := ⟨_, rfl⟩
      replace H : (impl_RunPlan.l0 kj2 y1915 l1 (l1.length : Int) 0) = some (r1, r2) := by first | (rw [hy1915]; with_reducible exact H) | (have H2_ := (Option.bind_some _ _).symm.trans H; rw [hy1915]; with_reducible exact H2_) | (have H2_ := (Option.bind_some _ _).symm.trans H; with_reducible exact H2_) | with_reducible exact H | (rw [hy1915]; exact H) | exact H
      have Ny1915 := A_ hy1915
      clear hy1915
      have H' := A_ H
      clear H
      go_wp2_with (first | ((with_reducible refine gate_dst (N := 17) rfl ?_); refine Kd.R_make (Kd.int .i64) _ 3 rfl (N := 17) rfl 23 _ _ rfl 12 rfl rfl Tryz.underlying23 (.int .i64 0) 8 info3 rfl (by decide) (by omega) 0 (ok := fun _ => True) (okp := fun _ => True) rfl (fun _ hk => hk) trivial (by omega) (by omega) (Below.refl _ _) (Nat.le_refl _) ?_; intro v1913 w13 ho14 hb hg_ hnew_; clear hg_ hnew_; (first | rw [← Ny1912.out] at ho14 | (simp only [Int.reduceToNat] at ho14; rw [← Ny1912.out] at ho14)); have n0_ := A_ (Kd.R_lower ho14 (below_size (oB HB))); have n1_ := A_ (below_step (oB HB) hb); clear HB; have HO1914 := n0_; have HB := n1_; clear n0_ n1_; clear hb ho14; have p12 : 0 ≤ (0 : Int) := (by omega); have q12 : (0 : Int) < ((y1912.length : Int) : Int) := oD; have qi12 : (0 < y1912.length) = True := eq_true (by omega); obtain ⟨go12, co12, eo12, gb12, gl12, cl12, HG12⟩ := Kd.R_form HO1914.out (by omega); (first | cases eo12 | (injection eo12 with ea_ en_ ec_; (first | subst ea_ | (injection ea_ with ea_; subst ea_)); subst ec_; clear en_)); have GB12 := A_ gb12; have GG12 := A_ HG12; clear gb12 gl12 HG12; obtain ⟨hx12_0, hf12_0⟩ := Kd.R_celln 0 HO1914.out (0 : Int) p12 q12; (try rw [show ((0 : Int)).toNat = 0 from rfl] at hx12_0); (try simp only [Nat.reduceMul, Nat.zero_mul, Nat.zero_add, Nat.reduceAdd] at hx12_0); (try rw [show ((0 : Int)).toNat = 0 from rfl] at hf12_0); (try simp only [Nat.reduceMul, Nat.zero_mul, Nat.zero_add, Nat.reduceAdd] at hf12_0); replace p12 := eq_true p12; replace q12 := eq_true q12; obtain ⟨hy15_, hz15_⟩ := Kd.R_celln 0 HO1914.out (0 : Int) (by omega) (oD); (try simp only [Int.reduceToNat, Int.toNat_zero, Int.toNat_ofNat, Nat.reduceMul, Nat.zero_mul, Nat.zero_add] at hy15_ hz15_); (try rw [show ((0 : Int)).toNat = 0 from rfl] at hy15_); (try rw [show ((0 : Int)).toNat = 0 from rfl] at hz15_); have HP15 := Kd.R_putg HO1914.out (0 : Int) a0) | ((with_reducible refine gate_store (t := 3) (p := 20) rfl ?_); refine store_event (t := 3) (p := 20) (v := ?vo_w16) (w1 := (w13.setCell ⟨go12, (0 : Int).toNat, none⟩ (.int .i64 a0))) ?hg ?ho ?hn ?hr ?_; (case ho => rfl); (case hg => rfl); (case hn => rfl); (case hr => first | (go_simp; done) | (go_simp; rfl)); intro w16 hw; have hg : w13.grownBy w16 (some go12) := (by rw [hw]; exact HP15.2); have hp_ : Kd.R (Kd.int .i64) 3 w16 w.heap.size (fun _ => True) (.slice (some ⟨go12, 0, none⟩) y1912.length co12) y1915 := (by rw [hw, Ny1915.out]; exact HP15.1); clear HP15; have n0_ := A_ (hp_); have n1_ := A_ ((by rw [hw]; exact below_set (HB.out) GB12.out : Below w.heap.size w w16)); clear HO1914; clear HB; have HO1914 := n0_; have HB := n1_; clear n0_ n1_; clear hg hw hp_))
      go_loopg [23] kj2 (fun kq v23 w' => ∃ (x6_2 : List Int) (x23_2 : Int), v23 = .int .i64 x23_2 ∧ Aside0 (impl_RunPlan.l0 kq x6_2 l1 (l1.length : Int) x23_2 = some (r1, r2)) ∧ Aside0 (kq ≤ kj2) ∧ Aside0 (Kd.R (Kd.int .i64) 3 w' w.heap.size (fun _ => True) (.slice (some ⟨go12, 0, none⟩) y1912.length co12) x6_2) ∧ Aside0 (Below w.heap.size w w'))
      case atStart => exact ⟨(y1915), (0), eS, H', ⟨Nat.le_refl _⟩, ⟨oR HO1914⟩, ⟨oB HB⟩⟩
      case round =>
       clear H'
       try clear c1
       try clear p1
       try clear q1
       try clear hx1
       try clear qi1
       try clear p2
       try clear c3
       try clear c5
       try clear c8
       try clear c9
       try clear c10
       try clear c10b0
       try clear c10b1
       try clear c11
       try clear c11b0
       try clear c11b1
       try clear p12
       try clear q12
       try clear hx12
       try clear qi12
       try clear hf12
       try clear hx12_0
       try clear p12
       try clear p2
       try clear q12
       obtain ⟨x6_2, x23_2, rfl, HA, HK2, HO_6, HB⟩ := hrel
       have hl6_2 := (Kd.R_reads' HO_6.out).1
       rw [hl6_2] at HO_6
       (try simp only [hl6_2])
       cases gk with
       | zero => exact absurd HA.out (by simp [impl_RunPlan.l0])
       | succ k2 =>
        have H := HA.out
        clear HA
        simp only [impl_RunPlan.l0] at H
        by_cases c17 : x23_2 < (l1.length : Int)
        ·rw [if_pos c17] at H
         have c17b0 : decide (x23_2 < (l1.length : Int)) = true := decide_eq_true c17
         clear c17
         by_cases c18 : 0 ≤ x23_2
         ·rw [if_pos c18] at H
          have c18b0 : decide (0 ≤ x23_2) = true := decide_eq_true c18
          clear c18
          by_cases c19 : x23_2 < (l1.length : Int)
          ·rw [if_pos c19] at H
           have c19b0 : decide (x23_2 < (l1.length : Int)) = true := decide_eq_true c19
           clear c19
           by_cases c20 : 0 ≤ ((rd_T112 l1 x23_2).f0)
           ·rw [if_pos c20] at H
            have c20b0 : decide (0 ≤ ((rd_T112 l1 x23_2).f0)) = true := decide_eq_true c20
            clear c20
            by_cases c21 : ((rd_T112 l1 x23_2).f0) < (x6_2.length : Int)
            ·rw [if_pos c21] at H
             have c21b0 : decide (((rd_T112 l1 x23_2).f0) < (x6_2.length : Int)) = true := decide_eq_true c21
             clear c21
             replace H := Option.bind_eq_some_iff.mp H
             obtain ⟨t1919, A220, H⟩ := H
             (try dsimp only at H)
             have A22 := A_ A220
             clear A220
             by_cases c23 : 0 ≤ ((rd_T112 l1 x23_2).f1)
             ·rw [if_pos c23] at H
              have c23b0 : decide (0 ≤ ((rd_T112 l1 x23_2).f1)) = true := decide_eq_true c23
              clear c23
              by_cases c24 : ((rd_T112 l1 x23_2).f1) < (x6_2.length : Int)
              ·rw [if_pos c24] at H
               have c24b0 : decide (((rd_T112 l1 x23_2).f1) < (x6_2.length : Int)) = true := decide_eq_true c24
               clear c24
               obtain ⟨y1920, hy1920⟩ : ∃ y_ : List Int, y_ = (x6_2.set (((rd_T112 l1 x23_2).f1) : Int).toNat t1919) := ⟨_, rfl⟩
               replace H : (if t1919 = 0 then (some (([] : List Int), false)) else (impl_RunPlan.l0 k2 y1920 l1 (l1.length : Int) (wrap64 (x23_2 + 1)))) = some (r1, r2) := by first | (rw [hy1920]; with_reducible exact H) | (have H2_ := (Option.bind_some _ _).symm.trans H; rw [hy1920]; with_reducible exact H2_) | (have H2_ := (Option.bind_some _ _).symm.trans H; with_reducible exact H2_) | with_reducible exact H | (rw [hy1920]; exact H) | exact H
               have Ny1920 := A_ hy1920
               clear hy1920
               by_cases c27 : t1919 = 0
               ·rw [if_pos c27] at H
                have c27b0 : (t1919 == 0) = true := beq_iff_eq.mpr c27
                have c27b1 : (t1919 != 0) = false := bne_eq_false_iff_eq.mpr c27
                clear c27
                simp only [Option.some.injEq, Prod.mk.injEq] at H
                obtain ⟨rfl, rfl⟩ := H
                have p1916 : 0 ≤ (x23_2 : Int) := oD
                have q1916 : x23_2 < (l1.length : Int) := oD
                obtain ⟨ad1916, e1916, hx1916_0, hx1916_1, hx1916_2, hx1916_3⟩ := at_T112 HR1.out x23_2 p1916 q1916
                cases e1916
                replace hx1916_0 := hW HB hx1916_0
                replace hx1916_1 := hW HB hx1916_1
                replace hx1916_2 := hW HB hx1916_2
                replace hx1916_3 := hW HB hx1916_3
                replace p1916 := eq_true p1916
                replace q1916 := eq_true q1916
                try go_wp2_with (first | ((with_reducible refine gate_dst (N := 8) rfl ?_); refine bX (N := 8) (cs := #[.int .i64 0, .int .i64 0, .int .i64 0, .int .i64 0]) (t := 112) ?_; intro gb1917 hg w28 hbox hb; have n0_ := A_ (Kd.R_below (oR HO_6) hb); have n1_ := A_ (below_step (oB HB) hb); have n2_ := A_ (hbox); have n3_ := A_ ((by rw [hg]; exact (below_size (oB HB)) : w.heap.size ≤ gb1917)); have n4_ := A_ ((by rw [hg]; exact (below_size (oB HB)) : w.heap.size ≤ gb1917)); clear HO_6; clear HB; have HO_6 := n0_; have HB := n1_; have BK1917 := n2_; have GW1917 := n3_; have GE1917 := n4_; clear n0_ n1_ n2_ n3_ n4_; clear hb hbox hg; have hcz29_0 := cz BK1917 0; have hcz29_1 := cz BK1917 1; have hcz29_2 := cz BK1917 2; have hcz29_3 := cz BK1917 3; have hfz29_0 := blk_frozen BK1917.out 0; have hfz29_1 := blk_frozen BK1917.out 1; have hfz29_2 := blk_frozen BK1917.out 2; have hfz29_3 := blk_frozen BK1917.out 3))
                have n0_ : Aside0 (Kd.R (Kd.int .i64) 3 ((((w28.setCell ⟨gb1917, 0, none⟩ (.int .i64 ((rd_T112 l1 x23_2).f0))).setCell ⟨gb1917, 1, none⟩ (.int .i64 ((rd_T112 l1 x23_2).f1))).setCell ⟨gb1917, 2, none⟩ (.int .i64 ((rd_T112 l1 x23_2).f2))).setCell ⟨gb1917, 3, none⟩ (.int .i64 ((rd_T112 l1 x23_2).f3))) w.heap.size (fun _ => True) (.slice (some ⟨go12, 0, none⟩) x6_2.length co12) x6_2) := ⟨by (with_reducible repeat (first | apply Kd.R_alloc | apply Kd.R_drewN | apply Kd.R_drew)); exact Kd.R_mono (Kd.R_far (p := ⟨gb1917, 3, none⟩) (Kd.R_far (p := ⟨gb1917, 2, none⟩) (Kd.R_far (p := ⟨gb1917, 1, none⟩) (Kd.R_far (p := ⟨gb1917, 0, none⟩) (Kd.R_types HO_6.out BK1917.out (by decide)) (fun _ hk => hk.2) (.int .i64 ((rd_T112 l1 x23_2).f0))) (fun _ hk => hk.2) (.int .i64 ((rd_T112 l1 x23_2).f1))) (fun _ hk => hk.2) (.int .i64 ((rd_T112 l1 x23_2).f2))) (fun _ hk => hk.2) (.int .i64 ((rd_T112 l1 x23_2).f3))) (fun _ hk => trivial)⟩
                have n1_ : Aside0 (((((w28.setCell ⟨gb1917, 0, none⟩ (.int .i64 ((rd_T112 l1 x23_2).f0))).setCell ⟨gb1917, 1, none⟩ (.int .i64 ((rd_T112 l1 x23_2).f1))).setCell ⟨gb1917, 2, none⟩ (.int .i64 ((rd_T112 l1 x23_2).f2))).setCell ⟨gb1917, 3, none⟩ (.int .i64 ((rd_T112 l1 x23_2).f3))).heap[gb1917]? = some (.cells #[.int .i64 ((rd_T112 l1 x23_2).f0), .int .i64 ((rd_T112 l1 x23_2).f1), .int .i64 ((rd_T112 l1 x23_2).f2), .int .i64 ((rd_T112 l1 x23_2).f3)] 112 (0, 0))) := ⟨by (with_reducible repeat (first | refine blk_drewN ?_ _ | refine blk_drew ?_ | refine blk_alloc ?_ _)); refine blk_put (cs := #[.int .i64 ((rd_T112 l1 x23_2).f0), .int .i64 ((rd_T112 l1 x23_2).f1), .int .i64 ((rd_T112 l1 x23_2).f2), .int .i64 0]) ?_ 3 _ rfl; (with_reducible repeat (first | refine blk_drewN ?_ _ | refine blk_drew ?_ | refine blk_alloc ?_ _)); refine blk_put (cs := #[.int .i64 ((rd_T112 l1 x23_2).f0), .int .i64 ((rd_T112 l1 x23_2).f1), .int .i64 0, .int .i64 0]) ?_ 2 _ rfl; (with_reducible repeat (first | refine blk_drewN ?_ _ | refine blk_drew ?_ | refine blk_alloc ?_ _)); refine blk_put (cs := #[.int .i64 ((rd_T112 l1 x23_2).f0), .int .i64 0, .int .i64 0, .int .i64 0]) ?_ 1 _ rfl; (with_reducible repeat (first | refine blk_drewN ?_ _ | refine blk_drew ?_ | refine blk_alloc ?_ _)); refine blk_put (cs := #[.int .i64 0, .int .i64 0, .int .i64 0, .int .i64 0]) ?_ 0 _ rfl; (with_reducible repeat (first | refine blk_drewN ?_ _ | refine blk_drew ?_ | refine blk_alloc ?_ _)); exact BK1917.out⟩
                have n2_ : Aside0 (Below w.heap.size w ((((w28.setCell ⟨gb1917, 0, none⟩ (.int .i64 ((rd_T112 l1 x23_2).f0))).setCell ⟨gb1917, 1, none⟩ (.int .i64 ((rd_T112 l1 x23_2).f1))).setCell ⟨gb1917, 2, none⟩ (.int .i64 ((rd_T112 l1 x23_2).f2))).setCell ⟨gb1917, 3, none⟩ (.int .i64 ((rd_T112 l1 x23_2).f3)))) := ⟨oB HB⟩
                (try clear HO_6)
                (try clear BK1917)
                (try clear HB)
                generalize ((((w28.setCell ⟨gb1917, 0, none⟩ (.int .i64 ((rd_T112 l1 x23_2).f0))).setCell ⟨gb1917, 1, none⟩ (.int .i64 ((rd_T112 l1 x23_2).f1))).setCell ⟨gb1917, 2, none⟩ (.int .i64 ((rd_T112 l1 x23_2).f2))).setCell ⟨gb1917, 3, none⟩ (.int .i64 ((rd_T112 l1 x23_2).f3))) = w30 at n0_ n1_ n2_ ⊢
                have HO_6 := n0_
                have BK1917 := n1_
                have HB := n2_
                clear n0_ n1_ n2_
                have n0_ := A_ (Kd.R_drew HO_6.out)
                have n1_ := A_ (blk_drew BK1917.out)
                have n2_ := A_ (below_drew1 HB.out)
                clear HO_6
                clear BK1917
                clear HB
                have HO_6 := n0_
                have BK1917 := n1_
                have HB := n2_
                clear n0_ n1_ n2_
                have p1918 : 0 ≤ (((rd_T112 l1 x23_2).f0) : Int) := oD
                have q1918 : ((rd_T112 l1 x23_2).f0) < (x6_2.length : Int) := oD
                obtain ⟨ad1918, e1918, hx1918_0⟩ := Kd.at_int (Kd.R_reads' HO_6.out).2.2 ((rd_T112 l1 x23_2).f0) p1918 q1918
                obtain rfl : (⟨go12, 0, none⟩ : Addr) = ad1918 := (by injection e1918)
                (first | simp only [add_plain] at hx1918_0 | simp only [add_at] at hx1918_0 | simp only [Addr.add, Nat.zero_add] at hx1918_0 | skip)
                replace p1918 := eq_true p1918
                replace q1918 := eq_true q1918
                refine start_ (n := 15) (S := fun w' => w'.cell? ⟨gb1917, 0, none⟩ = some (.int .i64 ((rd_T112 l1 x23_2).f0)) ∧ w'.cell? ⟨gb1917, 1, none⟩ = some (.int .i64 ((rd_T112 l1 x23_2).f1)) ∧ w'.cell? ⟨gb1917, 2, none⟩ = some (.int .i64 ((rd_T112 l1 x23_2).f2)) ∧ w'.cell? ⟨gb1917, 3, none⟩ = some (.int .i64 ((rd_T112 l1 x23_2).f3)) ∧ w'.cell? ⟨go12, (((rd_T112 l1 x23_2).f0)).toNat, none⟩ = some (.int .i64 (rd x6_2 ((rd_T112 l1 x23_2).f0)))) (ds := [14]) #[false, false, false, false, false, false, false, false, false, false, false, false, false, false, false] (by kernel_rfl) rfl rfl ⟨cz BK1917 0, cz BK1917 1, cz BK1917 2, cz BK1917 3, hx1918_0⟩ (fun hHeld => ?_); refine with_tabW impl_RunPlan.tab8 impl_RunPlan.bits8 (fun HT_ HW_ => ?_)
                generalize w30.drew = w31 at HO_6 BK1917 HB hx1918_0 hHeld ⊢
                refine pA 0 (some 27) HT_.out ?_
                refine pA 1 (some 28) HT_.out ?_
                refine pA 3 (some 30) HT_.out ?_
                refine pA 4 (some 31) HT_.out ?_
                refine pA 8 (some 35) HT_.out ?_
                refine pA 10 (some 37) HT_.out ?_
                refine pT 2 (some 29) HT_.out HW_.out hHeld ?_
                refine pT 5 (some 32) HT_.out HW_.out hHeld ?_
                refine pA 6 (some 33) HT_.out ?_
                refine pT 7 (some 34) HT_.out HW_.out hHeld ?_
                refine pT 9 (some 36) HT_.out HW_.out hHeld ?_
                refine pT 11 (some 38) HT_.out HW_.out hHeld ?_
                refine one_ (i := 12) (N := some 39) #[true, true, true, true, true, true, true, true, true, true, true, true, true, false, false] rfl rfl (one_of HT_.out (by kernel_rfl)) (by decide) (fun K hK => ?_)
                refine goes_ Tryz.func91 (by kernel_rfl) rfl #[.int .i64 (rd x6_2 ((rd_T112 l1 x23_2).f0)), .int .i64 ((rd_T112 l1 x23_2).f2), .int .i64 ((rd_T112 l1 x23_2).f3)] (by rfl) rfl rfl (by (try simp only [List.map_toArray, List.map_cons, List.map_nil]); first | done | rfl | (simp only [List.length_drop, List.length_take]; rfl)) ?_
                with_reducible refine (impl_TunedPitch.calls k2 (rd x6_2 ((rd_T112 l1 x23_2).f0)) ((rd_T112 l1 x23_2).f2) ((rd_T112 l1 x23_2).f3) t1919 _ A22.out).mono ?_
                rintro e w32 ⟨rfl, hb⟩
                have HS4_ := (hb.cell (World.block_lt_of_cell? _ _ (hHeld.2.2.2.2))).trans (hHeld.2.2.2.2)
                refine ⟨_, rfl, ?_⟩
                have n0_ := A_ (Kd.R_below (oR HO_6) hb)
                have n1_ := A_ (bb BK1917 hb)
                have n2_ := A_ (below_step (oB HB) hb)
                clear HO_6
                clear BK1917
                clear HB
                have HO_6 := n0_
                have BK1917 := n1_
                have HB := n2_
                clear n0_ n1_ n2_
                (try clear hb)
                (try clear hb2)
                (try clear hk)
                (try clear hi)
                have p25 : 0 ≤ (((rd_T112 l1 x23_2).f1) : Int) := oD
                have q25 : (((rd_T112 l1 x23_2).f1) : Int) < ((x6_2.length : Int) : Int) := oD
                obtain ⟨hx25_0, hf25_0⟩ := Kd.R_celln 0 HO_6.out (((rd_T112 l1 x23_2).f1) : Int) p25 q25
                replace p25 := eq_true p25
                replace q25 := eq_true q25
                have HP33 := Kd.R_putn HO_6.out (((rd_T112 l1 x23_2).f1) : Int) t1919
                rw [← Ny1920.out] at HP33
                have HQ33 := A_ HP33
                clear HP33
                refine hK.out _ _ ⟨cz BK1917 0, cz BK1917 1, cz BK1917 2, cz BK1917 3, HS4_⟩ (fun hHeld => ?_)
                clear hK K
                refine norm_ (a' := ?_) ?_ ?_
                rotate_left
                ·show Act.put _ (some 39) _ = _
                 simp only [Act.put, List.setIfInBounds_toArray, List.set_cons_zero, List.set_cons_succ, i64_w, i32_w]
                 rfl
                refine pA 13 (some 40) HT_.out ?_
                refine last_ (i := 14) (N := none) #[true, true, true, true, true, true, true, true, true, true, true, true, true, true, true] rfl rfl (one_of HT_.out (by kernel_rfl)) (by decide) (fun K hK => ?_)
                refine skip_ (w1 := ?_) (by rfl) rfl ?_ ?_
                rotate_left
                ·go_simp
                 rfl
                refine hK.out _ _ ?_
                clear hK K
                refine done_ (done_of HT_.out (by kernel_rfl)) ?_
                have hcz34_0 := cz BK1917 0
                have hcz34_1 := cz BK1917 1
                have hcz34_2 := cz BK1917 2
                have hcz34_3 := cz BK1917 3
                have hfz34_0 := blk_frozen BK1917.out 0
                have hfz34_1 := blk_frozen BK1917.out 1
                have hfz34_2 := blk_frozen BK1917.out 2
                have hfz34_3 := blk_frozen BK1917.out 3
                have p26 : 0 ≤ (((rd_T112 l1 x23_2).f1) : Int) := oD
                have q26 : (((rd_T112 l1 x23_2).f1) : Int) < ((x6_2.length : Int) : Int) := oD
                have hcl_ : (((rd_T112 l1 x23_2).f1) : Int).toNat < x6_2.length := by omega
                have hcm_ := (Kd.R_celln 0 HQ33.out (((rd_T112 l1 x23_2).f1) : Int) p26 (by have h9 := (Kd.R_reads' HO_6.out).1; omega)).1
                rw [Ny1920.out, show rdOf 0 (x6_2.set (((rd_T112 l1 x23_2).f1) : Int).toNat t1919) (((rd_T112 l1 x23_2).f1) : Int) = t1919 by simp [rdOf, List.getD_eq_getElem?_getD, hcl_]] at hcm_
                clear hcl_
                have hcn_ : (w32.setCell ⟨go12, (((rd_T112 l1 x23_2).f1) : Int).toNat, none⟩ (.int .i64 t1919)).cell? ⟨gb1917, 1, none⟩ = some (.int .i64 (((rd_T112 l1 x23_2).f1) : Int)) := (blk_cell (blk_far BK1917.out (fun e_ => Kd.R_ne HO_6.out BK1917.out (by decide) (by simp only [Value.ownBlock]; rw [e_])) _) 1).trans rfl
                replace p26 := eq_true p26
                replace q26 := eq_true q26
                try go_wp2
                go_ret2
                exact ⟨_, eR, by first | exact Kd.R_nil _ _ _ _ _ | exact Kd.N_nil _ _ _ _ _ | exact Kd.V_nil _ _ _ _ _ | exact Kd.Q_nil _ _ _ _ _ | exact Kd.S_nil _ _ _ _ _, oB HB⟩
               ·rw [if_neg c27] at H
                have c27b0 : (t1919 == 0) = false := beq_eq_false_iff_ne.mpr c27
                have c27b1 : (t1919 != 0) = true := bne_iff_ne.mpr c27
                have H' := A_ H
                clear H
                have p1916 : 0 ≤ (x23_2 : Int) := oD
                have q1916 : x23_2 < (l1.length : Int) := oD
                obtain ⟨ad1916, e1916, hx1916_0, hx1916_1, hx1916_2, hx1916_3⟩ := at_T112 HR1.out x23_2 p1916 q1916
                cases e1916
                replace hx1916_0 := hW HB hx1916_0
                replace hx1916_1 := hW HB hx1916_1
                replace hx1916_2 := hW HB hx1916_2
                replace hx1916_3 := hW HB hx1916_3
                replace p1916 := eq_true p1916
                replace q1916 := eq_true q1916
                try go_wp2_with (first | ((with_reducible refine gate_dst (N := 8) rfl ?_); refine bX (N := 8) (cs := #[.int .i64 0, .int .i64 0, .int .i64 0, .int .i64 0]) (t := 112) ?_; intro gb1917 hg w35 hbox hb; have n0_ := A_ (Kd.R_below (oR HO_6) hb); have n1_ := A_ (below_step (oB HB) hb); have n2_ := A_ (hbox); have n3_ := A_ ((by rw [hg]; exact (below_size (oB HB)) : w.heap.size ≤ gb1917)); have n4_ := A_ ((by rw [hg]; exact (below_size (oB HB)) : w.heap.size ≤ gb1917)); clear HO_6; clear HB; have HO_6 := n0_; have HB := n1_; have BK1917 := n2_; have GW1917 := n3_; have GE1917 := n4_; clear n0_ n1_ n2_ n3_ n4_; clear hb hbox hg; have hcz36_0 := cz BK1917 0; have hcz36_1 := cz BK1917 1; have hcz36_2 := cz BK1917 2; have hcz36_3 := cz BK1917 3; have hfz36_0 := blk_frozen BK1917.out 0; have hfz36_1 := blk_frozen BK1917.out 1; have hfz36_2 := blk_frozen BK1917.out 2; have hfz36_3 := blk_frozen BK1917.out 3))
                have n0_ : Aside0 (Kd.R (Kd.int .i64) 3 ((((w35.setCell ⟨gb1917, 0, none⟩ (.int .i64 ((rd_T112 l1 x23_2).f0))).setCell ⟨gb1917, 1, none⟩ (.int .i64 ((rd_T112 l1 x23_2).f1))).setCell ⟨gb1917, 2, none⟩ (.int .i64 ((rd_T112 l1 x23_2).f2))).setCell ⟨gb1917, 3, none⟩ (.int .i64 ((rd_T112 l1 x23_2).f3))) w.heap.size (fun _ => True) (.slice (some ⟨go12, 0, none⟩) x6_2.length co12) x6_2) := ⟨by (with_reducible repeat (first | apply Kd.R_alloc | apply Kd.R_drewN | apply Kd.R_drew)); exact Kd.R_mono (Kd.R_far (p := ⟨gb1917, 3, none⟩) (Kd.R_far (p := ⟨gb1917, 2, none⟩) (Kd.R_far (p := ⟨gb1917, 1, none⟩) (Kd.R_far (p := ⟨gb1917, 0, none⟩) (Kd.R_types HO_6.out BK1917.out (by decide)) (fun _ hk => hk.2) (.int .i64 ((rd_T112 l1 x23_2).f0))) (fun _ hk => hk.2) (.int .i64 ((rd_T112 l1 x23_2).f1))) (fun _ hk => hk.2) (.int .i64 ((rd_T112 l1 x23_2).f2))) (fun _ hk => hk.2) (.int .i64 ((rd_T112 l1 x23_2).f3))) (fun _ hk => trivial)⟩
                have n1_ : Aside0 (((((w35.setCell ⟨gb1917, 0, none⟩ (.int .i64 ((rd_T112 l1 x23_2).f0))).setCell ⟨gb1917, 1, none⟩ (.int .i64 ((rd_T112 l1 x23_2).f1))).setCell ⟨gb1917, 2, none⟩ (.int .i64 ((rd_T112 l1 x23_2).f2))).setCell ⟨gb1917, 3, none⟩ (.int .i64 ((rd_T112 l1 x23_2).f3))).heap[gb1917]? = some (.cells #[.int .i64 ((rd_T112 l1 x23_2).f0), .int .i64 ((rd_T112 l1 x23_2).f1), .int .i64 ((rd_T112 l1 x23_2).f2), .int .i64 ((rd_T112 l1 x23_2).f3)] 112 (0, 0))) := ⟨by (with_reducible repeat (first | refine blk_drewN ?_ _ | refine blk_drew ?_ | refine blk_alloc ?_ _)); refine blk_put (cs := #[.int .i64 ((rd_T112 l1 x23_2).f0), .int .i64 ((rd_T112 l1 x23_2).f1), .int .i64 ((rd_T112 l1 x23_2).f2), .int .i64 0]) ?_ 3 _ rfl; (with_reducible repeat (first | refine blk_drewN ?_ _ | refine blk_drew ?_ | refine blk_alloc ?_ _)); refine blk_put (cs := #[.int .i64 ((rd_T112 l1 x23_2).f0), .int .i64 ((rd_T112 l1 x23_2).f1), .int .i64 0, .int .i64 0]) ?_ 2 _ rfl; (with_reducible repeat (first | refine blk_drewN ?_ _ | refine blk_drew ?_ | refine blk_alloc ?_ _)); refine blk_put (cs := #[.int .i64 ((rd_T112 l1 x23_2).f0), .int .i64 0, .int .i64 0, .int .i64 0]) ?_ 1 _ rfl; (with_reducible repeat (first | refine blk_drewN ?_ _ | refine blk_drew ?_ | refine blk_alloc ?_ _)); refine blk_put (cs := #[.int .i64 0, .int .i64 0, .int .i64 0, .int .i64 0]) ?_ 0 _ rfl; (with_reducible repeat (first | refine blk_drewN ?_ _ | refine blk_drew ?_ | refine blk_alloc ?_ _)); exact BK1917.out⟩
                have n2_ : Aside0 (Below w.heap.size w ((((w35.setCell ⟨gb1917, 0, none⟩ (.int .i64 ((rd_T112 l1 x23_2).f0))).setCell ⟨gb1917, 1, none⟩ (.int .i64 ((rd_T112 l1 x23_2).f1))).setCell ⟨gb1917, 2, none⟩ (.int .i64 ((rd_T112 l1 x23_2).f2))).setCell ⟨gb1917, 3, none⟩ (.int .i64 ((rd_T112 l1 x23_2).f3)))) := ⟨oB HB⟩
                (try clear HO_6)
                (try clear BK1917)
                (try clear HB)
                generalize ((((w35.setCell ⟨gb1917, 0, none⟩ (.int .i64 ((rd_T112 l1 x23_2).f0))).setCell ⟨gb1917, 1, none⟩ (.int .i64 ((rd_T112 l1 x23_2).f1))).setCell ⟨gb1917, 2, none⟩ (.int .i64 ((rd_T112 l1 x23_2).f2))).setCell ⟨gb1917, 3, none⟩ (.int .i64 ((rd_T112 l1 x23_2).f3))) = w37 at n0_ n1_ n2_ ⊢
                have HO_6 := n0_
                have BK1917 := n1_
                have HB := n2_
                clear n0_ n1_ n2_
                have n0_ := A_ (Kd.R_drew HO_6.out)
                have n1_ := A_ (blk_drew BK1917.out)
                have n2_ := A_ (below_drew1 HB.out)
                clear HO_6
                clear BK1917
                clear HB
                have HO_6 := n0_
                have BK1917 := n1_
                have HB := n2_
                clear n0_ n1_ n2_
                have p1918 : 0 ≤ (((rd_T112 l1 x23_2).f0) : Int) := oD
                have q1918 : ((rd_T112 l1 x23_2).f0) < (x6_2.length : Int) := oD
                obtain ⟨ad1918, e1918, hx1918_0⟩ := Kd.at_int (Kd.R_reads' HO_6.out).2.2 ((rd_T112 l1 x23_2).f0) p1918 q1918
                obtain rfl : (⟨go12, 0, none⟩ : Addr) = ad1918 := (by injection e1918)
                (first | simp only [add_plain] at hx1918_0 | simp only [add_at] at hx1918_0 | simp only [Addr.add, Nat.zero_add] at hx1918_0 | skip)
                replace p1918 := eq_true p1918
                replace q1918 := eq_true q1918
                refine start_ (n := 15) (S := fun w' => w'.cell? ⟨gb1917, 0, none⟩ = some (.int .i64 ((rd_T112 l1 x23_2).f0)) ∧ w'.cell? ⟨gb1917, 1, none⟩ = some (.int .i64 ((rd_T112 l1 x23_2).f1)) ∧ w'.cell? ⟨gb1917, 2, none⟩ = some (.int .i64 ((rd_T112 l1 x23_2).f2)) ∧ w'.cell? ⟨gb1917, 3, none⟩ = some (.int .i64 ((rd_T112 l1 x23_2).f3)) ∧ w'.cell? ⟨go12, (((rd_T112 l1 x23_2).f0)).toNat, none⟩ = some (.int .i64 (rd x6_2 ((rd_T112 l1 x23_2).f0)))) (ds := [14]) #[false, false, false, false, false, false, false, false, false, false, false, false, false, false, false] (by kernel_rfl) rfl rfl ⟨cz BK1917 0, cz BK1917 1, cz BK1917 2, cz BK1917 3, hx1918_0⟩ (fun hHeld => ?_); refine with_tabW impl_RunPlan.tab8 impl_RunPlan.bits8 (fun HT_ HW_ => ?_)
                generalize w37.drew = w38 at HO_6 BK1917 HB hx1918_0 hHeld ⊢
                refine pA 0 (some 27) HT_.out ?_
                refine pA 1 (some 28) HT_.out ?_
                refine pA 3 (some 30) HT_.out ?_
                refine pA 4 (some 31) HT_.out ?_
                refine pA 8 (some 35) HT_.out ?_
                refine pA 10 (some 37) HT_.out ?_
                refine pT 2 (some 29) HT_.out HW_.out hHeld ?_
                refine pT 5 (some 32) HT_.out HW_.out hHeld ?_
                refine pA 6 (some 33) HT_.out ?_
                refine pT 7 (some 34) HT_.out HW_.out hHeld ?_
                refine pT 9 (some 36) HT_.out HW_.out hHeld ?_
                refine pT 11 (some 38) HT_.out HW_.out hHeld ?_
                refine one_ (i := 12) (N := some 39) #[true, true, true, true, true, true, true, true, true, true, true, true, true, false, false] rfl rfl (one_of HT_.out (by kernel_rfl)) (by decide) (fun K hK => ?_)
                refine goes_ Tryz.func91 (by kernel_rfl) rfl #[.int .i64 (rd x6_2 ((rd_T112 l1 x23_2).f0)), .int .i64 ((rd_T112 l1 x23_2).f2), .int .i64 ((rd_T112 l1 x23_2).f3)] (by rfl) rfl rfl (by (try simp only [List.map_toArray, List.map_cons, List.map_nil]); first | done | rfl | (simp only [List.length_drop, List.length_take]; rfl)) ?_
                with_reducible refine (impl_TunedPitch.calls k2 (rd x6_2 ((rd_T112 l1 x23_2).f0)) ((rd_T112 l1 x23_2).f2) ((rd_T112 l1 x23_2).f3) t1919 _ A22.out).mono ?_
                rintro e w39 ⟨rfl, hb⟩
                have HS4_ := (hb.cell (World.block_lt_of_cell? _ _ (hHeld.2.2.2.2))).trans (hHeld.2.2.2.2)
                refine ⟨_, rfl, ?_⟩
                have n0_ := A_ (Kd.R_below (oR HO_6) hb)
                have n1_ := A_ (bb BK1917 hb)
                have n2_ := A_ (below_step (oB HB) hb)
                clear HO_6
                clear BK1917
                clear HB
                have HO_6 := n0_
                have BK1917 := n1_
                have HB := n2_
                clear n0_ n1_ n2_
                (try clear hb)
                (try clear hb2)
                (try clear hk)
                (try clear hi)
                have p25 : 0 ≤ (((rd_T112 l1 x23_2).f1) : Int) := oD
                have q25 : (((rd_T112 l1 x23_2).f1) : Int) < ((x6_2.length : Int) : Int) := oD
                obtain ⟨hx25_0, hf25_0⟩ := Kd.R_celln 0 HO_6.out (((rd_T112 l1 x23_2).f1) : Int) p25 q25
                replace p25 := eq_true p25
                replace q25 := eq_true q25
                have HP40 := Kd.R_putn HO_6.out (((rd_T112 l1 x23_2).f1) : Int) t1919
                rw [← Ny1920.out] at HP40
                have HQ40 := A_ HP40
                clear HP40
                refine hK.out _ _ ⟨cz BK1917 0, cz BK1917 1, cz BK1917 2, cz BK1917 3, HS4_⟩ (fun hHeld => ?_)
                clear hK K
                refine norm_ (a' := ?_) ?_ ?_
                rotate_left
                ·show Act.put _ (some 39) _ = _
                 simp only [Act.put, List.setIfInBounds_toArray, List.set_cons_zero, List.set_cons_succ, i64_w, i32_w]
                 rfl
                refine pA 13 (some 40) HT_.out ?_
                refine last_ (i := 14) (N := none) #[true, true, true, true, true, true, true, true, true, true, true, true, true, true, true] rfl rfl (one_of HT_.out (by kernel_rfl)) (by decide) (fun K hK => ?_)
                refine skip_ (w1 := ?_) (by rfl) rfl ?_ ?_
                rotate_left
                ·go_simp
                 rfl
                refine hK.out _ _ ?_
                clear hK K
                refine done_ (done_of HT_.out (by kernel_rfl)) ?_
                have hcz41_0 := cz BK1917 0
                have hcz41_1 := cz BK1917 1
                have hcz41_2 := cz BK1917 2
                have hcz41_3 := cz BK1917 3
                have hfz41_0 := blk_frozen BK1917.out 0
                have hfz41_1 := blk_frozen BK1917.out 1
                have hfz41_2 := blk_frozen BK1917.out 2
                have hfz41_3 := blk_frozen BK1917.out 3
                have p26 : 0 ≤ (((rd_T112 l1 x23_2).f1) : Int) := oD
                have q26 : (((rd_T112 l1 x23_2).f1) : Int) < ((x6_2.length : Int) : Int) := oD
                have hcl_ : (((rd_T112 l1 x23_2).f1) : Int).toNat < x6_2.length := by omega
                have hcm_ := (Kd.R_celln 0 HQ40.out (((rd_T112 l1 x23_2).f1) : Int) p26 (by have h9 := (Kd.R_reads' HO_6.out).1; omega)).1
                rw [Ny1920.out, show rdOf 0 (x6_2.set (((rd_T112 l1 x23_2).f1) : Int).toNat t1919) (((rd_T112 l1 x23_2).f1) : Int) = t1919 by simp [rdOf, List.getD_eq_getElem?_getD, hcl_]] at hcm_
                clear hcl_
                have hcn_ : (w39.setCell ⟨go12, (((rd_T112 l1 x23_2).f1) : Int).toNat, none⟩ (.int .i64 t1919)).cell? ⟨gb1917, 1, none⟩ = some (.int .i64 (((rd_T112 l1 x23_2).f1) : Int)) := (blk_cell (blk_far BK1917.out (fun e_ => Kd.R_ne HO_6.out BK1917.out (by decide) (by simp only [Value.ownBlock]; rw [e_])) _) 1).trans rfl
                replace p26 := eq_true p26
                replace q26 := eq_true q26
                try go_wp2
                (try simp only [← hl6_2])
                go_roundg k2
                case measure => have := HJ2.out; have := HK2.out; omega
                case rel => exact ⟨(y1920), (wrap64 (x23_2 + 1)), eS, H', ⟨by have := HJ2.out; have := HK2.out; omega⟩, ⟨by (try simp only [hl6_2]); (with_reducible repeat (first | apply Kd.R_alloc | apply Kd.R_drewN | apply Kd.R_drew)); exact HQ40.out⟩, ⟨oB HB⟩⟩
              ·rw [if_neg c24] at H
               exact absurd H (by simp)
             ·rw [if_neg c23] at H
              exact absurd H (by simp)
            ·rw [if_neg c21] at H
             exact absurd H (by simp)
           ·rw [if_neg c20] at H
            exact absurd H (by simp)
          ·rw [if_neg c19] at H
           exact absurd H (by simp)
         ·rw [if_neg c18] at H
          exact absurd H (by simp)
        ·rw [if_neg c17] at H
         have c17b0 : decide (x23_2 < (l1.length : Int)) = false := decide_eq_false c17
         clear c17
         simp only [Option.some.injEq, Prod.mk.injEq] at H
         obtain ⟨rfl, rfl⟩ := H
         go_wp2
         go_ret2
         exact ⟨_, eR, oR HO_6, oB HB⟩
     ·rw [if_neg c11] at H
      exact absurd H (by simp)
    ·rw [if_neg c10] at H
     exact absurd H (by simp)
end Go.Proofs.YtanhnhkcpbdfmaaGreat.P
namespace Go.Proofs.YtanhnhkcpbdfmaaGreat.Q
open Go.RowKit Go.Proofs.YtanhnhkcpbdfmaaGreat.P
def lastOk (l : List S104) (m : Int) : Prop := l.length = 0 ∨ (l.getD (l.length - 1) z104).f2 ≤ m
instance (l : List S104) (m : Int) : Decidable (lastOk l m) := by unfold lastOk; exact inferInstance
def shopOk (p : List S112) (d : Int) (q : List Int) (a m : Int) (l : List S104) : Bool := workOk p d q && (logOk l && (decide (-10 ≤ a ∧ a ≤ 40) && (decide (0 ≤ m ∧ m ≤ 100000) && decide (lastOk l m))))
theorem shopOk_iff {p : List S112} {d : Int} {q : List Int} {a m : Int} {l : List S104} : shopOk p d q a m l = true ↔ workOk p d q = true ∧ logOk l = true ∧ (-10 ≤ a ∧ a ≤ 40) ∧ (0 ≤ m ∧ m ≤ 100000) ∧ lastOk l m := by
  unfold shopOk; simp only [Bool.and_eq_true, decide_eq_true_eq]
end Go.Proofs.YtanhnhkcpbdfmaaGreat.Q
namespace Go.Proofs.YtanhnhkcpbdfmaaGreat.Q
open Go.RowKit Go.Proofs.YtanhnhkcpbdfmaaGreat.P Go.Proofs.YtanhnhkcpbdfmaaGreatW.PrintWords
theorem within_eq (a b c : Int) : impl_within.f a b c = some (decide (b ≤ a ∧ a ≤ c)) := by
  unfold impl_within.f; by_cases h : b ≤ a <;> simp [h]
theorem l01In_eq (a b c : Int) : spec_l01In.f a b c = some (decide (b ≤ a ∧ a ≤ c)) := by
  unfold spec_l01In.f; by_cases h : a ≥ b
  · rw [if_pos h]; simp [show b ≤ a from h]
  · rw [if_neg h]; simp [show ¬ b ≤ a from h]
end Go.Proofs.YtanhnhkcpbdfmaaGreat.Q
namespace Go.Proofs.YtanhnhkcpbdfmaaGreat.Q
open Go.RowKit Go.Proofs.YtanhnhkcpbdfmaaGreat.P Go.Proofs.YtanhnhkcpbdfmaaGreatW.PrintWords Go.Proofs.YtanhnhkcpbdfmaaGreatW.PrintMore
def fine (n : Int) : Bool := decide (1 ≤ n ∧ n ≤ 10000000)
theorem pitch_eq (n : Int) : spec_l18Pitch.f n = some (fine n) := by unfold spec_l18Pitch.f; rw [l01In_eq]; rfl
theorem isFine_eq (n : Int) : impl_isFine.f n = some (fine n) := by unfold impl_isFine.f; rw [within_eq]; rfl
def orZero (n : Int) : Int := if fine n = true then n else 0
def tunedPitch (a k b : Int) : Int :=
  if fine a = true then
    if 0 ≤ b ∧ b ≤ 100000 then
      if k = 1 then orZero (wrap64 (Int.tdiv (mx (wrap64 ((wrap64 (3 * a)) - b)) 0) 2))
      else if k = 2 then orZero (wrap64 (Int.tdiv (mx (wrap64 ((wrap64 (3 * a)) - b)) 0) 4))
      else if k = 3 then if b = 0 then orZero (wrap64 (2 * a)) else 0
      else if k = 4 then if b = 0 then orZero (wrap64 (Int.tdiv a 2)) else 0
      else 0
    else 0
  else 0
theorem mx_comm (a b : Int) : mx a b = mx b a := by unfold mx; split <;> split <;> omega
theorem evz {n : Int} {x : Option Bool} (h : x = some (fine n)) : Ev (fun _ => x.bind fun t => if t = true then some n else some 0) (orZero n) := by
  subst h; simp only [Option.bind_some]; unfold orZero; by_cases h : fine n = true
  · rw [if_pos h, if_pos h]; exact Ev.now _
  · rw [if_neg h, if_neg h]; exact Ev.now _
theorem tuned_impl (a k b : Int) : Ev (fun n => impl_TunedPitch.f n a k b) (tunedPitch a k b) := by
  have jt : Ev (fun n => impl_TunedPitch.j0 n a k b true) 0 := Ev.step (fun n => by rw [impl_TunedPitch.j0]) (evp rfl (Ev.now _))
  unfold impl_TunedPitch.f
  refine evb (isFine_eq a) ?_
  unfold tunedPitch
  by_cases ha : fine a = true
  rotate_left
  · exact rneg ha <| evn ha jt
  refine rpos ha <| evp ha (evb (within_eq _ _ _) ?_)
  by_cases hb : 0 ≤ b ∧ b ≤ 100000
  rotate_left
  · exact rneg hb <| evn (by simpa using hb) jt
  refine rpos hb <| evp (by simpa using hb) ?_
  have jf : (k = 3 ∨ k = 4 → b = 0) → Ev (fun n => impl_TunedPitch.j0 n a k b false) (if k = 1 then orZero (wrap64 (Int.tdiv (mx (wrap64 ((wrap64 (3 * a)) - b)) 0) 2))
      else if k = 2 then orZero (wrap64 (Int.tdiv (mx (wrap64 ((wrap64 (3 * a)) - b)) 0) 4))
      else if k = 3 then if b = 0 then orZero (wrap64 (2 * a)) else 0
      else if k = 4 then if b = 0 then orZero (wrap64 (Int.tdiv a 2)) else 0
      else 0) := by
    intro h0
    refine Ev.step (fun n => by rw [impl_TunedPitch.j0]) (evn (by decide) ?_)
    by_cases h1 : k = 1
    · exact rpos h1 <| evp h1 (evz (isFine_eq _))
    refine rneg h1 <| evn h1 ?_
    by_cases h2 : k = 2
    · exact rpos h2 <| evp h2 (evz (isFine_eq _))
    refine rneg h2 <| evn h2 ?_
    by_cases h3 : k = 3
    · exact rpos h3 <| rpos (h0 (.inl h3)) <| evp h3 (evz (isFine_eq _))
    refine rneg h3 <| evn h3 ?_
    by_cases h4 : k = 4
    · exact rpos h4 <| rpos (h0 (.inr h4)) <| evp h4 (evz (isFine_eq _))
    refine rneg h4 <| evn h4 ?_
    refine evb (isFine_eq _) (evn (by decide) (Ev.now _))
  by_cases b0 : b = 0
  · exact evp b0 (jf fun _ => b0)
  refine evn b0 ?_
  by_cases h3 : k = 3
  · refine evp h3 ?_
    exact rneg (by omega) <| rneg (by omega) <| rpos h3 <| rneg b0 jt
  refine evn h3 ?_
  by_cases h4 : k = 4
  · rw [show (k == 4) = true by simp [h4]]; exact rneg (by omega) <| rneg (by omega) <| rneg (by omega) <| rpos h4 <| rneg b0 jt
  · rw [show (k == 4) = false by simp [h4]]; exact jf (by omega)
theorem tuned_spec (a k b : Int) : Ev (fun n => spec_TunedPitch.f n a k b) (tunedPitch a k b) := by
  have jt : Ev (fun n => spec_TunedPitch.j0 n a k b true) 0 := Ev.step (fun n => by rw [spec_TunedPitch.j0]) (evp rfl (Ev.now _))
  unfold spec_TunedPitch.f
  refine evb (pitch_eq a) ?_
  unfold tunedPitch
  by_cases ha : fine a = true
  rotate_left
  · exact rneg ha <| evn ha jt
  refine rpos ha <| evp ha (evb (l01In_eq _ _ _) ?_)
  by_cases hb : 0 ≤ b ∧ b ≤ 100000
  rotate_left
  · rw [show (!decide (0 ≤ b ∧ b ≤ 100000)) = true by rw [decide_eq_false hb]; rfl]; exact rneg hb jt
  rw [show (!decide (0 ≤ b ∧ b ≤ 100000)) = false by rw [decide_eq_true hb]; rfl]
  refine rpos hb ?_
  have j2t : Ev (fun n => spec_TunedPitch.j2 n a 0 true) (orZero (wrap64 (Int.tdiv a 2))) := Ev.step (fun n => by rw [spec_TunedPitch.j2]) (evp rfl (evz (pitch_eq _)))
  have j2f : Ev (fun n => spec_TunedPitch.j2 n a 0 false) 0 := Ev.step (fun n => by rw [spec_TunedPitch.j2]) (evn (by decide) (evz (pitch_eq 0)))
  refine Ev.step (fun n => by rw [spec_TunedPitch.j0]) (evn (by decide) ?_)
  by_cases h1 : k = 1
  · rw [mx_comm 0]; exact rpos h1 <| evp h1 (evz (pitch_eq _))
  refine rneg h1 <| evn h1 ?_
  by_cases h2 : k = 2
  · rw [mx_comm 0]; exact rpos h2 <| evp h2 (evz (pitch_eq _))
  refine rneg h2 <| evn h2 ?_
  have j1f : Ev (fun n => spec_TunedPitch.j1 n a k b 0 false) (if k = 4 then if b = 0 then orZero (wrap64 (Int.tdiv a 2)) else 0 else 0) := by
    refine Ev.step (fun n => by rw [spec_TunedPitch.j1]) (evn (by decide) ?_)
    by_cases h4 : k = 4
    · refine rpos h4 <| evp h4 ?_
      by_cases b0 : b = 0
      · rw [show (b == 0) = true by simp [b0]]; exact rpos b0 j2t
      · rw [show (b == 0) = false by simp [b0]]; exact rneg b0 j2f
    · exact rneg h4 <| evn h4 j2f
  by_cases h3 : k = 3
  · refine rpos h3 <| evp h3 ?_
    by_cases b0 : b = 0
    · rw [show (b == 0) = true by simp [b0]]
      exact rpos b0 <| Ev.step (fun n => by rw [spec_TunedPitch.j1]) (evp rfl (evz (pitch_eq _)))
    · rw [show (b == 0) = false by simp [b0]]
      rw [if_neg (by omega)] at j1f
      exact rneg b0 j1f
  exact rneg h3 <| evn h3 j1f
def usualKind (i : Nat) : Int := if i = 0 ∨ i = 2 ∨ i = 4 ∨ i = 7 ∨ i = 9 then 1 else 2
def usualPlan (b : Int) : List S112 := if 0 ≤ b ∧ b ≤ 5000 then (List.range 11).map (fun (i : Nat) => ⟨(i : Int), (i : Int) + 1, usualKind i, b⟩) else []
theorem usual_kinds : ∀ i : Nat, i < 11 → rd [1, 2, 1, 2, 1, 2, 2, 1, 2, 1, 2] (i : Int) = usualKind i := by decide
theorem usual_spec (b : Int) : Ev (fun k => spec_UsualPlan.f k b) (usualPlan b) := by
  unfold spec_UsualPlan.f usualPlan
  by_cases hb : 0 ≤ b ∧ b ≤ 5000
  rotate_left
  · refine rneg hb (Ev.step (fun k => by rw [spec_UsualPlan.l0]) (evp (by decide) (evb (l01In_eq _ _ _) (evn (bfalse hb) (Ev.now _)))))
  refine rpos hb ?_
  have key : ∀ i : Nat, i ≤ 11 → Ev (fun k => spec_UsualPlan.l0 k b ((List.range i).map (fun (i : Nat) => (⟨(i : Int), (i : Int) + 1, usualKind i, b⟩ : S112))) (i : Int)) ((List.range 11).map (fun (i : Nat) => ⟨(i : Int), (i : Int) + 1, usualKind i, b⟩)) := by
    refine down (n := 11) ?_ ?_
    · exact Ev.step (fun k => by rw [spec_UsualPlan.l0]) (evn (by decide) (Ev.now _))
    · intro i hi ih
      refine Ev.step (fun k => by rw [spec_UsualPlan.l0]) ?_
      refine evp (by omega) (evb (l01In_eq _ _ _) ?_)
      refine evp (btrue hb) (evb rfl ?_)
      refine evp (by omega) ?_
      refine evp (by simp; omega) ?_
      refine evp (by simp; omega) ?_
      rw [usual_kinds i hi, w64 (n := (i : Int) + 1) (by omega) (by omega)]
      rw [List.range_succ, List.map_append] at ih
      exact ih
  exact key 0 (by omega)
def gStep (i : Nat) (x : S112) : Prop := x.f0 = i ∧ x.f1 = (i : Int) + 1 ∧ (x.f2 = 2 ∨ x.f2 = usualKind i) ∧ 0 ≤ x.f3 ∧ x.f3 < 1500
def gPlan (p : List S112) : Prop := p.length ≤ 11 ∧ ∀ i (h : i < p.length), gStep i p[i]
theorem gPlan_usual (b : Int) (h : 0 ≤ b ∧ b < 1500) : gPlan (usualPlan b) ∧ (usualPlan b).length = 11 := by
  unfold usualPlan
  rw [if_pos (by omega)]
  refine ⟨⟨by simp, fun i hi => ?_⟩, by simp⟩
  simp only [List.getElem_map, List.getElem_range]
  exact ⟨rfl, rfl, .inr rfl, h.1, h.2⟩
theorem gPlan_take {p : List S112} (h : gPlan p) (n : Nat) : gPlan (p.take n) := by
  refine ⟨by have := h.1; simp; omega, fun i hi => ?_⟩
  rw [List.getElem_take]
  exact h.2 i _
end Go.Proofs.YtanhnhkcpbdfmaaGreat.Q
namespace Go.Proofs.YtanhnhkcpbdfmaaGreat.P
open Go.RowKit Go.Proofs.YtanhnhkcpbdfmaaGreatW.PrintWords Go.Proofs.YtanhnhkcpbdfmaaGreatW.PrintLast Go.Proofs.YtanhnhkcpbdfmaaGreatW.PrintMore
open Go.Maps (Keyed)
theorem mapLaidOut : laidOutB Tryz.prog = true := by kernel_rfl
theorem pipeLaw : WideMaps.KeyLaw Tryz.prog 74 := deep_law_gate mapLaidOut (of_decide_eq_true (by kernel_rfl)) (of_decide_eq_true (by kernel_rfl)) (by kernel_rfl) (by kernel_rfl)
theorem pipeKeyed : Keyed Tryz.prog 74 := Keyed.of_law pipeLaw
def wf64 (a : Int) : Prop := (Lit.int .i64 a).wf = true
theorem wf64_of {a : Int} (h : -9223372036854775808 ≤ a) (h2 : a ≤ 9223372036854775807) : wf64 a := by
  have e1 : IntKind.i64.min = -9223372036854775808 := by decide
  have e2 : IntKind.i64.max = 9223372036854775807 := by decide
  unfold wf64 Lit.wf
  simp [e1, e2]
  omega
def pairV (a b : Int) : Value := .agg #[.int .i64 a, .int .i64 b]
def quadV (x : S104) : Value := .agg #[.int .i64 x.f0.f0, .int .i64 x.f0.f1, .int .i64 x.f1, .int .i64 x.f2]
theorem pipe_cells : Tryz.prog.cellsOf 74 = 2 := by kernel_rfl
theorem int_cells : Tryz.prog.cellsOf 3 = 1 := by kernel_rfl
theorem types_succ : ∃ m, Tryz.prog.types.size = m + 1 := ⟨Tryz.prog.types.size - 1, by have : 0 < Tryz.prog.types.size := of_decide_eq_true (by kernel_rfl); omega⟩
theorem keyLits_int (m : Nat) (v : Value) : Tryz.prog.keyLits (m + 1) 3 [v] = (match v with | .int q' n => if q' = .i64 ∧ (Lit.int .i64 n).wf = true then some [.int .i64 n] else none | _ => none) := by
  simp only [Program.keyLits, Tryz.underlying3]
  cases v <;> rfl
def pipeL (a b : Int) : Lit := .string (keyBytes [.int .i64 a, .int .i64 b])
theorem keyOf_pipe {a b : Int} (ha : wf64 a) (hb : wf64 b) : keyOf Tryz.prog 74 (pairV a b) = some (pipeL a b) := by
  obtain ⟨m, hm⟩ := types_succ
  have kt : Tryz.prog.keyType 74 = true := by kernel_rfl
  unfold wf64 at ha hb
  have fm : (pairV a b).formed Tryz.prog 74 = true := by simp [pairV, Value.formed, Tryz.underlying74, pipe_cells]
  have hl : Tryz.prog.keyLits (m + 1 + 1) 74 [.int .i64 a, .int .i64 b] = some [.int .i64 a, .int .i64 b] := by
    unfold Program.keyLits
    simp only [Tryz.underlying74]
    simp [pipe_cells, int_cells, keyLits_int, ha, hb]
  rw [← hm] at hl
  unfold keyOf
  simp only [Tryz.underlying74, kt, fm, Bool.and_self, if_true, Option.map_eq_some_iff]
  exact ⟨_, hl, rfl⟩
theorem keyOf_pipe_inv {v : Value} {l : Lit} (h : keyOf Tryz.prog 74 v = some l) : ∃ a b, v = pairV a b ∧ wf64 a ∧ wf64 b := by
  obtain ⟨m, hm⟩ := types_succ
  have kt : Tryz.prog.keyType 74 = true := by kernel_rfl
  unfold keyOf at h
  simp only [Tryz.underlying74, kt, Bool.true_and] at h
  split at h
  case isFalse => cases h
  case isTrue hf =>
    cases v <;> simp [Value.formed, Tryz.underlying74, pipe_cells] at hf
    rename_i cs
    obtain ⟨c0, c1, rfl⟩ : ∃ c0 c1, cs = #[c0, c1] := by
      rcases cs with ⟨_ | ⟨x, _ | ⟨y, _ | ⟨z, t⟩⟩⟩⟩ <;> simp at hf ⊢
    simp only [Option.map_eq_some_iff] at h
    obtain ⟨ls, h, _⟩ := h
    rw [hm] at h
    replace h : Tryz.prog.keyLits (m + 1 + 1) 74 [c0, c1] = some ls := h
    unfold Program.keyLits at h
    simp only [Tryz.underlying74] at h
    simp [pipe_cells, int_cells, keyLits_int] at h
    cases c0 <;> simp at h
    rename_i k0 n0
    by_cases e0 : k0 = .i64 ∧ (Lit.int .i64 n0).wf = true
    · obtain ⟨rfl, e0⟩ := e0
      cases c1 <;> simp [e0] at h
      rename_i k1 n1
      by_cases e1 : k1 = .i64 ∧ (Lit.int .i64 n1).wf = true
      · obtain ⟨rfl, e1⟩ := e1
        exact ⟨_, _, rfl, e0, e1⟩
      · simp [e1] at h
    · simp [e0] at h
instance pipeDec : DecidableEq S74 := fun a b => decidable_of_iff (a.f0 = b.f0 ∧ a.f1 = b.f1) ⟨fun h => by obtain ⟨x, y⟩ := a; obtain ⟨z, u⟩ := b; simp only at h; obtain ⟨rfl, rfl⟩ := h; rfl, fun h => by rw [h]; exact ⟨rfl, rfl⟩⟩
abbrev pipeR (v : Value) : Option (DataW Unit × List MemPlace) :=
  match v with
  | .agg ⟨[.int .i64 a, .int .i64 b, .int .i64 c, .int .i64 d]⟩ => some (.agg [.lit (.int .i64 a), .lit (.int .i64 b), .lit (.int .i64 c), .lit (.int .i64 d)], [])
  | _ => none
def quadD (x : S104) : DataW Unit := .agg [.lit (.int .i64 x.f0.f0), .lit (.int .i64 x.f0.f1), .lit (.int .i64 x.f1), .lit (.int .i64 x.f2)]
theorem pipeR_mk (x : S104) : pipeR (quadV x) = some (quadD x, []) := rfl
theorem pipeR_inv {v : Value} {y : DataW Unit × List MemPlace} (h : pipeR v = some y) : ∃ x : S104, v = quadV x ∧ y = (quadD x, []) := by
  unfold pipeR at h
  split at h
  · exact ⟨⟨⟨_, _⟩, _, _⟩, rfl, (Option.some.inj h).symm⟩
  · cases h
theorem quadD_inj {x y : S104} (h : quadD x = quadD y) : x = y := by
  obtain ⟨⟨a, b⟩, c, d⟩ := x
  obtain ⟨⟨a', b'⟩, c', d'⟩ := y
  simp [quadD] at h
  obtain ⟨rfl, rfl, rfl, rfl⟩ := h
  rfl
structure MapIs (D : DataW Unit) (m : S74 → Option S104) : Prop where
  isMap : Maps.IsMap D
  at_ : ∀ p : S74, wf64 p.f0 → wf64 p.f1 → ∀ z, D.atKey (pipeL p.f0 p.f1) z = ((m p).map quadD).getD z
theorem mapIs_empty : MapIs (.map []) (fun _ => none) := ⟨Maps.isMap_empty, fun _ _ _ _ => rfl⟩
theorem pipeL_inj {a b a' b' : Int} (ha : wf64 a) (hb : wf64 b) (ha' : wf64 a') (hb' : wf64 b') (h : pipeL a b = pipeL a' b') : a = a' ∧ b = b' := by
  have h1 := keyOf_pipe ha hb
  have h2 := keyOf_pipe ha' hb'
  rw [← h] at h2
  have e := pipeKeyed.inj h1 h2
  simp [pairV] at e
  exact e
theorem MapIs.put {D : DataW Unit} {m : S74 → Option S104} (h : MapIs D m) (p : S74) (ha : wf64 p.f0) (hb : wf64 p.f1) (x : S104) :
    MapIs (D.put (pipeL p.f0 p.f1) (quadD x)) (fun q => if q = p then some x else m q) := by
  refine ⟨h.isMap.put _ _, fun q hq0 hq1 z => ?_⟩
  by_cases e : q = p
  · subst e
    rw [Maps.atKey_put_same h.isMap (pipeKeyed.key (keyOf_pipe ha hb))]
    simp
  · have hne : pipeL q.f0 q.f1 ≠ pipeL p.f0 p.f1 := fun hh => e (by
      have := pipeL_inj hq0 hq1 ha hb hh
      obtain ⟨a, b⟩ := q
      obtain ⟨c, d⟩ := p
      simp only at this
      obtain ⟨rfl, rfl⟩ := this
      rfl)
    rw [Maps.atKey_put_other hne, h.at_ q hq0 hq1]
    simp [e]
def lastMap (l : List S104) (p : S74) : Option S104 := l.foldl (fun o x => if p = x.f0 then some x else o) none
theorem lastMap_snoc (l : List S104) (x : S104) : lastMap (l ++ [x]) = fun q => if q = x.f0 then some x else lastMap l q := by
  funext q
  simp [lastMap]
abbrev pipeMap (w : World) (b n : Nat) (l : List S104) : Prop := ∃ D, w.ownsMap Tryz.prog 74 pipeR b n D ∧ MapIs D (lastMap l)
set_option maxHeartbeats 4000000 in
set_option maxRecDepth 100000 in
theorem impl_lastOf.calls (A0 : Option Addr) (c0 : Nat) (l0 : List S104) (w : World) (hr0 : Kd.C k104 w A0 l0.length l0) (hc0 : l0.length ≤ c0) (hl : l0.length ≤ 1000) (hw : ∀ x ∈ l0, wf64 x.f0.f0 ∧ wf64 x.f0.f1) :
    Calls Tryz.prog 92 #[.slice A0 l0.length c0] w fun e w' => ∃ b : Nat, e = .returned (.map (some b)) ∧ w.heap.size ≤ b ∧ pipeMap w' b l0.length l0 ∧ Below w.heap.size w w' := by
  have HR0 := Aside0.mk hr0
  have HW := Aside0.mk hw
  have HB := Aside0.mk (Below.refl w.heap.size w)
  clear hr0 hw
  have hown0 := World.ownsMap_made w Tryz.prog 74 pipeR
  have HO := Aside0.mk hown0
  clear hown0
  have hmm := @run_makeMap Tryz.prog
  go_enter Tryz.func92, Tryz.ntmps92
  go_wp2
  go_loopg [9] (l0.length + 1) (fun kq v9 w' => ∃ (i : Nat), v9 = .int .i64 (i : Int) ∧ Aside0 (i + kq = l0.length + 1) ∧ Aside0 (i ≤ l0.length) ∧ Aside0 (pipeMap w' w.heap.size i (l0.take i)) ∧ Aside0 (Below w.heap.size w w'))
  case atStart =>
    exact ⟨0, rfl, ⟨by omega⟩, ⟨by omega⟩, ⟨⟨_, HO.out, mapIs_empty⟩⟩, ⟨below_alloc HB.out _⟩⟩
  case round =>
    clear HB HO
    obtain ⟨i, rfl, HI1, HI2, HM, HB⟩ := hrel
    by_cases hlt : i < l0.length
    · have hb3 : decide ((i : Int) < (l0.length : Int)) = true := decide_eq_true (by omega)
      have hb4 : decide (i < l0.length) = true := decide_eq_true (by omega)
      obtain ⟨ad, e, hx0, hx1, hx2, hx3⟩ := at_T104 HR0.out (i : Int) (by omega) (by omega)
      cases e
      replace hx0 := (HB.out.cell (World.block_lt_of_cell? w _ hx0)).trans hx0
      replace hx1 := (HB.out.cell (World.block_lt_of_cell? w _ hx1)).trans hx1
      replace hx2 := (HB.out.cell (World.block_lt_of_cell? w _ hx2)).trans hx2
      replace hx3 := (HB.out.cell (World.block_lt_of_cell? w _ hx3)).trans hx3
      obtain ⟨x, hx⟩ : ∃ x, rd_T104 l0 (i : Int) = x := ⟨_, rfl⟩
      rw [hx] at hx0 hx1 hx2 hx3
      simp only [Int.toNat_natCast] at hx0 hx1 hx2 hx3
      have e0 : l0[i] = x := by rw [← hx]; simp [rd_T104, List.getD_eq_getElem?_getD, hlt]
      obtain ⟨q1, q2⟩ := HW.out x (by rw [← e0]; exact List.getElem_mem hlt)
      have HT : Aside0 (l0.take (i + 1) = l0.take i ++ [x]) := ⟨by rw [List.take_succ_eq_append_getElem hlt, e0]⟩
      have HQ := Aside0.mk q1
      have HQ2 := Aside0.mk q2
      obtain ⟨D, hD, hD2⟩ := HM.out
      have HD := Aside0.mk hD
      have HD2 := Aside0.mk hD2
      have HLT := Aside0.mk hlt
      clear hx e0 q1 q2 HM hD hD2
      go_wp2_with (first | (at_mapUpdate; refine wpList_mapUpdate_own _ rfl _ _ _ 114 rfl 74 104 pipeKeyed Tryz.underlying114 pipeR w.heap.size i D rfl (HD.out.alloc _) (show i < maxLen from Nat.lt_of_le_of_lt (show i ≤ 1000 by omega) (by decide)) (pairV x.f0.f0 x.f0.f1) (quadV x) _ rfl rfl (keyOf_pipe HQ.out HQ2.out) (quadD x) [] (pipeR_mk x) ?_; intro w2 h2 hg2; have H2 := Aside0.mk h2; have HG2 := Aside0.mk hg2; clear h2 hg2))
      go_roundg (l0.length - i)
      case measure => have := HI1.out; omega
      case rel =>
        refine ⟨i + 1, by go_num, ⟨by omega⟩, ⟨by omega⟩, ⟨⟨_, H2.out, ?_⟩⟩, ⟨?_⟩⟩
        · rw [HT.out, lastMap_snoc]
          exact MapIs.put HD2.out x.f0 HQ.out HQ2.out x
        · exact (below_alloc HB.out _).grown HG2.out (below_alloc HB.out _).size (fun k hk => by cases hk; exact Nat.le_refl _)
    · have hb3 : decide ((i : Int) < (l0.length : Int)) = false := decide_eq_false (by omega)
      have hb4 : decide (i < l0.length) = false := decide_eq_false (by omega)
      obtain rfl : i = l0.length := by have := HI2.out; omega
      go_wp2
      go_ret
      exact ⟨w.heap.size, rfl, Nat.le_refl _, by simpa using HM.out, HB.out⟩
def faultOf (l : List S104) (p : S74) : Int := ((lastMap l p).getD z104).f1
instance (a : Int) : Decidable (wf64 a) := by unfold wf64; infer_instance
theorem zero_entry (w : World) : (zeroValue 104).run Tryz.prog w = .ok (quadV z104) w := by kernel_rfl
theorem field_fault (a b c d : Int) (w : World) : (Instr.field 104 (.agg #[.int .i64 a, .int .i64 b, .int .i64 c, .int .i64 d]) 1).run Tryz.prog w = .ok (.int .i64 c) w := by kernel_rfl
theorem lookup_pipe {w : World} {b n : Nat} {D : DataW Unit} {m : S74 → Option S104} (h : w.ownsMap Tryz.prog 74 pipeR b n D) (hD : MapIs D m) (p : S74) (h0 : wf64 p.f0) (h1 : wf64 p.f1) :
    ∃ x : S104, (Instr.lookup 114 (.map (some b)) (.agg #[.int .i64 p.f0, .int .i64 p.f1]) false).run Tryz.prog w = .ok (.agg #[.int .i64 x.f0.f0, .int .i64 x.f0.f1, .int .i64 x.f1, .int .i64 x.f2]) w ∧ x = (m p).getD z104 := by
  obtain ⟨v, ps, hrun, hv⟩ := h.lookup pipeKeyed Tryz.underlying114 (zero_entry w) (pipeR_mk _) (keyOf_pipe h0 h1)
  obtain ⟨x, rfl, e⟩ := pipeR_inv hv
  refine ⟨x, hrun, ?_⟩
  rw [hD.at_ p h0 h1] at e
  simp only [Prod.mk.injEq] at e
  cases hm : m p with
  | none => rw [hm] at e; exact (quadD_inj e.1).symm
  | some y => rw [hm] at e; exact (quadD_inj e.1).symm
end Go.Proofs.YtanhnhkcpbdfmaaGreat.P
namespace Go.Proofs.YtanhnhkcpbdfmaaGreat.V
open Go.RowKit Go.Proofs.YtanhnhkcpbdfmaaGreatW.PrintWords
class From (w0 W : World) : Prop where out : Below w0.heap.size w0 W
class Bel (w : outParam World) (W : World) : Prop where out : Below w.heap.size w W
class Born (w : outParam World) (g : Nat) : Prop where out : g = w.heap.size
class Blk (W : World) (g : Nat) (cs : outParam (Array Value)) (t : outParam TypeId) : Prop where out : W.heap[g]? = some (.cells cs t (0, 0))
class Sz (w0 W : World) : Prop where out : w0.heap.size ≤ W.heap.size
class Nw (w0 : World) (g : Nat) : Prop where out : w0.heap.size ≤ g
class NeB (g g' : Nat) : Prop where out : g ≠ g'
class LeI (n c : Nat) : Prop where out : n ≤ c
class RdE {α : Type} (d : Kd α) (w0 : outParam World) (A : Option Addr) (xs : outParam (List α)) : Prop where out : d.C w0 A xs.length xs
class Rd {α : Type} (d : Kd α) (W : World) (A : Option Addr) (xs : List α) : Prop where out : d.C W A xs.length xs
class RowE {α : Type} (d : Kd α) (e : outParam Nat) (w1 w2 : outParam World) (A : Option Addr) (c : outParam Nat) (xs : outParam (List α)) : Prop where out : d.R e w2 w1.heap.size (fun _ => True) (.slice A xs.length c) xs
class Keep (w1 w2 W : World) : Prop where out : ∀ k, w1.heap.size ≤ k → k < w2.heap.size → W.heap[k]? = w2.heap[k]?
class Off (w1 w2 : World) (g : Nat) : Prop where out : g < w1.heap.size ∨ w2.heap.size ≤ g
section
variable {w0 w1 w2 w W W' : World} {g g' : Nat} {cs cs' : Array Value} {t t' : TypeId} {o : Obj} {n i : Nat} {v : Value}
instance : From w w := ⟨Below.refl _ _⟩
instance [h : From w0 W] : From w0 (W.alloc o) := ⟨below_alloc h.out _⟩
instance [h : From w0 W] : From w0 W.drew := ⟨below_drew1 h.out⟩
instance [h : From w0 W] : From w0 (W.drewN n) := ⟨pw_below_drewN h.out _⟩
instance [h : From w0 W] [hg : Nw w0 g] : From w0 (W.setCell ⟨g, i, none⟩ v) := ⟨below_set h.out hg.out⟩
instance [h : Bel w W] [k : From w0 w] : From w0 W := ⟨below_step k.out h.out⟩
instance : Sz w w := ⟨Nat.le_refl _⟩
instance [h : Sz w0 W] : Sz w0 (W.alloc o) := ⟨Nat.le_trans h.out (by simp)⟩
instance [h : Sz w0 W] : Sz w0 W.drew := ⟨h.out⟩
instance [h : Sz w0 W] : Sz w0 (W.drewN n) := ⟨h.out⟩
instance {p : Addr} [h : Sz w0 W] : Sz w0 (W.setCell p v) := ⟨by simpa using h.out⟩
instance [h : Bel w W] [k : Sz w0 w] : Sz w0 W := ⟨Nat.le_trans k.out h.out.size⟩
instance [h : Born W g] [k : Sz w0 W] : Nw w0 g := ⟨by rw [h.out]; exact k.out⟩
instance [h : Blk W g cs t] : Blk (W.alloc o) g cs t := ⟨blk_alloc h.out _⟩
instance [h : Blk W g cs t] : Blk W.drew g cs t := ⟨h.out⟩
instance [h : Blk W g cs t] : Blk (W.drewN n) g cs t := ⟨h.out⟩
instance [h : Blk W g cs t] [k : NeB g g'] : Blk (W.setCell ⟨g', i, none⟩ v) g cs t := ⟨blk_far h.out k.out _⟩
instance [h : Blk W g cs t] : Blk (W.setCell ⟨g, i, none⟩ v) g (cs.setIfInBounds i v) t := ⟨blk_set h.out _ _⟩
instance [h : Bel w W] [k : Blk w g cs t] : Blk W g cs t := ⟨blk_below k.out h.out⟩
instance [h : Born W g'] [k : Blk W g cs t] : NeB g g' := ⟨by rw [h.out]; exact Nat.ne_of_lt (blk_lt k.out)⟩
instance [h : Born W g] [k : Blk W g' cs t] : NeB g g' := ⟨by rw [h.out]; exact Nat.ne_of_gt (blk_lt k.out)⟩
theorem cell_b (W : World) (g i : Nat) [h : Blk W g cs t] : W.cell? ⟨g, i, none⟩ = cs[i]? := blk_cell h.out i
theorem frozen_b (W : World) (g i : Nat) [h : Blk W g cs t] : W.frozen? ⟨g, i, none⟩ = false := blk_frozen h.out i
instance : Keep w1 w2 w2 := ⟨fun _ _ _ => rfl⟩
theorem keep_lt (h : Keep w1 w2 W) {k : Nat} (h1 : w1.heap.size ≤ k) (h2 : k < w2.heap.size) : k < W.heap.size := by
  have := h.out k h1 h2
  rw [Array.getElem?_eq_getElem h2] at this
  exact (Array.getElem?_eq_some_iff.1 this).1
instance [h : Keep w1 w2 W] : Keep w1 w2 (W.alloc o) := ⟨fun k h1 h2 => (Below.heap_alloc W o k (keep_lt h h1 h2)).trans (h.out k h1 h2)⟩
instance [h : Keep w1 w2 W] : Keep w1 w2 W.drew := ⟨h.out⟩
instance [h : Keep w1 w2 W] : Keep w1 w2 (W.drewN n) := ⟨h.out⟩
instance [h : Bel w W] [k : Keep w1 w2 w] : Keep w1 w2 W := ⟨fun j h1 h2 => (h.out.block j (keep_lt k h1 h2)).trans (k.out j h1 h2)⟩
instance [h : Keep w1 w2 W] [k : Off w1 w2 g] : Keep w1 w2 (W.setCell ⟨g, i, none⟩ v) := ⟨fun j h1 h2 => (Below.heap_setCell W _ v j (by have := k.out; show j ≠ g; omega)).trans (h.out j h1 h2)⟩
instance [h : Blk w1 g cs t] : Off w1 w2 g := ⟨.inl (blk_lt h.out)⟩
instance [h : Nw w2 g] : Off w1 w2 g := ⟨.inr h.out⟩
section
variable {α : Type} {d : Kd α} {e : Nat} {A : Option Addr} {c : Nat} {xs : List α}
instance [h : RdE d w0 A xs] [k : From w0 W] : Rd d W A xs := ⟨Kd.C_below h.out k.out⟩
theorem row_ [h : RowE d e w1 w2 A c xs] [k : Keep w1 w2 W] : d.R e W w1.heap.size (fun _ => True) (.slice A xs.length c) xs :=
  Kd.R_mono (Kd.R_move (Kd.R_bound h.out) (fun j hj => k.out j hj.2.1 hj.2.2.1)) (fun _ _ => trivial)
theorem rowRd [h : RowE d e w1 w2 A c xs] [k : Keep w1 w2 W] : d.C W A xs.length xs := (Kd.R_reads' (row_ (h := h) (k := k))).2.2
instance [h : RowE d e w1 w2 A c xs] [k : Keep w1 w2 W] : Rd d W A xs := ⟨rowRd (h := h) (k := k)⟩
theorem rowLe (h : RowE d e w1 w2 A c xs) : xs.length ≤ c := (Kd.R_reads' h.out).2.1
theorem rowFin [h : RowE d e w1 w2 A c xs] [k : Keep w1 w2 W] [l : From w w1] : d.R e W w.heap.size (fun _ => True) (.slice A xs.length c) xs := Kd.R_lower (row_ (h := h) (k := k)) l.out.size
end
class Sin (w0 : outParam World) (W : World) : Prop where out : Below w0.heap.size w0 W
instance {w0 w W : World} [h : Sin w0 W] [k : Sz w w0] : Sz w W := ⟨Nat.le_trans k.out h.out.size⟩
instance {w0 w W : World} [h : Sin w0 W] [k : From w w0] : From w W := ⟨below_step k.out h.out⟩
instance {w0 W : World} {g : Nat} {cs : Array Value} {t : TypeId} [h : Sin w0 W] [k : Blk w0 g cs t] : Blk W g cs t := ⟨blk_below k.out h.out⟩
instance {w0 w1 w2 W : World} [h : Sin w0 W] [k : Keep w1 w2 w0] : Keep w1 w2 W := ⟨fun j h1 h2 => (h.out.block j (keep_lt k h1 h2)).trans (k.out j h1 h2)⟩
class SinB (B : outParam Nat) (w0 : outParam World) (W : World) : Prop where out : B ≤ w0.heap.size ∧ Below B w0 W
class LtB (g B : Nat) : Prop where out : g < B
class FromB (B : Nat) (w0 W : World) : Prop where out : B ≤ w0.heap.size ∧ Below B w0 W
section
variable {w0 w W W1 : World} {g g' B i n : Nat} {cs : Array Value} {t : TypeId} {o : Obj} {v : Value}
instance [h : Born W g'] [k : Blk W g cs t] : LtB g g' := ⟨by rw [h.out]; exact blk_lt k.out⟩
instance [h : SinB B w0 W] [k : Blk w0 g cs t] [l : LtB g B] : Blk W g cs t := ⟨(h.out.2.block g l.out).trans k.out⟩
instance [h : SinB B w0 W] [k : Sz w w0] : Sz w W := ⟨Nat.le_trans k.out h.out.2.size⟩
instance [h : SinB B w0 W] [k : From w w0] [l : Nw w B] : From w W := ⟨below_weaken k.out l.out h.out.2⟩
instance [k : Blk w0 g cs t] : FromB g w0 w0 := ⟨⟨Nat.le_of_lt (blk_lt k.out), Below.refl _ _⟩⟩
instance [h : FromB B w0 W] : FromB B w0 (W.alloc o) := ⟨⟨h.out.1, h.out.2.alloc (Nat.le_trans h.out.1 h.out.2.size) _⟩⟩
instance [h : FromB B w0 W] : FromB B w0 W.drew := ⟨⟨h.out.1, h.out.2.drew⟩⟩
instance [h : FromB B w0 W] : FromB B w0 (W.drewN n) := ⟨⟨h.out.1, pw_below_drewN h.out.2 _⟩⟩
instance [k : Bel w W] [h : FromB B w0 w] : FromB B w0 W := ⟨⟨h.out.1, below_then h.out.2 (Nat.le_trans h.out.1 h.out.2.size) k.out⟩⟩
instance [h : FromB g w0 W] : FromB g w0 (W.setCell ⟨g, i, none⟩ v) := ⟨⟨h.out.1, h.out.2.setCell (Nat.le_refl _) _⟩⟩
instance [h : FromB B w0 W] [l : LtB B g'] : FromB B w0 (W.setCell ⟨g', i, none⟩ v) := ⟨⟨h.out.1, h.out.2.setCell (Nat.le_of_lt l.out) _⟩⟩
instance [k : SinB B w0 W] : FromB B w0 W := ⟨k.out⟩
end
theorem region_st {P : Program} {id : Nat} {ops : Array Oper} {Q : Exit → Act → World → Prop} {a : Act} {W : World} (N : Nat) {g : Nat} (hp : a.tmps.getD N undef = .pointer (some ⟨g, 0, none⟩))
    (h : ∀ g', g' = g → ∀ w3, Bel W w3 → (Code.region id ops true).wp P Q a w3) : (Code.region id ops true).wp P Q a W := h g rfl W ⟨Below.refl _ _⟩
theorem region_at {P : Program} {id : Nat} {ops : Array Oper} {Q : Exit → Act → World → Prop} {a : Act} {W : World} (h : ∀ w3, Bel W w3 → (Code.region id ops true).wp P Q a w3) : (Code.region id ops true).wp P Q a W := h W ⟨Below.refl _ _⟩
class Mk (W : outParam World) (W' : World) (w1 w2 : outParam World) : Prop where out : Kept W W' (fun k => w1.heap.size ≤ k ∧ k < w2.heap.size)
class Dis (a b w1 w2 : World) : Prop where out : b.heap.size ≤ w1.heap.size ∨ w2.heap.size ≤ a.heap.size
section
variable {a b w1 w2 W W' : World} {g : Nat} {cs : Array Value} {t : TypeId}
instance [h : Sz b w1] : Dis a b w1 w2 := ⟨.inl h.out⟩
instance [h : Sz w2 a] : Dis a b w1 w2 := ⟨.inr h.out⟩
instance {w0 : World} [m : Mk W W' a b] [h : Sz w0 W] : Sz w0 W' := ⟨Nat.le_trans h.out m.out.1⟩
instance [m : Mk W W' a b] [h : Keep w1 w2 W] [d : Dis a b w1 w2] : Keep w1 w2 W' :=
  ⟨fun k h1 h2 => (m.out.2 k (keep_lt h h1 h2) (fun hk => by have := d.out; omega)).trans (h.out k h1 h2)⟩
instance [m : Mk W W' a b] [h : Blk W g cs t] [d : Off a b g] : Blk W' g cs t := ⟨(m.out.2 g (blk_lt h.out) (fun hk => by have := d.out; omega)).trans h.out⟩
end
theorem hF_ {b : Bool} (h : ¬ b = true) : b = false := Bool.eq_false_iff.mpr h
theorem hG_ {b : Bool} (h : (!b) = true) : b = false := (Bool.not_eq_true' _).mp h
theorem hH_ {b : Bool} (h : ¬ (!b) = true) : b = true := (Bool.not_eq_false' _).mp (Bool.eq_false_iff.mpr h)
theorem hI_ {α : Type} [BEq α] [LawfulBEq α] {a b : α} (h : a = b) : (a == b) = true := beq_iff_eq.mpr h
theorem hJ_ {α : Type} [BEq α] [LawfulBEq α] {a b : α} (h : a = b) : (a != b) = false := bne_eq_false_iff_eq.mpr h
theorem hK_ {α : Type} [BEq α] [LawfulBEq α] {a b : α} (h : a ≠ b) : (a == b) = false := beq_eq_false_iff_ne.mpr h
theorem hL_ {α : Type} [BEq α] [LawfulBEq α] {a b : α} (h : a ≠ b) : (a != b) = true := bne_iff_ne.mpr h
theorem none_some {α : Type} {r : α} (h : none = some r) : False := by cases h
theorem ite_some {α : Type} {c : Prop} [Decidable c] {x y : Option α} {r : α} (h : (if c then x else y) = some r) : (c ∧ x = some r) ∨ (¬ c ∧ y = some r) := by
  by_cases hc : c
  · exact .inl ⟨hc, by rwa [if_pos hc] at h⟩
  · exact .inr ⟨hc, by rwa [if_neg hc] at h⟩
end
end Go.Proofs.YtanhnhkcpbdfmaaGreat.V
namespace Go.Proofs.YtanhnhkcpbdfmaaGreat.V
open Go.RowKit Go.Proofs.YtanhnhkcpbdfmaaGreatW.PrintWords
theorem bV {P : Program} {ops : Array Oper} {rest : List Oper} {o : Oper} {a : Act} {Q : Exit → Act → World → Prop} {W : World} {N : Tmp} (cs : Array Value) (t : TypeId) (h : ∀ g w1, Born W g → Bel W w1 → Blk w1 g cs t → wpList P ops Q rest (a.put o.dst (.pointer (some ⟨g, 0, none⟩))) w1)
    (hgd : o.guard = none := by rfl) (hd : o.dst = some N := by rfl) (hrun : (execOp a.eval o).run P W = .ok (.value (.pointer (some ⟨W.heap.size, 0, none⟩))) (W.alloc (.cells cs t (0, 0))) := by first | (go_simp; done) | (go_simp; rfl)) : wpList P ops Q (o :: rest) a W :=
  Go.Proofs.YtanhnhkcpbdfmaaGreat.P.bX (N := N) (fun g hg w1 hk hb => h g w1 ⟨hg⟩ ⟨hb⟩ ⟨hk⟩) hgd hd hrun
theorem rowS {α : Type} {d : Kd α} {e : Nat} {w1 w2 : World} {v : Value} {xs : List α} (h : d.R e w2 w1.heap.size (fun _ => True) v xs) : ∃ A c, v = .slice A xs.length c ∧ RowE d e w1 w2 A c xs ∧ LeI xs.length c := by
  obtain ⟨A, c, rfl⟩ := Kd.R_slice h
  exact ⟨A, c, rfl, ⟨h⟩, ⟨(Kd.R_reads' h).2.1⟩⟩
theorem bI {α β : Type} {x : Option α} {f : α → Option β} {b : β} (h : x.bind f = some b) : ∃ a, x = some a ∧ f a = some b := Option.bind_eq_some_iff.mp h
end Go.Proofs.YtanhnhkcpbdfmaaGreat.V
namespace Go.Proofs.YtanhnhkcpbdfmaaGreat.P
set_option maxHeartbeats 8000000
set_option maxRecDepth 100000
set_option synthInstance.maxHeartbeats 400000
set_option synthInstance.maxSize 100000
open Go.RowKit Go.Proofs.YtanhnhkcpbdfmaaGreatW.PrintWords Go.Proofs.YtanhnhkcpbdfmaaGreatW.PrintLast Go.Proofs.YtanhnhkcpbdfmaaGreatW.PrintMore Go.Proofs.YtanhnhkcpbdfmaaGreat.V
attribute [local go_sem] cell_b frozen_b
attribute [local go_sem] max2_int min2_int max_two min_two max_three min_three max_four min_four
def impl_copyShop.f (l0_0 : List (S112)) (a0_1 : Int) (l0_2 : List Int) (a0_3 : Int) (a0_4 : Int) (l0_5 : List (S104)) : Option ((List (S112)) × Int × List Int × Int × Int × (List (S104))) := (impl_copyWork.f l0_0 a0_1 l0_2).bind fun bt652 => ((impl_copyLog.f l0_5).bind fun t659 => (some (bt652.1, bt652.2.1, bt652.2.2, a0_3, a0_4, t659)))
theorem impl_copyShop.calls (A0_0 : Option Addr) (c0_0 : Nat) (l0_0 : List (S112)) (a0_1 : Int) (A0_2 : Option Addr) (c0_2 : Nat) (l0_2 : List Int) (a0_3 : Int) (a0_4 : Int) (A0_5 : Option Addr) (c0_5 : Nat) (l0_5 : List (S104)) (r1 : List (S112)) (r2 : Int) (r3 : List Int) (r4 : Int) (r5 : Int) (r6 : List (S104)) (w : World) (hr0_0 : Kd.C k112 w A0_0 l0_0.length l0_0) (hc0_0 : l0_0.length ≤ c0_0) (hr0_2 : Kd.C (Kd.int .i64) w A0_2 l0_2.length l0_2) (hc0_2 : l0_2.length ≤ c0_2) (hr0_5 : Kd.C k104 w A0_5 l0_5.length l0_5) (hc0_5 : l0_5.length ≤ c0_5) (h : impl_copyShop.f l0_0 a0_1 l0_2 a0_3 a0_4 l0_5 = some (r1, r2, r3, r4, r5, r6)) :
  Calls Tryz.prog 57 #[.agg #[.slice A0_0 l0_0.length c0_0, .int .i64 a0_1, .slice A0_2 l0_2.length c0_2, .int .i64 a0_3, .int .i64 a0_4, .slice A0_5 l0_5.length c0_5]] w fun e w' => ∃ v0_ v2_ v5_ : Value, e = .returned (.agg #[v0_, .int .i64 r2, v2_, .int .i64 r4, .int .i64 r5, v5_]) ∧ Kd.R k112 112 w' w.heap.size (fun _ => True) v0_ r1 ∧ Kd.R (Kd.int .i64) 3 w' w.heap.size (fun _ => True) v2_ r3 ∧ Kd.R k104 104 w' w.heap.size (fun _ => True) v5_ r6 ∧ Below w.heap.size w w' := by
 replace hr0_0 := RdE.mk hr0_0
 replace hc0_0 := LeI.mk hc0_0
 replace hr0_2 := RdE.mk hr0_2
 replace hc0_2 := LeI.mk hc0_2
 replace hr0_5 := RdE.mk hr0_5
 replace hc0_5 := LeI.mk hc0_5
 unfold impl_copyShop.f at h
 have hu37 := Tryz.underlying37
 (repeat' first | ((with_reducible replace h := ite_some h); rcases h with ⟨hc, h⟩ | ⟨hc, h⟩ <;> first | exact (none_some h).elim | exact absurd hc (by decide) | subst hc | (replace hc := hF_ hc; subst hc) | (have hd := hI_ hc; have he := hJ_ hc; clear hc) | (have hd := hK_ hc; have he := hL_ hc) | (have hd := decide_eq_false hc) | (have hd := decide_eq_true hc) | skip))
 all_goals go_enter Tryz.func57, Tryz.ntmps57
 all_goals go_wp2_with ((first
  | ((with_reducible refine gate_dst (N := 1) rfl ?_); refine bV #[.slice A0_0 l0_0.length c0_0, .int .i64 a0_1, .slice A0_2 l0_2.length c0_2, .int .i64 a0_3, .int .i64 a0_4, .slice A0_5 l0_5.length c0_5] 37 fun g w1 j1 j2 j3 => ?_)
  | ((with_reducible refine gate_dst (N := 2) rfl ?_); refine bV #[.slice none 0 0, .int .i64 0, .slice none 0 0, .int .i64 0, .int .i64 0, .slice none 0 0] 37 fun g w1 j1 j2 j3 => ?_)
  | ((with_reducible refine region_at ?_); intro w3 jw; refine region_st 2 (by rfl) ?_; intro g hg w4 jv; subst hg; go_region_held3 (fun w' => SinB g w4 w') (first | exact ⟨FromB.out⟩ | skip) (first | (go_at_call 106; replace h := bI h; obtain ⟨⟨t1, t2, t3⟩, A, h⟩ := h; (try dsimp only at h); refine (impl_copyWork.calls _ _ _ _ _ _ _ _ _ _ _ Rd.out LeI.out Rd.out LeI.out A).mono ?_; rintro e w2 ⟨v0, v1, rfl, ho0, ho1, hb⟩; obtain ⟨B0, b0, rfl, j0, q0⟩ := rowS ho0; obtain ⟨B1, b1, rfl, j1, q1⟩ := rowS ho1; have jb := Bel.mk hb; clear A ho0 ho1 hb; (repeat' first | ((with_reducible replace h := ite_some h); rcases h with ⟨hc, h⟩ | ⟨hc, h⟩ <;> first | exact (none_some h).elim | exact absurd hc (by decide) | subst hc | (replace hc := hF_ hc; subst hc) | (have hd := hI_ hc; have he := hJ_ hc; clear hc) | (have hd := hK_ hc; have he := hL_ hc) | (have hd := decide_eq_false hc) | (have hd := decide_eq_true hc) | skip))) | (go_at_call 107; replace h := bI h; obtain ⟨t, A, h⟩ := h; (try dsimp only at h); refine (impl_copyLog.calls _ _ _ _ _ Rd.out LeI.out A).mono ?_; rintro e w2 ⟨v0, rfl, ho0, hb⟩; obtain ⟨B0, b0, rfl, j0, q0⟩ := rowS ho0; have jb := Bel.mk hb; clear A ho0 hb)); (repeat' first | ((with_reducible replace h := ite_some h); rcases h with ⟨hc, h⟩ | ⟨hc, h⟩ <;> first | exact (none_some h).elim | exact absurd hc (by decide) | subst hc | (replace hc := hF_ hc; subst hc) | (have hd := hI_ hc; have he := hJ_ hc; clear hc) | (have hd := hK_ hc; have he := hL_ hc) | (have hd := decide_eq_false hc) | (have hd := decide_eq_true hc) | skip)); all_goals (try have hn : decide (0 < t.length) = true := decide_eq_true (by omega)); all_goals (try have hn : decide (0 < t.length) = false := decide_eq_false (by omega)))))
 all_goals simp only [Option.some.injEq, Prod.mk.injEq] at h
 all_goals obtain ⟨rfl, rfl, rfl, rfl, rfl, rfl⟩ := h
 all_goals refine bodyPost_ret (results_cell_row rfl _ _ _ _ _ (0, 0) _ rfl Blk.out Tryz.underlying37 rfl (by kernel_rfl)) rfl ?_
 all_goals exact ⟨_, _, _, rfl, (by first | exact rowFin | exact Kd.R_nil _ _ _ _ _), (by first | exact rowFin | exact Kd.R_nil _ _ _ _ _), (by first | exact rowFin | exact Kd.R_nil _ _ _ _ _), From.out⟩
def spec_l36Copy.f (l0_0 : List (S112)) (a0_1 : Int) (l0_2 : List Int) : Option ((List (S112)) × Int × List Int) := (spec_l19Copy.f l0_0).bind fun t158 => ((spec_l02Copy.f l0_2).bind fun t161 => (some (t158, a0_1, t161)))
theorem spec_l36Copy.calls (A0_0 : Option Addr) (c0_0 : Nat) (l0_0 : List (S112)) (a0_1 : Int) (A0_2 : Option Addr) (c0_2 : Nat) (l0_2 : List Int) (r1 : List (S112)) (r2 : Int) (r3 : List Int) (w : World) (hr0_0 : Kd.C k112 w A0_0 l0_0.length l0_0) (hc0_0 : l0_0.length ≤ c0_0) (hr0_2 : Kd.C (Kd.int .i64) w A0_2 l0_2.length l0_2) (hc0_2 : l0_2.length ≤ c0_2) (h : spec_l36Copy.f l0_0 a0_1 l0_2 = some (r1, r2, r3)) :
  Calls Tryz.prog 95 #[.agg #[.slice A0_0 l0_0.length c0_0, .int .i64 a0_1, .slice A0_2 l0_2.length c0_2]] w fun e w' => ∃ v0_ v2_ : Value, e = .returned (.agg #[v0_, .int .i64 r2, v2_]) ∧ Kd.R k112 112 w' w.heap.size (fun _ => True) v0_ r1 ∧ Kd.R (Kd.int .i64) 3 w' w.heap.size (fun _ => True) v2_ r3 ∧ Below w.heap.size w w' := by
 replace hr0_0 := RdE.mk hr0_0
 replace hc0_0 := LeI.mk hc0_0
 replace hr0_2 := RdE.mk hr0_2
 replace hc0_2 := LeI.mk hc0_2
 unfold spec_l36Copy.f at h
 have hu34 := Tryz.underlying34
 (repeat' first | ((with_reducible replace h := ite_some h); rcases h with ⟨hc, h⟩ | ⟨hc, h⟩ <;> first | exact (none_some h).elim | exact absurd hc (by decide) | subst hc | (replace hc := hF_ hc; subst hc) | (have hd := hI_ hc; have he := hJ_ hc; clear hc) | (have hd := hK_ hc; have he := hL_ hc) | (have hd := decide_eq_false hc) | (have hd := decide_eq_true hc) | skip))
 all_goals go_enter Tryz.func95, Tryz.ntmps95
 all_goals go_wp2_with ((first
  | ((with_reducible refine gate_dst (N := 1) rfl ?_); refine bV #[.slice A0_0 l0_0.length c0_0, .int .i64 a0_1, .slice A0_2 l0_2.length c0_2] 34 fun g w1 j1 j2 j3 => ?_)
  | ((with_reducible refine gate_dst (N := 2) rfl ?_); refine bV #[.slice none 0 0, .int .i64 0, .slice none 0 0] 34 fun g w1 j1 j2 j3 => ?_)
  | ((with_reducible refine region_at ?_); intro w3 jw; refine region_st 2 (by rfl) ?_; intro g hg w4 jv; subst hg; go_region_held3 (fun w' => SinB g w4 w') (first | exact ⟨FromB.out⟩ | skip) (first | (go_at_call 126; replace h := bI h; obtain ⟨t, A, h⟩ := h; (try dsimp only at h); refine (spec_l19Copy.calls _ _ _ _ _ Rd.out LeI.out A).mono ?_; rintro e w2 ⟨v0, rfl, ho0, hb⟩; obtain ⟨B0, b0, rfl, j0, q0⟩ := rowS ho0; have jb := Bel.mk hb; clear A ho0 hb; (repeat' first | ((with_reducible replace h := ite_some h); rcases h with ⟨hc, h⟩ | ⟨hc, h⟩ <;> first | exact (none_some h).elim | exact absurd hc (by decide) | subst hc | (replace hc := hF_ hc; subst hc) | (have hd := hI_ hc; have he := hJ_ hc; clear hc) | (have hd := hK_ hc; have he := hL_ hc) | (have hd := decide_eq_false hc) | (have hd := decide_eq_true hc) | skip)); (try have hn : decide (0 < t.length) = true := decide_eq_true (by omega)); (try have hn : decide (0 < t.length) = false := decide_eq_false (by omega))) | (go_at_call 127; replace h := bI h; obtain ⟨t, A, h⟩ := h; (try dsimp only at h); refine (spec_l02Copy.calls _ _ _ _ _ Rd.out LeI.out A).mono ?_; rintro e w2 ⟨v0, rfl, ho0, hb⟩; obtain ⟨B0, b0, rfl, j0, q0⟩ := rowS ho0; have jb := Bel.mk hb; clear A ho0 hb)); (repeat' first | ((with_reducible replace h := ite_some h); rcases h with ⟨hc, h⟩ | ⟨hc, h⟩ <;> first | exact (none_some h).elim | exact absurd hc (by decide) | subst hc | (replace hc := hF_ hc; subst hc) | (have hd := hI_ hc; have he := hJ_ hc; clear hc) | (have hd := hK_ hc; have he := hL_ hc) | (have hd := decide_eq_false hc) | (have hd := decide_eq_true hc) | skip)); all_goals (try have hn : decide (0 < t.length) = true := decide_eq_true (by omega)); all_goals (try have hn : decide (0 < t.length) = false := decide_eq_false (by omega)))))
 all_goals simp only [Option.some.injEq, Prod.mk.injEq] at h
 all_goals obtain ⟨rfl, rfl, rfl⟩ := h
 all_goals refine bodyPost_ret (results_cell_row rfl _ _ _ _ _ (0, 0) _ rfl Blk.out Tryz.underlying34 rfl (by kernel_rfl)) rfl ?_
 all_goals exact ⟨_, _, rfl, (by first | exact rowFin | exact Kd.R_nil _ _ _ _ _), (by first | exact rowFin | exact Kd.R_nil _ _ _ _ _), From.out⟩
def spec_l38Copy.f (l0_0 : List (S112)) (a0_1 : Int) (l0_2 : List Int) (a0_3 : Int) (a0_4 : Int) (l0_5 : List (S104)) : Option ((List (S112)) × Int × List Int × Int × Int × (List (S104))) := (spec_l36Copy.f l0_0 a0_1 l0_2).bind fun bt172 => ((spec_l34Copy.f l0_5).bind fun t179 => (some (bt172.1, bt172.2.1, bt172.2.2, a0_3, a0_4, t179)))
theorem spec_l38Copy.calls (A0_0 : Option Addr) (c0_0 : Nat) (l0_0 : List (S112)) (a0_1 : Int) (A0_2 : Option Addr) (c0_2 : Nat) (l0_2 : List Int) (a0_3 : Int) (a0_4 : Int) (A0_5 : Option Addr) (c0_5 : Nat) (l0_5 : List (S104)) (r1 : List (S112)) (r2 : Int) (r3 : List Int) (r4 : Int) (r5 : Int) (r6 : List (S104)) (w : World) (hr0_0 : Kd.C k112 w A0_0 l0_0.length l0_0) (hc0_0 : l0_0.length ≤ c0_0) (hr0_2 : Kd.C (Kd.int .i64) w A0_2 l0_2.length l0_2) (hc0_2 : l0_2.length ≤ c0_2) (hr0_5 : Kd.C k104 w A0_5 l0_5.length l0_5) (hc0_5 : l0_5.length ≤ c0_5) (h : spec_l38Copy.f l0_0 a0_1 l0_2 a0_3 a0_4 l0_5 = some (r1, r2, r3, r4, r5, r6)) :
  Calls Tryz.prog 45 #[.agg #[.slice A0_0 l0_0.length c0_0, .int .i64 a0_1, .slice A0_2 l0_2.length c0_2, .int .i64 a0_3, .int .i64 a0_4, .slice A0_5 l0_5.length c0_5]] w fun e w' => ∃ v0_ v2_ v5_ : Value, e = .returned (.agg #[v0_, .int .i64 r2, v2_, .int .i64 r4, .int .i64 r5, v5_]) ∧ Kd.R k112 112 w' w.heap.size (fun _ => True) v0_ r1 ∧ Kd.R (Kd.int .i64) 3 w' w.heap.size (fun _ => True) v2_ r3 ∧ Kd.R k104 104 w' w.heap.size (fun _ => True) v5_ r6 ∧ Below w.heap.size w w' := by
 replace hr0_0 := RdE.mk hr0_0
 replace hc0_0 := LeI.mk hc0_0
 replace hr0_2 := RdE.mk hr0_2
 replace hc0_2 := LeI.mk hc0_2
 replace hr0_5 := RdE.mk hr0_5
 replace hc0_5 := LeI.mk hc0_5
 unfold spec_l38Copy.f at h
 have hu37 := Tryz.underlying37
 (repeat' first | ((with_reducible replace h := ite_some h); rcases h with ⟨hc, h⟩ | ⟨hc, h⟩ <;> first | exact (none_some h).elim | exact absurd hc (by decide) | subst hc | (replace hc := hF_ hc; subst hc) | (have hd := hI_ hc; have he := hJ_ hc; clear hc) | (have hd := hK_ hc; have he := hL_ hc) | (have hd := decide_eq_false hc) | (have hd := decide_eq_true hc) | skip))
 all_goals go_enter Tryz.func45, Tryz.ntmps45
 all_goals go_wp2_with ((first
  | ((with_reducible refine gate_dst (N := 1) rfl ?_); refine bV #[.slice A0_0 l0_0.length c0_0, .int .i64 a0_1, .slice A0_2 l0_2.length c0_2, .int .i64 a0_3, .int .i64 a0_4, .slice A0_5 l0_5.length c0_5] 37 fun g w1 j1 j2 j3 => ?_)
  | ((with_reducible refine gate_dst (N := 2) rfl ?_); refine bV #[.slice none 0 0, .int .i64 0, .slice none 0 0, .int .i64 0, .int .i64 0, .slice none 0 0] 37 fun g w1 j1 j2 j3 => ?_)
  | ((with_reducible refine region_at ?_); intro w3 jw; refine region_st 2 (by rfl) ?_; intro g hg w4 jv; subst hg; go_region_held3 (fun w' => SinB g w4 w') (first | exact ⟨FromB.out⟩ | skip) (first | (go_at_call 95; replace h := bI h; obtain ⟨⟨t1, t2, t3⟩, A, h⟩ := h; (try dsimp only at h); refine (spec_l36Copy.calls _ _ _ _ _ _ _ _ _ _ _ Rd.out LeI.out Rd.out LeI.out A).mono ?_; rintro e w2 ⟨v0, v1, rfl, ho0, ho1, hb⟩; obtain ⟨B0, b0, rfl, j0, q0⟩ := rowS ho0; obtain ⟨B1, b1, rfl, j1, q1⟩ := rowS ho1; have jb := Bel.mk hb; clear A ho0 ho1 hb; (repeat' first | ((with_reducible replace h := ite_some h); rcases h with ⟨hc, h⟩ | ⟨hc, h⟩ <;> first | exact (none_some h).elim | exact absurd hc (by decide) | subst hc | (replace hc := hF_ hc; subst hc) | (have hd := hI_ hc; have he := hJ_ hc; clear hc) | (have hd := hK_ hc; have he := hL_ hc) | (have hd := decide_eq_false hc) | (have hd := decide_eq_true hc) | skip))) | (go_at_call 96; replace h := bI h; obtain ⟨t, A, h⟩ := h; (try dsimp only at h); refine (spec_l34Copy.calls _ _ _ _ _ Rd.out LeI.out A).mono ?_; rintro e w2 ⟨v0, rfl, ho0, hb⟩; obtain ⟨B0, b0, rfl, j0, q0⟩ := rowS ho0; have jb := Bel.mk hb; clear A ho0 hb)); (repeat' first | ((with_reducible replace h := ite_some h); rcases h with ⟨hc, h⟩ | ⟨hc, h⟩ <;> first | exact (none_some h).elim | exact absurd hc (by decide) | subst hc | (replace hc := hF_ hc; subst hc) | (have hd := hI_ hc; have he := hJ_ hc; clear hc) | (have hd := hK_ hc; have he := hL_ hc) | (have hd := decide_eq_false hc) | (have hd := decide_eq_true hc) | skip)); all_goals (try have hn : decide (0 < t.length) = true := decide_eq_true (by omega)); all_goals (try have hn : decide (0 < t.length) = false := decide_eq_false (by omega)))))
 all_goals simp only [Option.some.injEq, Prod.mk.injEq] at h
 all_goals obtain ⟨rfl, rfl, rfl, rfl, rfl, rfl⟩ := h
 all_goals refine bodyPost_ret (results_cell_row rfl _ _ _ _ _ (0, 0) _ rfl Blk.out Tryz.underlying37 rfl (by kernel_rfl)) rfl ?_
 all_goals exact ⟨_, _, _, rfl, (by first | exact rowFin | exact Kd.R_nil _ _ _ _ _), (by first | exact rowFin | exact Kd.R_nil _ _ _ _ _), (by first | exact rowFin | exact Kd.R_nil _ _ _ _ _), From.out⟩
end Go.Proofs.YtanhnhkcpbdfmaaGreat.P
namespace Go.Proofs.YtanhnhkcpbdfmaaGreat.Q
open Go.RowKit Go.Proofs.YtanhnhkcpbdfmaaGreat.P Go.Proofs.YtanhnhkcpbdfmaaGreatW.PrintWords Go.Proofs.YtanhnhkcpbdfmaaGreatW.PrintMore
theorem rdS (l : List S112) (i : Nat) (h : i < l.length) : rd_T112 l (i : Int) = l[i] := by
  unfold rd_T112; simp [List.getD_eq_getElem?_getD, h]
theorem planGoS_eq (l : List S112) (t : List Bool) : planGoS l t = planGo l t := by
  induction l generalizing t with
  | nil => rfl
  | cons x r ih => simp only [planGoS, planGo, ih]; rfl
theorem planSpec_eq (l : List S112) : spec_PlanOk.f l = some (planOk l) := by
  show some (planOkS l) = some (planOk l)
  unfold planOkS planOk
  rw [planGoS_eq, Bool.and_comm]; rfl
theorem planImpl_eq (l : List S112) : impl_PlanOk.f l = some (planOk l) := rfl
def inKeys (x : S112) : Prop := 0 ≤ x.f0 ∧ x.f0 ≤ 11 ∧ 0 ≤ x.f1 ∧ x.f1 ≤ 11 ∧ x.f1 = (x.f0 + 1) % 12
theorem stepOk_in {x : S112} {t : List Bool} (h : stepOk x t = true) : inKeys x := by
  simp [stepOk] at h; unfold inKeys; omega
theorem planGo_in {l : List S112} {t : List Bool} (h : planGo l t = true) : ∀ x ∈ l, inKeys x := by
  induction l generalizing t with
  | nil => simp
  | cons y r ih =>
    simp only [planGo, Bool.and_eq_true] at h
    intro x hx
    rcases List.mem_cons.1 hx with rfl | hx
    · exact stepOk_in h.1
    · exact ih h.2 x hx
theorem planOk_in {l : List S112} (h : planOk l = true) : ∀ x ∈ l, inKeys x := by
  simp only [planOk, Bool.and_eq_true] at h; exact planGo_in h.2
theorem planOk_len {l : List S112} (h : planOk l = true) : l.length ≤ 11 := by
  simp only [planOk, Bool.and_eq_true, decide_eq_true_eq] at h; exact h.1
theorem rd_get (l : List Int) (i : Int) : rd l i = l.getD i.toNat 0 := rfl
def runGo : List S112 → List Int → List Int × Bool
  | [], o => (o, true)
  | x :: r, o => if tunedPitch (o.getD x.f0.toNat 0) x.f2 x.f3 = 0 then ([], false) else runGo r (o.set x.f1.toNat (tunedPitch (o.getD x.f0.toNat 0) x.f2 x.f3))
def begun (a : Int) : List Int := a :: List.replicate 11 0
def runPlan (a : Int) (l : List S112) : List Int × Bool := if planOk l = true ∧ fine a = true then runGo l (begun a) else ([], false)
theorem runPlan_impl (a : Int) (l : List S112) : Ev (fun n => impl_RunPlan.f n a l) (runPlan a l) := by
  have jt : Ev (fun n => impl_RunPlan.j0 n a l true) ([], false) := Ev.step (fun n => by rw [impl_RunPlan.j0]) (evp rfl (Ev.now _))
  unfold impl_RunPlan.f runPlan
  refine evb (planImpl_eq l) ?_
  by_cases hp : planOk l = true
  rotate_left
  · exact rneg (fun h => hp h.1) <| evn hp jt
  refine evp hp (evb (isFine_eq a) ?_)
  by_cases ha : fine a = true
  rotate_left
  · rw [show (!fine a) = true by simpa using ha]; exact rneg (fun h => ha h.2) jt
  rw [show (!fine a) = false by simpa using ha]
  refine rpos ⟨hp, ha⟩ ?_
  have hl := planOk_len hp
  have hin := planOk_in hp
  have key : ∀ i, i ≤ l.length → ∀ o : List Int, o.length = 12 → Ev (fun n => impl_RunPlan.l0 n o l (l.length : Int) (i : Int)) (runGo (l.drop i) o) := by
    refine down (n := l.length) ?_ ?_
    · intro o ho
      refine Ev.step (fun n => by rw [impl_RunPlan.l0]) (evn (by omega) (evs ?_))
      rw [drop_end]; rfl
    · intro i hi ih o ho
      obtain ⟨k0, k1, k2, k3, k4⟩ := hin l[i] (List.getElem_mem hi)
      refine Ev.step (fun n => by rw [impl_RunPlan.l0]) ?_
      refine evp (by omega) (evp (by omega) (evp (by omega) ?_))
      rw [rdS l i hi, drop_cons l i hi, runGo]
      refine evp k0 (evp (by omega) (Ev.bind (tuned_impl _ _ _) (evp k2 (evp (by omega) ?_))))
      rw [rd_get]
      by_cases hz : tunedPitch (o.getD l[i].f0.toNat 0) l[i].f2 l[i].f3 = 0
      · exact rpos hz <| evp hz (Ev.now _)
      refine rneg hz <| evn hz ?_
      rw [w64 (by omega) (by omega)]
      exact ih _ (by simpa using ho)
  refine Ev.step (fun n => by rw [impl_RunPlan.j0]) ?_
  refine evn (by decide) (evp (by decide) ?_)
  simp only [Option.bind_some]
  refine evp (by simp) ?_
  exact key 0 (Nat.zero_le _) _ (by simp)
theorem runPlan_spec (a : Int) (l : List S112) : Ev (fun n => spec_RunPlan.f n a l) (runPlan a l) := by
  have jt : Ev (fun n => spec_RunPlan.j0 n a l true) ([], false) := Ev.step (fun n => by rw [spec_RunPlan.j0]) (evp rfl (Ev.now _))
  unfold spec_RunPlan.f runPlan
  refine evb (planSpec_eq l) ?_
  by_cases hp : planOk l = true
  rotate_left
  · exact rneg (fun h => hp h.1) <| evn hp jt
  refine evp hp (evb (pitch_eq a) ?_)
  by_cases ha : fine a = true
  rotate_left
  · rw [show (!fine a) = true by simpa using ha]; exact rneg (fun h => ha h.2) jt
  rw [show (!fine a) = false by simpa using ha]
  refine rpos ⟨hp, ha⟩ ?_
  have hl := planOk_len hp
  have hin := planOk_in hp
  have key : ∀ i, i ≤ l.length → ∀ o : List Int, o.length = 12 → Ev (fun n => spec_RunPlan.l0 n l o (i : Int)) (runGo (l.drop i) o) := by
    refine down (n := l.length) ?_ ?_
    · intro o ho
      refine Ev.step (fun n => by rw [spec_RunPlan.l0]) (evn (by omega) (evs ?_))
      rw [drop_end]; rfl
    · intro i hi ih o ho
      obtain ⟨k0, k1, k2, k3, k4⟩ := hin l[i] (List.getElem_mem hi)
      refine Ev.step (fun n => by rw [spec_RunPlan.l0]) ?_
      refine evp (by omega) (evp (by omega) ?_)
      rw [rdS l i hi, drop_cons l i hi, runGo]
      refine evp k0 (evp (by omega) (Ev.bind (tuned_spec _ _ _) ?_))
      rw [rd_get]
      by_cases hz : tunedPitch (o.getD l[i].f0.toNat 0) l[i].f2 l[i].f3 = 0
      · exact rpos hz <| evp hz (Ev.now _)
      refine rneg hz <| evn hz (evp k2 (evp (by omega) ?_))
      rw [w64 (by omega) (by omega)]
      exact ih _ (by simpa using ho)
  refine Ev.step (fun n => by rw [spec_RunPlan.j0]) ?_
  refine evn (by decide) (evp (by decide) ?_)
  simp only [Option.bind_some]
  refine evp (by simp) ?_
  exact key 0 (Nat.zero_le _) _ (by simp)
def stepTo (c : Int) : List S112 → Nat → Int
  | [], _ => -1
  | x :: r, j => if x.f1 = c then (j : Int) else stepTo c r (j + 1)
theorem stepTo_ev (l : List S112) (c : Int) (hl : l.length ≤ 4000000) : Ev (fun n => spec_l20Step.f n l c) (stepTo c l 0) := by
  have key : ∀ i, i ≤ l.length → Ev (fun n => spec_l20Step.l0 n l c (i : Int)) (stepTo c (l.drop i) i) := by
    refine down (n := l.length) ?_ ?_
    · refine Ev.step (fun n => by rw [spec_l20Step.l0]) (evn (by omega) (evs ?_))
      rw [drop_end]; rfl
    · intro i hi ih
      refine Ev.step (fun n => by rw [spec_l20Step.l0]) ?_
      refine evp (by omega) (evp (by omega) ?_)
      rw [rdS l i hi, drop_cons l i hi, stepTo]
      by_cases h : l[i].f1 = c
      · exact rpos h <| evp h (Ev.now _)
      · refine rneg h <| evn h ?_
        rw [w64 (by omega) (by omega)]
        exact ih
  exact key 0 (Nat.zero_le _)
theorem stepTo_lt (c : Int) (l : List S112) (j d : Nat) : (0 ≤ stepTo c l j ∧ stepTo c l j < ((j + d : Nat) : Int)) ↔ ∃ x ∈ l.take d, x.f1 = c := by
  induction l generalizing j d with
  | nil => simp [stepTo]
  | cons x r ih =>
    unfold stepTo
    cases d with
    | zero =>
      simp only [List.take_zero, List.not_mem_nil, false_and, exists_false, iff_false]
      by_cases h : x.f1 = c
      · rw [if_pos h]; omega
      · rw [if_neg h]
        have := ih (j + 1) 0
        simp at this
        have h1 := this
        intro h2
        have : ∀ (l : List S112) (j : Nat), stepTo c l j = -1 ∨ (j : Int) ≤ stepTo c l j := by
          intro l
          induction l with
          | nil => intro j; exact .inl rfl
          | cons y s ih2 =>
            intro j; unfold stepTo; split
            · exact .inr (Int.le_refl _)
            · rcases ih2 (j + 1) with h | h
              · exact .inl h
              · exact .inr (by omega)
        rcases this r (j + 1) with h3 | h3 <;> omega
    | succ d =>
      rw [List.take_succ_cons]
      by_cases h : x.f1 = c
      · rw [if_pos h]
        exact ⟨fun _ => ⟨x, List.mem_cons_self, h⟩, fun _ => ⟨by omega, by omega⟩⟩
      · rw [if_neg h]
        have := ih (j + 1) d
        rw [show j + 1 + d = j + (d + 1) by omega] at this
        rw [this]
        constructor
        · rintro ⟨y, hy, e⟩; exact ⟨y, List.mem_cons_of_mem _ hy, e⟩
        · rintro ⟨y, hy, e⟩
          rcases List.mem_cons.1 hy with rfl | hy
          · exact absurd e h
          · exact ⟨y, hy, e⟩
theorem tunedBy_len (l : List S112) (t : List Bool) : (P.tunedBy l t).length = t.length := by
  unfold P.tunedBy
  induction l generalizing t with
  | nil => rfl
  | cons x r ih => rw [List.foldl_cons, ih, List.length_set]
theorem tunedBy_get (l : List S112) (t : List Bool) (hin : ∀ x ∈ l, 0 ≤ x.f1) (c : Nat) (hc : c < t.length) : (P.tunedBy l t)[c]? = some (t[c] || l.any (fun x => decide (x.f1 = (c : Int)))) := by
  unfold P.tunedBy
  induction l generalizing t with
  | nil => simp [hc]
  | cons x r ih =>
    rw [List.foldl_cons, ih _ (fun y hy => hin y (List.mem_cons_of_mem _ hy)) (by simpa using hc)]
    have := hin x List.mem_cons_self
    simp only [List.any_cons, List.getElem_set]
    by_cases h : x.f1 = (c : Int)
    · rw [if_pos (by omega)]; simp [h]
    · rw [if_neg (by omega)]; simp [h]
theorem workOk_spec (p : List S112) (d : Int) (q : List Int) : Ev (fun n => spec_WorkOk.f n p d q) (workOk p d q) := by
  have jt : Ev (fun n => spec_WorkOk.j0 n true p d q) false := Ev.step (fun n => by rw [spec_WorkOk.j0]) (evp rfl (Ev.now _))
  unfold spec_WorkOk.f workOk
  refine evb (planSpec_eq p) ?_
  by_cases hp : planOk p = true
  rotate_left
  · rw [show planOk p = false by simpa using hp, Bool.false_and]; exact evn (by simp) jt
  refine evp hp (evb (l01In_eq _ _ _) ?_)
  rw [hp, Bool.true_and]
  by_cases hd : 0 ≤ d ∧ d ≤ (p.length : Int)
  rotate_left
  · rw [decide_eq_false hd, Bool.false_and]; exact evn (by simp) jt
  rw [decide_eq_true hd, Bool.true_and]
  refine evp rfl ?_
  by_cases hq : q.length = 12
  rotate_left
  · rw [decide_eq_false hq, Bool.false_and, show ((q.length : Int) != 12) = true by simpa using (show ¬ (q.length : Int) = 12 by omega)]; exact jt
  rw [decide_eq_true hq, Bool.true_and, show ((q.length : Int) != 12) = false by simpa using (show (q.length : Int) = 12 by omega)]
  have hl := planOk_len hp
  have hin := planOk_in hp
  obtain ⟨T, hT⟩ : ∃ T, P.tunedBy (p.take d.toNat) tuned0 = T := ⟨_, rfl⟩
  have hTl : T.length = 12 := by rw [← hT, tunedBy_len]; rfl
  have hTi : ∀ c : Nat, (hc : c < T.length) → T[c] = (decide (c = 0) || decide (0 ≤ stepTo (c : Int) p 0 ∧ stepTo (c : Int) p 0 < d)) := by
    intro c hc
    have h1 := tunedBy_get (p.take d.toNat) tuned0 (fun x hx => (hin x (List.mem_of_mem_take hx)).2.2.1) c (show c < 12 by omega)
    rw [hT, List.getElem?_eq_getElem hc] at h1
    rw [Option.some.inj h1]
    congr 1
    · have : ∀ c, (h : c < tuned0.length) → tuned0[c] = decide (c = 0) := by decide
      exact this c _
    · have h2 := stepTo_lt (c : Int) p 0 d.toNat
      rw [Nat.zero_add, Int.toNat_of_nonneg hd.1] at h2
      rw [Bool.eq_iff_iff, decide_eq_true_iff, h2]
      simp
  rw [hT]
  have key : ∀ i : Nat, i ≤ 12 → Ev (fun n => spec_WorkOk.l0 n (i : Int) p d q) (keyGo (T.drop i) (q.drop i)) := by
    refine down (n := 12) ?_ ?_
    · refine Ev.step (fun n => by rw [spec_WorkOk.l0]) (evn (by omega) (evs ?_))
      rw [List.drop_eq_nil_of_le (by omega)]; rfl
    · intro i hi ih
      refine Ev.step (fun n => by rw [spec_WorkOk.l0]) ?_
      refine evp (by omega) (Ev.bind (stepTo_ev p _ (by omega)) ?_)
      rw [rd_nat q i (by omega), drop_cons T i (by omega), drop_cons q i (by omega), keyGo, hTi i (by omega), w64 (n := (i : Int) + 1) (by omega) (by omega)]
      have fin : ∀ v : Bool, Ev (fun n => (spec_l18Pitch.f q[i]).bind fun t => if t = true then spec_WorkOk.l0 n (((i + 1 : Nat)) : Int) p d q else some false) (decide (1 ≤ q[i] ∧ q[i] ≤ 10000000) && keyGo (T.drop (i + 1)) (q.drop (i + 1))) := by
        intro v
        refine evb (pitch_eq _) ?_
        by_cases hf : fine q[i] = true
        · rw [show decide (1 ≤ q[i] ∧ q[i] ≤ 10000000) = true from hf, Bool.true_and]; exact evp hf ih
        · rw [show decide (1 ≤ q[i] ∧ q[i] ≤ 10000000) = false by simpa [fine] using hf, Bool.false_and]; exact evn hf (Ev.now _)
      have zer : Ev (fun n => if 0 ≤ (i : Int) then (if (i : Int) < (q.length : Int) then (if q[i] = 0 then spec_WorkOk.l0 n (((i + 1 : Nat)) : Int) p d q else some false) else none) else none) (decide (q[i] = 0) && keyGo (T.drop (i + 1)) (q.drop (i + 1))) := by
        refine evp (by omega) (evp (by omega) ?_)
        by_cases hz : q[i] = 0
        · rw [decide_eq_true hz, Bool.true_and]; exact evp hz ih
        · rw [decide_eq_false hz, Bool.false_and]; exact evn hz (Ev.now _)
      by_cases h0 : i = 0
      · refine evp (by omega) (evp (by omega) (evp (by omega) ?_))
        rw [decide_eq_true h0, Bool.true_or, if_pos rfl]
        exact fin true
      refine evn (by omega) ?_
      rw [decide_eq_false h0, Bool.false_or]
      by_cases h1 : 0 ≤ stepTo (i : Int) p 0
      rotate_left
      · rw [decide_eq_false (fun h => h1 h.1), if_neg (by simp)]; exact evn (by omega) zer
      refine evp (by omega) ?_
      by_cases h2 : stepTo (i : Int) p 0 < d
      · rw [decide_eq_true ⟨h1, h2⟩, if_pos rfl]; exact evp h2 (evp (by omega) (evp (by omega) (fin true)))
      · rw [decide_eq_false (fun h => h2 h.2), if_neg (by simp)]; exact evn h2 zer
  refine Ev.step (fun n => by rw [spec_WorkOk.j0]) (evn (by decide) ?_)
  exact key 0 (by omega)
theorem workImpl_eq (p : List S112) (d : Int) (q : List Int) : impl_WorkOk.f p d q = some (workOk p d q) := rfl
theorem workOk_plan {p : List S112} {d : Int} {q : List Int} (h : workOk p d q = true) : planOk p = true := by
  simp only [workOk, Bool.and_eq_true] at h; exact h.1
theorem workOk_done {p : List S112} {d : Int} {q : List Int} (h : workOk p d q = true) : 0 ≤ d ∧ d ≤ p.length := by
  simp only [workOk, Bool.and_eq_true, decide_eq_true_eq] at h; exact h.2.1
theorem workOk_len {p : List S112} {d : Int} {q : List Int} (h : workOk p d q = true) : q.length = 12 := by
  simp only [workOk, Bool.and_eq_true, decide_eq_true_eq] at h; exact h.2.2.1
def tuneAt (p : List S112) (q : List Int) (i : Nat) : Int := tunedPitch (q.getD (p.getD i z112).f0.toNat 0) (p.getD i z112).f2 (p.getD i z112).f3
theorem getS (p : List S112) (i : Nat) (hi : i < p.length) : p.getD i z112 = p[i] := by simp [List.getD_eq_getElem?_getD, hi]
theorem tunedBy_ev (p : List S112) (d : Int) (q : List Int) (i : Nat) (hp : planOk p = true) (hq : q.length = 12) (hi : i < p.length) : Ev (fun n => impl_tunedBy.f n p d q (i : Int)) (tuneAt p q i) := by
  obtain ⟨k0, k1, k2, k3, k4⟩ := planOk_in hp p[i] (List.getElem_mem hi)
  unfold impl_tunedBy.f tuneAt
  rw [getS p i hi, rdS p i hi]
  refine evp (by omega) (evp (by omega) (evp k0 (evp (by omega) (Ev.bind (tuned_impl _ _ _) (Ev.now _)))))
theorem getD_set_self (q : List Int) (i : Nat) (v : Int) (h : i < q.length) : (q.set i v).getD i 0 = v := by simp [List.getD_eq_getElem?_getD, h]
theorem getD_set_ne (q : List Int) (i k : Nat) (v : Int) (h : i ≠ k) : (q.set i v).getD k 0 = q.getD k 0 := by
  simp only [List.getD_eq_getElem?_getD]; rw [List.getElem?_set_ne h]
def pit (p : List S112) (s : Int) : Nat → Int
  | 0 => s
  | k + 1 => tunedPitch (pit p s k) (p.getD k z112).f2 (p.getD k z112).f3
def lows : List Int := [155000, 115875, 86531, 64523, 48017, 35638, 26353, 19390, 14167, 10250, 7312, 5109]
def highs : List Int := [345000, 517500, 388125, 582187, 436640, 654960, 491220, 368415, 552622, 414466, 621699, 466274]
theorem fine_of {n : Int} (h1 : 1 ≤ n) (h2 : n ≤ 10000000) : fine n = true := decide_eq_true ⟨h1, h2⟩
theorem tuned_five (a b : Int) (h1 : 2000 ≤ a) (h2 : a ≤ 1000000) (h3 : 0 ≤ b) (h4 : b < 1500) : tunedPitch a 1 b = (3 * a - b) / 2 := by
  unfold tunedPitch orZero mx
  rw [if_pos (fine_of (by omega) (by omega)), if_pos (by omega), if_pos rfl, w64 (n := 3 * a) (by omega) (by omega), w64 (n := 3 * a - b) (by omega) (by omega)]
  have e : (if (3 * a - b) < 0 then (0 : Int) else 3 * a - b) = 3 * a - b := if_neg (by omega)
  rw [e]
  rw [Int.tdiv_eq_ediv_of_nonneg (by omega), w64 (by omega) (by omega), if_pos (fine_of (by omega) (by omega))]
theorem tuned_four (a b : Int) (h1 : 2000 ≤ a) (h2 : a ≤ 1000000) (h3 : 0 ≤ b) (h4 : b < 1500) : tunedPitch a 2 b = (3 * a - b) / 4 := by
  unfold tunedPitch orZero mx
  rw [if_pos (fine_of (by omega) (by omega)), if_pos (by omega), if_neg (by decide), if_pos rfl, w64 (n := 3 * a) (by omega) (by omega), w64 (n := 3 * a - b) (by omega) (by omega)]
  have e : (if (3 * a - b) < 0 then (0 : Int) else 3 * a - b) = 3 * a - b := if_neg (by omega)
  rw [e]
  rw [Int.tdiv_eq_ediv_of_nonneg (by omega), w64 (by omega) (by omega), if_pos (fine_of (by omega) (by omega))]
theorem bound_step (k : Nat) (hk : k < 11) (a b x : Int) (h1 : lows.getD k 0 ≤ a) (h2 : a ≤ highs.getD k 0) (h3 : 0 ≤ b) (h4 : b < 1500) (hx : x = 2 ∨ x = usualKind k) :
    lows.getD (k + 1) 0 ≤ tunedPitch a x b ∧ tunedPitch a x b ≤ highs.getD (k + 1) 0 := by
  have a1 : 2000 ≤ a ∧ a ≤ 1000000 := by
    have : ∀ k : Nat, k < 11 → 2000 ≤ lows.getD k 0 ∧ highs.getD k 0 ≤ 1000000 := by decide
    have := this k hk; omega
  have hx2 : x = 2 ∨ (x = 1 ∧ usualKind k = 1) := by
    rcases hx with h | h
    · exact .inl h
    · unfold usualKind at h ⊢
      by_cases h5 : k = 0 ∨ k = 2 ∨ k = 4 ∨ k = 7 ∨ k = 9
      · rw [if_pos h5] at h ⊢; exact .inr ⟨h, rfl⟩
      · rw [if_neg h5] at h; exact .inl h
  have hk2 : k = 0 ∨ k = 1 ∨ k = 2 ∨ k = 3 ∨ k = 4 ∨ k = 5 ∨ k = 6 ∨ k = 7 ∨ k = 8 ∨ k = 9 ∨ k = 10 := by omega
  rcases hx2 with rfl | ⟨rfl, hu⟩
  · rw [tuned_four a b a1.1 a1.2 h3 h4]
    rcases hk2 with rfl | rfl | rfl | rfl | rfl | rfl | rfl | rfl | rfl | rfl | rfl <;> simp only [lows, highs, List.getD_cons_zero, List.getD_cons_succ] at h1 h2 ⊢ <;> omega
  · rw [tuned_five a b a1.1 a1.2 h3 h4]
    rcases hk2 with rfl | rfl | rfl | rfl | rfl | rfl | rfl | rfl | rfl | rfl | rfl <;> first | (exact absurd hu (by decide)) | (simp only [lows, highs, List.getD_cons_zero, List.getD_cons_succ] at h1 h2 ⊢; omega)
section
variable {p : List S112} (g : gPlan p) {s : Int} (hs : 155000 ≤ s ∧ s ≤ 345000)
include g
theorem gAt (i : Nat) (h : i < p.length) : (p.getD i z112).f0 = i ∧ (p.getD i z112).f1 = (i : Int) + 1 ∧ ((p.getD i z112).f2 = 2 ∨ (p.getD i z112).f2 = usualKind i) ∧ 0 ≤ (p.getD i z112).f3 ∧ (p.getD i z112).f3 < 1500 := by
  rw [getS p i h]; exact g.2 i h
include hs
theorem pit_bounds (k : Nat) (hk : k ≤ p.length) : lows.getD k 0 ≤ pit p s k ∧ pit p s k ≤ highs.getD k 0 := by
  induction k with
  | zero => exact hs
  | succ k ih =>
    obtain ⟨h1, h2⟩ := ih (by omega)
    obtain ⟨g0, g1, g2, g3, g4⟩ := gAt g k (by omega)
    exact bound_step k (by have := g.1; omega) _ _ _ h1 h2 g3 g4 g2
theorem pit_fine (k : Nat) (hk : k ≤ p.length) : 2000 ≤ pit p s k ∧ pit p s k ≤ 1000000 := by
  have : ∀ k : Nat, k < 12 → 2000 ≤ lows.getD k 0 ∧ highs.getD k 0 ≤ 1000000 := by decide
  have h1 := this k (by have := g.1; omega)
  have h2 := pit_bounds g hs k hk
  omega
end
def pits (p : List S112) (s : Int) (n : Nat) : List Int := (List.range 12).map (fun k => if k ≤ n then pit p s k else 0)
theorem pits_len (p : List S112) (s : Int) (n : Nat) : (pits p s n).length = 12 := by simp [pits]
theorem pits_get (p : List S112) (s : Int) (n k : Nat) (hk : k < 12) : (pits p s n).getD k 0 = if k ≤ n then pit p s k else 0 := by
  simp [pits, List.getD_eq_getElem?_getD, hk]
theorem list_ext12 {a b : List Int} (ha : a.length = 12) (hb : b.length = 12) (h : ∀ k : Nat, k < 12 → a.getD k 0 = b.getD k 0) : a = b := by
  apply List.ext_getElem (by omega)
  intro k h1 h2
  have := h k (by omega)
  simpa [List.getD_eq_getElem?_getD, h1, h2] using this
theorem pits_zero (p : List S112) (s : Int) : pits p s 0 = begun s := by
  refine list_ext12 (pits_len p s 0) (by simp [begun]) (fun k hk => ?_)
  rw [pits_get p s 0 k hk]
  cases k with
  | zero => rfl
  | succ k =>
    rw [if_neg (by omega)]
    have : ∀ k : Nat, k < 11 → (List.replicate 11 (0 : Int)).getD k 0 = 0 := by decide
    exact (this k (by omega)).symm
theorem pits_succ (p : List S112) (s : Int) (n : Nat) (hn : n < 11) : (pits p s n).set (n + 1) (pit p s (n + 1)) = pits p s (n + 1) := by
  refine list_ext12 (by simp [pits_len]) (pits_len _ _ _) (fun k hk => ?_)
  have h1 := pits_get p s n k hk
  rw [pits_get p s (n + 1) k hk]
  by_cases e : k = n + 1
  · subst e
    rw [if_pos (Nat.le_refl _)]
    exact getD_set_self _ _ _ (by rw [pits_len]; omega)
  · have : ((pits p s n).set (n + 1) (pit p s (n + 1))).getD k 0 = (pits p s n).getD k 0 := by
      simp only [List.getD_eq_getElem?_getD]
      rw [List.getElem?_set_ne (by omega)]
    rw [this, h1]
    by_cases h2 : k ≤ n
    · rw [if_pos h2, if_pos (by omega)]
    · rw [if_neg h2, if_neg (by omega)]
def tunedN (n : Nat) : List Bool := (List.range 12).map (fun k => decide (k ≤ n))
theorem tunedN_zero : tunedN 0 = tuned0 := by decide
theorem tunedN_succ (n : Nat) (hn : n < 11) : (tunedN n).set (n + 1) true = tunedN (n + 1) := by
  have : ∀ n : Nat, n < 11 → (tunedN n).set (n + 1) true = tunedN (n + 1) := by decide
  exact this n hn
theorem tunedN_get (n k : Nat) (hk : k < 12) : (tunedN n).getD k false = decide (k ≤ n) := by simp [tunedN, List.getD_eq_getElem?_getD, hk]
theorem usualKind_le (i : Nat) : usualKind i = 1 ∨ usualKind i = 2 := by unfold usualKind; split <;> simp
theorem planGo_good {p : List S112} (g : gPlan p) (j : Nat) (hj : j ≤ p.length) : planGo (p.drop j) (tunedN j) = true := by
  refine down (P := fun j => planGo (p.drop j) (tunedN j) = true) (n := p.length) ?_ ?_ j hj
  · rw [drop_end]; rfl
  · intro i hi ih
    have hl := g.1
    obtain ⟨g0, g1, g2, g3, g4⟩ := g.2 i hi
    rw [drop_cons p i hi, planGo, Bool.and_eq_true]
    constructor
    · have t1 := tunedN_get i i (by omega)
      have t2 := tunedN_get i (i + 1) (by omega)
      have e1 : (p[i].f0).toNat = i := by omega
      have e2 : (p[i].f1).toNat = i + 1 := by omega
      unfold stepOk
      rw [e1, e2, t1, t2]
      have hk : p[i].f2 = 1 ∨ p[i].f2 = 2 := by
        rcases g2 with h | h
        · exact .inr h
        · rw [h]; exact usualKind_le i
      simp only [Bool.and_eq_true, Bool.or_eq_true, decide_eq_true_eq]
      refine ⟨hk, ⟨g3, by omega⟩, by omega, by omega, by omega, Nat.le_refl _, ?_⟩
      simp
    · rw [g1, show ((i : Int) + 1).toNat = i + 1 by omega, tunedN_succ i (by omega)]
      exact ih
theorem planOk_good {p : List S112} (g : gPlan p) : planOk p = true := by
  unfold planOk
  rw [Bool.and_eq_true, decide_eq_true_eq]
  refine ⟨g.1, ?_⟩
  have := planGo_good g 0 (Nat.zero_le _)
  rwa [tunedN_zero] at this
theorem tunedBy_good {p : List S112} (g : gPlan p) (n : Nat) (hn : n ≤ p.length) : P.tunedBy (p.take n) tuned0 = tunedN n := by
  induction n with
  | zero => rw [tunedN_zero]; rfl
  | succ n ih =>
    rw [List.take_succ_eq_append_getElem (by omega), P.tunedBy_snoc, ih (by omega)]
    obtain ⟨g0, g1, _⟩ := g.2 n (by omega)
    rw [g1, show ((n : Int) + 1).toNat = n + 1 by omega]
    exact tunedN_succ n (by have := g.1; omega)
theorem keyGo_iff : ∀ (t : List Bool) (q : List Int), t.length = q.length → (keyGo t q = true ↔ ∀ k : Nat, k < q.length → if t.getD k false = true then 1 ≤ q.getD k 0 ∧ q.getD k 0 ≤ 10000000 else q.getD k 0 = 0)
  | [], [], _ => by simp [keyGo]
  | b :: t, x :: q, h => by
    have ih := keyGo_iff t q (by simpa using h)
    rw [keyGo, Bool.and_eq_true, ih]
    constructor
    · rintro ⟨h1, h2⟩ k hk
      cases k with
      | zero => simpa [apply_ite] using h1
      | succ k => simpa using h2 k (by simpa using hk)
    · intro h2
      refine ⟨?_, fun k hk => by simpa using h2 (k + 1) (by simpa using hk)⟩
      have := h2 0 (by simp)
      cases b <;> simpa using this
theorem workOk_good {p : List S112} (g : gPlan p) (n : Nat) (hn : n ≤ p.length) (q : List Int) :
    workOk p (n : Int) q = true ↔ q.length = 12 ∧ (∀ k : Nat, k ≤ n → 1 ≤ q.getD k 0 ∧ q.getD k 0 ≤ 10000000) ∧ (∀ k : Nat, n < k → k < 12 → q.getD k 0 = 0) := by
  unfold workOk
  rw [planOk_good g, Bool.true_and, decide_eq_true (show 0 ≤ (n : Int) ∧ (n : Int) ≤ p.length by omega), Bool.true_and, Int.toNat_natCast, tunedBy_good g n hn, Bool.and_eq_true, decide_eq_true_eq]
  have hl := g.1
  constructor
  · rintro ⟨h1, h2⟩
    rw [keyGo_iff _ _ (by simp [tunedN, h1])] at h2
    refine ⟨h1, fun k hk => ?_, fun k hk hk2 => ?_⟩
    · have := h2 k (by omega)
      rw [tunedN_get n k (by omega), decide_eq_true hk, if_pos rfl] at this
      exact this
    · have := h2 k (by omega)
      rw [tunedN_get n k (by omega), decide_eq_false (by omega), if_neg (by simp)] at this
      exact this
  · rintro ⟨h1, h2, h3⟩
    refine ⟨h1, (keyGo_iff _ _ (by simp [tunedN, h1])).2 fun k hk => ?_⟩
    rw [tunedN_get n k (by omega)]
    by_cases h : k ≤ n
    · rw [decide_eq_true h, if_pos rfl]; exact h2 k h
    · rw [decide_eq_false h, if_neg (by simp)]; exact h3 k (by omega) (by omega)
theorem workOk_pits {p : List S112} (g : gPlan p) {s : Int} (hs : 155000 ≤ s ∧ s ≤ 345000) (n : Nat) (hn : n ≤ p.length) : workOk p (n : Int) (pits p s n) = true := by
  have hl := g.1
  refine (workOk_good g n hn _).2 ⟨pits_len _ _ _, fun k hk => ?_, fun k hk hk2 => ?_⟩
  · rw [pits_get p s n k (by omega), if_pos hk]
    have := pit_fine g hs k (by omega)
    omega
  · rw [pits_get p s n k hk2, if_neg (by omega)]
theorem runGo_good {p : List S112} (g : gPlan p) {s : Int} (hs : 155000 ≤ s ∧ s ≤ 345000) (j : Nat) (hj : j ≤ p.length) : runGo (p.drop j) (pits p s j) = (pits p s p.length, true) := by
  refine down (P := fun j => runGo (p.drop j) (pits p s j) = (pits p s p.length, true)) (n := p.length) ?_ ?_ j hj
  · rw [drop_end]; rfl
  · intro i hi ih
    have hl := g.1
    obtain ⟨g0, g1, _⟩ := g.2 i hi
    rw [drop_cons p i hi, runGo]
    have e1 : (p[i].f0).toNat = i := by omega
    have e2 : (p[i].f1).toNat = i + 1 := by omega
    have e3 : tunedPitch ((pits p s i).getD i 0) p[i].f2 p[i].f3 = pit p s (i + 1) := by
      rw [pits_get p s i i (by omega), if_pos (Nat.le_refl _)]
      show _ = tunedPitch _ (p.getD i z112).f2 (p.getD i z112).f3
      rw [getS p i hi]
    have hf := pit_fine g hs (i + 1) hi
    rw [e1, e2, e3, if_neg (by omega), pits_succ p s i (by omega)]
    exact ih
theorem runPlan_good {p : List S112} (g : gPlan p) {s : Int} (hs : 155000 ≤ s ∧ s ≤ 345000) : runPlan s p = (pits p s p.length, true) := by
  unfold runPlan
  rw [if_pos ⟨planOk_good g, fine_of (by omega) (by omega)⟩, ← pits_zero p s]
  exact runGo_good g hs 0 (Nat.zero_le _)
theorem copyPlan_eq (p : List S112) (hp : p.length ≤ 4000000) : impl_copyPlan.f p = some p := by
  unfold impl_copyPlan.f; simp only [Option.bind_some]; rw [if_pos (by simp; omega)]; simp
theorem l19Copy_eq (p : List S112) (hp : p.length ≤ 4000000) : spec_l19Copy.f p = some p := by
  unfold spec_l19Copy.f; simp only [Option.bind_some]; rw [if_pos (by simp; omega)]; simp
theorem l02Copy_eq (p : List Int) (hp : p.length ≤ 4000000) : spec_l02Copy.f p = some p := by
  unfold spec_l02Copy.f; simp only [Option.bind_some]; rw [if_pos (by simp; omega)]; simp
theorem copyWork_eq (p : List S112) (d : Int) (q : List Int) (hp : p.length ≤ 4000000) (hq : q.length ≤ 4000000) : impl_copyWork.f p d q = some (p, d, q) := by
  unfold impl_copyWork.f; rw [copyPlan_eq p hp]; simp only [Option.bind_some]; rw [if_pos (by simp; omega)]; simp
theorem l36Copy_eq (p : List S112) (d : Int) (q : List Int) (hp : p.length ≤ 4000000) (hq : q.length ≤ 4000000) : spec_l36Copy.f p d q = some (p, d, q) := by
  unfold spec_l36Copy.f; rw [l19Copy_eq p hp]; simp only [Option.bind_some]; rw [l02Copy_eq q hq]; rfl
theorem copyShop_eq (p : List S112) (d : Int) (q : List Int) (a m : Int) (l : List S104) (hp : p.length ≤ 4000000) (hq : q.length ≤ 4000000) (hl : l.length ≤ 4000000) : impl_copyShop.f p d q a m l = some (p, d, q, a, m, l) := by
  unfold impl_copyShop.f; rw [copyWork_eq p d q hp hq, Option.bind_some, copyLog_eq l hl]; rfl
theorem l38Copy_eq (p : List S112) (d : Int) (q : List Int) (a m : Int) (l : List S104) (hp : p.length ≤ 4000000) (hq : q.length ≤ 4000000) (hl : l.length ≤ 4000000) : spec_l38Copy.f p d q a m l = some (p, d, q, a, m, l) := by
  unfold spec_l38Copy.f; rw [l36Copy_eq p d q hp hq, Option.bind_some, l34Copy_eq l hl]; rfl
theorem plan_ev (b : List Int) (hb : b.length ≤ 1048576) (i h : Int) (hi : 0 ≤ i) : ∃ p i' h', Ev (fun k => spec_l19Plan.f k b i h) (p, i', h') ∧ gPlan p ∧ 0 ≤ i' := by
  have key : ∀ j : Nat, j ≤ 11 → ∀ L : List S112, L.length = 11 → gPlan L → ∀ i h : Int, 0 ≤ i → ∃ p i' h', Ev (fun k => spec_l19Plan.l0 k L (j : Int) b i h) (p, i', h') ∧ gPlan p ∧ 0 ≤ i' := by
    refine down (P := fun j => ∀ L : List S112, L.length = 11 → gPlan L → ∀ i h : Int, 0 ≤ i → ∃ p i' h', Ev (fun k => spec_l19Plan.l0 k L (j : Int) b i h) (p, i', h') ∧ gPlan p ∧ 0 ≤ i') (n := 11) ?_ ?_
    · intro L hL g i h hi
      obtain ⟨v, i1, h1, e1, v0, v1, _, j1⟩ := below_ev b hb i h 12 hi
      obtain ⟨u, i2, h2, e2, hu, j2⟩ := pick_ev b hb i1 h1 [11, 11, 11, v] j1 (by simp)
      have hu2 : 0 ≤ u ∧ u ≤ 11 := by simp at hu; have := v1 (by omega); omega
      refine ⟨L.take u.toNat, i2, h2, ?_, gPlan_take g _, j2⟩
      refine Ev.step (fun k => by rw [spec_l19Plan.l0]) ?_
      refine evn (by omega) (evb e1 ?_)
      dsimp only
      refine evb e2 ?_
      dsimp only
      refine evp hu2.1 ?_
      refine evp (by omega) ?_
      exact Ev.now _
    · intro j hj ih L hL g i h hi
      obtain ⟨v, i1, h1, e1, v0, v1, _, j1⟩ := below_ev b hb i h 1500 hi
      obtain ⟨o, i2, h2, e2, j2⟩ := once_ev b hb i1 h1 5 j1
      have hr : ∀ M : List S112, M.length = 11 → rd_T112 M (j : Int) = M.getD j z112 := fun M hM => by rw [rdS M j (by omega)]; simp [List.getD_eq_getElem?_getD, show j < M.length by omega]
      have gs : ∀ M : List S112, M.length = 11 → gPlan M → ∀ x, gStep j x → gPlan (M.set j x) := fun M hM gM x gx => by
        refine ⟨by simp; omega, fun i hi => ?_⟩
        rw [List.getElem_set]
        split
        · rename_i e; subst e; exact gx
        · exact gM.2 i _
      have gd : ∀ M : List S112, M.length = 11 → gPlan M → gStep j (M.getD j z112) := fun M hM gM => by
        have hj2 : j < M.length := by omega
        have := gM.2 j hj2
        simpa [List.getD_eq_getElem?_getD, hj2] using this
      have g1 := gd L hL g
      have gy := gs L hL g (⟨(L.getD j z112).f0, (L.getD j z112).f1, (L.getD j z112).f2, v⟩ : S112) ⟨g1.1, g1.2.1, g1.2.2.1, v0, v1 (by omega)⟩
      obtain ⟨Y, hY⟩ : ∃ Y, L.set j (⟨(L.getD j z112).f0, (L.getD j z112).f1, (L.getD j z112).f2, v⟩ : S112) = Y := ⟨_, rfl⟩
      rw [hY] at gy
      have hYl : Y.length = 11 := by rw [← hY]; simpa using hL
      have g2 := gd Y hYl gy
      have gz := gs Y hYl gy (⟨(Y.getD j z112).f0, (Y.getD j z112).f1, 2, (Y.getD j z112).f3⟩ : S112) ⟨g2.1, g2.2.1, .inl rfl, g2.2.2.2.1, g2.2.2.2.2⟩
      have w1 : wrap64 ((j : Int) + 1) = ((j + 1 : Nat) : Int) := w64 (by omega) (by omega)
      have e3 : (some (L.set (j : Int).toNat (⟨(rd_T112 L (j : Int)).f0, (rd_T112 L (j : Int)).f1, (rd_T112 L (j : Int)).f2, v⟩ : S112) : List S112)) = some Y := by rw [hr L hL, Int.toNat_natCast, hY]
      cases ho : o with
      | true =>
        obtain ⟨p, i', h', ep, gp, jp⟩ := ih _ (by simpa using hYl) gz i2 h2 j2
        refine ⟨p, i', h', ?_, gp, jp⟩
        refine Ev.step (fun k => by rw [spec_l19Plan.l0]) ?_
        refine evp (by omega) (evb e1 ?_)
        refine evp (by omega) (evb e3 ?_)
        refine evb e2 ?_
        refine evp ho ?_
        rw [hr Y hYl, Int.toNat_natCast, w1]
        exact ep
      | false =>
        obtain ⟨p, i', h', ep, gp, jp⟩ := ih Y hYl gy i2 h2 j2
        refine ⟨p, i', h', ?_, gp, jp⟩
        refine Ev.step (fun k => by rw [spec_l19Plan.l0]) ?_
        refine evp (by omega) (evb e1 ?_)
        refine evp (by omega) (evb e3 ?_)
        refine evb e2 ?_
        refine evn (by rw [ho]; simp) ?_
        rw [w1]
        exact ep
  unfold spec_l19Plan.f
  obtain ⟨g, hg⟩ := gPlan_usual 0 (by omega)
  obtain ⟨p, i', h', e, g', j⟩ := key 0 (Nat.zero_le _) (usualPlan 0) hg g i h hi
  exact ⟨p, i', h', Ev.bind (usual_spec 0) e, g', j⟩
theorem rdA (l : List S41) (i : Nat) (h : i < l.length) : rd_T41 l (i : Int) = l[i] := by
  unfold rd_T41; simp [List.getD_eq_getElem?_getD, h]
end Go.Proofs.YtanhnhkcpbdfmaaGreat.Q
namespace Go.Proofs.YtanhnhkcpbdfmaaGreat.V
open Go.RowKit Go.Proofs.YtanhnhkcpbdfmaaGreatW.PrintWords
class CelR (W : World) (a : Addr) (v : outParam Value) : Prop where out : W.cell? a = some v
class FarA (a : Addr) (g : Nat) : Prop where out : a.block ≠ g
section
variable {w w0 W : World} {a : Addr} {v u : Value} {o : Obj} {n g i : Nat}
theorem celR_lt (h : CelR W a v) : a.block < W.heap.size := World.block_lt_of_cell? W a h.out
instance [h : CelR W a v] : CelR (W.alloc o) a v := ⟨((below_alloc (RowKit.Below.refl W.heap.size W) o).cell (celR_lt h)).trans h.out⟩
instance [h : CelR W a v] : CelR W.drew a v := ⟨h.out⟩
instance [h : CelR W a v] : CelR (W.drewN n) a v := ⟨h.out⟩
instance [b : Bel w W] [h : CelR w a v] : CelR W a v := ⟨(b.out.cell (celR_lt h)).trans h.out⟩
instance [b : Sin w0 W] [h : CelR w0 a v] : CelR W a v := ⟨(b.out.cell (celR_lt h)).trans h.out⟩
instance [h : Born W g] [k : CelR W a v] : FarA a g := ⟨by rw [h.out]; exact Nat.ne_of_lt (celR_lt k)⟩
instance [h : CelR W a v] [k : FarA a g] : CelR (W.setCell ⟨g, i, none⟩ u) a v := ⟨(cell_far k.out u).trans h.out⟩
theorem cellR_c (W : World) (a : Addr) {v : Value} [h : CelR W a v] : W.cell? a = some v := h.out
end
class InR (w1 w2 : outParam World) (g : Nat) : Prop where out : w1.heap.size ≤ g ∧ g < w2.heap.size
class IRow (e : outParam Nat) (w1 : outParam World) (W : World) (g : Nat) (c : outParam Nat) (xs : outParam (List Int)) : Prop where out : (Kd.int .i64).R e W w1.heap.size (fun _ => True) (.slice (some ⟨g, 0, none⟩) xs.length c) xs
class At {α : Type} (d : Kd α) (e : outParam Nat) (w1 : outParam World) (W : World) (A : Option Addr) (c : outParam Nat) (xs : outParam (List α)) : Prop where out : d.R e W w1.heap.size (fun _ => True) (.slice A xs.length c) xs
class IxIn (i : Int) (xs : List Int) : Prop where out : 0 ≤ i ∧ i < xs.length
class CelE (w0 : outParam World) (a : Addr) (v : outParam Value) : Prop where out : w0.cell? a = some v
class NeT {α : Type} (d : Kd α) (e t : Nat) : Prop where out : ∀ q, q ∈ e :: d.E → q ≠ t
section
variable {w0 w1 w2 a b w W : World} {g g' e c i n t B : Nat} {A : Option Addr} {xs ys : List Int} {v : Int} {u : Value} {o : Obj} {cs : Array Value}
instance [h : RowE (Kd.int .i64) e w1 w2 (some ⟨g, 0, none⟩) c xs] : InR w1 w2 g := ⟨by
  have := (Kd.R_bound h.out).1 g (by simp [Value.ownBlock])
  exact ⟨this.2.1, this.2.2.1⟩⟩
instance [h : InR w1 w2 g] [k : Off w1 w2 g'] : NeB g' g := ⟨by have := h.out; have := k.out; omega⟩
instance [h : InR w1 w2 g] [k : Off w1 w2 g'] : NeB g g' := ⟨by have := h.out; have := k.out; omega⟩
instance [h : InR w1 w2 g] [k : Sz w0 w1] : Nw w0 g := ⟨Nat.le_trans k.out h.out.1⟩
instance [h : InR w1 w2 g] [k : Dis w1 w2 a b] : Off a b g := ⟨by have := h.out; have := k.out; omega⟩
instance [h : RowE (Kd.int .i64) e w1 w2 (some ⟨g, 0, none⟩) c xs] [k : Keep w1 w2 W] : IRow e w1 W g c xs := ⟨row_ (h := h) (k := k)⟩
instance [h : IRow e w1 W g c xs] : IRow e w1 (W.alloc o) g c xs := ⟨Kd.R_alloc h.out o⟩
instance [h : IRow e w1 W g c xs] : IRow e w1 W.drew g c xs := ⟨Kd.R_drew h.out⟩
instance [h : IRow e w1 W g c xs] : IRow e w1 (W.drewN n) g c xs := ⟨Kd.R_drewN h.out n⟩
instance [k : Bel w W] [h : IRow e w1 w g c xs] : IRow e w1 W g c xs := ⟨Kd.R_below h.out k.out⟩
instance [k : Sin w W] [h : IRow e w1 w g c xs] : IRow e w1 W g c xs := ⟨Kd.R_below h.out k.out⟩
instance [h : IRow e w1 W g c xs] : IRow e w1 (W.setCell ⟨g, i, none⟩ (.int .i64 v)) g c (xs.set i v) := ⟨by
  have := Kd.R_putn h.out (i : Int) v
  rw [List.length_set]
  exact this⟩
instance [h : IRow e w1 W g c xs] [k : NeB g g'] : IRow e w1 (W.setCell ⟨g', i, none⟩ u) g c xs := ⟨Kd.R_mono (Kd.R_far (p := ⟨g', i, none⟩) (ok := fun k => k = g) (Kd.R_of_own (Kd.own_of_R h.out) (fun k hk => by simp [Value.ownBlock] at hk; exact hk.symm)) (fun j hj => by rw [hj]; exact k.out) u) (fun _ _ => trivial)⟩
theorem cell_r (W : World) (g : Nat) (i : Int) [h : IRow e w1 W g c xs] [k : IxIn i xs] : W.cell? ⟨g, i.toNat, none⟩ = some (.int .i64 (rd xs i)) := (Kd.R_celln 0 h.out i k.out.1 k.out.2).1
theorem frozen_r (W : World) (g : Nat) (i : Int) [h : IRow e w1 W g c xs] [k : IxIn i xs] : W.frozen? ⟨g, i.toNat, none⟩ = false := (Kd.R_celln 0 h.out i k.out.1 k.out.2).2
theorem cell_r0 (W : World) (g : Nat) [h : IRow e w1 W g c xs] [k : IxIn 0 xs] : W.cell? ⟨g, 0, none⟩ = some (.int .i64 (rd xs 0)) := cell_r W g 0
theorem frozen_r0 (W : World) (g : Nat) [h : IRow e w1 W g c xs] [k : IxIn 0 xs] : W.frozen? ⟨g, 0, none⟩ = false := frozen_r W g 0
theorem form_ {i : Int} (j : RowE (Kd.int .i64) e w1 w2 A c xs) (h0 : 0 ≤ i) (h1 : i < (xs.length : Int)) : ∃ g, A = some ⟨g, 0, none⟩ ∧ IxIn i xs := by
  obtain ⟨g, c', h, _⟩ := Kd.R_form j.out (by omega)
  injection h with h _ _
  exact ⟨g, h, ⟨⟨h0, h1⟩⟩⟩
theorem atI_ {i : Int} (j : RdE (Kd.int .i64) w0 A xs) (h0 : 0 ≤ i) (h1 : i < (xs.length : Int)) : ∃ ad, A = some ad ∧ CelE w0 (ad.add i.toNat) (.int .i64 (rd xs i)) := by
  obtain ⟨ad, e, h⟩ := Kd.at_int j.out i h0 h1
  exact ⟨ad, e, ⟨h⟩⟩
instance {p : Addr} [h : CelE w0 p u] [k : From w0 W] : CelR W p u := ⟨(k.out.cell (World.block_lt_of_cell? w0 p h.out)).trans h.out⟩
theorem bind_set_ {β : Type} {i : Nat} {f : List Int → Option β} {r : β} (h : (some (xs.set i v)).bind f = some r) : xs.length = (xs.set i v).length ∧ f (xs.set i v) = some r := ⟨(List.length_set ..).symm, h⟩
instance [h : LeI xs.length c] : LeI (xs.set i v).length c := ⟨by rw [List.length_set]; exact h.out⟩
theorem irowFin [h : IRow e w1 W g c xs] [l : From w w1] : (Kd.int .i64).R e W w.heap.size (fun _ => True) (.slice (some ⟨g, 0, none⟩) xs.length c) xs := Kd.R_lower h.out l.out.size
theorem irowFin' {m : Nat} [h : IRow e w1 W g c xs] [l : From w w1] (hm : m = xs.length) : (Kd.int .i64).R e W w.heap.size (fun _ => True) (.slice (some ⟨g, 0, none⟩) m c) xs := by rw [hm]; exact irowFin
instance [h : IRow e w1 W g c xs] : Rd (Kd.int .i64) W (some ⟨g, 0, none⟩) xs := ⟨(Kd.R_reads' h.out).2.2⟩
section
variable {α : Type} {d : Kd α} {zs : List α} {c' : Nat}
instance [h : RowE d t w1 w2 A c zs] [k : Keep w1 w2 W] [l : IRow e w W g c' ys] [m : NeT d t e] : At d t w1 (W.setCell ⟨g, i, none⟩ (.int .i64 v)) A c zs := ⟨Kd.R_over' (v := .slice (some ⟨g, 0, none⟩) ys.length c') (row_ (h := h) (k := k)) (Kd.R_typed l.out) m.out (Kd.R_putg l.out (i : Int) v).2⟩
instance [h : At d t w1 W A c zs] [l : IRow e w W g c' ys] [m : NeT d t e] : At d t w1 (W.setCell ⟨g, i, none⟩ (.int .i64 v)) A c zs := ⟨Kd.R_over' (v := .slice (some ⟨g, 0, none⟩) ys.length c') h.out (Kd.R_typed l.out) m.out (Kd.R_putg l.out (i : Int) v).2⟩
instance [h : At d t w1 W A c zs] : At d t w1 (W.alloc o) A c zs := ⟨Kd.R_alloc h.out o⟩
instance [h : At d t w1 W A c zs] : At d t w1 W.drew A c zs := ⟨Kd.R_drew h.out⟩
instance [h : At d t w1 W A c zs] : At d t w1 (W.drewN n) A c zs := ⟨Kd.R_drewN h.out n⟩
instance [k : Bel w W] [h : At d t w1 w A c zs] : At d t w1 W A c zs := ⟨Kd.R_below h.out k.out⟩
instance [k : Sin w W] [h : At d t w1 w A c zs] : At d t w1 W A c zs := ⟨Kd.R_below h.out k.out⟩
instance [h : At d t w1 W A c zs] [k : Blk W g cs e] [m : NeT d t e] : At d t w1 (W.setCell ⟨g, i, none⟩ u) A c zs := ⟨Kd.R_mono (Kd.R_far (p := ⟨g, i, none⟩) (Kd.R_types h.out k.out m.out) (fun _ hk => hk.2) u) (fun _ _ => trivial)⟩
theorem atFin [h : At d t w1 W A c zs] [l : From w w1] : d.R t W w.heap.size (fun _ => True) (.slice A zs.length c) zs := Kd.R_lower h.out l.out.size
instance [h : At d t w1 W A c zs] : Rd d W A zs := ⟨(Kd.R_reads' h.out).2.2⟩
end
end
end Go.Proofs.YtanhnhkcpbdfmaaGreat.V
