/- What functions of the program come to (f), that their calls come to just this (calls), and the plain laws over lists and numbers, and the law FnReplays: for every argument it answers true. No condition but those of the given row. -/
import Derived.Test.YtanhnhkcpbdfmaaGreatRows
import Derived.Test.YtanhnhkcpbdfmaaGreatG4
import Derived.WalkKit
import Derived.ProofKit
import Derived.OpenShut
import Derived.ShutString
import Derived.ChangeOld
import Derived.Below
import Derived.SizedLaws
set_option linter.unusedVariables false
set_option linter.unusedSimpArgs false
namespace Go.Proofs.YtanhnhkcpbdfmaaGreat.P
set_option maxHeartbeats 8000000
set_option maxRecDepth 100000
open Go.RowKit Go.Proofs.YtanhnhkcpbdfmaaGreatW.PrintWords Go.Proofs.YtanhnhkcpbdfmaaGreatW.PrintLast Go.Proofs.YtanhnhkcpbdfmaaGreatW.PrintMore
attribute [local go_sem] max2_int min2_int max_two min_two max_three min_three max_four min_four
def spec_DrawActs.f (k : Nat) (l0 : List Int) : Option ((List (S112)) × Int × List Int × Int × Int × (List (S104)) × (List (S41))) := (spec_l01New.f k l0).bind fun bt1829 => ((spec_l39Shop.f k bt1829.1 bt1829.2.1 bt1829.2.2).bind fun bt1833 => ((spec_l39List.f k bt1829.1 bt1833.2.2.2.2.2.2.1 bt1833.2.2.2.2.2.2.2).bind fun bt1847 => (some (bt1833.1, bt1833.2.1, bt1833.2.2.1, bt1833.2.2.2.1, bt1833.2.2.2.2.1, bt1833.2.2.2.2.2.1, bt1847.1))))
theorem spec_DrawActs.calls (k : Nat) (A0 : Option Addr) (c0 : Nat) (l0 : List Int) (r1 : List (S112)) (r2 : Int) (r3 : List Int) (r4 : Int) (r5 : Int) (r6 : List (S104)) (r7 : List (S41)) (w : World) (hr0 : Kd.C (Kd.int .u8) w A0 l0.length l0) (hc0 : l0.length ≤ c0) (h : spec_DrawActs.f k l0 = some (r1, r2, r3, r4, r5, r6, r7)) :
  Calls Tryz.prog 30 #[.slice A0 l0.length c0] w fun e w' => ∃ v0_ v2_ v5_ v6_ : Value, e = .returned (.tuple #[.agg #[v0_, .int .i64 r2, v2_, .int .i64 r4, .int .i64 r5, v5_], v6_]) ∧ Kd.R k112 112 w' w.heap.size (fun _ => True) v0_ r1 ∧ Kd.R (Kd.int .i64) 3 w' w.heap.size (fun _ => True) v2_ r3 ∧ Kd.R k104 104 w' w.heap.size (fun _ => True) v5_ r6 ∧ Kd.R k41 41 w' w.heap.size (fun _ => True) v6_ r7 ∧ Below w.heap.size w w' := by
 have hu37 := Tryz.underlying37
 have HR0 := A_ hr0
 have HC0 := A_ hc0
 clear hr0 hc0
 have HB := A_ (Below.refl w.heap.size w)
 have H : ((spec_l01New.f k l0).bind fun bt1829 => ((spec_l39Shop.f k bt1829.1 bt1829.2.1 bt1829.2.2).bind fun bt1833 => ((spec_l39List.f k bt1829.1 bt1833.2.2.2.2.2.2.1 bt1833.2.2.2.2.2.2.2).bind fun bt1847 => (some (bt1833.1, bt1833.2.1, bt1833.2.2.1, bt1833.2.2.2.1, bt1833.2.2.2.2.1, bt1833.2.2.2.2.2.1, bt1847.1))))) = some (r1, r2, r3, r4, r5, r6, r7) := h
 clear h
 replace H := Option.bind_eq_some_iff.mp H
 obtain ⟨⟨t1829, t1830, t1831⟩, A20, H⟩ := H
 (try dsimp only at H)
 have A2 := A_ A20
 clear A20
 replace H := Option.bind_eq_some_iff.mp H
 obtain ⟨⟨t1833, t1836, t1837, t1840, t1841, t1842, t1845, t1846⟩, A30, H⟩ := H
 (try dsimp only at H)
 have A3 := A_ A30
 clear A30
 replace H := Option.bind_eq_some_iff.mp H
 obtain ⟨⟨t1847, t1850, t1851⟩, A40, H⟩ := H
 (try dsimp only at H)
 have A4 := A_ A40
 clear A40
 simp only [Option.some.injEq, Prod.mk.injEq] at H
 obtain ⟨rfl, rfl, rfl, rfl, rfl, rfl, rfl⟩ := H
 go_enter Tryz.func30, Tryz.ntmps30
 go_wp2_with (first | ((with_reducible refine gate_dst (N := 2) rfl ?_); refine bX (N := 2) (cs := #[.slice none 0 0, .int .i64 0, .slice none 0 0, .int .i64 0, .int .i64 0, .slice none 0 0]) (t := 37) ?_; intro gb1828 hg w5 hbox hb; have n0_ := A_ (below_step (oB HB) hb); have n1_ := A_ (hbox); have n2_ := A_ ((by rw [hg]; exact (below_size (oB HB)) : w.heap.size ≤ gb1828)); have n3_ := A_ ((by rw [hg]; exact (below_size (oB HB)) : w.heap.size ≤ gb1828)); clear HB; have HB := n0_; have BK1828 := n1_; have GW1828 := n2_; have GE1828 := n3_; clear n0_ n1_ n2_ n3_; clear hb hbox hg) | ((with_reducible refine gate_callee (f := 72) rfl ?_); refine gL (some 6) Tryz.func72 #[.slice A0 l0.length c0] ?_; (with_reducible refine (spec_l01New.calls k _ _ l0 t1829 t1830 t1831 w _ ?side1 ?side2 ?side3 A2.out).mono ?_); (case side1 => repeat (first | (with_reducible first | exact HB.out | apply below_alloc | apply pw_below_drewN | apply below_drew1 | refine below_set ?_ GE1828.out) | exact HB.out)); (case side2 => exact HR0.out); (case side3 => exact HC0.out); rintro e w6 ⟨g1832, rfl, hi, hb, hb2⟩; refine ⟨_, rfl, ?_⟩; have n0_ := A_ (bb BK1828 hb2); have n1_ := A_ (hb); have n2_ := A_ (hi); have n3_ := A_ (IsS132.ne_blk hi (bb BK1828 hb2) (by decide)); have n4_ := A_ (Ne.symm (IsS132.ne_blk hi (bb BK1828 hb2) (by decide))); clear BK1828; clear HB; have BK1828 := n0_; have HB := n1_; have HI1832 := n2_; have NB1832_1828 := n3_; have NB1828_1832 := n4_; clear n0_ n1_ n2_ n3_ n4_; (try clear hb); (try clear hb2); (try clear hk); (try clear hi)) | ((with_reducible refine gate_callee (f := 73) rfl ?_); refine gL (some 8) Tryz.func73 #[.pointer (some ⟨g1832, 0, none⟩)] ?_; (with_reducible refine (spec_l39Shop.calls k g1832 t1829 t1830 t1831 t1833 t1836 t1837 t1840 t1841 t1842 t1845 t1846 w _ ?side1 ?side2 A3.out).mono ?_); (case side1 => exact oI132 HI1832); (case side2 => exact oB132 HB); rintro e w7 ⟨v1834, v1838, v1843, rfl, ho0, ho1, ho2, hi, hb, hk⟩; refine ⟨_, rfl, ?_⟩; have n0_ := A_ (KeepBut.blk hk (g' := gb1828) (o := .cells #[.slice none 0 0, .int .i64 0, .slice none 0 0, .int .i64 0, .int .i64 0, .slice none 0 0] 37 (0, 0)) (oK BK1828) NB1828_1832.out (by simp)); have n1_ := A_ (Kd.R_lower ho0 (below_size (oB132 HB))); have n2_ := A_ (Kd.R_lower ho1 (below_size (oB132 HB))); have n3_ := A_ (Kd.R_lower ho2 (below_size (oB132 HB))); have n4_ := A_ (hb); have n5_ := A_ (hi); clear BK1828; clear HB; clear HI1832; have BK1828 := n0_; have HO1835 := n1_; have HO1839 := n2_; have HO1844 := n3_; have HB := n4_; have HI1832 := n5_; clear n0_ n1_ n2_ n3_ n4_ n5_; (try clear hb); (try clear hb2); (try clear hk); (try clear hi); (try clear ho0); (try clear ho1); (try clear ho2)) | ((with_reducible refine gate_callee (f := 74) rfl ?_); refine gL (some 10) Tryz.func74 #[.pointer (some ⟨g1832, 0, none⟩)] ?_; (with_reducible refine (spec_l39List.calls k g1832 t1829 t1845 t1846 t1847 t1850 t1851 w _ ?side1 ?side2 A4.out).mono ?_); (case side1 => exact oI132 HI1832); (case side2 => exact oB132 HB); rintro e w8 ⟨v1848, rfl, ho0, hi, hb, hk⟩; refine ⟨_, rfl, ?_⟩; have n0_ := A_ (KeepBut.blk hk (g' := gb1828) (o := .cells #[.slice none 0 0, .int .i64 0, .slice none 0 0, .int .i64 0, .int .i64 0, .slice none 0 0] 37 (0, 0)) (oK BK1828) NB1828_1832.out (by simp)); have n1_ := A_ (Kd.R_mono (Kd.R_keep (IsS132.apart (show IsS132 w _ g1832 t1829 t1845 t1846 from oI132 HI1832) (oR HO1835) (by decide)) hk (fun _ h => h.2)) (fun _ h => h.1)); have n2_ := A_ (Kd.R_mono (Kd.R_keep (IsS132.apart (show IsS132 w _ g1832 t1829 t1845 t1846 from oI132 HI1832) (oR HO1839) (by decide)) hk (fun _ h => h.2)) (fun _ h => h.1)); have n3_ := A_ (Kd.R_mono (Kd.R_keep (IsS132.apart (show IsS132 w _ g1832 t1829 t1845 t1846 from oI132 HI1832) (oR HO1844) (by decide)) hk (fun _ h => h.2)) (fun _ h => h.1)); have n4_ := A_ (Kd.R_lower ho0 (below_size (oB132 HB))); have n5_ := A_ (hb); have n6_ := A_ (hi); clear BK1828; clear HO1835; clear HO1839; clear HO1844; clear HB; clear HI1832; have BK1828 := n0_; have HO1835 := n1_; have HO1839 := n2_; have HO1844 := n3_; have HO1849 := n4_; have HB := n5_; have HI1832 := n6_; clear n0_ n1_ n2_ n3_ n4_ n5_ n6_; (try clear hb); (try clear hb2); (try clear hk); (try clear hi); (try clear ho0); obtain ⟨Ao9, co9, eo9⟩ := Kd.R_slice HO1835.out; subst eo9; have hnb10 := NB1828_1832.out; have hnc10 := NB1832_1828.out; have hcz11_0 := cz BK1828 0; have hcz11_1 := cz BK1828 1; have hcz11_2 := cz BK1828 2; have hcz11_3 := cz BK1828 3; have hcz11_4 := cz BK1828 4; have hcz11_5 := cz BK1828 5; have hfz11_0 := blk_frozen BK1828.out 0; have hfz11_1 := blk_frozen BK1828.out 1; have hfz11_2 := blk_frozen BK1828.out 2; have hfz11_3 := blk_frozen BK1828.out 3; have hfz11_4 := blk_frozen BK1828.out 4; have hfz11_5 := blk_frozen BK1828.out 5; obtain ⟨Ao12, co12, eo12⟩ := Kd.R_slice HO1839.out; subst eo12; obtain ⟨Ao13, co13, eo13⟩ := Kd.R_slice HO1844.out; subst eo13))
 refine bodyPost_ret (results_ct rfl _ _ gb1828 37 #[.slice Ao9 t1833.length co9, .int .i64 t1836, .slice Ao12 t1837.length co12, .int .i64 t1840, .int .i64 t1841, .slice Ao13 t1842.length co13] (0, 0) _ rfl (by (with_reducible repeat (first | refine blk_drewN ?_ _ | refine blk_drew ?_ | refine blk_alloc ?_ _)); refine blk_put (cs := #[.slice Ao9 t1833.length co9, .int .i64 t1836, .slice Ao12 t1837.length co12, .int .i64 t1840, .int .i64 t1841, .slice none 0 0]) ?_ 5 _ rfl; (with_reducible repeat (first | refine blk_drewN ?_ _ | refine blk_drew ?_ | refine blk_alloc ?_ _)); refine blk_put (cs := #[.slice Ao9 t1833.length co9, .int .i64 t1836, .slice Ao12 t1837.length co12, .int .i64 t1840, .int .i64 0, .slice none 0 0]) ?_ 4 _ rfl; (with_reducible repeat (first | refine blk_drewN ?_ _ | refine blk_drew ?_ | refine blk_alloc ?_ _)); refine blk_put (cs := #[.slice Ao9 t1833.length co9, .int .i64 t1836, .slice Ao12 t1837.length co12, .int .i64 0, .int .i64 0, .slice none 0 0]) ?_ 3 _ rfl; (with_reducible repeat (first | refine blk_drewN ?_ _ | refine blk_drew ?_ | refine blk_alloc ?_ _)); refine blk_put (cs := #[.slice Ao9 t1833.length co9, .int .i64 t1836, .slice none 0 0, .int .i64 0, .int .i64 0, .slice none 0 0]) ?_ 2 _ rfl; (with_reducible repeat (first | refine blk_drewN ?_ _ | refine blk_drew ?_ | refine blk_alloc ?_ _)); refine blk_put (cs := #[.slice Ao9 t1833.length co9, .int .i64 0, .slice none 0 0, .int .i64 0, .int .i64 0, .slice none 0 0]) ?_ 1 _ rfl; (with_reducible repeat (first | refine blk_drewN ?_ _ | refine blk_drew ?_ | refine blk_alloc ?_ _)); refine blk_put (cs := #[.slice none 0 0, .int .i64 0, .slice none 0 0, .int .i64 0, .int .i64 0, .slice none 0 0]) ?_ 0 _ rfl; (with_reducible repeat (first | refine blk_drewN ?_ _ | refine blk_drew ?_ | refine blk_alloc ?_ _)); exact BK1828.out) Tryz.underlying37 rfl (by kernel_rfl)) rfl ?_
 exact ⟨_, _, _, _, eR, by (with_reducible repeat (first | apply Kd.R_alloc | apply Kd.R_drewN | apply Kd.R_drew)); exact Kd.R_mono (Kd.R_far (p := ⟨gb1828, 5, none⟩) (Kd.R_far (p := ⟨gb1828, 4, none⟩) (Kd.R_far (p := ⟨gb1828, 3, none⟩) (Kd.R_far (p := ⟨gb1828, 2, none⟩) (Kd.R_far (p := ⟨gb1828, 1, none⟩) (Kd.R_far (p := ⟨gb1828, 0, none⟩) (Kd.R_types HO1835.out BK1828.out (by decide)) (fun _ hk => hk.2) (.slice Ao9 t1833.length co9)) (fun _ hk => hk.2) (.int .i64 t1836)) (fun _ hk => hk.2) (.slice Ao12 t1837.length co12)) (fun _ hk => hk.2) (.int .i64 t1840)) (fun _ hk => hk.2) (.int .i64 t1841)) (fun _ hk => hk.2) (.slice Ao13 t1842.length co13)) (fun _ hk => trivial), by (with_reducible repeat (first | apply Kd.R_alloc | apply Kd.R_drewN | apply Kd.R_drew)); exact Kd.R_mono (Kd.R_far (p := ⟨gb1828, 5, none⟩) (Kd.R_far (p := ⟨gb1828, 4, none⟩) (Kd.R_far (p := ⟨gb1828, 3, none⟩) (Kd.R_far (p := ⟨gb1828, 2, none⟩) (Kd.R_far (p := ⟨gb1828, 1, none⟩) (Kd.R_far (p := ⟨gb1828, 0, none⟩) (Kd.R_types HO1839.out BK1828.out (by decide)) (fun _ hk => hk.2) (.slice Ao9 t1833.length co9)) (fun _ hk => hk.2) (.int .i64 t1836)) (fun _ hk => hk.2) (.slice Ao12 t1837.length co12)) (fun _ hk => hk.2) (.int .i64 t1840)) (fun _ hk => hk.2) (.int .i64 t1841)) (fun _ hk => hk.2) (.slice Ao13 t1842.length co13)) (fun _ hk => trivial), by (with_reducible repeat (first | apply Kd.R_alloc | apply Kd.R_drewN | apply Kd.R_drew)); exact Kd.R_mono (Kd.R_far (p := ⟨gb1828, 5, none⟩) (Kd.R_far (p := ⟨gb1828, 4, none⟩) (Kd.R_far (p := ⟨gb1828, 3, none⟩) (Kd.R_far (p := ⟨gb1828, 2, none⟩) (Kd.R_far (p := ⟨gb1828, 1, none⟩) (Kd.R_far (p := ⟨gb1828, 0, none⟩) (Kd.R_types HO1844.out BK1828.out (by decide)) (fun _ hk => hk.2) (.slice Ao9 t1833.length co9)) (fun _ hk => hk.2) (.int .i64 t1836)) (fun _ hk => hk.2) (.slice Ao12 t1837.length co12)) (fun _ hk => hk.2) (.int .i64 t1840)) (fun _ hk => hk.2) (.int .i64 t1841)) (fun _ hk => hk.2) (.slice Ao13 t1842.length co13)) (fun _ hk => trivial), by (with_reducible repeat (first | apply Kd.R_alloc | apply Kd.R_drewN | apply Kd.R_drew)); exact Kd.R_mono (Kd.R_far (p := ⟨gb1828, 5, none⟩) (Kd.R_far (p := ⟨gb1828, 4, none⟩) (Kd.R_far (p := ⟨gb1828, 3, none⟩) (Kd.R_far (p := ⟨gb1828, 2, none⟩) (Kd.R_far (p := ⟨gb1828, 1, none⟩) (Kd.R_far (p := ⟨gb1828, 0, none⟩) (Kd.R_types HO1849.out BK1828.out (by decide)) (fun _ hk => hk.2) (.slice Ao9 t1833.length co9)) (fun _ hk => hk.2) (.int .i64 t1836)) (fun _ hk => hk.2) (.slice Ao12 t1837.length co12)) (fun _ hk => hk.2) (.int .i64 t1840)) (fun _ hk => hk.2) (.int .i64 t1841)) (fun _ hk => hk.2) (.slice Ao13 t1842.length co13)) (fun _ hk => trivial), oB132 HB⟩
def laws_FnReplays.f (k : Nat) (l0 : List Int) : Option (Bool) := (laws_big.f l0).bind fun t1865 => (if t1865 = true then (some true) else ((spec_DrawActs.f k l0).bind fun bt1866 => ((impl_RunActs.f k bt1866.1 bt1866.2.1 bt1866.2.2.1 bt1866.2.2.2.1 bt1866.2.2.2.2.1 bt1866.2.2.2.2.2.1 bt1866.2.2.2.2.2.2).bind fun bt1882 => ((impl_IsReplay.f k bt1866.1 bt1866.2.1 bt1866.2.2.1 bt1866.2.2.2.1 bt1866.2.2.2.2.1 bt1866.2.2.2.2.2.1 bt1866.2.2.2.2.2.2 bt1882.2.2.2.2.2.2).bind fun t1898 => (if t1898 = true then (if (bt1882.2.2.2.2.2.2.length : Int) = 0 then ((impl_IsReplay.f k bt1866.1 bt1866.2.1 bt1866.2.2.1 bt1866.2.2.2.1 bt1866.2.2.2.2.1 bt1866.2.2.2.2.2.1 bt1866.2.2.2.2.2.2 (([1] : List Int))).bind fun t1902 => (some (!t1902))) else ((spec_DrawPlaces.f k l0).bind fun t1903 => (if 0 < (t1903.length : Int) then (if 0 ≤ (Int.tmod (rd t1903 0) (bt1882.2.2.2.2.2.2.length : Int)) then (if (Int.tmod (rd t1903 0) (bt1882.2.2.2.2.2.2.length : Int)) < (bt1882.2.2.2.2.2.2.length : Int) then ((impl_IsReplay.f k bt1866.1 bt1866.2.1 bt1866.2.2.1 bt1866.2.2.2.1 bt1866.2.2.2.2.1 bt1866.2.2.2.2.2.1 bt1866.2.2.2.2.2.2 (bt1882.2.2.2.2.2.2.set ((Int.tmod (rd t1903 0) (bt1882.2.2.2.2.2.2.length : Int)) : Int).toNat (wrap64 ((rd bt1882.2.2.2.2.2.2 (Int.tmod (rd t1903 0) (bt1882.2.2.2.2.2.2.length : Int))) + 1)))).bind fun t1909 => (some (!t1909))) else (none)) else (none)) else (none)))) else (some false))))))
theorem laws_FnReplays.calls (k : Nat) (A0 : Option Addr) (c0 : Nat) (l0 : List Int) (r : Bool) (w : World) (hr0 : Kd.C (Kd.int .u8) w A0 l0.length l0) (hc0 : l0.length ≤ c0) (h : laws_FnReplays.f k l0 = some r) (hrt_ : Aside0 (r = true)) :
  Calls Tryz.prog 6 #[.slice A0 l0.length c0] w fun e w' => e = .returned (.bool r) ∧ Below w.heap.size w w' := by
 have hu37 := Tryz.underlying37
 have HR0 := A_ hr0
 have HC0 := A_ hc0
 clear hr0 hc0
 have HB := A_ (Below.refl w.heap.size w)
 have H : ((laws_big.f l0).bind fun t1865 => (if t1865 = true then (some true) else ((spec_DrawActs.f k l0).bind fun bt1866 => ((impl_RunActs.f k bt1866.1 bt1866.2.1 bt1866.2.2.1 bt1866.2.2.2.1 bt1866.2.2.2.2.1 bt1866.2.2.2.2.2.1 bt1866.2.2.2.2.2.2).bind fun bt1882 => ((impl_IsReplay.f k bt1866.1 bt1866.2.1 bt1866.2.2.1 bt1866.2.2.2.1 bt1866.2.2.2.2.1 bt1866.2.2.2.2.2.1 bt1866.2.2.2.2.2.2 bt1882.2.2.2.2.2.2).bind fun t1898 => (if t1898 = true then (if (bt1882.2.2.2.2.2.2.length : Int) = 0 then ((impl_IsReplay.f k bt1866.1 bt1866.2.1 bt1866.2.2.1 bt1866.2.2.2.1 bt1866.2.2.2.2.1 bt1866.2.2.2.2.2.1 bt1866.2.2.2.2.2.2 (([1] : List Int))).bind fun t1902 => (some (!t1902))) else ((spec_DrawPlaces.f k l0).bind fun t1903 => (if 0 < (t1903.length : Int) then (if 0 ≤ (Int.tmod (rd t1903 0) (bt1882.2.2.2.2.2.2.length : Int)) then (if (Int.tmod (rd t1903 0) (bt1882.2.2.2.2.2.2.length : Int)) < (bt1882.2.2.2.2.2.2.length : Int) then ((impl_IsReplay.f k bt1866.1 bt1866.2.1 bt1866.2.2.1 bt1866.2.2.2.1 bt1866.2.2.2.2.1 bt1866.2.2.2.2.2.1 bt1866.2.2.2.2.2.2 (bt1882.2.2.2.2.2.2.set ((Int.tmod (rd t1903 0) (bt1882.2.2.2.2.2.2.length : Int)) : Int).toNat (wrap64 ((rd bt1882.2.2.2.2.2.2 (Int.tmod (rd t1903 0) (bt1882.2.2.2.2.2.2.length : Int))) + 1)))).bind fun t1909 => (some (!t1909))) else (none)) else (none)) else (none)))) else (some false))))))) = some r := h
 clear h
 replace H := Option.bind_eq_some_iff.mp H
 obtain ⟨t1865, A20, H⟩ := H
 (try dsimp only at H)
 have A2 := A_ A20
 clear A20
 by_cases c3 : t1865 = true
 ·subst c3
  rw [if_pos rfl] at H
  obtain rfl := Option.some.inj H
  go_enter Tryz.func6, Tryz.ntmps6
  go_wp2_with (first | ((with_reducible refine gate_callee (f := 29) rfl ?_); refine gL (some 10) Tryz.func29 #[.slice A0 l0.length c0] ?_; (with_reducible refine (laws_big.calls _ _ l0 true _ ?side1 ?side2 A2.out).mono ?_); (case side1 => repeat (first | exact HR0.out | (with_reducible refine Kd.C_alloc ?_ _) | (with_reducible refine Kd.C_drewN ?_ _) | (with_reducible refine Kd.C_drew ?_))); (case side2 => exact HC0.out); rintro e w' ⟨rfl, ⟨nd, rfl⟩⟩; refine ⟨_, rfl, ?_⟩))
  go_ret
  exact ⟨eR, oB HB⟩
 ·replace c3 := Bool.eq_false_iff.mpr c3
  subst c3
  rw [if_neg (show ¬ (false = true) by decide)] at H
  replace H := Option.bind_eq_some_iff.mp H
  obtain ⟨⟨t1866, t1869, t1870, t1873, t1874, t1875, t1878⟩, A40, H⟩ := H
  (try dsimp only at H)
  have A4 := A_ A40
  clear A40
  replace H := Option.bind_eq_some_iff.mp H
  obtain ⟨⟨t1882, t1885, t1886, t1889, t1890, t1891, t1894⟩, A50, H⟩ := H
  (try dsimp only at H)
  have A5 := A_ A50
  clear A50
  replace H := Option.bind_eq_some_iff.mp H
  obtain ⟨t1898, A60, H⟩ := H
  (try dsimp only at H)
  have A6 := A_ A60
  clear A60
  by_cases c7 : t1898 = true
  ·subst c7
   rw [if_pos rfl] at H
   by_cases c8 : (t1894.length : Int) = 0
   ·rw [if_pos c8] at H
    have c8b0 : ((t1894.length : Int) == 0) = true := beq_iff_eq.mpr c8
    have c8b1 : ((t1894.length : Int) != 0) = false := bne_eq_false_iff_eq.mpr c8
    clear c8
    obtain ⟨y1899, hy1899⟩ : ∃ y_ : List Int, y_ = (([1] : List Int)) := ⟨_, rfl⟩
    replace H : ((impl_IsReplay.f k t1866 t1869 t1870 t1873 t1874 t1875 t1878 y1899).bind fun t1902 => (some (!t1902))) = some r := by first | (rw [hy1899]; with_reducible exact H) | (have H2_ := (Option.bind_some _ _).symm.trans H; rw [hy1899]; with_reducible exact H2_) | (have H2_ := (Option.bind_some _ _).symm.trans H; with_reducible exact H2_) | with_reducible exact H | (rw [hy1899]; exact H) | exact H
    have Ny1899 := A_ hy1899
    clear hy1899
    replace H := Option.bind_eq_some_iff.mp H
    obtain ⟨t1902, A90, H⟩ := H
    (try dsimp only at H)
    have A9 := A_ A90
    clear A90
    obtain rfl := Option.some.inj H
    go_enter Tryz.func6, Tryz.ntmps6
    go_wp2_with (first | ((with_reducible refine gate_callee (f := 29) rfl ?_); refine gL (some 10) Tryz.func29 #[.slice A0 l0.length c0] ?_; (with_reducible refine (laws_big.calls _ _ l0 false _ ?side1 ?side2 A2.out).mono ?_); (case side1 => repeat (first | exact HR0.out | (with_reducible refine Kd.C_alloc ?_ _) | (with_reducible refine Kd.C_drewN ?_ _) | (with_reducible refine Kd.C_drew ?_))); (case side2 => exact HC0.out); rintro e w' ⟨rfl, ⟨nd, rfl⟩⟩; refine ⟨_, rfl, ?_⟩) | ((with_reducible refine gate_callee (f := 30) rfl ?_); refine gL (some 13) Tryz.func30 #[.slice A0 l0.length c0] ?_; (with_reducible refine (spec_DrawActs.calls k _ _ l0 t1866 t1869 t1870 t1873 t1874 t1875 t1878 _ ?side1 ?side2 A4.out).mono ?_); (case side1 => repeat (first | exact HR0.out | (with_reducible refine Kd.C_alloc ?_ _) | (with_reducible refine Kd.C_drewN ?_ _) | (with_reducible refine Kd.C_drew ?_))); (case side2 => exact HC0.out); rintro e w10 ⟨v1867, v1871, v1876, v1879, rfl, ho0, ho1, ho2, ho3, hb⟩; refine ⟨_, rfl, ?_⟩; have n0_ := A_ (Kd.R_lower ho0 (below_size (oB HB))); have n1_ := A_ (Kd.R_lower ho1 (below_size (oB HB))); have n2_ := A_ (Kd.R_lower ho2 (below_size (oB HB))); have n3_ := A_ (Kd.R_lower ho3 (below_size (oB HB))); have n4_ := A_ (below_step (oB HB) hb); clear HB; have HO1868 := n0_; have HO1872 := n1_; have HO1877 := n2_; have HO1880 := n3_; have HB := n4_; clear n0_ n1_ n2_ n3_ n4_; (try clear hb); (try clear hb2); (try clear hk); (try clear hi); (try clear ho0); (try clear ho1); (try clear ho2); (try clear ho3)) | ((with_reducible refine gate_dst (N := 3) rfl ?_); refine bX (N := 3) (cs := #[.slice none 0 0, .int .i64 0, .slice none 0 0, .int .i64 0, .int .i64 0, .slice none 0 0]) (t := 37) ?_; intro gb1881 hg w11 hbox hb; have n0_ := A_ (Kd.R_below (oR HO1868) hb); have n1_ := A_ (Kd.R_below (oR HO1872) hb); have n2_ := A_ (Kd.R_below (oR HO1877) hb); have n3_ := A_ (Kd.R_below (oR HO1880) hb); have n4_ := A_ (below_step (oB HB) hb); have n5_ := A_ (hbox); have n6_ := A_ ((by rw [hg]; exact (below_size (oB HB)) : w.heap.size ≤ gb1881)); have n7_ := A_ ((by rw [hg]; exact (below_size (oB HB)) : w.heap.size ≤ gb1881)); clear HO1868; clear HO1872; clear HO1877; clear HO1880; clear HB; have HO1868 := n0_; have HO1872 := n1_; have HO1877 := n2_; have HO1880 := n3_; have HB := n4_; have BK1881 := n5_; have GW1881 := n6_; have GE1881 := n7_; clear n0_ n1_ n2_ n3_ n4_ n5_ n6_ n7_; clear hb hbox hg; obtain ⟨Ao12, co12, eo12⟩ := Kd.R_slice HO1868.out; subst eo12; have hcz13_0 := cz BK1881 0; have hcz13_1 := cz BK1881 1; have hcz13_2 := cz BK1881 2; have hcz13_3 := cz BK1881 3; have hcz13_4 := cz BK1881 4; have hcz13_5 := cz BK1881 5; have hfz13_0 := blk_frozen BK1881.out 0; have hfz13_1 := blk_frozen BK1881.out 1; have hfz13_2 := blk_frozen BK1881.out 2; have hfz13_3 := blk_frozen BK1881.out 3; have hfz13_4 := blk_frozen BK1881.out 4; have hfz13_5 := blk_frozen BK1881.out 5; obtain ⟨Ao14, co14, eo14⟩ := Kd.R_slice HO1872.out; subst eo14; obtain ⟨Ao15, co15, eo15⟩ := Kd.R_slice HO1877.out; subst eo15; obtain ⟨Ao16, co16, eo16⟩ := Kd.R_slice HO1880.out; subst eo16) | ((with_reducible refine gate_callee (f := 20) rfl ?_); refine gL (some 19) Tryz.func20 #[.agg #[.slice Ao12 t1866.length co12, .int .i64 t1869, .slice Ao14 t1870.length co14, .int .i64 t1873, .int .i64 t1874, .slice Ao15 t1875.length co15], .slice Ao16 t1878.length co16] ?_; (with_reducible refine (impl_RunActs.calls k _ _ t1866 t1869 _ _ t1870 t1873 t1874 _ _ t1875 _ _ t1878 t1882 t1885 t1886 t1889 t1890 t1891 t1894 _ ?side1 ?side2 ?side3 ?side4 ?side5 ?side6 ?side7 ?side8 A5.out).mono ?_); (case side1 => refine (Kd.R_reads' (e := 112) (base := w.heap.size) (ok := fun k_ => True) (n := t1866.length) (c := co12) ?_).2.2; exact (by (with_reducible repeat (first | apply Kd.R_alloc | apply Kd.R_drewN | apply Kd.R_drew)); exact (Kd.R_mono (Kd.R_far (p := ⟨gb1881, 5, none⟩) (Kd.R_far (p := ⟨gb1881, 4, none⟩) (Kd.R_far (p := ⟨gb1881, 3, none⟩) (Kd.R_far (p := ⟨gb1881, 2, none⟩) (Kd.R_far (p := ⟨gb1881, 1, none⟩) (Kd.R_far (p := ⟨gb1881, 0, none⟩) (Kd.R_types HO1868.out BK1881.out (by decide)) (fun _ hk => hk.2) (.slice Ao12 t1866.length co12)) (fun _ hk => hk.2) (.int .i64 t1869)) (fun _ hk => hk.2) (.slice Ao14 t1870.length co14)) (fun _ hk => hk.2) (.int .i64 t1873)) (fun _ hk => hk.2) (.int .i64 t1874)) (fun _ hk => hk.2) (.slice Ao15 t1875.length co15)) (fun _ h_ => h_.1)))); (case side2 => exact (Kd.R_reads' HO1868.out).2.1); (case side3 => refine (Kd.R_reads' (e := 3) (base := w.heap.size) (ok := fun k_ => True) (n := t1870.length) (c := co14) ?_).2.2; exact (by (with_reducible repeat (first | apply Kd.R_alloc | apply Kd.R_drewN | apply Kd.R_drew)); exact (Kd.R_mono (Kd.R_far (p := ⟨gb1881, 5, none⟩) (Kd.R_far (p := ⟨gb1881, 4, none⟩) (Kd.R_far (p := ⟨gb1881, 3, none⟩) (Kd.R_far (p := ⟨gb1881, 2, none⟩) (Kd.R_far (p := ⟨gb1881, 1, none⟩) (Kd.R_far (p := ⟨gb1881, 0, none⟩) (Kd.R_types HO1872.out BK1881.out (by decide)) (fun _ hk => hk.2) (.slice Ao12 t1866.length co12)) (fun _ hk => hk.2) (.int .i64 t1869)) (fun _ hk => hk.2) (.slice Ao14 t1870.length co14)) (fun _ hk => hk.2) (.int .i64 t1873)) (fun _ hk => hk.2) (.int .i64 t1874)) (fun _ hk => hk.2) (.slice Ao15 t1875.length co15)) (fun _ h_ => h_.1)))); (case side4 => exact (Kd.R_reads' HO1872.out).2.1); (case side5 => refine (Kd.R_reads' (e := 104) (base := w.heap.size) (ok := fun k_ => True) (n := t1875.length) (c := co15) ?_).2.2; exact (by (with_reducible repeat (first | apply Kd.R_alloc | apply Kd.R_drewN | apply Kd.R_drew)); exact (Kd.R_mono (Kd.R_far (p := ⟨gb1881, 5, none⟩) (Kd.R_far (p := ⟨gb1881, 4, none⟩) (Kd.R_far (p := ⟨gb1881, 3, none⟩) (Kd.R_far (p := ⟨gb1881, 2, none⟩) (Kd.R_far (p := ⟨gb1881, 1, none⟩) (Kd.R_far (p := ⟨gb1881, 0, none⟩) (Kd.R_types HO1877.out BK1881.out (by decide)) (fun _ hk => hk.2) (.slice Ao12 t1866.length co12)) (fun _ hk => hk.2) (.int .i64 t1869)) (fun _ hk => hk.2) (.slice Ao14 t1870.length co14)) (fun _ hk => hk.2) (.int .i64 t1873)) (fun _ hk => hk.2) (.int .i64 t1874)) (fun _ hk => hk.2) (.slice Ao15 t1875.length co15)) (fun _ h_ => h_.1)))); (case side6 => exact (Kd.R_reads' HO1877.out).2.1); (case side7 => refine (Kd.R_reads' (e := 41) (base := w.heap.size) (ok := fun k_ => True) (n := t1878.length) (c := co16) ?_).2.2; exact (by (with_reducible repeat (first | apply Kd.R_alloc | apply Kd.R_drewN | apply Kd.R_drew)); exact (Kd.R_mono (Kd.R_far (p := ⟨gb1881, 5, none⟩) (Kd.R_far (p := ⟨gb1881, 4, none⟩) (Kd.R_far (p := ⟨gb1881, 3, none⟩) (Kd.R_far (p := ⟨gb1881, 2, none⟩) (Kd.R_far (p := ⟨gb1881, 1, none⟩) (Kd.R_far (p := ⟨gb1881, 0, none⟩) (Kd.R_types HO1880.out BK1881.out (by decide)) (fun _ hk => hk.2) (.slice Ao12 t1866.length co12)) (fun _ hk => hk.2) (.int .i64 t1869)) (fun _ hk => hk.2) (.slice Ao14 t1870.length co14)) (fun _ hk => hk.2) (.int .i64 t1873)) (fun _ hk => hk.2) (.int .i64 t1874)) (fun _ hk => hk.2) (.slice Ao15 t1875.length co15)) (fun _ h_ => h_.1)))); (case side8 => exact (Kd.R_reads' HO1880.out).2.1); rintro e w17 ⟨v1883, v1887, v1892, v1895, rfl, ho0, ho1, ho2, ho3, hb⟩; refine ⟨_, rfl, ?_⟩; have n0_ := A_ (Kd.R_elder' (by (with_reducible repeat (first | apply Kd.R_alloc | apply Kd.R_drewN | apply Kd.R_drew)); exact (Kd.R_mono (Kd.R_far (p := ⟨gb1881, 5, none⟩) (Kd.R_far (p := ⟨gb1881, 4, none⟩) (Kd.R_far (p := ⟨gb1881, 3, none⟩) (Kd.R_far (p := ⟨gb1881, 2, none⟩) (Kd.R_far (p := ⟨gb1881, 1, none⟩) (Kd.R_far (p := ⟨gb1881, 0, none⟩) (Kd.R_types HO1868.out BK1881.out (by decide)) (fun _ hk => hk.2) (.slice Ao12 t1866.length co12)) (fun _ hk => hk.2) (.int .i64 t1869)) (fun _ hk => hk.2) (.slice Ao14 t1870.length co14)) (fun _ hk => hk.2) (.int .i64 t1873)) (fun _ hk => hk.2) (.int .i64 t1874)) (fun _ hk => hk.2) (.slice Ao15 t1875.length co15)) (fun _ h_ => h_.1))) (Kd.R_base ho0) hb); have n1_ := A_ (Kd.R_mono (Kd.R_told (Kd.R_told (Kd.R_old (by (with_reducible repeat (first | apply Kd.R_alloc | apply Kd.R_drewN | apply Kd.R_drew)); exact (Kd.R_mono (Kd.R_far (p := ⟨gb1881, 5, none⟩) (Kd.R_far (p := ⟨gb1881, 4, none⟩) (Kd.R_far (p := ⟨gb1881, 3, none⟩) (Kd.R_far (p := ⟨gb1881, 2, none⟩) (Kd.R_far (p := ⟨gb1881, 1, none⟩) (Kd.R_far (p := ⟨gb1881, 0, none⟩) (Kd.R_types HO1872.out BK1881.out (by decide)) (fun _ hk => hk.2) (.slice Ao12 t1866.length co12)) (fun _ hk => hk.2) (.int .i64 t1869)) (fun _ hk => hk.2) (.slice Ao14 t1870.length co14)) (fun _ hk => hk.2) (.int .i64 t1873)) (fun _ hk => hk.2) (.int .i64 t1874)) (fun _ hk => hk.2) (.slice Ao15 t1875.length co15)) (fun _ h_ => h_.1))) hb) (Kd.R_base ho1)) (Kd.R_base ho3)) (fun _ h_ => h_.1)); have n2_ := A_ (Kd.R_elder' (by (with_reducible repeat (first | apply Kd.R_alloc | apply Kd.R_drewN | apply Kd.R_drew)); exact (Kd.R_mono (Kd.R_far (p := ⟨gb1881, 5, none⟩) (Kd.R_far (p := ⟨gb1881, 4, none⟩) (Kd.R_far (p := ⟨gb1881, 3, none⟩) (Kd.R_far (p := ⟨gb1881, 2, none⟩) (Kd.R_far (p := ⟨gb1881, 1, none⟩) (Kd.R_far (p := ⟨gb1881, 0, none⟩) (Kd.R_types HO1877.out BK1881.out (by decide)) (fun _ hk => hk.2) (.slice Ao12 t1866.length co12)) (fun _ hk => hk.2) (.int .i64 t1869)) (fun _ hk => hk.2) (.slice Ao14 t1870.length co14)) (fun _ hk => hk.2) (.int .i64 t1873)) (fun _ hk => hk.2) (.int .i64 t1874)) (fun _ hk => hk.2) (.slice Ao15 t1875.length co15)) (fun _ h_ => h_.1))) (Kd.R_base ho2) hb); have n3_ := A_ (Kd.R_below (by (with_reducible repeat (first | apply Kd.R_alloc | apply Kd.R_drewN | apply Kd.R_drew)); exact (Kd.R_mono (Kd.R_far (p := ⟨gb1881, 5, none⟩) (Kd.R_far (p := ⟨gb1881, 4, none⟩) (Kd.R_far (p := ⟨gb1881, 3, none⟩) (Kd.R_far (p := ⟨gb1881, 2, none⟩) (Kd.R_far (p := ⟨gb1881, 1, none⟩) (Kd.R_far (p := ⟨gb1881, 0, none⟩) (Kd.R_types HO1880.out BK1881.out (by decide)) (fun _ hk => hk.2) (.slice Ao12 t1866.length co12)) (fun _ hk => hk.2) (.int .i64 t1869)) (fun _ hk => hk.2) (.slice Ao14 t1870.length co14)) (fun _ hk => hk.2) (.int .i64 t1873)) (fun _ hk => hk.2) (.int .i64 t1874)) (fun _ hk => hk.2) (.slice Ao15 t1875.length co15)) (fun _ h_ => h_.1))) hb); have n4_ := A_ (Kd.R_lower (Kd.R_new' ho0 (Kd.R_lt (by (with_reducible repeat (first | apply Kd.R_alloc | apply Kd.R_drewN | apply Kd.R_drew)); exact (Kd.R_mono (Kd.R_far (p := ⟨gb1881, 5, none⟩) (Kd.R_far (p := ⟨gb1881, 4, none⟩) (Kd.R_far (p := ⟨gb1881, 3, none⟩) (Kd.R_far (p := ⟨gb1881, 2, none⟩) (Kd.R_far (p := ⟨gb1881, 1, none⟩) (Kd.R_far (p := ⟨gb1881, 0, none⟩) (Kd.R_types HO1868.out BK1881.out (by decide)) (fun _ hk => hk.2) (.slice Ao12 t1866.length co12)) (fun _ hk => hk.2) (.int .i64 t1869)) (fun _ hk => hk.2) (.slice Ao14 t1870.length co14)) (fun _ hk => hk.2) (.int .i64 t1873)) (fun _ hk => hk.2) (.int .i64 t1874)) (fun _ hk => hk.2) (.slice Ao15 t1875.length co15)) (fun _ h_ => h_.1))))) (below_size (oB HB))); have n5_ := A_ (Kd.R_lower (Kd.R_new' ho1 (Kd.R_lt (by (with_reducible repeat (first | apply Kd.R_alloc | apply Kd.R_drewN | apply Kd.R_drew)); exact (Kd.R_mono (Kd.R_far (p := ⟨gb1881, 5, none⟩) (Kd.R_far (p := ⟨gb1881, 4, none⟩) (Kd.R_far (p := ⟨gb1881, 3, none⟩) (Kd.R_far (p := ⟨gb1881, 2, none⟩) (Kd.R_far (p := ⟨gb1881, 1, none⟩) (Kd.R_far (p := ⟨gb1881, 0, none⟩) (Kd.R_types HO1872.out BK1881.out (by decide)) (fun _ hk => hk.2) (.slice Ao12 t1866.length co12)) (fun _ hk => hk.2) (.int .i64 t1869)) (fun _ hk => hk.2) (.slice Ao14 t1870.length co14)) (fun _ hk => hk.2) (.int .i64 t1873)) (fun _ hk => hk.2) (.int .i64 t1874)) (fun _ hk => hk.2) (.slice Ao15 t1875.length co15)) (fun _ h_ => h_.1))))) (below_size (oB HB))); have n6_ := A_ (Kd.R_lower (Kd.R_new' ho2 (Kd.R_lt (by (with_reducible repeat (first | apply Kd.R_alloc | apply Kd.R_drewN | apply Kd.R_drew)); exact (Kd.R_mono (Kd.R_far (p := ⟨gb1881, 5, none⟩) (Kd.R_far (p := ⟨gb1881, 4, none⟩) (Kd.R_far (p := ⟨gb1881, 3, none⟩) (Kd.R_far (p := ⟨gb1881, 2, none⟩) (Kd.R_far (p := ⟨gb1881, 1, none⟩) (Kd.R_far (p := ⟨gb1881, 0, none⟩) (Kd.R_types HO1877.out BK1881.out (by decide)) (fun _ hk => hk.2) (.slice Ao12 t1866.length co12)) (fun _ hk => hk.2) (.int .i64 t1869)) (fun _ hk => hk.2) (.slice Ao14 t1870.length co14)) (fun _ hk => hk.2) (.int .i64 t1873)) (fun _ hk => hk.2) (.int .i64 t1874)) (fun _ hk => hk.2) (.slice Ao15 t1875.length co15)) (fun _ h_ => h_.1))))) (below_size (oB HB))); have n7_ := A_ (Kd.R_lower (Kd.R_new' ho3 (Kd.R_lt (by (with_reducible repeat (first | apply Kd.R_alloc | apply Kd.R_drewN | apply Kd.R_drew)); exact (Kd.R_mono (Kd.R_far (p := ⟨gb1881, 5, none⟩) (Kd.R_far (p := ⟨gb1881, 4, none⟩) (Kd.R_far (p := ⟨gb1881, 3, none⟩) (Kd.R_far (p := ⟨gb1881, 2, none⟩) (Kd.R_far (p := ⟨gb1881, 1, none⟩) (Kd.R_far (p := ⟨gb1881, 0, none⟩) (Kd.R_types HO1872.out BK1881.out (by decide)) (fun _ hk => hk.2) (.slice Ao12 t1866.length co12)) (fun _ hk => hk.2) (.int .i64 t1869)) (fun _ hk => hk.2) (.slice Ao14 t1870.length co14)) (fun _ hk => hk.2) (.int .i64 t1873)) (fun _ hk => hk.2) (.int .i64 t1874)) (fun _ hk => hk.2) (.slice Ao15 t1875.length co15)) (fun _ h_ => h_.1))))) (below_size (oB HB))); have n8_ := A_ (blk_below (g := gb1881) (o := .cells #[.slice Ao12 t1866.length co12, .int .i64 t1869, .slice Ao14 t1870.length co14, .int .i64 t1873, .int .i64 t1874, .slice Ao15 t1875.length co15] 37 (0, 0)) (by (with_reducible repeat (first | refine blk_drewN ?_ _ | refine blk_drew ?_ | refine blk_alloc ?_ _)); refine blk_put (cs := #[.slice Ao12 t1866.length co12, .int .i64 t1869, .slice Ao14 t1870.length co14, .int .i64 t1873, .int .i64 t1874, .slice none 0 0]) ?_ 5 _ rfl; (with_reducible repeat (first | refine blk_drewN ?_ _ | refine blk_drew ?_ | refine blk_alloc ?_ _)); refine blk_put (cs := #[.slice Ao12 t1866.length co12, .int .i64 t1869, .slice Ao14 t1870.length co14, .int .i64 t1873, .int .i64 0, .slice none 0 0]) ?_ 4 _ rfl; (with_reducible repeat (first | refine blk_drewN ?_ _ | refine blk_drew ?_ | refine blk_alloc ?_ _)); refine blk_put (cs := #[.slice Ao12 t1866.length co12, .int .i64 t1869, .slice Ao14 t1870.length co14, .int .i64 0, .int .i64 0, .slice none 0 0]) ?_ 3 _ rfl; (with_reducible repeat (first | refine blk_drewN ?_ _ | refine blk_drew ?_ | refine blk_alloc ?_ _)); refine blk_put (cs := #[.slice Ao12 t1866.length co12, .int .i64 t1869, .slice none 0 0, .int .i64 0, .int .i64 0, .slice none 0 0]) ?_ 2 _ rfl; (with_reducible repeat (first | refine blk_drewN ?_ _ | refine blk_drew ?_ | refine blk_alloc ?_ _)); refine blk_put (cs := #[.slice Ao12 t1866.length co12, .int .i64 0, .slice none 0 0, .int .i64 0, .int .i64 0, .slice none 0 0]) ?_ 1 _ rfl; (with_reducible repeat (first | refine blk_drewN ?_ _ | refine blk_drew ?_ | refine blk_alloc ?_ _)); refine blk_put (cs := #[.slice none 0 0, .int .i64 0, .slice none 0 0, .int .i64 0, .int .i64 0, .slice none 0 0]) ?_ 0 _ rfl; (with_reducible repeat (first | refine blk_drewN ?_ _ | refine blk_drew ?_ | refine blk_alloc ?_ _)); exact BK1881.out) hb); have n9_ := A_ (below_step (oB HB) hb); clear HO1868; clear HO1872; clear HO1877; clear HO1880; clear BK1881; clear HB; have HO1868 := n0_; have HO1872 := n1_; have HO1877 := n2_; have HO1880 := n3_; have HO1884 := n4_; have HO1888 := n5_; have HO1893 := n6_; have HO1896 := n7_; have BK1881 := n8_; have HB := n9_; clear n0_ n1_ n2_ n3_ n4_ n5_ n6_ n7_ n8_ n9_; (try clear hb); (try clear hb2); (try clear hk); (try clear hi); (try clear ho0); (try clear ho1); (try clear ho2); (try clear ho3)) | ((with_reducible refine gate_dst (N := 5) rfl ?_); refine bX (N := 5) (cs := #[.slice none 0 0, .int .i64 0, .slice none 0 0, .int .i64 0, .int .i64 0, .slice none 0 0]) (t := 37) ?_; intro gb1897 hg w18 hbox hb; have n0_ := A_ (Kd.R_below (oR HO1868) hb); have n1_ := A_ (Kd.R_below (oR HO1872) hb); have n2_ := A_ (Kd.R_below (oR HO1877) hb); have n3_ := A_ (Kd.R_below (oR HO1880) hb); have n4_ := A_ (Kd.R_below (oR HO1884) hb); have n5_ := A_ (Kd.R_below (oR HO1888) hb); have n6_ := A_ (Kd.R_below (oR HO1893) hb); have n7_ := A_ (Kd.R_below (oR HO1896) hb); have n8_ := A_ (bb BK1881 hb); have n9_ := A_ (below_step (oB HB) hb); have n10_ := A_ (hbox); have n11_ := A_ ((by rw [hg]; exact (below_size (oB HB)) : w.heap.size ≤ gb1897)); have n12_ := A_ ((by rw [hg]; exact (below_size (oB HB)) : w.heap.size ≤ gb1897)); have n13_ := A_ (nL BK1881 hg); have n14_ := A_ (nG BK1881 hg); clear HO1868; clear HO1872; clear HO1877; clear HO1880; clear HO1884; clear HO1888; clear HO1893; clear HO1896; clear BK1881; clear HB; have HO1868 := n0_; have HO1872 := n1_; have HO1877 := n2_; have HO1880 := n3_; have HO1884 := n4_; have HO1888 := n5_; have HO1893 := n6_; have HO1896 := n7_; have BK1881 := n8_; have HB := n9_; have BK1897 := n10_; have GW1897 := n11_; have GE1897 := n12_; have NB1881_1897 := n13_; have NB1897_1881 := n14_; clear n0_ n1_ n2_ n3_ n4_ n5_ n6_ n7_ n8_ n9_ n10_ n11_ n12_ n13_ n14_; clear hb hbox hg; obtain ⟨Ao19, co19, eo19⟩ := Kd.R_slice HO1884.out; subst eo19; have hnb20 := NB1897_1881.out; have hnc20 := NB1881_1897.out; have hcz21_0 := cz BK1897 0; have hcz21_1 := cz BK1897 1; have hcz21_2 := cz BK1897 2; have hcz21_3 := cz BK1897 3; have hcz21_4 := cz BK1897 4; have hcz21_5 := cz BK1897 5; have hfz21_0 := blk_frozen BK1897.out 0; have hfz21_1 := blk_frozen BK1897.out 1; have hfz21_2 := blk_frozen BK1897.out 2; have hfz21_3 := blk_frozen BK1897.out 3; have hfz21_4 := blk_frozen BK1897.out 4; have hfz21_5 := blk_frozen BK1897.out 5; obtain ⟨Ao22, co22, eo22⟩ := Kd.R_slice HO1888.out; subst eo22; obtain ⟨Ao23, co23, eo23⟩ := Kd.R_slice HO1893.out; subst eo23; have hcz24_0 := cz BK1881 0; have hcz24_1 := cz BK1881 1; have hcz24_2 := cz BK1881 2; have hcz24_3 := cz BK1881 3; have hcz24_4 := cz BK1881 4; have hcz24_5 := cz BK1881 5; have hfz24_0 := blk_frozen BK1881.out 0; have hfz24_1 := blk_frozen BK1881.out 1; have hfz24_2 := blk_frozen BK1881.out 2; have hfz24_3 := blk_frozen BK1881.out 3; have hfz24_4 := blk_frozen BK1881.out 4; have hfz24_5 := blk_frozen BK1881.out 5; obtain ⟨Ao25, co25, eo25⟩ := Kd.R_slice HO1896.out; subst eo25) | ((with_reducible refine gate_callee (f := 28) rfl ?_); refine gL (some 25) Tryz.func28 #[.agg #[.slice Ao12 t1866.length co12, .int .i64 t1869, .slice Ao14 t1870.length co14, .int .i64 t1873, .int .i64 t1874, .slice Ao15 t1875.length co15], .slice Ao16 t1878.length co16, .slice Ao25 t1894.length co25] ?_; (with_reducible refine (impl_IsReplay.calls k _ _ t1866 t1869 _ _ t1870 t1873 t1874 _ _ t1875 _ _ t1878 _ _ t1894 true _ ?side1 ?side2 ?side3 ?side4 ?side5 ?side6 ?side7 ?side8 ?side9 ?side10 A6.out).mono ?_); (case side1 => refine (Kd.R_reads' (e := 112) (base := w.heap.size) (ok := fun k_ => (True ∧ some k_ ≠ (.slice Ao19 t1882.length co19 : Value).ownBlock)) (n := t1866.length) (c := co12) ?_).2.2; exact (by (with_reducible repeat (first | apply Kd.R_alloc | apply Kd.R_drewN | apply Kd.R_drew)); exact (Kd.R_mono (Kd.R_far (p := ⟨gb1897, 5, none⟩) (Kd.R_far (p := ⟨gb1897, 4, none⟩) (Kd.R_far (p := ⟨gb1897, 3, none⟩) (Kd.R_far (p := ⟨gb1897, 2, none⟩) (Kd.R_far (p := ⟨gb1897, 1, none⟩) (Kd.R_far (p := ⟨gb1897, 0, none⟩) (Kd.R_types HO1868.out BK1897.out (by decide)) (fun _ hk => hk.2) (.slice Ao19 t1882.length co19)) (fun _ hk => hk.2) (.int .i64 t1885)) (fun _ hk => hk.2) (.slice Ao22 t1886.length co22)) (fun _ hk => hk.2) (.int .i64 t1889)) (fun _ hk => hk.2) (.int .i64 t1890)) (fun _ hk => hk.2) (.slice Ao23 t1891.length co23)) (fun _ h_ => h_.1)))); (case side2 => exact (Kd.R_reads' HO1868.out).2.1); (case side3 => refine (Kd.R_reads' (e := 3) (base := w.heap.size) (ok := fun k_ => ((True ∧ some k_ ≠ (.slice Ao22 t1886.length co22 : Value).ownBlock) ∧ some k_ ≠ (.slice Ao25 t1894.length co25 : Value).ownBlock)) (n := t1870.length) (c := co14) ?_).2.2; exact (by (with_reducible repeat (first | apply Kd.R_alloc | apply Kd.R_drewN | apply Kd.R_drew)); exact (Kd.R_mono (Kd.R_far (p := ⟨gb1897, 5, none⟩) (Kd.R_far (p := ⟨gb1897, 4, none⟩) (Kd.R_far (p := ⟨gb1897, 3, none⟩) (Kd.R_far (p := ⟨gb1897, 2, none⟩) (Kd.R_far (p := ⟨gb1897, 1, none⟩) (Kd.R_far (p := ⟨gb1897, 0, none⟩) (Kd.R_types HO1872.out BK1897.out (by decide)) (fun _ hk => hk.2) (.slice Ao19 t1882.length co19)) (fun _ hk => hk.2) (.int .i64 t1885)) (fun _ hk => hk.2) (.slice Ao22 t1886.length co22)) (fun _ hk => hk.2) (.int .i64 t1889)) (fun _ hk => hk.2) (.int .i64 t1890)) (fun _ hk => hk.2) (.slice Ao23 t1891.length co23)) (fun _ h_ => h_.1)))); (case side4 => exact (Kd.R_reads' HO1872.out).2.1); (case side5 => refine (Kd.R_reads' (e := 104) (base := w.heap.size) (ok := fun k_ => (True ∧ some k_ ≠ (.slice Ao23 t1891.length co23 : Value).ownBlock)) (n := t1875.length) (c := co15) ?_).2.2; exact (by (with_reducible repeat (first | apply Kd.R_alloc | apply Kd.R_drewN | apply Kd.R_drew)); exact (Kd.R_mono (Kd.R_far (p := ⟨gb1897, 5, none⟩) (Kd.R_far (p := ⟨gb1897, 4, none⟩) (Kd.R_far (p := ⟨gb1897, 3, none⟩) (Kd.R_far (p := ⟨gb1897, 2, none⟩) (Kd.R_far (p := ⟨gb1897, 1, none⟩) (Kd.R_far (p := ⟨gb1897, 0, none⟩) (Kd.R_types HO1877.out BK1897.out (by decide)) (fun _ hk => hk.2) (.slice Ao19 t1882.length co19)) (fun _ hk => hk.2) (.int .i64 t1885)) (fun _ hk => hk.2) (.slice Ao22 t1886.length co22)) (fun _ hk => hk.2) (.int .i64 t1889)) (fun _ hk => hk.2) (.int .i64 t1890)) (fun _ hk => hk.2) (.slice Ao23 t1891.length co23)) (fun _ h_ => h_.1)))); (case side6 => exact (Kd.R_reads' HO1877.out).2.1); (case side7 => refine (Kd.R_reads' (e := 41) (base := w.heap.size) (ok := fun k_ => True) (n := t1878.length) (c := co16) ?_).2.2; exact (by (with_reducible repeat (first | apply Kd.R_alloc | apply Kd.R_drewN | apply Kd.R_drew)); exact (Kd.R_mono (Kd.R_far (p := ⟨gb1897, 5, none⟩) (Kd.R_far (p := ⟨gb1897, 4, none⟩) (Kd.R_far (p := ⟨gb1897, 3, none⟩) (Kd.R_far (p := ⟨gb1897, 2, none⟩) (Kd.R_far (p := ⟨gb1897, 1, none⟩) (Kd.R_far (p := ⟨gb1897, 0, none⟩) (Kd.R_types HO1880.out BK1897.out (by decide)) (fun _ hk => hk.2) (.slice Ao19 t1882.length co19)) (fun _ hk => hk.2) (.int .i64 t1885)) (fun _ hk => hk.2) (.slice Ao22 t1886.length co22)) (fun _ hk => hk.2) (.int .i64 t1889)) (fun _ hk => hk.2) (.int .i64 t1890)) (fun _ hk => hk.2) (.slice Ao23 t1891.length co23)) (fun _ h_ => h_.1)))); (case side8 => exact (Kd.R_reads' HO1880.out).2.1); (case side9 => refine (Kd.R_reads' (e := 3) (base := w.heap.size) (ok := fun k_ => (some k_ ≠ (.slice Ao22 t1886.length co22 : Value).ownBlock ∧ some k_ ≠ (.slice Ao14 t1870.length co14 : Value).ownBlock)) (n := t1894.length) (c := co25) ?_).2.2; exact (by (with_reducible repeat (first | apply Kd.R_alloc | apply Kd.R_drewN | apply Kd.R_drew)); exact (Kd.R_mono (Kd.R_far (p := ⟨gb1897, 5, none⟩) (Kd.R_far (p := ⟨gb1897, 4, none⟩) (Kd.R_far (p := ⟨gb1897, 3, none⟩) (Kd.R_far (p := ⟨gb1897, 2, none⟩) (Kd.R_far (p := ⟨gb1897, 1, none⟩) (Kd.R_far (p := ⟨gb1897, 0, none⟩) (Kd.R_types HO1896.out BK1897.out (by decide)) (fun _ hk => hk.2) (.slice Ao19 t1882.length co19)) (fun _ hk => hk.2) (.int .i64 t1885)) (fun _ hk => hk.2) (.slice Ao22 t1886.length co22)) (fun _ hk => hk.2) (.int .i64 t1889)) (fun _ hk => hk.2) (.int .i64 t1890)) (fun _ hk => hk.2) (.slice Ao23 t1891.length co23)) (fun _ h_ => h_.1)))); (case side10 => exact (Kd.R_reads' HO1896.out).2.1); rintro e w26 ⟨rfl, hb⟩; refine ⟨_, rfl, ?_⟩; have n0_ := A_ (Kd.R_below (by (with_reducible repeat (first | apply Kd.R_alloc | apply Kd.R_drewN | apply Kd.R_drew)); exact (Kd.R_mono (Kd.R_far (p := ⟨gb1897, 5, none⟩) (Kd.R_far (p := ⟨gb1897, 4, none⟩) (Kd.R_far (p := ⟨gb1897, 3, none⟩) (Kd.R_far (p := ⟨gb1897, 2, none⟩) (Kd.R_far (p := ⟨gb1897, 1, none⟩) (Kd.R_far (p := ⟨gb1897, 0, none⟩) (Kd.R_types HO1868.out BK1897.out (by decide)) (fun _ hk => hk.2) (.slice Ao19 t1882.length co19)) (fun _ hk => hk.2) (.int .i64 t1885)) (fun _ hk => hk.2) (.slice Ao22 t1886.length co22)) (fun _ hk => hk.2) (.int .i64 t1889)) (fun _ hk => hk.2) (.int .i64 t1890)) (fun _ hk => hk.2) (.slice Ao23 t1891.length co23)) (fun _ h_ => h_.1))) hb); have n1_ := A_ (Kd.R_below (by (with_reducible repeat (first | apply Kd.R_alloc | apply Kd.R_drewN | apply Kd.R_drew)); exact (Kd.R_mono (Kd.R_far (p := ⟨gb1897, 5, none⟩) (Kd.R_far (p := ⟨gb1897, 4, none⟩) (Kd.R_far (p := ⟨gb1897, 3, none⟩) (Kd.R_far (p := ⟨gb1897, 2, none⟩) (Kd.R_far (p := ⟨gb1897, 1, none⟩) (Kd.R_far (p := ⟨gb1897, 0, none⟩) (Kd.R_types HO1872.out BK1897.out (by decide)) (fun _ hk => hk.2) (.slice Ao19 t1882.length co19)) (fun _ hk => hk.2) (.int .i64 t1885)) (fun _ hk => hk.2) (.slice Ao22 t1886.length co22)) (fun _ hk => hk.2) (.int .i64 t1889)) (fun _ hk => hk.2) (.int .i64 t1890)) (fun _ hk => hk.2) (.slice Ao23 t1891.length co23)) (fun _ h_ => h_.1))) hb); have n2_ := A_ (Kd.R_below (by (with_reducible repeat (first | apply Kd.R_alloc | apply Kd.R_drewN | apply Kd.R_drew)); exact (Kd.R_mono (Kd.R_far (p := ⟨gb1897, 5, none⟩) (Kd.R_far (p := ⟨gb1897, 4, none⟩) (Kd.R_far (p := ⟨gb1897, 3, none⟩) (Kd.R_far (p := ⟨gb1897, 2, none⟩) (Kd.R_far (p := ⟨gb1897, 1, none⟩) (Kd.R_far (p := ⟨gb1897, 0, none⟩) (Kd.R_types HO1877.out BK1897.out (by decide)) (fun _ hk => hk.2) (.slice Ao19 t1882.length co19)) (fun _ hk => hk.2) (.int .i64 t1885)) (fun _ hk => hk.2) (.slice Ao22 t1886.length co22)) (fun _ hk => hk.2) (.int .i64 t1889)) (fun _ hk => hk.2) (.int .i64 t1890)) (fun _ hk => hk.2) (.slice Ao23 t1891.length co23)) (fun _ h_ => h_.1))) hb); have n3_ := A_ (Kd.R_below (by (with_reducible repeat (first | apply Kd.R_alloc | apply Kd.R_drewN | apply Kd.R_drew)); exact (Kd.R_mono (Kd.R_far (p := ⟨gb1897, 5, none⟩) (Kd.R_far (p := ⟨gb1897, 4, none⟩) (Kd.R_far (p := ⟨gb1897, 3, none⟩) (Kd.R_far (p := ⟨gb1897, 2, none⟩) (Kd.R_far (p := ⟨gb1897, 1, none⟩) (Kd.R_far (p := ⟨gb1897, 0, none⟩) (Kd.R_types HO1880.out BK1897.out (by decide)) (fun _ hk => hk.2) (.slice Ao19 t1882.length co19)) (fun _ hk => hk.2) (.int .i64 t1885)) (fun _ hk => hk.2) (.slice Ao22 t1886.length co22)) (fun _ hk => hk.2) (.int .i64 t1889)) (fun _ hk => hk.2) (.int .i64 t1890)) (fun _ hk => hk.2) (.slice Ao23 t1891.length co23)) (fun _ h_ => h_.1))) hb); have n4_ := A_ (Kd.R_below (by (with_reducible repeat (first | apply Kd.R_alloc | apply Kd.R_drewN | apply Kd.R_drew)); exact (Kd.R_mono (Kd.R_far (p := ⟨gb1897, 5, none⟩) (Kd.R_far (p := ⟨gb1897, 4, none⟩) (Kd.R_far (p := ⟨gb1897, 3, none⟩) (Kd.R_far (p := ⟨gb1897, 2, none⟩) (Kd.R_far (p := ⟨gb1897, 1, none⟩) (Kd.R_far (p := ⟨gb1897, 0, none⟩) (Kd.R_types HO1884.out BK1897.out (by decide)) (fun _ hk => hk.2) (.slice Ao19 t1882.length co19)) (fun _ hk => hk.2) (.int .i64 t1885)) (fun _ hk => hk.2) (.slice Ao22 t1886.length co22)) (fun _ hk => hk.2) (.int .i64 t1889)) (fun _ hk => hk.2) (.int .i64 t1890)) (fun _ hk => hk.2) (.slice Ao23 t1891.length co23)) (fun _ h_ => h_.1))) hb); have n5_ := A_ (Kd.R_below (by (with_reducible repeat (first | apply Kd.R_alloc | apply Kd.R_drewN | apply Kd.R_drew)); exact (Kd.R_mono (Kd.R_far (p := ⟨gb1897, 5, none⟩) (Kd.R_far (p := ⟨gb1897, 4, none⟩) (Kd.R_far (p := ⟨gb1897, 3, none⟩) (Kd.R_far (p := ⟨gb1897, 2, none⟩) (Kd.R_far (p := ⟨gb1897, 1, none⟩) (Kd.R_far (p := ⟨gb1897, 0, none⟩) (Kd.R_types HO1888.out BK1897.out (by decide)) (fun _ hk => hk.2) (.slice Ao19 t1882.length co19)) (fun _ hk => hk.2) (.int .i64 t1885)) (fun _ hk => hk.2) (.slice Ao22 t1886.length co22)) (fun _ hk => hk.2) (.int .i64 t1889)) (fun _ hk => hk.2) (.int .i64 t1890)) (fun _ hk => hk.2) (.slice Ao23 t1891.length co23)) (fun _ h_ => h_.1))) hb); have n6_ := A_ (Kd.R_below (by (with_reducible repeat (first | apply Kd.R_alloc | apply Kd.R_drewN | apply Kd.R_drew)); exact (Kd.R_mono (Kd.R_far (p := ⟨gb1897, 5, none⟩) (Kd.R_far (p := ⟨gb1897, 4, none⟩) (Kd.R_far (p := ⟨gb1897, 3, none⟩) (Kd.R_far (p := ⟨gb1897, 2, none⟩) (Kd.R_far (p := ⟨gb1897, 1, none⟩) (Kd.R_far (p := ⟨gb1897, 0, none⟩) (Kd.R_types HO1893.out BK1897.out (by decide)) (fun _ hk => hk.2) (.slice Ao19 t1882.length co19)) (fun _ hk => hk.2) (.int .i64 t1885)) (fun _ hk => hk.2) (.slice Ao22 t1886.length co22)) (fun _ hk => hk.2) (.int .i64 t1889)) (fun _ hk => hk.2) (.int .i64 t1890)) (fun _ hk => hk.2) (.slice Ao23 t1891.length co23)) (fun _ h_ => h_.1))) hb); have n7_ := A_ (Kd.R_below (by (with_reducible repeat (first | apply Kd.R_alloc | apply Kd.R_drewN | apply Kd.R_drew)); exact (Kd.R_mono (Kd.R_far (p := ⟨gb1897, 5, none⟩) (Kd.R_far (p := ⟨gb1897, 4, none⟩) (Kd.R_far (p := ⟨gb1897, 3, none⟩) (Kd.R_far (p := ⟨gb1897, 2, none⟩) (Kd.R_far (p := ⟨gb1897, 1, none⟩) (Kd.R_far (p := ⟨gb1897, 0, none⟩) (Kd.R_types HO1896.out BK1897.out (by decide)) (fun _ hk => hk.2) (.slice Ao19 t1882.length co19)) (fun _ hk => hk.2) (.int .i64 t1885)) (fun _ hk => hk.2) (.slice Ao22 t1886.length co22)) (fun _ hk => hk.2) (.int .i64 t1889)) (fun _ hk => hk.2) (.int .i64 t1890)) (fun _ hk => hk.2) (.slice Ao23 t1891.length co23)) (fun _ h_ => h_.1))) hb); have n8_ := A_ (blk_below (g := gb1881) (o := .cells #[.slice Ao12 t1866.length co12, .int .i64 t1869, .slice Ao14 t1870.length co14, .int .i64 t1873, .int .i64 t1874, .slice Ao15 t1875.length co15] 37 (0, 0)) (by (with_reducible repeat (first | refine blk_drewN ?_ _ | refine blk_drew ?_ | refine blk_alloc ?_ _)); refine blk_far ?_ NB1881_1897.out _; (with_reducible repeat (first | refine blk_drewN ?_ _ | refine blk_drew ?_ | refine blk_alloc ?_ _)); refine blk_far ?_ NB1881_1897.out _; (with_reducible repeat (first | refine blk_drewN ?_ _ | refine blk_drew ?_ | refine blk_alloc ?_ _)); refine blk_far ?_ NB1881_1897.out _; (with_reducible repeat (first | refine blk_drewN ?_ _ | refine blk_drew ?_ | refine blk_alloc ?_ _)); refine blk_far ?_ NB1881_1897.out _; (with_reducible repeat (first | refine blk_drewN ?_ _ | refine blk_drew ?_ | refine blk_alloc ?_ _)); refine blk_far ?_ NB1881_1897.out _; (with_reducible repeat (first | refine blk_drewN ?_ _ | refine blk_drew ?_ | refine blk_alloc ?_ _)); refine blk_far ?_ NB1881_1897.out _; (with_reducible repeat (first | refine blk_drewN ?_ _ | refine blk_drew ?_ | refine blk_alloc ?_ _)); exact BK1881.out) hb); have n9_ := A_ (blk_below (g := gb1897) (o := .cells #[.slice Ao19 t1882.length co19, .int .i64 t1885, .slice Ao22 t1886.length co22, .int .i64 t1889, .int .i64 t1890, .slice Ao23 t1891.length co23] 37 (0, 0)) (by (with_reducible repeat (first | refine blk_drewN ?_ _ | refine blk_drew ?_ | refine blk_alloc ?_ _)); refine blk_put (cs := #[.slice Ao19 t1882.length co19, .int .i64 t1885, .slice Ao22 t1886.length co22, .int .i64 t1889, .int .i64 t1890, .slice none 0 0]) ?_ 5 _ rfl; (with_reducible repeat (first | refine blk_drewN ?_ _ | refine blk_drew ?_ | refine blk_alloc ?_ _)); refine blk_put (cs := #[.slice Ao19 t1882.length co19, .int .i64 t1885, .slice Ao22 t1886.length co22, .int .i64 t1889, .int .i64 0, .slice none 0 0]) ?_ 4 _ rfl; (with_reducible repeat (first | refine blk_drewN ?_ _ | refine blk_drew ?_ | refine blk_alloc ?_ _)); refine blk_put (cs := #[.slice Ao19 t1882.length co19, .int .i64 t1885, .slice Ao22 t1886.length co22, .int .i64 0, .int .i64 0, .slice none 0 0]) ?_ 3 _ rfl; (with_reducible repeat (first | refine blk_drewN ?_ _ | refine blk_drew ?_ | refine blk_alloc ?_ _)); refine blk_put (cs := #[.slice Ao19 t1882.length co19, .int .i64 t1885, .slice none 0 0, .int .i64 0, .int .i64 0, .slice none 0 0]) ?_ 2 _ rfl; (with_reducible repeat (first | refine blk_drewN ?_ _ | refine blk_drew ?_ | refine blk_alloc ?_ _)); refine blk_put (cs := #[.slice Ao19 t1882.length co19, .int .i64 0, .slice none 0 0, .int .i64 0, .int .i64 0, .slice none 0 0]) ?_ 1 _ rfl; (with_reducible repeat (first | refine blk_drewN ?_ _ | refine blk_drew ?_ | refine blk_alloc ?_ _)); refine blk_put (cs := #[.slice none 0 0, .int .i64 0, .slice none 0 0, .int .i64 0, .int .i64 0, .slice none 0 0]) ?_ 0 _ rfl; (with_reducible repeat (first | refine blk_drewN ?_ _ | refine blk_drew ?_ | refine blk_alloc ?_ _)); exact BK1897.out) hb); have n10_ := A_ (below_step (oB HB) hb); clear HO1868; clear HO1872; clear HO1877; clear HO1880; clear HO1884; clear HO1888; clear HO1893; clear HO1896; clear BK1881; clear BK1897; clear HB; have HO1868 := n0_; have HO1872 := n1_; have HO1877 := n2_; have HO1880 := n3_; have HO1884 := n4_; have HO1888 := n5_; have HO1893 := n6_; have HO1896 := n7_; have BK1881 := n8_; have BK1897 := n9_; have HB := n10_; clear n0_ n1_ n2_ n3_ n4_ n5_ n6_ n7_ n8_ n9_ n10_; (try clear hb); (try clear hb2); (try clear hk); (try clear hi); have hcz27_0 := cz BK1881 0; have hcz27_1 := cz BK1881 1; have hcz27_2 := cz BK1881 2; have hcz27_3 := cz BK1881 3; have hcz27_4 := cz BK1881 4; have hcz27_5 := cz BK1881 5; have hfz27_0 := blk_frozen BK1881.out 0; have hfz27_1 := blk_frozen BK1881.out 1; have hfz27_2 := blk_frozen BK1881.out 2; have hfz27_3 := blk_frozen BK1881.out 3; have hfz27_4 := blk_frozen BK1881.out 4; have hfz27_5 := blk_frozen BK1881.out 5) | ((with_reducible refine gate_dst (N := 32) rfl ?_); refine Kd.R_lit (Kd.int .i64) _ 3 ?hg (N := 32) ?hd (xs := ([1] : List Int)) (inner := [.int .i64 1]) (ok := fun _ => True) (okp := fun _ => True) ?hr ?hp (fun _ hk => hk) trivial (Below.refl _ _) (Nat.le_refl _) (by simp) ?_; (case hd => rfl); (case hg => rfl); (case hr => first | (go_simp; done) | (go_simp; rfl)); (case hp => exact (Reps.one (show Kd.M (Kd.int .i64) _ _ _ 1 [.int .i64 1] from rfl) (Reps.none _ _))); intro v1900 w28 ho29 hb hg_ hnew_; clear hg_ hnew_; (first | rw [← Ny1899.out] at ho29 | (simp only [Int.reduceToNat] at ho29; rw [← Ny1899.out] at ho29)); have n0_ := A_ (Kd.R_below (oR HO1868) hb); have n1_ := A_ (Kd.R_elder' (oR HO1872) (Kd.R_base ho29) hb); have n2_ := A_ (Kd.R_below (oR HO1877) hb); have n3_ := A_ (Kd.R_below (oR HO1880) hb); have n4_ := A_ (Kd.R_below (oR HO1884) hb); have n5_ := A_ (Kd.R_elder' (oR HO1888) (Kd.R_base ho29) hb); have n6_ := A_ (Kd.R_below (oR HO1893) hb); have n7_ := A_ (Kd.R_elder' (oR HO1896) (Kd.R_base ho29) hb); have n8_ := A_ (Kd.R_lower (Kd.R_new' (Kd.R_new' (Kd.R_new' ho29 (Kd.R_lt (oR HO1872))) (Kd.R_lt (oR HO1888))) (Kd.R_lt (oR HO1896))) (below_size (oB HB))); have n9_ := A_ (bb BK1881 hb); have n10_ := A_ (bb BK1897 hb); have n11_ := A_ (below_step (oB HB) hb); clear HO1868; clear HO1872; clear HO1877; clear HO1880; clear HO1884; clear HO1888; clear HO1893; clear HO1896; clear BK1881; clear BK1897; clear HB; have HO1868 := n0_; have HO1872 := n1_; have HO1877 := n2_; have HO1880 := n3_; have HO1884 := n4_; have HO1888 := n5_; have HO1893 := n6_; have HO1896 := n7_; have HO1901 := n8_; have BK1881 := n9_; have BK1897 := n10_; have HB := n11_; clear n0_ n1_ n2_ n3_ n4_ n5_ n6_ n7_ n8_ n9_ n10_ n11_; clear hb ho29; obtain ⟨Ao30, co30, eo30⟩ := Kd.R_slice HO1901.out; subst eo30) | ((with_reducible refine gate_callee (f := 28) rfl ?_); refine gL (some 33) Tryz.func28 #[.agg #[.slice Ao12 t1866.length co12, .int .i64 t1869, .slice Ao14 t1870.length co14, .int .i64 t1873, .int .i64 t1874, .slice Ao15 t1875.length co15], .slice Ao16 t1878.length co16, .slice Ao30 y1899.length co30] ?_; (with_reducible refine (impl_IsReplay.calls k _ _ t1866 t1869 _ _ t1870 t1873 t1874 _ _ t1875 _ _ t1878 _ _ y1899 t1902 _ ?side1 ?side2 ?side3 ?side4 ?side5 ?side6 ?side7 ?side8 ?side9 ?side10 A9.out).mono ?_); (case side1 => repeat (first | exact (Kd.R_reads' HO1868.out).2.2 | (with_reducible refine Kd.C_alloc ?_ _) | (with_reducible refine Kd.C_drewN ?_ _) | (with_reducible refine Kd.C_drew ?_))); (case side2 => exact (Kd.R_reads' HO1868.out).2.1); (case side3 => repeat (first | exact (Kd.R_reads' HO1872.out).2.2 | (with_reducible refine Kd.C_alloc ?_ _) | (with_reducible refine Kd.C_drewN ?_ _) | (with_reducible refine Kd.C_drew ?_))); (case side4 => exact (Kd.R_reads' HO1872.out).2.1); (case side5 => repeat (first | exact (Kd.R_reads' HO1877.out).2.2 | (with_reducible refine Kd.C_alloc ?_ _) | (with_reducible refine Kd.C_drewN ?_ _) | (with_reducible refine Kd.C_drew ?_))); (case side6 => exact (Kd.R_reads' HO1877.out).2.1); (case side7 => repeat (first | exact (Kd.R_reads' HO1880.out).2.2 | (with_reducible refine Kd.C_alloc ?_ _) | (with_reducible refine Kd.C_drewN ?_ _) | (with_reducible refine Kd.C_drew ?_))); (case side8 => exact (Kd.R_reads' HO1880.out).2.1); (case side9 => repeat (first | exact (Kd.R_reads' HO1901.out).2.2 | (with_reducible refine Kd.C_alloc ?_ _) | (with_reducible refine Kd.C_drewN ?_ _) | (with_reducible refine Kd.C_drew ?_))); (case side10 => exact (Kd.R_reads' HO1901.out).2.1); rintro e w31 ⟨rfl, hb⟩; refine ⟨_, rfl, ?_⟩; have n0_ := A_ (Kd.R_below (oR HO1868) hb); have n1_ := A_ (Kd.R_below (oR HO1872) hb); have n2_ := A_ (Kd.R_below (oR HO1877) hb); have n3_ := A_ (Kd.R_below (oR HO1880) hb); have n4_ := A_ (Kd.R_below (oR HO1884) hb); have n5_ := A_ (Kd.R_below (oR HO1888) hb); have n6_ := A_ (Kd.R_below (oR HO1893) hb); have n7_ := A_ (Kd.R_below (oR HO1896) hb); have n8_ := A_ (Kd.R_below (oR HO1901) hb); have n9_ := A_ (bb BK1881 hb); have n10_ := A_ (bb BK1897 hb); have n11_ := A_ (below_step (oB HB) hb); clear HO1868; clear HO1872; clear HO1877; clear HO1880; clear HO1884; clear HO1888; clear HO1893; clear HO1896; clear HO1901; clear BK1881; clear BK1897; clear HB; have HO1868 := n0_; have HO1872 := n1_; have HO1877 := n2_; have HO1880 := n3_; have HO1884 := n4_; have HO1888 := n5_; have HO1893 := n6_; have HO1896 := n7_; have HO1901 := n8_; have BK1881 := n9_; have BK1897 := n10_; have HB := n11_; clear n0_ n1_ n2_ n3_ n4_ n5_ n6_ n7_ n8_ n9_ n10_ n11_; (try clear hb); (try clear hb2); (try clear hk); (try clear hi)))
    go_ret
    exact ⟨eR, oB HB⟩
   ·rw [if_neg c8] at H
    have c8b0 : ((t1894.length : Int) == 0) = false := beq_eq_false_iff_ne.mpr c8
    have c8b1 : ((t1894.length : Int) != 0) = true := bne_iff_ne.mpr c8
    have c8b2 : ¬ (t1894 = []) := fun h_ => c8 (by rw [h_]; rfl)
    replace H := Option.bind_eq_some_iff.mp H
    obtain ⟨t1903, A320, H⟩ := H
    (try dsimp only at H)
    have A32 := A_ A320
    clear A320
    by_cases c33 : 0 < (t1903.length : Int)
    ·rw [if_pos c33] at H
     have c33b0 : decide (0 < (t1903.length : Int)) = true := decide_eq_true c33
     have c33b1 : decide (0 < t1903.length) = true := decide_eq_true (by omega)
     clear c33
     obtain ⟨ji34, hji34⟩ : ∃ j_ : Int, (Int.tmod (rd t1903 0) (t1894.length : Int)) = j_ := ⟨_, rfl⟩
     replace H : (if 0 ≤ (ji34) then (if (ji34) < (t1894.length : Int) then ((impl_IsReplay.f k t1866 t1869 t1870 t1873 t1874 t1875 t1878 (t1894.set ((ji34) : Int).toNat (wrap64 ((rd t1894 (ji34)) + 1)))).bind fun t1909 => (some (!t1909))) else (none)) else (none)) = some r := by first | (rw [hji34] at H; exact H) | (simp only [hji34] at H ⊢; exact H)
     (try rw [hji34] at A2)
     (try rw [hji34] at A4)
     (try rw [hji34] at A5)
     (try rw [hji34] at A6)
     (try rw [hji34] at A32)
     by_cases c35 : 0 ≤ (ji34)
     ·rw [if_pos c35] at H
      have c35b0 : decide (0 ≤ (ji34)) = true := decide_eq_true c35
      clear c35
      by_cases c36 : (ji34) < (t1894.length : Int)
      ·rw [if_pos c36] at H
       have c36b0 : decide ((ji34) < (t1894.length : Int)) = true := decide_eq_true c36
       clear c36
       obtain ⟨y1908, hy1908⟩ : ∃ y_ : List Int, y_ = (t1894.set ((ji34) : Int).toNat (wrap64 ((rd t1894 (ji34)) + 1))) := ⟨_, rfl⟩
       replace H : ((impl_IsReplay.f k t1866 t1869 t1870 t1873 t1874 t1875 t1878 y1908).bind fun t1909 => (some (!t1909))) = some r := by first | (rw [hy1908]; with_reducible exact H) | (have H2_ := (Option.bind_some _ _).symm.trans H; rw [hy1908]; with_reducible exact H2_) | (have H2_ := (Option.bind_some _ _).symm.trans H; with_reducible exact H2_) | with_reducible exact H | (rw [hy1908]; exact H) | exact H
       have Ny1908 := A_ hy1908
       clear hy1908
       replace H := Option.bind_eq_some_iff.mp H
       obtain ⟨t1909, A380, H⟩ := H
       (try dsimp only at H)
       have A38 := A_ A380
       clear A380
       obtain rfl := Option.some.inj H
       go_enter Tryz.func6, Tryz.ntmps6
       go_wp2_with (first | ((with_reducible refine gate_callee (f := 29) rfl ?_); refine gL (some 10) Tryz.func29 #[.slice A0 l0.length c0] ?_; (with_reducible refine (laws_big.calls _ _ l0 false _ ?side1 ?side2 A2.out).mono ?_); (case side1 => repeat (first | exact HR0.out | (with_reducible refine Kd.C_alloc ?_ _) | (with_reducible refine Kd.C_drewN ?_ _) | (with_reducible refine Kd.C_drew ?_))); (case side2 => exact HC0.out); rintro e w' ⟨rfl, ⟨nd, rfl⟩⟩; refine ⟨_, rfl, ?_⟩) | ((with_reducible refine gate_callee (f := 30) rfl ?_); refine gL (some 13) Tryz.func30 #[.slice A0 l0.length c0] ?_; (with_reducible refine (spec_DrawActs.calls k _ _ l0 t1866 t1869 t1870 t1873 t1874 t1875 t1878 _ ?side1 ?side2 A4.out).mono ?_); (case side1 => repeat (first | exact HR0.out | (with_reducible refine Kd.C_alloc ?_ _) | (with_reducible refine Kd.C_drewN ?_ _) | (with_reducible refine Kd.C_drew ?_))); (case side2 => exact HC0.out); rintro e w39 ⟨v1867, v1871, v1876, v1879, rfl, ho0, ho1, ho2, ho3, hb⟩; refine ⟨_, rfl, ?_⟩; have n0_ := A_ (Kd.R_lower ho0 (below_size (oB HB))); have n1_ := A_ (Kd.R_lower ho1 (below_size (oB HB))); have n2_ := A_ (Kd.R_lower ho2 (below_size (oB HB))); have n3_ := A_ (Kd.R_lower ho3 (below_size (oB HB))); have n4_ := A_ (below_step (oB HB) hb); clear HB; have HO1868 := n0_; have HO1872 := n1_; have HO1877 := n2_; have HO1880 := n3_; have HB := n4_; clear n0_ n1_ n2_ n3_ n4_; (try clear hb); (try clear hb2); (try clear hk); (try clear hi); (try clear ho0); (try clear ho1); (try clear ho2); (try clear ho3)) | ((with_reducible refine gate_dst (N := 3) rfl ?_); refine bX (N := 3) (cs := #[.slice none 0 0, .int .i64 0, .slice none 0 0, .int .i64 0, .int .i64 0, .slice none 0 0]) (t := 37) ?_; intro gb1881 hg w40 hbox hb; have n0_ := A_ (Kd.R_below (oR HO1868) hb); have n1_ := A_ (Kd.R_below (oR HO1872) hb); have n2_ := A_ (Kd.R_below (oR HO1877) hb); have n3_ := A_ (Kd.R_below (oR HO1880) hb); have n4_ := A_ (below_step (oB HB) hb); have n5_ := A_ (hbox); have n6_ := A_ ((by rw [hg]; exact (below_size (oB HB)) : w.heap.size ≤ gb1881)); have n7_ := A_ ((by rw [hg]; exact (below_size (oB HB)) : w.heap.size ≤ gb1881)); clear HO1868; clear HO1872; clear HO1877; clear HO1880; clear HB; have HO1868 := n0_; have HO1872 := n1_; have HO1877 := n2_; have HO1880 := n3_; have HB := n4_; have BK1881 := n5_; have GW1881 := n6_; have GE1881 := n7_; clear n0_ n1_ n2_ n3_ n4_ n5_ n6_ n7_; clear hb hbox hg; obtain ⟨Ao41, co41, eo41⟩ := Kd.R_slice HO1868.out; subst eo41; have hcz42_0 := cz BK1881 0; have hcz42_1 := cz BK1881 1; have hcz42_2 := cz BK1881 2; have hcz42_3 := cz BK1881 3; have hcz42_4 := cz BK1881 4; have hcz42_5 := cz BK1881 5; have hfz42_0 := blk_frozen BK1881.out 0; have hfz42_1 := blk_frozen BK1881.out 1; have hfz42_2 := blk_frozen BK1881.out 2; have hfz42_3 := blk_frozen BK1881.out 3; have hfz42_4 := blk_frozen BK1881.out 4; have hfz42_5 := blk_frozen BK1881.out 5; obtain ⟨Ao43, co43, eo43⟩ := Kd.R_slice HO1872.out; subst eo43; obtain ⟨Ao44, co44, eo44⟩ := Kd.R_slice HO1877.out; subst eo44; obtain ⟨Ao45, co45, eo45⟩ := Kd.R_slice HO1880.out; subst eo45) | ((with_reducible refine gate_callee (f := 20) rfl ?_); refine gL (some 19) Tryz.func20 #[.agg #[.slice Ao41 t1866.length co41, .int .i64 t1869, .slice Ao43 t1870.length co43, .int .i64 t1873, .int .i64 t1874, .slice Ao44 t1875.length co44], .slice Ao45 t1878.length co45] ?_; (with_reducible refine (impl_RunActs.calls k _ _ t1866 t1869 _ _ t1870 t1873 t1874 _ _ t1875 _ _ t1878 t1882 t1885 t1886 t1889 t1890 t1891 t1894 _ ?side1 ?side2 ?side3 ?side4 ?side5 ?side6 ?side7 ?side8 A5.out).mono ?_); (case side1 => refine (Kd.R_reads' (e := 112) (base := w.heap.size) (ok := fun k_ => True) (n := t1866.length) (c := co41) ?_).2.2; exact (by (with_reducible repeat (first | apply Kd.R_alloc | apply Kd.R_drewN | apply Kd.R_drew)); exact (Kd.R_mono (Kd.R_far (p := ⟨gb1881, 5, none⟩) (Kd.R_far (p := ⟨gb1881, 4, none⟩) (Kd.R_far (p := ⟨gb1881, 3, none⟩) (Kd.R_far (p := ⟨gb1881, 2, none⟩) (Kd.R_far (p := ⟨gb1881, 1, none⟩) (Kd.R_far (p := ⟨gb1881, 0, none⟩) (Kd.R_types HO1868.out BK1881.out (by decide)) (fun _ hk => hk.2) (.slice Ao41 t1866.length co41)) (fun _ hk => hk.2) (.int .i64 t1869)) (fun _ hk => hk.2) (.slice Ao43 t1870.length co43)) (fun _ hk => hk.2) (.int .i64 t1873)) (fun _ hk => hk.2) (.int .i64 t1874)) (fun _ hk => hk.2) (.slice Ao44 t1875.length co44)) (fun _ h_ => h_.1)))); (case side2 => exact (Kd.R_reads' HO1868.out).2.1); (case side3 => refine (Kd.R_reads' (e := 3) (base := w.heap.size) (ok := fun k_ => True) (n := t1870.length) (c := co43) ?_).2.2; exact (by (with_reducible repeat (first | apply Kd.R_alloc | apply Kd.R_drewN | apply Kd.R_drew)); exact (Kd.R_mono (Kd.R_far (p := ⟨gb1881, 5, none⟩) (Kd.R_far (p := ⟨gb1881, 4, none⟩) (Kd.R_far (p := ⟨gb1881, 3, none⟩) (Kd.R_far (p := ⟨gb1881, 2, none⟩) (Kd.R_far (p := ⟨gb1881, 1, none⟩) (Kd.R_far (p := ⟨gb1881, 0, none⟩) (Kd.R_types HO1872.out BK1881.out (by decide)) (fun _ hk => hk.2) (.slice Ao41 t1866.length co41)) (fun _ hk => hk.2) (.int .i64 t1869)) (fun _ hk => hk.2) (.slice Ao43 t1870.length co43)) (fun _ hk => hk.2) (.int .i64 t1873)) (fun _ hk => hk.2) (.int .i64 t1874)) (fun _ hk => hk.2) (.slice Ao44 t1875.length co44)) (fun _ h_ => h_.1)))); (case side4 => exact (Kd.R_reads' HO1872.out).2.1); (case side5 => refine (Kd.R_reads' (e := 104) (base := w.heap.size) (ok := fun k_ => True) (n := t1875.length) (c := co44) ?_).2.2; exact (by (with_reducible repeat (first | apply Kd.R_alloc | apply Kd.R_drewN | apply Kd.R_drew)); exact (Kd.R_mono (Kd.R_far (p := ⟨gb1881, 5, none⟩) (Kd.R_far (p := ⟨gb1881, 4, none⟩) (Kd.R_far (p := ⟨gb1881, 3, none⟩) (Kd.R_far (p := ⟨gb1881, 2, none⟩) (Kd.R_far (p := ⟨gb1881, 1, none⟩) (Kd.R_far (p := ⟨gb1881, 0, none⟩) (Kd.R_types HO1877.out BK1881.out (by decide)) (fun _ hk => hk.2) (.slice Ao41 t1866.length co41)) (fun _ hk => hk.2) (.int .i64 t1869)) (fun _ hk => hk.2) (.slice Ao43 t1870.length co43)) (fun _ hk => hk.2) (.int .i64 t1873)) (fun _ hk => hk.2) (.int .i64 t1874)) (fun _ hk => hk.2) (.slice Ao44 t1875.length co44)) (fun _ h_ => h_.1)))); (case side6 => exact (Kd.R_reads' HO1877.out).2.1); (case side7 => refine (Kd.R_reads' (e := 41) (base := w.heap.size) (ok := fun k_ => True) (n := t1878.length) (c := co45) ?_).2.2; exact (by (with_reducible repeat (first | apply Kd.R_alloc | apply Kd.R_drewN | apply Kd.R_drew)); exact (Kd.R_mono (Kd.R_far (p := ⟨gb1881, 5, none⟩) (Kd.R_far (p := ⟨gb1881, 4, none⟩) (Kd.R_far (p := ⟨gb1881, 3, none⟩) (Kd.R_far (p := ⟨gb1881, 2, none⟩) (Kd.R_far (p := ⟨gb1881, 1, none⟩) (Kd.R_far (p := ⟨gb1881, 0, none⟩) (Kd.R_types HO1880.out BK1881.out (by decide)) (fun _ hk => hk.2) (.slice Ao41 t1866.length co41)) (fun _ hk => hk.2) (.int .i64 t1869)) (fun _ hk => hk.2) (.slice Ao43 t1870.length co43)) (fun _ hk => hk.2) (.int .i64 t1873)) (fun _ hk => hk.2) (.int .i64 t1874)) (fun _ hk => hk.2) (.slice Ao44 t1875.length co44)) (fun _ h_ => h_.1)))); (case side8 => exact (Kd.R_reads' HO1880.out).2.1); rintro e w46 ⟨v1883, v1887, v1892, v1895, rfl, ho0, ho1, ho2, ho3, hb⟩; refine ⟨_, rfl, ?_⟩; have n0_ := A_ (Kd.R_elder' (by (with_reducible repeat (first | apply Kd.R_alloc | apply Kd.R_drewN | apply Kd.R_drew)); exact (Kd.R_mono (Kd.R_far (p := ⟨gb1881, 5, none⟩) (Kd.R_far (p := ⟨gb1881, 4, none⟩) (Kd.R_far (p := ⟨gb1881, 3, none⟩) (Kd.R_far (p := ⟨gb1881, 2, none⟩) (Kd.R_far (p := ⟨gb1881, 1, none⟩) (Kd.R_far (p := ⟨gb1881, 0, none⟩) (Kd.R_types HO1868.out BK1881.out (by decide)) (fun _ hk => hk.2) (.slice Ao41 t1866.length co41)) (fun _ hk => hk.2) (.int .i64 t1869)) (fun _ hk => hk.2) (.slice Ao43 t1870.length co43)) (fun _ hk => hk.2) (.int .i64 t1873)) (fun _ hk => hk.2) (.int .i64 t1874)) (fun _ hk => hk.2) (.slice Ao44 t1875.length co44)) (fun _ h_ => h_.1))) (Kd.R_base ho0) hb); have n1_ := A_ (Kd.R_mono (Kd.R_told (Kd.R_told (Kd.R_old (by (with_reducible repeat (first | apply Kd.R_alloc | apply Kd.R_drewN | apply Kd.R_drew)); exact (Kd.R_mono (Kd.R_far (p := ⟨gb1881, 5, none⟩) (Kd.R_far (p := ⟨gb1881, 4, none⟩) (Kd.R_far (p := ⟨gb1881, 3, none⟩) (Kd.R_far (p := ⟨gb1881, 2, none⟩) (Kd.R_far (p := ⟨gb1881, 1, none⟩) (Kd.R_far (p := ⟨gb1881, 0, none⟩) (Kd.R_types HO1872.out BK1881.out (by decide)) (fun _ hk => hk.2) (.slice Ao41 t1866.length co41)) (fun _ hk => hk.2) (.int .i64 t1869)) (fun _ hk => hk.2) (.slice Ao43 t1870.length co43)) (fun _ hk => hk.2) (.int .i64 t1873)) (fun _ hk => hk.2) (.int .i64 t1874)) (fun _ hk => hk.2) (.slice Ao44 t1875.length co44)) (fun _ h_ => h_.1))) hb) (Kd.R_base ho1)) (Kd.R_base ho3)) (fun _ h_ => h_.1)); have n2_ := A_ (Kd.R_elder' (by (with_reducible repeat (first | apply Kd.R_alloc | apply Kd.R_drewN | apply Kd.R_drew)); exact (Kd.R_mono (Kd.R_far (p := ⟨gb1881, 5, none⟩) (Kd.R_far (p := ⟨gb1881, 4, none⟩) (Kd.R_far (p := ⟨gb1881, 3, none⟩) (Kd.R_far (p := ⟨gb1881, 2, none⟩) (Kd.R_far (p := ⟨gb1881, 1, none⟩) (Kd.R_far (p := ⟨gb1881, 0, none⟩) (Kd.R_types HO1877.out BK1881.out (by decide)) (fun _ hk => hk.2) (.slice Ao41 t1866.length co41)) (fun _ hk => hk.2) (.int .i64 t1869)) (fun _ hk => hk.2) (.slice Ao43 t1870.length co43)) (fun _ hk => hk.2) (.int .i64 t1873)) (fun _ hk => hk.2) (.int .i64 t1874)) (fun _ hk => hk.2) (.slice Ao44 t1875.length co44)) (fun _ h_ => h_.1))) (Kd.R_base ho2) hb); have n3_ := A_ (Kd.R_below (by (with_reducible repeat (first | apply Kd.R_alloc | apply Kd.R_drewN | apply Kd.R_drew)); exact (Kd.R_mono (Kd.R_far (p := ⟨gb1881, 5, none⟩) (Kd.R_far (p := ⟨gb1881, 4, none⟩) (Kd.R_far (p := ⟨gb1881, 3, none⟩) (Kd.R_far (p := ⟨gb1881, 2, none⟩) (Kd.R_far (p := ⟨gb1881, 1, none⟩) (Kd.R_far (p := ⟨gb1881, 0, none⟩) (Kd.R_types HO1880.out BK1881.out (by decide)) (fun _ hk => hk.2) (.slice Ao41 t1866.length co41)) (fun _ hk => hk.2) (.int .i64 t1869)) (fun _ hk => hk.2) (.slice Ao43 t1870.length co43)) (fun _ hk => hk.2) (.int .i64 t1873)) (fun _ hk => hk.2) (.int .i64 t1874)) (fun _ hk => hk.2) (.slice Ao44 t1875.length co44)) (fun _ h_ => h_.1))) hb); have n4_ := A_ (Kd.R_lower (Kd.R_new' ho0 (Kd.R_lt (by (with_reducible repeat (first | apply Kd.R_alloc | apply Kd.R_drewN | apply Kd.R_drew)); exact (Kd.R_mono (Kd.R_far (p := ⟨gb1881, 5, none⟩) (Kd.R_far (p := ⟨gb1881, 4, none⟩) (Kd.R_far (p := ⟨gb1881, 3, none⟩) (Kd.R_far (p := ⟨gb1881, 2, none⟩) (Kd.R_far (p := ⟨gb1881, 1, none⟩) (Kd.R_far (p := ⟨gb1881, 0, none⟩) (Kd.R_types HO1868.out BK1881.out (by decide)) (fun _ hk => hk.2) (.slice Ao41 t1866.length co41)) (fun _ hk => hk.2) (.int .i64 t1869)) (fun _ hk => hk.2) (.slice Ao43 t1870.length co43)) (fun _ hk => hk.2) (.int .i64 t1873)) (fun _ hk => hk.2) (.int .i64 t1874)) (fun _ hk => hk.2) (.slice Ao44 t1875.length co44)) (fun _ h_ => h_.1))))) (below_size (oB HB))); have n5_ := A_ (Kd.R_lower (Kd.R_new' ho1 (Kd.R_lt (by (with_reducible repeat (first | apply Kd.R_alloc | apply Kd.R_drewN | apply Kd.R_drew)); exact (Kd.R_mono (Kd.R_far (p := ⟨gb1881, 5, none⟩) (Kd.R_far (p := ⟨gb1881, 4, none⟩) (Kd.R_far (p := ⟨gb1881, 3, none⟩) (Kd.R_far (p := ⟨gb1881, 2, none⟩) (Kd.R_far (p := ⟨gb1881, 1, none⟩) (Kd.R_far (p := ⟨gb1881, 0, none⟩) (Kd.R_types HO1872.out BK1881.out (by decide)) (fun _ hk => hk.2) (.slice Ao41 t1866.length co41)) (fun _ hk => hk.2) (.int .i64 t1869)) (fun _ hk => hk.2) (.slice Ao43 t1870.length co43)) (fun _ hk => hk.2) (.int .i64 t1873)) (fun _ hk => hk.2) (.int .i64 t1874)) (fun _ hk => hk.2) (.slice Ao44 t1875.length co44)) (fun _ h_ => h_.1))))) (below_size (oB HB))); have n6_ := A_ (Kd.R_lower (Kd.R_new' ho2 (Kd.R_lt (by (with_reducible repeat (first | apply Kd.R_alloc | apply Kd.R_drewN | apply Kd.R_drew)); exact (Kd.R_mono (Kd.R_far (p := ⟨gb1881, 5, none⟩) (Kd.R_far (p := ⟨gb1881, 4, none⟩) (Kd.R_far (p := ⟨gb1881, 3, none⟩) (Kd.R_far (p := ⟨gb1881, 2, none⟩) (Kd.R_far (p := ⟨gb1881, 1, none⟩) (Kd.R_far (p := ⟨gb1881, 0, none⟩) (Kd.R_types HO1877.out BK1881.out (by decide)) (fun _ hk => hk.2) (.slice Ao41 t1866.length co41)) (fun _ hk => hk.2) (.int .i64 t1869)) (fun _ hk => hk.2) (.slice Ao43 t1870.length co43)) (fun _ hk => hk.2) (.int .i64 t1873)) (fun _ hk => hk.2) (.int .i64 t1874)) (fun _ hk => hk.2) (.slice Ao44 t1875.length co44)) (fun _ h_ => h_.1))))) (below_size (oB HB))); have n7_ := A_ (Kd.R_lower (Kd.R_new' ho3 (Kd.R_lt (by (with_reducible repeat (first | apply Kd.R_alloc | apply Kd.R_drewN | apply Kd.R_drew)); exact (Kd.R_mono (Kd.R_far (p := ⟨gb1881, 5, none⟩) (Kd.R_far (p := ⟨gb1881, 4, none⟩) (Kd.R_far (p := ⟨gb1881, 3, none⟩) (Kd.R_far (p := ⟨gb1881, 2, none⟩) (Kd.R_far (p := ⟨gb1881, 1, none⟩) (Kd.R_far (p := ⟨gb1881, 0, none⟩) (Kd.R_types HO1872.out BK1881.out (by decide)) (fun _ hk => hk.2) (.slice Ao41 t1866.length co41)) (fun _ hk => hk.2) (.int .i64 t1869)) (fun _ hk => hk.2) (.slice Ao43 t1870.length co43)) (fun _ hk => hk.2) (.int .i64 t1873)) (fun _ hk => hk.2) (.int .i64 t1874)) (fun _ hk => hk.2) (.slice Ao44 t1875.length co44)) (fun _ h_ => h_.1))))) (below_size (oB HB))); have n8_ := A_ (blk_below (g := gb1881) (o := .cells #[.slice Ao41 t1866.length co41, .int .i64 t1869, .slice Ao43 t1870.length co43, .int .i64 t1873, .int .i64 t1874, .slice Ao44 t1875.length co44] 37 (0, 0)) (by (with_reducible repeat (first | refine blk_drewN ?_ _ | refine blk_drew ?_ | refine blk_alloc ?_ _)); refine blk_put (cs := #[.slice Ao41 t1866.length co41, .int .i64 t1869, .slice Ao43 t1870.length co43, .int .i64 t1873, .int .i64 t1874, .slice none 0 0]) ?_ 5 _ rfl; (with_reducible repeat (first | refine blk_drewN ?_ _ | refine blk_drew ?_ | refine blk_alloc ?_ _)); refine blk_put (cs := #[.slice Ao41 t1866.length co41, .int .i64 t1869, .slice Ao43 t1870.length co43, .int .i64 t1873, .int .i64 0, .slice none 0 0]) ?_ 4 _ rfl; (with_reducible repeat (first | refine blk_drewN ?_ _ | refine blk_drew ?_ | refine blk_alloc ?_ _)); refine blk_put (cs := #[.slice Ao41 t1866.length co41, .int .i64 t1869, .slice Ao43 t1870.length co43, .int .i64 0, .int .i64 0, .slice none 0 0]) ?_ 3 _ rfl; (with_reducible repeat (first | refine blk_drewN ?_ _ | refine blk_drew ?_ | refine blk_alloc ?_ _)); refine blk_put (cs := #[.slice Ao41 t1866.length co41, .int .i64 t1869, .slice none 0 0, .int .i64 0, .int .i64 0, .slice none 0 0]) ?_ 2 _ rfl; (with_reducible repeat (first | refine blk_drewN ?_ _ | refine blk_drew ?_ | refine blk_alloc ?_ _)); refine blk_put (cs := #[.slice Ao41 t1866.length co41, .int .i64 0, .slice none 0 0, .int .i64 0, .int .i64 0, .slice none 0 0]) ?_ 1 _ rfl; (with_reducible repeat (first | refine blk_drewN ?_ _ | refine blk_drew ?_ | refine blk_alloc ?_ _)); refine blk_put (cs := #[.slice none 0 0, .int .i64 0, .slice none 0 0, .int .i64 0, .int .i64 0, .slice none 0 0]) ?_ 0 _ rfl; (with_reducible repeat (first | refine blk_drewN ?_ _ | refine blk_drew ?_ | refine blk_alloc ?_ _)); exact BK1881.out) hb); have n9_ := A_ (below_step (oB HB) hb); clear HO1868; clear HO1872; clear HO1877; clear HO1880; clear BK1881; clear HB; have HO1868 := n0_; have HO1872 := n1_; have HO1877 := n2_; have HO1880 := n3_; have HO1884 := n4_; have HO1888 := n5_; have HO1893 := n6_; have HO1896 := n7_; have BK1881 := n8_; have HB := n9_; clear n0_ n1_ n2_ n3_ n4_ n5_ n6_ n7_ n8_ n9_; (try clear hb); (try clear hb2); (try clear hk); (try clear hi); (try clear ho0); (try clear ho1); (try clear ho2); (try clear ho3)) | ((with_reducible refine gate_dst (N := 5) rfl ?_); refine bX (N := 5) (cs := #[.slice none 0 0, .int .i64 0, .slice none 0 0, .int .i64 0, .int .i64 0, .slice none 0 0]) (t := 37) ?_; intro gb1897 hg w47 hbox hb; have n0_ := A_ (Kd.R_below (oR HO1868) hb); have n1_ := A_ (Kd.R_below (oR HO1872) hb); have n2_ := A_ (Kd.R_below (oR HO1877) hb); have n3_ := A_ (Kd.R_below (oR HO1880) hb); have n4_ := A_ (Kd.R_below (oR HO1884) hb); have n5_ := A_ (Kd.R_below (oR HO1888) hb); have n6_ := A_ (Kd.R_below (oR HO1893) hb); have n7_ := A_ (Kd.R_below (oR HO1896) hb); have n8_ := A_ (bb BK1881 hb); have n9_ := A_ (below_step (oB HB) hb); have n10_ := A_ (hbox); have n11_ := A_ ((by rw [hg]; exact (below_size (oB HB)) : w.heap.size ≤ gb1897)); have n12_ := A_ ((by rw [hg]; exact (below_size (oB HB)) : w.heap.size ≤ gb1897)); have n13_ := A_ (nL BK1881 hg); have n14_ := A_ (nG BK1881 hg); clear HO1868; clear HO1872; clear HO1877; clear HO1880; clear HO1884; clear HO1888; clear HO1893; clear HO1896; clear BK1881; clear HB; have HO1868 := n0_; have HO1872 := n1_; have HO1877 := n2_; have HO1880 := n3_; have HO1884 := n4_; have HO1888 := n5_; have HO1893 := n6_; have HO1896 := n7_; have BK1881 := n8_; have HB := n9_; have BK1897 := n10_; have GW1897 := n11_; have GE1897 := n12_; have NB1881_1897 := n13_; have NB1897_1881 := n14_; clear n0_ n1_ n2_ n3_ n4_ n5_ n6_ n7_ n8_ n9_ n10_ n11_ n12_ n13_ n14_; clear hb hbox hg; obtain ⟨Ao48, co48, eo48⟩ := Kd.R_slice HO1884.out; subst eo48; have hnb49 := NB1897_1881.out; have hnc49 := NB1881_1897.out; have hcz50_0 := cz BK1897 0; have hcz50_1 := cz BK1897 1; have hcz50_2 := cz BK1897 2; have hcz50_3 := cz BK1897 3; have hcz50_4 := cz BK1897 4; have hcz50_5 := cz BK1897 5; have hfz50_0 := blk_frozen BK1897.out 0; have hfz50_1 := blk_frozen BK1897.out 1; have hfz50_2 := blk_frozen BK1897.out 2; have hfz50_3 := blk_frozen BK1897.out 3; have hfz50_4 := blk_frozen BK1897.out 4; have hfz50_5 := blk_frozen BK1897.out 5; obtain ⟨Ao51, co51, eo51⟩ := Kd.R_slice HO1888.out; subst eo51; obtain ⟨Ao52, co52, eo52⟩ := Kd.R_slice HO1893.out; subst eo52; have hcz53_0 := cz BK1881 0; have hcz53_1 := cz BK1881 1; have hcz53_2 := cz BK1881 2; have hcz53_3 := cz BK1881 3; have hcz53_4 := cz BK1881 4; have hcz53_5 := cz BK1881 5; have hfz53_0 := blk_frozen BK1881.out 0; have hfz53_1 := blk_frozen BK1881.out 1; have hfz53_2 := blk_frozen BK1881.out 2; have hfz53_3 := blk_frozen BK1881.out 3; have hfz53_4 := blk_frozen BK1881.out 4; have hfz53_5 := blk_frozen BK1881.out 5; obtain ⟨Ao54, co54, eo54⟩ := Kd.R_slice HO1896.out; subst eo54) | ((with_reducible refine gate_callee (f := 28) rfl ?_); refine gL (some 25) Tryz.func28 #[.agg #[.slice Ao41 t1866.length co41, .int .i64 t1869, .slice Ao43 t1870.length co43, .int .i64 t1873, .int .i64 t1874, .slice Ao44 t1875.length co44], .slice Ao45 t1878.length co45, .slice Ao54 t1894.length co54] ?_; (with_reducible refine (impl_IsReplay.calls k _ _ t1866 t1869 _ _ t1870 t1873 t1874 _ _ t1875 _ _ t1878 _ _ t1894 true _ ?side1 ?side2 ?side3 ?side4 ?side5 ?side6 ?side7 ?side8 ?side9 ?side10 A6.out).mono ?_); (case side1 => refine (Kd.R_reads' (e := 112) (base := w.heap.size) (ok := fun k_ => (True ∧ some k_ ≠ (.slice Ao48 t1882.length co48 : Value).ownBlock)) (n := t1866.length) (c := co41) ?_).2.2; exact (by (with_reducible repeat (first | apply Kd.R_alloc | apply Kd.R_drewN | apply Kd.R_drew)); exact (Kd.R_mono (Kd.R_far (p := ⟨gb1897, 5, none⟩) (Kd.R_far (p := ⟨gb1897, 4, none⟩) (Kd.R_far (p := ⟨gb1897, 3, none⟩) (Kd.R_far (p := ⟨gb1897, 2, none⟩) (Kd.R_far (p := ⟨gb1897, 1, none⟩) (Kd.R_far (p := ⟨gb1897, 0, none⟩) (Kd.R_types HO1868.out BK1897.out (by decide)) (fun _ hk => hk.2) (.slice Ao48 t1882.length co48)) (fun _ hk => hk.2) (.int .i64 t1885)) (fun _ hk => hk.2) (.slice Ao51 t1886.length co51)) (fun _ hk => hk.2) (.int .i64 t1889)) (fun _ hk => hk.2) (.int .i64 t1890)) (fun _ hk => hk.2) (.slice Ao52 t1891.length co52)) (fun _ h_ => h_.1)))); (case side2 => exact (Kd.R_reads' HO1868.out).2.1); (case side3 => refine (Kd.R_reads' (e := 3) (base := w.heap.size) (ok := fun k_ => ((True ∧ some k_ ≠ (.slice Ao51 t1886.length co51 : Value).ownBlock) ∧ some k_ ≠ (.slice Ao54 t1894.length co54 : Value).ownBlock)) (n := t1870.length) (c := co43) ?_).2.2; exact (by (with_reducible repeat (first | apply Kd.R_alloc | apply Kd.R_drewN | apply Kd.R_drew)); exact (Kd.R_mono (Kd.R_far (p := ⟨gb1897, 5, none⟩) (Kd.R_far (p := ⟨gb1897, 4, none⟩) (Kd.R_far (p := ⟨gb1897, 3, none⟩) (Kd.R_far (p := ⟨gb1897, 2, none⟩) (Kd.R_far (p := ⟨gb1897, 1, none⟩) (Kd.R_far (p := ⟨gb1897, 0, none⟩) (Kd.R_types HO1872.out BK1897.out (by decide)) (fun _ hk => hk.2) (.slice Ao48 t1882.length co48)) (fun _ hk => hk.2) (.int .i64 t1885)) (fun _ hk => hk.2) (.slice Ao51 t1886.length co51)) (fun _ hk => hk.2) (.int .i64 t1889)) (fun _ hk => hk.2) (.int .i64 t1890)) (fun _ hk => hk.2) (.slice Ao52 t1891.length co52)) (fun _ h_ => h_.1)))); (case side4 => exact (Kd.R_reads' HO1872.out).2.1); (case side5 => refine (Kd.R_reads' (e := 104) (base := w.heap.size) (ok := fun k_ => (True ∧ some k_ ≠ (.slice Ao52 t1891.length co52 : Value).ownBlock)) (n := t1875.length) (c := co44) ?_).2.2; exact (by (with_reducible repeat (first | apply Kd.R_alloc | apply Kd.R_drewN | apply Kd.R_drew)); exact (Kd.R_mono (Kd.R_far (p := ⟨gb1897, 5, none⟩) (Kd.R_far (p := ⟨gb1897, 4, none⟩) (Kd.R_far (p := ⟨gb1897, 3, none⟩) (Kd.R_far (p := ⟨gb1897, 2, none⟩) (Kd.R_far (p := ⟨gb1897, 1, none⟩) (Kd.R_far (p := ⟨gb1897, 0, none⟩) (Kd.R_types HO1877.out BK1897.out (by decide)) (fun _ hk => hk.2) (.slice Ao48 t1882.length co48)) (fun _ hk => hk.2) (.int .i64 t1885)) (fun _ hk => hk.2) (.slice Ao51 t1886.length co51)) (fun _ hk => hk.2) (.int .i64 t1889)) (fun _ hk => hk.2) (.int .i64 t1890)) (fun _ hk => hk.2) (.slice Ao52 t1891.length co52)) (fun _ h_ => h_.1)))); (case side6 => exact (Kd.R_reads' HO1877.out).2.1); (case side7 => refine (Kd.R_reads' (e := 41) (base := w.heap.size) (ok := fun k_ => True) (n := t1878.length) (c := co45) ?_).2.2; exact (by (with_reducible repeat (first | apply Kd.R_alloc | apply Kd.R_drewN | apply Kd.R_drew)); exact (Kd.R_mono (Kd.R_far (p := ⟨gb1897, 5, none⟩) (Kd.R_far (p := ⟨gb1897, 4, none⟩) (Kd.R_far (p := ⟨gb1897, 3, none⟩) (Kd.R_far (p := ⟨gb1897, 2, none⟩) (Kd.R_far (p := ⟨gb1897, 1, none⟩) (Kd.R_far (p := ⟨gb1897, 0, none⟩) (Kd.R_types HO1880.out BK1897.out (by decide)) (fun _ hk => hk.2) (.slice Ao48 t1882.length co48)) (fun _ hk => hk.2) (.int .i64 t1885)) (fun _ hk => hk.2) (.slice Ao51 t1886.length co51)) (fun _ hk => hk.2) (.int .i64 t1889)) (fun _ hk => hk.2) (.int .i64 t1890)) (fun _ hk => hk.2) (.slice Ao52 t1891.length co52)) (fun _ h_ => h_.1)))); (case side8 => exact (Kd.R_reads' HO1880.out).2.1); (case side9 => refine (Kd.R_reads' (e := 3) (base := w.heap.size) (ok := fun k_ => (some k_ ≠ (.slice Ao51 t1886.length co51 : Value).ownBlock ∧ some k_ ≠ (.slice Ao43 t1870.length co43 : Value).ownBlock)) (n := t1894.length) (c := co54) ?_).2.2; exact (by (with_reducible repeat (first | apply Kd.R_alloc | apply Kd.R_drewN | apply Kd.R_drew)); exact (Kd.R_mono (Kd.R_far (p := ⟨gb1897, 5, none⟩) (Kd.R_far (p := ⟨gb1897, 4, none⟩) (Kd.R_far (p := ⟨gb1897, 3, none⟩) (Kd.R_far (p := ⟨gb1897, 2, none⟩) (Kd.R_far (p := ⟨gb1897, 1, none⟩) (Kd.R_far (p := ⟨gb1897, 0, none⟩) (Kd.R_types HO1896.out BK1897.out (by decide)) (fun _ hk => hk.2) (.slice Ao48 t1882.length co48)) (fun _ hk => hk.2) (.int .i64 t1885)) (fun _ hk => hk.2) (.slice Ao51 t1886.length co51)) (fun _ hk => hk.2) (.int .i64 t1889)) (fun _ hk => hk.2) (.int .i64 t1890)) (fun _ hk => hk.2) (.slice Ao52 t1891.length co52)) (fun _ h_ => h_.1)))); (case side10 => exact (Kd.R_reads' HO1896.out).2.1); rintro e w55 ⟨rfl, hb⟩; refine ⟨_, rfl, ?_⟩; have n0_ := A_ (Kd.R_below (by (with_reducible repeat (first | apply Kd.R_alloc | apply Kd.R_drewN | apply Kd.R_drew)); exact (Kd.R_mono (Kd.R_far (p := ⟨gb1897, 5, none⟩) (Kd.R_far (p := ⟨gb1897, 4, none⟩) (Kd.R_far (p := ⟨gb1897, 3, none⟩) (Kd.R_far (p := ⟨gb1897, 2, none⟩) (Kd.R_far (p := ⟨gb1897, 1, none⟩) (Kd.R_far (p := ⟨gb1897, 0, none⟩) (Kd.R_types HO1868.out BK1897.out (by decide)) (fun _ hk => hk.2) (.slice Ao48 t1882.length co48)) (fun _ hk => hk.2) (.int .i64 t1885)) (fun _ hk => hk.2) (.slice Ao51 t1886.length co51)) (fun _ hk => hk.2) (.int .i64 t1889)) (fun _ hk => hk.2) (.int .i64 t1890)) (fun _ hk => hk.2) (.slice Ao52 t1891.length co52)) (fun _ h_ => h_.1))) hb); have n1_ := A_ (Kd.R_below (by (with_reducible repeat (first | apply Kd.R_alloc | apply Kd.R_drewN | apply Kd.R_drew)); exact (Kd.R_mono (Kd.R_far (p := ⟨gb1897, 5, none⟩) (Kd.R_far (p := ⟨gb1897, 4, none⟩) (Kd.R_far (p := ⟨gb1897, 3, none⟩) (Kd.R_far (p := ⟨gb1897, 2, none⟩) (Kd.R_far (p := ⟨gb1897, 1, none⟩) (Kd.R_far (p := ⟨gb1897, 0, none⟩) (Kd.R_types HO1872.out BK1897.out (by decide)) (fun _ hk => hk.2) (.slice Ao48 t1882.length co48)) (fun _ hk => hk.2) (.int .i64 t1885)) (fun _ hk => hk.2) (.slice Ao51 t1886.length co51)) (fun _ hk => hk.2) (.int .i64 t1889)) (fun _ hk => hk.2) (.int .i64 t1890)) (fun _ hk => hk.2) (.slice Ao52 t1891.length co52)) (fun _ h_ => h_.1))) hb); have n2_ := A_ (Kd.R_below (by (with_reducible repeat (first | apply Kd.R_alloc | apply Kd.R_drewN | apply Kd.R_drew)); exact (Kd.R_mono (Kd.R_far (p := ⟨gb1897, 5, none⟩) (Kd.R_far (p := ⟨gb1897, 4, none⟩) (Kd.R_far (p := ⟨gb1897, 3, none⟩) (Kd.R_far (p := ⟨gb1897, 2, none⟩) (Kd.R_far (p := ⟨gb1897, 1, none⟩) (Kd.R_far (p := ⟨gb1897, 0, none⟩) (Kd.R_types HO1877.out BK1897.out (by decide)) (fun _ hk => hk.2) (.slice Ao48 t1882.length co48)) (fun _ hk => hk.2) (.int .i64 t1885)) (fun _ hk => hk.2) (.slice Ao51 t1886.length co51)) (fun _ hk => hk.2) (.int .i64 t1889)) (fun _ hk => hk.2) (.int .i64 t1890)) (fun _ hk => hk.2) (.slice Ao52 t1891.length co52)) (fun _ h_ => h_.1))) hb); have n3_ := A_ (Kd.R_below (by (with_reducible repeat (first | apply Kd.R_alloc | apply Kd.R_drewN | apply Kd.R_drew)); exact (Kd.R_mono (Kd.R_far (p := ⟨gb1897, 5, none⟩) (Kd.R_far (p := ⟨gb1897, 4, none⟩) (Kd.R_far (p := ⟨gb1897, 3, none⟩) (Kd.R_far (p := ⟨gb1897, 2, none⟩) (Kd.R_far (p := ⟨gb1897, 1, none⟩) (Kd.R_far (p := ⟨gb1897, 0, none⟩) (Kd.R_types HO1880.out BK1897.out (by decide)) (fun _ hk => hk.2) (.slice Ao48 t1882.length co48)) (fun _ hk => hk.2) (.int .i64 t1885)) (fun _ hk => hk.2) (.slice Ao51 t1886.length co51)) (fun _ hk => hk.2) (.int .i64 t1889)) (fun _ hk => hk.2) (.int .i64 t1890)) (fun _ hk => hk.2) (.slice Ao52 t1891.length co52)) (fun _ h_ => h_.1))) hb); have n4_ := A_ (Kd.R_below (by (with_reducible repeat (first | apply Kd.R_alloc | apply Kd.R_drewN | apply Kd.R_drew)); exact (Kd.R_mono (Kd.R_far (p := ⟨gb1897, 5, none⟩) (Kd.R_far (p := ⟨gb1897, 4, none⟩) (Kd.R_far (p := ⟨gb1897, 3, none⟩) (Kd.R_far (p := ⟨gb1897, 2, none⟩) (Kd.R_far (p := ⟨gb1897, 1, none⟩) (Kd.R_far (p := ⟨gb1897, 0, none⟩) (Kd.R_types HO1884.out BK1897.out (by decide)) (fun _ hk => hk.2) (.slice Ao48 t1882.length co48)) (fun _ hk => hk.2) (.int .i64 t1885)) (fun _ hk => hk.2) (.slice Ao51 t1886.length co51)) (fun _ hk => hk.2) (.int .i64 t1889)) (fun _ hk => hk.2) (.int .i64 t1890)) (fun _ hk => hk.2) (.slice Ao52 t1891.length co52)) (fun _ h_ => h_.1))) hb); have n5_ := A_ (Kd.R_below (by (with_reducible repeat (first | apply Kd.R_alloc | apply Kd.R_drewN | apply Kd.R_drew)); exact (Kd.R_mono (Kd.R_far (p := ⟨gb1897, 5, none⟩) (Kd.R_far (p := ⟨gb1897, 4, none⟩) (Kd.R_far (p := ⟨gb1897, 3, none⟩) (Kd.R_far (p := ⟨gb1897, 2, none⟩) (Kd.R_far (p := ⟨gb1897, 1, none⟩) (Kd.R_far (p := ⟨gb1897, 0, none⟩) (Kd.R_types HO1888.out BK1897.out (by decide)) (fun _ hk => hk.2) (.slice Ao48 t1882.length co48)) (fun _ hk => hk.2) (.int .i64 t1885)) (fun _ hk => hk.2) (.slice Ao51 t1886.length co51)) (fun _ hk => hk.2) (.int .i64 t1889)) (fun _ hk => hk.2) (.int .i64 t1890)) (fun _ hk => hk.2) (.slice Ao52 t1891.length co52)) (fun _ h_ => h_.1))) hb); have n6_ := A_ (Kd.R_below (by (with_reducible repeat (first | apply Kd.R_alloc | apply Kd.R_drewN | apply Kd.R_drew)); exact (Kd.R_mono (Kd.R_far (p := ⟨gb1897, 5, none⟩) (Kd.R_far (p := ⟨gb1897, 4, none⟩) (Kd.R_far (p := ⟨gb1897, 3, none⟩) (Kd.R_far (p := ⟨gb1897, 2, none⟩) (Kd.R_far (p := ⟨gb1897, 1, none⟩) (Kd.R_far (p := ⟨gb1897, 0, none⟩) (Kd.R_types HO1893.out BK1897.out (by decide)) (fun _ hk => hk.2) (.slice Ao48 t1882.length co48)) (fun _ hk => hk.2) (.int .i64 t1885)) (fun _ hk => hk.2) (.slice Ao51 t1886.length co51)) (fun _ hk => hk.2) (.int .i64 t1889)) (fun _ hk => hk.2) (.int .i64 t1890)) (fun _ hk => hk.2) (.slice Ao52 t1891.length co52)) (fun _ h_ => h_.1))) hb); have n7_ := A_ (Kd.R_below (by (with_reducible repeat (first | apply Kd.R_alloc | apply Kd.R_drewN | apply Kd.R_drew)); exact (Kd.R_mono (Kd.R_far (p := ⟨gb1897, 5, none⟩) (Kd.R_far (p := ⟨gb1897, 4, none⟩) (Kd.R_far (p := ⟨gb1897, 3, none⟩) (Kd.R_far (p := ⟨gb1897, 2, none⟩) (Kd.R_far (p := ⟨gb1897, 1, none⟩) (Kd.R_far (p := ⟨gb1897, 0, none⟩) (Kd.R_types HO1896.out BK1897.out (by decide)) (fun _ hk => hk.2) (.slice Ao48 t1882.length co48)) (fun _ hk => hk.2) (.int .i64 t1885)) (fun _ hk => hk.2) (.slice Ao51 t1886.length co51)) (fun _ hk => hk.2) (.int .i64 t1889)) (fun _ hk => hk.2) (.int .i64 t1890)) (fun _ hk => hk.2) (.slice Ao52 t1891.length co52)) (fun _ h_ => h_.1))) hb); have n8_ := A_ (blk_below (g := gb1881) (o := .cells #[.slice Ao41 t1866.length co41, .int .i64 t1869, .slice Ao43 t1870.length co43, .int .i64 t1873, .int .i64 t1874, .slice Ao44 t1875.length co44] 37 (0, 0)) (by (with_reducible repeat (first | refine blk_drewN ?_ _ | refine blk_drew ?_ | refine blk_alloc ?_ _)); refine blk_far ?_ NB1881_1897.out _; (with_reducible repeat (first | refine blk_drewN ?_ _ | refine blk_drew ?_ | refine blk_alloc ?_ _)); refine blk_far ?_ NB1881_1897.out _; (with_reducible repeat (first | refine blk_drewN ?_ _ | refine blk_drew ?_ | refine blk_alloc ?_ _)); refine blk_far ?_ NB1881_1897.out _; (with_reducible repeat (first | refine blk_drewN ?_ _ | refine blk_drew ?_ | refine blk_alloc ?_ _)); refine blk_far ?_ NB1881_1897.out _; (with_reducible repeat (first | refine blk_drewN ?_ _ | refine blk_drew ?_ | refine blk_alloc ?_ _)); refine blk_far ?_ NB1881_1897.out _; (with_reducible repeat (first | refine blk_drewN ?_ _ | refine blk_drew ?_ | refine blk_alloc ?_ _)); refine blk_far ?_ NB1881_1897.out _; (with_reducible repeat (first | refine blk_drewN ?_ _ | refine blk_drew ?_ | refine blk_alloc ?_ _)); exact BK1881.out) hb); have n9_ := A_ (blk_below (g := gb1897) (o := .cells #[.slice Ao48 t1882.length co48, .int .i64 t1885, .slice Ao51 t1886.length co51, .int .i64 t1889, .int .i64 t1890, .slice Ao52 t1891.length co52] 37 (0, 0)) (by (with_reducible repeat (first | refine blk_drewN ?_ _ | refine blk_drew ?_ | refine blk_alloc ?_ _)); refine blk_put (cs := #[.slice Ao48 t1882.length co48, .int .i64 t1885, .slice Ao51 t1886.length co51, .int .i64 t1889, .int .i64 t1890, .slice none 0 0]) ?_ 5 _ rfl; (with_reducible repeat (first | refine blk_drewN ?_ _ | refine blk_drew ?_ | refine blk_alloc ?_ _)); refine blk_put (cs := #[.slice Ao48 t1882.length co48, .int .i64 t1885, .slice Ao51 t1886.length co51, .int .i64 t1889, .int .i64 0, .slice none 0 0]) ?_ 4 _ rfl; (with_reducible repeat (first | refine blk_drewN ?_ _ | refine blk_drew ?_ | refine blk_alloc ?_ _)); refine blk_put (cs := #[.slice Ao48 t1882.length co48, .int .i64 t1885, .slice Ao51 t1886.length co51, .int .i64 0, .int .i64 0, .slice none 0 0]) ?_ 3 _ rfl; (with_reducible repeat (first | refine blk_drewN ?_ _ | refine blk_drew ?_ | refine blk_alloc ?_ _)); refine blk_put (cs := #[.slice Ao48 t1882.length co48, .int .i64 t1885, .slice none 0 0, .int .i64 0, .int .i64 0, .slice none 0 0]) ?_ 2 _ rfl; (with_reducible repeat (first | refine blk_drewN ?_ _ | refine blk_drew ?_ | refine blk_alloc ?_ _)); refine blk_put (cs := #[.slice Ao48 t1882.length co48, .int .i64 0, .slice none 0 0, .int .i64 0, .int .i64 0, .slice none 0 0]) ?_ 1 _ rfl; (with_reducible repeat (first | refine blk_drewN ?_ _ | refine blk_drew ?_ | refine blk_alloc ?_ _)); refine blk_put (cs := #[.slice none 0 0, .int .i64 0, .slice none 0 0, .int .i64 0, .int .i64 0, .slice none 0 0]) ?_ 0 _ rfl; (with_reducible repeat (first | refine blk_drewN ?_ _ | refine blk_drew ?_ | refine blk_alloc ?_ _)); exact BK1897.out) hb); have n10_ := A_ (below_step (oB HB) hb); clear HO1868; clear HO1872; clear HO1877; clear HO1880; clear HO1884; clear HO1888; clear HO1893; clear HO1896; clear BK1881; clear BK1897; clear HB; have HO1868 := n0_; have HO1872 := n1_; have HO1877 := n2_; have HO1880 := n3_; have HO1884 := n4_; have HO1888 := n5_; have HO1893 := n6_; have HO1896 := n7_; have BK1881 := n8_; have BK1897 := n9_; have HB := n10_; clear n0_ n1_ n2_ n3_ n4_ n5_ n6_ n7_ n8_ n9_ n10_; (try clear hb); (try clear hb2); (try clear hk); (try clear hi)) | ((with_reducible refine gate_callee (f := 31) rfl ?_); refine gL (some 36) Tryz.func31 #[.slice A0 l0.length c0] ?_; (with_reducible refine (spec_DrawPlaces.calls k _ _ l0 t1903 _ ?side1 ?side2 A32.out).mono ?_); (case side1 => exact oc_ HR0.out); (case side2 => exact HC0.out); rintro e w56 ⟨v1904, rfl, ho0, hb⟩; refine ⟨_, rfl, ?_⟩; have n0_ := A_ (Kd.R_below (oR HO1868) hb); have n1_ := A_ (Kd.R_elder' (oR HO1872) (Kd.R_base ho0) hb); have n2_ := A_ (Kd.R_below (oR HO1877) hb); have n3_ := A_ (Kd.R_below (oR HO1880) hb); have n4_ := A_ (Kd.R_below (oR HO1884) hb); have n5_ := A_ (Kd.R_elder' (oR HO1888) (Kd.R_base ho0) hb); have n6_ := A_ (Kd.R_below (oR HO1893) hb); have n7_ := A_ (Kd.R_elder' (oR HO1896) (Kd.R_base ho0) hb); have n8_ := A_ (Kd.R_lower (Kd.R_new' (Kd.R_new' (Kd.R_new' ho0 (Kd.R_lt (oR HO1872))) (Kd.R_lt (oR HO1888))) (Kd.R_lt (oR HO1896))) (below_size (oB HB))); have n9_ := A_ (bb BK1881 hb); have n10_ := A_ (bb BK1897 hb); have n11_ := A_ (below_step (oB HB) hb); clear HO1868; clear HO1872; clear HO1877; clear HO1880; clear HO1884; clear HO1888; clear HO1893; clear HO1896; clear BK1881; clear BK1897; clear HB; have HO1868 := n0_; have HO1872 := n1_; have HO1877 := n2_; have HO1880 := n3_; have HO1884 := n4_; have HO1888 := n5_; have HO1893 := n6_; have HO1896 := n7_; have HO1905 := n8_; have BK1881 := n9_; have BK1897 := n10_; have HB := n11_; clear n0_ n1_ n2_ n3_ n4_ n5_ n6_ n7_ n8_ n9_ n10_ n11_; (try clear hb); (try clear hb2); (try clear hk); (try clear hi); (try clear ho0); obtain ⟨Ao57, co57, eo57⟩ := Kd.R_slice HO1905.out; subst eo57; have p1906 : 0 ≤ (0 : Int) := (by omega); have q1906 : 0 < (t1903.length : Int) := oD; obtain ⟨ad1906, e1906, hx1906_0⟩ := Kd.at_int (Kd.R_reads' HO1905.out).2.2 0 p1906 q1906; cases e1906; have qi1906 : (0 < t1903.length) = True := eq_true (by omega); (try rw [show ((0 : Int)).toNat = 0 from rfl] at hx1906_0); (try rw [Addr.add_zero'] at hx1906_0); replace p1906 := eq_true p1906; replace q1906 := eq_true q1906; have p1907 : 0 ≤ ((ji34) : Int) := oD; have q1907 : (ji34) < (t1894.length : Int) := oD; obtain ⟨ad1907, e1907, hx1907_0⟩ := Kd.at_int (Kd.R_reads' HO1896.out).2.2 (ji34) p1907 q1907; cases e1907; replace p1907 := eq_true p1907; replace q1907 := eq_true q1907; have p37 : 0 ≤ ((ji34) : Int) := oD; have q37 : ((ji34) : Int) < ((t1894.length : Int) : Int) := oD; obtain ⟨go37, co37, eo37, gb37, gl37, cl37, HG37⟩ := Kd.R_form HO1896.out (by omega); (first | cases eo37 | (injection eo37 with ea_ en_ ec_; (first | subst ea_ | (injection ea_ with ea_; subst ea_)); subst ec_; clear en_)); have GB37 := A_ gb37; have GG37 := A_ HG37; clear gb37 gl37 HG37; (first | simp only [add_plain] at hx1907_0 | skip); obtain ⟨hx37_0, hf37_0⟩ := Kd.R_celln 0 HO1896.out ((ji34) : Int) p37 q37; replace p37 := eq_true p37; replace q37 := eq_true q37; have n_ := A_ (Kd.R_mono (ok' := (fun k_ => some k_ ≠ (.slice Ao43 t1870.length co43 : Value).ownBlock ∧ some k_ ≠ (.slice Ao51 t1886.length co51 : Value).ownBlock ∧ some k_ ≠ (.slice (some ad1906) t1903.length co57 : Value).ownBlock)) HO1896.out (fun k_ hk => ⟨hk.1.2, ⟨hk.1.1, hk.2⟩⟩)); clear HO1896; have HO1896 := n_; clear n_; obtain ⟨hy58_, hz58_⟩ := Kd.R_celln 0 HO1896.out ((ji34) : Int) (oD) (oD); have HP58 := Kd.R_putg HO1896.out ((ji34) : Int) (wrap64 ((rd t1894 (ji34)) + 1))) | ((with_reducible refine gate_store (t := 3) (p := 50) rfl ?_); refine store_event (t := 3) (p := 50) (v := ?vo_w59) (w1 := (w56.setCell ⟨go37, ((ji34) : Int).toNat, none⟩ (.int .i64 (wrap64 ((rd t1894 (ji34)) + 1))))) ?hg ?ho ?hn ?hr ?_; (case ho => rfl); (case hg => rfl); (case hn => rfl); (case hr => first | (go_simp; done) | (go_simp; rfl)); intro w59 hw; have hg : w56.grownBy w59 (some go37) := (by rw [hw]; exact HP58.2); have hp_ : Kd.R (Kd.int .i64) 3 w59 w.heap.size (fun k_ => some k_ ≠ (.slice Ao43 t1870.length co43 : Value).ownBlock ∧ some k_ ≠ (.slice Ao51 t1886.length co51 : Value).ownBlock ∧ some k_ ≠ (.slice (some ad1906) t1903.length co57 : Value).ownBlock) (.slice (some ⟨go37, 0, none⟩) t1894.length co54) y1908 := (by rw [hw, Ny1908.out]; exact HP58.1); clear HP58; have n0_ := A_ (Kd.R_over' (v := (.slice (some ⟨go37, 0, none⟩) t1894.length co54)) (oR HO1868) (Kd.R_typed HO1896.out) (by decide) hg); have n1_ := A_ (Kd.R_after (v := (.slice (some ⟨go37, 0, none⟩) t1894.length co54)) (v1 := (.slice (some ⟨go37, 0, none⟩) t1894.length co54)) (ok := (fun k_ => some k_ ≠ (.slice Ao51 t1886.length co51 : Value).ownBlock ∧ some k_ ≠ (.slice (some ad1906) t1903.length co57 : Value).ownBlock)) (by (with_reducible repeat (first | apply Kd.R_alloc | apply Kd.R_drewN | apply Kd.R_drew)); exact Kd.R_mono HO1872.out (fun _ hk => ⟨⟨hk.1.1.2, hk.2⟩, hk.1.2⟩)) hg (.inl rfl)); have n2_ := A_ (Kd.R_over' (v := (.slice (some ⟨go37, 0, none⟩) t1894.length co54)) (oR HO1877) (Kd.R_typed HO1896.out) (by decide) hg); have n3_ := A_ (Kd.R_over' (v := (.slice (some ⟨go37, 0, none⟩) t1894.length co54)) (oR HO1880) (Kd.R_typed HO1896.out) (by decide) hg); have n4_ := A_ (bg BK1881 hg (Kd.R_ne HO1896.out BK1881.out (by decide))); have n5_ := A_ (Kd.R_over' (v := (.slice (some ⟨go37, 0, none⟩) t1894.length co54)) (oR HO1884) (Kd.R_typed HO1896.out) (by decide) hg); have n6_ := A_ (Kd.R_after (v := (.slice (some ⟨go37, 0, none⟩) t1894.length co54)) (v1 := (.slice (some ⟨go37, 0, none⟩) t1894.length co54)) (ok := (fun k_ => some k_ ≠ (.slice Ao43 t1870.length co43 : Value).ownBlock ∧ some k_ ≠ (.slice (some ad1906) t1903.length co57 : Value).ownBlock)) (by (with_reducible repeat (first | apply Kd.R_alloc | apply Kd.R_drewN | apply Kd.R_drew)); exact Kd.R_mono HO1888.out (fun _ hk => ⟨⟨hk.1.2, hk.2⟩, hk.1.1⟩)) hg (.inl rfl)); have n7_ := A_ (Kd.R_over' (v := (.slice (some ⟨go37, 0, none⟩) t1894.length co54)) (oR HO1893) (Kd.R_typed HO1896.out) (by decide) hg); have n8_ := A_ (hp_); have n9_ := A_ (bg BK1897 hg (Kd.R_ne HO1896.out BK1897.out (by decide))); have n10_ := A_ (Kd.R_after (v := (.slice (some ⟨go37, 0, none⟩) t1894.length co54)) (v1 := (.slice (some ⟨go37, 0, none⟩) t1894.length co54)) (ok := (fun k_ => some k_ ≠ (.slice Ao43 t1870.length co43 : Value).ownBlock ∧ some k_ ≠ (.slice Ao51 t1886.length co51 : Value).ownBlock)) (by (with_reducible repeat (first | apply Kd.R_alloc | apply Kd.R_drewN | apply Kd.R_drew)); exact Kd.R_mono HO1905.out (fun _ hk => ⟨⟨hk.1.1.2, hk.1.2⟩, hk.2⟩)) hg (.inl rfl)); have n11_ := A_ ((by rw [hw]; exact below_set (HB.out) GB37.out : Below w.heap.size w w59)); clear HO1868; clear HO1872; clear HO1877; clear HO1880; clear BK1881; clear HO1884; clear HO1888; clear HO1893; clear HO1896; clear BK1897; clear HO1905; clear HB; have HO1868 := n0_; have HO1872 := n1_; have HO1877 := n2_; have HO1880 := n3_; have BK1881 := n4_; have HO1884 := n5_; have HO1888 := n6_; have HO1893 := n7_; have HO1896 := n8_; have BK1897 := n9_; have HO1905 := n10_; have HB := n11_; clear n0_ n1_ n2_ n3_ n4_ n5_ n6_ n7_ n8_ n9_ n10_ n11_; clear hg hw hp_; have hcz60_0 := cz BK1881 0; have hcz60_1 := cz BK1881 1; have hcz60_2 := cz BK1881 2; have hcz60_3 := cz BK1881 3; have hcz60_4 := cz BK1881 4; have hcz60_5 := cz BK1881 5; have hfz60_0 := blk_frozen BK1881.out 0; have hfz60_1 := blk_frozen BK1881.out 1; have hfz60_2 := blk_frozen BK1881.out 2; have hfz60_3 := blk_frozen BK1881.out 3; have hfz60_4 := blk_frozen BK1881.out 4; have hfz60_5 := blk_frozen BK1881.out 5) | ((with_reducible refine gate_callee (f := 28) rfl ?_); refine goesL_ (some 54) rfl rfl Tryz.func28 (by kernel_rfl) rfl #[.agg #[.slice Ao41 t1866.length co41, .int .i64 t1869, .slice Ao43 t1870.length co43, .int .i64 t1873, .int .i64 t1874, .slice Ao44 t1875.length co44], .slice Ao45 t1878.length co45, .slice (some ⟨go37, 0, none⟩) y1908.length co54] rfl (by (try simp only [List.map_toArray, List.map_cons, List.map_nil]); first | done | (rw [show y1908.length = t1894.length from (Kd.R_reads' HO1896.out).1.symm] <;> rfl) | rfl | (simp only [List.length_drop, List.length_take]; rfl)) ?_; (with_reducible refine (impl_IsReplay.calls k _ _ t1866 t1869 _ _ t1870 t1873 t1874 _ _ t1875 _ _ t1878 _ _ y1908 t1909 _ ?side1 ?side2 ?side3 ?side4 ?side5 ?side6 ?side7 ?side8 ?side9 ?side10 A38.out).mono ?_); (case side1 => repeat (first | exact (Kd.R_reads' HO1868.out).2.2 | (with_reducible refine Kd.C_alloc ?_ _) | (with_reducible refine Kd.C_drewN ?_ _) | (with_reducible refine Kd.C_drew ?_))); (case side2 => exact (Kd.R_reads' HO1868.out).2.1); (case side3 => repeat (first | exact (Kd.R_reads' HO1872.out).2.2 | (with_reducible refine Kd.C_alloc ?_ _) | (with_reducible refine Kd.C_drewN ?_ _) | (with_reducible refine Kd.C_drew ?_))); (case side4 => exact (Kd.R_reads' HO1872.out).2.1); (case side5 => repeat (first | exact (Kd.R_reads' HO1877.out).2.2 | (with_reducible refine Kd.C_alloc ?_ _) | (with_reducible refine Kd.C_drewN ?_ _) | (with_reducible refine Kd.C_drew ?_))); (case side6 => exact (Kd.R_reads' HO1877.out).2.1); (case side7 => repeat (first | exact (Kd.R_reads' HO1880.out).2.2 | (with_reducible refine Kd.C_alloc ?_ _) | (with_reducible refine Kd.C_drewN ?_ _) | (with_reducible refine Kd.C_drew ?_))); (case side8 => exact (Kd.R_reads' HO1880.out).2.1); (case side9 => repeat (first | exact (Kd.R_reads' HO1896.out).2.2 | (with_reducible refine Kd.C_alloc ?_ _) | (with_reducible refine Kd.C_drewN ?_ _) | (with_reducible refine Kd.C_drew ?_))); (case side10 => rw [show y1908.length = t1894.length from (Kd.R_reads' HO1896.out).1.symm]; exact (Kd.R_reads' HO1896.out).2.1); rintro e w61 ⟨rfl, hb⟩; refine ⟨_, rfl, ?_⟩; have n0_ := A_ (Kd.R_below (oR HO1868) hb); have n1_ := A_ (Kd.R_below (oR HO1872) hb); have n2_ := A_ (Kd.R_below (oR HO1877) hb); have n3_ := A_ (Kd.R_below (oR HO1880) hb); have n4_ := A_ (Kd.R_below (oR HO1884) hb); have n5_ := A_ (Kd.R_below (oR HO1888) hb); have n6_ := A_ (Kd.R_below (oR HO1893) hb); have n7_ := A_ (Kd.R_below (oR HO1896) hb); have n8_ := A_ (Kd.R_below (oR HO1905) hb); have n9_ := A_ (bb BK1881 hb); have n10_ := A_ (bb BK1897 hb); have n11_ := A_ (below_step (oB HB) hb); clear HO1868; clear HO1872; clear HO1877; clear HO1880; clear HO1884; clear HO1888; clear HO1893; clear HO1896; clear HO1905; clear BK1881; clear BK1897; clear HB; have HO1868 := n0_; have HO1872 := n1_; have HO1877 := n2_; have HO1880 := n3_; have HO1884 := n4_; have HO1888 := n5_; have HO1893 := n6_; have HO1896 := n7_; have HO1905 := n8_; have BK1881 := n9_; have BK1897 := n10_; have HB := n11_; clear n0_ n1_ n2_ n3_ n4_ n5_ n6_ n7_ n8_ n9_ n10_ n11_; (try clear hb); (try clear hb2); (try clear hk); (try clear hi)))
       go_ret
       exact ⟨by first | rfl | (simp [errW_none, errW_some] <;> rfl) | (simp only [← hji34]; first | rfl | (simp [errW_none, errW_some] <;> rfl)) | (simp [*, errW_none, errW_some] <;> rfl), oB HB⟩
      ·rw [if_neg c36] at H
       exact absurd H (by simp)
     ·rw [if_neg c35] at H
      exact absurd H (by simp)
    ·rw [if_neg c33] at H
     exact absurd H (by simp)
  ·replace c7 := Bool.eq_false_iff.mpr c7
   subst c7
   rw [if_neg (show ¬ (false = true) by decide)] at H
   exact absurd ((Option.some.inj H).trans hrt_.out) (by decide)
def laws_FnReplays.Pure : Prop := ∀ (l0 : List Int), l0.length ≤ maxLen → l0.length * 1 ≤ 140737488351232 → (∀ x ∈ l0, (Lit.int .u8 x).wf = true) → ∃ k, laws_FnReplays.f k l0 = some true
theorem laws_FnReplays.walk (P : laws_FnReplays.Pure) (a0 : Option Addr) (len0 cap0 : Nat) (z0 : List Int) (w : World) (w0 : (a0 = none ∧ len0 = 0 ∧ cap0 = 0 ∧ z0 = []) ∨ ∃ x, a0 = some x ∧ len0 ≤ cap0 ∧ cap0 ≤ maxLen ∧ z0.length = cap0 ∧ (∀ i, i < z0.length → w.cell? (x.add i) = some (.int .u8 (z0.getD i 0))) ∧ ∀ n ∈ z0, (Lit.int .u8 n).wf = true) (y0 : len0 * 1 ≤ 140737488351232) :
  Calls Tryz.prog 6 #[.slice a0 len0 cap0] w fun e w' => e = .returned (.bool true) ∧ Below w.heap.size w w' := by
 obtain ⟨l0, rfl, hr0, hm0, hw0, hc0⟩ := ReadsInt.ofRowC w0
 obtain ⟨k, h⟩ := P l0 hm0 y0 hw0
 refine (laws_FnReplays.calls k _ _ l0 true w (Kd.C_of_reads (d := (0 : Int)) (h1 := fun _ => rfl) hr0) hc0 h ⟨rfl⟩).mono ?_
 rintro e w' ⟨rfl, hd⟩
 exact ⟨rfl, hd⟩
end Go.Proofs.YtanhnhkcpbdfmaaGreat.P
namespace Go.Proofs.YtanhnhkcpbdfmaaGreat.Q
open Go.RowKit Go.Proofs.YtanhnhkcpbdfmaaGreat.P Go.Proofs.YtanhnhkcpbdfmaaGreatW.PrintWords Go.Proofs.YtanhnhkcpbdfmaaGreatW.PrintMore
theorem isWarmth_eq (a : Int) : impl_isWarmth.f a = some (decide (-10 ≤ a ∧ a ≤ 40)) := by unfold impl_isWarmth.f; rw [within_eq]; rfl
theorem shopOk_impl (p : List S112) (d : Int) (q : List Int) (a m : Int) (l : List S104) (hl : l.length ≤ 1048577) : Ev (fun k => impl_ShopOk.f k p d q a m l) (shopOk p d q a m l) := Ev.now _
theorem shopOk_spec (p : List S112) (d : Int) (q : List Int) (a m : Int) (l : List S104) (hl : l.length ≤ 1048577) : Ev (fun k => spec_ShopOk.f k p d q a m l) (shopOk p d q a m l) := Ev.bind (workOk_spec p d q) (Ev.now _)
def shopWarm (p : List S112) (d : Int) (q : List Int) (a m : Int) (l : List S104) (x : Int) : List S112 × Int × List Int × Int × Int × List S104 × Bool :=
  if shopOk p d q a m l = true ∧ m ≠ 100000 ∧ (-10 ≤ x ∧ x ≤ 40) then (p, d, q, x, m + 1, l, true) else (p, d, q, a, m, l, false)
theorem lastOk_mono {l : List S104} {m n : Int} (h : lastOk l m) (hm : m ≤ n) : lastOk l n := by
  rcases h with h | h
  · exact .inl h
  · exact .inr (by omega)
theorem swarm_impl (p : List S112) (d : Int) (q : List Int) (a m : Int) (l : List S104) (x : Int) (hp : p.length ≤ 4000000) (hq : q.length ≤ 4000000) (hl : l.length ≤ 1048576) : Ev (fun k => impl_ShopWarm.f k p d q a m l x) (shopWarm p d q a m l x) := by
  unfold impl_ShopWarm.f shopWarm
  refine evb (copyShop_eq p d q a m l hp hq (by omega)) (Ev.bind (shopOk_impl p d q a m l (by omega)) ?_)
  by_cases h : shopOk p d q a m l = true
  rotate_left
  · exact rneg (fun h2 => h h2.1) <| evn h (evb (copyShop_eq p d q a m l hp hq (by omega)) (Ev.now _))
  obtain ⟨h1, h2, h3, h4, h5⟩ := shopOk_iff.1 h
  rw [w64 (n := m + 1) (by omega) (by omega)]
  refine evp h (Ev.bind (shopOk_impl p d q x (m + 1) l (by omega)) ?_)
  by_cases h6 : m ≠ 100000 ∧ (-10 ≤ x ∧ x ≤ 40)
  · exact rpos ⟨h, h6⟩ <| evp (shopOk_iff.2 ⟨h1, h2, h6.2, by omega, lastOk_mono h5 (by omega)⟩) (Ev.now _)
  · refine rneg (fun h7 => h6 h7.2) <| evn (fun h7 => ?_) (evb (copyShop_eq p d q a m l hp hq (by omega)) (Ev.now _))
    obtain ⟨g1, g2, g3, g4, g5⟩ := shopOk_iff.1 h7
    exact h6 ⟨by omega, g3⟩
theorem swarm_spec (p : List S112) (d : Int) (q : List Int) (a m : Int) (l : List S104) (x : Int) (hp : p.length ≤ 4000000) (hq : q.length ≤ 4000000) (hl : l.length ≤ 1048576) : Ev (fun k => spec_ShopWarm.f k p d q a m l x) (shopWarm p d q a m l x) := by
  unfold spec_ShopWarm.f shopWarm
  refine evb (l38Copy_eq p d q a m l hp hq (by omega)) (Ev.bind (shopOk_spec p d q a m l (by omega)) ?_)
  by_cases h : shopOk p d q a m l = true
  rotate_left
  · exact rneg (fun h2 => h h2.1) <| evn h (evb (l38Copy_eq p d q a m l hp hq (by omega)) (Ev.now _))
  obtain ⟨h1, h2, h3, h4, h5⟩ := shopOk_iff.1 h
  refine evp h ?_
  by_cases h8 : m = 100000
  · exact rneg (fun h7 => h7.2.1 h8) <| evp h8 (evb (l38Copy_eq p d q a m l hp hq (by omega)) (Ev.now _))
  refine evn h8 (Ev.bind (shopOk_spec p d q x m l (by omega)) ?_)
  by_cases h6 : -10 ≤ x ∧ x ≤ 40
  · rw [w64 (n := m + 1) (by omega) (by omega)]
    exact rpos ⟨h, h8, h6⟩ <| evp (shopOk_iff.2 ⟨h1, h2, h6, h4, h5⟩) (Ev.now _)
  · refine rneg (fun h7 => h6 h7.2.2) <| evn (fun h7 => ?_) (evb (l38Copy_eq p d q a m l hp hq (by omega)) (Ev.now _))
    exact h6 (shopOk_iff.1 h7).2.2.1
theorem shopWarm_len (p : List S112) (d : Int) (q : List Int) (a m : Int) (l : List S104) (x : Int) : (shopWarm p d q a m l x).1 = p ∧ (shopWarm p d q a m l x).2.2.1 = q ∧ (shopWarm p d q a m l x).2.2.2.2.2.1 = l := by
  unfold shopWarm; split <;> exact ⟨rfl, rfl, rfl⟩
def shopFault (p : List S112) (d : Int) (q : List Int) (a m : Int) (l : List S104) (r n f : Int) : List S112 × Int × List Int × Int × Int × List S104 × Bool :=
  if shopOk p d q a m l = true ∧ (addEntry l r n f m).2 = true then (p, d, q, a, m, (addEntry l r n f m).1, true) else (p, d, q, a, m, l, false)
theorem sfault_impl (p : List S112) (d : Int) (q : List Int) (a m : Int) (l : List S104) (r n f : Int) (hp : p.length ≤ 4000000) (hq : q.length ≤ 4000000) (hl : l.length ≤ 1048576) : Ev (fun k => impl_ShopFault.f k p d q a m l r n f) (shopFault p d q a m l r n f) := by
  unfold impl_ShopFault.f shopFault
  refine evb (copyShop_eq p d q a m l hp hq (by omega)) (Ev.bind (shopOk_impl p d q a m l (by omega)) ?_)
  by_cases h : shopOk p d q a m l = true
  rotate_left
  · exact rneg (fun h2 => h h2.1) <| evn h (Ev.now _)
  refine evp h (Ev.bind (add_impl l r n f m hl) ?_)
  by_cases h2 : (addEntry l r n f m).2 = true
  · exact rpos ⟨h, h2⟩ <| evp h2 (Ev.now _)
  · exact rneg (fun h3 => h2 h3.2) <| evn h2 (Ev.now _)
theorem sfault_spec (p : List S112) (d : Int) (q : List Int) (a m : Int) (l : List S104) (r n f : Int) (hp : p.length ≤ 4000000) (hq : q.length ≤ 4000000) (hl : l.length ≤ 1048576) : Ev (fun k => spec_ShopFault.f k p d q a m l r n f) (shopFault p d q a m l r n f) := by
  unfold spec_ShopFault.f shopFault
  refine evb (l38Copy_eq p d q a m l hp hq (by omega)) (Ev.bind (add_spec l r n f m hl) (Ev.bind (shopOk_spec p d q a m l (by omega)) ?_))
  by_cases h : shopOk p d q a m l = true
  rotate_left
  · exact rneg (fun h2 => h h2.1) <| evn h (Ev.now _)
  refine evp h ?_
  by_cases h2 : (addEntry l r n f m).2 = true
  · exact rpos ⟨h, h2⟩ <| evp h2 (Ev.now _)
  · exact rneg (fun h3 => h2 h3.2) <| evn h2 (Ev.now _)
theorem shopFault_len (p : List S112) (d : Int) (q : List Int) (a m : Int) (l : List S104) (r n f : Int) : (shopFault p d q a m l r n f).1 = p ∧ (shopFault p d q a m l r n f).2.2.1 = q ∧ (shopFault p d q a m l r n f).2.2.2.2.2.1.length ≤ l.length + 1 := by
  unfold shopFault; split
  · exact ⟨rfl, rfl, addEntry_len l r n f m⟩
  · exact ⟨rfl, rfl, Nat.le_succ _⟩
def shopKnock (p : List S112) (d : Int) (q : List Int) (a m : Int) (l : List S104) (c x : Int) : List S112 × Int × List Int × Int × Int × List S104 × Bool :=
  if shopOk p d q a m l = true then ((knockKey p d q c x).1, (knockKey p d q c x).2.1, (knockKey p d q c x).2.2.1, a, m, l, (knockKey p d q c x).2.2.2) else (p, d, q, a, m, l, false)
theorem sknock_impl (p : List S112) (d : Int) (q : List Int) (a m : Int) (l : List S104) (c x : Int) (hp : p.length ≤ 4000000) (hq : q.length ≤ 4000000) (hl : l.length ≤ 1048576) : Ev (fun k => impl_ShopKnock.f k p d q a m l c x) (shopKnock p d q a m l c x) := by
  unfold impl_ShopKnock.f shopKnock
  refine evb (copyShop_eq p d q a m l hp hq (by omega)) (Ev.bind (shopOk_impl p d q a m l (by omega)) ?_)
  by_cases h : shopOk p d q a m l = true
  · exact rpos h <| evp h (Ev.bind (knock_impl p d q c x hp hq) (Ev.now _))
  · exact rneg h <| evn h (Ev.now _)
theorem sknock_spec (p : List S112) (d : Int) (q : List Int) (a m : Int) (l : List S104) (c x : Int) (hp : p.length ≤ 4000000) (hq : q.length ≤ 4000000) (hl : l.length ≤ 1048576) : Ev (fun k => spec_ShopKnock.f k p d q a m l c x) (shopKnock p d q a m l c x) := by
  unfold spec_ShopKnock.f shopKnock
  refine evb (l38Copy_eq p d q a m l hp hq (by omega)) (Ev.bind (shopOk_spec p d q a m l (by omega)) ?_)
  by_cases h : shopOk p d q a m l = true
  · exact rpos h <| evp h (Ev.bind (knock_spec p d q c x hp hq) (Ev.now _))
  · exact rneg h <| evn h (Ev.now _)
theorem shopKnock_len (p : List S112) (d : Int) (q : List Int) (a m : Int) (l : List S104) (c x : Int) : (shopKnock p d q a m l c x).1 = p ∧ (shopKnock p d q a m l c x).2.2.1.length = q.length ∧ (shopKnock p d q a m l c x).2.2.2.2.2.1 = l := by
  unfold shopKnock; split
  · exact ⟨(knockKey_len p d q c x).1, (knockKey_len p d q c x).2, rfl⟩
  · exact ⟨rfl, rfl, rfl⟩
theorem mendStep_false (p : List S112) (d : Int) (q : List Int) (h : ¬ (mendStep p d q).2.2.2 = true) : mendStep p d q = (p, d, q, false) := by
  unfold mendStep at h ⊢
  split
  · rfl
  · split
    · rfl
    · rename_i h2 h3; rw [h2] at h; simp only [if_neg h3] at h; exact absurd trivial h
theorem workStep_false (p : List S112) (d : Int) (q : List Int) (h : ¬ (workStep p d q).2.2.2 = true) : workStep p d q = (p, d, q, false) := by
  unfold workStep at h ⊢
  split
  · rename_i h1
    rw [if_pos h1] at h
    split
    · rfl
    · rename_i h2
      rw [if_neg h2] at h
      split
      · rfl
      · rename_i h3; rw [if_neg h3] at h; exact absurd rfl h
  · rfl
def tuneStep (p : List S112) (d : Int) (q : List Int) : List S112 × Int × List Int × Bool := if (((wrongSteps p d q).length : Nat) : Int) > 0 then mendStep p d q else workStep p d q
def shopTune (p : List S112) (d : Int) (q : List Int) (a m : Int) (l : List S104) : List S112 × Int × List Int × Int × Int × List S104 × Bool :=
  if shopOk p d q a m l = true then ((tuneStep p d q).1, (tuneStep p d q).2.1, (tuneStep p d q).2.2.1, a, m, l, (tuneStep p d q).2.2.2) else (p, d, q, a, m, l, false)
theorem stune_impl (p : List S112) (d : Int) (q : List Int) (a m : Int) (l : List S104) (hp : p.length ≤ 4000000) (hq : q.length ≤ 4000000) (hl : l.length ≤ 1048576) : Ev (fun k => impl_ShopTune.f k p d q a m l) (shopTune p d q a m l) := by
  unfold impl_ShopTune.f shopTune tuneStep
  refine evb (copyShop_eq p d q a m l hp hq (by omega)) (Ev.bind (shopOk_impl p d q a m l (by omega)) ?_)
  by_cases h : shopOk p d q a m l = true
  rotate_left
  · exact rneg h <| evn h (Ev.now _)
  refine rpos h <| evp h (Ev.bind (step_impl p d q hp hq) (Ev.bind (wrong_impl p d q) ?_))
  by_cases h2 : (((wrongSteps p d q).length : Nat) : Int) > 0
  · simp only [if_pos h2]
    refine Ev.bind (mend_impl p d q hp hq) ?_
    by_cases h3 : (mendStep p d q).2.2.2 = true
    · exact evp h3 (evs (by rw [h3]))
    · exact evn h3 (evs (by rw [mendStep_false p d q h3]))
  · simp only [if_neg h2]
    by_cases h3 : (workStep p d q).2.2.2 = true
    · exact evp h3 (evs (by rw [h3]))
    · exact evn h3 (evs (by rw [workStep_false p d q h3]))
theorem stune_spec (p : List S112) (d : Int) (q : List Int) (a m : Int) (l : List S104) (hp : p.length ≤ 4000000) (hq : q.length ≤ 4000000) (hl : l.length ≤ 1048576) : Ev (fun k => spec_ShopTune.f k p d q a m l) (shopTune p d q a m l) := by
  unfold spec_ShopTune.f shopTune tuneStep
  refine evb (l38Copy_eq p d q a m l hp hq (by omega)) (Ev.bind (shopOk_spec p d q a m l (by omega)) ?_)
  by_cases h : shopOk p d q a m l = true
  rotate_left
  · exact rneg h <| evn h (Ev.now _)
  refine rpos h <| evp h (Ev.bind (wrong_spec p d q) ?_)
  by_cases h2 : (((wrongSteps p d q).length : Nat) : Int) > 0
  · simp only [if_pos h2]; exact Ev.bind (mend_spec p d q hp hq) (Ev.now _)
  · simp only [if_neg h2]; exact Ev.bind (step_spec p d q hp hq) (Ev.now _)
theorem shopTune_len (p : List S112) (d : Int) (q : List Int) (a m : Int) (l : List S104) : (shopTune p d q a m l).1 = p ∧ (shopTune p d q a m l).2.2.1.length = q.length ∧ (shopTune p d q a m l).2.2.2.2.2.1 = l := by
  unfold shopTune tuneStep; split
  · split
    · exact ⟨(mendStep_len p d q).1, (mendStep_len p d q).2.2, rfl⟩
    · exact ⟨(workStep_len p d q).1, (workStep_len p d q).2, rfl⟩
  · exact ⟨rfl, rfl, rfl⟩
structure GShop (p : List S112) (d : Int) (q : List Int) (a m : Int) (l : List S104) (c : Nat) : Prop where
  plan : gPlan p
  work : ∃ n : Nat, d = (n : Int) ∧ n ≤ p.length ∧ workOk p (n : Int) q = true
  lo : 200000 - 1000 * (c : Int) ≤ q.getD 0 0
  hi : q.getD 0 0 ≤ 299999 + 1000 * (c : Int)
  log : logOk l = true
  last : lastOk l m
  warm : -10 ≤ a ∧ a ≤ 40
  mom : 0 ≤ m ∧ m ≤ (c : Int)
  few : l.length ≤ c
section
variable {p : List S112} {d : Int} {q : List Int} {a m : Int} {l : List S104} {c : Nat}
theorem GShop.ok (h : GShop p d q a m l c) (hc : c ≤ 45) : shopOk p d q a m l = true := by
  obtain ⟨n, rfl, hn, hw⟩ := h.work
  have := h.mom
  exact shopOk_iff.2 ⟨hw, h.log, h.warm, by omega, h.last⟩
theorem GShop.len (h : GShop p d q a m l c) : q.length = 12 := by
  obtain ⟨n, rfl, hn, hw⟩ := h.work
  exact ((workOk_good h.plan n hn q).1 hw).1
theorem logOk_len {l : List S104} (h : logOk l = true) : l.length ≤ 30 := by
  unfold logOk at h
  simp only [Bool.and_eq_true, decide_eq_true_eq] at h
  exact h.2
theorem GShop.step (h : GShop p d q a m l c) : GShop p d q a m l (c + 1) :=
  ⟨h.plan, h.work, by have := h.lo; omega, by have := h.hi; omega, h.log, h.last, h.warm, by have := h.mom; omega, by have := h.few; omega⟩
theorem GShop.warmed (h : GShop p d q a m l c) (x : Int) :
    GShop (shopWarm p d q a m l x).1 (shopWarm p d q a m l x).2.1 (shopWarm p d q a m l x).2.2.1 (shopWarm p d q a m l x).2.2.2.1 (shopWarm p d q a m l x).2.2.2.2.1 (shopWarm p d q a m l x).2.2.2.2.2.1 (c + 1) := by
  unfold shopWarm
  split
  · rename_i hc
    have := h.mom
    exact ⟨h.plan, h.work, by have := h.lo; dsimp only; omega, by have := h.hi; dsimp only; omega, h.log, lastOk_mono h.last (by dsimp only; omega), hc.2.2, by dsimp only; omega, by have := h.few; dsimp only; omega⟩
  · exact h.step
theorem GShop.faulted (h : GShop p d q a m l c) (r n f : Int) :
    GShop (shopFault p d q a m l r n f).1 (shopFault p d q a m l r n f).2.1 (shopFault p d q a m l r n f).2.2.1 (shopFault p d q a m l r n f).2.2.2.1 (shopFault p d q a m l r n f).2.2.2.2.1 (shopFault p d q a m l r n f).2.2.2.2.2.1 (c + 1) := by
  unfold shopFault
  split
  · rename_i hc
    refine ⟨h.plan, h.work, by have := h.lo; dsimp only; omega, by have := h.hi; dsimp only; omega, ?_, ?_, h.warm, by have := h.mom; dsimp only; omega, by have := h.few; dsimp only; unfold addEntry; split <;> simp <;> omega⟩
    · have h2 := hc.2
      unfold addEntry at h2 ⊢
      split
      · rename_i h3; exact h3.2
      · rename_i h3; rw [if_neg h3] at h2; cases h2
    · have h2 := hc.2
      unfold addEntry at h2 ⊢
      split
      · exact .inr (by simp [List.getD_eq_getElem?_getD, ent])
      · rename_i h3; rw [if_neg h3] at h2; cases h2
  · exact h.step
theorem GShop.knocked (h : GShop p d q a m l c) (k x : Int) (hx : -1000 ≤ x ∧ x ≤ 1000) :
    GShop (shopKnock p d q a m l k x).1 (shopKnock p d q a m l k x).2.1 (shopKnock p d q a m l k x).2.2.1 (shopKnock p d q a m l k x).2.2.2.1 (shopKnock p d q a m l k x).2.2.2.2.1 (shopKnock p d q a m l k x).2.2.2.2.2.1 (c + 1) := by
  obtain ⟨n, rfl, hn, hw⟩ := h.work
  obtain ⟨k1, k2, k3, k4, k5⟩ := knock_good h.plan hn hw k x hx
  unfold shopKnock
  split
  · refine ⟨by rw [k1]; exact h.plan, ⟨n, k2, by rw [k1]; exact hn, by rw [k1]; exact k3⟩, by have := h.lo; dsimp only; omega, by have := h.hi; dsimp only; omega, h.log, h.last, h.warm, by have := h.mom; dsimp only; omega, by have := h.few; dsimp only; omega⟩
  · exact h.step
theorem bad_or (g : gPlan p) (q : List Int) : ∀ i : Nat, i ≤ p.length → (∃ j, j < i ∧ rightTo p q j ∧ isBad p q j = true) ∨ rightTo p q i := by
  intro i
  induction i with
  | zero => exact fun _ => .inr (rightTo_zero p q)
  | succ i ih =>
    intro hi
    rcases ih (by omega) with ⟨j, h1, h2, h3⟩ | h
    · exact .inl ⟨j, by omega, h2, h3⟩
    · by_cases hb : isBad p q i = true
      · exact .inl ⟨i, by omega, h, hb⟩
      · exact .inr (rightTo_succ g (by omega) h hb)
theorem tune_good (g : gPlan p) {n : Nat} (hn : n ≤ p.length) (hw : workOk p (n : Int) q = true) (hs : 155000 ≤ q.getD 0 0 ∧ q.getD 0 0 ≤ 345000) :
    (tuneStep p (n : Int) q).1 = p ∧ (∃ n' : Nat, (tuneStep p (n : Int) q).2.1 = (n' : Int) ∧ n' ≤ p.length ∧ workOk p (n' : Int) (tuneStep p (n : Int) q).2.2.1 = true) ∧ (tuneStep p (n : Int) q).2.2.1.getD 0 0 = q.getD 0 0 := by
  unfold tuneStep
  rcases bad_or g q n hn with ⟨j, h1, h2, h3⟩ | h
  · obtain ⟨e, he⟩ : ∃ e, n = j + (e + 1) := ⟨n - j - 1, by omega⟩
    obtain ⟨r, hr⟩ := wrongs_first g (by omega : j + (e + 1) ≤ p.length) h2 h3
    have hm := mendStep_good g hn he hw hs h2 h3
    obtain ⟨m1, m2, m3⟩ := mended g hn h1 hw hs h2
    rw [wrongSteps_good hw, if_pos (by rw [he, hr]; simp only [List.length_cons]; omega), hm]
    exact ⟨rfl, ⟨n, rfl, hn, m1⟩, m2⟩
  · rw [wrongSteps_good hw, wrongs_none g hn h, if_neg (by simp)]
    have hq := right_pits g hn hw h
    have e0 : ∀ k, (pits p (q.getD 0 0) k).getD 0 0 = q.getD 0 0 := fun k => by rw [pits_get _ _ _ _ (by omega), if_pos (Nat.zero_le _)]; rfl
    by_cases hlt : n < p.length
    · have := workStep_good g hs hlt
      rw [← hq] at this
      rw [this]
      exact ⟨rfl, ⟨n + 1, rfl, hlt, workOk_pits g hs (n + 1) hlt⟩, e0 _⟩
    · obtain rfl : n = p.length := by omega
      have := workStep_end g hs
      rw [← hq] at this
      rw [this]
      exact ⟨rfl, ⟨p.length, rfl, Nat.le_refl _, hw⟩, rfl⟩
theorem GShop.tuned (h : GShop p d q a m l c) (hc : c ≤ 45) :
    GShop (shopTune p d q a m l).1 (shopTune p d q a m l).2.1 (shopTune p d q a m l).2.2.1 (shopTune p d q a m l).2.2.2.1 (shopTune p d q a m l).2.2.2.2.1 (shopTune p d q a m l).2.2.2.2.2.1 (c + 1) := by
  obtain ⟨n, rfl, hn, hw⟩ := h.work
  have h1 := h.lo
  have h2 := h.hi
  obtain ⟨t1, ⟨n', t2, t3, t4⟩, t5⟩ := tune_good h.plan hn hw ⟨by omega, by omega⟩
  unfold shopTune
  split
  · exact ⟨by rw [t1]; exact h.plan, ⟨n', t2, by rw [t1]; exact t3, by rw [t1]; exact t4⟩, by dsimp only; omega, by dsimp only; omega, h.log, h.last, h.warm, by have := h.mom; dsimp only; omega, by have := h.few; dsimp only; omega⟩
  · exact h.step
end
theorem made_good (p : List S112) (g : gPlan p) (s : Int) (hs : 200000 ≤ s ∧ s ≤ 299999) :
    GShop (newShop s p).1 (newShop s p).2.1 (newShop s p).2.2.1 (newShop s p).2.2.2.1 (newShop s p).2.2.2.2.1 (newShop s p).2.2.2.2.2.1 0 := by
  have hn := newWork_good g (s := s) ⟨by omega, by omega⟩
  unfold newShop
  rw [if_pos (by rw [hn]), hn]
  have e0 : (pits p s 0).getD 0 0 = s := by rw [pits_get _ _ _ _ (by omega), if_pos (Nat.zero_le _)]; rfl
  refine ⟨g, ⟨0, rfl, Nat.zero_le _, workOk_pits g ⟨by omega, by omega⟩ 0 (Nat.zero_le _)⟩, ?_, ?_, (show logOk ([] : List S104) = true from by decide), .inl rfl, (by dsimp only; omega), (by dsimp only; omega), Nat.le_refl _⟩
  · show _ ≤ (pits p s 0).getD 0 0; rw [e0]; omega
  · show (pits p s 0).getD 0 0 ≤ _; rw [e0]; omega
def Drawn (s : List S112 × Int × List Int × Int × Int × List S104) : Prop := GShop s.1 s.2.1 s.2.2.1 s.2.2.2.1 s.2.2.2.2.1 s.2.2.2.2.2 20
theorem GShop.more {p : List S112} {d : Int} {q : List Int} {a m : Int} {l : List S104} {c c' : Nat} (h : GShop p d q a m l c) (hc : c ≤ c') : GShop p d q a m l c' :=
  ⟨h.plan, h.work, by have := h.lo; omega, by have := h.hi; omega, h.log, h.last, h.warm, by have := h.mom; omega, by have := h.few; omega⟩
section
variable (b : List Int) (hb : b.length ≤ 1048576)
include hb
theorem shop_l0 (N : Nat) (hN : N ≤ 19) : ∀ e : Nat, e ≤ N → ∀ (i h : Int) (p : List S112) (d : Int) (q : List Int) (a m : Int) (l : List S104), 0 ≤ i → GShop p d q a m l (N - e) →
    ∃ s i' h', Ev (fun k => spec_l38Shop.l0 k (N : Int) ((N - e : Nat) : Int) b i h p d q a m l) (s.1, s.2.1, s.2.2.1, s.2.2.2.1, s.2.2.2.2.1, s.2.2.2.2.2, i', h') ∧ Drawn s ∧ 0 ≤ i' := by
  intro e
  induction e with
  | zero =>
    intro _ i h p d q a m l hi g
    exact ⟨(p, d, q, a, m, l), i, h, Ev.step (fun k => by rw [spec_l38Shop.l0]) (evn (by omega) (Ev.now _)), g.more (by omega), hi⟩
  | succ e ih =>
    intro he i h p d q a m l hi g
    have lq := g.len
    have lp := g.plan.1
    have ll := logOk_len g.log
    obtain ⟨x, i1, h1, e1, x0, x1, _, j1⟩ := below_ev b hb i h 8 hi
    have hs : N - e = N - (e + 1) + 1 := by omega
    by_cases y0 : x = 0
    · obtain ⟨y, i2, h2, e2, _, _, _, j2⟩ := below_ev b hb i1 h1 30 j1
      obtain ⟨s, i', h', ev, gs, hi'⟩ := ih (by omega) i2 h2 _ _ _ _ _ _ j2 (hs ▸ g.warmed y)
      refine ⟨s, i', h', Ev.step (fun k => by rw [spec_l38Shop.l0]) (evp (by omega) (evb e1 (evp y0 (evb e2 (Ev.bind (swarm_spec p d q a m l y (by omega) (by omega) (by omega)) ?_))))), gs, hi'⟩
      rw [show wrap64 (((N - (e + 1) : Nat) : Int) + 1) = ((N - e : Nat) : Int) from by rw [w64 (by omega) (by omega)]; omega]; exact ev
    by_cases y1 : x = 1
    · obtain ⟨r, n, i2, h2, e2, gp, j2⟩ := pipe_ev b hb i1 h1 j1
      obtain ⟨f, i3, h3, e3, _, _, _, j3⟩ := below_ev b hb i2 h2 3 j2
      obtain ⟨s, i', h', ev, gs, hi'⟩ := ih (by omega) i3 h3 _ _ _ _ _ _ j3 (hs ▸ g.faulted r n f)
      refine ⟨s, i', h', Ev.step (fun k => by rw [spec_l38Shop.l0]) (evp (by omega) (evb e1 (evn y0 (evp y1 (evb e2 (evb e3 (Ev.bind (sfault_spec p d q a m l r n f (by omega) (by omega) (by omega)) ?_))))))), gs, hi'⟩
      rw [show wrap64 (((N - (e + 1) : Nat) : Int) + 1) = ((N - e : Nat) : Int) from by rw [w64 (by omega) (by omega)]; omega]; exact ev
    by_cases y2 : x = 2
    · obtain ⟨k0, i2, h2, e2, _, _, _, j2⟩ := below_ev b hb i1 h1 12 j1
      obtain ⟨z, i3, h3, e3, z0, z1, _, j3⟩ := below_ev b hb i2 h2 2001 j2
      have z2 := z1 (by omega)
      obtain ⟨s, i', h', ev, gs, hi'⟩ := ih (by omega) i3 h3 _ _ _ _ _ _ j3 (hs ▸ g.knocked k0 (z - 1000) (by omega))
      refine ⟨s, i', h', Ev.step (fun k => by rw [spec_l38Shop.l0]) (evp (by omega) (evb e1 (evn y0 (evn y1 (evp y2 (evb e2 (evb e3 ?_))))))), gs, hi'⟩
      dsimp only
      rw [show wrap64 (z - 1000) = z - 1000 from w64 (by omega) (by omega)]
      refine Ev.bind (sknock_spec p d q a m l k0 (z - 1000) (by omega) (by omega) (by omega)) ?_
      rw [show wrap64 (((N - (e + 1) : Nat) : Int) + 1) = ((N - e : Nat) : Int) from by rw [w64 (by omega) (by omega)]; omega]; exact ev
    · obtain ⟨s, i', h', ev, gs, hi'⟩ := ih (by omega) i1 h1 _ _ _ _ _ _ j1 (hs ▸ g.tuned (by omega))
      refine ⟨s, i', h', Ev.step (fun k => by rw [spec_l38Shop.l0]) (evp (by omega) (evb e1 (evn y0 (evn y1 (evn y2 (Ev.bind (stune_spec p d q a m l (by omega) (by omega) (by omega)) ?_)))))), gs, hi'⟩
      rw [show wrap64 (((N - (e + 1) : Nat) : Int) + 1) = ((N - e : Nat) : Int) from by rw [w64 (by omega) (by omega)]; omega]; exact ev
theorem shop_ev (i h : Int) (hi : 0 ≤ i) : ∃ s i' h', Ev (fun k => spec_l38Shop.f k b i h) (s.1, s.2.1, s.2.2.1, s.2.2.2.1, s.2.2.2.2.1, s.2.2.2.2.2, i', h') ∧ Drawn s ∧ 0 ≤ i' := by
  obtain ⟨x, i1, h1, e1, x0, x1, _, j1⟩ := below_ev b hb i h 100000 hi
  have x2 := x1 (by omega)
  obtain ⟨p, i2, h2, e2, g, j2⟩ := plan_ev b hb i1 h1 j1
  obtain ⟨y, i3, h3, e3, y0, y1, _, j3⟩ := below_ev b hb i2 h2 20 j2
  have y2 := y1 (by omega)
  obtain ⟨N, rfl⟩ := Int.eq_ofNat_of_zero_le y0
  obtain ⟨s, i', h', ev, gs, hi'⟩ := shop_l0 b hb N (by omega) N (Nat.le_refl _) i3 h3 _ _ _ _ _ _ j3 ((made_good p g (200000 + x) (by omega)).more (Nat.zero_le _))
  refine ⟨s, i', h', ?_, gs, hi'⟩
  unfold spec_l38Shop.f
  refine evb e1 (Ev.bind e2 ?_)
  dsimp only
  rw [show wrap64 (200000 + x) = 200000 + x from w64 (by omega) (by omega)]
  refine Ev.bind (newShop_spec (200000 + x) p) (evb e3 ?_)
  rw [show N - N = 0 by omega] at ev
  exact ev
theorem anyShop_ev (i h : Int) (hi : 0 ≤ i) : ∃ s i' h', Ev (fun k => spec_l39Shop.f k b i h) (s.1, s.2.1, s.2.2.1, s.2.2.2.1, s.2.2.2.2.1, s.2.2.2.2.2, i', h') ∧ Drawn s ∧ 0 ≤ i' := by
  obtain ⟨v, i1, h1, e1, j1⟩ := once_ev b hb i h 2 hi
  unfold spec_l39Shop.f
  by_cases hv : v = true
  · refine ⟨sampleShop, i1, h1, evb e1 (evp hv (Ev.bind sample_spec (Ev.now _))), ?_, j1⟩
    have := (made_good (usualPlan 700) (gPlan_usual 700 (by omega)).1 264000 (by omega)).more (Nat.zero_le 20)
    exact this
  · obtain ⟨s, i', h', ev, gs, hi'⟩ := shop_ev b hb i1 h1 j1
    exact ⟨s, i', h', evb e1 (evn hv (Ev.bind ev (Ev.now _))), gs, hi'⟩
end
structure GAct (x : S41) : Prop where
  ok : actOk x.f0 x.f1 x.f2 x.f3 = true
  small : (-1000 ≤ x.f1 ∧ x.f1 ≤ 1000) ∧ (-1000 ≤ x.f2 ∧ x.f2 ≤ 1000) ∧ (-1000 ≤ x.f3 ∧ x.f3 ≤ 1000)
section
variable (b : List Int) (hb : b.length ≤ 1048576)
include hb
theorem act_ev (i h : Int) (hi : 0 ≤ i) : ∃ n x y z i' h', spec_l39Act.f b i h = some (n, x, y, z, i', h') ∧ GAct ⟨n, x, y, z⟩ ∧ 0 ≤ i' := by
  obtain ⟨v, i1, h1, e1, v0, v1, _, j1⟩ := below_ev b hb i h 12 hi
  have v2 := v1 (by omega)
  unfold spec_l39Act.f
  rw [e1, Option.bind_some]; dsimp only
  by_cases c0 : v = 0
  · obtain ⟨x, i2, h2, e2, x0, x1, _, j2⟩ := below_ev b hb i1 h1 40 j1
    have x2 := x1 (by omega)
    rw [if_pos c0, e2, Option.bind_some]; dsimp only
    rw [show wrap64 (x - 5) = x - 5 from w64 (by omega) (by omega)]
    exact ⟨_, _, _, _, _, _, rfl, ⟨by unfold actOk; dsimp only; rw [if_neg (by omega), if_pos rfl, decide_eq_true_eq]; omega, by dsimp only; omega⟩, j2⟩
  rw [if_neg c0]
  by_cases c1 : v = 1
  · obtain ⟨x, i2, h2, e2, x0, j2⟩ := pick_ev b hb i1 h1 [0, 0, 1] j1 (by decide)
    obtain ⟨y, i3, h3, e3, y0, y1, _, j3⟩ := below_ev b hb i2 h2 6 j2
    obtain ⟨z, i4, h4, e4, z0, z1, _, j4⟩ := below_ev b hb i3 h3 3 j3
    have y2 := y1 (by omega)
    have z2 := z1 (by omega)
    have x2 : x = 0 ∨ x = 1 := by simp at x0; omega
    rw [if_pos c1, e2, Option.bind_some]; dsimp only
    rw [e3, Option.bind_some]; dsimp only
    rw [e4, Option.bind_some]
    exact ⟨_, _, _, _, _, _, rfl, ⟨by unfold actOk; dsimp only; rw [if_neg (by omega), if_neg (by omega), if_pos rfl, decide_eq_true_eq]; omega, by dsimp only; omega⟩, j4⟩
  rw [if_neg c1]
  by_cases c2 : v = 2
  · obtain ⟨x, i2, h2, e2, x0, x1, _, j2⟩ := below_ev b hb i1 h1 12 j1
    obtain ⟨y, i3, h3, e3, y0, y1, _, j3⟩ := below_ev b hb i2 h2 2001 j2
    have x2 := x1 (by omega)
    have y2 := y1 (by omega)
    rw [if_pos c2, e2, Option.bind_some]; dsimp only
    rw [e3, Option.bind_some]; dsimp only
    rw [show wrap64 (y - 1000) = y - 1000 from w64 (by omega) (by omega)]
    exact ⟨_, _, _, _, _, _, rfl, ⟨by unfold actOk; dsimp only; rw [if_neg (by omega), if_neg (by omega), if_neg (by omega), if_pos rfl, decide_eq_true_eq]; omega, by dsimp only; omega⟩, j3⟩
  rw [if_neg c2]
  by_cases c3 : v = 3
  · rw [if_pos c3]; exact ⟨_, _, _, _, _, _, rfl, ⟨by decide, by dsimp only; omega⟩, j1⟩
  rw [if_neg c3]
  by_cases c4 : v = 4
  · rw [if_pos c4]; exact ⟨_, _, _, _, _, _, rfl, ⟨by decide, by dsimp only; omega⟩, j1⟩
  rw [if_neg c4]
  by_cases c5 : v = 5
  · obtain ⟨x, i2, h2, e2, x0, x1, _, j2⟩ := below_ev b hb i1 h1 12 j1
    have x2 := x1 (by omega)
    rw [if_pos c5, e2, Option.bind_some]
    exact ⟨_, _, _, _, _, _, rfl, ⟨by unfold actOk; dsimp only; rw [if_neg (by omega), if_neg (by omega), if_neg (by omega), if_neg (by omega), if_pos rfl, decide_eq_true_eq]; omega, by dsimp only; omega⟩, j2⟩
  rw [if_neg c5]
  exact ⟨_, _, _, _, _, _, rfl, ⟨by decide, by dsimp only; omega⟩, j1⟩
theorem acts_ev (i h : Int) (hi : 0 ≤ i) : ∃ l i' h', Ev (fun k => spec_l39List.f k b i h) (l, i', h') ∧ l.length ≤ 25 ∧ (∀ x ∈ l, GAct x) ∧ 0 ≤ i' := by
  obtain ⟨n, i1, h1, e1, n0, n1, _, j1⟩ := below_ev b hb i h 26 hi
  have n2 := n1 (by omega)
  obtain ⟨N, rfl⟩ := Int.eq_ofNat_of_zero_le n0
  have key : ∀ m : Nat, m ≤ N → ∀ (acc : List S41) (i h : Int), 0 ≤ i → acc.length = N - m → (∀ x ∈ acc, GAct x) →
      ∃ l i' h', Ev (fun k => spec_l39List.l0 k acc (N : Int) ((N - m : Nat) : Int) b i h) (l, i', h') ∧ l.length ≤ 25 ∧ (∀ x ∈ l, GAct x) ∧ 0 ≤ i' := by
    intro m
    induction m with
    | zero =>
      intro _ acc i h hi hl hx
      exact ⟨acc, i, h, Ev.step (fun k => by rw [spec_l39List.l0]) (evn (by omega) (Ev.now _)), by omega, hx, hi⟩
    | succ m ih =>
      intro hm acc i h hi hl hx
      obtain ⟨a, x, y, z, i2, h2, e2, g, j2⟩ := act_ev b hb i h hi
      obtain ⟨l, i', h', ev, l1, l2, j⟩ := ih (by omega) (acc ++ [⟨a, x, y, z⟩]) i2 h2 j2 (by simp; omega) (by
        intro w hw
        rcases List.mem_append.1 hw with hw | hw
        · exact hx w hw
        · simp at hw; subst hw; exact g)
      refine ⟨l, i', h', Ev.step (fun k => by rw [spec_l39List.l0]) (evp (by omega) (evb e2 ?_)), l1, l2, j⟩
      refine evp (show acc.length < 4398046511104 by omega) ?_
      rw [show wrap64 (((N - (m + 1) : Nat) : Int) + 1) = ((N - m : Nat) : Int) from by rw [w64 (by omega) (by omega)]; omega]
      exact ev
  obtain ⟨l, i', h', ev, l1, l2, j⟩ := key N (Nat.le_refl _) [] i1 h1 j1 (by simp) (by simp)
  refine ⟨l, i', h', ?_, l1, l2, j⟩
  unfold spec_l39List.f
  refine evb e1 ?_
  rw [show N - N = 0 by omega] at ev
  exact ev
theorem drawActs_ev : ∃ s l, Ev (fun k => spec_DrawActs.f k b) (s.1, s.2.1, s.2.2.1, s.2.2.2.1, s.2.2.2.2.1, s.2.2.2.2.2, l) ∧ Drawn s ∧ l.length ≤ 25 ∧ ∀ x ∈ l, GAct x := by
  obtain ⟨h0, e0⟩ := new_ev b
  obtain ⟨s, i1, h1, e1, g, j1⟩ := anyShop_ev b hb 0 h0 (by omega)
  obtain ⟨l, i2, h2, e2, l1, l2, j2⟩ := acts_ev b hb i1 h1 j1
  refine ⟨s, l, ?_, g, l1, l2⟩
  unfold spec_DrawActs.f
  exact Ev.bind e0 (Ev.bind e1 (Ev.bind e2 (Ev.now _)))
end
def stepsLeft (p : List S112) (d : Int) (q : List Int) (a m : Int) (l : List S104) : Int :=
  if shopOk p d q a m l = true then wrap64 ((wrap64 ((p.length : Int) - d)) + ((wrongSteps p d q).length : Int)) else 0
theorem left_impl (p : List S112) (d : Int) (q : List Int) (a m : Int) (l : List S104) (hl : l.length ≤ 1048577) : Ev (fun k => impl_StepsLeft.f k p d q a m l) (stepsLeft p d q a m l) := by
  unfold impl_StepsLeft.f stepsLeft
  refine Ev.bind (shopOk_impl p d q a m l hl) ?_
  by_cases h : shopOk p d q a m l = true
  · exact rpos h <| evp h (Ev.bind (wrong_impl p d q) (Ev.now _))
  · exact rneg h <| evn h (Ev.now _)
def warmPitch (p t : Int) : Int := if fine p = true then (if -10 ≤ t ∧ t ≤ 40 then wrap64 (Int.tdiv (wrap64 (p * (wrap64 (1000 + (wrap64 (2 * (wrap64 (t - 15)))))))) 1000) else 0) else 0
theorem warm_impl (p t : Int) : impl_WarmPitch.f p t = some (warmPitch p t) := by
  unfold impl_WarmPitch.f warmPitch
  rw [isFine_eq, isWarmth_eq]
  cases fine p <;> by_cases h : -10 ≤ t ∧ t ≤ 40 <;> simp [h]
theorem warm_zero (t : Int) : warmPitch 0 t = 0 := by
  have : fine 0 = false := by decide
  unfold warmPitch
  rw [this]
  rfl
def heardAt (p : List S112) (d : Int) (q : List Int) (a m : Int) (l : List S104) (c : Int) : Int :=
  if shopOk p d q a m l = true then (if 0 ≤ c ∧ c ≤ 11 then (if faultOf l ⟨0, c⟩ = 1 then 0 else warmPitch (rd q c) a) else 0) else 0
theorem heard_impl (p : List S112) (d : Int) (q : List Int) (a m : Int) (l : List S104) (c : Int) (hl : l.length ≤ 1048577) : Ev (fun k => impl_HeardAt.f k p d q a m l c) (heardAt p d q a m l c) := by
  unfold impl_HeardAt.f
  refine Ev.bind (shopOk_impl p d q a m l hl) ?_
  by_cases h0 : shopOk p d q a m l = true
  rotate_left
  · exact evn h0 (evs (by simp [heardAt, h0]))
  refine evp h0 (evb (within_eq _ _ _) ?_)
  obtain ⟨hw, hlo, _⟩ := shopOk_iff.mp h0
  have hq : q.length = 12 := by
    unfold workOk at hw
    simp only [Bool.and_eq_true, decide_eq_true_eq] at hw
    exact hw.2.2.1
  by_cases hc : 0 ≤ c ∧ c ≤ 11
  rotate_left
  · exact evn (by simpa using hc) (evs (by simp [heardAt, hc]))
  refine evp (by simpa using hc) (evp hc.1 (evp (by omega) ?_))
  by_cases hz : rd q c = 0
  · exact evp hz (evs (by simp [heardAt, hz, warm_zero]))
  refine evn hz ?_
  have F : impl_FaultOf.f l 0 c = some (faultOf l ⟨0, c⟩) := by
    unfold impl_FaultOf.f
    rw [if_pos ⟨wf64_of (by omega) (by omega), wf64_of (by omega) (by omega), hl⟩, if_pos hlo]
  refine evb F ?_
  by_cases hf : faultOf l ⟨0, c⟩ = 1
  · exact evp hf (evs (by simp [heardAt, hf]))
  exact evn hf (evb (warm_impl _ _) (evs (by simp [heardAt, h0, hc, hf])))
def tru (b : Bool) : Int := if b = true then 1 else 0
theorem truth_impl (b : Bool) : impl_truth.f b = some (tru b) := by unfold impl_truth.f tru; cases b <;> rfl
def doAct (p : List S112) (d : Int) (q : List Int) (a m : Int) (l : List S104) (n x y z : Int) : List S112 × Int × List Int × Int × Int × List S104 × Int :=
  if shopOk p d q a m l = true ∧ actOk n x y z = true then
    (if n = 1 then ((shopTune p d q a m l).1, (shopTune p d q a m l).2.1, (shopTune p d q a m l).2.2.1, (shopTune p d q a m l).2.2.2.1, (shopTune p d q a m l).2.2.2.2.1, (shopTune p d q a m l).2.2.2.2.2.1, tru (shopTune p d q a m l).2.2.2.2.2.2)
    else if n = 2 then ((shopWarm p d q a m l x).1, (shopWarm p d q a m l x).2.1, (shopWarm p d q a m l x).2.2.1, (shopWarm p d q a m l x).2.2.2.1, (shopWarm p d q a m l x).2.2.2.2.1, (shopWarm p d q a m l x).2.2.2.2.2.1, tru (shopWarm p d q a m l x).2.2.2.2.2.2)
    else if n = 3 then ((shopFault p d q a m l x y z).1, (shopFault p d q a m l x y z).2.1, (shopFault p d q a m l x y z).2.2.1, (shopFault p d q a m l x y z).2.2.2.1, (shopFault p d q a m l x y z).2.2.2.2.1, (shopFault p d q a m l x y z).2.2.2.2.2.1, tru (shopFault p d q a m l x y z).2.2.2.2.2.2)
    else if n = 4 then ((shopKnock p d q a m l x y).1, (shopKnock p d q a m l x y).2.1, (shopKnock p d q a m l x y).2.2.1, (shopKnock p d q a m l x y).2.2.2.1, (shopKnock p d q a m l x y).2.2.2.2.1, (shopKnock p d q a m l x y).2.2.2.2.2.1, tru (shopKnock p d q a m l x y).2.2.2.2.2.2)
    else if n = 5 then (p, d, q, a, m, (repNext l m).1, tru (repNext l m).2)
    else if n = 6 then (p, d, q, a, m, l, stepsLeft p d q a m l)
    else (p, d, q, a, m, l, heardAt p d q a m l x))
  else (p, d, q, a, m, l, -1)
section
variable (p : List S112) (d : Int) (q : List Int) (a m : Int) (l : List S104) (n x y z : Int) (hp : p.length ≤ 4000000) (hq : q.length ≤ 4000000) (hl : l.length ≤ 1048576)
include hp hq hl
theorem doAct_impl : Ev (fun k => impl_DoAct.f k p d q a m l n x y z) (doAct p d q a m l n x y z) := by
  have E := copyShop_eq p d q a m l hp hq (by omega)
  have O := shopOk_impl p d q a m l (by omega)
  have AO := actOk_impl n x y z
  have T := stune_impl p d q a m l hp hq hl
  have W := swarm_impl p d q a m l x hp hq hl
  have F := sfault_impl p d q a m l x y z hp hq hl
  have K := sknock_impl p d q a m l x y hp hq hl
  have R := repNext_impl l m hl
  have L := left_impl p d q a m l (by omega)
  have H := heard_impl p d q a m l x (by omega)
  have jt : Ev (fun k => impl_DoAct.j0 k true p d q a m l n x y z) (p, d, q, a, m, l, -1) := Ev.step (fun k => by rw [impl_DoAct.j0]) (evp rfl (evb E (Ev.now _)))
  unfold impl_DoAct.f doAct
  refine Ev.bind O ?_
  by_cases h0 : shopOk p d q a m l = true
  rotate_left
  · exact rneg (fun hh => h0 hh.1) (evn h0 jt)
  refine evp h0 (Ev.bind AO ?_)
  by_cases h1 : actOk n x y z = true
  rotate_left
  · exact rneg (fun hh => h1 hh.2) (by rw [show (!actOk n x y z) = true by simp [h1]]; exact jt)
  refine rpos ⟨h0, h1⟩ ?_
  rw [show (!actOk n x y z) = false by simp [h1]]
  refine Ev.step (fun k => by rw [impl_DoAct.j0]) (evn (by decide) ?_)
  by_cases c1 : n = 1
  · exact rpos c1 (evp c1 (Ev.bind T (evb (truth_impl _) (Ev.now _))))
  refine rneg c1 (evn c1 ?_)
  by_cases c2 : n = 2
  · exact rpos c2 (evp c2 (Ev.bind W (evb (truth_impl _) (Ev.now _))))
  refine rneg c2 (evn c2 ?_)
  by_cases c3 : n = 3
  · exact rpos c3 (evp c3 (Ev.bind F (evb (truth_impl _) (Ev.now _))))
  refine rneg c3 (evn c3 ?_)
  by_cases c4 : n = 4
  · exact rpos c4 (evp c4 (Ev.bind K (evb (truth_impl _) (Ev.now _))))
  refine rneg c4 (evn c4 ?_)
  by_cases c5 : n = 5
  · exact rpos c5 (evp c5 (evb E (Ev.bind R (evb (truth_impl _) (Ev.now _)))))
  refine rneg c5 (evn c5 ?_)
  by_cases c6 : n = 6
  · exact rpos c6 (evp c6 (evb E (Ev.bind L (Ev.now _))))
  exact rneg c6 (evn c6 (evb E (Ev.bind H (Ev.now _))))
end
theorem doAct_len (p : List S112) (d : Int) (q : List Int) (a m : Int) (l : List S104) (n x y z : Int) : (doAct p d q a m l n x y z).1 = p ∧ (doAct p d q a m l n x y z).2.2.1.length = q.length ∧ (doAct p d q a m l n x y z).2.2.2.2.2.1.length ≤ l.length + 1 := by
  have t := shopTune_len p d q a m l
  have w := shopWarm_len p d q a m l x
  have f := shopFault_len p d q a m l x y z
  have k := shopKnock_len p d q a m l x y
  have r := repNext_len l m
  unfold doAct
  split
  · split
    · exact ⟨t.1, t.2.1, by dsimp only; rw [t.2.2]; omega⟩
    split
    · exact ⟨w.1, by dsimp only; rw [w.2.1], by dsimp only; rw [w.2.2]; omega⟩
    split
    · exact ⟨f.1, by dsimp only; rw [f.2.1], f.2.2⟩
    split
    · exact ⟨k.1, k.2.1, by dsimp only; rw [k.2.2]; omega⟩
    split
    · exact ⟨rfl, rfl, r⟩
    split
    · exact ⟨rfl, rfl, by dsimp only; omega⟩
    · exact ⟨rfl, rfl, by dsimp only; omega⟩
  · exact ⟨rfl, rfl, by dsimp only; omega⟩
def runA : List S41 → List S112 → Int → List Int → Int → Int → List S104 → List Int → List S112 × Int × List Int × Int × Int × List S104 × List Int
  | [], p, d, q, a, m, l, r => (p, d, q, a, m, l, r)
  | x :: xs, p, d, q, a, m, l, r => runA xs (doAct p d q a m l x.f0 x.f1 x.f2 x.f3).1 (doAct p d q a m l x.f0 x.f1 x.f2 x.f3).2.1 (doAct p d q a m l x.f0 x.f1 x.f2 x.f3).2.2.1 (doAct p d q a m l x.f0 x.f1 x.f2 x.f3).2.2.2.1 (doAct p d q a m l x.f0 x.f1 x.f2 x.f3).2.2.2.2.1 (doAct p d q a m l x.f0 x.f1 x.f2 x.f3).2.2.2.2.2.1 (r ++ [(doAct p d q a m l x.f0 x.f1 x.f2 x.f3).2.2.2.2.2.2])
def runActs (p : List S112) (d : Int) (q : List Int) (a m : Int) (l : List S104) (xs : List S41) : List S112 × Int × List Int × Int × Int × List S104 × List Int :=
  if shopOk p d q a m l = true ∧ xs.length ≤ 40 then runA xs p d q a m l [] else (p, d, q, a, m, l, [])
theorem runA_len : ∀ (xs : List S41) (p : List S112) (d : Int) (q : List Int) (a m : Int) (l : List S104) (r : List Int),
    (runA xs p d q a m l r).1 = p ∧ (runA xs p d q a m l r).2.2.1.length = q.length ∧ (runA xs p d q a m l r).2.2.2.2.2.1.length ≤ l.length + xs.length ∧ (runA xs p d q a m l r).2.2.2.2.2.2.length = r.length + xs.length
  | [], p, d, q, a, m, l, r => ⟨rfl, rfl, Nat.le_refl _, rfl⟩
  | x :: xs, p, d, q, a, m, l, r => by
    obtain ⟨h1, h2, h3⟩ := doAct_len p d q a m l x.f0 x.f1 x.f2 x.f3
    unfold runA
    generalize doAct p d q a m l x.f0 x.f1 x.f2 x.f3 = R at *
    obtain ⟨g1, g2, g3, g4⟩ := runA_len xs R.1 R.2.1 R.2.2.1 R.2.2.2.1 R.2.2.2.2.1 R.2.2.2.2.2.1 (r ++ [R.2.2.2.2.2.2])
    refine ⟨g1.trans h1, g2.trans h2, ?_, ?_⟩
    · simp only [List.length_cons]; omega
    · rw [g4]; simp; omega
theorem runActs_len (p : List S112) (d : Int) (q : List Int) (a m : Int) (l : List S104) (xs : List S41) :
    (runActs p d q a m l xs).1 = p ∧ (runActs p d q a m l xs).2.2.1.length = q.length ∧ (runActs p d q a m l xs).2.2.2.2.2.1.length ≤ l.length + 40 ∧ (runActs p d q a m l xs).2.2.2.2.2.2.length ≤ 40 := by
  unfold runActs
  split
  · rename_i h
    obtain ⟨g1, g2, g3, g4⟩ := runA_len xs p d q a m l []
    exact ⟨g1, g2, by omega, by rw [g4]; simp; exact h.2⟩
  · exact ⟨rfl, rfl, by dsimp only; omega, by simp⟩
theorem logLen_ {l : List S104} (h : logOk l = true) : l.length ≤ 30 := by
  unfold logOk at h
  simp only [Bool.and_eq_true, decide_eq_true_eq] at h
  exact h.2
section
variable (xs : List S41) (hx : xs.length ≤ 40)
include hx
theorem runs_impl : ∀ i, i ≤ xs.length → ∀ (p : List S112) (d : Int) (q : List Int) (a m : Int) (l : List S104) (r : List Int), p.length ≤ 4000000 → q.length ≤ 4000000 → l.length ≤ 30 + i → r.length = i →
    Ev (fun k => impl_RunActs.l0 k r xs (xs.length : Int) (i : Int) p d q a m l) (runA (xs.drop i) p d q a m l r) := by
  refine down (n := xs.length) ?_ ?_
  · intro p d q a m l r hp hq hl hr
    refine Ev.step (fun k => by rw [impl_RunActs.l0]) (evn (by omega) (evs ?_))
    rw [drop_end]; rfl
  · intro i hi ih p d q a m l r hp hq hl hr
    refine Ev.step (fun k => by rw [impl_RunActs.l0]) (evp (by omega) (evp (by omega) (evp (by omega) ?_)))
    rw [rdA xs i hi, drop_cons xs i hi]
    obtain ⟨h1, h2, h3⟩ := doAct_len p d q a m l xs[i].f0 xs[i].f1 xs[i].f2 xs[i].f3
    refine Ev.bind (doAct_impl p d q a m l xs[i].f0 xs[i].f1 xs[i].f2 xs[i].f3 hp hq (by omega)) (evp (by omega) ?_)
    rw [w64 (n := (i : Int) + 1) (by omega) (by omega)]
    unfold runA
    exact ih _ _ _ _ _ _ _ (by rw [h1]; exact hp) (by rw [h2]; exact hq) (by omega) (by simp; omega)
end
section
variable (p : List S112) (d : Int) (q : List Int) (a m : Int) (l : List S104) (xs : List S41) (hp : p.length ≤ 4000000) (hq : q.length ≤ 4000000) (hl : l.length ≤ 1048576)
include hp hq hl
theorem runActs_impl : Ev (fun k => impl_RunActs.f k p d q a m l xs) (runActs p d q a m l xs) := by
  have jt : Ev (fun k => impl_RunActs.j0 k xs true p d q a m l) (p, d, q, a, m, l, []) := Ev.step (fun k => by rw [impl_RunActs.j0]) (evp rfl (Ev.now _))
  unfold impl_RunActs.f runActs
  refine evb (copyShop_eq p d q a m l hp hq (by omega)) (Ev.bind (shopOk_impl p d q a m l (by omega)) ?_)
  by_cases h0 : shopOk p d q a m l = true
  rotate_left
  · exact rneg (fun hh => h0 hh.1) (evn h0 jt)
  refine evp h0 ?_
  by_cases h1 : xs.length ≤ 40
  rotate_left
  · exact rneg (fun hh => h1 hh.2) (by rw [show decide ((xs.length : Int) > 40) = true from decide_eq_true (by omega)]; exact jt)
  refine rpos ⟨h0, h1⟩ ?_
  rw [show decide ((xs.length : Int) > 40) = false from decide_eq_false (by omega)]
  have key := runs_impl xs h1 0 (Nat.zero_le _) p d q a m l [] hp hq (logLen_ (shopOk_iff.1 h0).2.1) rfl
  refine Ev.step (fun k => by rw [impl_RunActs.j0]) (evn (by decide) ?_)
  exact key
end
def isReplay (p : List S112) (d : Int) (q : List Int) (a m : Int) (l : List S104) (xs : List S41) (r : List Int) : Bool :=
  if shopOk p d q a m l = true ∧ xs.length ≤ 40 then decide ((runActs p d q a m l xs).2.2.2.2.2.2 = r) else false
section
variable (p : List S112) (d : Int) (q : List Int) (a m : Int) (l : List S104) (xs : List S41) (r : List Int) (hp : p.length ≤ 4000000) (hq : q.length ≤ 4000000) (hl : l.length ≤ 1048576)
include hp hq hl
theorem replay_impl : Ev (fun k => impl_IsReplay.f k p d q a m l xs r) (isReplay p d q a m l xs r) := by
  have jt : Ev (fun k => impl_IsReplay.j0 k xs r true p d q a m l) false := Ev.step (fun k => by rw [impl_IsReplay.j0]) (evp rfl (Ev.now _))
  unfold impl_IsReplay.f isReplay
  refine Ev.bind (shopOk_impl p d q a m l (by omega)) ?_
  by_cases h0 : shopOk p d q a m l = true
  rotate_left
  · exact rneg (fun hh => h0 hh.1) (evn h0 jt)
  refine evp h0 ?_
  by_cases h1 : xs.length ≤ 40
  rotate_left
  · exact rneg (fun hh => h1 hh.2) (by rw [show decide ((xs.length : Int) > 40) = true from decide_eq_true (by omega)]; exact jt)
  refine rpos ⟨h0, h1⟩ ?_
  rw [show decide ((xs.length : Int) > 40) = false from decide_eq_false (by omega)]
  have L := (runActs_len p d q a m l xs).2.2.2
  refine Ev.step (fun k => by rw [impl_IsReplay.j0]) (evn (by decide) (Ev.bind (runActs_impl p d q a m l xs hp hq hl) (Ev.bind (order_impl (runActs p d q a m l xs).2.2.2.2.2.2 r (by omega)) ?_)))
  exact evs (ordI_zero _ _)
end
end Go.Proofs.YtanhnhkcpbdfmaaGreat.Q
namespace Go.Proofs.YtanhnhkcpbdfmaaGreat.Pure
open Go.RowKit Go.Proofs.YtanhnhkcpbdfmaaGreat.P Go.Proofs.YtanhnhkcpbdfmaaGreat.Q Go.Proofs.YtanhnhkcpbdfmaaGreatW.PrintWords Go.Proofs.YtanhnhkcpbdfmaaGreatW.PrintLast
theorem wrap_ne (x : Int) : wrap64 (x + 1) ≠ x := by unfold wrap64; omega
theorem FnReplays : laws_FnReplays.Pure := by
  intro b hb1 hb2 hb3
  refine Ev.rounds ?_
  unfold laws_FnReplays.f
  by_cases hbig : (b.length : Int) > 1048576
  · exact evb (a := true) (by unfold laws_big.f; rw [decide_eq_true hbig]) (evp rfl (Ev.now _))
  refine evb (a := false) (by unfold laws_big.f; rw [decide_eq_false hbig]) (evn (by decide) ?_)
  have hb : b.length ≤ 1048576 := by omega
  obtain ⟨⟨p, d, q, a, m, l⟩, xs, D, g, hx1, hx2⟩ := drawActs_ev b hb
  have g : GShop p d q a m l 20 := g
  have lq := g.len
  have lp := g.plan.1
  have lf := g.few
  have hok := g.ok (by omega)
  have X := runActs_impl p d q a m l xs (by omega) (by omega) (by omega)
  have I := fun r => replay_impl p d q a m l xs r (by omega) (by omega) (by omega)
  have eI : ∀ r, isReplay p d q a m l xs r = decide ((runActs p d q a m l xs).2.2.2.2.2.2 = r) := fun r => by unfold isReplay; rw [if_pos ⟨hok, by omega⟩]
  have L := (runActs_len p d q a m l xs).2.2.2
  obtain ⟨P, PV, P1, P2⟩ := places_ev b hb
  generalize runActs p d q a m l xs = R at X eI L
  refine Ev.bind D (Ev.bind X (Ev.bind (I R.2.2.2.2.2.2) ?_))
  refine evp (by rw [eI]; exact decide_eq_true rfl) ?_
  by_cases h0 : (R.2.2.2.2.2.2.length : Int) = 0
  · refine evp h0 (Ev.bind (I [1]) (evs ?_))
    rw [eI, decide_eq_false (fun h => by rw [h] at h0; simp at h0)]; rfl
  refine evn h0 (Ev.bind PV (evp (by omega) ?_))
  have hP : P[0]'(by omega) ∈ P := List.getElem_mem _
  have hr : rd P 0 = P[0]'(by omega) := rd_nat P 0 (by omega)
  obtain ⟨v0, v1⟩ := P2 _ hP
  rw [hr]
  obtain ⟨v, hv⟩ : ∃ v, P[0]'(by omega) = v := ⟨_, rfl⟩
  rw [hv] at v0 v1 ⊢
  have t0 : 0 ≤ Int.tmod v (R.2.2.2.2.2.2.length : Int) := Int.tmod_nonneg _ v0
  have t1 : Int.tmod v (R.2.2.2.2.2.2.length : Int) < (R.2.2.2.2.2.2.length : Int) := Int.tmod_lt_of_pos _ (by omega)
  obtain ⟨j, hj⟩ := Int.eq_ofNat_of_zero_le t0
  rw [hj] at t0 t1 ⊢
  refine evp (by omega) (evp t1 (Ev.bind (I _) (evs ?_)))
  have hjl : j < R.2.2.2.2.2.2.length := by omega
  rw [eI, rd_nat _ j hjl, Int.toNat_natCast, decide_eq_false ?_]; rfl
  intro h
  have h2 : R.2.2.2.2.2.2[j] = (R.2.2.2.2.2.2.set j (wrap64 (R.2.2.2.2.2.2[j] + 1)))[j]'(by simpa using hjl) := by
    have := congrArg (fun z => z[j]?) h
    simp only [List.getElem?_eq_getElem hjl, List.getElem?_set_self hjl] at this
    injection this with h3
    rw [List.getElem_set_self]; exact h3
  rw [List.getElem_set_self] at h2
  exact wrap_ne _ h2.symm
end Go.Proofs.YtanhnhkcpbdfmaaGreat.Pure
namespace Go.Proofs.YtanhnhkcpbdfmaaGreat.fnReplays
open Go.ChangeShapes Go.WideShapes Go.ChangeAt Go.RowKit
open Go.ChangeMaps (open_string shut_string)
theorem own : ownKnob Tryz.prog.godebug = none := by kernel_rfl
theorem laidOut : laidOutB Tryz.prog = true := by kernel_rfl
def IsRow (k : IntKind) (w : World) (a : Option Addr) (len cap : Nat) (zs : List Int) : Prop :=
  (a = none ∧ len = 0 ∧ cap = 0 ∧ zs = []) ∨
  ∃ x, a = some x ∧ len ≤ cap ∧ cap ≤ maxLen ∧ zs.length = cap ∧ (∀ i, i < zs.length → w.cell? (x.add i) = some (.int k (zs.getD i 0))) ∧ ∀ n ∈ zs, (Lit.int k n).wf = true
set_option maxRecDepth 100000 in
theorem lifted (os : Os) (started : os.Started) (H : Type) (enc : TypeId × Value → H) :
    ReturnsInHanded {} Tryz.checked os 6 .any (Rows.fnReplaysSpec.pre6 enc Tryz.prog Tryz.f6 Rows.fnReplaysRow.domain false) (Rows.fnReplaysSpec.post enc Tryz.prog Tryz.f6 false true false false) := by
  refine returnsInHanded_of_change_sized (C := Tryz.checked) own started (by kernel_rfl) Tryz.func6
    (ChangeSpec.witness6 (enc := enc) (C := Tryz.checked) false ⟨#[], #[.slice none 0 0], []⟩ 8 (by kernel_rfl) (by kernel_rfl) (by kernel_rfl) (by kernel_rfl)) ?_
  intro W base args ds gs before hval0 hW hcnd hsz0 _
  have hsz : (DataW.weightsEach Tryz.prog (Tryz.f6.params.toList ++ Rows.fnReplaysSpec.plain.varTypes Tryz.prog) (ds ++ gs)).all (· ≤ reachBytes) = true := hsz0
  have hval : ∀ (j : Nat) t v, Tryz.f6.params[j]? = some t → args[j]? = some v → Value.okWide Tryz.prog W .any base t v := hval0
  have hW' := hW
  obtain ⟨p, q, hA0, hV, rfl, hfz, hnd⟩ := hW
  have hA : DataW.TrodAll enc Tryz.prog W 0 (fun _ => true) true Tryz.f6.params.toList args.toList ds p := hA0
  rw [Tryz.params6] at hA hval hsz
  obtain ⟨v0, vs0, d0, ds0, p0, q0, hargs, rfl, rfl, h0, r0⟩ := trodAll_cons hA
  obtain ⟨rfl, rfl, rfl⟩ := trodAll_nil r0
  obtain rfl : args = #[v0] := by cases args; simp_all
  obtain ⟨rfl, rfl⟩ := trodVars_none hV
  obtain ⟨a0, len0, cap0, rfl⟩ := okWide_slice Tryz.underlying60 (hval 0 60 v0 rfl rfl)
  have k0 := h0
  have lt0 : ∀ x ∈ p0, x.block < W.heap.size := by obtain ⟨m, hm⟩ := k0; exact DataW.trod_lt m _ _ _ hm
  obtain ⟨z0, w0⟩ : ∃ zs, IsRow .u8 W a0 len0 cap0 zs := by
    obtain ⟨fuel, hf⟩ := h0
    rcases open_ints Tryz.underlying60 Tryz.underlying5 (by kernel_rfl) hf with ⟨hcs, _⟩ | ⟨x, l, c, zs, hcs, _, hl, hm, hz, _, hcell, hwz⟩
    · simp [Value.cells] at hcs
      obtain ⟨rfl, rfl, rfl⟩ := hcs
      exact ⟨[], .inl ⟨rfl, rfl, rfl, rfl⟩⟩
    · simp [Value.cells] at hcs
      obtain ⟨rfl, rfl, rfl⟩ := hcs
      exact ⟨zs, .inr ⟨_, rfl, hl, hm, by simpa using hz, hcell, hwz⟩⟩
  have y0 : len0 * 1 ≤ 140737488351232 := Go.Proofs.YtanhnhkcpbdfmaaGreatW.PrintWords.sized_ints hsz (j := 0) (t := 60) rfl rfl Tryz.underlying60 Tryz.underlying5 (by kernel_rfl) (by kernel_rfl) h0
  clear hA0 hval0 hsz0 hsz
  refine (P.laws_FnReplays.walk Pure.FnReplays a0 len0 cap0 z0 W w0 y0).mono fun e W' ⟨he, bel⟩ => ?_
  subst he
  exact ⟨_, rfl, _, _, _, [], _, [], hW', trodAll_mk1 (shut_bool Tryz.underlying4 _), (trodAll_cons_mk (Below.trod laidOut (by kernel_rfl) (of_decide_eq_true (by kernel_rfl)) k0 bel lt0) trodAll_mk0), rfl, bel.frame _, fun h => by cases h⟩
theorem over : Rows.fnReplaysRow.holds Tryz.pinned (OpenSpec.ofChange Rows.fnReplaysSpec) :=
  OpenClaim.holds_of_wide 6 Tryz.f6 rfl rfl rfl rfl rfl rfl rfl ⟨rfl, rfl, rfl, rfl, rfl⟩ rfl rfl rfl rfl rfl (by kernel_rfl) Tryz.func6 (by kernel_rfl)
    (of_decide_eq_true (by kernel_rfl)) (by unfold Func.isWrapper; first | (rw [if_pos (by decide +kernel)]; kernel_rfl) | (rw [if_neg (by decide +kernel)]; exact ⟨rfl, rfl⟩))
    (fun os started H enc _ => lifted os started H enc)
theorem proved : Rows.FnReplaysSaid := over
#print axioms proved
end Go.Proofs.YtanhnhkcpbdfmaaGreat.fnReplays
namespace Go.Proofs.YtanhnhkcpbdfmaaGreat
theorem fnReplays_holds : Rows.FnReplaysSaid := fnReplays.proved
end Go.Proofs.YtanhnhkcpbdfmaaGreat
