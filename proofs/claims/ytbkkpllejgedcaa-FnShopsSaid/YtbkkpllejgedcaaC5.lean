/- What functions of the program come to (f), that their calls come to just this (calls), and the plain laws over lists and numbers. No condition but those of the given row. -/
import Derived.Test.YtbkkpllejgedcaaC4
namespace Go.Proofs.Ytbkkpllejgedcaa.P
open Go.RowKit Go.Proofs.YtbkkpllejgedcaaW.PrintWords Go.Proofs.YtbkkpllejgedcaaW.PrintLast Go.Proofs.YtbkkpllejgedcaaW.PrintMore
attribute [local go_sem] max2_int min2_int max_two min_two max_three min_three max_four min_four
set_option linter.unusedVariables false
set_option linter.unusedSimpArgs false
def laws_FnShops.f (k : Nat) (l0 : List Int) : Option (Bool) := (laws_big.f l0).bind fun t1792 => (if t1792 = true then (some true) else ((spec_DrawShop.f k l0).bind fun bt1793 => ((laws_at.f l0 0).bind fun t1806 => ((impl_ShopWarm.f k bt1793.1 bt1793.2.1 bt1793.2.2.1 bt1793.2.2.2.1 bt1793.2.2.2.2.1 bt1793.2.2.2.2.2 (wrap64 ((Int.tmod t1806 50) - 10))).bind fun bt1807 => ((laws_at.f l0 1).bind fun t1821 => ((impl_ShopFault.f k bt1793.1 bt1793.2.1 bt1793.2.2.1 bt1793.2.2.2.1 bt1793.2.2.2.2.1 bt1793.2.2.2.2.2 0 (Int.tmod t1821 40) 1).bind fun bt1822 => ((laws_at.f l0 2).bind fun t1836 => ((impl_ShopKnock.f k bt1793.1 bt1793.2.1 bt1793.2.2.1 bt1793.2.2.2.1 bt1793.2.2.2.2.1 bt1793.2.2.2.2.2 (Int.tmod t1836 12) 3).bind fun bt1837 => ((impl_StepsLeft.f k bt1793.1 bt1793.2.1 bt1793.2.2.1 bt1793.2.2.2.1 bt1793.2.2.2.2.1 bt1793.2.2.2.2.2).bind fun t1851 => ((impl_ShopOk.f k bt1793.1 bt1793.2.1 bt1793.2.2.1 bt1793.2.2.2.1 bt1793.2.2.2.2.1 bt1793.2.2.2.2.2).bind fun t1852 => (if t1852 = true then ((impl_ShopOk.f k bt1807.1 bt1807.2.1 bt1807.2.2.1 bt1807.2.2.2.1 bt1807.2.2.2.2.1 bt1807.2.2.2.2.2.1).bind fun t1853 => (if t1853 = true then ((impl_ShopOk.f k bt1822.1 bt1822.2.1 bt1822.2.2.1 bt1822.2.2.2.1 bt1822.2.2.2.2.1 bt1822.2.2.2.2.2.1).bind fun t1854 => (if t1854 = true then ((impl_ShopOk.f k bt1837.1 bt1837.2.1 bt1837.2.2.1 bt1837.2.2.2.1 bt1837.2.2.2.2.1 bt1837.2.2.2.2.2.1).bind fun t1855 => (if t1855 = true then (if bt1807.2.2.2.2.2.2 = true then (if bt1822.2.2.2.2.2.2 = true then ((impl_StepsLeft.f k bt1807.1 bt1807.2.1 bt1807.2.2.1 bt1807.2.2.2.1 bt1807.2.2.2.2.1 bt1807.2.2.2.2.2.1).bind fun t1856 => (if t1856 = t1851 then ((impl_StepsLeft.f k bt1822.1 bt1822.2.1 bt1822.2.2.1 bt1822.2.2.2.1 bt1822.2.2.2.2.1 bt1822.2.2.2.2.2.1).bind fun t1857 => (if t1857 = t1851 then (if bt1807.2.2.2.2.1 = (wrap64 (bt1793.2.2.2.2.1 + 1)) then ((laws_sameInts.f k bt1807.2.2.1 bt1793.2.2.1).bind fun t1858 => (if t1858 = true then ((laws_at.f l0 1).bind fun t1859 => ((impl_HeardAt.f k bt1822.1 bt1822.2.1 bt1822.2.2.1 bt1822.2.2.2.1 bt1822.2.2.2.2.1 bt1822.2.2.2.2.2.1 (Int.tmod t1859 40)).bind fun t1860 => (some (t1860 == 0)))) else (some false))) else (some false)) else (some false))) else (some false))) else (some false)) else (some false)) else (some false))) else (some false))) else (some false))) else (some false))))))))))))
def laws_FnShops.T4 : Bool × List (List Nat × List Nat) := (true, [([], []), ([], []), ([1], [1]), ([2], [2]), ([3], [3]), ([0, 4, 2], [0, 4]), ([5], [5]), ([6], [6]), ([6], [6]), ([], []), ([9, 7, 5, 0, 1, 2, 3, 4, 5, 6, 7, 9], [7, 9]), ([8, 10, 0, 1, 2, 3, 4, 5, 6, 7, 8, 9, 10], [8])])
def laws_FnShops.B4 : List Nat := [0, 0, 2, 6, 14, 31, 63, 127, 127, 0, 767, 2047]
theorem laws_FnShops.tab4 : rtab .any (opsOf Try.f12 4) = laws_FnShops.T4 := by kernel_rfl
theorem laws_FnShops.bits4 : waitsOk laws_FnShops.T4.2 laws_FnShops.B4 = true := by kernel_rfl
def laws_FnShops.T5 : Bool × List (List Nat × List Nat) := (true, [([], []), ([], []), ([1], [1]), ([2], [2]), ([3], [3]), ([0, 4, 2], [0, 4]), ([5], [5]), ([6], [6]), ([6], [6]), ([], []), ([9, 7, 5, 0, 1, 2, 3, 4, 5, 6, 7, 9], [7, 9]), ([8, 10, 0, 1, 2, 3, 4, 5, 6, 7, 8, 9, 10], [8])])
def laws_FnShops.B5 : List Nat := [0, 0, 2, 6, 14, 31, 63, 127, 127, 0, 767, 2047]
theorem laws_FnShops.tab5 : rtab .any (opsOf Try.f12 5) = laws_FnShops.T5 := by kernel_rfl
theorem laws_FnShops.bits5 : waitsOk laws_FnShops.T5.2 laws_FnShops.B5 = true := by kernel_rfl
def laws_FnShops.T6 : Bool × List (List Nat × List Nat) := (true, [([], []), ([], []), ([1], [1]), ([2], [2]), ([0, 3, 2], [0, 3]), ([4], [4]), ([5], [5]), ([5], [5]), ([], []), ([8, 6, 4, 0, 1, 2, 3, 4, 5, 6, 8], [6, 8]), ([7, 9, 0, 1, 2, 3, 4, 5, 6, 7, 8, 9], [7])])
def laws_FnShops.B6 : List Nat := [0, 0, 2, 6, 15, 31, 63, 63, 0, 383, 1023]
theorem laws_FnShops.tab6 : rtab .any (opsOf Try.f12 6) = laws_FnShops.T6 := by kernel_rfl
theorem laws_FnShops.bits6 : waitsOk laws_FnShops.T6.2 laws_FnShops.B6 = true := by kernel_rfl
def laws_FnShops.T8 : Bool × List (List Nat × List Nat) := (true, [([], []), ([0], [0]), ([1, 1], [1]), ([2], [2]), ([3, 2, 2], [2, 3]), ([2, 4], [2, 4]), ([5, 4], [5]), ([6], [6]), ([7, 6, 6], [6, 7]), ([6, 8], [6, 8]), ([9, 8], [9]), ([10], [10]), ([11, 10, 10], [10, 11]), ([10, 12], [10, 12]), ([13, 12], [13]), ([14], [14]), ([14, 15], [14, 15]), ([16, 14], [16]), ([17], [17]), ([17, 18], [17, 18]), ([19, 17], [19]), ([20], [20]), ([21, 20, 20], [20, 21]), ([20], [20]), ([22, 23, 20], [20, 22, 23]), ([20, 24], [20, 24]), ([25, 22], [25]), ([26], [26]), ([27, 26, 26], [26, 27]), ([26], [26]), ([28, 29, 26], [26, 28, 29]), ([26, 30], [26, 30]), ([31, 28], [31]), ([32], [32]), ([33, 32], [32, 33]), ([32], [32]), ([35, 32], [32, 35]), ([36, 32], [32, 36]), ([34, 37, 32], [32, 34, 37]), ([32, 38], [32, 38]), ([39, 32], [39]), ([40], [40]), ([41, 40], [40, 41]), ([42, 40], [40, 42]), ([40], [40]), ([44, 40], [40, 44]), ([45, 40], [40, 45]), ([43, 46, 40, 40], [40, 43, 46]), ([40, 47], [40, 47]), ([48, 47], [48]), ([49], [49]), ([49], [49]), ([51, 49, 49], [49, 51]), ([52, 49], [49, 52]), ([50, 53, 52, 49], [49, 50, 53]), ([54, 49], [49, 54]), ([49, 55], [49, 55]), ([56, 54, 0, 1, 2, 3, 4, 5, 6, 7, 8, 9, 10, 11, 12, 13, 14, 15, 16, 17, 18, 19, 20, 21, 22, 23, 24, 25, 26, 27, 28, 29, 30, 31, 32, 33, 34, 35, 36, 37, 38, 39, 40, 41, 42, 43, 44, 45, 46, 47, 48, 49, 50, 51, 52, 53, 54, 55, 56], [56])])
def laws_FnShops.B8 : List Nat := [0, 1, 3, 7, 15, 31, 63, 127, 255, 511, 1023, 2047, 4095, 8191, 16383, 32767, 65535, 131071, 262143, 524287, 1048575, 2097151, 4194303, 2097151, 16777215, 33554431, 67108863, 134217727, 268435455, 134217727, 1073741823, 2147483647, 4294967295, 8589934591, 17179869183, 8589934591, 42949672959, 111669149695, 274877906943, 549755813887, 1099511627775, 2199023255551, 4398046511103, 8796093022207, 2199023255551, 19791209299967, 54975581388799, 140737488355327, 281474976710655, 562949953421311, 1125899906842623, 1125899906842623, 3377699720527871, 7881299347898367, 18014398509481983, 36028797018963967, 72057594037927935, 144115188075855871]
theorem laws_FnShops.tab8 : rtab .any (opsOf Try.f12 8) = laws_FnShops.T8 := by kernel_rfl
theorem laws_FnShops.bits8 : waitsOk laws_FnShops.T8.2 laws_FnShops.B8 = true := by kernel_rfl
set_option maxHeartbeats 8000000 in
set_option maxRecDepth 100000 in
theorem laws_FnShops.calls (k : Nat) (A0 : Option Addr) (c0 : Nat) (l0 : List Int) (r : Bool) (w : World) (hr0 : Kd.C (Kd.int .u8) w A0 l0.length l0) (hc0 : l0.length ≤ c0) (h : laws_FnShops.f k l0 = some r) (hrt_ : Aside0 (r = true)) :
  Calls Try.prog 12 #[.slice A0 l0.length c0] w fun e w' => e = .returned (.bool r) ∧ Below w.heap.size w w' := by
 have hu36 := Try.underlying36
 have hu56 := Try.underlying56
 have HR0 := A_ hr0
 have HC0 := A_ hc0
 clear hr0 hc0
 have HB := A_ (Below.refl w.heap.size w)
 have H : ((laws_big.f l0).bind fun t1792 => (if t1792 = true then (some true) else ((spec_DrawShop.f k l0).bind fun bt1793 => ((laws_at.f l0 0).bind fun t1806 => ((impl_ShopWarm.f k bt1793.1 bt1793.2.1 bt1793.2.2.1 bt1793.2.2.2.1 bt1793.2.2.2.2.1 bt1793.2.2.2.2.2 (wrap64 ((Int.tmod t1806 50) - 10))).bind fun bt1807 => ((laws_at.f l0 1).bind fun t1821 => ((impl_ShopFault.f k bt1793.1 bt1793.2.1 bt1793.2.2.1 bt1793.2.2.2.1 bt1793.2.2.2.2.1 bt1793.2.2.2.2.2 0 (Int.tmod t1821 40) 1).bind fun bt1822 => ((laws_at.f l0 2).bind fun t1836 => ((impl_ShopKnock.f k bt1793.1 bt1793.2.1 bt1793.2.2.1 bt1793.2.2.2.1 bt1793.2.2.2.2.1 bt1793.2.2.2.2.2 (Int.tmod t1836 12) 3).bind fun bt1837 => ((impl_StepsLeft.f k bt1793.1 bt1793.2.1 bt1793.2.2.1 bt1793.2.2.2.1 bt1793.2.2.2.2.1 bt1793.2.2.2.2.2).bind fun t1851 => ((impl_ShopOk.f k bt1793.1 bt1793.2.1 bt1793.2.2.1 bt1793.2.2.2.1 bt1793.2.2.2.2.1 bt1793.2.2.2.2.2).bind fun t1852 => (if t1852 = true then ((impl_ShopOk.f k bt1807.1 bt1807.2.1 bt1807.2.2.1 bt1807.2.2.2.1 bt1807.2.2.2.2.1 bt1807.2.2.2.2.2.1).bind fun t1853 => (if t1853 = true then ((impl_ShopOk.f k bt1822.1 bt1822.2.1 bt1822.2.2.1 bt1822.2.2.2.1 bt1822.2.2.2.2.1 bt1822.2.2.2.2.2.1).bind fun t1854 => (if t1854 = true then ((impl_ShopOk.f k bt1837.1 bt1837.2.1 bt1837.2.2.1 bt1837.2.2.2.1 bt1837.2.2.2.2.1 bt1837.2.2.2.2.2.1).bind fun t1855 => (if t1855 = true then (if bt1807.2.2.2.2.2.2 = true then (if bt1822.2.2.2.2.2.2 = true then ((impl_StepsLeft.f k bt1807.1 bt1807.2.1 bt1807.2.2.1 bt1807.2.2.2.1 bt1807.2.2.2.2.1 bt1807.2.2.2.2.2.1).bind fun t1856 => (if t1856 = t1851 then ((impl_StepsLeft.f k bt1822.1 bt1822.2.1 bt1822.2.2.1 bt1822.2.2.2.1 bt1822.2.2.2.2.1 bt1822.2.2.2.2.2.1).bind fun t1857 => (if t1857 = t1851 then (if bt1807.2.2.2.2.1 = (wrap64 (bt1793.2.2.2.2.1 + 1)) then ((laws_sameInts.f k bt1807.2.2.1 bt1793.2.2.1).bind fun t1858 => (if t1858 = true then ((laws_at.f l0 1).bind fun t1859 => ((impl_HeardAt.f k bt1822.1 bt1822.2.1 bt1822.2.2.1 bt1822.2.2.2.1 bt1822.2.2.2.2.1 bt1822.2.2.2.2.2.1 (Int.tmod t1859 40)).bind fun t1860 => (some (t1860 == 0)))) else (some false))) else (some false)) else (some false))) else (some false))) else (some false)) else (some false)) else (some false))) else (some false))) else (some false))) else (some false))))))))))))) = some r := h
 clear h
 replace H := Option.bind_eq_some_iff.mp H
 obtain ⟨t1792, A20, H⟩ := H
 (try dsimp only at H)
 have A2 := A_ A20
 clear A20
 by_cases c3 : t1792 = true
 ·subst c3
  rw [if_pos rfl] at H
  obtain rfl := Option.some.inj H
  go_enter Try.func12, Try.ntmps12
  go_wp2_with (first | ((with_reducible refine gate_callee (f := 43) rfl ?_); refine gL (some 12) Try.func43 #[.slice A0 l0.length c0] ?_; (with_reducible refine (laws_big.calls _ _ l0 true _ ?side1 ?side2 A2.out).mono ?_); (case side1 => repeat (first | exact HR0.out | (with_reducible refine Kd.C_alloc ?_ _) | (with_reducible refine Kd.C_drewN ?_ _) | (with_reducible refine Kd.C_drew ?_))); (case side2 => exact HC0.out); rintro e w' ⟨rfl, ⟨nd, rfl⟩⟩; refine ⟨_, rfl, ?_⟩))
  go_ret
  exact ⟨eR, oB HB⟩
 ·replace c3 := Bool.eq_false_iff.mpr c3
  subst c3
  rw [if_neg (show ¬ (false = true) by decide)] at H
  replace H := Option.bind_eq_some_iff.mp H
  obtain ⟨⟨t1793, t1796, t1797, t1800, t1801, t1802⟩, A40, H⟩ := H
  (try dsimp only at H)
  have A4 := A_ A40
  clear A40
  replace H := Option.bind_eq_some_iff.mp H
  obtain ⟨t1806, A50, H⟩ := H
  (try dsimp only at H)
  have A5 := A_ A50
  clear A50
  replace H := Option.bind_eq_some_iff.mp H
  obtain ⟨⟨t1807, t1810, t1811, t1814, t1815, t1816, t1819⟩, A60, H⟩ := H
  (try dsimp only at H)
  have A6 := A_ A60
  clear A60
  replace H := Option.bind_eq_some_iff.mp H
  obtain ⟨t1821, A70, H⟩ := H
  (try dsimp only at H)
  have A7 := A_ A70
  clear A70
  replace H := Option.bind_eq_some_iff.mp H
  obtain ⟨⟨t1822, t1825, t1826, t1829, t1830, t1831, t1834⟩, A80, H⟩ := H
  (try dsimp only at H)
  have A8 := A_ A80
  clear A80
  replace H := Option.bind_eq_some_iff.mp H
  obtain ⟨t1836, A90, H⟩ := H
  (try dsimp only at H)
  have A9 := A_ A90
  clear A90
  replace H := Option.bind_eq_some_iff.mp H
  obtain ⟨⟨t1837, t1840, t1841, t1844, t1845, t1846, t1849⟩, A100, H⟩ := H
  (try dsimp only at H)
  have A10 := A_ A100
  clear A100
  replace H := Option.bind_eq_some_iff.mp H
  obtain ⟨t1851, A110, H⟩ := H
  (try dsimp only at H)
  have A11 := A_ A110
  clear A110
  replace H := Option.bind_eq_some_iff.mp H
  obtain ⟨t1852, A120, H⟩ := H
  (try dsimp only at H)
  have A12 := A_ A120
  clear A120
  by_cases c13 : t1852 = true
  ·subst c13
   rw [if_pos rfl] at H
   replace H := Option.bind_eq_some_iff.mp H
   obtain ⟨t1853, A140, H⟩ := H
   (try dsimp only at H)
   have A14 := A_ A140
   clear A140
   by_cases c15 : t1853 = true
   ·subst c15
    rw [if_pos rfl] at H
    replace H := Option.bind_eq_some_iff.mp H
    obtain ⟨t1854, A160, H⟩ := H
    (try dsimp only at H)
    have A16 := A_ A160
    clear A160
    by_cases c17 : t1854 = true
    ·subst c17
     rw [if_pos rfl] at H
     replace H := Option.bind_eq_some_iff.mp H
     obtain ⟨t1855, A180, H⟩ := H
     (try dsimp only at H)
     have A18 := A_ A180
     clear A180
     by_cases c19 : t1855 = true
     ·subst c19
      rw [if_pos rfl] at H
      by_cases c20 : t1819 = true
      ·subst c20
       rw [if_pos rfl] at H
       by_cases c21 : t1834 = true
       ·subst c21
        rw [if_pos rfl] at H
        replace H := Option.bind_eq_some_iff.mp H
        obtain ⟨t1856, A220, H⟩ := H
        (try dsimp only at H)
        have A22 := A_ A220
        clear A220
        by_cases c23 : t1856 = t1851
        ·rw [if_pos c23] at H
         have c23b0 : (t1856 == t1851) = true := beq_iff_eq.mpr c23
         have c23b1 : (t1856 != t1851) = false := bne_eq_false_iff_eq.mpr c23
         clear c23
         replace H := Option.bind_eq_some_iff.mp H
         obtain ⟨t1857, A240, H⟩ := H
         (try dsimp only at H)
         have A24 := A_ A240
         clear A240
         by_cases c25 : t1857 = t1851
         ·rw [if_pos c25] at H
          have c25b0 : (t1857 == t1851) = true := beq_iff_eq.mpr c25
          have c25b1 : (t1857 != t1851) = false := bne_eq_false_iff_eq.mpr c25
          clear c25
          by_cases c26 : t1815 = (wrap64 (t1801 + 1))
          ·rw [if_pos c26] at H
           have c26b0 : (t1815 == (wrap64 (t1801 + 1))) = true := beq_iff_eq.mpr c26
           have c26b1 : (t1815 != (wrap64 (t1801 + 1))) = false := bne_eq_false_iff_eq.mpr c26
           clear c26
           replace H := Option.bind_eq_some_iff.mp H
           obtain ⟨t1858, A270, H⟩ := H
           (try dsimp only at H)
           have A27 := A_ A270
           clear A270
           by_cases c28 : t1858 = true
           ·subst c28
            rw [if_pos rfl] at H
            replace H := Option.bind_eq_some_iff.mp H
            obtain ⟨t1859, A290, H⟩ := H
            (try dsimp only at H)
            have A29 := A_ A290
            clear A290
            replace H := Option.bind_eq_some_iff.mp H
            obtain ⟨t1860, A300, H⟩ := H
            (try dsimp only at H)
            have A30 := A_ A300
            clear A300
            obtain rfl := Option.some.inj H
            go_enter Try.func12, Try.ntmps12
            try go_wp2_with (first | ((with_reducible refine gate_callee (f := 43) rfl ?_); refine gL (some 12) Try.func43 #[.slice A0 l0.length c0] ?_; (with_reducible refine (laws_big.calls _ _ l0 false _ ?side1 ?side2 A2.out).mono ?_); (case side1 => repeat (first | exact HR0.out | (with_reducible refine Kd.C_alloc ?_ _) | (with_reducible refine Kd.C_drewN ?_ _) | (with_reducible refine Kd.C_drew ?_))); (case side2 => exact HC0.out); rintro e w' ⟨rfl, ⟨nd, rfl⟩⟩; refine ⟨_, rfl, ?_⟩) | ((with_reducible refine gate_callee (f := 44) rfl ?_); refine gL (some 14) Try.func44 #[.slice A0 l0.length c0] ?_; (with_reducible refine (spec_DrawShop.calls k _ _ l0 t1793 t1796 t1797 t1800 t1801 t1802 _ ?side1 ?side2 A4.out).mono ?_); (case side1 => repeat (first | exact HR0.out | (with_reducible refine Kd.C_alloc ?_ _) | (with_reducible refine Kd.C_drewN ?_ _) | (with_reducible refine Kd.C_drew ?_))); (case side2 => exact HC0.out); rintro e w31 ⟨v1794, v1798, v1803, rfl, ho0, ho1, ho2, hb⟩; refine ⟨_, rfl, ?_⟩; have n0_ := A_ (Kd.R_lower ho0 (below_size (oB HB))); have n1_ := A_ (Kd.R_lower ho1 (below_size (oB HB))); have n2_ := A_ (Kd.R_lower ho2 (below_size (oB HB))); have n3_ := A_ (below_step (oB HB) hb); clear HB; have HO1795 := n0_; have HO1799 := n1_; have HO1804 := n2_; have HB := n3_; clear n0_ n1_ n2_ n3_; (try clear hb); (try clear hb2); (try clear hk); (try clear hi); (try clear ho0); (try clear ho1); (try clear ho2)) | ((with_reducible refine gate_dst (N := 3) rfl ?_); refine bX (N := 3) (cs := #[.slice none 0 0, .int .i64 0, .slice none 0 0, .int .i64 0, .int .i64 0, .slice none 0 0]) (t := 36) ?_; intro gb1805 hg w32 hbox hb; have n0_ := A_ (Kd.R_below (oR HO1795) hb); have n1_ := A_ (Kd.R_below (oR HO1799) hb); have n2_ := A_ (Kd.R_below (oR HO1804) hb); have n3_ := A_ (below_step (oB HB) hb); have n4_ := A_ (hbox); have n5_ := A_ ((by rw [hg]; exact (below_size (oB HB)) : w.heap.size ≤ gb1805)); have n6_ := A_ ((by rw [hg]; exact (below_size (oB HB)) : w.heap.size ≤ gb1805)); clear HO1795; clear HO1799; clear HO1804; clear HB; have HO1795 := n0_; have HO1799 := n1_; have HO1804 := n2_; have HB := n3_; have BK1805 := n4_; have GW1805 := n5_; have GE1805 := n6_; clear n0_ n1_ n2_ n3_ n4_ n5_ n6_; clear hb hbox hg; obtain ⟨Ao33, co33, eo33⟩ := Kd.R_slice HO1795.out; subst eo33; have hcz34_0 := cz BK1805 0; have hcz34_1 := cz BK1805 1; have hcz34_2 := cz BK1805 2; have hcz34_3 := cz BK1805 3; have hcz34_4 := cz BK1805 4; have hcz34_5 := cz BK1805 5; have hfz34_0 := blk_frozen BK1805.out 0; have hfz34_1 := blk_frozen BK1805.out 1; have hfz34_2 := blk_frozen BK1805.out 2; have hfz34_3 := blk_frozen BK1805.out 3; have hfz34_4 := blk_frozen BK1805.out 4; have hfz34_5 := blk_frozen BK1805.out 5; obtain ⟨Ao35, co35, eo35⟩ := Kd.R_slice HO1799.out; subst eo35; obtain ⟨Ao36, co36, eo36⟩ := Kd.R_slice HO1804.out; subst eo36))
            have n0_ : Aside0 (Kd.R k96 96 ((((((w32.setCell ⟨gb1805, 0, none⟩ (.slice Ao33 t1793.length co33)).setCell ⟨gb1805, 1, none⟩ (.int .i64 t1796)).setCell ⟨gb1805, 2, none⟩ (.slice Ao35 t1797.length co35)).setCell ⟨gb1805, 3, none⟩ (.int .i64 t1800)).setCell ⟨gb1805, 4, none⟩ (.int .i64 t1801)).setCell ⟨gb1805, 5, none⟩ (.slice Ao36 t1802.length co36)) w.heap.size (fun _ => True) (.slice Ao33 t1793.length co33) t1793) := ⟨by (with_reducible repeat (first | apply Kd.R_alloc | apply Kd.R_drewN | apply Kd.R_drew)); exact Kd.R_mono (Kd.R_far (p := ⟨gb1805, 5, none⟩) (Kd.R_far (p := ⟨gb1805, 4, none⟩) (Kd.R_far (p := ⟨gb1805, 3, none⟩) (Kd.R_far (p := ⟨gb1805, 2, none⟩) (Kd.R_far (p := ⟨gb1805, 1, none⟩) (Kd.R_far (p := ⟨gb1805, 0, none⟩) (Kd.R_types HO1795.out BK1805.out (by decide)) (fun _ hk => hk.2) (.slice Ao33 t1793.length co33)) (fun _ hk => hk.2) (.int .i64 t1796)) (fun _ hk => hk.2) (.slice Ao35 t1797.length co35)) (fun _ hk => hk.2) (.int .i64 t1800)) (fun _ hk => hk.2) (.int .i64 t1801)) (fun _ hk => hk.2) (.slice Ao36 t1802.length co36)) (fun _ hk => trivial)⟩
            have n1_ : Aside0 (Kd.R (Kd.int .i64) 3 ((((((w32.setCell ⟨gb1805, 0, none⟩ (.slice Ao33 t1793.length co33)).setCell ⟨gb1805, 1, none⟩ (.int .i64 t1796)).setCell ⟨gb1805, 2, none⟩ (.slice Ao35 t1797.length co35)).setCell ⟨gb1805, 3, none⟩ (.int .i64 t1800)).setCell ⟨gb1805, 4, none⟩ (.int .i64 t1801)).setCell ⟨gb1805, 5, none⟩ (.slice Ao36 t1802.length co36)) w.heap.size (fun _ => True) (.slice Ao35 t1797.length co35) t1797) := ⟨by (with_reducible repeat (first | apply Kd.R_alloc | apply Kd.R_drewN | apply Kd.R_drew)); exact Kd.R_mono (Kd.R_far (p := ⟨gb1805, 5, none⟩) (Kd.R_far (p := ⟨gb1805, 4, none⟩) (Kd.R_far (p := ⟨gb1805, 3, none⟩) (Kd.R_far (p := ⟨gb1805, 2, none⟩) (Kd.R_far (p := ⟨gb1805, 1, none⟩) (Kd.R_far (p := ⟨gb1805, 0, none⟩) (Kd.R_types HO1799.out BK1805.out (by decide)) (fun _ hk => hk.2) (.slice Ao33 t1793.length co33)) (fun _ hk => hk.2) (.int .i64 t1796)) (fun _ hk => hk.2) (.slice Ao35 t1797.length co35)) (fun _ hk => hk.2) (.int .i64 t1800)) (fun _ hk => hk.2) (.int .i64 t1801)) (fun _ hk => hk.2) (.slice Ao36 t1802.length co36)) (fun _ hk => trivial)⟩
            have n2_ : Aside0 (Kd.R k74 74 ((((((w32.setCell ⟨gb1805, 0, none⟩ (.slice Ao33 t1793.length co33)).setCell ⟨gb1805, 1, none⟩ (.int .i64 t1796)).setCell ⟨gb1805, 2, none⟩ (.slice Ao35 t1797.length co35)).setCell ⟨gb1805, 3, none⟩ (.int .i64 t1800)).setCell ⟨gb1805, 4, none⟩ (.int .i64 t1801)).setCell ⟨gb1805, 5, none⟩ (.slice Ao36 t1802.length co36)) w.heap.size (fun _ => True) (.slice Ao36 t1802.length co36) t1802) := ⟨by (with_reducible repeat (first | apply Kd.R_alloc | apply Kd.R_drewN | apply Kd.R_drew)); exact Kd.R_mono (Kd.R_far (p := ⟨gb1805, 5, none⟩) (Kd.R_far (p := ⟨gb1805, 4, none⟩) (Kd.R_far (p := ⟨gb1805, 3, none⟩) (Kd.R_far (p := ⟨gb1805, 2, none⟩) (Kd.R_far (p := ⟨gb1805, 1, none⟩) (Kd.R_far (p := ⟨gb1805, 0, none⟩) (Kd.R_types HO1804.out BK1805.out (by decide)) (fun _ hk => hk.2) (.slice Ao33 t1793.length co33)) (fun _ hk => hk.2) (.int .i64 t1796)) (fun _ hk => hk.2) (.slice Ao35 t1797.length co35)) (fun _ hk => hk.2) (.int .i64 t1800)) (fun _ hk => hk.2) (.int .i64 t1801)) (fun _ hk => hk.2) (.slice Ao36 t1802.length co36)) (fun _ hk => trivial)⟩
            have n3_ : Aside0 (((((((w32.setCell ⟨gb1805, 0, none⟩ (.slice Ao33 t1793.length co33)).setCell ⟨gb1805, 1, none⟩ (.int .i64 t1796)).setCell ⟨gb1805, 2, none⟩ (.slice Ao35 t1797.length co35)).setCell ⟨gb1805, 3, none⟩ (.int .i64 t1800)).setCell ⟨gb1805, 4, none⟩ (.int .i64 t1801)).setCell ⟨gb1805, 5, none⟩ (.slice Ao36 t1802.length co36)).heap[gb1805]? = some (.cells #[.slice Ao33 t1793.length co33, .int .i64 t1796, .slice Ao35 t1797.length co35, .int .i64 t1800, .int .i64 t1801, .slice Ao36 t1802.length co36] 36 (0, 0))) := ⟨by (with_reducible repeat (first | refine blk_drewN ?_ _ | refine blk_drew ?_ | refine blk_alloc ?_ _)); refine blk_put (cs := #[.slice Ao33 t1793.length co33, .int .i64 t1796, .slice Ao35 t1797.length co35, .int .i64 t1800, .int .i64 t1801, .slice none 0 0]) ?_ 5 _ rfl; (with_reducible repeat (first | refine blk_drewN ?_ _ | refine blk_drew ?_ | refine blk_alloc ?_ _)); refine blk_put (cs := #[.slice Ao33 t1793.length co33, .int .i64 t1796, .slice Ao35 t1797.length co35, .int .i64 t1800, .int .i64 0, .slice none 0 0]) ?_ 4 _ rfl; (with_reducible repeat (first | refine blk_drewN ?_ _ | refine blk_drew ?_ | refine blk_alloc ?_ _)); refine blk_put (cs := #[.slice Ao33 t1793.length co33, .int .i64 t1796, .slice Ao35 t1797.length co35, .int .i64 0, .int .i64 0, .slice none 0 0]) ?_ 3 _ rfl; (with_reducible repeat (first | refine blk_drewN ?_ _ | refine blk_drew ?_ | refine blk_alloc ?_ _)); refine blk_put (cs := #[.slice Ao33 t1793.length co33, .int .i64 t1796, .slice none 0 0, .int .i64 0, .int .i64 0, .slice none 0 0]) ?_ 2 _ rfl; (with_reducible repeat (first | refine blk_drewN ?_ _ | refine blk_drew ?_ | refine blk_alloc ?_ _)); refine blk_put (cs := #[.slice Ao33 t1793.length co33, .int .i64 0, .slice none 0 0, .int .i64 0, .int .i64 0, .slice none 0 0]) ?_ 1 _ rfl; (with_reducible repeat (first | refine blk_drewN ?_ _ | refine blk_drew ?_ | refine blk_alloc ?_ _)); refine blk_put (cs := #[.slice none 0 0, .int .i64 0, .slice none 0 0, .int .i64 0, .int .i64 0, .slice none 0 0]) ?_ 0 _ rfl; (with_reducible repeat (first | refine blk_drewN ?_ _ | refine blk_drew ?_ | refine blk_alloc ?_ _)); exact BK1805.out⟩
            have n4_ : Aside0 (Below w.heap.size w ((((((w32.setCell ⟨gb1805, 0, none⟩ (.slice Ao33 t1793.length co33)).setCell ⟨gb1805, 1, none⟩ (.int .i64 t1796)).setCell ⟨gb1805, 2, none⟩ (.slice Ao35 t1797.length co35)).setCell ⟨gb1805, 3, none⟩ (.int .i64 t1800)).setCell ⟨gb1805, 4, none⟩ (.int .i64 t1801)).setCell ⟨gb1805, 5, none⟩ (.slice Ao36 t1802.length co36))) := ⟨oB HB⟩
            (try clear HO1795)
            (try clear HO1799)
            (try clear HO1804)
            (try clear BK1805)
            (try clear HB)
            generalize ((((((w32.setCell ⟨gb1805, 0, none⟩ (.slice Ao33 t1793.length co33)).setCell ⟨gb1805, 1, none⟩ (.int .i64 t1796)).setCell ⟨gb1805, 2, none⟩ (.slice Ao35 t1797.length co35)).setCell ⟨gb1805, 3, none⟩ (.int .i64 t1800)).setCell ⟨gb1805, 4, none⟩ (.int .i64 t1801)).setCell ⟨gb1805, 5, none⟩ (.slice Ao36 t1802.length co36)) = w37 at n0_ n1_ n2_ n3_ n4_ ⊢
            have HO1795 := n0_
            have HO1799 := n1_
            have HO1804 := n2_
            have BK1805 := n3_
            have HB := n4_
            clear n0_ n1_ n2_ n3_ n4_
            have n0_ := A_ (Kd.R_drew HO1795.out)
            have n1_ := A_ (Kd.R_drew HO1799.out)
            have n2_ := A_ (Kd.R_drew HO1804.out)
            have n3_ := A_ (blk_drew BK1805.out)
            have n4_ := A_ (below_drew1 HB.out)
            clear HO1795
            clear HO1799
            clear HO1804
            clear BK1805
            clear HB
            have HO1795 := n0_
            have HO1799 := n1_
            have HO1804 := n2_
            have BK1805 := n3_
            have HB := n4_
            clear n0_ n1_ n2_ n3_ n4_
            refine start_ (n := 12) (S := fun w' => w'.cell? ⟨gb1805, 0, none⟩ = some (.slice Ao33 t1793.length co33) ∧ w'.cell? ⟨gb1805, 1, none⟩ = some (.int .i64 t1796) ∧ w'.cell? ⟨gb1805, 2, none⟩ = some (.slice Ao35 t1797.length co35) ∧ w'.cell? ⟨gb1805, 3, none⟩ = some (.int .i64 t1800) ∧ w'.cell? ⟨gb1805, 4, none⟩ = some (.int .i64 t1801) ∧ w'.cell? ⟨gb1805, 5, none⟩ = some (.slice Ao36 t1802.length co36)) (ds := []) #[false, false, false, false, false, false, false, false, false, false, false, false] (by kernel_rfl) rfl rfl ⟨cz BK1805 0, cz BK1805 1, cz BK1805 2, cz BK1805 3, cz BK1805 4, cz BK1805 5⟩ (fun hHeld => ?_); refine with_tabW laws_FnShops.tab4 laws_FnShops.bits4 (fun HT_ HW_ => ?_)
            generalize w37.drew = w38 at HO1795 HO1799 HO1804 BK1805 HB hHeld ⊢
            refine pA 1 (some 17) HT_.out ?_
            refine pT 0 (some 16) HT_.out HW_.out hHeld ?_
            refine join_ (σ := Value × Value × Value × Nat) 2 #[true, true, true, true, true, true, true, true, true, true, false, false] (fun s_ => [(18, .int .i64 t1806), (21, .tuple #[.agg #[s_.1, .int .i64 t1810, s_.2.1, .int .i64 t1814, .int .i64 t1815, s_.2.2.1], .bool true]), (4, .pointer (some ⟨s_.2.2.2, 0, none⟩)), (19, .int .i64 (Int.tmod t1806 50)), (20, .int .i64 (wrap64 ((Int.tmod t1806 50) - 10))), (15, .tuple #[.agg #[s_.1, .int .i64 t1810, s_.2.1, .int .i64 t1814, .int .i64 t1815, s_.2.2.1], .bool true]), (22, .agg #[s_.1, .int .i64 t1810, s_.2.1, .int .i64 t1814, .int .i64 t1815, s_.2.2.1]), (23, .bool true)]) (fun s_ w' => (w'.cell? ⟨gb1805, 0, none⟩ = some (.slice Ao33 t1793.length co33) ∧ w'.cell? ⟨gb1805, 1, none⟩ = some (.int .i64 t1796) ∧ w'.cell? ⟨gb1805, 2, none⟩ = some (.slice Ao35 t1797.length co35) ∧ w'.cell? ⟨gb1805, 3, none⟩ = some (.int .i64 t1800) ∧ w'.cell? ⟨gb1805, 4, none⟩ = some (.int .i64 t1801) ∧ w'.cell? ⟨gb1805, 5, none⟩ = some (.slice Ao36 t1802.length co36)) ∧ (Kd.R k96 96 w' w.heap.size (fun k_ => some k_ ≠ (s_.1 : Value).ownBlock) (.slice Ao33 t1793.length co33) t1793) ∧ (Kd.R (Kd.int .i64) 3 w' w.heap.size (fun k_ => some k_ ≠ (s_.2.1 : Value).ownBlock) (.slice Ao35 t1797.length co35) t1797) ∧ (Kd.R k74 74 w' w.heap.size (fun k_ => some k_ ≠ (s_.2.2.1 : Value).ownBlock) (.slice Ao36 t1802.length co36) t1802) ∧ (Kd.R k96 96 w' w.heap.size (fun k_ => some k_ ≠ (.slice Ao33 t1793.length co33 : Value).ownBlock) s_.1 t1807) ∧ (Kd.R (Kd.int .i64) 3 w' w.heap.size (fun k_ => some k_ ≠ (.slice Ao35 t1797.length co35 : Value).ownBlock) s_.2.1 t1811) ∧ (Kd.R k74 74 w' w.heap.size (fun k_ => some k_ ≠ (.slice Ao36 t1802.length co36 : Value).ownBlock) s_.2.2.1 t1816) ∧ (w'.heap[gb1805]? = some (.cells #[.slice Ao33 t1793.length co33, .int .i64 t1796, .slice Ao35 t1797.length co35, .int .i64 t1800, .int .i64 t1801, .slice Ao36 t1802.length co36] 36 (0, 0))) ∧ (w'.heap[s_.2.2.2]? = some (.cells #[.slice none 0 0, .int .i64 0, .slice none 0 0, .int .i64 0, .int .i64 0, .slice none 0 0] 36 (0, 0))) ∧ (w.heap.size ≤ s_.2.2.2) ∧ (w.heap.size ≤ s_.2.2.2) ∧ (gb1805 ≠ s_.2.2.2) ∧ (s_.2.2.2 ≠ gb1805) ∧ (Below w.heap.size w w')) ?_ ?_
            rotate_left
            ·intro hCont
             refine two_ (i := 2) (j := 9) (Ni := some 18) (Nj := some 4) #[true, true, true, false, false, false, false, false, false, false, false, false] #[true, true, false, false, false, false, false, false, false, true, false, false] rfl rfl rfl rfl (two_of HT_.out (by kernel_rfl)) (by decide) (by decide) (fun K hK => ?_) (fun K hK => ?_)
             ·skip
              refine goes_ Try.func45 (by kernel_rfl) rfl #[.slice A0 l0.length c0, .int .i64 0] (by rfl) rfl rfl (by (try simp only [List.map_toArray, List.map_cons, List.map_nil]); first | done | rfl | (simp only [List.length_drop, List.length_take]; rfl)) ?_
              with_reducible refine (laws_at.calls _ _ l0 0 t1806 _ ?side1 ?side2 A5.out).mono ?_
              (case side1 => exact oc_ HR0.out)
              (case side2 => exact HC0.out)
              rintro e w' ⟨rfl, ⟨nd, rfl⟩⟩
              refine ⟨_, rfl, ?_⟩
              refine hK.out _ _ ⟨cz BK1805 0, cz BK1805 1, cz BK1805 2, cz BK1805 3, cz BK1805 4, cz BK1805 5⟩ (fun hHeld => ?_)
              clear hK K
              refine norm_ (a' := ?_) ?_ ?_
              rotate_left
              ·show Act.put _ (some 18) _ = _
               simp only [Act.put, List.setIfInBounds_toArray, List.set_cons_zero, List.set_cons_succ, i64_w, i32_w]
               rfl
              refine pA 3 (some 19) HT_.out ?_
              refine pA 4 (some 20) HT_.out ?_
              refine two_ (i := 5) (j := 9) (Ni := some 21) (Nj := some 4) #[true, true, true, true, true, true, false, false, false, false, false, false] #[true, true, true, true, true, false, false, false, false, true, false, false] rfl rfl rfl rfl (two_of HT_.out (by kernel_rfl)) (by decide) (by decide) (fun K hK => ?_) (fun K hK => ?_)
              ·skip
               refine goes_ Try.func35 (by kernel_rfl) rfl #[.agg #[.slice Ao33 t1793.length co33, .int .i64 t1796, .slice Ao35 t1797.length co35, .int .i64 t1800, .int .i64 t1801, .slice Ao36 t1802.length co36], .int .i64 (wrap64 ((Int.tmod t1806 50) - 10))] (by rfl) rfl rfl (by (try simp only [List.map_toArray, List.map_cons, List.map_nil]); first | done | rfl | (simp only [List.length_drop, List.length_take]; rfl)) ?_
               with_reducible refine (impl_ShopWarm.calls k _ _ t1793 t1796 _ _ t1797 t1800 t1801 _ _ t1802 (wrap64 ((Int.tmod t1806 50) - 10)) t1807 t1810 t1811 t1814 t1815 t1816 true _ ?side1 ?side2 ?side3 ?side4 ?side5 ?side6 A6.out).mono ?_
               (case side1 => repeat (first | exact (Kd.R_reads' HO1795.out).2.2 | (with_reducible refine Kd.C_alloc ?_ _) | (with_reducible refine Kd.C_drewN ?_ _) | (with_reducible refine Kd.C_drew ?_)))
               (case side2 => exact (Kd.R_reads' HO1795.out).2.1)
               (case side3 => repeat (first | exact (Kd.R_reads' HO1799.out).2.2 | (with_reducible refine Kd.C_alloc ?_ _) | (with_reducible refine Kd.C_drewN ?_ _) | (with_reducible refine Kd.C_drew ?_)))
               (case side4 => exact (Kd.R_reads' HO1799.out).2.1)
               (case side5 => repeat (first | exact (Kd.R_reads' HO1804.out).2.2 | (with_reducible refine Kd.C_alloc ?_ _) | (with_reducible refine Kd.C_drewN ?_ _) | (with_reducible refine Kd.C_drew ?_)))
               (case side6 => exact (Kd.R_reads' HO1804.out).2.1)
               rintro e w39 ⟨v1808, v1812, v1817, rfl, ho0, ho1, ho2, hb⟩
               refine ⟨_, rfl, ?_⟩
               have n0_ := A_ (Kd.R_elder' (oR HO1795) (Kd.R_base ho0) hb)
               have n1_ := A_ (Kd.R_elder' (oR HO1799) (Kd.R_base ho1) hb)
               have n2_ := A_ (Kd.R_elder' (oR HO1804) (Kd.R_base ho2) hb)
               have n3_ := A_ (Kd.R_lower (Kd.R_new' ho0 (Kd.R_lt (oR HO1795))) (below_size (oB HB)))
               have n4_ := A_ (Kd.R_lower (Kd.R_new' ho1 (Kd.R_lt (oR HO1799))) (below_size (oB HB)))
               have n5_ := A_ (Kd.R_lower (Kd.R_new' ho2 (Kd.R_lt (oR HO1804))) (below_size (oB HB)))
               have n6_ := A_ (bb BK1805 hb)
               have n7_ := A_ (below_step (oB HB) hb)
               clear HO1795
               clear HO1799
               clear HO1804
               clear BK1805
               clear HB
               have HO1795 := n0_
               have HO1799 := n1_
               have HO1804 := n2_
               have HO1809 := n3_
               have HO1813 := n4_
               have HO1818 := n5_
               have BK1805 := n6_
               have HB := n7_
               clear n0_ n1_ n2_ n3_ n4_ n5_ n6_ n7_
               (try clear hb)
               (try clear hb2)
               (try clear hk)
               (try clear hi)
               (try clear ho0)
               (try clear ho1)
               (try clear ho2)
               refine hK.out _ _ ⟨cz BK1805 0, cz BK1805 1, cz BK1805 2, cz BK1805 3, cz BK1805 4, cz BK1805 5⟩ (fun hHeld => ?_)
               clear hK K
               refine norm_ (a' := ?_) ?_ ?_
               rotate_left
               ·show Act.put _ (some 21) _ = _
                simp only [Act.put, List.setIfInBounds_toArray, List.set_cons_zero, List.set_cons_succ, i64_w, i32_w]
                rfl
               refine pA 6 (some 15) HT_.out ?_
               refine pA 7 (some 22) HT_.out ?_
               refine pA 8 (some 23) HT_.out ?_
               refine one_ (i := 9) (N := some 4) #[true, true, true, true, true, true, true, true, true, true, false, false] rfl rfl (one_of HT_.out (by kernel_rfl)) (by decide) (fun K hK => ?_)
               refine box_step ?hg (N := 4) ?hd (cs := #[.slice none 0 0, .int .i64 0, .slice none 0 0, .int .i64 0, .int .i64 0, .slice none 0 0]) (t := 36) ?hr ?_; (case hd => rfl); (case hg => rfl); (case hr => first | (go_simp; done) | (go_simp; rfl))
               intro gb1820 hg w40 hbox hb
               have n0_ := A_ (Kd.R_below (oR HO1795) hb)
               have n1_ := A_ (Kd.R_below (oR HO1799) hb)
               have n2_ := A_ (Kd.R_below (oR HO1804) hb)
               have n3_ := A_ (Kd.R_below (oR HO1809) hb)
               have n4_ := A_ (Kd.R_below (oR HO1813) hb)
               have n5_ := A_ (Kd.R_below (oR HO1818) hb)
               have n6_ := A_ (bb BK1805 hb)
               have n7_ := A_ (below_step (oB HB) hb)
               have n8_ := A_ (hbox)
               have n9_ := A_ ((by rw [hg]; exact (below_size (oB HB)) : w.heap.size ≤ gb1820))
               have n10_ := A_ ((by rw [hg]; exact (below_size (oB HB)) : w.heap.size ≤ gb1820))
               have n11_ := A_ (nL BK1805 hg)
               have n12_ := A_ (nG BK1805 hg)
               clear HO1795
               clear HO1799
               clear HO1804
               clear HO1809
               clear HO1813
               clear HO1818
               clear BK1805
               clear HB
               have HO1795 := n0_
               have HO1799 := n1_
               have HO1804 := n2_
               have HO1809 := n3_
               have HO1813 := n4_
               have HO1818 := n5_
               have BK1805 := n6_
               have HB := n7_
               have BK1820 := n8_
               have GW1820 := n9_
               have GE1820 := n10_
               have NB1805_1820 := n11_
               have NB1820_1805 := n12_
               clear n0_ n1_ n2_ n3_ n4_ n5_ n6_ n7_ n8_ n9_ n10_ n11_ n12_
               clear hb hbox hg
               refine hK.out _ _ ⟨cz BK1805 0, cz BK1805 1, cz BK1805 2, cz BK1805 3, cz BK1805 4, cz BK1805 5⟩ (fun hHeld => ?_)
               clear hK K
               refine norm_ (a' := ?_) ?_ ?_
               rotate_left
               ·show Act.put _ (some 4) _ = _
                simp only [Act.put, List.setIfInBounds_toArray, List.set_cons_zero, List.set_cons_succ, i64_w, i32_w]
                rfl
               exact norm_ (by simp only [putAll, Act.put, List.setIfInBounds_toArray, List.set_cons_zero, List.set_cons_succ]) (hCont (v1808, v1812, v1817, gb1820) _ ⟨hHeld, (by (with_reducible repeat (first | apply Kd.R_alloc | apply Kd.R_drewN | apply Kd.R_drew)); exact Kd.R_mono HO1795.out (fun _ hk => hk.2)), (by (with_reducible repeat (first | apply Kd.R_alloc | apply Kd.R_drewN | apply Kd.R_drew)); exact Kd.R_mono HO1799.out (fun _ hk => hk.2)), (by (with_reducible repeat (first | apply Kd.R_alloc | apply Kd.R_drewN | apply Kd.R_drew)); exact Kd.R_mono HO1804.out (fun _ hk => hk.2)), (by (with_reducible repeat (first | apply Kd.R_alloc | apply Kd.R_drewN | apply Kd.R_drew)); exact Kd.R_mono HO1809.out (fun _ hk => hk.2)), (by (with_reducible repeat (first | apply Kd.R_alloc | apply Kd.R_drewN | apply Kd.R_drew)); exact Kd.R_mono HO1813.out (fun _ hk => hk.2)), (by (with_reducible repeat (first | apply Kd.R_alloc | apply Kd.R_drewN | apply Kd.R_drew)); exact Kd.R_mono HO1818.out (fun _ hk => hk.2)), (oK BK1805), (oK BK1820), GW1820.out, GE1820.out, NB1805_1820.out, NB1820_1805.out, (oB HB)⟩)
              ·skip
               refine box_step ?hg (N := 4) ?hd (cs := #[.slice none 0 0, .int .i64 0, .slice none 0 0, .int .i64 0, .int .i64 0, .slice none 0 0]) (t := 36) ?hr ?_; (case hd => rfl); (case hg => rfl); (case hr => first | (go_simp; done) | (go_simp; rfl))
               intro gb1820 hg w39 hbox hb
               have n0_ := A_ (Kd.R_below (oR HO1795) hb)
               have n1_ := A_ (Kd.R_below (oR HO1799) hb)
               have n2_ := A_ (Kd.R_below (oR HO1804) hb)
               have n3_ := A_ (bb BK1805 hb)
               have n4_ := A_ (below_step (oB HB) hb)
               have n5_ := A_ (hbox)
               have n6_ := A_ ((by rw [hg]; exact (below_size (oB HB)) : w.heap.size ≤ gb1820))
               have n7_ := A_ ((by rw [hg]; exact (below_size (oB HB)) : w.heap.size ≤ gb1820))
               have n8_ := A_ (nL BK1805 hg)
               have n9_ := A_ (nG BK1805 hg)
               clear HO1795
               clear HO1799
               clear HO1804
               clear BK1805
               clear HB
               have HO1795 := n0_
               have HO1799 := n1_
               have HO1804 := n2_
               have BK1805 := n3_
               have HB := n4_
               have BK1820 := n5_
               have GW1820 := n6_
               have GE1820 := n7_
               have NB1805_1820 := n8_
               have NB1820_1805 := n9_
               clear n0_ n1_ n2_ n3_ n4_ n5_ n6_ n7_ n8_ n9_
               clear hb hbox hg
               refine hK.out _ _ ⟨cz BK1805 0, cz BK1805 1, cz BK1805 2, cz BK1805 3, cz BK1805 4, cz BK1805 5⟩ (fun hHeld => ?_)
               clear hK K
               refine norm_ (a' := ?_) ?_ ?_
               rotate_left
               ·show Act.put _ (some 4) _ = _
                simp only [Act.put, List.setIfInBounds_toArray, List.set_cons_zero, List.set_cons_succ, i64_w, i32_w]
                rfl
               refine one_ (i := 5) (N := some 21) #[true, true, true, true, true, true, false, false, false, true, false, false] rfl rfl (one_of HT_.out (by kernel_rfl)) (by decide) (fun K hK => ?_)
               refine goes_ Try.func35 (by kernel_rfl) rfl #[.agg #[.slice Ao33 t1793.length co33, .int .i64 t1796, .slice Ao35 t1797.length co35, .int .i64 t1800, .int .i64 t1801, .slice Ao36 t1802.length co36], .int .i64 (wrap64 ((Int.tmod t1806 50) - 10))] (by rfl) rfl rfl (by (try simp only [List.map_toArray, List.map_cons, List.map_nil]); first | done | rfl | (simp only [List.length_drop, List.length_take]; rfl)) ?_
               with_reducible refine (impl_ShopWarm.calls k _ _ t1793 t1796 _ _ t1797 t1800 t1801 _ _ t1802 (wrap64 ((Int.tmod t1806 50) - 10)) t1807 t1810 t1811 t1814 t1815 t1816 true _ ?side1 ?side2 ?side3 ?side4 ?side5 ?side6 A6.out).mono ?_
               (case side1 => repeat (first | exact (Kd.R_reads' HO1795.out).2.2 | (with_reducible refine Kd.C_alloc ?_ _) | (with_reducible refine Kd.C_drewN ?_ _) | (with_reducible refine Kd.C_drew ?_)))
               (case side2 => exact (Kd.R_reads' HO1795.out).2.1)
               (case side3 => repeat (first | exact (Kd.R_reads' HO1799.out).2.2 | (with_reducible refine Kd.C_alloc ?_ _) | (with_reducible refine Kd.C_drewN ?_ _) | (with_reducible refine Kd.C_drew ?_)))
               (case side4 => exact (Kd.R_reads' HO1799.out).2.1)
               (case side5 => repeat (first | exact (Kd.R_reads' HO1804.out).2.2 | (with_reducible refine Kd.C_alloc ?_ _) | (with_reducible refine Kd.C_drewN ?_ _) | (with_reducible refine Kd.C_drew ?_)))
               (case side6 => exact (Kd.R_reads' HO1804.out).2.1)
               rintro e w40 ⟨v1808, v1812, v1817, rfl, ho0, ho1, ho2, hb⟩
               refine ⟨_, rfl, ?_⟩
               have n0_ := A_ (Kd.R_elder' (oR HO1795) (Kd.R_base ho0) hb)
               have n1_ := A_ (Kd.R_elder' (oR HO1799) (Kd.R_base ho1) hb)
               have n2_ := A_ (Kd.R_elder' (oR HO1804) (Kd.R_base ho2) hb)
               have n3_ := A_ (Kd.R_lower (Kd.R_new' ho0 (Kd.R_lt (oR HO1795))) (below_size (oB HB)))
               have n4_ := A_ (Kd.R_lower (Kd.R_new' ho1 (Kd.R_lt (oR HO1799))) (below_size (oB HB)))
               have n5_ := A_ (Kd.R_lower (Kd.R_new' ho2 (Kd.R_lt (oR HO1804))) (below_size (oB HB)))
               have n6_ := A_ (bb BK1805 hb)
               have n7_ := A_ (bb BK1820 hb)
               have n8_ := A_ (below_step (oB HB) hb)
               clear HO1795
               clear HO1799
               clear HO1804
               clear BK1805
               clear BK1820
               clear HB
               have HO1795 := n0_
               have HO1799 := n1_
               have HO1804 := n2_
               have HO1809 := n3_
               have HO1813 := n4_
               have HO1818 := n5_
               have BK1805 := n6_
               have BK1820 := n7_
               have HB := n8_
               clear n0_ n1_ n2_ n3_ n4_ n5_ n6_ n7_ n8_
               (try clear hb)
               (try clear hb2)
               (try clear hk)
               (try clear hi)
               (try clear ho0)
               (try clear ho1)
               (try clear ho2)
               refine hK.out _ _ ⟨cz BK1805 0, cz BK1805 1, cz BK1805 2, cz BK1805 3, cz BK1805 4, cz BK1805 5⟩ (fun hHeld => ?_)
               clear hK K
               refine norm_ (a' := ?_) ?_ ?_
               rotate_left
               ·show Act.put _ (some 21) _ = _
                simp only [Act.put, List.setIfInBounds_toArray, List.set_cons_zero, List.set_cons_succ, i64_w, i32_w]
                rfl
               refine pA 6 (some 15) HT_.out ?_
               refine pA 7 (some 22) HT_.out ?_
               refine pA 8 (some 23) HT_.out ?_
               exact norm_ (by simp only [putAll, Act.put, List.setIfInBounds_toArray, List.set_cons_zero, List.set_cons_succ]) (hCont (v1808, v1812, v1817, gb1820) _ ⟨hHeld, (by (with_reducible repeat (first | apply Kd.R_alloc | apply Kd.R_drewN | apply Kd.R_drew)); exact Kd.R_mono HO1795.out (fun _ hk => hk.2)), (by (with_reducible repeat (first | apply Kd.R_alloc | apply Kd.R_drewN | apply Kd.R_drew)); exact Kd.R_mono HO1799.out (fun _ hk => hk.2)), (by (with_reducible repeat (first | apply Kd.R_alloc | apply Kd.R_drewN | apply Kd.R_drew)); exact Kd.R_mono HO1804.out (fun _ hk => hk.2)), (by (with_reducible repeat (first | apply Kd.R_alloc | apply Kd.R_drewN | apply Kd.R_drew)); exact Kd.R_mono HO1809.out (fun _ hk => hk.2)), (by (with_reducible repeat (first | apply Kd.R_alloc | apply Kd.R_drewN | apply Kd.R_drew)); exact Kd.R_mono HO1813.out (fun _ hk => hk.2)), (by (with_reducible repeat (first | apply Kd.R_alloc | apply Kd.R_drewN | apply Kd.R_drew)); exact Kd.R_mono HO1818.out (fun _ hk => hk.2)), (oK BK1805), (oK BK1820), GW1820.out, GE1820.out, NB1805_1820.out, NB1820_1805.out, (oB HB)⟩)
             ·skip
              refine box_step ?hg (N := 4) ?hd (cs := #[.slice none 0 0, .int .i64 0, .slice none 0 0, .int .i64 0, .int .i64 0, .slice none 0 0]) (t := 36) ?hr ?_; (case hd => rfl); (case hg => rfl); (case hr => first | (go_simp; done) | (go_simp; rfl))
              intro gb1820 hg w39 hbox hb
              have n0_ := A_ (Kd.R_below (oR HO1795) hb)
              have n1_ := A_ (Kd.R_below (oR HO1799) hb)
              have n2_ := A_ (Kd.R_below (oR HO1804) hb)
              have n3_ := A_ (bb BK1805 hb)
              have n4_ := A_ (below_step (oB HB) hb)
              have n5_ := A_ (hbox)
              have n6_ := A_ ((by rw [hg]; exact (below_size (oB HB)) : w.heap.size ≤ gb1820))
              have n7_ := A_ ((by rw [hg]; exact (below_size (oB HB)) : w.heap.size ≤ gb1820))
              have n8_ := A_ (nL BK1805 hg)
              have n9_ := A_ (nG BK1805 hg)
              clear HO1795
              clear HO1799
              clear HO1804
              clear BK1805
              clear HB
              have HO1795 := n0_
              have HO1799 := n1_
              have HO1804 := n2_
              have BK1805 := n3_
              have HB := n4_
              have BK1820 := n5_
              have GW1820 := n6_
              have GE1820 := n7_
              have NB1805_1820 := n8_
              have NB1820_1805 := n9_
              clear n0_ n1_ n2_ n3_ n4_ n5_ n6_ n7_ n8_ n9_
              clear hb hbox hg
              refine hK.out _ _ ⟨cz BK1805 0, cz BK1805 1, cz BK1805 2, cz BK1805 3, cz BK1805 4, cz BK1805 5⟩ (fun hHeld => ?_)
              clear hK K
              refine norm_ (a' := ?_) ?_ ?_
              rotate_left
              ·show Act.put _ (some 4) _ = _
               simp only [Act.put, List.setIfInBounds_toArray, List.set_cons_zero, List.set_cons_succ, i64_w, i32_w]
               rfl
              refine one_ (i := 2) (N := some 18) #[true, true, true, false, false, false, false, false, false, true, false, false] rfl rfl (one_of HT_.out (by kernel_rfl)) (by decide) (fun K hK => ?_)
              refine goes_ Try.func45 (by kernel_rfl) rfl #[.slice A0 l0.length c0, .int .i64 0] (by rfl) rfl rfl (by (try simp only [List.map_toArray, List.map_cons, List.map_nil]); first | done | rfl | (simp only [List.length_drop, List.length_take]; rfl)) ?_
              with_reducible refine (laws_at.calls _ _ l0 0 t1806 _ ?side1 ?side2 A5.out).mono ?_
              (case side1 => exact oc_ HR0.out)
              (case side2 => exact HC0.out)
              rintro e w' ⟨rfl, ⟨nd, rfl⟩⟩
              refine ⟨_, rfl, ?_⟩
              refine hK.out _ _ ⟨cz BK1805 0, cz BK1805 1, cz BK1805 2, cz BK1805 3, cz BK1805 4, cz BK1805 5⟩ (fun hHeld => ?_)
              clear hK K
              refine norm_ (a' := ?_) ?_ ?_
              rotate_left
              ·show Act.put _ (some 18) _ = _
               simp only [Act.put, List.setIfInBounds_toArray, List.set_cons_zero, List.set_cons_succ, i64_w, i32_w]
               rfl
              refine pA 3 (some 19) HT_.out ?_
              refine pA 4 (some 20) HT_.out ?_
              refine one_ (i := 5) (N := some 21) #[true, true, true, true, true, true, false, false, false, true, false, false] rfl rfl (one_of HT_.out (by kernel_rfl)) (by decide) (fun K hK => ?_)
              refine goes_ Try.func35 (by kernel_rfl) rfl #[.agg #[.slice Ao33 t1793.length co33, .int .i64 t1796, .slice Ao35 t1797.length co35, .int .i64 t1800, .int .i64 t1801, .slice Ao36 t1802.length co36], .int .i64 (wrap64 ((Int.tmod t1806 50) - 10))] (by rfl) rfl rfl (by (try simp only [List.map_toArray, List.map_cons, List.map_nil]); first | done | rfl | (simp only [List.length_drop, List.length_take]; rfl)) ?_
              with_reducible refine (impl_ShopWarm.calls k _ _ t1793 t1796 _ _ t1797 t1800 t1801 _ _ t1802 (wrap64 ((Int.tmod t1806 50) - 10)) t1807 t1810 t1811 t1814 t1815 t1816 true _ ?side1 ?side2 ?side3 ?side4 ?side5 ?side6 A6.out).mono ?_
              (case side1 => repeat (first | exact (Kd.R_reads' HO1795.out).2.2 | (with_reducible refine Kd.C_alloc ?_ _) | (with_reducible refine Kd.C_drewN ?_ _) | (with_reducible refine Kd.C_drew ?_)))
              (case side2 => exact (Kd.R_reads' HO1795.out).2.1)
              (case side3 => repeat (first | exact (Kd.R_reads' HO1799.out).2.2 | (with_reducible refine Kd.C_alloc ?_ _) | (with_reducible refine Kd.C_drewN ?_ _) | (with_reducible refine Kd.C_drew ?_)))
              (case side4 => exact (Kd.R_reads' HO1799.out).2.1)
              (case side5 => repeat (first | exact (Kd.R_reads' HO1804.out).2.2 | (with_reducible refine Kd.C_alloc ?_ _) | (with_reducible refine Kd.C_drewN ?_ _) | (with_reducible refine Kd.C_drew ?_)))
              (case side6 => exact (Kd.R_reads' HO1804.out).2.1)
              rintro e w40 ⟨v1808, v1812, v1817, rfl, ho0, ho1, ho2, hb⟩
              refine ⟨_, rfl, ?_⟩
              have n0_ := A_ (Kd.R_elder' (oR HO1795) (Kd.R_base ho0) hb)
              have n1_ := A_ (Kd.R_elder' (oR HO1799) (Kd.R_base ho1) hb)
              have n2_ := A_ (Kd.R_elder' (oR HO1804) (Kd.R_base ho2) hb)
              have n3_ := A_ (Kd.R_lower (Kd.R_new' ho0 (Kd.R_lt (oR HO1795))) (below_size (oB HB)))
              have n4_ := A_ (Kd.R_lower (Kd.R_new' ho1 (Kd.R_lt (oR HO1799))) (below_size (oB HB)))
              have n5_ := A_ (Kd.R_lower (Kd.R_new' ho2 (Kd.R_lt (oR HO1804))) (below_size (oB HB)))
              have n6_ := A_ (bb BK1805 hb)
              have n7_ := A_ (bb BK1820 hb)
              have n8_ := A_ (below_step (oB HB) hb)
              clear HO1795
              clear HO1799
              clear HO1804
              clear BK1805
              clear BK1820
              clear HB
              have HO1795 := n0_
              have HO1799 := n1_
              have HO1804 := n2_
              have HO1809 := n3_
              have HO1813 := n4_
              have HO1818 := n5_
              have BK1805 := n6_
              have BK1820 := n7_
              have HB := n8_
              clear n0_ n1_ n2_ n3_ n4_ n5_ n6_ n7_ n8_
              (try clear hb)
              (try clear hb2)
              (try clear hk)
              (try clear hi)
              (try clear ho0)
              (try clear ho1)
              (try clear ho2)
              refine hK.out _ _ ⟨cz BK1805 0, cz BK1805 1, cz BK1805 2, cz BK1805 3, cz BK1805 4, cz BK1805 5⟩ (fun hHeld => ?_)
              clear hK K
              refine norm_ (a' := ?_) ?_ ?_
              rotate_left
              ·show Act.put _ (some 21) _ = _
               simp only [Act.put, List.setIfInBounds_toArray, List.set_cons_zero, List.set_cons_succ, i64_w, i32_w]
               rfl
              refine pA 6 (some 15) HT_.out ?_
              refine pA 7 (some 22) HT_.out ?_
              refine pA 8 (some 23) HT_.out ?_
              exact norm_ (by simp only [putAll, Act.put, List.setIfInBounds_toArray, List.set_cons_zero, List.set_cons_succ]) (hCont (v1808, v1812, v1817, gb1820) _ ⟨hHeld, (by (with_reducible repeat (first | apply Kd.R_alloc | apply Kd.R_drewN | apply Kd.R_drew)); exact Kd.R_mono HO1795.out (fun _ hk => hk.2)), (by (with_reducible repeat (first | apply Kd.R_alloc | apply Kd.R_drewN | apply Kd.R_drew)); exact Kd.R_mono HO1799.out (fun _ hk => hk.2)), (by (with_reducible repeat (first | apply Kd.R_alloc | apply Kd.R_drewN | apply Kd.R_drew)); exact Kd.R_mono HO1804.out (fun _ hk => hk.2)), (by (with_reducible repeat (first | apply Kd.R_alloc | apply Kd.R_drewN | apply Kd.R_drew)); exact Kd.R_mono HO1809.out (fun _ hk => hk.2)), (by (with_reducible repeat (first | apply Kd.R_alloc | apply Kd.R_drewN | apply Kd.R_drew)); exact Kd.R_mono HO1813.out (fun _ hk => hk.2)), (by (with_reducible repeat (first | apply Kd.R_alloc | apply Kd.R_drewN | apply Kd.R_drew)); exact Kd.R_mono HO1818.out (fun _ hk => hk.2)), (oK BK1805), (oK BK1820), GW1820.out, GE1820.out, NB1805_1820.out, NB1820_1805.out, (oB HB)⟩)
            rintro ⟨v1808, v1812, v1817, gb1820⟩ w41 ⟨hS_, h0_, h1_, h2_, h3_, h4_, h5_, h6_, h7_, h8_, h9_, h10_, h11_, h12_⟩
            have n0_ : Aside0 (Kd.R k96 96 w41 w.heap.size (fun k_ => some k_ ≠ (v1808 : Value).ownBlock) (.slice Ao33 t1793.length co33) t1793) := ⟨h0_⟩
            have n1_ : Aside0 (Kd.R (Kd.int .i64) 3 w41 w.heap.size (fun k_ => some k_ ≠ (v1812 : Value).ownBlock) (.slice Ao35 t1797.length co35) t1797) := ⟨h1_⟩
            have n2_ : Aside0 (Kd.R k74 74 w41 w.heap.size (fun k_ => some k_ ≠ (v1817 : Value).ownBlock) (.slice Ao36 t1802.length co36) t1802) := ⟨h2_⟩
            have n3_ : Aside0 (Kd.R k96 96 w41 w.heap.size (fun k_ => some k_ ≠ (.slice Ao33 t1793.length co33 : Value).ownBlock) v1808 t1807) := ⟨h3_⟩
            have n4_ : Aside0 (Kd.R (Kd.int .i64) 3 w41 w.heap.size (fun k_ => some k_ ≠ (.slice Ao35 t1797.length co35 : Value).ownBlock) v1812 t1811) := ⟨h4_⟩
            have n5_ : Aside0 (Kd.R k74 74 w41 w.heap.size (fun k_ => some k_ ≠ (.slice Ao36 t1802.length co36 : Value).ownBlock) v1817 t1816) := ⟨h5_⟩
            have n6_ : Aside0 (w41.heap[gb1805]? = some (.cells #[.slice Ao33 t1793.length co33, .int .i64 t1796, .slice Ao35 t1797.length co35, .int .i64 t1800, .int .i64 t1801, .slice Ao36 t1802.length co36] 36 (0, 0))) := ⟨h6_⟩
            have n7_ : Aside0 (w41.heap[gb1820]? = some (.cells #[.slice none 0 0, .int .i64 0, .slice none 0 0, .int .i64 0, .int .i64 0, .slice none 0 0] 36 (0, 0))) := ⟨h7_⟩
            have n8_ : Aside0 (w.heap.size ≤ gb1820) := ⟨h8_⟩
            have n9_ : Aside0 (w.heap.size ≤ gb1820) := ⟨h9_⟩
            have n10_ : Aside0 (gb1805 ≠ gb1820) := ⟨h10_⟩
            have n11_ : Aside0 (gb1820 ≠ gb1805) := ⟨h11_⟩
            have n12_ : Aside0 (Below w.heap.size w w41) := ⟨h12_⟩
            clear HO1795
            clear HO1799
            clear HO1804
            clear BK1805
            clear HB
            clear h0_ h1_ h2_ h3_ h4_ h5_ h6_ h7_ h8_ h9_ h10_ h11_ h12_
            have HO1795 := n0_
            have HO1799 := n1_
            have HO1804 := n2_
            have HO1809 := n3_
            have HO1813 := n4_
            have HO1818 := n5_
            have BK1805 := n6_
            have BK1820 := n7_
            have GW1820 := n8_
            have GE1820 := n9_
            have NB1805_1820 := n10_
            have NB1820_1805 := n11_
            have HB := n12_
            clear n0_ n1_ n2_ n3_ n4_ n5_ n6_ n7_ n8_ n9_ n10_ n11_ n12_
            have hHeld : w41.cell? ⟨gb1805, 0, none⟩ = some (.slice Ao33 t1793.length co33) ∧ w41.cell? ⟨gb1805, 1, none⟩ = some (.int .i64 t1796) ∧ w41.cell? ⟨gb1805, 2, none⟩ = some (.slice Ao35 t1797.length co35) ∧ w41.cell? ⟨gb1805, 3, none⟩ = some (.int .i64 t1800) ∧ w41.cell? ⟨gb1805, 4, none⟩ = some (.int .i64 t1801) ∧ w41.cell? ⟨gb1805, 5, none⟩ = some (.slice Ao36 t1802.length co36) := hS_
            obtain ⟨Ao42, co42, eo42⟩ := Kd.R_slice HO1809.out
            (first | subst eo42 | (injection eo42 with f1_ f2_ f3_; have f4_ := f1_.symm; have f5_ := f3_.symm; clear f1_ f2_ f3_; subst f4_; subst f5_))
            obtain ⟨Ao45, co45, eo45⟩ := Kd.R_slice HO1813.out
            (first | subst eo45 | (injection eo45 with f1_ f2_ f3_; have f4_ := f1_.symm; have f5_ := f3_.symm; clear f1_ f2_ f3_; subst f4_; subst f5_))
            obtain ⟨Ao49, co49, eo49⟩ := Kd.R_slice HO1818.out
            (first | subst eo49 | (injection eo49 with f1_ f2_ f3_; have f4_ := f1_.symm; have f5_ := f3_.symm; clear f1_ f2_ f3_; subst f4_; subst f5_))
            refine norm_ (a' := ?_) ?_ ?_
            rotate_left
            ·simp only [putAll, Act.put, List.setIfInBounds_toArray, List.set_cons_zero, List.set_cons_succ]
             rfl
            refine one_ (i := 10) (N := none) #[true, true, true, true, true, true, true, true, true, true, true, false] rfl rfl (one_of HT_.out (by kernel_rfl)) (by decide) (fun K hK => ?_)
            have hs43 := cz BK1820 0
            have hfs43 := blk_frozen BK1820.out 0
            have hns43_0 := NB1805_1820.out
            have hms43_0 := NB1820_1805.out
            have hs44 := cz BK1820 1
            have hfs44 := blk_frozen BK1820.out 1
            have hns44_0 := NB1805_1820.out
            have hms44_0 := NB1820_1805.out
            have hs46 := cz BK1820 2
            have hfs46 := blk_frozen BK1820.out 2
            have hns46_0 := NB1805_1820.out
            have hms46_0 := NB1820_1805.out
            have hs47 := cz BK1820 3
            have hfs47 := blk_frozen BK1820.out 3
            have hns47_0 := NB1805_1820.out
            have hms47_0 := NB1820_1805.out
            have hs48 := cz BK1820 4
            have hfs48 := blk_frozen BK1820.out 4
            have hns48_0 := NB1805_1820.out
            have hms48_0 := NB1820_1805.out
            have hs50 := cz BK1820 5
            have hfs50 := blk_frozen BK1820.out 5
            have hns50_0 := NB1805_1820.out
            have hms50_0 := NB1820_1805.out
            refine skip_ (w1 := ?_) (by rfl) rfl ?_ ?_
            rotate_left
            ·go_simp
             rfl
            refine hK.out _ _ ⟨(cF NB1805_1820.out hHeld.1), (cF NB1805_1820.out hHeld.2.1), (cF NB1805_1820.out hHeld.2.2.1), (cF NB1805_1820.out hHeld.2.2.2.1), (cF NB1805_1820.out hHeld.2.2.2.2.1), (cF NB1805_1820.out hHeld.2.2.2.2.2)⟩ (fun hHeld => ?_)
            clear hK K
            refine pA 11 (some 5) HT_.out ?_
            refine done_ (done_of HT_.out (by kernel_rfl)) ?_
            try go_wp2
            have n0_ : Aside0 (Kd.R k96 96 ((((((w41.setCell ⟨gb1820, 0, none⟩ (.slice Ao42 t1807.length co42)).setCell ⟨gb1820, 1, none⟩ (.int .i64 t1810)).setCell ⟨gb1820, 2, none⟩ (.slice Ao45 t1811.length co45)).setCell ⟨gb1820, 3, none⟩ (.int .i64 t1814)).setCell ⟨gb1820, 4, none⟩ (.int .i64 t1815)).setCell ⟨gb1820, 5, none⟩ (.slice Ao49 t1816.length co49)) w.heap.size (fun k_ => some k_ ≠ (.slice Ao42 t1807.length co42 : Value).ownBlock) (.slice Ao33 t1793.length co33) t1793) := ⟨by (with_reducible repeat (first | apply Kd.R_alloc | apply Kd.R_drewN | apply Kd.R_drew)); exact Kd.R_mono (Kd.R_far (p := ⟨gb1820, 5, none⟩) (Kd.R_far (p := ⟨gb1820, 4, none⟩) (Kd.R_far (p := ⟨gb1820, 3, none⟩) (Kd.R_far (p := ⟨gb1820, 2, none⟩) (Kd.R_far (p := ⟨gb1820, 1, none⟩) (Kd.R_far (p := ⟨gb1820, 0, none⟩) (Kd.R_types HO1795.out BK1820.out (by decide)) (fun _ hk => hk.2) (.slice Ao42 t1807.length co42)) (fun _ hk => hk.2) (.int .i64 t1810)) (fun _ hk => hk.2) (.slice Ao45 t1811.length co45)) (fun _ hk => hk.2) (.int .i64 t1814)) (fun _ hk => hk.2) (.int .i64 t1815)) (fun _ hk => hk.2) (.slice Ao49 t1816.length co49)) (fun _ hk => hk.1)⟩
            have n1_ : Aside0 (Kd.R (Kd.int .i64) 3 ((((((w41.setCell ⟨gb1820, 0, none⟩ (.slice Ao42 t1807.length co42)).setCell ⟨gb1820, 1, none⟩ (.int .i64 t1810)).setCell ⟨gb1820, 2, none⟩ (.slice Ao45 t1811.length co45)).setCell ⟨gb1820, 3, none⟩ (.int .i64 t1814)).setCell ⟨gb1820, 4, none⟩ (.int .i64 t1815)).setCell ⟨gb1820, 5, none⟩ (.slice Ao49 t1816.length co49)) w.heap.size (fun k_ => some k_ ≠ (.slice Ao45 t1811.length co45 : Value).ownBlock) (.slice Ao35 t1797.length co35) t1797) := ⟨by (with_reducible repeat (first | apply Kd.R_alloc | apply Kd.R_drewN | apply Kd.R_drew)); exact Kd.R_mono (Kd.R_far (p := ⟨gb1820, 5, none⟩) (Kd.R_far (p := ⟨gb1820, 4, none⟩) (Kd.R_far (p := ⟨gb1820, 3, none⟩) (Kd.R_far (p := ⟨gb1820, 2, none⟩) (Kd.R_far (p := ⟨gb1820, 1, none⟩) (Kd.R_far (p := ⟨gb1820, 0, none⟩) (Kd.R_types HO1799.out BK1820.out (by decide)) (fun _ hk => hk.2) (.slice Ao42 t1807.length co42)) (fun _ hk => hk.2) (.int .i64 t1810)) (fun _ hk => hk.2) (.slice Ao45 t1811.length co45)) (fun _ hk => hk.2) (.int .i64 t1814)) (fun _ hk => hk.2) (.int .i64 t1815)) (fun _ hk => hk.2) (.slice Ao49 t1816.length co49)) (fun _ hk => hk.1)⟩
            have n2_ : Aside0 (Kd.R k74 74 ((((((w41.setCell ⟨gb1820, 0, none⟩ (.slice Ao42 t1807.length co42)).setCell ⟨gb1820, 1, none⟩ (.int .i64 t1810)).setCell ⟨gb1820, 2, none⟩ (.slice Ao45 t1811.length co45)).setCell ⟨gb1820, 3, none⟩ (.int .i64 t1814)).setCell ⟨gb1820, 4, none⟩ (.int .i64 t1815)).setCell ⟨gb1820, 5, none⟩ (.slice Ao49 t1816.length co49)) w.heap.size (fun k_ => some k_ ≠ (.slice Ao49 t1816.length co49 : Value).ownBlock) (.slice Ao36 t1802.length co36) t1802) := ⟨by (with_reducible repeat (first | apply Kd.R_alloc | apply Kd.R_drewN | apply Kd.R_drew)); exact Kd.R_mono (Kd.R_far (p := ⟨gb1820, 5, none⟩) (Kd.R_far (p := ⟨gb1820, 4, none⟩) (Kd.R_far (p := ⟨gb1820, 3, none⟩) (Kd.R_far (p := ⟨gb1820, 2, none⟩) (Kd.R_far (p := ⟨gb1820, 1, none⟩) (Kd.R_far (p := ⟨gb1820, 0, none⟩) (Kd.R_types HO1804.out BK1820.out (by decide)) (fun _ hk => hk.2) (.slice Ao42 t1807.length co42)) (fun _ hk => hk.2) (.int .i64 t1810)) (fun _ hk => hk.2) (.slice Ao45 t1811.length co45)) (fun _ hk => hk.2) (.int .i64 t1814)) (fun _ hk => hk.2) (.int .i64 t1815)) (fun _ hk => hk.2) (.slice Ao49 t1816.length co49)) (fun _ hk => hk.1)⟩
            have n3_ : Aside0 (Kd.R k96 96 ((((((w41.setCell ⟨gb1820, 0, none⟩ (.slice Ao42 t1807.length co42)).setCell ⟨gb1820, 1, none⟩ (.int .i64 t1810)).setCell ⟨gb1820, 2, none⟩ (.slice Ao45 t1811.length co45)).setCell ⟨gb1820, 3, none⟩ (.int .i64 t1814)).setCell ⟨gb1820, 4, none⟩ (.int .i64 t1815)).setCell ⟨gb1820, 5, none⟩ (.slice Ao49 t1816.length co49)) w.heap.size (fun k_ => some k_ ≠ (.slice Ao33 t1793.length co33 : Value).ownBlock) (.slice Ao42 t1807.length co42) t1807) := ⟨by (with_reducible repeat (first | apply Kd.R_alloc | apply Kd.R_drewN | apply Kd.R_drew)); exact Kd.R_mono (Kd.R_far (p := ⟨gb1820, 5, none⟩) (Kd.R_far (p := ⟨gb1820, 4, none⟩) (Kd.R_far (p := ⟨gb1820, 3, none⟩) (Kd.R_far (p := ⟨gb1820, 2, none⟩) (Kd.R_far (p := ⟨gb1820, 1, none⟩) (Kd.R_far (p := ⟨gb1820, 0, none⟩) (Kd.R_types HO1809.out BK1820.out (by decide)) (fun _ hk => hk.2) (.slice Ao42 t1807.length co42)) (fun _ hk => hk.2) (.int .i64 t1810)) (fun _ hk => hk.2) (.slice Ao45 t1811.length co45)) (fun _ hk => hk.2) (.int .i64 t1814)) (fun _ hk => hk.2) (.int .i64 t1815)) (fun _ hk => hk.2) (.slice Ao49 t1816.length co49)) (fun _ hk => hk.1)⟩
            have n4_ : Aside0 (Kd.R (Kd.int .i64) 3 ((((((w41.setCell ⟨gb1820, 0, none⟩ (.slice Ao42 t1807.length co42)).setCell ⟨gb1820, 1, none⟩ (.int .i64 t1810)).setCell ⟨gb1820, 2, none⟩ (.slice Ao45 t1811.length co45)).setCell ⟨gb1820, 3, none⟩ (.int .i64 t1814)).setCell ⟨gb1820, 4, none⟩ (.int .i64 t1815)).setCell ⟨gb1820, 5, none⟩ (.slice Ao49 t1816.length co49)) w.heap.size (fun k_ => some k_ ≠ (.slice Ao35 t1797.length co35 : Value).ownBlock) (.slice Ao45 t1811.length co45) t1811) := ⟨by (with_reducible repeat (first | apply Kd.R_alloc | apply Kd.R_drewN | apply Kd.R_drew)); exact Kd.R_mono (Kd.R_far (p := ⟨gb1820, 5, none⟩) (Kd.R_far (p := ⟨gb1820, 4, none⟩) (Kd.R_far (p := ⟨gb1820, 3, none⟩) (Kd.R_far (p := ⟨gb1820, 2, none⟩) (Kd.R_far (p := ⟨gb1820, 1, none⟩) (Kd.R_far (p := ⟨gb1820, 0, none⟩) (Kd.R_types HO1813.out BK1820.out (by decide)) (fun _ hk => hk.2) (.slice Ao42 t1807.length co42)) (fun _ hk => hk.2) (.int .i64 t1810)) (fun _ hk => hk.2) (.slice Ao45 t1811.length co45)) (fun _ hk => hk.2) (.int .i64 t1814)) (fun _ hk => hk.2) (.int .i64 t1815)) (fun _ hk => hk.2) (.slice Ao49 t1816.length co49)) (fun _ hk => hk.1)⟩
            have n5_ : Aside0 (Kd.R k74 74 ((((((w41.setCell ⟨gb1820, 0, none⟩ (.slice Ao42 t1807.length co42)).setCell ⟨gb1820, 1, none⟩ (.int .i64 t1810)).setCell ⟨gb1820, 2, none⟩ (.slice Ao45 t1811.length co45)).setCell ⟨gb1820, 3, none⟩ (.int .i64 t1814)).setCell ⟨gb1820, 4, none⟩ (.int .i64 t1815)).setCell ⟨gb1820, 5, none⟩ (.slice Ao49 t1816.length co49)) w.heap.size (fun k_ => some k_ ≠ (.slice Ao36 t1802.length co36 : Value).ownBlock) (.slice Ao49 t1816.length co49) t1816) := ⟨by (with_reducible repeat (first | apply Kd.R_alloc | apply Kd.R_drewN | apply Kd.R_drew)); exact Kd.R_mono (Kd.R_far (p := ⟨gb1820, 5, none⟩) (Kd.R_far (p := ⟨gb1820, 4, none⟩) (Kd.R_far (p := ⟨gb1820, 3, none⟩) (Kd.R_far (p := ⟨gb1820, 2, none⟩) (Kd.R_far (p := ⟨gb1820, 1, none⟩) (Kd.R_far (p := ⟨gb1820, 0, none⟩) (Kd.R_types HO1818.out BK1820.out (by decide)) (fun _ hk => hk.2) (.slice Ao42 t1807.length co42)) (fun _ hk => hk.2) (.int .i64 t1810)) (fun _ hk => hk.2) (.slice Ao45 t1811.length co45)) (fun _ hk => hk.2) (.int .i64 t1814)) (fun _ hk => hk.2) (.int .i64 t1815)) (fun _ hk => hk.2) (.slice Ao49 t1816.length co49)) (fun _ hk => hk.1)⟩
            have n6_ : Aside0 (((((((w41.setCell ⟨gb1820, 0, none⟩ (.slice Ao42 t1807.length co42)).setCell ⟨gb1820, 1, none⟩ (.int .i64 t1810)).setCell ⟨gb1820, 2, none⟩ (.slice Ao45 t1811.length co45)).setCell ⟨gb1820, 3, none⟩ (.int .i64 t1814)).setCell ⟨gb1820, 4, none⟩ (.int .i64 t1815)).setCell ⟨gb1820, 5, none⟩ (.slice Ao49 t1816.length co49)).heap[gb1805]? = some (.cells #[.slice Ao33 t1793.length co33, .int .i64 t1796, .slice Ao35 t1797.length co35, .int .i64 t1800, .int .i64 t1801, .slice Ao36 t1802.length co36] 36 (0, 0))) := ⟨by (with_reducible repeat (first | refine blk_drewN ?_ _ | refine blk_drew ?_ | refine blk_alloc ?_ _)); refine blk_far ?_ NB1805_1820.out _; (with_reducible repeat (first | refine blk_drewN ?_ _ | refine blk_drew ?_ | refine blk_alloc ?_ _)); refine blk_far ?_ NB1805_1820.out _; (with_reducible repeat (first | refine blk_drewN ?_ _ | refine blk_drew ?_ | refine blk_alloc ?_ _)); refine blk_far ?_ NB1805_1820.out _; (with_reducible repeat (first | refine blk_drewN ?_ _ | refine blk_drew ?_ | refine blk_alloc ?_ _)); refine blk_far ?_ NB1805_1820.out _; (with_reducible repeat (first | refine blk_drewN ?_ _ | refine blk_drew ?_ | refine blk_alloc ?_ _)); refine blk_far ?_ NB1805_1820.out _; (with_reducible repeat (first | refine blk_drewN ?_ _ | refine blk_drew ?_ | refine blk_alloc ?_ _)); refine blk_far ?_ NB1805_1820.out _; (with_reducible repeat (first | refine blk_drewN ?_ _ | refine blk_drew ?_ | refine blk_alloc ?_ _)); exact BK1805.out⟩
            have n7_ : Aside0 (((((((w41.setCell ⟨gb1820, 0, none⟩ (.slice Ao42 t1807.length co42)).setCell ⟨gb1820, 1, none⟩ (.int .i64 t1810)).setCell ⟨gb1820, 2, none⟩ (.slice Ao45 t1811.length co45)).setCell ⟨gb1820, 3, none⟩ (.int .i64 t1814)).setCell ⟨gb1820, 4, none⟩ (.int .i64 t1815)).setCell ⟨gb1820, 5, none⟩ (.slice Ao49 t1816.length co49)).heap[gb1820]? = some (.cells #[.slice Ao42 t1807.length co42, .int .i64 t1810, .slice Ao45 t1811.length co45, .int .i64 t1814, .int .i64 t1815, .slice Ao49 t1816.length co49] 36 (0, 0))) := ⟨by (with_reducible repeat (first | refine blk_drewN ?_ _ | refine blk_drew ?_ | refine blk_alloc ?_ _)); refine blk_put (cs := #[.slice Ao42 t1807.length co42, .int .i64 t1810, .slice Ao45 t1811.length co45, .int .i64 t1814, .int .i64 t1815, .slice none 0 0]) ?_ 5 _ rfl; (with_reducible repeat (first | refine blk_drewN ?_ _ | refine blk_drew ?_ | refine blk_alloc ?_ _)); refine blk_put (cs := #[.slice Ao42 t1807.length co42, .int .i64 t1810, .slice Ao45 t1811.length co45, .int .i64 t1814, .int .i64 0, .slice none 0 0]) ?_ 4 _ rfl; (with_reducible repeat (first | refine blk_drewN ?_ _ | refine blk_drew ?_ | refine blk_alloc ?_ _)); refine blk_put (cs := #[.slice Ao42 t1807.length co42, .int .i64 t1810, .slice Ao45 t1811.length co45, .int .i64 0, .int .i64 0, .slice none 0 0]) ?_ 3 _ rfl; (with_reducible repeat (first | refine blk_drewN ?_ _ | refine blk_drew ?_ | refine blk_alloc ?_ _)); refine blk_put (cs := #[.slice Ao42 t1807.length co42, .int .i64 t1810, .slice none 0 0, .int .i64 0, .int .i64 0, .slice none 0 0]) ?_ 2 _ rfl; (with_reducible repeat (first | refine blk_drewN ?_ _ | refine blk_drew ?_ | refine blk_alloc ?_ _)); refine blk_put (cs := #[.slice Ao42 t1807.length co42, .int .i64 0, .slice none 0 0, .int .i64 0, .int .i64 0, .slice none 0 0]) ?_ 1 _ rfl; (with_reducible repeat (first | refine blk_drewN ?_ _ | refine blk_drew ?_ | refine blk_alloc ?_ _)); refine blk_put (cs := #[.slice none 0 0, .int .i64 0, .slice none 0 0, .int .i64 0, .int .i64 0, .slice none 0 0]) ?_ 0 _ rfl; (with_reducible repeat (first | refine blk_drewN ?_ _ | refine blk_drew ?_ | refine blk_alloc ?_ _)); exact BK1820.out⟩
            have n8_ : Aside0 (Below w.heap.size w ((((((w41.setCell ⟨gb1820, 0, none⟩ (.slice Ao42 t1807.length co42)).setCell ⟨gb1820, 1, none⟩ (.int .i64 t1810)).setCell ⟨gb1820, 2, none⟩ (.slice Ao45 t1811.length co45)).setCell ⟨gb1820, 3, none⟩ (.int .i64 t1814)).setCell ⟨gb1820, 4, none⟩ (.int .i64 t1815)).setCell ⟨gb1820, 5, none⟩ (.slice Ao49 t1816.length co49))) := ⟨oB HB⟩
            (try clear HO1795)
            (try clear HO1799)
            (try clear HO1804)
            (try clear HO1809)
            (try clear HO1813)
            (try clear HO1818)
            (try clear BK1805)
            (try clear BK1820)
            (try clear HB)
            generalize ((((((w41.setCell ⟨gb1820, 0, none⟩ (.slice Ao42 t1807.length co42)).setCell ⟨gb1820, 1, none⟩ (.int .i64 t1810)).setCell ⟨gb1820, 2, none⟩ (.slice Ao45 t1811.length co45)).setCell ⟨gb1820, 3, none⟩ (.int .i64 t1814)).setCell ⟨gb1820, 4, none⟩ (.int .i64 t1815)).setCell ⟨gb1820, 5, none⟩ (.slice Ao49 t1816.length co49)) = w51 at n0_ n1_ n2_ n3_ n4_ n5_ n6_ n7_ n8_ ⊢
            have HO1795 := n0_
            have HO1799 := n1_
            have HO1804 := n2_
            have HO1809 := n3_
            have HO1813 := n4_
            have HO1818 := n5_
            have BK1805 := n6_
            have BK1820 := n7_
            have HB := n8_
            clear n0_ n1_ n2_ n3_ n4_ n5_ n6_ n7_ n8_
            have n0_ := A_ (Kd.R_drew HO1795.out)
            have n1_ := A_ (Kd.R_drew HO1799.out)
            have n2_ := A_ (Kd.R_drew HO1804.out)
            have n3_ := A_ (Kd.R_drew HO1809.out)
            have n4_ := A_ (Kd.R_drew HO1813.out)
            have n5_ := A_ (Kd.R_drew HO1818.out)
            have n6_ := A_ (blk_drew BK1805.out)
            have n7_ := A_ (blk_drew BK1820.out)
            have n8_ := A_ (below_drew1 HB.out)
            clear HO1795
            clear HO1799
            clear HO1804
            clear HO1809
            clear HO1813
            clear HO1818
            clear BK1805
            clear BK1820
            clear HB
            have HO1795 := n0_
            have HO1799 := n1_
            have HO1804 := n2_
            have HO1809 := n3_
            have HO1813 := n4_
            have HO1818 := n5_
            have BK1805 := n6_
            have BK1820 := n7_
            have HB := n8_
            clear n0_ n1_ n2_ n3_ n4_ n5_ n6_ n7_ n8_
            refine start_ (n := 12) (S := fun w' => w'.cell? ⟨gb1805, 0, none⟩ = some (.slice Ao33 t1793.length co33) ∧ w'.cell? ⟨gb1805, 1, none⟩ = some (.int .i64 t1796) ∧ w'.cell? ⟨gb1805, 2, none⟩ = some (.slice Ao35 t1797.length co35) ∧ w'.cell? ⟨gb1805, 3, none⟩ = some (.int .i64 t1800) ∧ w'.cell? ⟨gb1805, 4, none⟩ = some (.int .i64 t1801) ∧ w'.cell? ⟨gb1805, 5, none⟩ = some (.slice Ao36 t1802.length co36)) (ds := []) #[false, false, false, false, false, false, false, false, false, false, false, false] (by kernel_rfl) rfl rfl ⟨cz BK1805 0, cz BK1805 1, cz BK1805 2, cz BK1805 3, cz BK1805 4, cz BK1805 5⟩ (fun hHeld => ?_); refine with_tabW laws_FnShops.tab5 laws_FnShops.bits5 (fun HT_ HW_ => ?_)
            generalize w51.drew = w52 at HO1795 HO1799 HO1804 HO1809 HO1813 HO1818 BK1805 BK1820 HB hHeld ⊢
            refine pA 1 (some 26) HT_.out ?_
            refine pT 0 (some 25) HT_.out HW_.out hHeld ?_
            refine join_ (σ := Value × Value × Value × Nat) 2 #[true, true, true, true, true, true, true, true, true, true, false, false] (fun s_ => [(27, .int .i64 t1821), (30, .tuple #[.agg #[s_.1, .int .i64 t1825, s_.2.1, .int .i64 t1829, .int .i64 t1830, s_.2.2.1], .bool true]), (6, .pointer (some ⟨s_.2.2.2, 0, none⟩)), (28, .int .i64 (Int.tmod t1821 40)), (29, .agg #[.int .i64 0, .int .i64 (Int.tmod t1821 40)]), (24, .tuple #[.agg #[s_.1, .int .i64 t1825, s_.2.1, .int .i64 t1829, .int .i64 t1830, s_.2.2.1], .bool true]), (31, .agg #[s_.1, .int .i64 t1825, s_.2.1, .int .i64 t1829, .int .i64 t1830, s_.2.2.1]), (32, .bool true)]) (fun s_ w' => (w'.cell? ⟨gb1805, 0, none⟩ = some (.slice Ao33 t1793.length co33) ∧ w'.cell? ⟨gb1805, 1, none⟩ = some (.int .i64 t1796) ∧ w'.cell? ⟨gb1805, 2, none⟩ = some (.slice Ao35 t1797.length co35) ∧ w'.cell? ⟨gb1805, 3, none⟩ = some (.int .i64 t1800) ∧ w'.cell? ⟨gb1805, 4, none⟩ = some (.int .i64 t1801) ∧ w'.cell? ⟨gb1805, 5, none⟩ = some (.slice Ao36 t1802.length co36)) ∧ (Kd.R k96 96 w' w.heap.size (fun k_ => some k_ ≠ (.slice Ao42 t1807.length co42 : Value).ownBlock ∧ some k_ ≠ (s_.1 : Value).ownBlock) (.slice Ao33 t1793.length co33) t1793) ∧ (Kd.R (Kd.int .i64) 3 w' w.heap.size (fun k_ => some k_ ≠ (.slice Ao45 t1811.length co45 : Value).ownBlock ∧ some k_ ≠ (s_.2.1 : Value).ownBlock) (.slice Ao35 t1797.length co35) t1797) ∧ (Kd.R k74 74 w' w.heap.size (fun k_ => some k_ ≠ (.slice Ao49 t1816.length co49 : Value).ownBlock ∧ some k_ ≠ (s_.2.2.1 : Value).ownBlock) (.slice Ao36 t1802.length co36) t1802) ∧ (Kd.R k96 96 w' w.heap.size (fun k_ => some k_ ≠ (.slice Ao33 t1793.length co33 : Value).ownBlock ∧ some k_ ≠ (s_.1 : Value).ownBlock) (.slice Ao42 t1807.length co42) t1807) ∧ (Kd.R (Kd.int .i64) 3 w' w.heap.size (fun k_ => some k_ ≠ (.slice Ao35 t1797.length co35 : Value).ownBlock ∧ some k_ ≠ (s_.2.1 : Value).ownBlock) (.slice Ao45 t1811.length co45) t1811) ∧ (Kd.R k74 74 w' w.heap.size (fun k_ => some k_ ≠ (.slice Ao36 t1802.length co36 : Value).ownBlock ∧ some k_ ≠ (s_.2.2.1 : Value).ownBlock) (.slice Ao49 t1816.length co49) t1816) ∧ (Kd.R k96 96 w' w.heap.size (fun k_ => some k_ ≠ (.slice Ao33 t1793.length co33 : Value).ownBlock ∧ some k_ ≠ (.slice Ao42 t1807.length co42 : Value).ownBlock) s_.1 t1822) ∧ (Kd.R (Kd.int .i64) 3 w' w.heap.size (fun k_ => some k_ ≠ (.slice Ao35 t1797.length co35 : Value).ownBlock ∧ some k_ ≠ (.slice Ao45 t1811.length co45 : Value).ownBlock) s_.2.1 t1826) ∧ (Kd.R k74 74 w' w.heap.size (fun k_ => some k_ ≠ (.slice Ao36 t1802.length co36 : Value).ownBlock ∧ some k_ ≠ (.slice Ao49 t1816.length co49 : Value).ownBlock) s_.2.2.1 t1831) ∧ (w'.heap[gb1805]? = some (.cells #[.slice Ao33 t1793.length co33, .int .i64 t1796, .slice Ao35 t1797.length co35, .int .i64 t1800, .int .i64 t1801, .slice Ao36 t1802.length co36] 36 (0, 0))) ∧ (w'.heap[gb1820]? = some (.cells #[.slice Ao42 t1807.length co42, .int .i64 t1810, .slice Ao45 t1811.length co45, .int .i64 t1814, .int .i64 t1815, .slice Ao49 t1816.length co49] 36 (0, 0))) ∧ (w'.heap[s_.2.2.2]? = some (.cells #[.slice none 0 0, .int .i64 0, .slice none 0 0, .int .i64 0, .int .i64 0, .slice none 0 0] 36 (0, 0))) ∧ (w.heap.size ≤ s_.2.2.2) ∧ (w.heap.size ≤ s_.2.2.2) ∧ (gb1805 ≠ s_.2.2.2) ∧ (s_.2.2.2 ≠ gb1805) ∧ (gb1820 ≠ s_.2.2.2) ∧ (s_.2.2.2 ≠ gb1820) ∧ (Below w.heap.size w w')) ?_ ?_
            rotate_left
            ·intro hCont
             refine two_ (i := 2) (j := 9) (Ni := some 27) (Nj := some 6) #[true, true, true, false, false, false, false, false, false, false, false, false] #[true, true, false, false, false, false, false, false, false, true, false, false] rfl rfl rfl rfl (two_of HT_.out (by kernel_rfl)) (by decide) (by decide) (fun K hK => ?_) (fun K hK => ?_)
             ·skip
              refine goes_ Try.func45 (by kernel_rfl) rfl #[.slice A0 l0.length c0, .int .i64 1] (by rfl) rfl rfl (by (try simp only [List.map_toArray, List.map_cons, List.map_nil]); first | done | rfl | (simp only [List.length_drop, List.length_take]; rfl)) ?_
              with_reducible refine (laws_at.calls _ _ l0 1 t1821 _ ?side1 ?side2 A7.out).mono ?_
              (case side1 => exact oc_ HR0.out)
              (case side2 => exact HC0.out)
              rintro e w' ⟨rfl, ⟨nd, rfl⟩⟩
              refine ⟨_, rfl, ?_⟩
              refine hK.out _ _ ⟨cz BK1805 0, cz BK1805 1, cz BK1805 2, cz BK1805 3, cz BK1805 4, cz BK1805 5⟩ (fun hHeld => ?_)
              clear hK K
              refine norm_ (a' := ?_) ?_ ?_
              rotate_left
              ·show Act.put _ (some 27) _ = _
               simp only [Act.put, List.setIfInBounds_toArray, List.set_cons_zero, List.set_cons_succ, i64_w, i32_w]
               rfl
              refine pA 3 (some 28) HT_.out ?_
              refine pA 4 (some 29) HT_.out ?_
              refine two_ (i := 5) (j := 9) (Ni := some 30) (Nj := some 6) #[true, true, true, true, true, true, false, false, false, false, false, false] #[true, true, true, true, true, false, false, false, false, true, false, false] rfl rfl rfl rfl (two_of HT_.out (by kernel_rfl)) (by decide) (by decide) (fun K hK => ?_) (fun K hK => ?_)
              ·skip
               refine goes_ Try.func38 (by kernel_rfl) rfl #[.agg #[.slice Ao33 t1793.length co33, .int .i64 t1796, .slice Ao35 t1797.length co35, .int .i64 t1800, .int .i64 t1801, .slice Ao36 t1802.length co36], .agg #[.int .i64 0, .int .i64 (Int.tmod t1821 40)], .int .i64 1] (by rfl) rfl rfl (by (try simp only [List.map_toArray, List.map_cons, List.map_nil]); first | done | rfl | (simp only [List.length_drop, List.length_take]; rfl)) ?_
               with_reducible refine (impl_ShopFault.calls k _ _ t1793 t1796 _ _ t1797 t1800 t1801 _ _ t1802 0 (Int.tmod t1821 40) 1 t1822 t1825 t1826 t1829 t1830 t1831 true _ ?side1 ?side2 ?side3 ?side4 ?side5 ?side6 A8.out).mono ?_
               (case side1 => repeat (first | exact (Kd.R_reads' HO1795.out).2.2 | (with_reducible refine Kd.C_alloc ?_ _) | (with_reducible refine Kd.C_drewN ?_ _) | (with_reducible refine Kd.C_drew ?_)))
               (case side2 => exact (Kd.R_reads' HO1795.out).2.1)
               (case side3 => repeat (first | exact (Kd.R_reads' HO1799.out).2.2 | (with_reducible refine Kd.C_alloc ?_ _) | (with_reducible refine Kd.C_drewN ?_ _) | (with_reducible refine Kd.C_drew ?_)))
               (case side4 => exact (Kd.R_reads' HO1799.out).2.1)
               (case side5 => repeat (first | exact (Kd.R_reads' HO1804.out).2.2 | (with_reducible refine Kd.C_alloc ?_ _) | (with_reducible refine Kd.C_drewN ?_ _) | (with_reducible refine Kd.C_drew ?_)))
               (case side6 => exact (Kd.R_reads' HO1804.out).2.1)
               rintro e w53 ⟨v1823, v1827, v1832, rfl, ho0, ho1, ho2, hb⟩
               refine ⟨_, rfl, ?_⟩
               have n0_ := A_ (Kd.R_elder' (oR HO1795) (Kd.R_base ho0) hb)
               have n1_ := A_ (Kd.R_elder' (oR HO1799) (Kd.R_base ho1) hb)
               have n2_ := A_ (Kd.R_elder' (oR HO1804) (Kd.R_base ho2) hb)
               have n3_ := A_ (Kd.R_elder' (oR HO1809) (Kd.R_base ho0) hb)
               have n4_ := A_ (Kd.R_elder' (oR HO1813) (Kd.R_base ho1) hb)
               have n5_ := A_ (Kd.R_elder' (oR HO1818) (Kd.R_base ho2) hb)
               have n6_ := A_ (Kd.R_lower (Kd.R_new' (Kd.R_new' ho0 (Kd.R_lt (oR HO1795))) (Kd.R_lt (oR HO1809))) (below_size (oB HB)))
               have n7_ := A_ (Kd.R_lower (Kd.R_new' (Kd.R_new' ho1 (Kd.R_lt (oR HO1799))) (Kd.R_lt (oR HO1813))) (below_size (oB HB)))
               have n8_ := A_ (Kd.R_lower (Kd.R_new' (Kd.R_new' ho2 (Kd.R_lt (oR HO1804))) (Kd.R_lt (oR HO1818))) (below_size (oB HB)))
               have n9_ := A_ (bb BK1805 hb)
               have n10_ := A_ (bb BK1820 hb)
               have n11_ := A_ (below_step (oB HB) hb)
               clear HO1795
               clear HO1799
               clear HO1804
               clear HO1809
               clear HO1813
               clear HO1818
               clear BK1805
               clear BK1820
               clear HB
               have HO1795 := n0_
               have HO1799 := n1_
               have HO1804 := n2_
               have HO1809 := n3_
               have HO1813 := n4_
               have HO1818 := n5_
               have HO1824 := n6_
               have HO1828 := n7_
               have HO1833 := n8_
               have BK1805 := n9_
               have BK1820 := n10_
               have HB := n11_
               clear n0_ n1_ n2_ n3_ n4_ n5_ n6_ n7_ n8_ n9_ n10_ n11_
               (try clear hb)
               (try clear hb2)
               (try clear hk)
               (try clear hi)
               (try clear ho0)
               (try clear ho1)
               (try clear ho2)
               refine hK.out _ _ ⟨cz BK1805 0, cz BK1805 1, cz BK1805 2, cz BK1805 3, cz BK1805 4, cz BK1805 5⟩ (fun hHeld => ?_)
               clear hK K
               refine norm_ (a' := ?_) ?_ ?_
               rotate_left
               ·show Act.put _ (some 30) _ = _
                simp only [Act.put, List.setIfInBounds_toArray, List.set_cons_zero, List.set_cons_succ, i64_w, i32_w]
                rfl
               refine pA 6 (some 24) HT_.out ?_
               refine pA 7 (some 31) HT_.out ?_
               refine pA 8 (some 32) HT_.out ?_
               refine one_ (i := 9) (N := some 6) #[true, true, true, true, true, true, true, true, true, true, false, false] rfl rfl (one_of HT_.out (by kernel_rfl)) (by decide) (fun K hK => ?_)
               refine box_step ?hg (N := 6) ?hd (cs := #[.slice none 0 0, .int .i64 0, .slice none 0 0, .int .i64 0, .int .i64 0, .slice none 0 0]) (t := 36) ?hr ?_; (case hd => rfl); (case hg => rfl); (case hr => first | (go_simp; done) | (go_simp; rfl))
               intro gb1835 hg w54 hbox hb
               have n0_ := A_ (Kd.R_below (oR HO1795) hb)
               have n1_ := A_ (Kd.R_below (oR HO1799) hb)
               have n2_ := A_ (Kd.R_below (oR HO1804) hb)
               have n3_ := A_ (Kd.R_below (oR HO1809) hb)
               have n4_ := A_ (Kd.R_below (oR HO1813) hb)
               have n5_ := A_ (Kd.R_below (oR HO1818) hb)
               have n6_ := A_ (Kd.R_below (oR HO1824) hb)
               have n7_ := A_ (Kd.R_below (oR HO1828) hb)
               have n8_ := A_ (Kd.R_below (oR HO1833) hb)
               have n9_ := A_ (bb BK1805 hb)
               have n10_ := A_ (bb BK1820 hb)
               have n11_ := A_ (below_step (oB HB) hb)
               have n12_ := A_ (hbox)
               have n13_ := A_ ((by rw [hg]; exact (below_size (oB HB)) : w.heap.size ≤ gb1835))
               have n14_ := A_ ((by rw [hg]; exact (below_size (oB HB)) : w.heap.size ≤ gb1835))
               have n15_ := A_ (nL BK1805 hg)
               have n16_ := A_ (nG BK1805 hg)
               have n17_ := A_ (nL BK1820 hg)
               have n18_ := A_ (nG BK1820 hg)
               clear HO1795
               clear HO1799
               clear HO1804
               clear HO1809
               clear HO1813
               clear HO1818
               clear HO1824
               clear HO1828
               clear HO1833
               clear BK1805
               clear BK1820
               clear HB
               have HO1795 := n0_
               have HO1799 := n1_
               have HO1804 := n2_
               have HO1809 := n3_
               have HO1813 := n4_
               have HO1818 := n5_
               have HO1824 := n6_
               have HO1828 := n7_
               have HO1833 := n8_
               have BK1805 := n9_
               have BK1820 := n10_
               have HB := n11_
               have BK1835 := n12_
               have GW1835 := n13_
               have GE1835 := n14_
               have NB1805_1835 := n15_
               have NB1835_1805 := n16_
               have NB1820_1835 := n17_
               have NB1835_1820 := n18_
               clear n0_ n1_ n2_ n3_ n4_ n5_ n6_ n7_ n8_ n9_ n10_ n11_ n12_ n13_ n14_ n15_ n16_ n17_ n18_
               clear hb hbox hg
               refine hK.out _ _ ⟨cz BK1805 0, cz BK1805 1, cz BK1805 2, cz BK1805 3, cz BK1805 4, cz BK1805 5⟩ (fun hHeld => ?_)
               clear hK K
               refine norm_ (a' := ?_) ?_ ?_
               rotate_left
               ·show Act.put _ (some 6) _ = _
                simp only [Act.put, List.setIfInBounds_toArray, List.set_cons_zero, List.set_cons_succ, i64_w, i32_w]
                rfl
               exact norm_ (by simp only [putAll, Act.put, List.setIfInBounds_toArray, List.set_cons_zero, List.set_cons_succ]) (hCont (v1823, v1827, v1832, gb1835) _ ⟨hHeld, (oR HO1795), (oR HO1799), (oR HO1804), (oR HO1809), (oR HO1813), (oR HO1818), (by (with_reducible repeat (first | apply Kd.R_alloc | apply Kd.R_drewN | apply Kd.R_drew)); exact Kd.R_mono HO1824.out (fun _ hk => ⟨hk.1.2, hk.2⟩)), (by (with_reducible repeat (first | apply Kd.R_alloc | apply Kd.R_drewN | apply Kd.R_drew)); exact Kd.R_mono HO1828.out (fun _ hk => ⟨hk.1.2, hk.2⟩)), (by (with_reducible repeat (first | apply Kd.R_alloc | apply Kd.R_drewN | apply Kd.R_drew)); exact Kd.R_mono HO1833.out (fun _ hk => ⟨hk.1.2, hk.2⟩)), (oK BK1805), (oK BK1820), (oK BK1835), GW1835.out, GE1835.out, NB1805_1835.out, NB1835_1805.out, NB1820_1835.out, NB1835_1820.out, (oB HB)⟩)
              ·skip
               refine box_step ?hg (N := 6) ?hd (cs := #[.slice none 0 0, .int .i64 0, .slice none 0 0, .int .i64 0, .int .i64 0, .slice none 0 0]) (t := 36) ?hr ?_; (case hd => rfl); (case hg => rfl); (case hr => first | (go_simp; done) | (go_simp; rfl))
               intro gb1835 hg w53 hbox hb
               have n0_ := A_ (Kd.R_below (oR HO1795) hb)
               have n1_ := A_ (Kd.R_below (oR HO1799) hb)
               have n2_ := A_ (Kd.R_below (oR HO1804) hb)
               have n3_ := A_ (Kd.R_below (oR HO1809) hb)
               have n4_ := A_ (Kd.R_below (oR HO1813) hb)
               have n5_ := A_ (Kd.R_below (oR HO1818) hb)
               have n6_ := A_ (bb BK1805 hb)
               have n7_ := A_ (bb BK1820 hb)
               have n8_ := A_ (below_step (oB HB) hb)
               have n9_ := A_ (hbox)
               have n10_ := A_ ((by rw [hg]; exact (below_size (oB HB)) : w.heap.size ≤ gb1835))
               have n11_ := A_ ((by rw [hg]; exact (below_size (oB HB)) : w.heap.size ≤ gb1835))
               have n12_ := A_ (nL BK1805 hg)
               have n13_ := A_ (nG BK1805 hg)
               have n14_ := A_ (nL BK1820 hg)
               have n15_ := A_ (nG BK1820 hg)
               clear HO1795
               clear HO1799
               clear HO1804
               clear HO1809
               clear HO1813
               clear HO1818
               clear BK1805
               clear BK1820
               clear HB
               have HO1795 := n0_
               have HO1799 := n1_
               have HO1804 := n2_
               have HO1809 := n3_
               have HO1813 := n4_
               have HO1818 := n5_
               have BK1805 := n6_
               have BK1820 := n7_
               have HB := n8_
               have BK1835 := n9_
               have GW1835 := n10_
               have GE1835 := n11_
               have NB1805_1835 := n12_
               have NB1835_1805 := n13_
               have NB1820_1835 := n14_
               have NB1835_1820 := n15_
               clear n0_ n1_ n2_ n3_ n4_ n5_ n6_ n7_ n8_ n9_ n10_ n11_ n12_ n13_ n14_ n15_
               clear hb hbox hg
               refine hK.out _ _ ⟨cz BK1805 0, cz BK1805 1, cz BK1805 2, cz BK1805 3, cz BK1805 4, cz BK1805 5⟩ (fun hHeld => ?_)
               clear hK K
               refine norm_ (a' := ?_) ?_ ?_
               rotate_left
               ·show Act.put _ (some 6) _ = _
                simp only [Act.put, List.setIfInBounds_toArray, List.set_cons_zero, List.set_cons_succ, i64_w, i32_w]
                rfl
               refine one_ (i := 5) (N := some 30) #[true, true, true, true, true, true, false, false, false, true, false, false] rfl rfl (one_of HT_.out (by kernel_rfl)) (by decide) (fun K hK => ?_)
               refine goes_ Try.func38 (by kernel_rfl) rfl #[.agg #[.slice Ao33 t1793.length co33, .int .i64 t1796, .slice Ao35 t1797.length co35, .int .i64 t1800, .int .i64 t1801, .slice Ao36 t1802.length co36], .agg #[.int .i64 0, .int .i64 (Int.tmod t1821 40)], .int .i64 1] (by rfl) rfl rfl (by (try simp only [List.map_toArray, List.map_cons, List.map_nil]); first | done | rfl | (simp only [List.length_drop, List.length_take]; rfl)) ?_
               with_reducible refine (impl_ShopFault.calls k _ _ t1793 t1796 _ _ t1797 t1800 t1801 _ _ t1802 0 (Int.tmod t1821 40) 1 t1822 t1825 t1826 t1829 t1830 t1831 true _ ?side1 ?side2 ?side3 ?side4 ?side5 ?side6 A8.out).mono ?_
               (case side1 => repeat (first | exact (Kd.R_reads' HO1795.out).2.2 | (with_reducible refine Kd.C_alloc ?_ _) | (with_reducible refine Kd.C_drewN ?_ _) | (with_reducible refine Kd.C_drew ?_)))
               (case side2 => exact (Kd.R_reads' HO1795.out).2.1)
               (case side3 => repeat (first | exact (Kd.R_reads' HO1799.out).2.2 | (with_reducible refine Kd.C_alloc ?_ _) | (with_reducible refine Kd.C_drewN ?_ _) | (with_reducible refine Kd.C_drew ?_)))
               (case side4 => exact (Kd.R_reads' HO1799.out).2.1)
               (case side5 => repeat (first | exact (Kd.R_reads' HO1804.out).2.2 | (with_reducible refine Kd.C_alloc ?_ _) | (with_reducible refine Kd.C_drewN ?_ _) | (with_reducible refine Kd.C_drew ?_)))
               (case side6 => exact (Kd.R_reads' HO1804.out).2.1)
               rintro e w54 ⟨v1823, v1827, v1832, rfl, ho0, ho1, ho2, hb⟩
               refine ⟨_, rfl, ?_⟩
               have n0_ := A_ (Kd.R_elder' (oR HO1795) (Kd.R_base ho0) hb)
               have n1_ := A_ (Kd.R_elder' (oR HO1799) (Kd.R_base ho1) hb)
               have n2_ := A_ (Kd.R_elder' (oR HO1804) (Kd.R_base ho2) hb)
               have n3_ := A_ (Kd.R_elder' (oR HO1809) (Kd.R_base ho0) hb)
               have n4_ := A_ (Kd.R_elder' (oR HO1813) (Kd.R_base ho1) hb)
               have n5_ := A_ (Kd.R_elder' (oR HO1818) (Kd.R_base ho2) hb)
               have n6_ := A_ (Kd.R_lower (Kd.R_new' (Kd.R_new' ho0 (Kd.R_lt (oR HO1795))) (Kd.R_lt (oR HO1809))) (below_size (oB HB)))
               have n7_ := A_ (Kd.R_lower (Kd.R_new' (Kd.R_new' ho1 (Kd.R_lt (oR HO1799))) (Kd.R_lt (oR HO1813))) (below_size (oB HB)))
               have n8_ := A_ (Kd.R_lower (Kd.R_new' (Kd.R_new' ho2 (Kd.R_lt (oR HO1804))) (Kd.R_lt (oR HO1818))) (below_size (oB HB)))
               have n9_ := A_ (bb BK1805 hb)
               have n10_ := A_ (bb BK1820 hb)
               have n11_ := A_ (bb BK1835 hb)
               have n12_ := A_ (below_step (oB HB) hb)
               clear HO1795
               clear HO1799
               clear HO1804
               clear HO1809
               clear HO1813
               clear HO1818
               clear BK1805
               clear BK1820
               clear BK1835
               clear HB
               have HO1795 := n0_
               have HO1799 := n1_
               have HO1804 := n2_
               have HO1809 := n3_
               have HO1813 := n4_
               have HO1818 := n5_
               have HO1824 := n6_
               have HO1828 := n7_
               have HO1833 := n8_
               have BK1805 := n9_
               have BK1820 := n10_
               have BK1835 := n11_
               have HB := n12_
               clear n0_ n1_ n2_ n3_ n4_ n5_ n6_ n7_ n8_ n9_ n10_ n11_ n12_
               (try clear hb)
               (try clear hb2)
               (try clear hk)
               (try clear hi)
               (try clear ho0)
               (try clear ho1)
               (try clear ho2)
               refine hK.out _ _ ⟨cz BK1805 0, cz BK1805 1, cz BK1805 2, cz BK1805 3, cz BK1805 4, cz BK1805 5⟩ (fun hHeld => ?_)
               clear hK K
               refine norm_ (a' := ?_) ?_ ?_
               rotate_left
               ·show Act.put _ (some 30) _ = _
                simp only [Act.put, List.setIfInBounds_toArray, List.set_cons_zero, List.set_cons_succ, i64_w, i32_w]
                rfl
               refine pA 6 (some 24) HT_.out ?_
               refine pA 7 (some 31) HT_.out ?_
               refine pA 8 (some 32) HT_.out ?_
               exact norm_ (by simp only [putAll, Act.put, List.setIfInBounds_toArray, List.set_cons_zero, List.set_cons_succ]) (hCont (v1823, v1827, v1832, gb1835) _ ⟨hHeld, (oR HO1795), (oR HO1799), (oR HO1804), (oR HO1809), (oR HO1813), (oR HO1818), (by (with_reducible repeat (first | apply Kd.R_alloc | apply Kd.R_drewN | apply Kd.R_drew)); exact Kd.R_mono HO1824.out (fun _ hk => ⟨hk.1.2, hk.2⟩)), (by (with_reducible repeat (first | apply Kd.R_alloc | apply Kd.R_drewN | apply Kd.R_drew)); exact Kd.R_mono HO1828.out (fun _ hk => ⟨hk.1.2, hk.2⟩)), (by (with_reducible repeat (first | apply Kd.R_alloc | apply Kd.R_drewN | apply Kd.R_drew)); exact Kd.R_mono HO1833.out (fun _ hk => ⟨hk.1.2, hk.2⟩)), (oK BK1805), (oK BK1820), (oK BK1835), GW1835.out, GE1835.out, NB1805_1835.out, NB1835_1805.out, NB1820_1835.out, NB1835_1820.out, (oB HB)⟩)
             ·skip
              refine box_step ?hg (N := 6) ?hd (cs := #[.slice none 0 0, .int .i64 0, .slice none 0 0, .int .i64 0, .int .i64 0, .slice none 0 0]) (t := 36) ?hr ?_; (case hd => rfl); (case hg => rfl); (case hr => first | (go_simp; done) | (go_simp; rfl))
              intro gb1835 hg w53 hbox hb
              have n0_ := A_ (Kd.R_below (oR HO1795) hb)
              have n1_ := A_ (Kd.R_below (oR HO1799) hb)
              have n2_ := A_ (Kd.R_below (oR HO1804) hb)
              have n3_ := A_ (Kd.R_below (oR HO1809) hb)
              have n4_ := A_ (Kd.R_below (oR HO1813) hb)
              have n5_ := A_ (Kd.R_below (oR HO1818) hb)
              have n6_ := A_ (bb BK1805 hb)
              have n7_ := A_ (bb BK1820 hb)
              have n8_ := A_ (below_step (oB HB) hb)
              have n9_ := A_ (hbox)
              have n10_ := A_ ((by rw [hg]; exact (below_size (oB HB)) : w.heap.size ≤ gb1835))
              have n11_ := A_ ((by rw [hg]; exact (below_size (oB HB)) : w.heap.size ≤ gb1835))
              have n12_ := A_ (nL BK1805 hg)
              have n13_ := A_ (nG BK1805 hg)
              have n14_ := A_ (nL BK1820 hg)
              have n15_ := A_ (nG BK1820 hg)
              clear HO1795
              clear HO1799
              clear HO1804
              clear HO1809
              clear HO1813
              clear HO1818
              clear BK1805
              clear BK1820
              clear HB
              have HO1795 := n0_
              have HO1799 := n1_
              have HO1804 := n2_
              have HO1809 := n3_
              have HO1813 := n4_
              have HO1818 := n5_
              have BK1805 := n6_
              have BK1820 := n7_
              have HB := n8_
              have BK1835 := n9_
              have GW1835 := n10_
              have GE1835 := n11_
              have NB1805_1835 := n12_
              have NB1835_1805 := n13_
              have NB1820_1835 := n14_
              have NB1835_1820 := n15_
              clear n0_ n1_ n2_ n3_ n4_ n5_ n6_ n7_ n8_ n9_ n10_ n11_ n12_ n13_ n14_ n15_
              clear hb hbox hg
              refine hK.out _ _ ⟨cz BK1805 0, cz BK1805 1, cz BK1805 2, cz BK1805 3, cz BK1805 4, cz BK1805 5⟩ (fun hHeld => ?_)
              clear hK K
              refine norm_ (a' := ?_) ?_ ?_
              rotate_left
              ·show Act.put _ (some 6) _ = _
               simp only [Act.put, List.setIfInBounds_toArray, List.set_cons_zero, List.set_cons_succ, i64_w, i32_w]
               rfl
              refine one_ (i := 2) (N := some 27) #[true, true, true, false, false, false, false, false, false, true, false, false] rfl rfl (one_of HT_.out (by kernel_rfl)) (by decide) (fun K hK => ?_)
              refine goes_ Try.func45 (by kernel_rfl) rfl #[.slice A0 l0.length c0, .int .i64 1] (by rfl) rfl rfl (by (try simp only [List.map_toArray, List.map_cons, List.map_nil]); first | done | rfl | (simp only [List.length_drop, List.length_take]; rfl)) ?_
              with_reducible refine (laws_at.calls _ _ l0 1 t1821 _ ?side1 ?side2 A7.out).mono ?_
              (case side1 => exact oc_ HR0.out)
              (case side2 => exact HC0.out)
              rintro e w' ⟨rfl, ⟨nd, rfl⟩⟩
              refine ⟨_, rfl, ?_⟩
              refine hK.out _ _ ⟨cz BK1805 0, cz BK1805 1, cz BK1805 2, cz BK1805 3, cz BK1805 4, cz BK1805 5⟩ (fun hHeld => ?_)
              clear hK K
              refine norm_ (a' := ?_) ?_ ?_
              rotate_left
              ·show Act.put _ (some 27) _ = _
               simp only [Act.put, List.setIfInBounds_toArray, List.set_cons_zero, List.set_cons_succ, i64_w, i32_w]
               rfl
              refine pA 3 (some 28) HT_.out ?_
              refine pA 4 (some 29) HT_.out ?_
              refine one_ (i := 5) (N := some 30) #[true, true, true, true, true, true, false, false, false, true, false, false] rfl rfl (one_of HT_.out (by kernel_rfl)) (by decide) (fun K hK => ?_)
              refine goes_ Try.func38 (by kernel_rfl) rfl #[.agg #[.slice Ao33 t1793.length co33, .int .i64 t1796, .slice Ao35 t1797.length co35, .int .i64 t1800, .int .i64 t1801, .slice Ao36 t1802.length co36], .agg #[.int .i64 0, .int .i64 (Int.tmod t1821 40)], .int .i64 1] (by rfl) rfl rfl (by (try simp only [List.map_toArray, List.map_cons, List.map_nil]); first | done | rfl | (simp only [List.length_drop, List.length_take]; rfl)) ?_
              with_reducible refine (impl_ShopFault.calls k _ _ t1793 t1796 _ _ t1797 t1800 t1801 _ _ t1802 0 (Int.tmod t1821 40) 1 t1822 t1825 t1826 t1829 t1830 t1831 true _ ?side1 ?side2 ?side3 ?side4 ?side5 ?side6 A8.out).mono ?_
              (case side1 => repeat (first | exact (Kd.R_reads' HO1795.out).2.2 | (with_reducible refine Kd.C_alloc ?_ _) | (with_reducible refine Kd.C_drewN ?_ _) | (with_reducible refine Kd.C_drew ?_)))
              (case side2 => exact (Kd.R_reads' HO1795.out).2.1)
              (case side3 => repeat (first | exact (Kd.R_reads' HO1799.out).2.2 | (with_reducible refine Kd.C_alloc ?_ _) | (with_reducible refine Kd.C_drewN ?_ _) | (with_reducible refine Kd.C_drew ?_)))
              (case side4 => exact (Kd.R_reads' HO1799.out).2.1)
              (case side5 => repeat (first | exact (Kd.R_reads' HO1804.out).2.2 | (with_reducible refine Kd.C_alloc ?_ _) | (with_reducible refine Kd.C_drewN ?_ _) | (with_reducible refine Kd.C_drew ?_)))
              (case side6 => exact (Kd.R_reads' HO1804.out).2.1)
              rintro e w54 ⟨v1823, v1827, v1832, rfl, ho0, ho1, ho2, hb⟩
              refine ⟨_, rfl, ?_⟩
              have n0_ := A_ (Kd.R_elder' (oR HO1795) (Kd.R_base ho0) hb)
              have n1_ := A_ (Kd.R_elder' (oR HO1799) (Kd.R_base ho1) hb)
              have n2_ := A_ (Kd.R_elder' (oR HO1804) (Kd.R_base ho2) hb)
              have n3_ := A_ (Kd.R_elder' (oR HO1809) (Kd.R_base ho0) hb)
              have n4_ := A_ (Kd.R_elder' (oR HO1813) (Kd.R_base ho1) hb)
              have n5_ := A_ (Kd.R_elder' (oR HO1818) (Kd.R_base ho2) hb)
              have n6_ := A_ (Kd.R_lower (Kd.R_new' (Kd.R_new' ho0 (Kd.R_lt (oR HO1795))) (Kd.R_lt (oR HO1809))) (below_size (oB HB)))
              have n7_ := A_ (Kd.R_lower (Kd.R_new' (Kd.R_new' ho1 (Kd.R_lt (oR HO1799))) (Kd.R_lt (oR HO1813))) (below_size (oB HB)))
              have n8_ := A_ (Kd.R_lower (Kd.R_new' (Kd.R_new' ho2 (Kd.R_lt (oR HO1804))) (Kd.R_lt (oR HO1818))) (below_size (oB HB)))
              have n9_ := A_ (bb BK1805 hb)
              have n10_ := A_ (bb BK1820 hb)
              have n11_ := A_ (bb BK1835 hb)
              have n12_ := A_ (below_step (oB HB) hb)
              clear HO1795
              clear HO1799
              clear HO1804
              clear HO1809
              clear HO1813
              clear HO1818
              clear BK1805
              clear BK1820
              clear BK1835
              clear HB
              have HO1795 := n0_
              have HO1799 := n1_
              have HO1804 := n2_
              have HO1809 := n3_
              have HO1813 := n4_
              have HO1818 := n5_
              have HO1824 := n6_
              have HO1828 := n7_
              have HO1833 := n8_
              have BK1805 := n9_
              have BK1820 := n10_
              have BK1835 := n11_
              have HB := n12_
              clear n0_ n1_ n2_ n3_ n4_ n5_ n6_ n7_ n8_ n9_ n10_ n11_ n12_
              (try clear hb)
              (try clear hb2)
              (try clear hk)
              (try clear hi)
              (try clear ho0)
              (try clear ho1)
              (try clear ho2)
              refine hK.out _ _ ⟨cz BK1805 0, cz BK1805 1, cz BK1805 2, cz BK1805 3, cz BK1805 4, cz BK1805 5⟩ (fun hHeld => ?_)
              clear hK K
              refine norm_ (a' := ?_) ?_ ?_
              rotate_left
              ·show Act.put _ (some 30) _ = _
               simp only [Act.put, List.setIfInBounds_toArray, List.set_cons_zero, List.set_cons_succ, i64_w, i32_w]
               rfl
              refine pA 6 (some 24) HT_.out ?_
              refine pA 7 (some 31) HT_.out ?_
              refine pA 8 (some 32) HT_.out ?_
              exact norm_ (by simp only [putAll, Act.put, List.setIfInBounds_toArray, List.set_cons_zero, List.set_cons_succ]) (hCont (v1823, v1827, v1832, gb1835) _ ⟨hHeld, (oR HO1795), (oR HO1799), (oR HO1804), (oR HO1809), (oR HO1813), (oR HO1818), (by (with_reducible repeat (first | apply Kd.R_alloc | apply Kd.R_drewN | apply Kd.R_drew)); exact Kd.R_mono HO1824.out (fun _ hk => ⟨hk.1.2, hk.2⟩)), (by (with_reducible repeat (first | apply Kd.R_alloc | apply Kd.R_drewN | apply Kd.R_drew)); exact Kd.R_mono HO1828.out (fun _ hk => ⟨hk.1.2, hk.2⟩)), (by (with_reducible repeat (first | apply Kd.R_alloc | apply Kd.R_drewN | apply Kd.R_drew)); exact Kd.R_mono HO1833.out (fun _ hk => ⟨hk.1.2, hk.2⟩)), (oK BK1805), (oK BK1820), (oK BK1835), GW1835.out, GE1835.out, NB1805_1835.out, NB1835_1805.out, NB1820_1835.out, NB1835_1820.out, (oB HB)⟩)
            rintro ⟨v1823, v1827, v1832, gb1835⟩ w55 ⟨hS_, h0_, h1_, h2_, h3_, h4_, h5_, h6_, h7_, h8_, h9_, h10_, h11_, h12_, h13_, h14_, h15_, h16_, h17_, h18_⟩
            have n0_ : Aside0 (Kd.R k96 96 w55 w.heap.size (fun k_ => some k_ ≠ (.slice Ao42 t1807.length co42 : Value).ownBlock ∧ some k_ ≠ (v1823 : Value).ownBlock) (.slice Ao33 t1793.length co33) t1793) := ⟨h0_⟩
            have n1_ : Aside0 (Kd.R (Kd.int .i64) 3 w55 w.heap.size (fun k_ => some k_ ≠ (.slice Ao45 t1811.length co45 : Value).ownBlock ∧ some k_ ≠ (v1827 : Value).ownBlock) (.slice Ao35 t1797.length co35) t1797) := ⟨h1_⟩
            have n2_ : Aside0 (Kd.R k74 74 w55 w.heap.size (fun k_ => some k_ ≠ (.slice Ao49 t1816.length co49 : Value).ownBlock ∧ some k_ ≠ (v1832 : Value).ownBlock) (.slice Ao36 t1802.length co36) t1802) := ⟨h2_⟩
            have n3_ : Aside0 (Kd.R k96 96 w55 w.heap.size (fun k_ => some k_ ≠ (.slice Ao33 t1793.length co33 : Value).ownBlock ∧ some k_ ≠ (v1823 : Value).ownBlock) (.slice Ao42 t1807.length co42) t1807) := ⟨h3_⟩
            have n4_ : Aside0 (Kd.R (Kd.int .i64) 3 w55 w.heap.size (fun k_ => some k_ ≠ (.slice Ao35 t1797.length co35 : Value).ownBlock ∧ some k_ ≠ (v1827 : Value).ownBlock) (.slice Ao45 t1811.length co45) t1811) := ⟨h4_⟩
            have n5_ : Aside0 (Kd.R k74 74 w55 w.heap.size (fun k_ => some k_ ≠ (.slice Ao36 t1802.length co36 : Value).ownBlock ∧ some k_ ≠ (v1832 : Value).ownBlock) (.slice Ao49 t1816.length co49) t1816) := ⟨h5_⟩
            have n6_ : Aside0 (Kd.R k96 96 w55 w.heap.size (fun k_ => some k_ ≠ (.slice Ao33 t1793.length co33 : Value).ownBlock ∧ some k_ ≠ (.slice Ao42 t1807.length co42 : Value).ownBlock) v1823 t1822) := ⟨h6_⟩
            have n7_ : Aside0 (Kd.R (Kd.int .i64) 3 w55 w.heap.size (fun k_ => some k_ ≠ (.slice Ao35 t1797.length co35 : Value).ownBlock ∧ some k_ ≠ (.slice Ao45 t1811.length co45 : Value).ownBlock) v1827 t1826) := ⟨h7_⟩
            have n8_ : Aside0 (Kd.R k74 74 w55 w.heap.size (fun k_ => some k_ ≠ (.slice Ao36 t1802.length co36 : Value).ownBlock ∧ some k_ ≠ (.slice Ao49 t1816.length co49 : Value).ownBlock) v1832 t1831) := ⟨h8_⟩
            have n9_ : Aside0 (w55.heap[gb1805]? = some (.cells #[.slice Ao33 t1793.length co33, .int .i64 t1796, .slice Ao35 t1797.length co35, .int .i64 t1800, .int .i64 t1801, .slice Ao36 t1802.length co36] 36 (0, 0))) := ⟨h9_⟩
            have n10_ : Aside0 (w55.heap[gb1820]? = some (.cells #[.slice Ao42 t1807.length co42, .int .i64 t1810, .slice Ao45 t1811.length co45, .int .i64 t1814, .int .i64 t1815, .slice Ao49 t1816.length co49] 36 (0, 0))) := ⟨h10_⟩
            have n11_ : Aside0 (w55.heap[gb1835]? = some (.cells #[.slice none 0 0, .int .i64 0, .slice none 0 0, .int .i64 0, .int .i64 0, .slice none 0 0] 36 (0, 0))) := ⟨h11_⟩
            have n12_ : Aside0 (w.heap.size ≤ gb1835) := ⟨h12_⟩
            have n13_ : Aside0 (w.heap.size ≤ gb1835) := ⟨h13_⟩
            have n14_ : Aside0 (gb1805 ≠ gb1835) := ⟨h14_⟩
            have n15_ : Aside0 (gb1835 ≠ gb1805) := ⟨h15_⟩
            have n16_ : Aside0 (gb1820 ≠ gb1835) := ⟨h16_⟩
            have n17_ : Aside0 (gb1835 ≠ gb1820) := ⟨h17_⟩
            have n18_ : Aside0 (Below w.heap.size w w55) := ⟨h18_⟩
            clear HO1795
            clear HO1799
            clear HO1804
            clear HO1809
            clear HO1813
            clear HO1818
            clear BK1805
            clear BK1820
            clear HB
            clear h0_ h1_ h2_ h3_ h4_ h5_ h6_ h7_ h8_ h9_ h10_ h11_ h12_ h13_ h14_ h15_ h16_ h17_ h18_
            have HO1795 := n0_
            have HO1799 := n1_
            have HO1804 := n2_
            have HO1809 := n3_
            have HO1813 := n4_
            have HO1818 := n5_
            have HO1824 := n6_
            have HO1828 := n7_
            have HO1833 := n8_
            have BK1805 := n9_
            have BK1820 := n10_
            have BK1835 := n11_
            have GW1835 := n12_
            have GE1835 := n13_
            have NB1805_1835 := n14_
            have NB1835_1805 := n15_
            have NB1820_1835 := n16_
            have NB1835_1820 := n17_
            have HB := n18_
            clear n0_ n1_ n2_ n3_ n4_ n5_ n6_ n7_ n8_ n9_ n10_ n11_ n12_ n13_ n14_ n15_ n16_ n17_ n18_
            have hHeld : w55.cell? ⟨gb1805, 0, none⟩ = some (.slice Ao33 t1793.length co33) ∧ w55.cell? ⟨gb1805, 1, none⟩ = some (.int .i64 t1796) ∧ w55.cell? ⟨gb1805, 2, none⟩ = some (.slice Ao35 t1797.length co35) ∧ w55.cell? ⟨gb1805, 3, none⟩ = some (.int .i64 t1800) ∧ w55.cell? ⟨gb1805, 4, none⟩ = some (.int .i64 t1801) ∧ w55.cell? ⟨gb1805, 5, none⟩ = some (.slice Ao36 t1802.length co36) := hS_
            obtain ⟨Ao56, co56, eo56⟩ := Kd.R_slice HO1824.out
            (first | subst eo56 | (injection eo56 with f1_ f2_ f3_; have f4_ := f1_.symm; have f5_ := f3_.symm; clear f1_ f2_ f3_; subst f4_; subst f5_))
            obtain ⟨Ao59, co59, eo59⟩ := Kd.R_slice HO1828.out
            (first | subst eo59 | (injection eo59 with f1_ f2_ f3_; have f4_ := f1_.symm; have f5_ := f3_.symm; clear f1_ f2_ f3_; subst f4_; subst f5_))
            obtain ⟨Ao63, co63, eo63⟩ := Kd.R_slice HO1833.out
            (first | subst eo63 | (injection eo63 with f1_ f2_ f3_; have f4_ := f1_.symm; have f5_ := f3_.symm; clear f1_ f2_ f3_; subst f4_; subst f5_))
            refine norm_ (a' := ?_) ?_ ?_
            rotate_left
            ·simp only [putAll, Act.put, List.setIfInBounds_toArray, List.set_cons_zero, List.set_cons_succ]
             rfl
            refine one_ (i := 10) (N := none) #[true, true, true, true, true, true, true, true, true, true, true, false] rfl rfl (one_of HT_.out (by kernel_rfl)) (by decide) (fun K hK => ?_)
            have hs57 := cz BK1835 0
            have hfs57 := blk_frozen BK1835.out 0
            have hns57_0 := NB1805_1835.out
            have hns57_1 := NB1820_1835.out
            have hms57_0 := NB1835_1805.out
            have hms57_1 := NB1835_1820.out
            have hs58 := cz BK1835 1
            have hfs58 := blk_frozen BK1835.out 1
            have hns58_0 := NB1805_1835.out
            have hns58_1 := NB1820_1835.out
            have hms58_0 := NB1835_1805.out
            have hms58_1 := NB1835_1820.out
            have hs60 := cz BK1835 2
            have hfs60 := blk_frozen BK1835.out 2
            have hns60_0 := NB1805_1835.out
            have hns60_1 := NB1820_1835.out
            have hms60_0 := NB1835_1805.out
            have hms60_1 := NB1835_1820.out
            have hs61 := cz BK1835 3
            have hfs61 := blk_frozen BK1835.out 3
            have hns61_0 := NB1805_1835.out
            have hns61_1 := NB1820_1835.out
            have hms61_0 := NB1835_1805.out
            have hms61_1 := NB1835_1820.out
            have hs62 := cz BK1835 4
            have hfs62 := blk_frozen BK1835.out 4
            have hns62_0 := NB1805_1835.out
            have hns62_1 := NB1820_1835.out
            have hms62_0 := NB1835_1805.out
            have hms62_1 := NB1835_1820.out
            have hs64 := cz BK1835 5
            have hfs64 := blk_frozen BK1835.out 5
            have hns64_0 := NB1805_1835.out
            have hns64_1 := NB1820_1835.out
            have hms64_0 := NB1835_1805.out
            have hms64_1 := NB1835_1820.out
            refine skip_ (w1 := ?_) (by rfl) rfl ?_ ?_
            rotate_left
            ·go_simp
             rfl
            refine hK.out _ _ ⟨(cF NB1805_1835.out hHeld.1), (cF NB1805_1835.out hHeld.2.1), (cF NB1805_1835.out hHeld.2.2.1), (cF NB1805_1835.out hHeld.2.2.2.1), (cF NB1805_1835.out hHeld.2.2.2.2.1), (cF NB1805_1835.out hHeld.2.2.2.2.2)⟩ (fun hHeld => ?_)
            clear hK K
            refine pA 11 (some 7) HT_.out ?_
            refine done_ (done_of HT_.out (by kernel_rfl)) ?_
            try go_wp2
            have n0_ : Aside0 (Kd.R k96 96 ((((((w55.setCell ⟨gb1835, 0, none⟩ (.slice Ao56 t1822.length co56)).setCell ⟨gb1835, 1, none⟩ (.int .i64 t1825)).setCell ⟨gb1835, 2, none⟩ (.slice Ao59 t1826.length co59)).setCell ⟨gb1835, 3, none⟩ (.int .i64 t1829)).setCell ⟨gb1835, 4, none⟩ (.int .i64 t1830)).setCell ⟨gb1835, 5, none⟩ (.slice Ao63 t1831.length co63)) w.heap.size (fun k_ => some k_ ≠ (.slice Ao42 t1807.length co42 : Value).ownBlock ∧ some k_ ≠ (.slice Ao56 t1822.length co56 : Value).ownBlock) (.slice Ao33 t1793.length co33) t1793) := ⟨by (with_reducible repeat (first | apply Kd.R_alloc | apply Kd.R_drewN | apply Kd.R_drew)); exact Kd.R_mono (Kd.R_far (p := ⟨gb1835, 5, none⟩) (Kd.R_far (p := ⟨gb1835, 4, none⟩) (Kd.R_far (p := ⟨gb1835, 3, none⟩) (Kd.R_far (p := ⟨gb1835, 2, none⟩) (Kd.R_far (p := ⟨gb1835, 1, none⟩) (Kd.R_far (p := ⟨gb1835, 0, none⟩) (Kd.R_types HO1795.out BK1835.out (by decide)) (fun _ hk => hk.2) (.slice Ao56 t1822.length co56)) (fun _ hk => hk.2) (.int .i64 t1825)) (fun _ hk => hk.2) (.slice Ao59 t1826.length co59)) (fun _ hk => hk.2) (.int .i64 t1829)) (fun _ hk => hk.2) (.int .i64 t1830)) (fun _ hk => hk.2) (.slice Ao63 t1831.length co63)) (fun _ hk => ⟨hk.1.1, hk.1.2⟩)⟩
            have n1_ : Aside0 (Kd.R (Kd.int .i64) 3 ((((((w55.setCell ⟨gb1835, 0, none⟩ (.slice Ao56 t1822.length co56)).setCell ⟨gb1835, 1, none⟩ (.int .i64 t1825)).setCell ⟨gb1835, 2, none⟩ (.slice Ao59 t1826.length co59)).setCell ⟨gb1835, 3, none⟩ (.int .i64 t1829)).setCell ⟨gb1835, 4, none⟩ (.int .i64 t1830)).setCell ⟨gb1835, 5, none⟩ (.slice Ao63 t1831.length co63)) w.heap.size (fun k_ => some k_ ≠ (.slice Ao45 t1811.length co45 : Value).ownBlock ∧ some k_ ≠ (.slice Ao59 t1826.length co59 : Value).ownBlock) (.slice Ao35 t1797.length co35) t1797) := ⟨by (with_reducible repeat (first | apply Kd.R_alloc | apply Kd.R_drewN | apply Kd.R_drew)); exact Kd.R_mono (Kd.R_far (p := ⟨gb1835, 5, none⟩) (Kd.R_far (p := ⟨gb1835, 4, none⟩) (Kd.R_far (p := ⟨gb1835, 3, none⟩) (Kd.R_far (p := ⟨gb1835, 2, none⟩) (Kd.R_far (p := ⟨gb1835, 1, none⟩) (Kd.R_far (p := ⟨gb1835, 0, none⟩) (Kd.R_types HO1799.out BK1835.out (by decide)) (fun _ hk => hk.2) (.slice Ao56 t1822.length co56)) (fun _ hk => hk.2) (.int .i64 t1825)) (fun _ hk => hk.2) (.slice Ao59 t1826.length co59)) (fun _ hk => hk.2) (.int .i64 t1829)) (fun _ hk => hk.2) (.int .i64 t1830)) (fun _ hk => hk.2) (.slice Ao63 t1831.length co63)) (fun _ hk => ⟨hk.1.1, hk.1.2⟩)⟩
            have n2_ : Aside0 (Kd.R k74 74 ((((((w55.setCell ⟨gb1835, 0, none⟩ (.slice Ao56 t1822.length co56)).setCell ⟨gb1835, 1, none⟩ (.int .i64 t1825)).setCell ⟨gb1835, 2, none⟩ (.slice Ao59 t1826.length co59)).setCell ⟨gb1835, 3, none⟩ (.int .i64 t1829)).setCell ⟨gb1835, 4, none⟩ (.int .i64 t1830)).setCell ⟨gb1835, 5, none⟩ (.slice Ao63 t1831.length co63)) w.heap.size (fun k_ => some k_ ≠ (.slice Ao49 t1816.length co49 : Value).ownBlock ∧ some k_ ≠ (.slice Ao63 t1831.length co63 : Value).ownBlock) (.slice Ao36 t1802.length co36) t1802) := ⟨by (with_reducible repeat (first | apply Kd.R_alloc | apply Kd.R_drewN | apply Kd.R_drew)); exact Kd.R_mono (Kd.R_far (p := ⟨gb1835, 5, none⟩) (Kd.R_far (p := ⟨gb1835, 4, none⟩) (Kd.R_far (p := ⟨gb1835, 3, none⟩) (Kd.R_far (p := ⟨gb1835, 2, none⟩) (Kd.R_far (p := ⟨gb1835, 1, none⟩) (Kd.R_far (p := ⟨gb1835, 0, none⟩) (Kd.R_types HO1804.out BK1835.out (by decide)) (fun _ hk => hk.2) (.slice Ao56 t1822.length co56)) (fun _ hk => hk.2) (.int .i64 t1825)) (fun _ hk => hk.2) (.slice Ao59 t1826.length co59)) (fun _ hk => hk.2) (.int .i64 t1829)) (fun _ hk => hk.2) (.int .i64 t1830)) (fun _ hk => hk.2) (.slice Ao63 t1831.length co63)) (fun _ hk => ⟨hk.1.1, hk.1.2⟩)⟩
            have n3_ : Aside0 (Kd.R k96 96 ((((((w55.setCell ⟨gb1835, 0, none⟩ (.slice Ao56 t1822.length co56)).setCell ⟨gb1835, 1, none⟩ (.int .i64 t1825)).setCell ⟨gb1835, 2, none⟩ (.slice Ao59 t1826.length co59)).setCell ⟨gb1835, 3, none⟩ (.int .i64 t1829)).setCell ⟨gb1835, 4, none⟩ (.int .i64 t1830)).setCell ⟨gb1835, 5, none⟩ (.slice Ao63 t1831.length co63)) w.heap.size (fun k_ => some k_ ≠ (.slice Ao33 t1793.length co33 : Value).ownBlock ∧ some k_ ≠ (.slice Ao56 t1822.length co56 : Value).ownBlock) (.slice Ao42 t1807.length co42) t1807) := ⟨by (with_reducible repeat (first | apply Kd.R_alloc | apply Kd.R_drewN | apply Kd.R_drew)); exact Kd.R_mono (Kd.R_far (p := ⟨gb1835, 5, none⟩) (Kd.R_far (p := ⟨gb1835, 4, none⟩) (Kd.R_far (p := ⟨gb1835, 3, none⟩) (Kd.R_far (p := ⟨gb1835, 2, none⟩) (Kd.R_far (p := ⟨gb1835, 1, none⟩) (Kd.R_far (p := ⟨gb1835, 0, none⟩) (Kd.R_types HO1809.out BK1835.out (by decide)) (fun _ hk => hk.2) (.slice Ao56 t1822.length co56)) (fun _ hk => hk.2) (.int .i64 t1825)) (fun _ hk => hk.2) (.slice Ao59 t1826.length co59)) (fun _ hk => hk.2) (.int .i64 t1829)) (fun _ hk => hk.2) (.int .i64 t1830)) (fun _ hk => hk.2) (.slice Ao63 t1831.length co63)) (fun _ hk => ⟨hk.1.1, hk.1.2⟩)⟩
            have n4_ : Aside0 (Kd.R (Kd.int .i64) 3 ((((((w55.setCell ⟨gb1835, 0, none⟩ (.slice Ao56 t1822.length co56)).setCell ⟨gb1835, 1, none⟩ (.int .i64 t1825)).setCell ⟨gb1835, 2, none⟩ (.slice Ao59 t1826.length co59)).setCell ⟨gb1835, 3, none⟩ (.int .i64 t1829)).setCell ⟨gb1835, 4, none⟩ (.int .i64 t1830)).setCell ⟨gb1835, 5, none⟩ (.slice Ao63 t1831.length co63)) w.heap.size (fun k_ => some k_ ≠ (.slice Ao35 t1797.length co35 : Value).ownBlock ∧ some k_ ≠ (.slice Ao59 t1826.length co59 : Value).ownBlock) (.slice Ao45 t1811.length co45) t1811) := ⟨by (with_reducible repeat (first | apply Kd.R_alloc | apply Kd.R_drewN | apply Kd.R_drew)); exact Kd.R_mono (Kd.R_far (p := ⟨gb1835, 5, none⟩) (Kd.R_far (p := ⟨gb1835, 4, none⟩) (Kd.R_far (p := ⟨gb1835, 3, none⟩) (Kd.R_far (p := ⟨gb1835, 2, none⟩) (Kd.R_far (p := ⟨gb1835, 1, none⟩) (Kd.R_far (p := ⟨gb1835, 0, none⟩) (Kd.R_types HO1813.out BK1835.out (by decide)) (fun _ hk => hk.2) (.slice Ao56 t1822.length co56)) (fun _ hk => hk.2) (.int .i64 t1825)) (fun _ hk => hk.2) (.slice Ao59 t1826.length co59)) (fun _ hk => hk.2) (.int .i64 t1829)) (fun _ hk => hk.2) (.int .i64 t1830)) (fun _ hk => hk.2) (.slice Ao63 t1831.length co63)) (fun _ hk => ⟨hk.1.1, hk.1.2⟩)⟩
            have n5_ : Aside0 (Kd.R k74 74 ((((((w55.setCell ⟨gb1835, 0, none⟩ (.slice Ao56 t1822.length co56)).setCell ⟨gb1835, 1, none⟩ (.int .i64 t1825)).setCell ⟨gb1835, 2, none⟩ (.slice Ao59 t1826.length co59)).setCell ⟨gb1835, 3, none⟩ (.int .i64 t1829)).setCell ⟨gb1835, 4, none⟩ (.int .i64 t1830)).setCell ⟨gb1835, 5, none⟩ (.slice Ao63 t1831.length co63)) w.heap.size (fun k_ => some k_ ≠ (.slice Ao36 t1802.length co36 : Value).ownBlock ∧ some k_ ≠ (.slice Ao63 t1831.length co63 : Value).ownBlock) (.slice Ao49 t1816.length co49) t1816) := ⟨by (with_reducible repeat (first | apply Kd.R_alloc | apply Kd.R_drewN | apply Kd.R_drew)); exact Kd.R_mono (Kd.R_far (p := ⟨gb1835, 5, none⟩) (Kd.R_far (p := ⟨gb1835, 4, none⟩) (Kd.R_far (p := ⟨gb1835, 3, none⟩) (Kd.R_far (p := ⟨gb1835, 2, none⟩) (Kd.R_far (p := ⟨gb1835, 1, none⟩) (Kd.R_far (p := ⟨gb1835, 0, none⟩) (Kd.R_types HO1818.out BK1835.out (by decide)) (fun _ hk => hk.2) (.slice Ao56 t1822.length co56)) (fun _ hk => hk.2) (.int .i64 t1825)) (fun _ hk => hk.2) (.slice Ao59 t1826.length co59)) (fun _ hk => hk.2) (.int .i64 t1829)) (fun _ hk => hk.2) (.int .i64 t1830)) (fun _ hk => hk.2) (.slice Ao63 t1831.length co63)) (fun _ hk => ⟨hk.1.1, hk.1.2⟩)⟩
            have n6_ : Aside0 (Kd.R k96 96 ((((((w55.setCell ⟨gb1835, 0, none⟩ (.slice Ao56 t1822.length co56)).setCell ⟨gb1835, 1, none⟩ (.int .i64 t1825)).setCell ⟨gb1835, 2, none⟩ (.slice Ao59 t1826.length co59)).setCell ⟨gb1835, 3, none⟩ (.int .i64 t1829)).setCell ⟨gb1835, 4, none⟩ (.int .i64 t1830)).setCell ⟨gb1835, 5, none⟩ (.slice Ao63 t1831.length co63)) w.heap.size (fun k_ => some k_ ≠ (.slice Ao33 t1793.length co33 : Value).ownBlock ∧ some k_ ≠ (.slice Ao42 t1807.length co42 : Value).ownBlock) (.slice Ao56 t1822.length co56) t1822) := ⟨by (with_reducible repeat (first | apply Kd.R_alloc | apply Kd.R_drewN | apply Kd.R_drew)); exact Kd.R_mono (Kd.R_far (p := ⟨gb1835, 5, none⟩) (Kd.R_far (p := ⟨gb1835, 4, none⟩) (Kd.R_far (p := ⟨gb1835, 3, none⟩) (Kd.R_far (p := ⟨gb1835, 2, none⟩) (Kd.R_far (p := ⟨gb1835, 1, none⟩) (Kd.R_far (p := ⟨gb1835, 0, none⟩) (Kd.R_types HO1824.out BK1835.out (by decide)) (fun _ hk => hk.2) (.slice Ao56 t1822.length co56)) (fun _ hk => hk.2) (.int .i64 t1825)) (fun _ hk => hk.2) (.slice Ao59 t1826.length co59)) (fun _ hk => hk.2) (.int .i64 t1829)) (fun _ hk => hk.2) (.int .i64 t1830)) (fun _ hk => hk.2) (.slice Ao63 t1831.length co63)) (fun _ hk => ⟨hk.1.1, hk.1.2⟩)⟩
            have n7_ : Aside0 (Kd.R (Kd.int .i64) 3 ((((((w55.setCell ⟨gb1835, 0, none⟩ (.slice Ao56 t1822.length co56)).setCell ⟨gb1835, 1, none⟩ (.int .i64 t1825)).setCell ⟨gb1835, 2, none⟩ (.slice Ao59 t1826.length co59)).setCell ⟨gb1835, 3, none⟩ (.int .i64 t1829)).setCell ⟨gb1835, 4, none⟩ (.int .i64 t1830)).setCell ⟨gb1835, 5, none⟩ (.slice Ao63 t1831.length co63)) w.heap.size (fun k_ => some k_ ≠ (.slice Ao35 t1797.length co35 : Value).ownBlock ∧ some k_ ≠ (.slice Ao45 t1811.length co45 : Value).ownBlock) (.slice Ao59 t1826.length co59) t1826) := ⟨by (with_reducible repeat (first | apply Kd.R_alloc | apply Kd.R_drewN | apply Kd.R_drew)); exact Kd.R_mono (Kd.R_far (p := ⟨gb1835, 5, none⟩) (Kd.R_far (p := ⟨gb1835, 4, none⟩) (Kd.R_far (p := ⟨gb1835, 3, none⟩) (Kd.R_far (p := ⟨gb1835, 2, none⟩) (Kd.R_far (p := ⟨gb1835, 1, none⟩) (Kd.R_far (p := ⟨gb1835, 0, none⟩) (Kd.R_types HO1828.out BK1835.out (by decide)) (fun _ hk => hk.2) (.slice Ao56 t1822.length co56)) (fun _ hk => hk.2) (.int .i64 t1825)) (fun _ hk => hk.2) (.slice Ao59 t1826.length co59)) (fun _ hk => hk.2) (.int .i64 t1829)) (fun _ hk => hk.2) (.int .i64 t1830)) (fun _ hk => hk.2) (.slice Ao63 t1831.length co63)) (fun _ hk => ⟨hk.1.1, hk.1.2⟩)⟩
            have n8_ : Aside0 (Kd.R k74 74 ((((((w55.setCell ⟨gb1835, 0, none⟩ (.slice Ao56 t1822.length co56)).setCell ⟨gb1835, 1, none⟩ (.int .i64 t1825)).setCell ⟨gb1835, 2, none⟩ (.slice Ao59 t1826.length co59)).setCell ⟨gb1835, 3, none⟩ (.int .i64 t1829)).setCell ⟨gb1835, 4, none⟩ (.int .i64 t1830)).setCell ⟨gb1835, 5, none⟩ (.slice Ao63 t1831.length co63)) w.heap.size (fun k_ => some k_ ≠ (.slice Ao36 t1802.length co36 : Value).ownBlock ∧ some k_ ≠ (.slice Ao49 t1816.length co49 : Value).ownBlock) (.slice Ao63 t1831.length co63) t1831) := ⟨by (with_reducible repeat (first | apply Kd.R_alloc | apply Kd.R_drewN | apply Kd.R_drew)); exact Kd.R_mono (Kd.R_far (p := ⟨gb1835, 5, none⟩) (Kd.R_far (p := ⟨gb1835, 4, none⟩) (Kd.R_far (p := ⟨gb1835, 3, none⟩) (Kd.R_far (p := ⟨gb1835, 2, none⟩) (Kd.R_far (p := ⟨gb1835, 1, none⟩) (Kd.R_far (p := ⟨gb1835, 0, none⟩) (Kd.R_types HO1833.out BK1835.out (by decide)) (fun _ hk => hk.2) (.slice Ao56 t1822.length co56)) (fun _ hk => hk.2) (.int .i64 t1825)) (fun _ hk => hk.2) (.slice Ao59 t1826.length co59)) (fun _ hk => hk.2) (.int .i64 t1829)) (fun _ hk => hk.2) (.int .i64 t1830)) (fun _ hk => hk.2) (.slice Ao63 t1831.length co63)) (fun _ hk => ⟨hk.1.1, hk.1.2⟩)⟩
            have n9_ : Aside0 (((((((w55.setCell ⟨gb1835, 0, none⟩ (.slice Ao56 t1822.length co56)).setCell ⟨gb1835, 1, none⟩ (.int .i64 t1825)).setCell ⟨gb1835, 2, none⟩ (.slice Ao59 t1826.length co59)).setCell ⟨gb1835, 3, none⟩ (.int .i64 t1829)).setCell ⟨gb1835, 4, none⟩ (.int .i64 t1830)).setCell ⟨gb1835, 5, none⟩ (.slice Ao63 t1831.length co63)).heap[gb1805]? = some (.cells #[.slice Ao33 t1793.length co33, .int .i64 t1796, .slice Ao35 t1797.length co35, .int .i64 t1800, .int .i64 t1801, .slice Ao36 t1802.length co36] 36 (0, 0))) := ⟨by (with_reducible repeat (first | refine blk_drewN ?_ _ | refine blk_drew ?_ | refine blk_alloc ?_ _)); refine blk_far ?_ NB1805_1835.out _; (with_reducible repeat (first | refine blk_drewN ?_ _ | refine blk_drew ?_ | refine blk_alloc ?_ _)); refine blk_far ?_ NB1805_1835.out _; (with_reducible repeat (first | refine blk_drewN ?_ _ | refine blk_drew ?_ | refine blk_alloc ?_ _)); refine blk_far ?_ NB1805_1835.out _; (with_reducible repeat (first | refine blk_drewN ?_ _ | refine blk_drew ?_ | refine blk_alloc ?_ _)); refine blk_far ?_ NB1805_1835.out _; (with_reducible repeat (first | refine blk_drewN ?_ _ | refine blk_drew ?_ | refine blk_alloc ?_ _)); refine blk_far ?_ NB1805_1835.out _; (with_reducible repeat (first | refine blk_drewN ?_ _ | refine blk_drew ?_ | refine blk_alloc ?_ _)); refine blk_far ?_ NB1805_1835.out _; (with_reducible repeat (first | refine blk_drewN ?_ _ | refine blk_drew ?_ | refine blk_alloc ?_ _)); exact BK1805.out⟩
            have n10_ : Aside0 (((((((w55.setCell ⟨gb1835, 0, none⟩ (.slice Ao56 t1822.length co56)).setCell ⟨gb1835, 1, none⟩ (.int .i64 t1825)).setCell ⟨gb1835, 2, none⟩ (.slice Ao59 t1826.length co59)).setCell ⟨gb1835, 3, none⟩ (.int .i64 t1829)).setCell ⟨gb1835, 4, none⟩ (.int .i64 t1830)).setCell ⟨gb1835, 5, none⟩ (.slice Ao63 t1831.length co63)).heap[gb1820]? = some (.cells #[.slice Ao42 t1807.length co42, .int .i64 t1810, .slice Ao45 t1811.length co45, .int .i64 t1814, .int .i64 t1815, .slice Ao49 t1816.length co49] 36 (0, 0))) := ⟨by (with_reducible repeat (first | refine blk_drewN ?_ _ | refine blk_drew ?_ | refine blk_alloc ?_ _)); refine blk_far ?_ NB1820_1835.out _; (with_reducible repeat (first | refine blk_drewN ?_ _ | refine blk_drew ?_ | refine blk_alloc ?_ _)); refine blk_far ?_ NB1820_1835.out _; (with_reducible repeat (first | refine blk_drewN ?_ _ | refine blk_drew ?_ | refine blk_alloc ?_ _)); refine blk_far ?_ NB1820_1835.out _; (with_reducible repeat (first | refine blk_drewN ?_ _ | refine blk_drew ?_ | refine blk_alloc ?_ _)); refine blk_far ?_ NB1820_1835.out _; (with_reducible repeat (first | refine blk_drewN ?_ _ | refine blk_drew ?_ | refine blk_alloc ?_ _)); refine blk_far ?_ NB1820_1835.out _; (with_reducible repeat (first | refine blk_drewN ?_ _ | refine blk_drew ?_ | refine blk_alloc ?_ _)); refine blk_far ?_ NB1820_1835.out _; (with_reducible repeat (first | refine blk_drewN ?_ _ | refine blk_drew ?_ | refine blk_alloc ?_ _)); exact BK1820.out⟩
            have n11_ : Aside0 (((((((w55.setCell ⟨gb1835, 0, none⟩ (.slice Ao56 t1822.length co56)).setCell ⟨gb1835, 1, none⟩ (.int .i64 t1825)).setCell ⟨gb1835, 2, none⟩ (.slice Ao59 t1826.length co59)).setCell ⟨gb1835, 3, none⟩ (.int .i64 t1829)).setCell ⟨gb1835, 4, none⟩ (.int .i64 t1830)).setCell ⟨gb1835, 5, none⟩ (.slice Ao63 t1831.length co63)).heap[gb1835]? = some (.cells #[.slice Ao56 t1822.length co56, .int .i64 t1825, .slice Ao59 t1826.length co59, .int .i64 t1829, .int .i64 t1830, .slice Ao63 t1831.length co63] 36 (0, 0))) := ⟨by (with_reducible repeat (first | refine blk_drewN ?_ _ | refine blk_drew ?_ | refine blk_alloc ?_ _)); refine blk_put (cs := #[.slice Ao56 t1822.length co56, .int .i64 t1825, .slice Ao59 t1826.length co59, .int .i64 t1829, .int .i64 t1830, .slice none 0 0]) ?_ 5 _ rfl; (with_reducible repeat (first | refine blk_drewN ?_ _ | refine blk_drew ?_ | refine blk_alloc ?_ _)); refine blk_put (cs := #[.slice Ao56 t1822.length co56, .int .i64 t1825, .slice Ao59 t1826.length co59, .int .i64 t1829, .int .i64 0, .slice none 0 0]) ?_ 4 _ rfl; (with_reducible repeat (first | refine blk_drewN ?_ _ | refine blk_drew ?_ | refine blk_alloc ?_ _)); refine blk_put (cs := #[.slice Ao56 t1822.length co56, .int .i64 t1825, .slice Ao59 t1826.length co59, .int .i64 0, .int .i64 0, .slice none 0 0]) ?_ 3 _ rfl; (with_reducible repeat (first | refine blk_drewN ?_ _ | refine blk_drew ?_ | refine blk_alloc ?_ _)); refine blk_put (cs := #[.slice Ao56 t1822.length co56, .int .i64 t1825, .slice none 0 0, .int .i64 0, .int .i64 0, .slice none 0 0]) ?_ 2 _ rfl; (with_reducible repeat (first | refine blk_drewN ?_ _ | refine blk_drew ?_ | refine blk_alloc ?_ _)); refine blk_put (cs := #[.slice Ao56 t1822.length co56, .int .i64 0, .slice none 0 0, .int .i64 0, .int .i64 0, .slice none 0 0]) ?_ 1 _ rfl; (with_reducible repeat (first | refine blk_drewN ?_ _ | refine blk_drew ?_ | refine blk_alloc ?_ _)); refine blk_put (cs := #[.slice none 0 0, .int .i64 0, .slice none 0 0, .int .i64 0, .int .i64 0, .slice none 0 0]) ?_ 0 _ rfl; (with_reducible repeat (first | refine blk_drewN ?_ _ | refine blk_drew ?_ | refine blk_alloc ?_ _)); exact BK1835.out⟩
            have n12_ : Aside0 (Below w.heap.size w ((((((w55.setCell ⟨gb1835, 0, none⟩ (.slice Ao56 t1822.length co56)).setCell ⟨gb1835, 1, none⟩ (.int .i64 t1825)).setCell ⟨gb1835, 2, none⟩ (.slice Ao59 t1826.length co59)).setCell ⟨gb1835, 3, none⟩ (.int .i64 t1829)).setCell ⟨gb1835, 4, none⟩ (.int .i64 t1830)).setCell ⟨gb1835, 5, none⟩ (.slice Ao63 t1831.length co63))) := ⟨oB HB⟩
            (try clear HO1795)
            (try clear HO1799)
            (try clear HO1804)
            (try clear HO1809)
            (try clear HO1813)
            (try clear HO1818)
            (try clear HO1824)
            (try clear HO1828)
            (try clear HO1833)
            (try clear BK1805)
            (try clear BK1820)
            (try clear BK1835)
            (try clear HB)
            generalize ((((((w55.setCell ⟨gb1835, 0, none⟩ (.slice Ao56 t1822.length co56)).setCell ⟨gb1835, 1, none⟩ (.int .i64 t1825)).setCell ⟨gb1835, 2, none⟩ (.slice Ao59 t1826.length co59)).setCell ⟨gb1835, 3, none⟩ (.int .i64 t1829)).setCell ⟨gb1835, 4, none⟩ (.int .i64 t1830)).setCell ⟨gb1835, 5, none⟩ (.slice Ao63 t1831.length co63)) = w65 at n0_ n1_ n2_ n3_ n4_ n5_ n6_ n7_ n8_ n9_ n10_ n11_ n12_ ⊢
            have HO1795 := n0_
            have HO1799 := n1_
            have HO1804 := n2_
            have HO1809 := n3_
            have HO1813 := n4_
            have HO1818 := n5_
            have HO1824 := n6_
            have HO1828 := n7_
            have HO1833 := n8_
            have BK1805 := n9_
            have BK1820 := n10_
            have BK1835 := n11_
            have HB := n12_
            clear n0_ n1_ n2_ n3_ n4_ n5_ n6_ n7_ n8_ n9_ n10_ n11_ n12_
            have n0_ := A_ (Kd.R_drew HO1795.out)
            have n1_ := A_ (Kd.R_drew HO1799.out)
            have n2_ := A_ (Kd.R_drew HO1804.out)
            have n3_ := A_ (Kd.R_drew HO1809.out)
            have n4_ := A_ (Kd.R_drew HO1813.out)
            have n5_ := A_ (Kd.R_drew HO1818.out)
            have n6_ := A_ (Kd.R_drew HO1824.out)
            have n7_ := A_ (Kd.R_drew HO1828.out)
            have n8_ := A_ (Kd.R_drew HO1833.out)
            have n9_ := A_ (blk_drew BK1805.out)
            have n10_ := A_ (blk_drew BK1820.out)
            have n11_ := A_ (blk_drew BK1835.out)
            have n12_ := A_ (below_drew1 HB.out)
            clear HO1795
            clear HO1799
            clear HO1804
            clear HO1809
            clear HO1813
            clear HO1818
            clear HO1824
            clear HO1828
            clear HO1833
            clear BK1805
            clear BK1820
            clear BK1835
            clear HB
            have HO1795 := n0_
            have HO1799 := n1_
            have HO1804 := n2_
            have HO1809 := n3_
            have HO1813 := n4_
            have HO1818 := n5_
            have HO1824 := n6_
            have HO1828 := n7_
            have HO1833 := n8_
            have BK1805 := n9_
            have BK1820 := n10_
            have BK1835 := n11_
            have HB := n12_
            clear n0_ n1_ n2_ n3_ n4_ n5_ n6_ n7_ n8_ n9_ n10_ n11_ n12_
            refine start_ (n := 11) (S := fun w' => w'.cell? ⟨gb1805, 0, none⟩ = some (.slice Ao33 t1793.length co33) ∧ w'.cell? ⟨gb1805, 1, none⟩ = some (.int .i64 t1796) ∧ w'.cell? ⟨gb1805, 2, none⟩ = some (.slice Ao35 t1797.length co35) ∧ w'.cell? ⟨gb1805, 3, none⟩ = some (.int .i64 t1800) ∧ w'.cell? ⟨gb1805, 4, none⟩ = some (.int .i64 t1801) ∧ w'.cell? ⟨gb1805, 5, none⟩ = some (.slice Ao36 t1802.length co36)) (ds := []) #[false, false, false, false, false, false, false, false, false, false, false] (by kernel_rfl) rfl rfl ⟨cz BK1805 0, cz BK1805 1, cz BK1805 2, cz BK1805 3, cz BK1805 4, cz BK1805 5⟩ (fun hHeld => ?_); refine with_tabW laws_FnShops.tab6 laws_FnShops.bits6 (fun HT_ HW_ => ?_)
            generalize w65.drew = w66 at HO1795 HO1799 HO1804 HO1809 HO1813 HO1818 HO1824 HO1828 HO1833 BK1805 BK1820 BK1835 HB hHeld ⊢
            refine pA 1 (some 35) HT_.out ?_
            refine pT 0 (some 34) HT_.out HW_.out hHeld ?_
            refine join_ (σ := Value × Value × Value × Nat) 2 #[true, true, true, true, true, true, true, true, true, false, false] (fun s_ => [(36, .int .i64 t1836), (38, .tuple #[.agg #[s_.1, .int .i64 t1840, s_.2.1, .int .i64 t1844, .int .i64 t1845, s_.2.2.1], .bool t1849]), (8, .pointer (some ⟨s_.2.2.2, 0, none⟩)), (37, .int .i64 (Int.tmod t1836 12)), (33, .tuple #[.agg #[s_.1, .int .i64 t1840, s_.2.1, .int .i64 t1844, .int .i64 t1845, s_.2.2.1], .bool t1849]), (39, .agg #[s_.1, .int .i64 t1840, s_.2.1, .int .i64 t1844, .int .i64 t1845, s_.2.2.1]), (40, .bool t1849)]) (fun s_ w' => (w'.cell? ⟨gb1805, 0, none⟩ = some (.slice Ao33 t1793.length co33) ∧ w'.cell? ⟨gb1805, 1, none⟩ = some (.int .i64 t1796) ∧ w'.cell? ⟨gb1805, 2, none⟩ = some (.slice Ao35 t1797.length co35) ∧ w'.cell? ⟨gb1805, 3, none⟩ = some (.int .i64 t1800) ∧ w'.cell? ⟨gb1805, 4, none⟩ = some (.int .i64 t1801) ∧ w'.cell? ⟨gb1805, 5, none⟩ = some (.slice Ao36 t1802.length co36)) ∧ (Kd.R k96 96 w' w.heap.size (fun k_ => some k_ ≠ (.slice Ao42 t1807.length co42 : Value).ownBlock ∧ some k_ ≠ (.slice Ao56 t1822.length co56 : Value).ownBlock ∧ some k_ ≠ (s_.1 : Value).ownBlock) (.slice Ao33 t1793.length co33) t1793) ∧ (Kd.R (Kd.int .i64) 3 w' w.heap.size (fun k_ => some k_ ≠ (.slice Ao45 t1811.length co45 : Value).ownBlock ∧ some k_ ≠ (.slice Ao59 t1826.length co59 : Value).ownBlock ∧ some k_ ≠ (s_.2.1 : Value).ownBlock) (.slice Ao35 t1797.length co35) t1797) ∧ (Kd.R k74 74 w' w.heap.size (fun k_ => some k_ ≠ (.slice Ao49 t1816.length co49 : Value).ownBlock ∧ some k_ ≠ (.slice Ao63 t1831.length co63 : Value).ownBlock ∧ some k_ ≠ (s_.2.2.1 : Value).ownBlock) (.slice Ao36 t1802.length co36) t1802) ∧ (Kd.R k96 96 w' w.heap.size (fun k_ => some k_ ≠ (.slice Ao33 t1793.length co33 : Value).ownBlock ∧ some k_ ≠ (.slice Ao56 t1822.length co56 : Value).ownBlock ∧ some k_ ≠ (s_.1 : Value).ownBlock) (.slice Ao42 t1807.length co42) t1807) ∧ (Kd.R (Kd.int .i64) 3 w' w.heap.size (fun k_ => some k_ ≠ (.slice Ao35 t1797.length co35 : Value).ownBlock ∧ some k_ ≠ (.slice Ao59 t1826.length co59 : Value).ownBlock ∧ some k_ ≠ (s_.2.1 : Value).ownBlock) (.slice Ao45 t1811.length co45) t1811) ∧ (Kd.R k74 74 w' w.heap.size (fun k_ => some k_ ≠ (.slice Ao36 t1802.length co36 : Value).ownBlock ∧ some k_ ≠ (.slice Ao63 t1831.length co63 : Value).ownBlock ∧ some k_ ≠ (s_.2.2.1 : Value).ownBlock) (.slice Ao49 t1816.length co49) t1816) ∧ (Kd.R k96 96 w' w.heap.size (fun k_ => some k_ ≠ (.slice Ao33 t1793.length co33 : Value).ownBlock ∧ some k_ ≠ (.slice Ao42 t1807.length co42 : Value).ownBlock ∧ some k_ ≠ (s_.1 : Value).ownBlock) (.slice Ao56 t1822.length co56) t1822) ∧ (Kd.R (Kd.int .i64) 3 w' w.heap.size (fun k_ => some k_ ≠ (.slice Ao35 t1797.length co35 : Value).ownBlock ∧ some k_ ≠ (.slice Ao45 t1811.length co45 : Value).ownBlock ∧ some k_ ≠ (s_.2.1 : Value).ownBlock) (.slice Ao59 t1826.length co59) t1826) ∧ (Kd.R k74 74 w' w.heap.size (fun k_ => some k_ ≠ (.slice Ao36 t1802.length co36 : Value).ownBlock ∧ some k_ ≠ (.slice Ao49 t1816.length co49 : Value).ownBlock ∧ some k_ ≠ (s_.2.2.1 : Value).ownBlock) (.slice Ao63 t1831.length co63) t1831) ∧ (Kd.R k96 96 w' w.heap.size (fun k_ => some k_ ≠ (.slice Ao33 t1793.length co33 : Value).ownBlock ∧ some k_ ≠ (.slice Ao42 t1807.length co42 : Value).ownBlock ∧ some k_ ≠ (.slice Ao56 t1822.length co56 : Value).ownBlock) s_.1 t1837) ∧ (Kd.R (Kd.int .i64) 3 w' w.heap.size (fun k_ => some k_ ≠ (.slice Ao35 t1797.length co35 : Value).ownBlock ∧ some k_ ≠ (.slice Ao45 t1811.length co45 : Value).ownBlock ∧ some k_ ≠ (.slice Ao59 t1826.length co59 : Value).ownBlock) s_.2.1 t1841) ∧ (Kd.R k74 74 w' w.heap.size (fun k_ => some k_ ≠ (.slice Ao36 t1802.length co36 : Value).ownBlock ∧ some k_ ≠ (.slice Ao49 t1816.length co49 : Value).ownBlock ∧ some k_ ≠ (.slice Ao63 t1831.length co63 : Value).ownBlock) s_.2.2.1 t1846) ∧ (w'.heap[gb1805]? = some (.cells #[.slice Ao33 t1793.length co33, .int .i64 t1796, .slice Ao35 t1797.length co35, .int .i64 t1800, .int .i64 t1801, .slice Ao36 t1802.length co36] 36 (0, 0))) ∧ (w'.heap[gb1820]? = some (.cells #[.slice Ao42 t1807.length co42, .int .i64 t1810, .slice Ao45 t1811.length co45, .int .i64 t1814, .int .i64 t1815, .slice Ao49 t1816.length co49] 36 (0, 0))) ∧ (w'.heap[gb1835]? = some (.cells #[.slice Ao56 t1822.length co56, .int .i64 t1825, .slice Ao59 t1826.length co59, .int .i64 t1829, .int .i64 t1830, .slice Ao63 t1831.length co63] 36 (0, 0))) ∧ (w'.heap[s_.2.2.2]? = some (.cells #[.slice none 0 0, .int .i64 0, .slice none 0 0, .int .i64 0, .int .i64 0, .slice none 0 0] 36 (0, 0))) ∧ (w.heap.size ≤ s_.2.2.2) ∧ (w.heap.size ≤ s_.2.2.2) ∧ (gb1805 ≠ s_.2.2.2) ∧ (s_.2.2.2 ≠ gb1805) ∧ (gb1820 ≠ s_.2.2.2) ∧ (s_.2.2.2 ≠ gb1820) ∧ (gb1835 ≠ s_.2.2.2) ∧ (s_.2.2.2 ≠ gb1835) ∧ (Below w.heap.size w w')) ?_ ?_
            rotate_left
            ·intro hCont
             refine two_ (i := 2) (j := 8) (Ni := some 36) (Nj := some 8) #[true, true, true, false, false, false, false, false, false, false, false] #[true, true, false, false, false, false, false, false, true, false, false] rfl rfl rfl rfl (two_of HT_.out (by kernel_rfl)) (by decide) (by decide) (fun K hK => ?_) (fun K hK => ?_)
             ·skip
              refine goes_ Try.func45 (by kernel_rfl) rfl #[.slice A0 l0.length c0, .int .i64 2] (by rfl) rfl rfl (by (try simp only [List.map_toArray, List.map_cons, List.map_nil]); first | done | rfl | (simp only [List.length_drop, List.length_take]; rfl)) ?_
              with_reducible refine (laws_at.calls _ _ l0 2 t1836 _ ?side1 ?side2 A9.out).mono ?_
              (case side1 => exact oc_ HR0.out)
              (case side2 => exact HC0.out)
              rintro e w' ⟨rfl, ⟨nd, rfl⟩⟩
              refine ⟨_, rfl, ?_⟩
              refine hK.out _ _ ⟨cz BK1805 0, cz BK1805 1, cz BK1805 2, cz BK1805 3, cz BK1805 4, cz BK1805 5⟩ (fun hHeld => ?_)
              clear hK K
              refine norm_ (a' := ?_) ?_ ?_
              rotate_left
              ·show Act.put _ (some 36) _ = _
               simp only [Act.put, List.setIfInBounds_toArray, List.set_cons_zero, List.set_cons_succ, i64_w, i32_w]
               rfl
              refine pA 3 (some 37) HT_.out ?_
              refine two_ (i := 4) (j := 8) (Ni := some 38) (Nj := some 8) #[true, true, true, true, true, false, false, false, false, false, false] #[true, true, true, true, false, false, false, false, true, false, false] rfl rfl rfl rfl (two_of HT_.out (by kernel_rfl)) (by decide) (by decide) (fun K hK => ?_) (fun K hK => ?_)
              ·skip
               refine goes_ Try.func40 (by kernel_rfl) rfl #[.agg #[.slice Ao33 t1793.length co33, .int .i64 t1796, .slice Ao35 t1797.length co35, .int .i64 t1800, .int .i64 t1801, .slice Ao36 t1802.length co36], .int .i64 (Int.tmod t1836 12), .int .i64 3] (by rfl) rfl rfl (by (try simp only [List.map_toArray, List.map_cons, List.map_nil]); first | done | rfl | (simp only [List.length_drop, List.length_take]; rfl)) ?_
               with_reducible refine (impl_ShopKnock.calls k _ _ t1793 t1796 _ _ t1797 t1800 t1801 _ _ t1802 (Int.tmod t1836 12) 3 t1837 t1840 t1841 t1844 t1845 t1846 t1849 _ ?side1 ?side2 ?side3 ?side4 ?side5 ?side6 A10.out).mono ?_
               (case side1 => repeat (first | exact (Kd.R_reads' HO1795.out).2.2 | (with_reducible refine Kd.C_alloc ?_ _) | (with_reducible refine Kd.C_drewN ?_ _) | (with_reducible refine Kd.C_drew ?_)))
               (case side2 => exact (Kd.R_reads' HO1795.out).2.1)
               (case side3 => repeat (first | exact (Kd.R_reads' HO1799.out).2.2 | (with_reducible refine Kd.C_alloc ?_ _) | (with_reducible refine Kd.C_drewN ?_ _) | (with_reducible refine Kd.C_drew ?_)))
               (case side4 => exact (Kd.R_reads' HO1799.out).2.1)
               (case side5 => repeat (first | exact (Kd.R_reads' HO1804.out).2.2 | (with_reducible refine Kd.C_alloc ?_ _) | (with_reducible refine Kd.C_drewN ?_ _) | (with_reducible refine Kd.C_drew ?_)))
               (case side6 => exact (Kd.R_reads' HO1804.out).2.1)
               rintro e w67 ⟨v1838, v1842, v1847, rfl, ho0, ho1, ho2, hb⟩
               refine ⟨_, rfl, ?_⟩
               have n0_ := A_ (Kd.R_elder' (oR HO1795) (Kd.R_base ho0) hb)
               have n1_ := A_ (Kd.R_elder' (oR HO1799) (Kd.R_base ho1) hb)
               have n2_ := A_ (Kd.R_elder' (oR HO1804) (Kd.R_base ho2) hb)
               have n3_ := A_ (Kd.R_elder' (oR HO1809) (Kd.R_base ho0) hb)
               have n4_ := A_ (Kd.R_elder' (oR HO1813) (Kd.R_base ho1) hb)
               have n5_ := A_ (Kd.R_elder' (oR HO1818) (Kd.R_base ho2) hb)
               have n6_ := A_ (Kd.R_elder' (oR HO1824) (Kd.R_base ho0) hb)
               have n7_ := A_ (Kd.R_elder' (oR HO1828) (Kd.R_base ho1) hb)
               have n8_ := A_ (Kd.R_elder' (oR HO1833) (Kd.R_base ho2) hb)
               have n9_ := A_ (Kd.R_lower (Kd.R_new' (Kd.R_new' (Kd.R_new' ho0 (Kd.R_lt (oR HO1795))) (Kd.R_lt (oR HO1809))) (Kd.R_lt (oR HO1824))) (below_size (oB HB)))
               have n10_ := A_ (Kd.R_lower (Kd.R_new' (Kd.R_new' (Kd.R_new' ho1 (Kd.R_lt (oR HO1799))) (Kd.R_lt (oR HO1813))) (Kd.R_lt (oR HO1828))) (below_size (oB HB)))
               have n11_ := A_ (Kd.R_lower (Kd.R_new' (Kd.R_new' (Kd.R_new' ho2 (Kd.R_lt (oR HO1804))) (Kd.R_lt (oR HO1818))) (Kd.R_lt (oR HO1833))) (below_size (oB HB)))
               have n12_ := A_ (bb BK1805 hb)
               have n13_ := A_ (bb BK1820 hb)
               have n14_ := A_ (bb BK1835 hb)
               have n15_ := A_ (below_step (oB HB) hb)
               clear HO1795
               clear HO1799
               clear HO1804
               clear HO1809
               clear HO1813
               clear HO1818
               clear HO1824
               clear HO1828
               clear HO1833
               clear BK1805
               clear BK1820
               clear BK1835
               clear HB
               have HO1795 := n0_
               have HO1799 := n1_
               have HO1804 := n2_
               have HO1809 := n3_
               have HO1813 := n4_
               have HO1818 := n5_
               have HO1824 := n6_
               have HO1828 := n7_
               have HO1833 := n8_
               have HO1839 := n9_
               have HO1843 := n10_
               have HO1848 := n11_
               have BK1805 := n12_
               have BK1820 := n13_
               have BK1835 := n14_
               have HB := n15_
               clear n0_ n1_ n2_ n3_ n4_ n5_ n6_ n7_ n8_ n9_ n10_ n11_ n12_ n13_ n14_ n15_
               (try clear hb)
               (try clear hb2)
               (try clear hk)
               (try clear hi)
               (try clear ho0)
               (try clear ho1)
               (try clear ho2)
               refine hK.out _ _ ⟨cz BK1805 0, cz BK1805 1, cz BK1805 2, cz BK1805 3, cz BK1805 4, cz BK1805 5⟩ (fun hHeld => ?_)
               clear hK K
               refine norm_ (a' := ?_) ?_ ?_
               rotate_left
               ·show Act.put _ (some 38) _ = _
                simp only [Act.put, List.setIfInBounds_toArray, List.set_cons_zero, List.set_cons_succ, i64_w, i32_w]
                rfl
               refine pA 5 (some 33) HT_.out ?_
               refine pA 6 (some 39) HT_.out ?_
               refine pA 7 (some 40) HT_.out ?_
               refine one_ (i := 8) (N := some 8) #[true, true, true, true, true, true, true, true, true, false, false] rfl rfl (one_of HT_.out (by kernel_rfl)) (by decide) (fun K hK => ?_)
               refine box_step ?hg (N := 8) ?hd (cs := #[.slice none 0 0, .int .i64 0, .slice none 0 0, .int .i64 0, .int .i64 0, .slice none 0 0]) (t := 36) ?hr ?_; (case hd => rfl); (case hg => rfl); (case hr => first | (go_simp; done) | (go_simp; rfl))
               intro gb1850 hg w68 hbox hb
               have n0_ := A_ (Kd.R_below (oR HO1795) hb)
               have n1_ := A_ (Kd.R_below (oR HO1799) hb)
               have n2_ := A_ (Kd.R_below (oR HO1804) hb)
               have n3_ := A_ (Kd.R_below (oR HO1809) hb)
               have n4_ := A_ (Kd.R_below (oR HO1813) hb)
               have n5_ := A_ (Kd.R_below (oR HO1818) hb)
               have n6_ := A_ (Kd.R_below (oR HO1824) hb)
               have n7_ := A_ (Kd.R_below (oR HO1828) hb)
               have n8_ := A_ (Kd.R_below (oR HO1833) hb)
               have n9_ := A_ (Kd.R_below (oR HO1839) hb)
               have n10_ := A_ (Kd.R_below (oR HO1843) hb)
               have n11_ := A_ (Kd.R_below (oR HO1848) hb)
               have n12_ := A_ (bb BK1805 hb)
               have n13_ := A_ (bb BK1820 hb)
               have n14_ := A_ (bb BK1835 hb)
               have n15_ := A_ (below_step (oB HB) hb)
               have n16_ := A_ (hbox)
               have n17_ := A_ ((by rw [hg]; exact (below_size (oB HB)) : w.heap.size ≤ gb1850))
               have n18_ := A_ ((by rw [hg]; exact (below_size (oB HB)) : w.heap.size ≤ gb1850))
               have n19_ := A_ (nL BK1805 hg)
               have n20_ := A_ (nG BK1805 hg)
               have n21_ := A_ (nL BK1820 hg)
               have n22_ := A_ (nG BK1820 hg)
               have n23_ := A_ (nL BK1835 hg)
               have n24_ := A_ (nG BK1835 hg)
               clear HO1795
               clear HO1799
               clear HO1804
               clear HO1809
               clear HO1813
               clear HO1818
               clear HO1824
               clear HO1828
               clear HO1833
               clear HO1839
               clear HO1843
               clear HO1848
               clear BK1805
               clear BK1820
               clear BK1835
               clear HB
               have HO1795 := n0_
               have HO1799 := n1_
               have HO1804 := n2_
               have HO1809 := n3_
               have HO1813 := n4_
               have HO1818 := n5_
               have HO1824 := n6_
               have HO1828 := n7_
               have HO1833 := n8_
               have HO1839 := n9_
               have HO1843 := n10_
               have HO1848 := n11_
               have BK1805 := n12_
               have BK1820 := n13_
               have BK1835 := n14_
               have HB := n15_
               have BK1850 := n16_
               have GW1850 := n17_
               have GE1850 := n18_
               have NB1805_1850 := n19_
               have NB1850_1805 := n20_
               have NB1820_1850 := n21_
               have NB1850_1820 := n22_
               have NB1835_1850 := n23_
               have NB1850_1835 := n24_
               clear n0_ n1_ n2_ n3_ n4_ n5_ n6_ n7_ n8_ n9_ n10_ n11_ n12_ n13_ n14_ n15_ n16_ n17_ n18_ n19_ n20_ n21_ n22_ n23_ n24_
               clear hb hbox hg
               refine hK.out _ _ ⟨cz BK1805 0, cz BK1805 1, cz BK1805 2, cz BK1805 3, cz BK1805 4, cz BK1805 5⟩ (fun hHeld => ?_)
               clear hK K
               refine norm_ (a' := ?_) ?_ ?_
               rotate_left
               ·show Act.put _ (some 8) _ = _
                simp only [Act.put, List.setIfInBounds_toArray, List.set_cons_zero, List.set_cons_succ, i64_w, i32_w]
                rfl
               exact norm_ (by simp only [putAll, Act.put, List.setIfInBounds_toArray, List.set_cons_zero, List.set_cons_succ]) (hCont (v1838, v1842, v1847, gb1850) _ ⟨hHeld, (by (with_reducible repeat (first | apply Kd.R_alloc | apply Kd.R_drewN | apply Kd.R_drew)); exact Kd.R_mono HO1795.out (fun _ hk => ⟨hk.1.1, ⟨hk.1.2, hk.2⟩⟩)), (by (with_reducible repeat (first | apply Kd.R_alloc | apply Kd.R_drewN | apply Kd.R_drew)); exact Kd.R_mono HO1799.out (fun _ hk => ⟨hk.1.1, ⟨hk.1.2, hk.2⟩⟩)), (by (with_reducible repeat (first | apply Kd.R_alloc | apply Kd.R_drewN | apply Kd.R_drew)); exact Kd.R_mono HO1804.out (fun _ hk => ⟨hk.1.1, ⟨hk.1.2, hk.2⟩⟩)), (by (with_reducible repeat (first | apply Kd.R_alloc | apply Kd.R_drewN | apply Kd.R_drew)); exact Kd.R_mono HO1809.out (fun _ hk => ⟨hk.1.1, ⟨hk.1.2, hk.2⟩⟩)), (by (with_reducible repeat (first | apply Kd.R_alloc | apply Kd.R_drewN | apply Kd.R_drew)); exact Kd.R_mono HO1813.out (fun _ hk => ⟨hk.1.1, ⟨hk.1.2, hk.2⟩⟩)), (by (with_reducible repeat (first | apply Kd.R_alloc | apply Kd.R_drewN | apply Kd.R_drew)); exact Kd.R_mono HO1818.out (fun _ hk => ⟨hk.1.1, ⟨hk.1.2, hk.2⟩⟩)), (by (with_reducible repeat (first | apply Kd.R_alloc | apply Kd.R_drewN | apply Kd.R_drew)); exact Kd.R_mono HO1824.out (fun _ hk => ⟨hk.1.1, ⟨hk.1.2, hk.2⟩⟩)), (by (with_reducible repeat (first | apply Kd.R_alloc | apply Kd.R_drewN | apply Kd.R_drew)); exact Kd.R_mono HO1828.out (fun _ hk => ⟨hk.1.1, ⟨hk.1.2, hk.2⟩⟩)), (by (with_reducible repeat (first | apply Kd.R_alloc | apply Kd.R_drewN | apply Kd.R_drew)); exact Kd.R_mono HO1833.out (fun _ hk => ⟨hk.1.1, ⟨hk.1.2, hk.2⟩⟩)), (by (with_reducible repeat (first | apply Kd.R_alloc | apply Kd.R_drewN | apply Kd.R_drew)); exact Kd.R_mono HO1839.out (fun _ hk => ⟨hk.1.1.2, ⟨hk.1.2, hk.2⟩⟩)), (by (with_reducible repeat (first | apply Kd.R_alloc | apply Kd.R_drewN | apply Kd.R_drew)); exact Kd.R_mono HO1843.out (fun _ hk => ⟨hk.1.1.2, ⟨hk.1.2, hk.2⟩⟩)), (by (with_reducible repeat (first | apply Kd.R_alloc | apply Kd.R_drewN | apply Kd.R_drew)); exact Kd.R_mono HO1848.out (fun _ hk => ⟨hk.1.1.2, ⟨hk.1.2, hk.2⟩⟩)), (oK BK1805), (oK BK1820), (oK BK1835), (oK BK1850), GW1850.out, GE1850.out, NB1805_1850.out, NB1850_1805.out, NB1820_1850.out, NB1850_1820.out, NB1835_1850.out, NB1850_1835.out, (oB HB)⟩)
              ·skip
               refine box_step ?hg (N := 8) ?hd (cs := #[.slice none 0 0, .int .i64 0, .slice none 0 0, .int .i64 0, .int .i64 0, .slice none 0 0]) (t := 36) ?hr ?_; (case hd => rfl); (case hg => rfl); (case hr => first | (go_simp; done) | (go_simp; rfl))
               intro gb1850 hg w67 hbox hb
               have n0_ := A_ (Kd.R_below (oR HO1795) hb)
               have n1_ := A_ (Kd.R_below (oR HO1799) hb)
               have n2_ := A_ (Kd.R_below (oR HO1804) hb)
               have n3_ := A_ (Kd.R_below (oR HO1809) hb)
               have n4_ := A_ (Kd.R_below (oR HO1813) hb)
               have n5_ := A_ (Kd.R_below (oR HO1818) hb)
               have n6_ := A_ (Kd.R_below (oR HO1824) hb)
               have n7_ := A_ (Kd.R_below (oR HO1828) hb)
               have n8_ := A_ (Kd.R_below (oR HO1833) hb)
               have n9_ := A_ (bb BK1805 hb)
               have n10_ := A_ (bb BK1820 hb)
               have n11_ := A_ (bb BK1835 hb)
               have n12_ := A_ (below_step (oB HB) hb)
               have n13_ := A_ (hbox)
               have n14_ := A_ ((by rw [hg]; exact (below_size (oB HB)) : w.heap.size ≤ gb1850))
               have n15_ := A_ ((by rw [hg]; exact (below_size (oB HB)) : w.heap.size ≤ gb1850))
               have n16_ := A_ (nL BK1805 hg)
               have n17_ := A_ (nG BK1805 hg)
               have n18_ := A_ (nL BK1820 hg)
               have n19_ := A_ (nG BK1820 hg)
               have n20_ := A_ (nL BK1835 hg)
               have n21_ := A_ (nG BK1835 hg)
               clear HO1795
               clear HO1799
               clear HO1804
               clear HO1809
               clear HO1813
               clear HO1818
               clear HO1824
               clear HO1828
               clear HO1833
               clear BK1805
               clear BK1820
               clear BK1835
               clear HB
               have HO1795 := n0_
               have HO1799 := n1_
               have HO1804 := n2_
               have HO1809 := n3_
               have HO1813 := n4_
               have HO1818 := n5_
               have HO1824 := n6_
               have HO1828 := n7_
               have HO1833 := n8_
               have BK1805 := n9_
               have BK1820 := n10_
               have BK1835 := n11_
               have HB := n12_
               have BK1850 := n13_
               have GW1850 := n14_
               have GE1850 := n15_
               have NB1805_1850 := n16_
               have NB1850_1805 := n17_
               have NB1820_1850 := n18_
               have NB1850_1820 := n19_
               have NB1835_1850 := n20_
               have NB1850_1835 := n21_
               clear n0_ n1_ n2_ n3_ n4_ n5_ n6_ n7_ n8_ n9_ n10_ n11_ n12_ n13_ n14_ n15_ n16_ n17_ n18_ n19_ n20_ n21_
               clear hb hbox hg
               refine hK.out _ _ ⟨cz BK1805 0, cz BK1805 1, cz BK1805 2, cz BK1805 3, cz BK1805 4, cz BK1805 5⟩ (fun hHeld => ?_)
               clear hK K
               refine norm_ (a' := ?_) ?_ ?_
               rotate_left
               ·show Act.put _ (some 8) _ = _
                simp only [Act.put, List.setIfInBounds_toArray, List.set_cons_zero, List.set_cons_succ, i64_w, i32_w]
                rfl
               refine one_ (i := 4) (N := some 38) #[true, true, true, true, true, false, false, false, true, false, false] rfl rfl (one_of HT_.out (by kernel_rfl)) (by decide) (fun K hK => ?_)
               refine goes_ Try.func40 (by kernel_rfl) rfl #[.agg #[.slice Ao33 t1793.length co33, .int .i64 t1796, .slice Ao35 t1797.length co35, .int .i64 t1800, .int .i64 t1801, .slice Ao36 t1802.length co36], .int .i64 (Int.tmod t1836 12), .int .i64 3] (by rfl) rfl rfl (by (try simp only [List.map_toArray, List.map_cons, List.map_nil]); first | done | rfl | (simp only [List.length_drop, List.length_take]; rfl)) ?_
               with_reducible refine (impl_ShopKnock.calls k _ _ t1793 t1796 _ _ t1797 t1800 t1801 _ _ t1802 (Int.tmod t1836 12) 3 t1837 t1840 t1841 t1844 t1845 t1846 t1849 _ ?side1 ?side2 ?side3 ?side4 ?side5 ?side6 A10.out).mono ?_
               (case side1 => repeat (first | exact (Kd.R_reads' HO1795.out).2.2 | (with_reducible refine Kd.C_alloc ?_ _) | (with_reducible refine Kd.C_drewN ?_ _) | (with_reducible refine Kd.C_drew ?_)))
               (case side2 => exact (Kd.R_reads' HO1795.out).2.1)
               (case side3 => repeat (first | exact (Kd.R_reads' HO1799.out).2.2 | (with_reducible refine Kd.C_alloc ?_ _) | (with_reducible refine Kd.C_drewN ?_ _) | (with_reducible refine Kd.C_drew ?_)))
               (case side4 => exact (Kd.R_reads' HO1799.out).2.1)
               (case side5 => repeat (first | exact (Kd.R_reads' HO1804.out).2.2 | (with_reducible refine Kd.C_alloc ?_ _) | (with_reducible refine Kd.C_drewN ?_ _) | (with_reducible refine Kd.C_drew ?_)))
               (case side6 => exact (Kd.R_reads' HO1804.out).2.1)
               rintro e w68 ⟨v1838, v1842, v1847, rfl, ho0, ho1, ho2, hb⟩
               refine ⟨_, rfl, ?_⟩
               have n0_ := A_ (Kd.R_elder' (oR HO1795) (Kd.R_base ho0) hb)
               have n1_ := A_ (Kd.R_elder' (oR HO1799) (Kd.R_base ho1) hb)
               have n2_ := A_ (Kd.R_elder' (oR HO1804) (Kd.R_base ho2) hb)
               have n3_ := A_ (Kd.R_elder' (oR HO1809) (Kd.R_base ho0) hb)
               have n4_ := A_ (Kd.R_elder' (oR HO1813) (Kd.R_base ho1) hb)
               have n5_ := A_ (Kd.R_elder' (oR HO1818) (Kd.R_base ho2) hb)
               have n6_ := A_ (Kd.R_elder' (oR HO1824) (Kd.R_base ho0) hb)
               have n7_ := A_ (Kd.R_elder' (oR HO1828) (Kd.R_base ho1) hb)
               have n8_ := A_ (Kd.R_elder' (oR HO1833) (Kd.R_base ho2) hb)
               have n9_ := A_ (Kd.R_lower (Kd.R_new' (Kd.R_new' (Kd.R_new' ho0 (Kd.R_lt (oR HO1795))) (Kd.R_lt (oR HO1809))) (Kd.R_lt (oR HO1824))) (below_size (oB HB)))
               have n10_ := A_ (Kd.R_lower (Kd.R_new' (Kd.R_new' (Kd.R_new' ho1 (Kd.R_lt (oR HO1799))) (Kd.R_lt (oR HO1813))) (Kd.R_lt (oR HO1828))) (below_size (oB HB)))
               have n11_ := A_ (Kd.R_lower (Kd.R_new' (Kd.R_new' (Kd.R_new' ho2 (Kd.R_lt (oR HO1804))) (Kd.R_lt (oR HO1818))) (Kd.R_lt (oR HO1833))) (below_size (oB HB)))
               have n12_ := A_ (bb BK1805 hb)
               have n13_ := A_ (bb BK1820 hb)
               have n14_ := A_ (bb BK1835 hb)
               have n15_ := A_ (bb BK1850 hb)
               have n16_ := A_ (below_step (oB HB) hb)
               clear HO1795
               clear HO1799
               clear HO1804
               clear HO1809
               clear HO1813
               clear HO1818
               clear HO1824
               clear HO1828
               clear HO1833
               clear BK1805
               clear BK1820
               clear BK1835
               clear BK1850
               clear HB
               have HO1795 := n0_
               have HO1799 := n1_
               have HO1804 := n2_
               have HO1809 := n3_
               have HO1813 := n4_
               have HO1818 := n5_
               have HO1824 := n6_
               have HO1828 := n7_
               have HO1833 := n8_
               have HO1839 := n9_
               have HO1843 := n10_
               have HO1848 := n11_
               have BK1805 := n12_
               have BK1820 := n13_
               have BK1835 := n14_
               have BK1850 := n15_
               have HB := n16_
               clear n0_ n1_ n2_ n3_ n4_ n5_ n6_ n7_ n8_ n9_ n10_ n11_ n12_ n13_ n14_ n15_ n16_
               (try clear hb)
               (try clear hb2)
               (try clear hk)
               (try clear hi)
               (try clear ho0)
               (try clear ho1)
               (try clear ho2)
               refine hK.out _ _ ⟨cz BK1805 0, cz BK1805 1, cz BK1805 2, cz BK1805 3, cz BK1805 4, cz BK1805 5⟩ (fun hHeld => ?_)
               clear hK K
               refine norm_ (a' := ?_) ?_ ?_
               rotate_left
               ·show Act.put _ (some 38) _ = _
                simp only [Act.put, List.setIfInBounds_toArray, List.set_cons_zero, List.set_cons_succ, i64_w, i32_w]
                rfl
               refine pA 5 (some 33) HT_.out ?_
               refine pA 6 (some 39) HT_.out ?_
               refine pA 7 (some 40) HT_.out ?_
               exact norm_ (by simp only [putAll, Act.put, List.setIfInBounds_toArray, List.set_cons_zero, List.set_cons_succ]) (hCont (v1838, v1842, v1847, gb1850) _ ⟨hHeld, (by (with_reducible repeat (first | apply Kd.R_alloc | apply Kd.R_drewN | apply Kd.R_drew)); exact Kd.R_mono HO1795.out (fun _ hk => ⟨hk.1.1, ⟨hk.1.2, hk.2⟩⟩)), (by (with_reducible repeat (first | apply Kd.R_alloc | apply Kd.R_drewN | apply Kd.R_drew)); exact Kd.R_mono HO1799.out (fun _ hk => ⟨hk.1.1, ⟨hk.1.2, hk.2⟩⟩)), (by (with_reducible repeat (first | apply Kd.R_alloc | apply Kd.R_drewN | apply Kd.R_drew)); exact Kd.R_mono HO1804.out (fun _ hk => ⟨hk.1.1, ⟨hk.1.2, hk.2⟩⟩)), (by (with_reducible repeat (first | apply Kd.R_alloc | apply Kd.R_drewN | apply Kd.R_drew)); exact Kd.R_mono HO1809.out (fun _ hk => ⟨hk.1.1, ⟨hk.1.2, hk.2⟩⟩)), (by (with_reducible repeat (first | apply Kd.R_alloc | apply Kd.R_drewN | apply Kd.R_drew)); exact Kd.R_mono HO1813.out (fun _ hk => ⟨hk.1.1, ⟨hk.1.2, hk.2⟩⟩)), (by (with_reducible repeat (first | apply Kd.R_alloc | apply Kd.R_drewN | apply Kd.R_drew)); exact Kd.R_mono HO1818.out (fun _ hk => ⟨hk.1.1, ⟨hk.1.2, hk.2⟩⟩)), (by (with_reducible repeat (first | apply Kd.R_alloc | apply Kd.R_drewN | apply Kd.R_drew)); exact Kd.R_mono HO1824.out (fun _ hk => ⟨hk.1.1, ⟨hk.1.2, hk.2⟩⟩)), (by (with_reducible repeat (first | apply Kd.R_alloc | apply Kd.R_drewN | apply Kd.R_drew)); exact Kd.R_mono HO1828.out (fun _ hk => ⟨hk.1.1, ⟨hk.1.2, hk.2⟩⟩)), (by (with_reducible repeat (first | apply Kd.R_alloc | apply Kd.R_drewN | apply Kd.R_drew)); exact Kd.R_mono HO1833.out (fun _ hk => ⟨hk.1.1, ⟨hk.1.2, hk.2⟩⟩)), (by (with_reducible repeat (first | apply Kd.R_alloc | apply Kd.R_drewN | apply Kd.R_drew)); exact Kd.R_mono HO1839.out (fun _ hk => ⟨hk.1.1.2, ⟨hk.1.2, hk.2⟩⟩)), (by (with_reducible repeat (first | apply Kd.R_alloc | apply Kd.R_drewN | apply Kd.R_drew)); exact Kd.R_mono HO1843.out (fun _ hk => ⟨hk.1.1.2, ⟨hk.1.2, hk.2⟩⟩)), (by (with_reducible repeat (first | apply Kd.R_alloc | apply Kd.R_drewN | apply Kd.R_drew)); exact Kd.R_mono HO1848.out (fun _ hk => ⟨hk.1.1.2, ⟨hk.1.2, hk.2⟩⟩)), (oK BK1805), (oK BK1820), (oK BK1835), (oK BK1850), GW1850.out, GE1850.out, NB1805_1850.out, NB1850_1805.out, NB1820_1850.out, NB1850_1820.out, NB1835_1850.out, NB1850_1835.out, (oB HB)⟩)
             ·skip
              refine box_step ?hg (N := 8) ?hd (cs := #[.slice none 0 0, .int .i64 0, .slice none 0 0, .int .i64 0, .int .i64 0, .slice none 0 0]) (t := 36) ?hr ?_; (case hd => rfl); (case hg => rfl); (case hr => first | (go_simp; done) | (go_simp; rfl))
              intro gb1850 hg w67 hbox hb
              have n0_ := A_ (Kd.R_below (oR HO1795) hb)
              have n1_ := A_ (Kd.R_below (oR HO1799) hb)
              have n2_ := A_ (Kd.R_below (oR HO1804) hb)
              have n3_ := A_ (Kd.R_below (oR HO1809) hb)
              have n4_ := A_ (Kd.R_below (oR HO1813) hb)
              have n5_ := A_ (Kd.R_below (oR HO1818) hb)
              have n6_ := A_ (Kd.R_below (oR HO1824) hb)
              have n7_ := A_ (Kd.R_below (oR HO1828) hb)
              have n8_ := A_ (Kd.R_below (oR HO1833) hb)
              have n9_ := A_ (bb BK1805 hb)
              have n10_ := A_ (bb BK1820 hb)
              have n11_ := A_ (bb BK1835 hb)
              have n12_ := A_ (below_step (oB HB) hb)
              have n13_ := A_ (hbox)
              have n14_ := A_ ((by rw [hg]; exact (below_size (oB HB)) : w.heap.size ≤ gb1850))
              have n15_ := A_ ((by rw [hg]; exact (below_size (oB HB)) : w.heap.size ≤ gb1850))
              have n16_ := A_ (nL BK1805 hg)
              have n17_ := A_ (nG BK1805 hg)
              have n18_ := A_ (nL BK1820 hg)
              have n19_ := A_ (nG BK1820 hg)
              have n20_ := A_ (nL BK1835 hg)
              have n21_ := A_ (nG BK1835 hg)
              clear HO1795
              clear HO1799
              clear HO1804
              clear HO1809
              clear HO1813
              clear HO1818
              clear HO1824
              clear HO1828
              clear HO1833
              clear BK1805
              clear BK1820
              clear BK1835
              clear HB
              have HO1795 := n0_
              have HO1799 := n1_
              have HO1804 := n2_
              have HO1809 := n3_
              have HO1813 := n4_
              have HO1818 := n5_
              have HO1824 := n6_
              have HO1828 := n7_
              have HO1833 := n8_
              have BK1805 := n9_
              have BK1820 := n10_
              have BK1835 := n11_
              have HB := n12_
              have BK1850 := n13_
              have GW1850 := n14_
              have GE1850 := n15_
              have NB1805_1850 := n16_
              have NB1850_1805 := n17_
              have NB1820_1850 := n18_
              have NB1850_1820 := n19_
              have NB1835_1850 := n20_
              have NB1850_1835 := n21_
              clear n0_ n1_ n2_ n3_ n4_ n5_ n6_ n7_ n8_ n9_ n10_ n11_ n12_ n13_ n14_ n15_ n16_ n17_ n18_ n19_ n20_ n21_
              clear hb hbox hg
              refine hK.out _ _ ⟨cz BK1805 0, cz BK1805 1, cz BK1805 2, cz BK1805 3, cz BK1805 4, cz BK1805 5⟩ (fun hHeld => ?_)
              clear hK K
              refine norm_ (a' := ?_) ?_ ?_
              rotate_left
              ·show Act.put _ (some 8) _ = _
               simp only [Act.put, List.setIfInBounds_toArray, List.set_cons_zero, List.set_cons_succ, i64_w, i32_w]
               rfl
              refine one_ (i := 2) (N := some 36) #[true, true, true, false, false, false, false, false, true, false, false] rfl rfl (one_of HT_.out (by kernel_rfl)) (by decide) (fun K hK => ?_)
              refine goes_ Try.func45 (by kernel_rfl) rfl #[.slice A0 l0.length c0, .int .i64 2] (by rfl) rfl rfl (by (try simp only [List.map_toArray, List.map_cons, List.map_nil]); first | done | rfl | (simp only [List.length_drop, List.length_take]; rfl)) ?_
              with_reducible refine (laws_at.calls _ _ l0 2 t1836 _ ?side1 ?side2 A9.out).mono ?_
              (case side1 => exact oc_ HR0.out)
              (case side2 => exact HC0.out)
              rintro e w' ⟨rfl, ⟨nd, rfl⟩⟩
              refine ⟨_, rfl, ?_⟩
              refine hK.out _ _ ⟨cz BK1805 0, cz BK1805 1, cz BK1805 2, cz BK1805 3, cz BK1805 4, cz BK1805 5⟩ (fun hHeld => ?_)
              clear hK K
              refine norm_ (a' := ?_) ?_ ?_
              rotate_left
              ·show Act.put _ (some 36) _ = _
               simp only [Act.put, List.setIfInBounds_toArray, List.set_cons_zero, List.set_cons_succ, i64_w, i32_w]
               rfl
              refine pA 3 (some 37) HT_.out ?_
              refine one_ (i := 4) (N := some 38) #[true, true, true, true, true, false, false, false, true, false, false] rfl rfl (one_of HT_.out (by kernel_rfl)) (by decide) (fun K hK => ?_)
              refine goes_ Try.func40 (by kernel_rfl) rfl #[.agg #[.slice Ao33 t1793.length co33, .int .i64 t1796, .slice Ao35 t1797.length co35, .int .i64 t1800, .int .i64 t1801, .slice Ao36 t1802.length co36], .int .i64 (Int.tmod t1836 12), .int .i64 3] (by rfl) rfl rfl (by (try simp only [List.map_toArray, List.map_cons, List.map_nil]); first | done | rfl | (simp only [List.length_drop, List.length_take]; rfl)) ?_
              with_reducible refine (impl_ShopKnock.calls k _ _ t1793 t1796 _ _ t1797 t1800 t1801 _ _ t1802 (Int.tmod t1836 12) 3 t1837 t1840 t1841 t1844 t1845 t1846 t1849 _ ?side1 ?side2 ?side3 ?side4 ?side5 ?side6 A10.out).mono ?_
              (case side1 => repeat (first | exact (Kd.R_reads' HO1795.out).2.2 | (with_reducible refine Kd.C_alloc ?_ _) | (with_reducible refine Kd.C_drewN ?_ _) | (with_reducible refine Kd.C_drew ?_)))
              (case side2 => exact (Kd.R_reads' HO1795.out).2.1)
              (case side3 => repeat (first | exact (Kd.R_reads' HO1799.out).2.2 | (with_reducible refine Kd.C_alloc ?_ _) | (with_reducible refine Kd.C_drewN ?_ _) | (with_reducible refine Kd.C_drew ?_)))
              (case side4 => exact (Kd.R_reads' HO1799.out).2.1)
              (case side5 => repeat (first | exact (Kd.R_reads' HO1804.out).2.2 | (with_reducible refine Kd.C_alloc ?_ _) | (with_reducible refine Kd.C_drewN ?_ _) | (with_reducible refine Kd.C_drew ?_)))
              (case side6 => exact (Kd.R_reads' HO1804.out).2.1)
              rintro e w68 ⟨v1838, v1842, v1847, rfl, ho0, ho1, ho2, hb⟩
              refine ⟨_, rfl, ?_⟩
              have n0_ := A_ (Kd.R_elder' (oR HO1795) (Kd.R_base ho0) hb)
              have n1_ := A_ (Kd.R_elder' (oR HO1799) (Kd.R_base ho1) hb)
              have n2_ := A_ (Kd.R_elder' (oR HO1804) (Kd.R_base ho2) hb)
              have n3_ := A_ (Kd.R_elder' (oR HO1809) (Kd.R_base ho0) hb)
              have n4_ := A_ (Kd.R_elder' (oR HO1813) (Kd.R_base ho1) hb)
              have n5_ := A_ (Kd.R_elder' (oR HO1818) (Kd.R_base ho2) hb)
              have n6_ := A_ (Kd.R_elder' (oR HO1824) (Kd.R_base ho0) hb)
              have n7_ := A_ (Kd.R_elder' (oR HO1828) (Kd.R_base ho1) hb)
              have n8_ := A_ (Kd.R_elder' (oR HO1833) (Kd.R_base ho2) hb)
              have n9_ := A_ (Kd.R_lower (Kd.R_new' (Kd.R_new' (Kd.R_new' ho0 (Kd.R_lt (oR HO1795))) (Kd.R_lt (oR HO1809))) (Kd.R_lt (oR HO1824))) (below_size (oB HB)))
              have n10_ := A_ (Kd.R_lower (Kd.R_new' (Kd.R_new' (Kd.R_new' ho1 (Kd.R_lt (oR HO1799))) (Kd.R_lt (oR HO1813))) (Kd.R_lt (oR HO1828))) (below_size (oB HB)))
              have n11_ := A_ (Kd.R_lower (Kd.R_new' (Kd.R_new' (Kd.R_new' ho2 (Kd.R_lt (oR HO1804))) (Kd.R_lt (oR HO1818))) (Kd.R_lt (oR HO1833))) (below_size (oB HB)))
              have n12_ := A_ (bb BK1805 hb)
              have n13_ := A_ (bb BK1820 hb)
              have n14_ := A_ (bb BK1835 hb)
              have n15_ := A_ (bb BK1850 hb)
              have n16_ := A_ (below_step (oB HB) hb)
              clear HO1795
              clear HO1799
              clear HO1804
              clear HO1809
              clear HO1813
              clear HO1818
              clear HO1824
              clear HO1828
              clear HO1833
              clear BK1805
              clear BK1820
              clear BK1835
              clear BK1850
              clear HB
              have HO1795 := n0_
              have HO1799 := n1_
              have HO1804 := n2_
              have HO1809 := n3_
              have HO1813 := n4_
              have HO1818 := n5_
              have HO1824 := n6_
              have HO1828 := n7_
              have HO1833 := n8_
              have HO1839 := n9_
              have HO1843 := n10_
              have HO1848 := n11_
              have BK1805 := n12_
              have BK1820 := n13_
              have BK1835 := n14_
              have BK1850 := n15_
              have HB := n16_
              clear n0_ n1_ n2_ n3_ n4_ n5_ n6_ n7_ n8_ n9_ n10_ n11_ n12_ n13_ n14_ n15_ n16_
              (try clear hb)
              (try clear hb2)
              (try clear hk)
              (try clear hi)
              (try clear ho0)
              (try clear ho1)
              (try clear ho2)
              refine hK.out _ _ ⟨cz BK1805 0, cz BK1805 1, cz BK1805 2, cz BK1805 3, cz BK1805 4, cz BK1805 5⟩ (fun hHeld => ?_)
              clear hK K
              refine norm_ (a' := ?_) ?_ ?_
              rotate_left
              ·show Act.put _ (some 38) _ = _
               simp only [Act.put, List.setIfInBounds_toArray, List.set_cons_zero, List.set_cons_succ, i64_w, i32_w]
               rfl
              refine pA 5 (some 33) HT_.out ?_
              refine pA 6 (some 39) HT_.out ?_
              refine pA 7 (some 40) HT_.out ?_
              exact norm_ (by simp only [putAll, Act.put, List.setIfInBounds_toArray, List.set_cons_zero, List.set_cons_succ]) (hCont (v1838, v1842, v1847, gb1850) _ ⟨hHeld, (by (with_reducible repeat (first | apply Kd.R_alloc | apply Kd.R_drewN | apply Kd.R_drew)); exact Kd.R_mono HO1795.out (fun _ hk => ⟨hk.1.1, ⟨hk.1.2, hk.2⟩⟩)), (by (with_reducible repeat (first | apply Kd.R_alloc | apply Kd.R_drewN | apply Kd.R_drew)); exact Kd.R_mono HO1799.out (fun _ hk => ⟨hk.1.1, ⟨hk.1.2, hk.2⟩⟩)), (by (with_reducible repeat (first | apply Kd.R_alloc | apply Kd.R_drewN | apply Kd.R_drew)); exact Kd.R_mono HO1804.out (fun _ hk => ⟨hk.1.1, ⟨hk.1.2, hk.2⟩⟩)), (by (with_reducible repeat (first | apply Kd.R_alloc | apply Kd.R_drewN | apply Kd.R_drew)); exact Kd.R_mono HO1809.out (fun _ hk => ⟨hk.1.1, ⟨hk.1.2, hk.2⟩⟩)), (by (with_reducible repeat (first | apply Kd.R_alloc | apply Kd.R_drewN | apply Kd.R_drew)); exact Kd.R_mono HO1813.out (fun _ hk => ⟨hk.1.1, ⟨hk.1.2, hk.2⟩⟩)), (by (with_reducible repeat (first | apply Kd.R_alloc | apply Kd.R_drewN | apply Kd.R_drew)); exact Kd.R_mono HO1818.out (fun _ hk => ⟨hk.1.1, ⟨hk.1.2, hk.2⟩⟩)), (by (with_reducible repeat (first | apply Kd.R_alloc | apply Kd.R_drewN | apply Kd.R_drew)); exact Kd.R_mono HO1824.out (fun _ hk => ⟨hk.1.1, ⟨hk.1.2, hk.2⟩⟩)), (by (with_reducible repeat (first | apply Kd.R_alloc | apply Kd.R_drewN | apply Kd.R_drew)); exact Kd.R_mono HO1828.out (fun _ hk => ⟨hk.1.1, ⟨hk.1.2, hk.2⟩⟩)), (by (with_reducible repeat (first | apply Kd.R_alloc | apply Kd.R_drewN | apply Kd.R_drew)); exact Kd.R_mono HO1833.out (fun _ hk => ⟨hk.1.1, ⟨hk.1.2, hk.2⟩⟩)), (by (with_reducible repeat (first | apply Kd.R_alloc | apply Kd.R_drewN | apply Kd.R_drew)); exact Kd.R_mono HO1839.out (fun _ hk => ⟨hk.1.1.2, ⟨hk.1.2, hk.2⟩⟩)), (by (with_reducible repeat (first | apply Kd.R_alloc | apply Kd.R_drewN | apply Kd.R_drew)); exact Kd.R_mono HO1843.out (fun _ hk => ⟨hk.1.1.2, ⟨hk.1.2, hk.2⟩⟩)), (by (with_reducible repeat (first | apply Kd.R_alloc | apply Kd.R_drewN | apply Kd.R_drew)); exact Kd.R_mono HO1848.out (fun _ hk => ⟨hk.1.1.2, ⟨hk.1.2, hk.2⟩⟩)), (oK BK1805), (oK BK1820), (oK BK1835), (oK BK1850), GW1850.out, GE1850.out, NB1805_1850.out, NB1850_1805.out, NB1820_1850.out, NB1850_1820.out, NB1835_1850.out, NB1850_1835.out, (oB HB)⟩)
            rintro ⟨v1838, v1842, v1847, gb1850⟩ w69 ⟨hS_, h0_, h1_, h2_, h3_, h4_, h5_, h6_, h7_, h8_, h9_, h10_, h11_, h12_, h13_, h14_, h15_, h16_, h17_, h18_, h19_, h20_, h21_, h22_, h23_, h24_⟩
            have n0_ : Aside0 (Kd.R k96 96 w69 w.heap.size (fun k_ => some k_ ≠ (.slice Ao42 t1807.length co42 : Value).ownBlock ∧ some k_ ≠ (.slice Ao56 t1822.length co56 : Value).ownBlock ∧ some k_ ≠ (v1838 : Value).ownBlock) (.slice Ao33 t1793.length co33) t1793) := ⟨h0_⟩
            have n1_ : Aside0 (Kd.R (Kd.int .i64) 3 w69 w.heap.size (fun k_ => some k_ ≠ (.slice Ao45 t1811.length co45 : Value).ownBlock ∧ some k_ ≠ (.slice Ao59 t1826.length co59 : Value).ownBlock ∧ some k_ ≠ (v1842 : Value).ownBlock) (.slice Ao35 t1797.length co35) t1797) := ⟨h1_⟩
            have n2_ : Aside0 (Kd.R k74 74 w69 w.heap.size (fun k_ => some k_ ≠ (.slice Ao49 t1816.length co49 : Value).ownBlock ∧ some k_ ≠ (.slice Ao63 t1831.length co63 : Value).ownBlock ∧ some k_ ≠ (v1847 : Value).ownBlock) (.slice Ao36 t1802.length co36) t1802) := ⟨h2_⟩
            have n3_ : Aside0 (Kd.R k96 96 w69 w.heap.size (fun k_ => some k_ ≠ (.slice Ao33 t1793.length co33 : Value).ownBlock ∧ some k_ ≠ (.slice Ao56 t1822.length co56 : Value).ownBlock ∧ some k_ ≠ (v1838 : Value).ownBlock) (.slice Ao42 t1807.length co42) t1807) := ⟨h3_⟩
            have n4_ : Aside0 (Kd.R (Kd.int .i64) 3 w69 w.heap.size (fun k_ => some k_ ≠ (.slice Ao35 t1797.length co35 : Value).ownBlock ∧ some k_ ≠ (.slice Ao59 t1826.length co59 : Value).ownBlock ∧ some k_ ≠ (v1842 : Value).ownBlock) (.slice Ao45 t1811.length co45) t1811) := ⟨h4_⟩
            have n5_ : Aside0 (Kd.R k74 74 w69 w.heap.size (fun k_ => some k_ ≠ (.slice Ao36 t1802.length co36 : Value).ownBlock ∧ some k_ ≠ (.slice Ao63 t1831.length co63 : Value).ownBlock ∧ some k_ ≠ (v1847 : Value).ownBlock) (.slice Ao49 t1816.length co49) t1816) := ⟨h5_⟩
            have n6_ : Aside0 (Kd.R k96 96 w69 w.heap.size (fun k_ => some k_ ≠ (.slice Ao33 t1793.length co33 : Value).ownBlock ∧ some k_ ≠ (.slice Ao42 t1807.length co42 : Value).ownBlock ∧ some k_ ≠ (v1838 : Value).ownBlock) (.slice Ao56 t1822.length co56) t1822) := ⟨h6_⟩
            have n7_ : Aside0 (Kd.R (Kd.int .i64) 3 w69 w.heap.size (fun k_ => some k_ ≠ (.slice Ao35 t1797.length co35 : Value).ownBlock ∧ some k_ ≠ (.slice Ao45 t1811.length co45 : Value).ownBlock ∧ some k_ ≠ (v1842 : Value).ownBlock) (.slice Ao59 t1826.length co59) t1826) := ⟨h7_⟩
            have n8_ : Aside0 (Kd.R k74 74 w69 w.heap.size (fun k_ => some k_ ≠ (.slice Ao36 t1802.length co36 : Value).ownBlock ∧ some k_ ≠ (.slice Ao49 t1816.length co49 : Value).ownBlock ∧ some k_ ≠ (v1847 : Value).ownBlock) (.slice Ao63 t1831.length co63) t1831) := ⟨h8_⟩
            have n9_ : Aside0 (Kd.R k96 96 w69 w.heap.size (fun k_ => some k_ ≠ (.slice Ao33 t1793.length co33 : Value).ownBlock ∧ some k_ ≠ (.slice Ao42 t1807.length co42 : Value).ownBlock ∧ some k_ ≠ (.slice Ao56 t1822.length co56 : Value).ownBlock) v1838 t1837) := ⟨h9_⟩
            have n10_ : Aside0 (Kd.R (Kd.int .i64) 3 w69 w.heap.size (fun k_ => some k_ ≠ (.slice Ao35 t1797.length co35 : Value).ownBlock ∧ some k_ ≠ (.slice Ao45 t1811.length co45 : Value).ownBlock ∧ some k_ ≠ (.slice Ao59 t1826.length co59 : Value).ownBlock) v1842 t1841) := ⟨h10_⟩
            have n11_ : Aside0 (Kd.R k74 74 w69 w.heap.size (fun k_ => some k_ ≠ (.slice Ao36 t1802.length co36 : Value).ownBlock ∧ some k_ ≠ (.slice Ao49 t1816.length co49 : Value).ownBlock ∧ some k_ ≠ (.slice Ao63 t1831.length co63 : Value).ownBlock) v1847 t1846) := ⟨h11_⟩
            have n12_ : Aside0 (w69.heap[gb1805]? = some (.cells #[.slice Ao33 t1793.length co33, .int .i64 t1796, .slice Ao35 t1797.length co35, .int .i64 t1800, .int .i64 t1801, .slice Ao36 t1802.length co36] 36 (0, 0))) := ⟨h12_⟩
            have n13_ : Aside0 (w69.heap[gb1820]? = some (.cells #[.slice Ao42 t1807.length co42, .int .i64 t1810, .slice Ao45 t1811.length co45, .int .i64 t1814, .int .i64 t1815, .slice Ao49 t1816.length co49] 36 (0, 0))) := ⟨h13_⟩
            have n14_ : Aside0 (w69.heap[gb1835]? = some (.cells #[.slice Ao56 t1822.length co56, .int .i64 t1825, .slice Ao59 t1826.length co59, .int .i64 t1829, .int .i64 t1830, .slice Ao63 t1831.length co63] 36 (0, 0))) := ⟨h14_⟩
            have n15_ : Aside0 (w69.heap[gb1850]? = some (.cells #[.slice none 0 0, .int .i64 0, .slice none 0 0, .int .i64 0, .int .i64 0, .slice none 0 0] 36 (0, 0))) := ⟨h15_⟩
            have n16_ : Aside0 (w.heap.size ≤ gb1850) := ⟨h16_⟩
            have n17_ : Aside0 (w.heap.size ≤ gb1850) := ⟨h17_⟩
            have n18_ : Aside0 (gb1805 ≠ gb1850) := ⟨h18_⟩
            have n19_ : Aside0 (gb1850 ≠ gb1805) := ⟨h19_⟩
            have n20_ : Aside0 (gb1820 ≠ gb1850) := ⟨h20_⟩
            have n21_ : Aside0 (gb1850 ≠ gb1820) := ⟨h21_⟩
            have n22_ : Aside0 (gb1835 ≠ gb1850) := ⟨h22_⟩
            have n23_ : Aside0 (gb1850 ≠ gb1835) := ⟨h23_⟩
            have n24_ : Aside0 (Below w.heap.size w w69) := ⟨h24_⟩
            clear HO1795
            clear HO1799
            clear HO1804
            clear HO1809
            clear HO1813
            clear HO1818
            clear HO1824
            clear HO1828
            clear HO1833
            clear BK1805
            clear BK1820
            clear BK1835
            clear HB
            clear h0_ h1_ h2_ h3_ h4_ h5_ h6_ h7_ h8_ h9_ h10_ h11_ h12_ h13_ h14_ h15_ h16_ h17_ h18_ h19_ h20_ h21_ h22_ h23_ h24_
            have HO1795 := n0_
            have HO1799 := n1_
            have HO1804 := n2_
            have HO1809 := n3_
            have HO1813 := n4_
            have HO1818 := n5_
            have HO1824 := n6_
            have HO1828 := n7_
            have HO1833 := n8_
            have HO1839 := n9_
            have HO1843 := n10_
            have HO1848 := n11_
            have BK1805 := n12_
            have BK1820 := n13_
            have BK1835 := n14_
            have BK1850 := n15_
            have GW1850 := n16_
            have GE1850 := n17_
            have NB1805_1850 := n18_
            have NB1850_1805 := n19_
            have NB1820_1850 := n20_
            have NB1850_1820 := n21_
            have NB1835_1850 := n22_
            have NB1850_1835 := n23_
            have HB := n24_
            clear n0_ n1_ n2_ n3_ n4_ n5_ n6_ n7_ n8_ n9_ n10_ n11_ n12_ n13_ n14_ n15_ n16_ n17_ n18_ n19_ n20_ n21_ n22_ n23_ n24_
            have hHeld : w69.cell? ⟨gb1805, 0, none⟩ = some (.slice Ao33 t1793.length co33) ∧ w69.cell? ⟨gb1805, 1, none⟩ = some (.int .i64 t1796) ∧ w69.cell? ⟨gb1805, 2, none⟩ = some (.slice Ao35 t1797.length co35) ∧ w69.cell? ⟨gb1805, 3, none⟩ = some (.int .i64 t1800) ∧ w69.cell? ⟨gb1805, 4, none⟩ = some (.int .i64 t1801) ∧ w69.cell? ⟨gb1805, 5, none⟩ = some (.slice Ao36 t1802.length co36) := hS_
            obtain ⟨Ao70, co70, eo70⟩ := Kd.R_slice HO1839.out
            (first | subst eo70 | (injection eo70 with f1_ f2_ f3_; have f4_ := f1_.symm; have f5_ := f3_.symm; clear f1_ f2_ f3_; subst f4_; subst f5_))
            obtain ⟨Ao73, co73, eo73⟩ := Kd.R_slice HO1843.out
            (first | subst eo73 | (injection eo73 with f1_ f2_ f3_; have f4_ := f1_.symm; have f5_ := f3_.symm; clear f1_ f2_ f3_; subst f4_; subst f5_))
            obtain ⟨Ao77, co77, eo77⟩ := Kd.R_slice HO1848.out
            (first | subst eo77 | (injection eo77 with f1_ f2_ f3_; have f4_ := f1_.symm; have f5_ := f3_.symm; clear f1_ f2_ f3_; subst f4_; subst f5_))
            refine norm_ (a' := ?_) ?_ ?_
            rotate_left
            ·simp only [putAll, Act.put, List.setIfInBounds_toArray, List.set_cons_zero, List.set_cons_succ]
             rfl
            refine one_ (i := 9) (N := none) #[true, true, true, true, true, true, true, true, true, true, false] rfl rfl (one_of HT_.out (by kernel_rfl)) (by decide) (fun K hK => ?_)
            have hs71 := cz BK1850 0
            have hfs71 := blk_frozen BK1850.out 0
            have hns71_0 := NB1805_1850.out
            have hns71_1 := NB1820_1850.out
            have hns71_2 := NB1835_1850.out
            have hms71_0 := NB1850_1805.out
            have hms71_1 := NB1850_1820.out
            have hms71_2 := NB1850_1835.out
            have hs72 := cz BK1850 1
            have hfs72 := blk_frozen BK1850.out 1
            have hns72_0 := NB1805_1850.out
            have hns72_1 := NB1820_1850.out
            have hns72_2 := NB1835_1850.out
            have hms72_0 := NB1850_1805.out
            have hms72_1 := NB1850_1820.out
            have hms72_2 := NB1850_1835.out
            have hs74 := cz BK1850 2
            have hfs74 := blk_frozen BK1850.out 2
            have hns74_0 := NB1805_1850.out
            have hns74_1 := NB1820_1850.out
            have hns74_2 := NB1835_1850.out
            have hms74_0 := NB1850_1805.out
            have hms74_1 := NB1850_1820.out
            have hms74_2 := NB1850_1835.out
            have hs75 := cz BK1850 3
            have hfs75 := blk_frozen BK1850.out 3
            have hns75_0 := NB1805_1850.out
            have hns75_1 := NB1820_1850.out
            have hns75_2 := NB1835_1850.out
            have hms75_0 := NB1850_1805.out
            have hms75_1 := NB1850_1820.out
            have hms75_2 := NB1850_1835.out
            have hs76 := cz BK1850 4
            have hfs76 := blk_frozen BK1850.out 4
            have hns76_0 := NB1805_1850.out
            have hns76_1 := NB1820_1850.out
            have hns76_2 := NB1835_1850.out
            have hms76_0 := NB1850_1805.out
            have hms76_1 := NB1850_1820.out
            have hms76_2 := NB1850_1835.out
            have hs78 := cz BK1850 5
            have hfs78 := blk_frozen BK1850.out 5
            have hns78_0 := NB1805_1850.out
            have hns78_1 := NB1820_1850.out
            have hns78_2 := NB1835_1850.out
            have hms78_0 := NB1850_1805.out
            have hms78_1 := NB1850_1820.out
            have hms78_2 := NB1850_1835.out
            refine skip_ (w1 := ?_) (by rfl) rfl ?_ ?_
            rotate_left
            ·go_simp
             rfl
            refine hK.out _ _ ⟨(cF NB1805_1850.out hHeld.1), (cF NB1805_1850.out hHeld.2.1), (cF NB1805_1850.out hHeld.2.2.1), (cF NB1805_1850.out hHeld.2.2.2.1), (cF NB1805_1850.out hHeld.2.2.2.2.1), (cF NB1805_1850.out hHeld.2.2.2.2.2)⟩ (fun hHeld => ?_)
            clear hK K
            refine pA 10 (some 9) HT_.out ?_
            refine done_ (done_of HT_.out (by kernel_rfl)) ?_
            have hnb79 := NB1805_1820.out
            have hnc79 := NB1820_1805.out
            have hnb80 := NB1805_1835.out
            have hnc80 := NB1835_1805.out
            have hnb81 := NB1805_1850.out
            have hnc81 := NB1850_1805.out
            have hcz82_0 := cz BK1805 0
            have hcz82_1 := cz BK1805 1
            have hcz82_2 := cz BK1805 2
            have hcz82_3 := cz BK1805 3
            have hcz82_4 := cz BK1805 4
            have hcz82_5 := cz BK1805 5
            have hfz82_0 := blk_frozen BK1805.out 0
            have hfz82_1 := blk_frozen BK1805.out 1
            have hfz82_2 := blk_frozen BK1805.out 2
            have hfz82_3 := blk_frozen BK1805.out 3
            have hfz82_4 := blk_frozen BK1805.out 4
            have hfz82_5 := blk_frozen BK1805.out 5
            try go_wp2_with (first | ((with_reducible refine gate_callee (f := 31) rfl ?_); refine gL (some 42) Try.func31 #[.agg #[.slice Ao33 t1793.length co33, .int .i64 t1796, .slice Ao35 t1797.length co35, .int .i64 t1800, .int .i64 t1801, .slice Ao36 t1802.length co36]] ?_; (with_reducible refine (impl_StepsLeft.calls k _ _ t1793 t1796 _ _ t1797 t1800 t1801 _ _ t1802 t1851 _ ?side1 ?side2 ?side3 ?side4 ?side5 ?side6 A11.out).mono ?_); (case side1 => refine (Kd.R_reads' (e := 96) (base := w.heap.size) (ok := fun k_ => (some k_ ≠ (.slice Ao42 t1807.length co42 : Value).ownBlock ∧ (some k_ ≠ (.slice Ao56 t1822.length co56 : Value).ownBlock ∧ some k_ ≠ (.slice Ao70 t1837.length co70 : Value).ownBlock))) (n := t1793.length) (c := co33) ?_).2.2; exact (by (with_reducible repeat (first | apply Kd.R_alloc | apply Kd.R_drewN | apply Kd.R_drew)); exact (Kd.R_mono (Kd.R_far (p := ⟨gb1850, 5, none⟩) (Kd.R_far (p := ⟨gb1850, 4, none⟩) (Kd.R_far (p := ⟨gb1850, 3, none⟩) (Kd.R_far (p := ⟨gb1850, 2, none⟩) (Kd.R_far (p := ⟨gb1850, 1, none⟩) (Kd.R_far (p := ⟨gb1850, 0, none⟩) (Kd.R_types HO1795.out BK1850.out (by decide)) (fun _ hk => hk.2) (.slice Ao70 t1837.length co70)) (fun _ hk => hk.2) (.int .i64 t1840)) (fun _ hk => hk.2) (.slice Ao73 t1841.length co73)) (fun _ hk => hk.2) (.int .i64 t1844)) (fun _ hk => hk.2) (.int .i64 t1845)) (fun _ hk => hk.2) (.slice Ao77 t1846.length co77)) (fun _ h_ => h_.1)))); (case side2 => exact (Kd.R_reads' HO1795.out).2.1); (case side3 => refine (Kd.R_reads' (e := 3) (base := w.heap.size) (ok := fun k_ => (some k_ ≠ (.slice Ao45 t1811.length co45 : Value).ownBlock ∧ (some k_ ≠ (.slice Ao59 t1826.length co59 : Value).ownBlock ∧ some k_ ≠ (.slice Ao73 t1841.length co73 : Value).ownBlock))) (n := t1797.length) (c := co35) ?_).2.2; exact (by (with_reducible repeat (first | apply Kd.R_alloc | apply Kd.R_drewN | apply Kd.R_drew)); exact (Kd.R_mono (Kd.R_far (p := ⟨gb1850, 5, none⟩) (Kd.R_far (p := ⟨gb1850, 4, none⟩) (Kd.R_far (p := ⟨gb1850, 3, none⟩) (Kd.R_far (p := ⟨gb1850, 2, none⟩) (Kd.R_far (p := ⟨gb1850, 1, none⟩) (Kd.R_far (p := ⟨gb1850, 0, none⟩) (Kd.R_types HO1799.out BK1850.out (by decide)) (fun _ hk => hk.2) (.slice Ao70 t1837.length co70)) (fun _ hk => hk.2) (.int .i64 t1840)) (fun _ hk => hk.2) (.slice Ao73 t1841.length co73)) (fun _ hk => hk.2) (.int .i64 t1844)) (fun _ hk => hk.2) (.int .i64 t1845)) (fun _ hk => hk.2) (.slice Ao77 t1846.length co77)) (fun _ h_ => h_.1)))); (case side4 => exact (Kd.R_reads' HO1799.out).2.1); (case side5 => refine (Kd.R_reads' (e := 74) (base := w.heap.size) (ok := fun k_ => (some k_ ≠ (.slice Ao49 t1816.length co49 : Value).ownBlock ∧ (some k_ ≠ (.slice Ao63 t1831.length co63 : Value).ownBlock ∧ some k_ ≠ (.slice Ao77 t1846.length co77 : Value).ownBlock))) (n := t1802.length) (c := co36) ?_).2.2; exact (by (with_reducible repeat (first | apply Kd.R_alloc | apply Kd.R_drewN | apply Kd.R_drew)); exact (Kd.R_mono (Kd.R_far (p := ⟨gb1850, 5, none⟩) (Kd.R_far (p := ⟨gb1850, 4, none⟩) (Kd.R_far (p := ⟨gb1850, 3, none⟩) (Kd.R_far (p := ⟨gb1850, 2, none⟩) (Kd.R_far (p := ⟨gb1850, 1, none⟩) (Kd.R_far (p := ⟨gb1850, 0, none⟩) (Kd.R_types HO1804.out BK1850.out (by decide)) (fun _ hk => hk.2) (.slice Ao70 t1837.length co70)) (fun _ hk => hk.2) (.int .i64 t1840)) (fun _ hk => hk.2) (.slice Ao73 t1841.length co73)) (fun _ hk => hk.2) (.int .i64 t1844)) (fun _ hk => hk.2) (.int .i64 t1845)) (fun _ hk => hk.2) (.slice Ao77 t1846.length co77)) (fun _ h_ => h_.1)))); (case side6 => exact (Kd.R_reads' HO1804.out).2.1); rintro e w83 ⟨rfl, hb⟩; refine ⟨_, rfl, ?_⟩; have n0_ := A_ (Kd.R_below (by (with_reducible repeat (first | apply Kd.R_alloc | apply Kd.R_drewN | apply Kd.R_drew)); exact (Kd.R_mono (Kd.R_far (p := ⟨gb1850, 5, none⟩) (Kd.R_far (p := ⟨gb1850, 4, none⟩) (Kd.R_far (p := ⟨gb1850, 3, none⟩) (Kd.R_far (p := ⟨gb1850, 2, none⟩) (Kd.R_far (p := ⟨gb1850, 1, none⟩) (Kd.R_far (p := ⟨gb1850, 0, none⟩) (Kd.R_types HO1795.out BK1850.out (by decide)) (fun _ hk => hk.2) (.slice Ao70 t1837.length co70)) (fun _ hk => hk.2) (.int .i64 t1840)) (fun _ hk => hk.2) (.slice Ao73 t1841.length co73)) (fun _ hk => hk.2) (.int .i64 t1844)) (fun _ hk => hk.2) (.int .i64 t1845)) (fun _ hk => hk.2) (.slice Ao77 t1846.length co77)) (fun _ h_ => h_.1))) hb); have n1_ := A_ (Kd.R_below (by (with_reducible repeat (first | apply Kd.R_alloc | apply Kd.R_drewN | apply Kd.R_drew)); exact (Kd.R_mono (Kd.R_far (p := ⟨gb1850, 5, none⟩) (Kd.R_far (p := ⟨gb1850, 4, none⟩) (Kd.R_far (p := ⟨gb1850, 3, none⟩) (Kd.R_far (p := ⟨gb1850, 2, none⟩) (Kd.R_far (p := ⟨gb1850, 1, none⟩) (Kd.R_far (p := ⟨gb1850, 0, none⟩) (Kd.R_types HO1799.out BK1850.out (by decide)) (fun _ hk => hk.2) (.slice Ao70 t1837.length co70)) (fun _ hk => hk.2) (.int .i64 t1840)) (fun _ hk => hk.2) (.slice Ao73 t1841.length co73)) (fun _ hk => hk.2) (.int .i64 t1844)) (fun _ hk => hk.2) (.int .i64 t1845)) (fun _ hk => hk.2) (.slice Ao77 t1846.length co77)) (fun _ h_ => h_.1))) hb); have n2_ := A_ (Kd.R_below (by (with_reducible repeat (first | apply Kd.R_alloc | apply Kd.R_drewN | apply Kd.R_drew)); exact (Kd.R_mono (Kd.R_far (p := ⟨gb1850, 5, none⟩) (Kd.R_far (p := ⟨gb1850, 4, none⟩) (Kd.R_far (p := ⟨gb1850, 3, none⟩) (Kd.R_far (p := ⟨gb1850, 2, none⟩) (Kd.R_far (p := ⟨gb1850, 1, none⟩) (Kd.R_far (p := ⟨gb1850, 0, none⟩) (Kd.R_types HO1804.out BK1850.out (by decide)) (fun _ hk => hk.2) (.slice Ao70 t1837.length co70)) (fun _ hk => hk.2) (.int .i64 t1840)) (fun _ hk => hk.2) (.slice Ao73 t1841.length co73)) (fun _ hk => hk.2) (.int .i64 t1844)) (fun _ hk => hk.2) (.int .i64 t1845)) (fun _ hk => hk.2) (.slice Ao77 t1846.length co77)) (fun _ h_ => h_.1))) hb); have n3_ := A_ (Kd.R_below (by (with_reducible repeat (first | apply Kd.R_alloc | apply Kd.R_drewN | apply Kd.R_drew)); exact (Kd.R_mono (Kd.R_far (p := ⟨gb1850, 5, none⟩) (Kd.R_far (p := ⟨gb1850, 4, none⟩) (Kd.R_far (p := ⟨gb1850, 3, none⟩) (Kd.R_far (p := ⟨gb1850, 2, none⟩) (Kd.R_far (p := ⟨gb1850, 1, none⟩) (Kd.R_far (p := ⟨gb1850, 0, none⟩) (Kd.R_types HO1809.out BK1850.out (by decide)) (fun _ hk => hk.2) (.slice Ao70 t1837.length co70)) (fun _ hk => hk.2) (.int .i64 t1840)) (fun _ hk => hk.2) (.slice Ao73 t1841.length co73)) (fun _ hk => hk.2) (.int .i64 t1844)) (fun _ hk => hk.2) (.int .i64 t1845)) (fun _ hk => hk.2) (.slice Ao77 t1846.length co77)) (fun _ h_ => h_.1))) hb); have n4_ := A_ (Kd.R_below (by (with_reducible repeat (first | apply Kd.R_alloc | apply Kd.R_drewN | apply Kd.R_drew)); exact (Kd.R_mono (Kd.R_far (p := ⟨gb1850, 5, none⟩) (Kd.R_far (p := ⟨gb1850, 4, none⟩) (Kd.R_far (p := ⟨gb1850, 3, none⟩) (Kd.R_far (p := ⟨gb1850, 2, none⟩) (Kd.R_far (p := ⟨gb1850, 1, none⟩) (Kd.R_far (p := ⟨gb1850, 0, none⟩) (Kd.R_types HO1813.out BK1850.out (by decide)) (fun _ hk => hk.2) (.slice Ao70 t1837.length co70)) (fun _ hk => hk.2) (.int .i64 t1840)) (fun _ hk => hk.2) (.slice Ao73 t1841.length co73)) (fun _ hk => hk.2) (.int .i64 t1844)) (fun _ hk => hk.2) (.int .i64 t1845)) (fun _ hk => hk.2) (.slice Ao77 t1846.length co77)) (fun _ h_ => h_.1))) hb); have n5_ := A_ (Kd.R_below (by (with_reducible repeat (first | apply Kd.R_alloc | apply Kd.R_drewN | apply Kd.R_drew)); exact (Kd.R_mono (Kd.R_far (p := ⟨gb1850, 5, none⟩) (Kd.R_far (p := ⟨gb1850, 4, none⟩) (Kd.R_far (p := ⟨gb1850, 3, none⟩) (Kd.R_far (p := ⟨gb1850, 2, none⟩) (Kd.R_far (p := ⟨gb1850, 1, none⟩) (Kd.R_far (p := ⟨gb1850, 0, none⟩) (Kd.R_types HO1818.out BK1850.out (by decide)) (fun _ hk => hk.2) (.slice Ao70 t1837.length co70)) (fun _ hk => hk.2) (.int .i64 t1840)) (fun _ hk => hk.2) (.slice Ao73 t1841.length co73)) (fun _ hk => hk.2) (.int .i64 t1844)) (fun _ hk => hk.2) (.int .i64 t1845)) (fun _ hk => hk.2) (.slice Ao77 t1846.length co77)) (fun _ h_ => h_.1))) hb); have n6_ := A_ (Kd.R_below (by (with_reducible repeat (first | apply Kd.R_alloc | apply Kd.R_drewN | apply Kd.R_drew)); exact (Kd.R_mono (Kd.R_far (p := ⟨gb1850, 5, none⟩) (Kd.R_far (p := ⟨gb1850, 4, none⟩) (Kd.R_far (p := ⟨gb1850, 3, none⟩) (Kd.R_far (p := ⟨gb1850, 2, none⟩) (Kd.R_far (p := ⟨gb1850, 1, none⟩) (Kd.R_far (p := ⟨gb1850, 0, none⟩) (Kd.R_types HO1824.out BK1850.out (by decide)) (fun _ hk => hk.2) (.slice Ao70 t1837.length co70)) (fun _ hk => hk.2) (.int .i64 t1840)) (fun _ hk => hk.2) (.slice Ao73 t1841.length co73)) (fun _ hk => hk.2) (.int .i64 t1844)) (fun _ hk => hk.2) (.int .i64 t1845)) (fun _ hk => hk.2) (.slice Ao77 t1846.length co77)) (fun _ h_ => h_.1))) hb); have n7_ := A_ (Kd.R_below (by (with_reducible repeat (first | apply Kd.R_alloc | apply Kd.R_drewN | apply Kd.R_drew)); exact (Kd.R_mono (Kd.R_far (p := ⟨gb1850, 5, none⟩) (Kd.R_far (p := ⟨gb1850, 4, none⟩) (Kd.R_far (p := ⟨gb1850, 3, none⟩) (Kd.R_far (p := ⟨gb1850, 2, none⟩) (Kd.R_far (p := ⟨gb1850, 1, none⟩) (Kd.R_far (p := ⟨gb1850, 0, none⟩) (Kd.R_types HO1828.out BK1850.out (by decide)) (fun _ hk => hk.2) (.slice Ao70 t1837.length co70)) (fun _ hk => hk.2) (.int .i64 t1840)) (fun _ hk => hk.2) (.slice Ao73 t1841.length co73)) (fun _ hk => hk.2) (.int .i64 t1844)) (fun _ hk => hk.2) (.int .i64 t1845)) (fun _ hk => hk.2) (.slice Ao77 t1846.length co77)) (fun _ h_ => h_.1))) hb); have n8_ := A_ (Kd.R_below (by (with_reducible repeat (first | apply Kd.R_alloc | apply Kd.R_drewN | apply Kd.R_drew)); exact (Kd.R_mono (Kd.R_far (p := ⟨gb1850, 5, none⟩) (Kd.R_far (p := ⟨gb1850, 4, none⟩) (Kd.R_far (p := ⟨gb1850, 3, none⟩) (Kd.R_far (p := ⟨gb1850, 2, none⟩) (Kd.R_far (p := ⟨gb1850, 1, none⟩) (Kd.R_far (p := ⟨gb1850, 0, none⟩) (Kd.R_types HO1833.out BK1850.out (by decide)) (fun _ hk => hk.2) (.slice Ao70 t1837.length co70)) (fun _ hk => hk.2) (.int .i64 t1840)) (fun _ hk => hk.2) (.slice Ao73 t1841.length co73)) (fun _ hk => hk.2) (.int .i64 t1844)) (fun _ hk => hk.2) (.int .i64 t1845)) (fun _ hk => hk.2) (.slice Ao77 t1846.length co77)) (fun _ h_ => h_.1))) hb); have n9_ := A_ (Kd.R_below (by (with_reducible repeat (first | apply Kd.R_alloc | apply Kd.R_drewN | apply Kd.R_drew)); exact (Kd.R_mono (Kd.R_far (p := ⟨gb1850, 5, none⟩) (Kd.R_far (p := ⟨gb1850, 4, none⟩) (Kd.R_far (p := ⟨gb1850, 3, none⟩) (Kd.R_far (p := ⟨gb1850, 2, none⟩) (Kd.R_far (p := ⟨gb1850, 1, none⟩) (Kd.R_far (p := ⟨gb1850, 0, none⟩) (Kd.R_types HO1839.out BK1850.out (by decide)) (fun _ hk => hk.2) (.slice Ao70 t1837.length co70)) (fun _ hk => hk.2) (.int .i64 t1840)) (fun _ hk => hk.2) (.slice Ao73 t1841.length co73)) (fun _ hk => hk.2) (.int .i64 t1844)) (fun _ hk => hk.2) (.int .i64 t1845)) (fun _ hk => hk.2) (.slice Ao77 t1846.length co77)) (fun _ h_ => h_.1))) hb); have n10_ := A_ (Kd.R_below (by (with_reducible repeat (first | apply Kd.R_alloc | apply Kd.R_drewN | apply Kd.R_drew)); exact (Kd.R_mono (Kd.R_far (p := ⟨gb1850, 5, none⟩) (Kd.R_far (p := ⟨gb1850, 4, none⟩) (Kd.R_far (p := ⟨gb1850, 3, none⟩) (Kd.R_far (p := ⟨gb1850, 2, none⟩) (Kd.R_far (p := ⟨gb1850, 1, none⟩) (Kd.R_far (p := ⟨gb1850, 0, none⟩) (Kd.R_types HO1843.out BK1850.out (by decide)) (fun _ hk => hk.2) (.slice Ao70 t1837.length co70)) (fun _ hk => hk.2) (.int .i64 t1840)) (fun _ hk => hk.2) (.slice Ao73 t1841.length co73)) (fun _ hk => hk.2) (.int .i64 t1844)) (fun _ hk => hk.2) (.int .i64 t1845)) (fun _ hk => hk.2) (.slice Ao77 t1846.length co77)) (fun _ h_ => h_.1))) hb); have n11_ := A_ (Kd.R_below (by (with_reducible repeat (first | apply Kd.R_alloc | apply Kd.R_drewN | apply Kd.R_drew)); exact (Kd.R_mono (Kd.R_far (p := ⟨gb1850, 5, none⟩) (Kd.R_far (p := ⟨gb1850, 4, none⟩) (Kd.R_far (p := ⟨gb1850, 3, none⟩) (Kd.R_far (p := ⟨gb1850, 2, none⟩) (Kd.R_far (p := ⟨gb1850, 1, none⟩) (Kd.R_far (p := ⟨gb1850, 0, none⟩) (Kd.R_types HO1848.out BK1850.out (by decide)) (fun _ hk => hk.2) (.slice Ao70 t1837.length co70)) (fun _ hk => hk.2) (.int .i64 t1840)) (fun _ hk => hk.2) (.slice Ao73 t1841.length co73)) (fun _ hk => hk.2) (.int .i64 t1844)) (fun _ hk => hk.2) (.int .i64 t1845)) (fun _ hk => hk.2) (.slice Ao77 t1846.length co77)) (fun _ h_ => h_.1))) hb); have n12_ := A_ (blk_below (g := gb1805) (o := .cells #[.slice Ao33 t1793.length co33, .int .i64 t1796, .slice Ao35 t1797.length co35, .int .i64 t1800, .int .i64 t1801, .slice Ao36 t1802.length co36] 36 (0, 0)) (by (with_reducible repeat (first | refine blk_drewN ?_ _ | refine blk_drew ?_ | refine blk_alloc ?_ _)); refine blk_far ?_ NB1805_1850.out _; (with_reducible repeat (first | refine blk_drewN ?_ _ | refine blk_drew ?_ | refine blk_alloc ?_ _)); refine blk_far ?_ NB1805_1850.out _; (with_reducible repeat (first | refine blk_drewN ?_ _ | refine blk_drew ?_ | refine blk_alloc ?_ _)); refine blk_far ?_ NB1805_1850.out _; (with_reducible repeat (first | refine blk_drewN ?_ _ | refine blk_drew ?_ | refine blk_alloc ?_ _)); refine blk_far ?_ NB1805_1850.out _; (with_reducible repeat (first | refine blk_drewN ?_ _ | refine blk_drew ?_ | refine blk_alloc ?_ _)); refine blk_far ?_ NB1805_1850.out _; (with_reducible repeat (first | refine blk_drewN ?_ _ | refine blk_drew ?_ | refine blk_alloc ?_ _)); refine blk_far ?_ NB1805_1850.out _; (with_reducible repeat (first | refine blk_drewN ?_ _ | refine blk_drew ?_ | refine blk_alloc ?_ _)); exact BK1805.out) hb); have n13_ := A_ (blk_below (g := gb1820) (o := .cells #[.slice Ao42 t1807.length co42, .int .i64 t1810, .slice Ao45 t1811.length co45, .int .i64 t1814, .int .i64 t1815, .slice Ao49 t1816.length co49] 36 (0, 0)) (by (with_reducible repeat (first | refine blk_drewN ?_ _ | refine blk_drew ?_ | refine blk_alloc ?_ _)); refine blk_far ?_ NB1820_1850.out _; (with_reducible repeat (first | refine blk_drewN ?_ _ | refine blk_drew ?_ | refine blk_alloc ?_ _)); refine blk_far ?_ NB1820_1850.out _; (with_reducible repeat (first | refine blk_drewN ?_ _ | refine blk_drew ?_ | refine blk_alloc ?_ _)); refine blk_far ?_ NB1820_1850.out _; (with_reducible repeat (first | refine blk_drewN ?_ _ | refine blk_drew ?_ | refine blk_alloc ?_ _)); refine blk_far ?_ NB1820_1850.out _; (with_reducible repeat (first | refine blk_drewN ?_ _ | refine blk_drew ?_ | refine blk_alloc ?_ _)); refine blk_far ?_ NB1820_1850.out _; (with_reducible repeat (first | refine blk_drewN ?_ _ | refine blk_drew ?_ | refine blk_alloc ?_ _)); refine blk_far ?_ NB1820_1850.out _; (with_reducible repeat (first | refine blk_drewN ?_ _ | refine blk_drew ?_ | refine blk_alloc ?_ _)); exact BK1820.out) hb); have n14_ := A_ (blk_below (g := gb1835) (o := .cells #[.slice Ao56 t1822.length co56, .int .i64 t1825, .slice Ao59 t1826.length co59, .int .i64 t1829, .int .i64 t1830, .slice Ao63 t1831.length co63] 36 (0, 0)) (by (with_reducible repeat (first | refine blk_drewN ?_ _ | refine blk_drew ?_ | refine blk_alloc ?_ _)); refine blk_far ?_ NB1835_1850.out _; (with_reducible repeat (first | refine blk_drewN ?_ _ | refine blk_drew ?_ | refine blk_alloc ?_ _)); refine blk_far ?_ NB1835_1850.out _; (with_reducible repeat (first | refine blk_drewN ?_ _ | refine blk_drew ?_ | refine blk_alloc ?_ _)); refine blk_far ?_ NB1835_1850.out _; (with_reducible repeat (first | refine blk_drewN ?_ _ | refine blk_drew ?_ | refine blk_alloc ?_ _)); refine blk_far ?_ NB1835_1850.out _; (with_reducible repeat (first | refine blk_drewN ?_ _ | refine blk_drew ?_ | refine blk_alloc ?_ _)); refine blk_far ?_ NB1835_1850.out _; (with_reducible repeat (first | refine blk_drewN ?_ _ | refine blk_drew ?_ | refine blk_alloc ?_ _)); refine blk_far ?_ NB1835_1850.out _; (with_reducible repeat (first | refine blk_drewN ?_ _ | refine blk_drew ?_ | refine blk_alloc ?_ _)); exact BK1835.out) hb); have n15_ := A_ (blk_below (g := gb1850) (o := .cells #[.slice Ao70 t1837.length co70, .int .i64 t1840, .slice Ao73 t1841.length co73, .int .i64 t1844, .int .i64 t1845, .slice Ao77 t1846.length co77] 36 (0, 0)) (by (with_reducible repeat (first | refine blk_drewN ?_ _ | refine blk_drew ?_ | refine blk_alloc ?_ _)); refine blk_put (cs := #[.slice Ao70 t1837.length co70, .int .i64 t1840, .slice Ao73 t1841.length co73, .int .i64 t1844, .int .i64 t1845, .slice none 0 0]) ?_ 5 _ rfl; (with_reducible repeat (first | refine blk_drewN ?_ _ | refine blk_drew ?_ | refine blk_alloc ?_ _)); refine blk_put (cs := #[.slice Ao70 t1837.length co70, .int .i64 t1840, .slice Ao73 t1841.length co73, .int .i64 t1844, .int .i64 0, .slice none 0 0]) ?_ 4 _ rfl; (with_reducible repeat (first | refine blk_drewN ?_ _ | refine blk_drew ?_ | refine blk_alloc ?_ _)); refine blk_put (cs := #[.slice Ao70 t1837.length co70, .int .i64 t1840, .slice Ao73 t1841.length co73, .int .i64 0, .int .i64 0, .slice none 0 0]) ?_ 3 _ rfl; (with_reducible repeat (first | refine blk_drewN ?_ _ | refine blk_drew ?_ | refine blk_alloc ?_ _)); refine blk_put (cs := #[.slice Ao70 t1837.length co70, .int .i64 t1840, .slice none 0 0, .int .i64 0, .int .i64 0, .slice none 0 0]) ?_ 2 _ rfl; (with_reducible repeat (first | refine blk_drewN ?_ _ | refine blk_drew ?_ | refine blk_alloc ?_ _)); refine blk_put (cs := #[.slice Ao70 t1837.length co70, .int .i64 0, .slice none 0 0, .int .i64 0, .int .i64 0, .slice none 0 0]) ?_ 1 _ rfl; (with_reducible repeat (first | refine blk_drewN ?_ _ | refine blk_drew ?_ | refine blk_alloc ?_ _)); refine blk_put (cs := #[.slice none 0 0, .int .i64 0, .slice none 0 0, .int .i64 0, .int .i64 0, .slice none 0 0]) ?_ 0 _ rfl; (with_reducible repeat (first | refine blk_drewN ?_ _ | refine blk_drew ?_ | refine blk_alloc ?_ _)); exact BK1850.out) hb); have n16_ := A_ (below_step (oB HB) hb); clear HO1795; clear HO1799; clear HO1804; clear HO1809; clear HO1813; clear HO1818; clear HO1824; clear HO1828; clear HO1833; clear HO1839; clear HO1843; clear HO1848; clear BK1805; clear BK1820; clear BK1835; clear BK1850; clear HB; have HO1795 := n0_; have HO1799 := n1_; have HO1804 := n2_; have HO1809 := n3_; have HO1813 := n4_; have HO1818 := n5_; have HO1824 := n6_; have HO1828 := n7_; have HO1833 := n8_; have HO1839 := n9_; have HO1843 := n10_; have HO1848 := n11_; have BK1805 := n12_; have BK1820 := n13_; have BK1835 := n14_; have BK1850 := n15_; have HB := n16_; clear n0_ n1_ n2_ n3_ n4_ n5_ n6_ n7_ n8_ n9_ n10_ n11_ n12_ n13_ n14_ n15_ n16_; (try clear hb); (try clear hb2); (try clear hk); (try clear hi)))
            have n0_ := A_ (Kd.R_drew HO1795.out)
            have n1_ := A_ (Kd.R_drew HO1799.out)
            have n2_ := A_ (Kd.R_drew HO1804.out)
            have n3_ := A_ (Kd.R_drew HO1809.out)
            have n4_ := A_ (Kd.R_drew HO1813.out)
            have n5_ := A_ (Kd.R_drew HO1818.out)
            have n6_ := A_ (Kd.R_drew HO1824.out)
            have n7_ := A_ (Kd.R_drew HO1828.out)
            have n8_ := A_ (Kd.R_drew HO1833.out)
            have n9_ := A_ (Kd.R_drew HO1839.out)
            have n10_ := A_ (Kd.R_drew HO1843.out)
            have n11_ := A_ (Kd.R_drew HO1848.out)
            have n12_ := A_ (blk_drew BK1805.out)
            have n13_ := A_ (blk_drew BK1820.out)
            have n14_ := A_ (blk_drew BK1835.out)
            have n15_ := A_ (blk_drew BK1850.out)
            have n16_ := A_ (below_drew1 HB.out)
            clear HO1795
            clear HO1799
            clear HO1804
            clear HO1809
            clear HO1813
            clear HO1818
            clear HO1824
            clear HO1828
            clear HO1833
            clear HO1839
            clear HO1843
            clear HO1848
            clear BK1805
            clear BK1820
            clear BK1835
            clear BK1850
            clear HB
            have HO1795 := n0_
            have HO1799 := n1_
            have HO1804 := n2_
            have HO1809 := n3_
            have HO1813 := n4_
            have HO1818 := n5_
            have HO1824 := n6_
            have HO1828 := n7_
            have HO1833 := n8_
            have HO1839 := n9_
            have HO1843 := n10_
            have HO1848 := n11_
            have BK1805 := n12_
            have BK1820 := n13_
            have BK1835 := n14_
            have BK1850 := n15_
            have HB := n16_
            clear n0_ n1_ n2_ n3_ n4_ n5_ n6_ n7_ n8_ n9_ n10_ n11_ n12_ n13_ n14_ n15_ n16_
            refine start_ (n := 58) (S := fun w' => w'.cell? ⟨gb1805, 0, none⟩ = some (.slice Ao33 t1793.length co33) ∧ w'.cell? ⟨gb1805, 1, none⟩ = some (.int .i64 t1796) ∧ w'.cell? ⟨gb1805, 2, none⟩ = some (.slice Ao35 t1797.length co35) ∧ w'.cell? ⟨gb1805, 3, none⟩ = some (.int .i64 t1800) ∧ w'.cell? ⟨gb1805, 4, none⟩ = some (.int .i64 t1801) ∧ w'.cell? ⟨gb1805, 5, none⟩ = some (.slice Ao36 t1802.length co36) ∧ w'.cell? ⟨gb1820, 0, none⟩ = some (.slice Ao42 t1807.length co42) ∧ w'.cell? ⟨gb1820, 1, none⟩ = some (.int .i64 t1810) ∧ w'.cell? ⟨gb1820, 2, none⟩ = some (.slice Ao45 t1811.length co45) ∧ w'.cell? ⟨gb1820, 3, none⟩ = some (.int .i64 t1814) ∧ w'.cell? ⟨gb1820, 4, none⟩ = some (.int .i64 t1815) ∧ w'.cell? ⟨gb1820, 5, none⟩ = some (.slice Ao49 t1816.length co49) ∧ w'.cell? ⟨gb1835, 0, none⟩ = some (.slice Ao56 t1822.length co56) ∧ w'.cell? ⟨gb1835, 1, none⟩ = some (.int .i64 t1825) ∧ w'.cell? ⟨gb1835, 2, none⟩ = some (.slice Ao59 t1826.length co59) ∧ w'.cell? ⟨gb1835, 3, none⟩ = some (.int .i64 t1829) ∧ w'.cell? ⟨gb1835, 4, none⟩ = some (.int .i64 t1830) ∧ w'.cell? ⟨gb1835, 5, none⟩ = some (.slice Ao63 t1831.length co63) ∧ w'.cell? ⟨gb1850, 0, none⟩ = some (.slice Ao70 t1837.length co70) ∧ w'.cell? ⟨gb1850, 1, none⟩ = some (.int .i64 t1840) ∧ w'.cell? ⟨gb1850, 2, none⟩ = some (.slice Ao73 t1841.length co73) ∧ w'.cell? ⟨gb1850, 3, none⟩ = some (.int .i64 t1844) ∧ w'.cell? ⟨gb1850, 4, none⟩ = some (.int .i64 t1845) ∧ w'.cell? ⟨gb1850, 5, none⟩ = some (.slice Ao77 t1846.length co77)) (ds := []) #[false, false, false, false, false, false, false, false, false, false, false, false, false, false, false, false, false, false, false, false, false, false, false, false, false, false, false, false, false, false, false, false, false, false, false, false, false, false, false, false, false, false, false, false, false, false, false, false, false, false, false, false, false, false, false, false, false, false] (by kernel_rfl) rfl rfl ⟨cz BK1805 0, cz BK1805 1, cz BK1805 2, cz BK1805 3, cz BK1805 4, cz BK1805 5, cz BK1820 0, cz BK1820 1, cz BK1820 2, cz BK1820 3, cz BK1820 4, cz BK1820 5, cz BK1835 0, cz BK1835 1, cz BK1835 2, cz BK1835 3, cz BK1835 4, cz BK1835 5, cz BK1850 0, cz BK1850 1, cz BK1850 2, cz BK1850 3, cz BK1850 4, cz BK1850 5⟩ (fun hHeld => ?_); refine with_tabW laws_FnShops.tab8 laws_FnShops.bits8 (fun HT_ HW_ => ?_)
            generalize w83.drew = w84 at HO1795 HO1799 HO1804 HO1809 HO1813 HO1818 HO1824 HO1828 HO1833 HO1839 HO1843 HO1848 BK1805 BK1820 BK1835 BK1850 HB hHeld ⊢
            refine pT 0 (some 43) HT_.out HW_.out hHeld ?_
            refine one_ (i := 1) (N := some 44) #[true, true, false, false, false, false, false, false, false, false, false, false, false, false, false, false, false, false, false, false, false, false, false, false, false, false, false, false, false, false, false, false, false, false, false, false, false, false, false, false, false, false, false, false, false, false, false, false, false, false, false, false, false, false, false, false, false, false] rfl rfl (one_of HT_.out (by kernel_rfl)) (by decide) (fun K hK => ?_)
            refine goes_ Try.func18 (by kernel_rfl) rfl #[.agg #[.slice Ao33 t1793.length co33, .int .i64 t1796, .slice Ao35 t1797.length co35, .int .i64 t1800, .int .i64 t1801, .slice Ao36 t1802.length co36]] (by rfl) rfl rfl (by (try simp only [List.map_toArray, List.map_cons, List.map_nil]); first | done | rfl | (simp only [List.length_drop, List.length_take]; rfl)) ?_
            with_reducible refine (impl_ShopOk.calls k _ _ t1793 t1796 _ _ t1797 t1800 t1801 _ _ t1802 true _ ?side1 ?side2 ?side3 ?side4 ?side5 ?side6 A12.out).mono ?_
            (case side1 => repeat (first | exact (Kd.R_reads' HO1795.out).2.2 | (with_reducible refine Kd.C_alloc ?_ _) | (with_reducible refine Kd.C_drewN ?_ _) | (with_reducible refine Kd.C_drew ?_)))
            (case side2 => exact (Kd.R_reads' HO1795.out).2.1)
            (case side3 => repeat (first | exact (Kd.R_reads' HO1799.out).2.2 | (with_reducible refine Kd.C_alloc ?_ _) | (with_reducible refine Kd.C_drewN ?_ _) | (with_reducible refine Kd.C_drew ?_)))
            (case side4 => exact (Kd.R_reads' HO1799.out).2.1)
            (case side5 => repeat (first | exact (Kd.R_reads' HO1804.out).2.2 | (with_reducible refine Kd.C_alloc ?_ _) | (with_reducible refine Kd.C_drewN ?_ _) | (with_reducible refine Kd.C_drew ?_)))
            (case side6 => exact (Kd.R_reads' HO1804.out).2.1)
            rintro e w85 ⟨rfl, hb⟩
            refine ⟨_, rfl, ?_⟩
            have n0_ := A_ (Kd.R_below (oR HO1795) hb)
            have n1_ := A_ (Kd.R_below (oR HO1799) hb)
            have n2_ := A_ (Kd.R_below (oR HO1804) hb)
            have n3_ := A_ (Kd.R_below (oR HO1809) hb)
            have n4_ := A_ (Kd.R_below (oR HO1813) hb)
            have n5_ := A_ (Kd.R_below (oR HO1818) hb)
            have n6_ := A_ (Kd.R_below (oR HO1824) hb)
            have n7_ := A_ (Kd.R_below (oR HO1828) hb)
            have n8_ := A_ (Kd.R_below (oR HO1833) hb)
            have n9_ := A_ (Kd.R_below (oR HO1839) hb)
            have n10_ := A_ (Kd.R_below (oR HO1843) hb)
            have n11_ := A_ (Kd.R_below (oR HO1848) hb)
            have n12_ := A_ (bb BK1805 hb)
            have n13_ := A_ (bb BK1820 hb)
            have n14_ := A_ (bb BK1835 hb)
            have n15_ := A_ (bb BK1850 hb)
            have n16_ := A_ (below_step (oB HB) hb)
            clear HO1795
            clear HO1799
            clear HO1804
            clear HO1809
            clear HO1813
            clear HO1818
            clear HO1824
            clear HO1828
            clear HO1833
            clear HO1839
            clear HO1843
            clear HO1848
            clear BK1805
            clear BK1820
            clear BK1835
            clear BK1850
            clear HB
            have HO1795 := n0_
            have HO1799 := n1_
            have HO1804 := n2_
            have HO1809 := n3_
            have HO1813 := n4_
            have HO1818 := n5_
            have HO1824 := n6_
            have HO1828 := n7_
            have HO1833 := n8_
            have HO1839 := n9_
            have HO1843 := n10_
            have HO1848 := n11_
            have BK1805 := n12_
            have BK1820 := n13_
            have BK1835 := n14_
            have BK1850 := n15_
            have HB := n16_
            clear n0_ n1_ n2_ n3_ n4_ n5_ n6_ n7_ n8_ n9_ n10_ n11_ n12_ n13_ n14_ n15_ n16_
            (try clear hb)
            (try clear hb2)
            (try clear hk)
            (try clear hi)
            refine hK.out _ _ ⟨cz BK1805 0, cz BK1805 1, cz BK1805 2, cz BK1805 3, cz BK1805 4, cz BK1805 5, cz BK1820 0, cz BK1820 1, cz BK1820 2, cz BK1820 3, cz BK1820 4, cz BK1820 5, cz BK1835 0, cz BK1835 1, cz BK1835 2, cz BK1835 3, cz BK1835 4, cz BK1835 5, cz BK1850 0, cz BK1850 1, cz BK1850 2, cz BK1850 3, cz BK1850 4, cz BK1850 5⟩ (fun hHeld => ?_)
            clear hK K
            refine norm_ (a' := ?_) ?_ ?_
            rotate_left
            ·show Act.put _ (some 44) _ = _
             simp only [Act.put, List.setIfInBounds_toArray, List.set_cons_zero, List.set_cons_succ, i64_w, i32_w]
             rfl
            refine pA 2 (some 45) HT_.out ?_
            refine pT 3 (some 46) HT_.out HW_.out hHeld ?_
            refine one_ (i := 4) (N := some 47) #[true, true, true, true, true, false, false, false, false, false, false, false, false, false, false, false, false, false, false, false, false, false, false, false, false, false, false, false, false, false, false, false, false, false, false, false, false, false, false, false, false, false, false, false, false, false, false, false, false, false, false, false, false, false, false, false, false, false] rfl rfl (one_of HT_.out (by kernel_rfl)) (by decide) (fun K hK => ?_)
            refine goes_ Try.func18 (by kernel_rfl) rfl #[.agg #[.slice Ao42 t1807.length co42, .int .i64 t1810, .slice Ao45 t1811.length co45, .int .i64 t1814, .int .i64 t1815, .slice Ao49 t1816.length co49]] (by rfl) rfl rfl (by (try simp only [List.map_toArray, List.map_cons, List.map_nil]); first | done | rfl | (simp only [List.length_drop, List.length_take]; rfl)) ?_
            with_reducible refine (impl_ShopOk.calls k _ _ t1807 t1810 _ _ t1811 t1814 t1815 _ _ t1816 true _ ?side1 ?side2 ?side3 ?side4 ?side5 ?side6 A14.out).mono ?_
            (case side1 => repeat (first | exact (Kd.R_reads' HO1809.out).2.2 | (with_reducible refine Kd.C_alloc ?_ _) | (with_reducible refine Kd.C_drewN ?_ _) | (with_reducible refine Kd.C_drew ?_)))
            (case side2 => exact (Kd.R_reads' HO1809.out).2.1)
            (case side3 => repeat (first | exact (Kd.R_reads' HO1813.out).2.2 | (with_reducible refine Kd.C_alloc ?_ _) | (with_reducible refine Kd.C_drewN ?_ _) | (with_reducible refine Kd.C_drew ?_)))
            (case side4 => exact (Kd.R_reads' HO1813.out).2.1)
            (case side5 => repeat (first | exact (Kd.R_reads' HO1818.out).2.2 | (with_reducible refine Kd.C_alloc ?_ _) | (with_reducible refine Kd.C_drewN ?_ _) | (with_reducible refine Kd.C_drew ?_)))
            (case side6 => exact (Kd.R_reads' HO1818.out).2.1)
            rintro e w86 ⟨rfl, hb⟩
            refine ⟨_, rfl, ?_⟩
            have n0_ := A_ (Kd.R_below (oR HO1795) hb)
            have n1_ := A_ (Kd.R_below (oR HO1799) hb)
            have n2_ := A_ (Kd.R_below (oR HO1804) hb)
            have n3_ := A_ (Kd.R_below (oR HO1809) hb)
            have n4_ := A_ (Kd.R_below (oR HO1813) hb)
            have n5_ := A_ (Kd.R_below (oR HO1818) hb)
            have n6_ := A_ (Kd.R_below (oR HO1824) hb)
            have n7_ := A_ (Kd.R_below (oR HO1828) hb)
            have n8_ := A_ (Kd.R_below (oR HO1833) hb)
            have n9_ := A_ (Kd.R_below (oR HO1839) hb)
            have n10_ := A_ (Kd.R_below (oR HO1843) hb)
            have n11_ := A_ (Kd.R_below (oR HO1848) hb)
            have n12_ := A_ (bb BK1805 hb)
            have n13_ := A_ (bb BK1820 hb)
            have n14_ := A_ (bb BK1835 hb)
            have n15_ := A_ (bb BK1850 hb)
            have n16_ := A_ (below_step (oB HB) hb)
            clear HO1795
            clear HO1799
            clear HO1804
            clear HO1809
            clear HO1813
            clear HO1818
            clear HO1824
            clear HO1828
            clear HO1833
            clear HO1839
            clear HO1843
            clear HO1848
            clear BK1805
            clear BK1820
            clear BK1835
            clear BK1850
            clear HB
            have HO1795 := n0_
            have HO1799 := n1_
            have HO1804 := n2_
            have HO1809 := n3_
            have HO1813 := n4_
            have HO1818 := n5_
            have HO1824 := n6_
            have HO1828 := n7_
            have HO1833 := n8_
            have HO1839 := n9_
            have HO1843 := n10_
            have HO1848 := n11_
            have BK1805 := n12_
            have BK1820 := n13_
            have BK1835 := n14_
            have BK1850 := n15_
            have HB := n16_
            clear n0_ n1_ n2_ n3_ n4_ n5_ n6_ n7_ n8_ n9_ n10_ n11_ n12_ n13_ n14_ n15_ n16_
            (try clear hb)
            (try clear hb2)
            (try clear hk)
            (try clear hi)
            refine hK.out _ _ ⟨cz BK1805 0, cz BK1805 1, cz BK1805 2, cz BK1805 3, cz BK1805 4, cz BK1805 5, cz BK1820 0, cz BK1820 1, cz BK1820 2, cz BK1820 3, cz BK1820 4, cz BK1820 5, cz BK1835 0, cz BK1835 1, cz BK1835 2, cz BK1835 3, cz BK1835 4, cz BK1835 5, cz BK1850 0, cz BK1850 1, cz BK1850 2, cz BK1850 3, cz BK1850 4, cz BK1850 5⟩ (fun hHeld => ?_)
            clear hK K
            refine norm_ (a' := ?_) ?_ ?_
            rotate_left
            ·show Act.put _ (some 47) _ = _
             simp only [Act.put, List.setIfInBounds_toArray, List.set_cons_zero, List.set_cons_succ, i64_w, i32_w]
             rfl
            refine pA 5 (some 48) HT_.out ?_
            refine pA 6 (some 49) HT_.out ?_
            refine pT 7 (some 50) HT_.out HW_.out hHeld ?_
            refine one_ (i := 8) (N := some 51) #[true, true, true, true, true, true, true, true, true, false, false, false, false, false, false, false, false, false, false, false, false, false, false, false, false, false, false, false, false, false, false, false, false, false, false, false, false, false, false, false, false, false, false, false, false, false, false, false, false, false, false, false, false, false, false, false, false, false] rfl rfl (one_of HT_.out (by kernel_rfl)) (by decide) (fun K hK => ?_)
            refine goes_ Try.func18 (by kernel_rfl) rfl #[.agg #[.slice Ao56 t1822.length co56, .int .i64 t1825, .slice Ao59 t1826.length co59, .int .i64 t1829, .int .i64 t1830, .slice Ao63 t1831.length co63]] (by rfl) rfl rfl (by (try simp only [List.map_toArray, List.map_cons, List.map_nil]); first | done | rfl | (simp only [List.length_drop, List.length_take]; rfl)) ?_
            with_reducible refine (impl_ShopOk.calls k _ _ t1822 t1825 _ _ t1826 t1829 t1830 _ _ t1831 true _ ?side1 ?side2 ?side3 ?side4 ?side5 ?side6 A16.out).mono ?_
            (case side1 => repeat (first | exact (Kd.R_reads' HO1824.out).2.2 | (with_reducible refine Kd.C_alloc ?_ _) | (with_reducible refine Kd.C_drewN ?_ _) | (with_reducible refine Kd.C_drew ?_)))
            (case side2 => exact (Kd.R_reads' HO1824.out).2.1)
            (case side3 => repeat (first | exact (Kd.R_reads' HO1828.out).2.2 | (with_reducible refine Kd.C_alloc ?_ _) | (with_reducible refine Kd.C_drewN ?_ _) | (with_reducible refine Kd.C_drew ?_)))
            (case side4 => exact (Kd.R_reads' HO1828.out).2.1)
            (case side5 => repeat (first | exact (Kd.R_reads' HO1833.out).2.2 | (with_reducible refine Kd.C_alloc ?_ _) | (with_reducible refine Kd.C_drewN ?_ _) | (with_reducible refine Kd.C_drew ?_)))
            (case side6 => exact (Kd.R_reads' HO1833.out).2.1)
            rintro e w87 ⟨rfl, hb⟩
            refine ⟨_, rfl, ?_⟩
            have n0_ := A_ (Kd.R_below (oR HO1795) hb)
            have n1_ := A_ (Kd.R_below (oR HO1799) hb)
            have n2_ := A_ (Kd.R_below (oR HO1804) hb)
            have n3_ := A_ (Kd.R_below (oR HO1809) hb)
            have n4_ := A_ (Kd.R_below (oR HO1813) hb)
            have n5_ := A_ (Kd.R_below (oR HO1818) hb)
            have n6_ := A_ (Kd.R_below (oR HO1824) hb)
            have n7_ := A_ (Kd.R_below (oR HO1828) hb)
            have n8_ := A_ (Kd.R_below (oR HO1833) hb)
            have n9_ := A_ (Kd.R_below (oR HO1839) hb)
            have n10_ := A_ (Kd.R_below (oR HO1843) hb)
            have n11_ := A_ (Kd.R_below (oR HO1848) hb)
            have n12_ := A_ (bb BK1805 hb)
            have n13_ := A_ (bb BK1820 hb)
            have n14_ := A_ (bb BK1835 hb)
            have n15_ := A_ (bb BK1850 hb)
            have n16_ := A_ (below_step (oB HB) hb)
            clear HO1795
            clear HO1799
            clear HO1804
            clear HO1809
            clear HO1813
            clear HO1818
            clear HO1824
            clear HO1828
            clear HO1833
            clear HO1839
            clear HO1843
            clear HO1848
            clear BK1805
            clear BK1820
            clear BK1835
            clear BK1850
            clear HB
            have HO1795 := n0_
            have HO1799 := n1_
            have HO1804 := n2_
            have HO1809 := n3_
            have HO1813 := n4_
            have HO1818 := n5_
            have HO1824 := n6_
            have HO1828 := n7_
            have HO1833 := n8_
            have HO1839 := n9_
            have HO1843 := n10_
            have HO1848 := n11_
            have BK1805 := n12_
            have BK1820 := n13_
            have BK1835 := n14_
            have BK1850 := n15_
            have HB := n16_
            clear n0_ n1_ n2_ n3_ n4_ n5_ n6_ n7_ n8_ n9_ n10_ n11_ n12_ n13_ n14_ n15_ n16_
            (try clear hb)
            (try clear hb2)
            (try clear hk)
            (try clear hi)
            refine hK.out _ _ ⟨cz BK1805 0, cz BK1805 1, cz BK1805 2, cz BK1805 3, cz BK1805 4, cz BK1805 5, cz BK1820 0, cz BK1820 1, cz BK1820 2, cz BK1820 3, cz BK1820 4, cz BK1820 5, cz BK1835 0, cz BK1835 1, cz BK1835 2, cz BK1835 3, cz BK1835 4, cz BK1835 5, cz BK1850 0, cz BK1850 1, cz BK1850 2, cz BK1850 3, cz BK1850 4, cz BK1850 5⟩ (fun hHeld => ?_)
            clear hK K
            refine norm_ (a' := ?_) ?_ ?_
            rotate_left
            ·show Act.put _ (some 51) _ = _
             simp only [Act.put, List.setIfInBounds_toArray, List.set_cons_zero, List.set_cons_succ, i64_w, i32_w]
             rfl
            refine pA 9 (some 52) HT_.out ?_
            refine pA 10 (some 53) HT_.out ?_
            refine pT 11 (some 54) HT_.out HW_.out hHeld ?_
            refine one_ (i := 12) (N := some 55) #[true, true, true, true, true, true, true, true, true, true, true, true, true, false, false, false, false, false, false, false, false, false, false, false, false, false, false, false, false, false, false, false, false, false, false, false, false, false, false, false, false, false, false, false, false, false, false, false, false, false, false, false, false, false, false, false, false, false] rfl rfl (one_of HT_.out (by kernel_rfl)) (by decide) (fun K hK => ?_)
            refine goes_ Try.func18 (by kernel_rfl) rfl #[.agg #[.slice Ao70 t1837.length co70, .int .i64 t1840, .slice Ao73 t1841.length co73, .int .i64 t1844, .int .i64 t1845, .slice Ao77 t1846.length co77]] (by rfl) rfl rfl (by (try simp only [List.map_toArray, List.map_cons, List.map_nil]); first | done | rfl | (simp only [List.length_drop, List.length_take]; rfl)) ?_
            with_reducible refine (impl_ShopOk.calls k _ _ t1837 t1840 _ _ t1841 t1844 t1845 _ _ t1846 true _ ?side1 ?side2 ?side3 ?side4 ?side5 ?side6 A18.out).mono ?_
            (case side1 => repeat (first | exact (Kd.R_reads' HO1839.out).2.2 | (with_reducible refine Kd.C_alloc ?_ _) | (with_reducible refine Kd.C_drewN ?_ _) | (with_reducible refine Kd.C_drew ?_)))
            (case side2 => exact (Kd.R_reads' HO1839.out).2.1)
            (case side3 => repeat (first | exact (Kd.R_reads' HO1843.out).2.2 | (with_reducible refine Kd.C_alloc ?_ _) | (with_reducible refine Kd.C_drewN ?_ _) | (with_reducible refine Kd.C_drew ?_)))
            (case side4 => exact (Kd.R_reads' HO1843.out).2.1)
            (case side5 => repeat (first | exact (Kd.R_reads' HO1848.out).2.2 | (with_reducible refine Kd.C_alloc ?_ _) | (with_reducible refine Kd.C_drewN ?_ _) | (with_reducible refine Kd.C_drew ?_)))
            (case side6 => exact (Kd.R_reads' HO1848.out).2.1)
            rintro e w88 ⟨rfl, hb⟩
            refine ⟨_, rfl, ?_⟩
            have n0_ := A_ (Kd.R_below (oR HO1795) hb)
            have n1_ := A_ (Kd.R_below (oR HO1799) hb)
            have n2_ := A_ (Kd.R_below (oR HO1804) hb)
            have n3_ := A_ (Kd.R_below (oR HO1809) hb)
            have n4_ := A_ (Kd.R_below (oR HO1813) hb)
            have n5_ := A_ (Kd.R_below (oR HO1818) hb)
            have n6_ := A_ (Kd.R_below (oR HO1824) hb)
            have n7_ := A_ (Kd.R_below (oR HO1828) hb)
            have n8_ := A_ (Kd.R_below (oR HO1833) hb)
            have n9_ := A_ (Kd.R_below (oR HO1839) hb)
            have n10_ := A_ (Kd.R_below (oR HO1843) hb)
            have n11_ := A_ (Kd.R_below (oR HO1848) hb)
            have n12_ := A_ (bb BK1805 hb)
            have n13_ := A_ (bb BK1820 hb)
            have n14_ := A_ (bb BK1835 hb)
            have n15_ := A_ (bb BK1850 hb)
            have n16_ := A_ (below_step (oB HB) hb)
            clear HO1795
            clear HO1799
            clear HO1804
            clear HO1809
            clear HO1813
            clear HO1818
            clear HO1824
            clear HO1828
            clear HO1833
            clear HO1839
            clear HO1843
            clear HO1848
            clear BK1805
            clear BK1820
            clear BK1835
            clear BK1850
            clear HB
            have HO1795 := n0_
            have HO1799 := n1_
            have HO1804 := n2_
            have HO1809 := n3_
            have HO1813 := n4_
            have HO1818 := n5_
            have HO1824 := n6_
            have HO1828 := n7_
            have HO1833 := n8_
            have HO1839 := n9_
            have HO1843 := n10_
            have HO1848 := n11_
            have BK1805 := n12_
            have BK1820 := n13_
            have BK1835 := n14_
            have BK1850 := n15_
            have HB := n16_
            clear n0_ n1_ n2_ n3_ n4_ n5_ n6_ n7_ n8_ n9_ n10_ n11_ n12_ n13_ n14_ n15_ n16_
            (try clear hb)
            (try clear hb2)
            (try clear hk)
            (try clear hi)
            refine hK.out _ _ ⟨cz BK1805 0, cz BK1805 1, cz BK1805 2, cz BK1805 3, cz BK1805 4, cz BK1805 5, cz BK1820 0, cz BK1820 1, cz BK1820 2, cz BK1820 3, cz BK1820 4, cz BK1820 5, cz BK1835 0, cz BK1835 1, cz BK1835 2, cz BK1835 3, cz BK1835 4, cz BK1835 5, cz BK1850 0, cz BK1850 1, cz BK1850 2, cz BK1850 3, cz BK1850 4, cz BK1850 5⟩ (fun hHeld => ?_)
            clear hK K
            refine norm_ (a' := ?_) ?_ ?_
            rotate_left
            ·show Act.put _ (some 55) _ = _
             simp only [Act.put, List.setIfInBounds_toArray, List.set_cons_zero, List.set_cons_succ, i64_w, i32_w]
             rfl
            refine pA 13 (some 56) HT_.out ?_
            refine pA 14 (some 57) HT_.out ?_
            refine pA 15 (some 58) HT_.out ?_
            refine pA 16 (some 59) HT_.out ?_
            refine pA 17 (some 60) HT_.out ?_
            refine pA 18 (some 61) HT_.out ?_
            refine pA 19 (some 62) HT_.out ?_
            refine pA 20 (some 63) HT_.out ?_
            refine pA 23 (some 66) HT_.out ?_
            refine pT 21 (some 64) HT_.out HW_.out hHeld ?_
            refine one_ (i := 22) (N := some 65) #[true, true, true, true, true, true, true, true, true, true, true, true, true, true, true, true, true, true, true, true, true, true, true, true, false, false, false, false, false, false, false, false, false, false, false, false, false, false, false, false, false, false, false, false, false, false, false, false, false, false, false, false, false, false, false, false, false, false] rfl rfl (one_of HT_.out (by kernel_rfl)) (by decide) (fun K hK => ?_)
            refine goes_ Try.func31 (by kernel_rfl) rfl #[.agg #[.slice Ao42 t1807.length co42, .int .i64 t1810, .slice Ao45 t1811.length co45, .int .i64 t1814, .int .i64 t1815, .slice Ao49 t1816.length co49]] (by rfl) rfl rfl (by (try simp only [List.map_toArray, List.map_cons, List.map_nil]); first | done | rfl | (simp only [List.length_drop, List.length_take]; rfl)) ?_
            with_reducible refine (impl_StepsLeft.calls k _ _ t1807 t1810 _ _ t1811 t1814 t1815 _ _ t1816 t1856 _ ?side1 ?side2 ?side3 ?side4 ?side5 ?side6 A22.out).mono ?_
            (case side1 => repeat (first | exact (Kd.R_reads' HO1809.out).2.2 | (with_reducible refine Kd.C_alloc ?_ _) | (with_reducible refine Kd.C_drewN ?_ _) | (with_reducible refine Kd.C_drew ?_)))
            (case side2 => exact (Kd.R_reads' HO1809.out).2.1)
            (case side3 => repeat (first | exact (Kd.R_reads' HO1813.out).2.2 | (with_reducible refine Kd.C_alloc ?_ _) | (with_reducible refine Kd.C_drewN ?_ _) | (with_reducible refine Kd.C_drew ?_)))
            (case side4 => exact (Kd.R_reads' HO1813.out).2.1)
            (case side5 => repeat (first | exact (Kd.R_reads' HO1818.out).2.2 | (with_reducible refine Kd.C_alloc ?_ _) | (with_reducible refine Kd.C_drewN ?_ _) | (with_reducible refine Kd.C_drew ?_)))
            (case side6 => exact (Kd.R_reads' HO1818.out).2.1)
            rintro e w89 ⟨rfl, hb⟩
            refine ⟨_, rfl, ?_⟩
            have n0_ := A_ (Kd.R_below (oR HO1795) hb)
            have n1_ := A_ (Kd.R_below (oR HO1799) hb)
            have n2_ := A_ (Kd.R_below (oR HO1804) hb)
            have n3_ := A_ (Kd.R_below (oR HO1809) hb)
            have n4_ := A_ (Kd.R_below (oR HO1813) hb)
            have n5_ := A_ (Kd.R_below (oR HO1818) hb)
            have n6_ := A_ (Kd.R_below (oR HO1824) hb)
            have n7_ := A_ (Kd.R_below (oR HO1828) hb)
            have n8_ := A_ (Kd.R_below (oR HO1833) hb)
            have n9_ := A_ (Kd.R_below (oR HO1839) hb)
            have n10_ := A_ (Kd.R_below (oR HO1843) hb)
            have n11_ := A_ (Kd.R_below (oR HO1848) hb)
            have n12_ := A_ (bb BK1805 hb)
            have n13_ := A_ (bb BK1820 hb)
            have n14_ := A_ (bb BK1835 hb)
            have n15_ := A_ (bb BK1850 hb)
            have n16_ := A_ (below_step (oB HB) hb)
            clear HO1795
            clear HO1799
            clear HO1804
            clear HO1809
            clear HO1813
            clear HO1818
            clear HO1824
            clear HO1828
            clear HO1833
            clear HO1839
            clear HO1843
            clear HO1848
            clear BK1805
            clear BK1820
            clear BK1835
            clear BK1850
            clear HB
            have HO1795 := n0_
            have HO1799 := n1_
            have HO1804 := n2_
            have HO1809 := n3_
            have HO1813 := n4_
            have HO1818 := n5_
            have HO1824 := n6_
            have HO1828 := n7_
            have HO1833 := n8_
            have HO1839 := n9_
            have HO1843 := n10_
            have HO1848 := n11_
            have BK1805 := n12_
            have BK1820 := n13_
            have BK1835 := n14_
            have BK1850 := n15_
            have HB := n16_
            clear n0_ n1_ n2_ n3_ n4_ n5_ n6_ n7_ n8_ n9_ n10_ n11_ n12_ n13_ n14_ n15_ n16_
            (try clear hb)
            (try clear hb2)
            (try clear hk)
            (try clear hi)
            refine hK.out _ _ ⟨cz BK1805 0, cz BK1805 1, cz BK1805 2, cz BK1805 3, cz BK1805 4, cz BK1805 5, cz BK1820 0, cz BK1820 1, cz BK1820 2, cz BK1820 3, cz BK1820 4, cz BK1820 5, cz BK1835 0, cz BK1835 1, cz BK1835 2, cz BK1835 3, cz BK1835 4, cz BK1835 5, cz BK1850 0, cz BK1850 1, cz BK1850 2, cz BK1850 3, cz BK1850 4, cz BK1850 5⟩ (fun hHeld => ?_)
            clear hK K
            refine norm_ (a' := ?_) ?_ ?_
            rotate_left
            ·show Act.put _ (some 65) _ = _
             simp only [Act.put, List.setIfInBounds_toArray, List.set_cons_zero, List.set_cons_succ, i64_w, i32_w]
             rfl
            refine pA 24 (some 67) HT_.out ?_
            refine pA 25 (some 68) HT_.out ?_
            refine pA 26 (some 69) HT_.out ?_
            refine pA 29 (some 72) HT_.out ?_
            refine pT 27 (some 70) HT_.out HW_.out hHeld ?_
            refine one_ (i := 28) (N := some 71) #[true, true, true, true, true, true, true, true, true, true, true, true, true, true, true, true, true, true, true, true, true, true, true, true, true, true, true, true, true, true, false, false, false, false, false, false, false, false, false, false, false, false, false, false, false, false, false, false, false, false, false, false, false, false, false, false, false, false] rfl rfl (one_of HT_.out (by kernel_rfl)) (by decide) (fun K hK => ?_)
            refine goes_ Try.func31 (by kernel_rfl) rfl #[.agg #[.slice Ao56 t1822.length co56, .int .i64 t1825, .slice Ao59 t1826.length co59, .int .i64 t1829, .int .i64 t1830, .slice Ao63 t1831.length co63]] (by rfl) rfl rfl (by (try simp only [List.map_toArray, List.map_cons, List.map_nil]); first | done | rfl | (simp only [List.length_drop, List.length_take]; rfl)) ?_
            with_reducible refine (impl_StepsLeft.calls k _ _ t1822 t1825 _ _ t1826 t1829 t1830 _ _ t1831 t1857 _ ?side1 ?side2 ?side3 ?side4 ?side5 ?side6 A24.out).mono ?_
            (case side1 => repeat (first | exact (Kd.R_reads' HO1824.out).2.2 | (with_reducible refine Kd.C_alloc ?_ _) | (with_reducible refine Kd.C_drewN ?_ _) | (with_reducible refine Kd.C_drew ?_)))
            (case side2 => exact (Kd.R_reads' HO1824.out).2.1)
            (case side3 => repeat (first | exact (Kd.R_reads' HO1828.out).2.2 | (with_reducible refine Kd.C_alloc ?_ _) | (with_reducible refine Kd.C_drewN ?_ _) | (with_reducible refine Kd.C_drew ?_)))
            (case side4 => exact (Kd.R_reads' HO1828.out).2.1)
            (case side5 => repeat (first | exact (Kd.R_reads' HO1833.out).2.2 | (with_reducible refine Kd.C_alloc ?_ _) | (with_reducible refine Kd.C_drewN ?_ _) | (with_reducible refine Kd.C_drew ?_)))
            (case side6 => exact (Kd.R_reads' HO1833.out).2.1)
            rintro e w90 ⟨rfl, hb⟩
            refine ⟨_, rfl, ?_⟩
            have n0_ := A_ (Kd.R_below (oR HO1795) hb)
            have n1_ := A_ (Kd.R_below (oR HO1799) hb)
            have n2_ := A_ (Kd.R_below (oR HO1804) hb)
            have n3_ := A_ (Kd.R_below (oR HO1809) hb)
            have n4_ := A_ (Kd.R_below (oR HO1813) hb)
            have n5_ := A_ (Kd.R_below (oR HO1818) hb)
            have n6_ := A_ (Kd.R_below (oR HO1824) hb)
            have n7_ := A_ (Kd.R_below (oR HO1828) hb)
            have n8_ := A_ (Kd.R_below (oR HO1833) hb)
            have n9_ := A_ (Kd.R_below (oR HO1839) hb)
            have n10_ := A_ (Kd.R_below (oR HO1843) hb)
            have n11_ := A_ (Kd.R_below (oR HO1848) hb)
            have n12_ := A_ (bb BK1805 hb)
            have n13_ := A_ (bb BK1820 hb)
            have n14_ := A_ (bb BK1835 hb)
            have n15_ := A_ (bb BK1850 hb)
            have n16_ := A_ (below_step (oB HB) hb)
            clear HO1795
            clear HO1799
            clear HO1804
            clear HO1809
            clear HO1813
            clear HO1818
            clear HO1824
            clear HO1828
            clear HO1833
            clear HO1839
            clear HO1843
            clear HO1848
            clear BK1805
            clear BK1820
            clear BK1835
            clear BK1850
            clear HB
            have HO1795 := n0_
            have HO1799 := n1_
            have HO1804 := n2_
            have HO1809 := n3_
            have HO1813 := n4_
            have HO1818 := n5_
            have HO1824 := n6_
            have HO1828 := n7_
            have HO1833 := n8_
            have HO1839 := n9_
            have HO1843 := n10_
            have HO1848 := n11_
            have BK1805 := n12_
            have BK1820 := n13_
            have BK1835 := n14_
            have BK1850 := n15_
            have HB := n16_
            clear n0_ n1_ n2_ n3_ n4_ n5_ n6_ n7_ n8_ n9_ n10_ n11_ n12_ n13_ n14_ n15_ n16_
            (try clear hb)
            (try clear hb2)
            (try clear hk)
            (try clear hi)
            refine hK.out _ _ ⟨cz BK1805 0, cz BK1805 1, cz BK1805 2, cz BK1805 3, cz BK1805 4, cz BK1805 5, cz BK1820 0, cz BK1820 1, cz BK1820 2, cz BK1820 3, cz BK1820 4, cz BK1820 5, cz BK1835 0, cz BK1835 1, cz BK1835 2, cz BK1835 3, cz BK1835 4, cz BK1835 5, cz BK1850 0, cz BK1850 1, cz BK1850 2, cz BK1850 3, cz BK1850 4, cz BK1850 5⟩ (fun hHeld => ?_)
            clear hK K
            refine norm_ (a' := ?_) ?_ ?_
            rotate_left
            ·show Act.put _ (some 71) _ = _
             simp only [Act.put, List.setIfInBounds_toArray, List.set_cons_zero, List.set_cons_succ, i64_w, i32_w]
             rfl
            refine pA 30 (some 73) HT_.out ?_
            refine pA 31 (some 74) HT_.out ?_
            refine pA 32 (some 75) HT_.out ?_
            refine pA 33 (some 76) HT_.out ?_
            refine pA 35 (some 78) HT_.out ?_
            refine pT 34 (some 77) HT_.out HW_.out hHeld ?_
            refine pT 36 (some 79) HT_.out HW_.out hHeld ?_
            refine pA 37 (some 80) HT_.out ?_
            refine pA 38 (some 81) HT_.out ?_
            refine pA 39 (some 82) HT_.out ?_
            refine pA 40 (some 83) HT_.out ?_
            refine pA 41 (some 84) HT_.out ?_
            refine pA 42 (some 85) HT_.out ?_
            refine pA 44 (some 87) HT_.out ?_
            refine pA 45 (some 88) HT_.out ?_
            refine pT 43 (some 86) HT_.out HW_.out hHeld ?_
            refine pT 46 (some 89) HT_.out HW_.out hHeld ?_
            refine one_ (i := 47) (N := some 90) #[true, true, true, true, true, true, true, true, true, true, true, true, true, true, true, true, true, true, true, true, true, true, true, true, true, true, true, true, true, true, true, true, true, true, true, true, true, true, true, true, true, true, true, true, true, true, true, true, false, false, false, false, false, false, false, false, false, false] rfl rfl (one_of HT_.out (by kernel_rfl)) (by decide) (fun K hK => ?_)
            refine goes_ Try.func46 (by kernel_rfl) rfl #[.slice Ao45 t1811.length co45, .slice Ao35 t1797.length co35] (by rfl) rfl rfl (by (try simp only [List.map_toArray, List.map_cons, List.map_nil]); first | done | rfl | (simp only [List.length_drop, List.length_take]; rfl)) ?_
            with_reducible refine (laws_sameInts.calls k _ _ t1811 _ _ t1797 true _ ?side1 ?side2 ?side3 ?side4 A27.out).mono ?_
            (case side1 => repeat (first | exact (Kd.R_reads' HO1813.out).2.2 | (with_reducible refine Kd.C_alloc ?_ _) | (with_reducible refine Kd.C_drewN ?_ _) | (with_reducible refine Kd.C_drew ?_)))
            (case side2 => exact (Kd.R_reads' HO1813.out).2.1)
            (case side3 => repeat (first | exact (Kd.R_reads' HO1799.out).2.2 | (with_reducible refine Kd.C_alloc ?_ _) | (with_reducible refine Kd.C_drewN ?_ _) | (with_reducible refine Kd.C_drew ?_)))
            (case side4 => exact (Kd.R_reads' HO1799.out).2.1)
            rintro e w' ⟨rfl, ⟨nd, rfl⟩⟩
            refine ⟨_, rfl, ?_⟩
            refine hK.out _ _ ⟨cz BK1805 0, cz BK1805 1, cz BK1805 2, cz BK1805 3, cz BK1805 4, cz BK1805 5, cz BK1820 0, cz BK1820 1, cz BK1820 2, cz BK1820 3, cz BK1820 4, cz BK1820 5, cz BK1835 0, cz BK1835 1, cz BK1835 2, cz BK1835 3, cz BK1835 4, cz BK1835 5, cz BK1850 0, cz BK1850 1, cz BK1850 2, cz BK1850 3, cz BK1850 4, cz BK1850 5⟩ (fun hHeld => ?_)
            clear hK K
            refine norm_ (a' := ?_) ?_ ?_
            rotate_left
            ·show Act.put _ (some 90) _ = _
             simp only [Act.put, List.setIfInBounds_toArray, List.set_cons_zero, List.set_cons_succ, i64_w, i32_w]
             rfl
            refine pA 48 (some 91) HT_.out ?_
            refine pA 49 (some 92) HT_.out ?_
            refine pA 51 (some 94) HT_.out ?_
            refine pT 50 (some 93) HT_.out HW_.out hHeld ?_
            refine one_ (i := 52) (N := some 95) #[true, true, true, true, true, true, true, true, true, true, true, true, true, true, true, true, true, true, true, true, true, true, true, true, true, true, true, true, true, true, true, true, true, true, true, true, true, true, true, true, true, true, true, true, true, true, true, true, true, true, true, true, true, false, false, false, false, false] rfl rfl (one_of HT_.out (by kernel_rfl)) (by decide) (fun K hK => ?_)
            refine goes_ Try.func45 (by kernel_rfl) rfl #[.slice A0 l0.length c0, .int .i64 1] (by rfl) rfl rfl (by (try simp only [List.map_toArray, List.map_cons, List.map_nil]); first | done | rfl | (simp only [List.length_drop, List.length_take]; rfl)) ?_
            with_reducible refine (laws_at.calls _ _ l0 1 t1859 _ ?side1 ?side2 A29.out).mono ?_
            (case side1 => repeat (first | exact (Kd.C_below HR0.out (oB HB)) | (with_reducible refine Kd.C_alloc ?_ _) | (with_reducible refine Kd.C_drewN ?_ _) | (with_reducible refine Kd.C_drew ?_)))
            (case side2 => exact HC0.out)
            rintro e w' ⟨rfl, ⟨nd, rfl⟩⟩
            refine ⟨_, rfl, ?_⟩
            refine hK.out _ _ ⟨cz BK1805 0, cz BK1805 1, cz BK1805 2, cz BK1805 3, cz BK1805 4, cz BK1805 5, cz BK1820 0, cz BK1820 1, cz BK1820 2, cz BK1820 3, cz BK1820 4, cz BK1820 5, cz BK1835 0, cz BK1835 1, cz BK1835 2, cz BK1835 3, cz BK1835 4, cz BK1835 5, cz BK1850 0, cz BK1850 1, cz BK1850 2, cz BK1850 3, cz BK1850 4, cz BK1850 5⟩ (fun hHeld => ?_)
            clear hK K
            refine norm_ (a' := ?_) ?_ ?_
            rotate_left
            ·show Act.put _ (some 95) _ = _
             simp only [Act.put, List.setIfInBounds_toArray, List.set_cons_zero, List.set_cons_succ, i64_w, i32_w]
             rfl
            refine pA 53 (some 96) HT_.out ?_
            refine one_ (i := 54) (N := some 97) #[true, true, true, true, true, true, true, true, true, true, true, true, true, true, true, true, true, true, true, true, true, true, true, true, true, true, true, true, true, true, true, true, true, true, true, true, true, true, true, true, true, true, true, true, true, true, true, true, true, true, true, true, true, true, true, false, false, false] rfl rfl (one_of HT_.out (by kernel_rfl)) (by decide) (fun K hK => ?_)
            refine goes_ Try.func21 (by kernel_rfl) rfl #[.agg #[.slice Ao56 t1822.length co56, .int .i64 t1825, .slice Ao59 t1826.length co59, .int .i64 t1829, .int .i64 t1830, .slice Ao63 t1831.length co63], .int .i64 (Int.tmod t1859 40)] (by rfl) rfl rfl (by (try simp only [List.map_toArray, List.map_cons, List.map_nil]); first | done | rfl | (simp only [List.length_drop, List.length_take]; rfl)) ?_
            with_reducible refine (impl_HeardAt.calls k _ _ t1822 t1825 _ _ t1826 t1829 t1830 _ _ t1831 (Int.tmod t1859 40) t1860 _ ?side1 ?side2 ?side3 ?side4 ?side5 ?side6 A30.out).mono ?_
            (case side1 => repeat (first | exact (Kd.R_reads' HO1824.out).2.2 | (with_reducible refine Kd.C_alloc ?_ _) | (with_reducible refine Kd.C_drewN ?_ _) | (with_reducible refine Kd.C_drew ?_)))
            (case side2 => exact (Kd.R_reads' HO1824.out).2.1)
            (case side3 => repeat (first | exact (Kd.R_reads' HO1828.out).2.2 | (with_reducible refine Kd.C_alloc ?_ _) | (with_reducible refine Kd.C_drewN ?_ _) | (with_reducible refine Kd.C_drew ?_)))
            (case side4 => exact (Kd.R_reads' HO1828.out).2.1)
            (case side5 => repeat (first | exact (Kd.R_reads' HO1833.out).2.2 | (with_reducible refine Kd.C_alloc ?_ _) | (with_reducible refine Kd.C_drewN ?_ _) | (with_reducible refine Kd.C_drew ?_)))
            (case side6 => exact (Kd.R_reads' HO1833.out).2.1)
            rintro e w91 ⟨rfl, hb⟩
            refine ⟨_, rfl, ?_⟩
            have n0_ := A_ (Kd.R_below (oR HO1795) hb)
            have n1_ := A_ (Kd.R_below (oR HO1799) hb)
            have n2_ := A_ (Kd.R_below (oR HO1804) hb)
            have n3_ := A_ (Kd.R_below (oR HO1809) hb)
            have n4_ := A_ (Kd.R_below (oR HO1813) hb)
            have n5_ := A_ (Kd.R_below (oR HO1818) hb)
            have n6_ := A_ (Kd.R_below (oR HO1824) hb)
            have n7_ := A_ (Kd.R_below (oR HO1828) hb)
            have n8_ := A_ (Kd.R_below (oR HO1833) hb)
            have n9_ := A_ (Kd.R_below (oR HO1839) hb)
            have n10_ := A_ (Kd.R_below (oR HO1843) hb)
            have n11_ := A_ (Kd.R_below (oR HO1848) hb)
            have n12_ := A_ (bb BK1805 hb)
            have n13_ := A_ (bb BK1820 hb)
            have n14_ := A_ (bb BK1835 hb)
            have n15_ := A_ (bb BK1850 hb)
            have n16_ := A_ (below_step (oB HB) hb)
            clear HO1795
            clear HO1799
            clear HO1804
            clear HO1809
            clear HO1813
            clear HO1818
            clear HO1824
            clear HO1828
            clear HO1833
            clear HO1839
            clear HO1843
            clear HO1848
            clear BK1805
            clear BK1820
            clear BK1835
            clear BK1850
            clear HB
            have HO1795 := n0_
            have HO1799 := n1_
            have HO1804 := n2_
            have HO1809 := n3_
            have HO1813 := n4_
            have HO1818 := n5_
            have HO1824 := n6_
            have HO1828 := n7_
            have HO1833 := n8_
            have HO1839 := n9_
            have HO1843 := n10_
            have HO1848 := n11_
            have BK1805 := n12_
            have BK1820 := n13_
            have BK1835 := n14_
            have BK1850 := n15_
            have HB := n16_
            clear n0_ n1_ n2_ n3_ n4_ n5_ n6_ n7_ n8_ n9_ n10_ n11_ n12_ n13_ n14_ n15_ n16_
            (try clear hb)
            (try clear hb2)
            (try clear hk)
            (try clear hi)
            refine hK.out _ _ ⟨cz BK1805 0, cz BK1805 1, cz BK1805 2, cz BK1805 3, cz BK1805 4, cz BK1805 5, cz BK1820 0, cz BK1820 1, cz BK1820 2, cz BK1820 3, cz BK1820 4, cz BK1820 5, cz BK1835 0, cz BK1835 1, cz BK1835 2, cz BK1835 3, cz BK1835 4, cz BK1835 5, cz BK1850 0, cz BK1850 1, cz BK1850 2, cz BK1850 3, cz BK1850 4, cz BK1850 5⟩ (fun hHeld => ?_)
            clear hK K
            refine norm_ (a' := ?_) ?_ ?_
            rotate_left
            ·show Act.put _ (some 97) _ = _
             simp only [Act.put, List.setIfInBounds_toArray, List.set_cons_zero, List.set_cons_succ, i64_w, i32_w]
             rfl
            refine pA 55 (some 98) HT_.out ?_
            refine pA 56 (some 99) HT_.out ?_
            refine pA 57 (some 2) HT_.out ?_
            refine done_ (done_of HT_.out (by kernel_rfl)) ?_
            try go_wp2
            go_ret
            exact ⟨eR, oB HB⟩
           ·replace c28 := Bool.eq_false_iff.mpr c28
            subst c28
            rw [if_neg (show ¬ (false = true) by decide)] at H
            exact absurd ((Option.some.inj H).trans hrt_.out) (by decide)
          ·rw [if_neg c26] at H
           have c26b0 : (t1815 == (wrap64 (t1801 + 1))) = false := beq_eq_false_iff_ne.mpr c26
           have c26b1 : (t1815 != (wrap64 (t1801 + 1))) = true := bne_iff_ne.mpr c26
           exact absurd ((Option.some.inj H).trans hrt_.out) (by decide)
         ·rw [if_neg c25] at H
          have c25b0 : (t1857 == t1851) = false := beq_eq_false_iff_ne.mpr c25
          have c25b1 : (t1857 != t1851) = true := bne_iff_ne.mpr c25
          exact absurd ((Option.some.inj H).trans hrt_.out) (by decide)
        ·rw [if_neg c23] at H
         have c23b0 : (t1856 == t1851) = false := beq_eq_false_iff_ne.mpr c23
         have c23b1 : (t1856 != t1851) = true := bne_iff_ne.mpr c23
         exact absurd ((Option.some.inj H).trans hrt_.out) (by decide)
       ·replace c21 := Bool.eq_false_iff.mpr c21
        subst c21
        rw [if_neg (show ¬ (false = true) by decide)] at H
        exact absurd ((Option.some.inj H).trans hrt_.out) (by decide)
      ·replace c20 := Bool.eq_false_iff.mpr c20
       subst c20
       rw [if_neg (show ¬ (false = true) by decide)] at H
       exact absurd ((Option.some.inj H).trans hrt_.out) (by decide)
     ·replace c19 := Bool.eq_false_iff.mpr c19
      subst c19
      rw [if_neg (show ¬ (false = true) by decide)] at H
      exact absurd ((Option.some.inj H).trans hrt_.out) (by decide)
    ·replace c17 := Bool.eq_false_iff.mpr c17
     subst c17
     rw [if_neg (show ¬ (false = true) by decide)] at H
     exact absurd ((Option.some.inj H).trans hrt_.out) (by decide)
   ·replace c15 := Bool.eq_false_iff.mpr c15
    subst c15
    rw [if_neg (show ¬ (false = true) by decide)] at H
    exact absurd ((Option.some.inj H).trans hrt_.out) (by decide)
  ·replace c13 := Bool.eq_false_iff.mpr c13
   subst c13
   rw [if_neg (show ¬ (false = true) by decide)] at H
   exact absurd ((Option.some.inj H).trans hrt_.out) (by decide)
def laws_FnShops.Pure : Prop := ∀ (l0 : List Int), l0.length ≤ maxLen → l0.length * 1 ≤ 140737488351232 → (∀ x ∈ l0, (Lit.int .u8 x).wf = true) → ∃ k, laws_FnShops.f k l0 = some true
theorem laws_FnShops.walk (P : laws_FnShops.Pure) (a0 : Option Addr) (len0 cap0 : Nat) (z0 : List Int) (w : World) (w0 : (a0 = none ∧ len0 = 0 ∧ cap0 = 0 ∧ z0 = []) ∨ ∃ x, a0 = some x ∧ len0 ≤ cap0 ∧ cap0 ≤ maxLen ∧ z0.length = cap0 ∧ (∀ i, i < z0.length → w.cell? (x.add i) = some (.int .u8 (z0.getD i 0))) ∧ ∀ n ∈ z0, (Lit.int .u8 n).wf = true) (y0 : len0 * 1 ≤ 140737488351232) :
  Calls Try.prog 12 #[.slice a0 len0 cap0] w fun e w' => e = .returned (.bool true) ∧ Below w.heap.size w w' := by
 obtain ⟨l0, rfl, hr0, hm0, hw0, hc0⟩ := ReadsInt.ofRowC w0
 obtain ⟨k, h⟩ := P l0 hm0 y0 hw0
 refine (laws_FnShops.calls k _ _ l0 true w (Kd.C_of_reads (d := (0 : Int)) (h1 := fun _ => rfl) hr0) hc0 h ⟨rfl⟩).mono ?_
 rintro e w' ⟨rfl, hd⟩
 exact ⟨rfl, hd⟩
end Go.Proofs.Ytbkkpllejgedcaa.P


namespace Go.Proofs.Ytbkkpllejgedcaa.Q
set_option linter.unusedVariables false
set_option linter.unusedSimpArgs false
open Go.RowKit Go.Proofs.Ytbkkpllejgedcaa.P Go.Proofs.YtbkkpllejgedcaaW.PrintWords Go.Proofs.YtbkkpllejgedcaaW.PrintMore
def fine (n : Int) : Bool := decide (1 ≤ n ∧ n ≤ 10000000)
theorem pitch_eq (n : Int) : spec_l18Pitch.f n = some (fine n) := by unfold spec_l18Pitch.f; rw [l01In_eq]; rfl
theorem isFine_eq (n : Int) : impl_isFine.f n = some (fine n) := by unfold impl_isFine.f; rw [within_eq]; rfl
end Go.Proofs.Ytbkkpllejgedcaa.Q


namespace Go.Proofs.Ytbkkpllejgedcaa.Q
set_option linter.unusedVariables false
set_option linter.unusedSimpArgs false
open Go.RowKit Go.Proofs.Ytbkkpllejgedcaa.P Go.Proofs.YtbkkpllejgedcaaW.PrintWords Go.Proofs.YtbkkpllejgedcaaW.PrintMore
def orZero (n : Int) : Int := if fine n = true then n else 0
def tunedPitch (a k b : Int) : Int :=
  if fine a = true then
    if 0 ≤ b ∧ b ≤ 100000 then
      if k = 1 then orZero (wrap64 (Int.tdiv (mx (wrap64 ((wrap64 (3 * a)) - b)) 0) 2))
      else if k = 2 then orZero (wrap64 (Int.tdiv (mx (wrap64 ((wrap64 (3 * a)) - b)) 0) 4))
      else if k = 3 then if b = 0 then orZero (wrap64 (2 * a)) else 0
      else if k = 4 then if b = 0 then orZero (wrap64 (Int.tdiv a 2)) else 0
      else 0
    else 0
  else 0
theorem mx_comm (a b : Int) : mx a b = mx b a := by unfold mx; split <;> split <;> omega
theorem evz {n : Int} {x : Option Bool} (h : x = some (fine n)) : Ev (fun _ => x.bind fun t => if t = true then some n else some 0) (orZero n) := by
  subst h; simp only [Option.bind_some]; unfold orZero; by_cases h : fine n = true
  · rw [if_pos h, if_pos h]; exact Ev.now _
  · rw [if_neg h, if_neg h]; exact Ev.now _
theorem tuned_impl (a k b : Int) : Ev (fun n => impl_TunedPitch.f n a k b) (tunedPitch a k b) := by
  have jt : Ev (fun n => impl_TunedPitch.j0 n a k b true) 0 := Ev.step (fun n => by rw [impl_TunedPitch.j0]) (evp rfl (Ev.now _))
  unfold impl_TunedPitch.f
  refine evb (isFine_eq a) ?_
  unfold tunedPitch
  by_cases ha : fine a = true
  rotate_left
  · exact rneg ha <| evn ha jt
  refine rpos ha <| evp ha (evb (within_eq _ _ _) ?_)
  by_cases hb : 0 ≤ b ∧ b ≤ 100000
  rotate_left
  · exact rneg hb <| evn (by simpa using hb) jt
  refine rpos hb <| evp (by simpa using hb) ?_
  have jf : (k = 3 ∨ k = 4 → b = 0) → Ev (fun n => impl_TunedPitch.j0 n a k b false) (if k = 1 then orZero (wrap64 (Int.tdiv (mx (wrap64 ((wrap64 (3 * a)) - b)) 0) 2))
      else if k = 2 then orZero (wrap64 (Int.tdiv (mx (wrap64 ((wrap64 (3 * a)) - b)) 0) 4))
      else if k = 3 then if b = 0 then orZero (wrap64 (2 * a)) else 0
      else if k = 4 then if b = 0 then orZero (wrap64 (Int.tdiv a 2)) else 0
      else 0) := by
    intro h0
    refine Ev.step (fun n => by rw [impl_TunedPitch.j0]) (evn (by decide) ?_)
    by_cases h1 : k = 1
    · exact rpos h1 <| evp h1 (evz (isFine_eq _))
    refine rneg h1 <| evn h1 ?_
    by_cases h2 : k = 2
    · exact rpos h2 <| evp h2 (evz (isFine_eq _))
    refine rneg h2 <| evn h2 ?_
    by_cases h3 : k = 3
    · exact rpos h3 <| rpos (h0 (.inl h3)) <| evp h3 (evz (isFine_eq _))
    refine rneg h3 <| evn h3 ?_
    by_cases h4 : k = 4
    · exact rpos h4 <| rpos (h0 (.inr h4)) <| evp h4 (evz (isFine_eq _))
    refine rneg h4 <| evn h4 ?_
    refine evb (isFine_eq _) (evn (by decide) (Ev.now _))
  by_cases b0 : b = 0
  · exact evp b0 (jf fun _ => b0)
  refine evn b0 ?_
  by_cases h3 : k = 3
  · refine evp h3 ?_
    exact rneg (by omega) <| rneg (by omega) <| rpos h3 <| rneg b0 jt
  refine evn h3 ?_
  by_cases h4 : k = 4
  · rw [show (k == 4) = true by simp [h4]]; exact rneg (by omega) <| rneg (by omega) <| rneg (by omega) <| rpos h4 <| rneg b0 jt
  · rw [show (k == 4) = false by simp [h4]]; exact jf (by omega)
theorem tuned_spec (a k b : Int) : Ev (fun n => spec_TunedPitch.f n a k b) (tunedPitch a k b) := by
  have jt : Ev (fun n => spec_TunedPitch.j0 n a k b true) 0 := Ev.step (fun n => by rw [spec_TunedPitch.j0]) (evp rfl (Ev.now _))
  unfold spec_TunedPitch.f
  refine evb (pitch_eq a) ?_
  unfold tunedPitch
  by_cases ha : fine a = true
  rotate_left
  · exact rneg ha <| evn ha jt
  refine rpos ha <| evp ha (evb (l01In_eq _ _ _) ?_)
  by_cases hb : 0 ≤ b ∧ b ≤ 100000
  rotate_left
  · rw [show (!decide (0 ≤ b ∧ b ≤ 100000)) = true by rw [decide_eq_false hb]; rfl]; exact rneg hb jt
  rw [show (!decide (0 ≤ b ∧ b ≤ 100000)) = false by rw [decide_eq_true hb]; rfl]
  refine rpos hb ?_
  have j2t : Ev (fun n => spec_TunedPitch.j2 n a 0 true) (orZero (wrap64 (Int.tdiv a 2))) := Ev.step (fun n => by rw [spec_TunedPitch.j2]) (evp rfl (evz (pitch_eq _)))
  have j2f : Ev (fun n => spec_TunedPitch.j2 n a 0 false) 0 := Ev.step (fun n => by rw [spec_TunedPitch.j2]) (evn (by decide) (evz (pitch_eq 0)))
  refine Ev.step (fun n => by rw [spec_TunedPitch.j0]) (evn (by decide) ?_)
  by_cases h1 : k = 1
  · rw [mx_comm 0]; exact rpos h1 <| evp h1 (evz (pitch_eq _))
  refine rneg h1 <| evn h1 ?_
  by_cases h2 : k = 2
  · rw [mx_comm 0]; exact rpos h2 <| evp h2 (evz (pitch_eq _))
  refine rneg h2 <| evn h2 ?_
  have j1f : Ev (fun n => spec_TunedPitch.j1 n a k b 0 false) (if k = 4 then if b = 0 then orZero (wrap64 (Int.tdiv a 2)) else 0 else 0) := by
    refine Ev.step (fun n => by rw [spec_TunedPitch.j1]) (evn (by decide) ?_)
    by_cases h4 : k = 4
    · refine rpos h4 <| evp h4 ?_
      by_cases b0 : b = 0
      · rw [show (b == 0) = true by simp [b0]]; exact rpos b0 j2t
      · rw [show (b == 0) = false by simp [b0]]; exact rneg b0 j2f
    · exact rneg h4 <| evn h4 j2f
  by_cases h3 : k = 3
  · refine rpos h3 <| evp h3 ?_
    by_cases b0 : b = 0
    · rw [show (b == 0) = true by simp [b0]]
      exact rpos b0 <| Ev.step (fun n => by rw [spec_TunedPitch.j1]) (evp rfl (evz (pitch_eq _)))
    · rw [show (b == 0) = false by simp [b0]]
      rw [if_neg (by omega)] at j1f
      exact rneg b0 j1f
  exact rneg h3 <| evn h3 j1f
end Go.Proofs.Ytbkkpllejgedcaa.Q


namespace Go.Proofs.Ytbkkpllejgedcaa.Q
set_option linter.unusedVariables false
set_option linter.unusedSimpArgs false
open Go.RowKit Go.Proofs.Ytbkkpllejgedcaa.P Go.Proofs.YtbkkpllejgedcaaW.PrintWords Go.Proofs.YtbkkpllejgedcaaW.PrintMore
theorem rdS (l : List S96) (i : Nat) (h : i < l.length) : rd_T96 l (i : Int) = l[i] := by
  unfold rd_T96; simp [List.getD_eq_getElem?_getD, h]
end Go.Proofs.Ytbkkpllejgedcaa.Q


namespace Go.Proofs.Ytbkkpllejgedcaa.Q
set_option linter.unusedVariables false
set_option linter.unusedSimpArgs false
open Go.RowKit Go.Proofs.Ytbkkpllejgedcaa.P Go.Proofs.YtbkkpllejgedcaaW.PrintWords Go.Proofs.YtbkkpllejgedcaaW.PrintMore
theorem planGoS_eq (l : List S96) (t : List Bool) : planGoS l t = planGo l t := by
  induction l generalizing t with
  | nil => rfl
  | cons x r ih => simp only [planGoS, planGo, ih]; rfl
theorem planSpec_eq (l : List S96) : spec_PlanOk.f l = some (planOk l) := by
  show some (planOkS l) = some (planOk l)
  unfold planOkS planOk
  rw [planGoS_eq, Bool.and_comm]; rfl
def inKeys (x : S96) : Prop := 0 ≤ x.f0 ∧ x.f0 ≤ 11 ∧ 0 ≤ x.f1 ∧ x.f1 ≤ 11 ∧ x.f1 = (x.f0 + 1) % 12
theorem stepOk_in {x : S96} {t : List Bool} (h : stepOk x t = true) : inKeys x := by
  simp [stepOk] at h; unfold inKeys; omega
theorem planGo_in {l : List S96} {t : List Bool} (h : planGo l t = true) : ∀ x ∈ l, inKeys x := by
  induction l generalizing t with
  | nil => simp
  | cons y r ih =>
    simp only [planGo, Bool.and_eq_true] at h
    intro x hx
    rcases List.mem_cons.1 hx with rfl | hx
    · exact stepOk_in h.1
    · exact ih h.2 x hx
theorem planOk_in {l : List S96} (h : planOk l = true) : ∀ x ∈ l, inKeys x := by
  simp only [planOk, Bool.and_eq_true] at h; exact planGo_in h.2
theorem planOk_len {l : List S96} (h : planOk l = true) : l.length ≤ 11 := by
  simp only [planOk, Bool.and_eq_true, decide_eq_true_eq] at h; exact h.1
theorem rd_get (l : List Int) (i : Int) : rd l i = l.getD i.toNat 0 := rfl
end Go.Proofs.Ytbkkpllejgedcaa.Q


namespace Go.Proofs.Ytbkkpllejgedcaa.Q
set_option linter.unusedVariables false
set_option linter.unusedSimpArgs false
open Go.RowKit Go.Proofs.Ytbkkpllejgedcaa.P Go.Proofs.YtbkkpllejgedcaaW.PrintWords Go.Proofs.YtbkkpllejgedcaaW.PrintMore
def runGo : List S96 → List Int → List Int × Bool
  | [], o => (o, true)
  | x :: r, o => if tunedPitch (o.getD x.f0.toNat 0) x.f2 x.f3 = 0 then ([], false) else runGo r (o.set x.f1.toNat (tunedPitch (o.getD x.f0.toNat 0) x.f2 x.f3))
def begun (a : Int) : List Int := a :: List.replicate 11 0
def runPlan (a : Int) (l : List S96) : List Int × Bool := if planOk l = true ∧ fine a = true then runGo l (begun a) else ([], false)
theorem runPlan_spec (a : Int) (l : List S96) : Ev (fun n => spec_RunPlan.f n a l) (runPlan a l) := by
  have jt : Ev (fun n => spec_RunPlan.j0 n a l true) ([], false) := Ev.step (fun n => by rw [spec_RunPlan.j0]) (evp rfl (Ev.now _))
  unfold spec_RunPlan.f runPlan
  refine evb (planSpec_eq l) ?_
  by_cases hp : planOk l = true
  rotate_left
  · exact rneg (fun h => hp h.1) <| evn hp jt
  refine evp hp (evb (pitch_eq a) ?_)
  by_cases ha : fine a = true
  rotate_left
  · rw [show (!fine a) = true by simpa using ha]; exact rneg (fun h => ha h.2) jt
  rw [show (!fine a) = false by simpa using ha]
  refine rpos ⟨hp, ha⟩ ?_
  have hl := planOk_len hp
  have hin := planOk_in hp
  have key : ∀ i, i ≤ l.length → ∀ o : List Int, o.length = 12 → Ev (fun n => spec_RunPlan.l0 n l o (i : Int)) (runGo (l.drop i) o) := by
    refine down (n := l.length) ?_ ?_
    · intro o ho
      refine Ev.step (fun n => by rw [spec_RunPlan.l0]) (evn (by omega) (evs ?_))
      rw [drop_end]; rfl
    · intro i hi ih o ho
      obtain ⟨k0, k1, k2, k3, k4⟩ := hin l[i] (List.getElem_mem hi)
      refine Ev.step (fun n => by rw [spec_RunPlan.l0]) ?_
      refine evp (by omega) (evp (by omega) ?_)
      rw [rdS l i hi, drop_cons l i hi, runGo]
      refine evp k0 (evp (by omega) (Ev.bind (tuned_spec _ _ _) ?_))
      rw [rd_get]
      by_cases hz : tunedPitch (o.getD l[i].f0.toNat 0) l[i].f2 l[i].f3 = 0
      · exact rpos hz <| evp hz (Ev.now _)
      refine rneg hz <| evn hz (evp k2 (evp (by omega) ?_))
      rw [w64 (by omega) (by omega)]
      exact ih _ (by simpa using ho)
  refine Ev.step (fun n => by rw [spec_RunPlan.j0]) ?_
  refine evn (by decide) (evp (by decide) ?_)
  simp only [Option.bind_some]
  refine evp (by simp) ?_
  exact key 0 (Nat.zero_le _) _ (by simp)
end Go.Proofs.Ytbkkpllejgedcaa.Q


namespace Go.Proofs.Ytbkkpllejgedcaa.Q
set_option linter.unusedVariables false
set_option linter.unusedSimpArgs false
open Go.RowKit Go.Proofs.Ytbkkpllejgedcaa.P Go.Proofs.YtbkkpllejgedcaaW.PrintWords Go.Proofs.YtbkkpllejgedcaaW.PrintMore
def stepTo (c : Int) : List S96 → Nat → Int
  | [], _ => -1
  | x :: r, j => if x.f1 = c then (j : Int) else stepTo c r (j + 1)
theorem stepTo_ev (l : List S96) (c : Int) (hl : l.length ≤ 4000000) : Ev (fun n => spec_l20Step.f n l c) (stepTo c l 0) := by
  have key : ∀ i, i ≤ l.length → Ev (fun n => spec_l20Step.l0 n l c (i : Int)) (stepTo c (l.drop i) i) := by
    refine down (n := l.length) ?_ ?_
    · refine Ev.step (fun n => by rw [spec_l20Step.l0]) (evn (by omega) (evs ?_))
      rw [drop_end]; rfl
    · intro i hi ih
      refine Ev.step (fun n => by rw [spec_l20Step.l0]) ?_
      refine evp (by omega) (evp (by omega) ?_)
      rw [rdS l i hi, drop_cons l i hi, stepTo]
      by_cases h : l[i].f1 = c
      · exact rpos h <| evp h (Ev.now _)
      · refine rneg h <| evn h ?_
        rw [w64 (by omega) (by omega)]
        exact ih
  exact key 0 (Nat.zero_le _)
theorem stepTo_lt (c : Int) (l : List S96) (j d : Nat) : (0 ≤ stepTo c l j ∧ stepTo c l j < ((j + d : Nat) : Int)) ↔ ∃ x ∈ l.take d, x.f1 = c := by
  induction l generalizing j d with
  | nil => simp [stepTo]
  | cons x r ih =>
    unfold stepTo
    cases d with
    | zero =>
      simp only [List.take_zero, List.not_mem_nil, false_and, exists_false, iff_false]
      by_cases h : x.f1 = c
      · rw [if_pos h]; omega
      · rw [if_neg h]
        have := ih (j + 1) 0
        simp at this
        have h1 := this
        intro h2
        have : ∀ (l : List S96) (j : Nat), stepTo c l j = -1 ∨ (j : Int) ≤ stepTo c l j := by
          intro l
          induction l with
          | nil => intro j; exact .inl rfl
          | cons y s ih2 =>
            intro j; unfold stepTo; split
            · exact .inr (Int.le_refl _)
            · rcases ih2 (j + 1) with h | h
              · exact .inl h
              · exact .inr (by omega)
        rcases this r (j + 1) with h3 | h3 <;> omega
    | succ d =>
      rw [List.take_succ_cons]
      by_cases h : x.f1 = c
      · rw [if_pos h]
        exact ⟨fun _ => ⟨x, List.mem_cons_self, h⟩, fun _ => ⟨by omega, by omega⟩⟩
      · rw [if_neg h]
        have := ih (j + 1) d
        rw [show j + 1 + d = j + (d + 1) by omega] at this
        rw [this]
        constructor
        · rintro ⟨y, hy, e⟩; exact ⟨y, List.mem_cons_of_mem _ hy, e⟩
        · rintro ⟨y, hy, e⟩
          rcases List.mem_cons.1 hy with rfl | hy
          · exact absurd e h
          · exact ⟨y, hy, e⟩
theorem tunedBy_len (l : List S96) (t : List Bool) : (P.tunedBy l t).length = t.length := by
  unfold P.tunedBy
  induction l generalizing t with
  | nil => rfl
  | cons x r ih => rw [List.foldl_cons, ih, List.length_set]
theorem tunedBy_get (l : List S96) (t : List Bool) (hin : ∀ x ∈ l, 0 ≤ x.f1) (c : Nat) (hc : c < t.length) : (P.tunedBy l t)[c]? = some (t[c] || l.any (fun x => decide (x.f1 = (c : Int)))) := by
  unfold P.tunedBy
  induction l generalizing t with
  | nil => simp [hc]
  | cons x r ih =>
    rw [List.foldl_cons, ih _ (fun y hy => hin y (List.mem_cons_of_mem _ hy)) (by simpa using hc)]
    have := hin x List.mem_cons_self
    simp only [List.any_cons, List.getElem_set]
    by_cases h : x.f1 = (c : Int)
    · rw [if_pos (by omega)]; simp [h]
    · rw [if_neg (by omega)]; simp [h]
theorem workOk_spec (p : List S96) (d : Int) (q : List Int) : Ev (fun n => spec_WorkOk.f n p d q) (workOk p d q) := by
  have jt : Ev (fun n => spec_WorkOk.j0 n true p d q) false := Ev.step (fun n => by rw [spec_WorkOk.j0]) (evp rfl (Ev.now _))
  unfold spec_WorkOk.f workOk
  refine evb (planSpec_eq p) ?_
  by_cases hp : planOk p = true
  rotate_left
  · rw [show planOk p = false by simpa using hp, Bool.false_and]; exact evn (by simp) jt
  refine evp hp (evb (l01In_eq _ _ _) ?_)
  rw [hp, Bool.true_and]
  by_cases hd : 0 ≤ d ∧ d ≤ (p.length : Int)
  rotate_left
  · rw [decide_eq_false hd, Bool.false_and]; exact evn (by simp) jt
  rw [decide_eq_true hd, Bool.true_and]
  refine evp rfl ?_
  by_cases hq : q.length = 12
  rotate_left
  · rw [decide_eq_false hq, Bool.false_and, show ((q.length : Int) != 12) = true by simpa using (show ¬ (q.length : Int) = 12 by omega)]; exact jt
  rw [decide_eq_true hq, Bool.true_and, show ((q.length : Int) != 12) = false by simpa using (show (q.length : Int) = 12 by omega)]
  have hl := planOk_len hp
  have hin := planOk_in hp
  obtain ⟨T, hT⟩ : ∃ T, P.tunedBy (p.take d.toNat) tuned0 = T := ⟨_, rfl⟩
  have hTl : T.length = 12 := by rw [← hT, tunedBy_len]; rfl
  have hTi : ∀ c : Nat, (hc : c < T.length) → T[c] = (decide (c = 0) || decide (0 ≤ stepTo (c : Int) p 0 ∧ stepTo (c : Int) p 0 < d)) := by
    intro c hc
    have h1 := tunedBy_get (p.take d.toNat) tuned0 (fun x hx => (hin x (List.mem_of_mem_take hx)).2.2.1) c (show c < 12 by omega)
    rw [hT, List.getElem?_eq_getElem hc] at h1
    rw [Option.some.inj h1]
    congr 1
    · have : ∀ c, (h : c < tuned0.length) → tuned0[c] = decide (c = 0) := by decide
      exact this c _
    · have h2 := stepTo_lt (c : Int) p 0 d.toNat
      rw [Nat.zero_add, Int.toNat_of_nonneg hd.1] at h2
      rw [Bool.eq_iff_iff, decide_eq_true_iff, h2]
      simp
  rw [hT]
  have key : ∀ i : Nat, i ≤ 12 → Ev (fun n => spec_WorkOk.l0 n (i : Int) p d q) (keyGo (T.drop i) (q.drop i)) := by
    refine down (n := 12) ?_ ?_
    · refine Ev.step (fun n => by rw [spec_WorkOk.l0]) (evn (by omega) (evs ?_))
      rw [List.drop_eq_nil_of_le (by omega)]; rfl
    · intro i hi ih
      refine Ev.step (fun n => by rw [spec_WorkOk.l0]) ?_
      refine evp (by omega) (Ev.bind (stepTo_ev p _ (by omega)) ?_)
      rw [rd_nat q i (by omega), drop_cons T i (by omega), drop_cons q i (by omega), keyGo, hTi i (by omega), w64 (n := (i : Int) + 1) (by omega) (by omega)]
      have fin : ∀ v : Bool, Ev (fun n => (spec_l18Pitch.f q[i]).bind fun t => if t = true then spec_WorkOk.l0 n (((i + 1 : Nat)) : Int) p d q else some false) (decide (1 ≤ q[i] ∧ q[i] ≤ 10000000) && keyGo (T.drop (i + 1)) (q.drop (i + 1))) := by
        intro v
        refine evb (pitch_eq _) ?_
        by_cases hf : fine q[i] = true
        · rw [show decide (1 ≤ q[i] ∧ q[i] ≤ 10000000) = true from hf, Bool.true_and]; exact evp hf ih
        · rw [show decide (1 ≤ q[i] ∧ q[i] ≤ 10000000) = false by simpa [fine] using hf, Bool.false_and]; exact evn hf (Ev.now _)
      have zer : Ev (fun n => if 0 ≤ (i : Int) then (if (i : Int) < (q.length : Int) then (if q[i] = 0 then spec_WorkOk.l0 n (((i + 1 : Nat)) : Int) p d q else some false) else none) else none) (decide (q[i] = 0) && keyGo (T.drop (i + 1)) (q.drop (i + 1))) := by
        refine evp (by omega) (evp (by omega) ?_)
        by_cases hz : q[i] = 0
        · rw [decide_eq_true hz, Bool.true_and]; exact evp hz ih
        · rw [decide_eq_false hz, Bool.false_and]; exact evn hz (Ev.now _)
      by_cases h0 : i = 0
      · refine evp (by omega) (evp (by omega) (evp (by omega) ?_))
        rw [decide_eq_true h0, Bool.true_or, if_pos rfl]
        exact fin true
      refine evn (by omega) ?_
      rw [decide_eq_false h0, Bool.false_or]
      by_cases h1 : 0 ≤ stepTo (i : Int) p 0
      rotate_left
      · rw [decide_eq_false (fun h => h1 h.1), if_neg (by simp)]; exact evn (by omega) zer
      refine evp (by omega) ?_
      by_cases h2 : stepTo (i : Int) p 0 < d
      · rw [decide_eq_true ⟨h1, h2⟩, if_pos rfl]; exact evp h2 (evp (by omega) (evp (by omega) (fin true)))
      · rw [decide_eq_false (fun h => h2 h.2), if_neg (by simp)]; exact evn h2 zer
  refine Ev.step (fun n => by rw [spec_WorkOk.j0]) (evn (by decide) ?_)
  exact key 0 (by omega)
theorem workImpl_eq (p : List S96) (d : Int) (q : List Int) : impl_WorkOk.f p d q = some (workOk p d q) := rfl
theorem workOk_plan {p : List S96} {d : Int} {q : List Int} (h : workOk p d q = true) : planOk p = true := by
  simp only [workOk, Bool.and_eq_true] at h; exact h.1
theorem workOk_done {p : List S96} {d : Int} {q : List Int} (h : workOk p d q = true) : 0 ≤ d ∧ d ≤ p.length := by
  simp only [workOk, Bool.and_eq_true, decide_eq_true_eq] at h; exact h.2.1
theorem workOk_len {p : List S96} {d : Int} {q : List Int} (h : workOk p d q = true) : q.length = 12 := by
  simp only [workOk, Bool.and_eq_true, decide_eq_true_eq] at h; exact h.2.2.1
end Go.Proofs.Ytbkkpllejgedcaa.Q


namespace Go.Proofs.Ytbkkpllejgedcaa.Q
set_option linter.unusedVariables false
set_option linter.unusedSimpArgs false
open Go.RowKit Go.Proofs.Ytbkkpllejgedcaa.P Go.Proofs.YtbkkpllejgedcaaW.PrintWords Go.Proofs.YtbkkpllejgedcaaW.PrintMore
def tuneAt (p : List S96) (q : List Int) (i : Nat) : Int := tunedPitch (q.getD (p.getD i z96).f0.toNat 0) (p.getD i z96).f2 (p.getD i z96).f3
theorem getS (p : List S96) (i : Nat) (hi : i < p.length) : p.getD i z96 = p[i] := by simp [List.getD_eq_getElem?_getD, hi]
theorem tunedBy_ev (p : List S96) (d : Int) (q : List Int) (i : Nat) (hp : planOk p = true) (hq : q.length = 12) (hi : i < p.length) : Ev (fun n => impl_tunedBy.f n p d q (i : Int)) (tuneAt p q i) := by
  obtain ⟨k0, k1, k2, k3, k4⟩ := planOk_in hp p[i] (List.getElem_mem hi)
  unfold impl_tunedBy.f tuneAt
  rw [getS p i hi, rdS p i hi]
  refine evp (by omega) (evp (by omega) (evp k0 (evp (by omega) (Ev.bind (tuned_impl _ _ _) (Ev.now _)))))
end Go.Proofs.Ytbkkpllejgedcaa.Q


namespace Go.Proofs.Ytbkkpllejgedcaa.Q
set_option linter.unusedVariables false
set_option linter.unusedSimpArgs false
open Go.RowKit Go.Proofs.Ytbkkpllejgedcaa.P Go.Proofs.YtbkkpllejgedcaaW.PrintWords Go.Proofs.YtbkkpllejgedcaaW.PrintMore
def usualKind (i : Nat) : Int := if i = 0 ∨ i = 2 ∨ i = 4 ∨ i = 7 ∨ i = 9 then 1 else 2
def usualPlan (b : Int) : List S96 := if 0 ≤ b ∧ b ≤ 5000 then (List.range 11).map (fun (i : Nat) => ⟨(i : Int), (i : Int) + 1, usualKind i, b⟩) else []
theorem usual_kinds : ∀ i : Nat, i < 11 → rd [1, 2, 1, 2, 1, 2, 2, 1, 2, 1, 2] (i : Int) = usualKind i := by decide
theorem usual_spec (b : Int) : Ev (fun k => spec_UsualPlan.f k b) (usualPlan b) := by
  unfold spec_UsualPlan.f usualPlan
  by_cases hb : 0 ≤ b ∧ b ≤ 5000
  rotate_left
  · refine rneg hb (Ev.step (fun k => by rw [spec_UsualPlan.l0]) (evp (by decide) (evb (l01In_eq _ _ _) (evn (bfalse hb) (Ev.now _)))))
  refine rpos hb ?_
  have key : ∀ i : Nat, i ≤ 11 → Ev (fun k => spec_UsualPlan.l0 k b ((List.range i).map (fun (i : Nat) => (⟨(i : Int), (i : Int) + 1, usualKind i, b⟩ : S96))) (i : Int)) ((List.range 11).map (fun (i : Nat) => ⟨(i : Int), (i : Int) + 1, usualKind i, b⟩)) := by
    refine down (n := 11) ?_ ?_
    · exact Ev.step (fun k => by rw [spec_UsualPlan.l0]) (evn (by decide) (Ev.now _))
    · intro i hi ih
      refine Ev.step (fun k => by rw [spec_UsualPlan.l0]) ?_
      refine evp (by omega) (evb (l01In_eq _ _ _) ?_)
      refine evp (btrue hb) (evb rfl ?_)
      refine evp (by omega) ?_
      refine evp (by simp; omega) ?_
      refine evp (by simp; omega) ?_
      rw [usual_kinds i hi, w64 (n := (i : Int) + 1) (by omega) (by omega)]
      rw [List.range_succ, List.map_append] at ih
      exact ih
  exact key 0 (by omega)
end Go.Proofs.Ytbkkpllejgedcaa.Q


namespace Go.Proofs.Ytbkkpllejgedcaa.Q
set_option linter.unusedVariables false
set_option linter.unusedSimpArgs false
open Go.RowKit Go.Proofs.Ytbkkpllejgedcaa.P Go.Proofs.YtbkkpllejgedcaaW.PrintWords Go.Proofs.YtbkkpllejgedcaaW.PrintMore
def gStep (i : Nat) (x : S96) : Prop := x.f0 = i ∧ x.f1 = (i : Int) + 1 ∧ (x.f2 = 2 ∨ x.f2 = usualKind i) ∧ 0 ≤ x.f3 ∧ x.f3 < 1500
def gPlan (p : List S96) : Prop := p.length ≤ 11 ∧ ∀ i (h : i < p.length), gStep i p[i]
theorem gPlan_usual (b : Int) (h : 0 ≤ b ∧ b < 1500) : gPlan (usualPlan b) ∧ (usualPlan b).length = 11 := by
  unfold usualPlan
  rw [if_pos (by omega)]
  refine ⟨⟨by simp, fun i hi => ?_⟩, by simp⟩
  simp only [List.getElem_map, List.getElem_range]
  exact ⟨rfl, rfl, .inr rfl, h.1, h.2⟩
theorem gPlan_take {p : List S96} (h : gPlan p) (n : Nat) : gPlan (p.take n) := by
  refine ⟨by have := h.1; simp; omega, fun i hi => ?_⟩
  rw [List.getElem_take]
  exact h.2 i _
end Go.Proofs.Ytbkkpllejgedcaa.Q


namespace Go.Proofs.Ytbkkpllejgedcaa.Q
set_option linter.unusedVariables false
set_option linter.unusedSimpArgs false
open Go.RowKit Go.Proofs.Ytbkkpllejgedcaa.P Go.Proofs.YtbkkpllejgedcaaW.PrintWords Go.Proofs.YtbkkpllejgedcaaW.PrintMore
theorem getD_set_self (q : List Int) (i : Nat) (v : Int) (h : i < q.length) : (q.set i v).getD i 0 = v := by simp [List.getD_eq_getElem?_getD, h]
theorem getD_set_ne (q : List Int) (i k : Nat) (v : Int) (h : i ≠ k) : (q.set i v).getD k 0 = q.getD k 0 := by
  simp only [List.getD_eq_getElem?_getD]; rw [List.getElem?_set_ne h]
def pit (p : List S96) (s : Int) : Nat → Int
  | 0 => s
  | k + 1 => tunedPitch (pit p s k) (p.getD k z96).f2 (p.getD k z96).f3
def lows : List Int := [155000, 115875, 86531, 64523, 48017, 35638, 26353, 19390, 14167, 10250, 7312, 5109]
def highs : List Int := [345000, 517500, 388125, 582187, 436640, 654960, 491220, 368415, 552622, 414466, 621699, 466274]
theorem fine_of {n : Int} (h1 : 1 ≤ n) (h2 : n ≤ 10000000) : fine n = true := decide_eq_true ⟨h1, h2⟩
theorem tuned_five (a b : Int) (h1 : 2000 ≤ a) (h2 : a ≤ 1000000) (h3 : 0 ≤ b) (h4 : b < 1500) : tunedPitch a 1 b = (3 * a - b) / 2 := by
  unfold tunedPitch orZero mx
  rw [if_pos (fine_of (by omega) (by omega)), if_pos (by omega), if_pos rfl, w64 (n := 3 * a) (by omega) (by omega), w64 (n := 3 * a - b) (by omega) (by omega)]
  have e : (if (3 * a - b) < 0 then (0 : Int) else 3 * a - b) = 3 * a - b := if_neg (by omega)
  rw [e]
  rw [Int.tdiv_eq_ediv_of_nonneg (by omega), w64 (by omega) (by omega), if_pos (fine_of (by omega) (by omega))]
theorem tuned_four (a b : Int) (h1 : 2000 ≤ a) (h2 : a ≤ 1000000) (h3 : 0 ≤ b) (h4 : b < 1500) : tunedPitch a 2 b = (3 * a - b) / 4 := by
  unfold tunedPitch orZero mx
  rw [if_pos (fine_of (by omega) (by omega)), if_pos (by omega), if_neg (by decide), if_pos rfl, w64 (n := 3 * a) (by omega) (by omega), w64 (n := 3 * a - b) (by omega) (by omega)]
  have e : (if (3 * a - b) < 0 then (0 : Int) else 3 * a - b) = 3 * a - b := if_neg (by omega)
  rw [e]
  rw [Int.tdiv_eq_ediv_of_nonneg (by omega), w64 (by omega) (by omega), if_pos (fine_of (by omega) (by omega))]
theorem bound_step (k : Nat) (hk : k < 11) (a b x : Int) (h1 : lows.getD k 0 ≤ a) (h2 : a ≤ highs.getD k 0) (h3 : 0 ≤ b) (h4 : b < 1500) (hx : x = 2 ∨ x = usualKind k) :
    lows.getD (k + 1) 0 ≤ tunedPitch a x b ∧ tunedPitch a x b ≤ highs.getD (k + 1) 0 := by
  have a1 : 2000 ≤ a ∧ a ≤ 1000000 := by
    have : ∀ k : Nat, k < 11 → 2000 ≤ lows.getD k 0 ∧ highs.getD k 0 ≤ 1000000 := by decide
    have := this k hk; omega
  have hx2 : x = 2 ∨ (x = 1 ∧ usualKind k = 1) := by
    rcases hx with h | h
    · exact .inl h
    · unfold usualKind at h ⊢
      by_cases h5 : k = 0 ∨ k = 2 ∨ k = 4 ∨ k = 7 ∨ k = 9
      · rw [if_pos h5] at h ⊢; exact .inr ⟨h, rfl⟩
      · rw [if_neg h5] at h; exact .inl h
  have hk2 : k = 0 ∨ k = 1 ∨ k = 2 ∨ k = 3 ∨ k = 4 ∨ k = 5 ∨ k = 6 ∨ k = 7 ∨ k = 8 ∨ k = 9 ∨ k = 10 := by omega
  rcases hx2 with rfl | ⟨rfl, hu⟩
  · rw [tuned_four a b a1.1 a1.2 h3 h4]
    rcases hk2 with rfl | rfl | rfl | rfl | rfl | rfl | rfl | rfl | rfl | rfl | rfl <;> simp only [lows, highs, List.getD_cons_zero, List.getD_cons_succ] at h1 h2 ⊢ <;> omega
  · rw [tuned_five a b a1.1 a1.2 h3 h4]
    rcases hk2 with rfl | rfl | rfl | rfl | rfl | rfl | rfl | rfl | rfl | rfl | rfl <;> first | (exact absurd hu (by decide)) | (simp only [lows, highs, List.getD_cons_zero, List.getD_cons_succ] at h1 h2 ⊢; omega)
section
variable {p : List S96} (g : gPlan p) {s : Int} (hs : 155000 ≤ s ∧ s ≤ 345000)
include g
theorem gAt (i : Nat) (h : i < p.length) : (p.getD i z96).f0 = i ∧ (p.getD i z96).f1 = (i : Int) + 1 ∧ ((p.getD i z96).f2 = 2 ∨ (p.getD i z96).f2 = usualKind i) ∧ 0 ≤ (p.getD i z96).f3 ∧ (p.getD i z96).f3 < 1500 := by
  rw [getS p i h]; exact g.2 i h
include hs
theorem pit_bounds (k : Nat) (hk : k ≤ p.length) : lows.getD k 0 ≤ pit p s k ∧ pit p s k ≤ highs.getD k 0 := by
  induction k with
  | zero => exact hs
  | succ k ih =>
    obtain ⟨h1, h2⟩ := ih (by omega)
    obtain ⟨g0, g1, g2, g3, g4⟩ := gAt g k (by omega)
    exact bound_step k (by have := g.1; omega) _ _ _ h1 h2 g3 g4 g2
theorem pit_fine (k : Nat) (hk : k ≤ p.length) : 2000 ≤ pit p s k ∧ pit p s k ≤ 1000000 := by
  have : ∀ k : Nat, k < 12 → 2000 ≤ lows.getD k 0 ∧ highs.getD k 0 ≤ 1000000 := by decide
  have h1 := this k (by have := g.1; omega)
  have h2 := pit_bounds g hs k hk
  omega
end
def pits (p : List S96) (s : Int) (n : Nat) : List Int := (List.range 12).map (fun k => if k ≤ n then pit p s k else 0)
theorem pits_len (p : List S96) (s : Int) (n : Nat) : (pits p s n).length = 12 := by simp [pits]
theorem pits_get (p : List S96) (s : Int) (n k : Nat) (hk : k < 12) : (pits p s n).getD k 0 = if k ≤ n then pit p s k else 0 := by
  simp [pits, List.getD_eq_getElem?_getD, hk]
theorem list_ext12 {a b : List Int} (ha : a.length = 12) (hb : b.length = 12) (h : ∀ k : Nat, k < 12 → a.getD k 0 = b.getD k 0) : a = b := by
  apply List.ext_getElem (by omega)
  intro k h1 h2
  have := h k (by omega)
  simpa [List.getD_eq_getElem?_getD, h1, h2] using this
theorem pits_zero (p : List S96) (s : Int) : pits p s 0 = begun s := by
  refine list_ext12 (pits_len p s 0) (by simp [begun]) (fun k hk => ?_)
  rw [pits_get p s 0 k hk]
  cases k with
  | zero => rfl
  | succ k =>
    rw [if_neg (by omega)]
    have : ∀ k : Nat, k < 11 → (List.replicate 11 (0 : Int)).getD k 0 = 0 := by decide
    exact (this k (by omega)).symm
theorem pits_succ (p : List S96) (s : Int) (n : Nat) (hn : n < 11) : (pits p s n).set (n + 1) (pit p s (n + 1)) = pits p s (n + 1) := by
  refine list_ext12 (by simp [pits_len]) (pits_len _ _ _) (fun k hk => ?_)
  have h1 := pits_get p s n k hk
  rw [pits_get p s (n + 1) k hk]
  by_cases e : k = n + 1
  · subst e
    rw [if_pos (Nat.le_refl _)]
    exact getD_set_self _ _ _ (by rw [pits_len]; omega)
  · have : ((pits p s n).set (n + 1) (pit p s (n + 1))).getD k 0 = (pits p s n).getD k 0 := by
      simp only [List.getD_eq_getElem?_getD]
      rw [List.getElem?_set_ne (by omega)]
    rw [this, h1]
    by_cases h2 : k ≤ n
    · rw [if_pos h2, if_pos (by omega)]
    · rw [if_neg h2, if_neg (by omega)]
def tunedN (n : Nat) : List Bool := (List.range 12).map (fun k => decide (k ≤ n))
theorem tunedN_zero : tunedN 0 = tuned0 := by decide
theorem tunedN_succ (n : Nat) (hn : n < 11) : (tunedN n).set (n + 1) true = tunedN (n + 1) := by
  have : ∀ n : Nat, n < 11 → (tunedN n).set (n + 1) true = tunedN (n + 1) := by decide
  exact this n hn
theorem tunedN_get (n k : Nat) (hk : k < 12) : (tunedN n).getD k false = decide (k ≤ n) := by simp [tunedN, List.getD_eq_getElem?_getD, hk]
theorem usualKind_le (i : Nat) : usualKind i = 1 ∨ usualKind i = 2 := by unfold usualKind; split <;> simp
theorem planGo_good {p : List S96} (g : gPlan p) (j : Nat) (hj : j ≤ p.length) : planGo (p.drop j) (tunedN j) = true := by
  refine down (P := fun j => planGo (p.drop j) (tunedN j) = true) (n := p.length) ?_ ?_ j hj
  · rw [drop_end]; rfl
  · intro i hi ih
    have hl := g.1
    obtain ⟨g0, g1, g2, g3, g4⟩ := g.2 i hi
    rw [drop_cons p i hi, planGo, Bool.and_eq_true]
    constructor
    · have t1 := tunedN_get i i (by omega)
      have t2 := tunedN_get i (i + 1) (by omega)
      have e1 : (p[i].f0).toNat = i := by omega
      have e2 : (p[i].f1).toNat = i + 1 := by omega
      unfold stepOk
      rw [e1, e2, t1, t2]
      have hk : p[i].f2 = 1 ∨ p[i].f2 = 2 := by
        rcases g2 with h | h
        · exact .inr h
        · rw [h]; exact usualKind_le i
      simp only [Bool.and_eq_true, Bool.or_eq_true, decide_eq_true_eq]
      refine ⟨hk, ⟨g3, by omega⟩, by omega, by omega, by omega, Nat.le_refl _, ?_⟩
      simp
    · rw [g1, show ((i : Int) + 1).toNat = i + 1 by omega, tunedN_succ i (by omega)]
      exact ih
theorem planOk_good {p : List S96} (g : gPlan p) : planOk p = true := by
  unfold planOk
  rw [Bool.and_eq_true, decide_eq_true_eq]
  refine ⟨g.1, ?_⟩
  have := planGo_good g 0 (Nat.zero_le _)
  rwa [tunedN_zero] at this
theorem tunedBy_good {p : List S96} (g : gPlan p) (n : Nat) (hn : n ≤ p.length) : P.tunedBy (p.take n) tuned0 = tunedN n := by
  induction n with
  | zero => rw [tunedN_zero]; rfl
  | succ n ih =>
    rw [List.take_succ_eq_append_getElem (by omega), P.tunedBy_snoc, ih (by omega)]
    obtain ⟨g0, g1, _⟩ := g.2 n (by omega)
    rw [g1, show ((n : Int) + 1).toNat = n + 1 by omega]
    exact tunedN_succ n (by have := g.1; omega)
theorem keyGo_iff : ∀ (t : List Bool) (q : List Int), t.length = q.length → (keyGo t q = true ↔ ∀ k : Nat, k < q.length → if t.getD k false = true then 1 ≤ q.getD k 0 ∧ q.getD k 0 ≤ 10000000 else q.getD k 0 = 0)
  | [], [], _ => by simp [keyGo]
  | b :: t, x :: q, h => by
    have ih := keyGo_iff t q (by simpa using h)
    rw [keyGo, Bool.and_eq_true, ih]
    constructor
    · rintro ⟨h1, h2⟩ k hk
      cases k with
      | zero => simpa [apply_ite] using h1
      | succ k => simpa using h2 k (by simpa using hk)
    · intro h2
      refine ⟨?_, fun k hk => by simpa using h2 (k + 1) (by simpa using hk)⟩
      have := h2 0 (by simp)
      cases b <;> simpa using this
theorem workOk_good {p : List S96} (g : gPlan p) (n : Nat) (hn : n ≤ p.length) (q : List Int) :
    workOk p (n : Int) q = true ↔ q.length = 12 ∧ (∀ k : Nat, k ≤ n → 1 ≤ q.getD k 0 ∧ q.getD k 0 ≤ 10000000) ∧ (∀ k : Nat, n < k → k < 12 → q.getD k 0 = 0) := by
  unfold workOk
  rw [planOk_good g, Bool.true_and, decide_eq_true (show 0 ≤ (n : Int) ∧ (n : Int) ≤ p.length by omega), Bool.true_and, Int.toNat_natCast, tunedBy_good g n hn, Bool.and_eq_true, decide_eq_true_eq]
  have hl := g.1
  constructor
  · rintro ⟨h1, h2⟩
    rw [keyGo_iff _ _ (by simp [tunedN, h1])] at h2
    refine ⟨h1, fun k hk => ?_, fun k hk hk2 => ?_⟩
    · have := h2 k (by omega)
      rw [tunedN_get n k (by omega), decide_eq_true hk, if_pos rfl] at this
      exact this
    · have := h2 k (by omega)
      rw [tunedN_get n k (by omega), decide_eq_false (by omega), if_neg (by simp)] at this
      exact this
  · rintro ⟨h1, h2, h3⟩
    refine ⟨h1, (keyGo_iff _ _ (by simp [tunedN, h1])).2 fun k hk => ?_⟩
    rw [tunedN_get n k (by omega)]
    by_cases h : k ≤ n
    · rw [decide_eq_true h, if_pos rfl]; exact h2 k h
    · rw [decide_eq_false h, if_neg (by simp)]; exact h3 k (by omega) (by omega)
theorem workOk_pits {p : List S96} (g : gPlan p) {s : Int} (hs : 155000 ≤ s ∧ s ≤ 345000) (n : Nat) (hn : n ≤ p.length) : workOk p (n : Int) (pits p s n) = true := by
  have hl := g.1
  refine (workOk_good g n hn _).2 ⟨pits_len _ _ _, fun k hk => ?_, fun k hk hk2 => ?_⟩
  · rw [pits_get p s n k (by omega), if_pos hk]
    have := pit_fine g hs k (by omega)
    omega
  · rw [pits_get p s n k hk2, if_neg (by omega)]
theorem runGo_good {p : List S96} (g : gPlan p) {s : Int} (hs : 155000 ≤ s ∧ s ≤ 345000) (j : Nat) (hj : j ≤ p.length) : runGo (p.drop j) (pits p s j) = (pits p s p.length, true) := by
  refine down (P := fun j => runGo (p.drop j) (pits p s j) = (pits p s p.length, true)) (n := p.length) ?_ ?_ j hj
  · rw [drop_end]; rfl
  · intro i hi ih
    have hl := g.1
    obtain ⟨g0, g1, _⟩ := g.2 i hi
    rw [drop_cons p i hi, runGo]
    have e1 : (p[i].f0).toNat = i := by omega
    have e2 : (p[i].f1).toNat = i + 1 := by omega
    have e3 : tunedPitch ((pits p s i).getD i 0) p[i].f2 p[i].f3 = pit p s (i + 1) := by
      rw [pits_get p s i i (by omega), if_pos (Nat.le_refl _)]
      show _ = tunedPitch _ (p.getD i z96).f2 (p.getD i z96).f3
      rw [getS p i hi]
    have hf := pit_fine g hs (i + 1) hi
    rw [e1, e2, e3, if_neg (by omega), pits_succ p s i (by omega)]
    exact ih
theorem runPlan_good {p : List S96} (g : gPlan p) {s : Int} (hs : 155000 ≤ s ∧ s ≤ 345000) : runPlan s p = (pits p s p.length, true) := by
  unfold runPlan
  rw [if_pos ⟨planOk_good g, fine_of (by omega) (by omega)⟩, ← pits_zero p s]
  exact runGo_good g hs 0 (Nat.zero_le _)
end Go.Proofs.Ytbkkpllejgedcaa.Q


namespace Go.Proofs.Ytbkkpllejgedcaa.Q
set_option linter.unusedVariables false
set_option linter.unusedSimpArgs false
open Go.RowKit Go.Proofs.Ytbkkpllejgedcaa.P Go.Proofs.YtbkkpllejgedcaaW.PrintWords Go.Proofs.YtbkkpllejgedcaaW.PrintMore
theorem copyPlan_eq (p : List S96) (hp : p.length ≤ 4000000) : impl_copyPlan.f p = some p := by
  unfold impl_copyPlan.f; simp only [Option.bind_some]; rw [if_pos (by simp; omega)]; simp
theorem l19Copy_eq (p : List S96) (hp : p.length ≤ 4000000) : spec_l19Copy.f p = some p := by
  unfold spec_l19Copy.f; simp only [Option.bind_some]; rw [if_pos (by simp; omega)]; simp
theorem l02Copy_eq (p : List Int) (hp : p.length ≤ 4000000) : spec_l02Copy.f p = some p := by
  unfold spec_l02Copy.f; simp only [Option.bind_some]; rw [if_pos (by simp; omega)]; simp
theorem copyWork_eq (p : List S96) (d : Int) (q : List Int) (hp : p.length ≤ 4000000) (hq : q.length ≤ 4000000) : impl_copyWork.f p d q = some (p, d, q) := by
  unfold impl_copyWork.f; rw [copyPlan_eq p hp]; simp only [Option.bind_some]; rw [if_pos (by simp; omega)]; simp
theorem l36Copy_eq (p : List S96) (d : Int) (q : List Int) (hp : p.length ≤ 4000000) (hq : q.length ≤ 4000000) : spec_l36Copy.f p d q = some (p, d, q) := by
  unfold spec_l36Copy.f; rw [l19Copy_eq p hp]; simp only [Option.bind_some]; rw [l02Copy_eq q hq]; rfl
end Go.Proofs.Ytbkkpllejgedcaa.Q

