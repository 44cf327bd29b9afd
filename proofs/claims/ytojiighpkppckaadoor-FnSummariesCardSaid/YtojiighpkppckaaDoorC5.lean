/- What functions of the program come to (f), that their calls come to just this (calls), and the plain laws over lists and numbers, and the law FnSummaries: for every argument it answers true. No condition but those of the given row. -/
import Derived.Test.YtojiighpkppckaaDoorRows
import Derived.Test.YtojiighpkppckaaDoorC4
import Derived.Lib.ItoaLen
import Derived.Deep.Slices
import Derived.ChangeArms
import Derived.ChangeSame
import Derived.KernelRfl
import Derived.WalkKit
import Derived.ProofKit
import Derived.OpenShut
import Derived.ShutString
import Derived.ChangeOld
import Derived.Below
import Derived.SizedLaws
import Derived.Test.YtojiighpkppckaaDoorTie
import Derived.Test.YtojiighpkppckaaDoorCards
import Derived.SevenTiedAt
import Derived.Stop.Joined
import Derived.Stop.LaidErr
import Derived.LaidLaws
import Derived.LaidMore
import Derived.LaidHandle
import Derived.MakeChecks
namespace Go.Proofs.YtojiighpkppckaaDoor.P
open Go.RowKit Go.Proofs.YtojiighpkppckaaDoorW.PrintWords Go.Proofs.YtojiighpkppckaaDoorW.PrintLast Go.Proofs.YtojiighpkppckaaDoorW.PrintMore Go.Proofs.YtojiighpkppckaaDoor.V
attribute [local go_sem] cell_b frozen_b
attribute [local go_sem] max2_int min2_int max_two min_two max_three min_three max_four min_four
set_option linter.unusedVariables false
set_option linter.unusedSimpArgs false
def impl_FormatShop.l0 : Nat → List ByteArray → List (S85) → Int → Int → Option (List ByteArray)
 | 0, _, _, _, _ => none
 | k + 1, x3, x32, x33, x34 => if x34 < x33 then (if 0 ≤ x34 then (if x34 < (x32.length : Int) then ((impl_words.f k (([(rd_T85 x32 x34).f0.f0, (rd_T85 x32 x34).f0.f1, (rd_T85 x32 x34).f1, (rd_T85 x32 x34).f2] : List Int))).bind fun t869 => (if x3.length < 8796093022208 then (impl_FormatShop.l0 k (x3 ++ [t869]) x32 x33 (wrap64 (x34 + 1))) else (none))) else (none)) else (none)) else (some x3)
def impl_FormatShop.f (k : Nat) (l0_0 : List (S145)) (a0_1 : Int) (l0_2 : List Int) (a0_3 : Int) (a0_4 : Int) (l0_5 : List (S85)) : Option (List ByteArray) := (impl_ShopOk.f k l0_0 a0_1 l0_2 a0_3 a0_4 l0_5).bind fun t847 => (if t847 = true then ((impl_words.f k l0_2).bind fun t848 => (if 8 + t848.size ≤ 9223372036854775807 then ((impl_words.f k (([a0_1] : List Int))).bind fun t852 => (if 5 + t852.size ≤ 9223372036854775807 then ((impl_words.f k (([a0_3] : List Int))).bind fun t856 => (if 7 + t856.size ≤ 9223372036854775807 then ((impl_words.f k (([a0_4] : List Int))).bind fun t860 => (if 7 + t860.size ≤ 9223372036854775807 then (impl_FormatShop.l0 k (([(⟨#[112, 105, 116, 99, 104, 101, 115, 32]⟩ : ByteArray) ++ t848, (⟨#[100, 111, 110, 101, 32]⟩ : ByteArray) ++ t852, (⟨#[119, 97, 114, 109, 116, 104, 32]⟩ : ByteArray) ++ t856, (⟨#[109, 111, 109, 101, 110, 116, 32]⟩ : ByteArray) ++ t860] : List ByteArray)) l0_5 (l0_5.length : Int) 0) else (none))) else (none))) else (none))) else (none))) else (some ([] : List ByteArray)))
def impl_FormatShop.T3 : Bool × List (List Nat × List Nat) := (true, [([], []), ([0], [0]), ([1], [1]), ([2], [2]), ([3], [3]), ([], []), ([5], [5]), ([6], [6]), ([7], [7]), ([8, 3], [8]), ([9], [9]), ([], []), ([11], [11]), ([12], [12]), ([13, 9], [13]), ([14], [14]), ([], []), ([16], [16]), ([17], [17]), ([18, 14], [18]), ([19], [19]), ([4, 10, 15, 20], [4, 10, 15, 20]), ([21, 19, 0, 1, 2, 3, 4, 5, 6, 7, 8, 9, 10, 11, 12, 13, 14, 15, 16, 17, 18, 19, 20, 21], [21])])
def impl_FormatShop.B3 : List Nat := [0, 1, 3, 7, 15, 0, 32, 96, 224, 495, 1007, 0, 2048, 6144, 15343, 31727, 0, 65536, 196608, 490479, 1014767, 2097151, 4194303]
theorem impl_FormatShop.tab3 : rtab .any (opsOf Tryd.f18 3) = impl_FormatShop.T3 := by kernel_rfl
theorem impl_FormatShop.bits3 : waitsOk impl_FormatShop.T3.2 impl_FormatShop.B3 = true := by kernel_rfl
set_option maxHeartbeats 8000000 in
set_option maxRecDepth 100000 in
theorem impl_FormatShop.calls (k : Nat) (A0_0 : Option Addr) (c0_0 : Nat) (l0_0 : List (S145)) (a0_1 : Int) (A0_2 : Option Addr) (c0_2 : Nat) (l0_2 : List Int) (a0_3 : Int) (a0_4 : Int) (A0_5 : Option Addr) (c0_5 : Nat) (l0_5 : List (S85)) (r : List ByteArray) (w : World) (hr0_0 : Kd.C k145 w A0_0 l0_0.length l0_0) (hc0_0 : l0_0.length ≤ c0_0) (hr0_2 : Kd.C (Kd.int .i64) w A0_2 l0_2.length l0_2) (hc0_2 : l0_2.length ≤ c0_2) (hr0_5 : Kd.C k85 w A0_5 l0_5.length l0_5) (hc0_5 : l0_5.length ≤ c0_5) (h : impl_FormatShop.f k l0_0 a0_1 l0_2 a0_3 a0_4 l0_5 = some r) (ht_ : Aside0 (Tab w)) :
  Calls Tryd.prog 18 #[.agg #[.slice A0_0 l0_0.length c0_0, .int .i64 a0_1, .slice A0_2 l0_2.length c0_2, .int .i64 a0_3, .int .i64 a0_4, .slice A0_5 l0_5.length c0_5]] w fun e w' => ∃ v0_ : Value, e = .returned (v0_) ∧ Kd.R Kd.string 9 w' w.heap.size (fun _ => True) v0_ r ∧ Below w.heap.size w w' := by
 have hu44 := Tryd.underlying44
 have hu85 := Tryd.underlying85
 have HR0_0 := A_ hr0_0
 have HC0_0 := A_ hc0_0
 clear hr0_0 hc0_0
 have HR0_2 := A_ hr0_2
 have HC0_2 := A_ hc0_2
 clear hr0_2 hc0_2
 have HR0_5 := A_ hr0_5
 have HC0_5 := A_ hc0_5
 clear hr0_5 hc0_5
 have HB := A_ (Below.refl w.heap.size w)
 have H : ((impl_ShopOk.f k l0_0 a0_1 l0_2 a0_3 a0_4 l0_5).bind fun t847 => (if t847 = true then ((impl_words.f k l0_2).bind fun t848 => (if 8 + t848.size ≤ 9223372036854775807 then ((impl_words.f k (([a0_1] : List Int))).bind fun t852 => (if 5 + t852.size ≤ 9223372036854775807 then ((impl_words.f k (([a0_3] : List Int))).bind fun t856 => (if 7 + t856.size ≤ 9223372036854775807 then ((impl_words.f k (([a0_4] : List Int))).bind fun t860 => (if 7 + t860.size ≤ 9223372036854775807 then (impl_FormatShop.l0 k (([(⟨#[112, 105, 116, 99, 104, 101, 115, 32]⟩ : ByteArray) ++ t848, (⟨#[100, 111, 110, 101, 32]⟩ : ByteArray) ++ t852, (⟨#[119, 97, 114, 109, 116, 104, 32]⟩ : ByteArray) ++ t856, (⟨#[109, 111, 109, 101, 110, 116, 32]⟩ : ByteArray) ++ t860] : List ByteArray)) l0_5 (l0_5.length : Int) 0) else (none))) else (none))) else (none))) else (none))) else (some ([] : List ByteArray)))) = some r := h
 clear h
 replace H := Option.bind_eq_some_iff.mp H
 obtain ⟨t847, A20, H⟩ := H
 (try dsimp only at H)
 have A2 := A_ A20
 clear A20
 by_cases c3 : t847 = true
 ·subst c3
  rw [if_pos rfl] at H
  replace H := Option.bind_eq_some_iff.mp H
  obtain ⟨t848, A40, H⟩ := H
  (try dsimp only at H)
  have A4 := A_ A40
  clear A40
  by_cases c5 : 8 + t848.size ≤ 9223372036854775807
  ·rw [if_pos c5] at H
   have c5b0 := eq_true c5
   have c5b1 : decide (8 + t848.size ≤ 9223372036854775807) = true := decide_eq_true c5
   try have c5b2 : (9223372036854775807 < 8 + t848.size) = False := eq_false (Nat.not_lt.2 c5)
   obtain ⟨y849, hy849⟩ : ∃ y_ : List Int, y_ = (([a0_1] : List Int)) := ⟨_, rfl⟩
   replace H : ((impl_words.f k y849).bind fun t852 => (if 5 + t852.size ≤ 9223372036854775807 then ((impl_words.f k (([a0_3] : List Int))).bind fun t856 => (if 7 + t856.size ≤ 9223372036854775807 then ((impl_words.f k (([a0_4] : List Int))).bind fun t860 => (if 7 + t860.size ≤ 9223372036854775807 then (impl_FormatShop.l0 k (([(⟨#[112, 105, 116, 99, 104, 101, 115, 32]⟩ : ByteArray) ++ t848, (⟨#[100, 111, 110, 101, 32]⟩ : ByteArray) ++ t852, (⟨#[119, 97, 114, 109, 116, 104, 32]⟩ : ByteArray) ++ t856, (⟨#[109, 111, 109, 101, 110, 116, 32]⟩ : ByteArray) ++ t860] : List ByteArray)) l0_5 (l0_5.length : Int) 0) else (none))) else (none))) else (none))) = some r := by first | (rw [hy849]; with_reducible exact H) | (have H2_ := (Option.bind_some _ _).symm.trans H; rw [hy849]; with_reducible exact H2_) | (have H2_ := (Option.bind_some _ _).symm.trans H; with_reducible exact H2_) | with_reducible exact H | (rw [hy849]; exact H) | exact H
   have Ny849 := A_ hy849
   clear hy849
   replace H := Option.bind_eq_some_iff.mp H
   obtain ⟨t852, A60, H⟩ := H
   (try dsimp only at H)
   have A6 := A_ A60
   clear A60
   by_cases c7 : 5 + t852.size ≤ 9223372036854775807
   ·rw [if_pos c7] at H
    have c7b0 := eq_true c7
    have c7b1 : decide (5 + t852.size ≤ 9223372036854775807) = true := decide_eq_true c7
    try have c7b2 : (9223372036854775807 < 5 + t852.size) = False := eq_false (Nat.not_lt.2 c7)
    obtain ⟨y853, hy853⟩ : ∃ y_ : List Int, y_ = (([a0_3] : List Int)) := ⟨_, rfl⟩
    replace H : ((impl_words.f k y853).bind fun t856 => (if 7 + t856.size ≤ 9223372036854775807 then ((impl_words.f k (([a0_4] : List Int))).bind fun t860 => (if 7 + t860.size ≤ 9223372036854775807 then (impl_FormatShop.l0 k (([(⟨#[112, 105, 116, 99, 104, 101, 115, 32]⟩ : ByteArray) ++ t848, (⟨#[100, 111, 110, 101, 32]⟩ : ByteArray) ++ t852, (⟨#[119, 97, 114, 109, 116, 104, 32]⟩ : ByteArray) ++ t856, (⟨#[109, 111, 109, 101, 110, 116, 32]⟩ : ByteArray) ++ t860] : List ByteArray)) l0_5 (l0_5.length : Int) 0) else (none))) else (none))) = some r := by first | (rw [hy853]; with_reducible exact H) | (have H2_ := (Option.bind_some _ _).symm.trans H; rw [hy853]; with_reducible exact H2_) | (have H2_ := (Option.bind_some _ _).symm.trans H; with_reducible exact H2_) | with_reducible exact H | (rw [hy853]; exact H) | exact H
    have Ny853 := A_ hy853
    clear hy853
    replace H := Option.bind_eq_some_iff.mp H
    obtain ⟨t856, A80, H⟩ := H
    (try dsimp only at H)
    have A8 := A_ A80
    clear A80
    by_cases c9 : 7 + t856.size ≤ 9223372036854775807
    ·rw [if_pos c9] at H
     have c9b0 := eq_true c9
     have c9b1 : decide (7 + t856.size ≤ 9223372036854775807) = true := decide_eq_true c9
     try have c9b2 : (9223372036854775807 < 7 + t856.size) = False := eq_false (Nat.not_lt.2 c9)
     obtain ⟨y857, hy857⟩ : ∃ y_ : List Int, y_ = (([a0_4] : List Int)) := ⟨_, rfl⟩
     replace H : ((impl_words.f k y857).bind fun t860 => (if 7 + t860.size ≤ 9223372036854775807 then (impl_FormatShop.l0 k (([(⟨#[112, 105, 116, 99, 104, 101, 115, 32]⟩ : ByteArray) ++ t848, (⟨#[100, 111, 110, 101, 32]⟩ : ByteArray) ++ t852, (⟨#[119, 97, 114, 109, 116, 104, 32]⟩ : ByteArray) ++ t856, (⟨#[109, 111, 109, 101, 110, 116, 32]⟩ : ByteArray) ++ t860] : List ByteArray)) l0_5 (l0_5.length : Int) 0) else (none))) = some r := by first | (rw [hy857]; with_reducible exact H) | (have H2_ := (Option.bind_some _ _).symm.trans H; rw [hy857]; with_reducible exact H2_) | (have H2_ := (Option.bind_some _ _).symm.trans H; with_reducible exact H2_) | with_reducible exact H | (rw [hy857]; exact H) | exact H
     have Ny857 := A_ hy857
     clear hy857
     replace H := Option.bind_eq_some_iff.mp H
     obtain ⟨t860, A100, H⟩ := H
     (try dsimp only at H)
     have A10 := A_ A100
     clear A100
     by_cases c11 : 7 + t860.size ≤ 9223372036854775807
     ·rw [if_pos c11] at H
      have c11b0 := eq_true c11
      have c11b1 : decide (7 + t860.size ≤ 9223372036854775807) = true := decide_eq_true c11
      try have c11b2 : (9223372036854775807 < 7 + t860.size) = False := eq_false (Nat.not_lt.2 c11)
      obtain ⟨y861, hy861⟩ : ∃ y_ : List ByteArray, y_ = (([(⟨#[112, 105, 116, 99, 104, 101, 115, 32]⟩ : ByteArray) ++ t848, (⟨#[100, 111, 110, 101, 32]⟩ : ByteArray) ++ t852, (⟨#[119, 97, 114, 109, 116, 104, 32]⟩ : ByteArray) ++ t856, (⟨#[109, 111, 109, 101, 110, 116, 32]⟩ : ByteArray) ++ t860] : List ByteArray)) := ⟨_, rfl⟩
      replace H : (impl_FormatShop.l0 k y861 l0_5 (l0_5.length : Int) 0) = some r := by first | (rw [hy861]; with_reducible exact H) | (have H2_ := (Option.bind_some _ _).symm.trans H; rw [hy861]; with_reducible exact H2_) | (have H2_ := (Option.bind_some _ _).symm.trans H; with_reducible exact H2_) | with_reducible exact H | (rw [hy861]; exact H) | exact H
      have Ny861 := A_ hy861
      clear hy861
      have H' := A_ H
      clear H
      go_enter Tryd.func18, Tryd.ntmps18
      try go_wp2_with (first | ((with_reducible refine gate_dst (N := 1) rfl ?_); refine bX (N := 1) (cs := #[.slice A0_0 l0_0.length c0_0, .int .i64 a0_1, .slice A0_2 l0_2.length c0_2, .int .i64 a0_3, .int .i64 a0_4, .slice A0_5 l0_5.length c0_5]) (t := 44) ?_; intro gb846 hg w12 hbox hb; have n0_ := A_ (below_step (oB HB) hb); have n1_ := A_ (hbox); have n2_ := A_ ((by rw [hg]; exact (below_size (oB HB)) : w.heap.size ≤ gb846)); have n3_ := A_ ((by rw [hg]; exact (below_size (oB HB)) : w.heap.size ≤ gb846)); clear HB; have HB := n0_; have BK846 := n1_; have GW846 := n2_; have GE846 := n3_; clear n0_ n1_ n2_ n3_; clear hb hbox hg; have hcz13_0 := cz BK846 0; have hcz13_1 := cz BK846 1; have hcz13_2 := cz BK846 2; have hcz13_3 := cz BK846 3; have hcz13_4 := cz BK846 4; have hcz13_5 := cz BK846 5; have hfz13_0 := blk_frozen BK846.out 0; have hfz13_1 := blk_frozen BK846.out 1; have hfz13_2 := blk_frozen BK846.out 2; have hfz13_3 := blk_frozen BK846.out 3; have hfz13_4 := blk_frozen BK846.out 4; have hfz13_5 := blk_frozen BK846.out 5) | ((with_reducible refine gate_callee (f := 40) rfl ?_); refine gL (some 7) Tryd.func40 #[.agg #[.slice A0_0 l0_0.length c0_0, .int .i64 a0_1, .slice A0_2 l0_2.length c0_2, .int .i64 a0_3, .int .i64 a0_4, .slice A0_5 l0_5.length c0_5]] ?_; (with_reducible refine (impl_ShopOk.calls k _ _ l0_0 a0_1 _ _ l0_2 a0_3 a0_4 _ _ l0_5 true _ ?side1 ?side2 ?side3 ?side4 ?side5 ?side6 A2.out).mono ?_); (case side1 => exact oc_ HR0_0.out); (case side2 => exact HC0_0.out); (case side3 => exact oc_ HR0_2.out); (case side4 => exact HC0_2.out); (case side5 => exact oc_ HR0_5.out); (case side6 => exact HC0_5.out); rintro e w14 ⟨rfl, hb⟩; refine ⟨_, rfl, ?_⟩; have n0_ := A_ (bb BK846 hb); have n1_ := A_ (below_step (oB HB) hb); clear BK846; clear HB; have BK846 := n0_; have HB := n1_; clear n0_ n1_; (try clear hb); (try clear hb2); (try clear hk); (try clear hi)))
      have n0_ := A_ (blk_drew BK846.out)
      have n1_ := A_ (below_drew1 HB.out)
      clear BK846
      clear HB
      have BK846 := n0_
      have HB := n1_
      clear n0_ n1_
      refine start_ (n := 23) (S := fun w' => True) (ds := []) #[false, false, false, false, false, false, false, false, false, false, false, false, false, false, false, false, false, false, false, false, false, false, false] (by kernel_rfl) rfl rfl trivial (fun hHeld => ?_); refine with_tabW impl_FormatShop.tab3 impl_FormatShop.bits3 (fun HT_ HW_ => ?_)
      generalize w14.drew = w15 at BK846 HB hHeld ⊢
      refine pA 0 (some 9) HT_.out ?_
      refine pA 1 (some 10) HT_.out ?_
      refine pA 5 (some 14) HT_.out ?_
      refine pA 6 (some 15) HT_.out ?_
      refine pA 11 (some 20) HT_.out ?_
      refine pA 16 (some 25) HT_.out ?_
      refine inv_at [2, 3, 4, 7, 8, 9, 10, 12, 13, 14, 15, 17, 18, 19, 20, 21, 22] (fun a0_ b a w' => ∃ (v850 : Value) (v854 : Value) (v858 : Value) (v862 : Value) (m22_ : Value), a = putSel a0_ b [(2, 11, .slice A0_2 l0_2.length c0_2), (3, 12, .string t848), (4, 13, .string ((⟨#[112, 105, 116, 99, 104, 101, 115, 32]⟩ : ByteArray) ++ t848)), (7, 16, .int .i64 a0_1), (8, 17, v850), (9, 18, .string t852), (10, 19, .string ((⟨#[100, 111, 110, 101, 32]⟩ : ByteArray) ++ t852)), (12, 21, .int .i64 a0_3), (13, 22, v854), (14, 23, .string t856), (15, 24, .string ((⟨#[119, 97, 114, 109, 116, 104, 32]⟩ : ByteArray) ++ t856)), (17, 26, .int .i64 a0_4), (18, 27, v858), (19, 28, .string t860), (20, 29, .string ((⟨#[109, 111, 109, 101, 110, 116, 32]⟩ : ByteArray) ++ t860)), (21, 30, v862), (22, 3, m22_)] ∧ (w'.heap[gb846]? = some (.cells #[.slice A0_0 l0_0.length c0_0, .int .i64 a0_1, .slice A0_2 l0_2.length c0_2, .int .i64 a0_3, .int .i64 a0_4, .slice A0_5 l0_5.length c0_5] 44 (0, 0))) ∧ (Below w.heap.size w w') ∧ (b 8 = true → Kd.R (Kd.int .i64) 3 w' w.heap.size (fun _ => True) v850 y849) ∧ (b 13 = true → Kd.R (Kd.int .i64) 3 w' w.heap.size (fun _ => True) v854 y853) ∧ (b 18 = true → Kd.R (Kd.int .i64) 3 w' w.heap.size (fun _ => True) v858 y857) ∧ (b 21 = true → Kd.R Kd.string 9 w' w.heap.size (fun _ => True) v862 y861) ∧ (b 22 = true → (m22_ : Value) = v862)) HT_.out HW_.out (by kernel_rfl) (by kernel_rfl) ?_ ?_ ?_
      ·exact ⟨.bool false, .bool false, .bool false, .bool false, .bool false, by simp only [putSel, Bool.false_eq_true, if_false], BK846.out, HB.out, fun h_ => absurd h_ (by decide), fun h_ => absurd h_ (by decide), fun h_ => absurd h_ (by decide), fun h_ => absurd h_ (by decide), fun h_ => absurd h_ (by decide)⟩
      ·skip
       clear BK846 HB
       refine steps_cons ?_ ?_
       ·rintro b a w' ⟨v850, v854, v858, v862, m22_, ha, Q_BK846, Q_HB, Q_HO851, Q_HO855, Q_HO859, Q_HO863, Q_X22_⟩ hb_ hon hoff
        refine ⟨_, rfl, fun K hK => ?_⟩
        have e10 : a.tmps[10]? = some (.pointer (some ⟨gb846, 2, none⟩)) := by rw [ha]; exact (putSel_off rfl).trans rfl
        replace ha := A_ ha
        have BK846 := A_ Q_BK846
        have HB := A_ Q_HB
        have hc0_ : w'.cell? ⟨gb846, 0, none⟩ = some (.slice A0_0 l0_0.length c0_0) := cz BK846 0
        have hc1_ : w'.cell? ⟨gb846, 1, none⟩ = some (.int .i64 a0_1) := cz BK846 1
        have hc2_ : w'.cell? ⟨gb846, 2, none⟩ = some (.slice A0_2 l0_2.length c0_2) := cz BK846 2
        have hc3_ : w'.cell? ⟨gb846, 3, none⟩ = some (.int .i64 a0_3) := cz BK846 3
        have hc4_ : w'.cell? ⟨gb846, 4, none⟩ = some (.int .i64 a0_4) := cz BK846 4
        have hc5_ : w'.cell? ⟨gb846, 5, none⟩ = some (.slice A0_5 l0_5.length c0_5) := cz BK846 5
        refine value_ (w1 := w') (v := .slice A0_2 l0_2.length c0_2) (by rfl) rfl ?_ ?_
        ·go_simp
         (try simp only [i64_w])
         try rfl
        refine hK.out _ _ ⟨v850, v854, v858, v862, m22_, (by rw [ha.out]; exact putSel_upk 0 hb_ rfl rfl rfl), Q_BK846, Q_HB, Q_HO851, Q_HO855, Q_HO859, fun h0_ => absurd ((hoff 21 (by kernel_rfl)).symm.trans h0_) (by decide), fun h0_ => absurd ((hoff 22 (by kernel_rfl)).symm.trans h0_) (by decide)⟩
       refine steps_cons ?_ ?_
       ·rintro b a w' ⟨v850, v854, v858, v862, m22_, ha, Q_BK846, Q_HB, Q_HO851, Q_HO855, Q_HO859, Q_HO863, Q_X22_⟩ hb_ hon hoff
        refine ⟨_, rfl, fun K hK => ?_⟩
        have e11 : a.tmps[11]? = some (.slice A0_2 l0_2.length c0_2) := by rw [ha]; exact putSel_on (e := (2, 11, .slice A0_2 l0_2.length c0_2)) 0 rfl rfl (hon 2 (by kernel_rfl)) rfl
        replace ha := A_ ha
        have BK846 := A_ Q_BK846
        have HB := A_ Q_HB
        refine goes_ Tryd.func34 (by kernel_rfl) rfl #[.slice A0_2 l0_2.length c0_2] (by rfl) rfl rfl (by first | (simp only [List.map_toArray, List.map_cons, List.map_nil, Act.eval, Array.getD_eq_getD_getElem?, Option.getD_some, e11]; done) | (simp only [List.map_toArray, List.map_cons, List.map_nil, Act.eval, Array.getD_eq_getD_getElem?, Option.getD_some, e11]; rfl)) ?_
        with_reducible refine (impl_words.calls k _ _ l0_2 t848 _ ?side1 ?side2 A4.out ?sideT).mono ?_
        (case sideT => exact ⟨tab_on ht_.out (oB HB)⟩)
        (case side1 => exact oc_ HR0_2.out)
        (case side2 => exact HC0_2.out)
        rintro e w16 ⟨rfl, hb⟩
        refine ⟨_, rfl, ?_⟩
        have n0_ := A_ (bb BK846 hb)
        have n1_ := A_ (below_step (oB HB) hb)
        have z_HO851 := fun (h0_ : b 8 = true) => (show Kd.R (Kd.int .i64) 3 w16 w.heap.size (fun _ => True) v850 y849 from by first | exact (Kd.R_below (by (with_reducible repeat (first | apply Kd.R_alloc | apply Kd.R_drewN | apply Kd.R_drew)); exact (Q_HO851 h0_)) hb) | exact Kd.R_mono (Kd.R_below (by (with_reducible repeat (first | apply Kd.R_alloc | apply Kd.R_drewN | apply Kd.R_drew)); exact (Q_HO851 h0_)) hb) (fun _ h_ => by first | trivial | exact h_ | exact h_.1))
        have z_HO855 := fun (h0_ : b 13 = true) => (show Kd.R (Kd.int .i64) 3 w16 w.heap.size (fun _ => True) v854 y853 from by first | exact (Kd.R_below (by (with_reducible repeat (first | apply Kd.R_alloc | apply Kd.R_drewN | apply Kd.R_drew)); exact (Q_HO855 h0_)) hb) | exact Kd.R_mono (Kd.R_below (by (with_reducible repeat (first | apply Kd.R_alloc | apply Kd.R_drewN | apply Kd.R_drew)); exact (Q_HO855 h0_)) hb) (fun _ h_ => by first | trivial | exact h_ | exact h_.1))
        have z_HO859 := fun (h0_ : b 18 = true) => (show Kd.R (Kd.int .i64) 3 w16 w.heap.size (fun _ => True) v858 y857 from by first | exact (Kd.R_below (by (with_reducible repeat (first | apply Kd.R_alloc | apply Kd.R_drewN | apply Kd.R_drew)); exact (Q_HO859 h0_)) hb) | exact Kd.R_mono (Kd.R_below (by (with_reducible repeat (first | apply Kd.R_alloc | apply Kd.R_drewN | apply Kd.R_drew)); exact (Q_HO859 h0_)) hb) (fun _ h_ => by first | trivial | exact h_ | exact h_.1))
        clear BK846
        clear HB
        have BK846 := n0_
        have HB := n1_
        clear n0_ n1_
        (try clear hb)
        (try clear hb2)
        (try clear hk)
        (try clear hi)
        refine hK.out _ _ ⟨v850, v854, v858, v862, m22_, (by rw [ha.out]; exact putSel_upk 1 hb_ rfl rfl rfl), (oK BK846), (oB HB), z_HO851, z_HO855, z_HO859, fun h0_ => absurd ((hoff 21 (by kernel_rfl)).symm.trans h0_) (by decide), fun h0_ => absurd ((hoff 22 (by kernel_rfl)).symm.trans h0_) (by decide)⟩
       refine steps_cons ?_ ?_
       ·rintro b a w' ⟨v850, v854, v858, v862, m22_, ha, Q_BK846, Q_HB, Q_HO851, Q_HO855, Q_HO859, Q_HO863, Q_X22_⟩ hb_ hon hoff
        refine ⟨_, rfl, fun K hK => ?_⟩
        have e12 : a.tmps[12]? = some (.string t848) := by rw [ha]; exact putSel_on (e := (3, 12, .string t848)) 1 rfl rfl (hon 3 (by kernel_rfl)) rfl
        replace ha := A_ ha
        have BK846 := A_ Q_BK846
        have HB := A_ Q_HB
        refine value_ (w1 := w') (v := .string ((⟨#[112, 105, 116, 99, 104, 101, 115, 32]⟩ : ByteArray) ++ t848)) (by rfl) rfl ?_ ?_
        ·go_simp
         (try simp only [i64_w])
         try rfl
        refine hK.out _ _ ⟨v850, v854, v858, v862, m22_, (by rw [ha.out]; exact putSel_upk 2 hb_ rfl rfl rfl), Q_BK846, Q_HB, Q_HO851, Q_HO855, Q_HO859, fun h0_ => absurd ((hoff 21 (by kernel_rfl)).symm.trans h0_) (by decide), fun h0_ => absurd ((hoff 22 (by kernel_rfl)).symm.trans h0_) (by decide)⟩
       refine steps_cons ?_ ?_
       ·rintro b a w' ⟨v850, v854, v858, v862, m22_, ha, Q_BK846, Q_HB, Q_HO851, Q_HO855, Q_HO859, Q_HO863, Q_X22_⟩ hb_ hon hoff
        refine ⟨_, rfl, fun K hK => ?_⟩
        have e15 : a.tmps[15]? = some (.pointer (some ⟨gb846, 1, none⟩)) := by rw [ha]; exact (putSel_off rfl).trans rfl
        replace ha := A_ ha
        have BK846 := A_ Q_BK846
        have HB := A_ Q_HB
        have hc0_ : w'.cell? ⟨gb846, 0, none⟩ = some (.slice A0_0 l0_0.length c0_0) := cz BK846 0
        have hc1_ : w'.cell? ⟨gb846, 1, none⟩ = some (.int .i64 a0_1) := cz BK846 1
        have hc2_ : w'.cell? ⟨gb846, 2, none⟩ = some (.slice A0_2 l0_2.length c0_2) := cz BK846 2
        have hc3_ : w'.cell? ⟨gb846, 3, none⟩ = some (.int .i64 a0_3) := cz BK846 3
        have hc4_ : w'.cell? ⟨gb846, 4, none⟩ = some (.int .i64 a0_4) := cz BK846 4
        have hc5_ : w'.cell? ⟨gb846, 5, none⟩ = some (.slice A0_5 l0_5.length c0_5) := cz BK846 5
        refine value_ (w1 := w') (v := .int .i64 a0_1) (by rfl) rfl ?_ ?_
        ·go_simp
         (try simp only [i64_w])
         try rfl
        refine hK.out _ _ ⟨v850, v854, v858, v862, m22_, (by rw [ha.out]; exact putSel_upk 3 hb_ rfl rfl rfl), Q_BK846, Q_HB, fun h0_ => absurd ((hoff 8 (by kernel_rfl)).symm.trans h0_) (by decide), Q_HO855, Q_HO859, fun h0_ => absurd ((hoff 21 (by kernel_rfl)).symm.trans h0_) (by decide), fun h0_ => absurd ((hoff 22 (by kernel_rfl)).symm.trans h0_) (by decide)⟩
       refine steps_cons ?_ ?_
       ·rintro b a w' ⟨v850, v854, v858, v862, m22_, ha, Q_BK846, Q_HB, Q_HO851, Q_HO855, Q_HO859, Q_HO863, Q_X22_⟩ hb_ hon hoff
        refine ⟨_, rfl, fun K hK => ?_⟩
        have e16 : a.tmps[16]? = some (.int .i64 a0_1) := by rw [ha]; exact putSel_on (e := (7, 16, .int .i64 a0_1)) 3 rfl rfl (hon 7 (by kernel_rfl)) rfl
        replace ha := A_ ha
        have BK846 := A_ Q_BK846
        have HB := A_ Q_HB
        refine Kd.R_lit_step (Kd.int .i64) _ 3 ?hg (N := 17) ?hd (xs := ([a0_1] : List Int)) (inner := [.int .i64 a0_1]) (ok := fun _ => True) (okp := fun _ => True) ?hr ?hp (fun _ hk => hk) trivial (Below.refl _ _) (Nat.le_refl _) (by simp) ?_; (case hd => rfl); (case hg => rfl); (case hr => first | (go_simp; done) | (go_simp; rfl)); (case hp => exact (Reps.one (show Kd.M (Kd.int .i64) _ _ _ a0_1 [.int .i64 a0_1] from rfl) (Reps.none _ _)))
        intro v850 w16 ho17 hb hg_ hnew_
        clear hg_ hnew_
        (first | rw [← Ny849.out] at ho17 | (simp only [Int.reduceToNat] at ho17; rw [← Ny849.out] at ho17))
        have n0_ := A_ (Kd.R_lower ho17 (below_size (oB HB)))
        have n1_ := A_ (bb BK846 hb)
        have n2_ := A_ (below_step (oB HB) hb)
        have z_HO855 := fun (h0_ : b 13 = true) => (show Kd.R (Kd.int .i64) 3 w16 w.heap.size (fun _ => True) v854 y853 from by first | exact (Kd.R_elder' (by (with_reducible repeat (first | apply Kd.R_alloc | apply Kd.R_drewN | apply Kd.R_drew)); exact (Q_HO855 h0_)) (Kd.R_base ho17) hb) | exact Kd.R_mono (Kd.R_elder' (by (with_reducible repeat (first | apply Kd.R_alloc | apply Kd.R_drewN | apply Kd.R_drew)); exact (Q_HO855 h0_)) (Kd.R_base ho17) hb) (fun _ h_ => by first | trivial | exact h_ | exact h_.1))
        have z_HO859 := fun (h0_ : b 18 = true) => (show Kd.R (Kd.int .i64) 3 w16 w.heap.size (fun _ => True) v858 y857 from by first | exact (Kd.R_elder' (by (with_reducible repeat (first | apply Kd.R_alloc | apply Kd.R_drewN | apply Kd.R_drew)); exact (Q_HO859 h0_)) (Kd.R_base ho17) hb) | exact Kd.R_mono (Kd.R_elder' (by (with_reducible repeat (first | apply Kd.R_alloc | apply Kd.R_drewN | apply Kd.R_drew)); exact (Q_HO859 h0_)) (Kd.R_base ho17) hb) (fun _ h_ => by first | trivial | exact h_ | exact h_.1))
        clear BK846
        clear HB
        have HO851 := n0_
        have BK846 := n1_
        have HB := n2_
        clear n0_ n1_ n2_
        clear hb ho17
        refine hK.out _ _ ⟨v850, v854, v858, v862, m22_, (by rw [ha.out]; exact putSel_upk 4 hb_ rfl rfl rfl), (oK BK846), (oB HB), fun _ => (oR HO851), z_HO855, z_HO859, fun h0_ => absurd ((hoff 21 (by kernel_rfl)).symm.trans h0_) (by decide), fun h0_ => absurd ((hoff 22 (by kernel_rfl)).symm.trans h0_) (by decide)⟩
       refine steps_cons ?_ ?_
       ·rintro b a w' ⟨v850, v854, v858, v862, m22_, ha, Q_BK846, Q_HB, Q_HO851, Q_HO855, Q_HO859, Q_HO863, Q_X22_⟩ hb_ hon hoff
        refine ⟨_, rfl, fun K hK => ?_⟩
        have e17 : a.tmps[17]? = some (v850) := by rw [ha]; exact putSel_on (e := (8, 17, v850)) 4 rfl rfl (hon 8 (by kernel_rfl)) rfl
        replace ha := A_ ha
        have BK846 := A_ Q_BK846
        have HB := A_ Q_HB
        have HO851 := A_ (Q_HO851 (hon 8 (by kernel_rfl)))
        obtain ⟨Ao20, co20, eo20⟩ := Kd.R_slice HO851.out
        (first | subst eo20 | (injection eo20 with f1_ f2_ f3_; have f4_ := f1_.symm; have f5_ := f3_.symm; clear f1_ f2_ f3_; subst f4_; subst f5_))
        refine goes_ Tryd.func34 (by kernel_rfl) rfl #[.slice Ao20 y849.length co20] (by rfl) rfl rfl (by first | (simp only [List.map_toArray, List.map_cons, List.map_nil, Act.eval, Array.getD_eq_getD_getElem?, Option.getD_some, e17]; done) | (simp only [List.map_toArray, List.map_cons, List.map_nil, Act.eval, Array.getD_eq_getD_getElem?, Option.getD_some, e17]; rfl)) ?_
        with_reducible refine (impl_words.calls k _ _ y849 t852 _ ?side1 ?side2 A6.out ?sideT).mono ?_
        (case sideT => exact ⟨tab_on ht_.out (oB HB)⟩)
        (case side1 => repeat (first | exact (Kd.R_reads' HO851.out).2.2 | (with_reducible refine Kd.C_alloc ?_ _) | (with_reducible refine Kd.C_drewN ?_ _) | (with_reducible refine Kd.C_drew ?_)))
        (case side2 => exact (Kd.R_reads' HO851.out).2.1)
        rintro e w21 ⟨rfl, hb⟩
        refine ⟨_, rfl, ?_⟩
        have n0_ := A_ (Kd.R_below (oR HO851) hb)
        have n1_ := A_ (bb BK846 hb)
        have n2_ := A_ (below_step (oB HB) hb)
        have z_HO855 := fun (h0_ : b 13 = true) => (show Kd.R (Kd.int .i64) 3 w21 w.heap.size (fun _ => True) v854 y853 from by first | exact (Kd.R_below (by (with_reducible repeat (first | apply Kd.R_alloc | apply Kd.R_drewN | apply Kd.R_drew)); exact (Q_HO855 h0_)) hb) | exact Kd.R_mono (Kd.R_below (by (with_reducible repeat (first | apply Kd.R_alloc | apply Kd.R_drewN | apply Kd.R_drew)); exact (Q_HO855 h0_)) hb) (fun _ h_ => by first | trivial | exact h_ | exact h_.1))
        have z_HO859 := fun (h0_ : b 18 = true) => (show Kd.R (Kd.int .i64) 3 w21 w.heap.size (fun _ => True) v858 y857 from by first | exact (Kd.R_below (by (with_reducible repeat (first | apply Kd.R_alloc | apply Kd.R_drewN | apply Kd.R_drew)); exact (Q_HO859 h0_)) hb) | exact Kd.R_mono (Kd.R_below (by (with_reducible repeat (first | apply Kd.R_alloc | apply Kd.R_drewN | apply Kd.R_drew)); exact (Q_HO859 h0_)) hb) (fun _ h_ => by first | trivial | exact h_ | exact h_.1))
        clear HO851
        clear BK846
        clear HB
        have HO851 := n0_
        have BK846 := n1_
        have HB := n2_
        clear n0_ n1_ n2_
        (try clear hb)
        (try clear hb2)
        (try clear hk)
        (try clear hi)
        refine hK.out _ _ ⟨.slice Ao20 y849.length co20, v854, v858, v862, m22_, (by rw [ha.out]; exact putSel_upk 5 hb_ rfl rfl rfl), (oK BK846), (oB HB), fun _ => (oR HO851), z_HO855, z_HO859, fun h0_ => absurd ((hoff 21 (by kernel_rfl)).symm.trans h0_) (by decide), fun h0_ => absurd ((hoff 22 (by kernel_rfl)).symm.trans h0_) (by decide)⟩
       refine steps_cons ?_ ?_
       ·rintro b a w' ⟨v850, v854, v858, v862, m22_, ha, Q_BK846, Q_HB, Q_HO851, Q_HO855, Q_HO859, Q_HO863, Q_X22_⟩ hb_ hon hoff
        refine ⟨_, rfl, fun K hK => ?_⟩
        have e18 : a.tmps[18]? = some (.string t852) := by rw [ha]; exact putSel_on (e := (9, 18, .string t852)) 5 rfl rfl (hon 9 (by kernel_rfl)) rfl
        replace ha := A_ ha
        have BK846 := A_ Q_BK846
        have HB := A_ Q_HB
        have HO851 := A_ (Q_HO851 (hon 8 (by kernel_rfl)))
        refine value_ (w1 := w') (v := .string ((⟨#[100, 111, 110, 101, 32]⟩ : ByteArray) ++ t852)) (by rfl) rfl ?_ ?_
        ·go_simp
         (try simp only [i64_w])
         try rfl
        refine hK.out _ _ ⟨v850, v854, v858, v862, m22_, (by rw [ha.out]; exact putSel_upk 6 hb_ rfl rfl rfl), Q_BK846, Q_HB, Q_HO851, Q_HO855, Q_HO859, fun h0_ => absurd ((hoff 21 (by kernel_rfl)).symm.trans h0_) (by decide), fun h0_ => absurd ((hoff 22 (by kernel_rfl)).symm.trans h0_) (by decide)⟩
       refine steps_cons ?_ ?_
       ·rintro b a w' ⟨v850, v854, v858, v862, m22_, ha, Q_BK846, Q_HB, Q_HO851, Q_HO855, Q_HO859, Q_HO863, Q_X22_⟩ hb_ hon hoff
        refine ⟨_, rfl, fun K hK => ?_⟩
        have e20 : a.tmps[20]? = some (.pointer (some ⟨gb846, 3, none⟩)) := by rw [ha]; exact (putSel_off rfl).trans rfl
        replace ha := A_ ha
        have BK846 := A_ Q_BK846
        have HB := A_ Q_HB
        have hc0_ : w'.cell? ⟨gb846, 0, none⟩ = some (.slice A0_0 l0_0.length c0_0) := cz BK846 0
        have hc1_ : w'.cell? ⟨gb846, 1, none⟩ = some (.int .i64 a0_1) := cz BK846 1
        have hc2_ : w'.cell? ⟨gb846, 2, none⟩ = some (.slice A0_2 l0_2.length c0_2) := cz BK846 2
        have hc3_ : w'.cell? ⟨gb846, 3, none⟩ = some (.int .i64 a0_3) := cz BK846 3
        have hc4_ : w'.cell? ⟨gb846, 4, none⟩ = some (.int .i64 a0_4) := cz BK846 4
        have hc5_ : w'.cell? ⟨gb846, 5, none⟩ = some (.slice A0_5 l0_5.length c0_5) := cz BK846 5
        refine value_ (w1 := w') (v := .int .i64 a0_3) (by rfl) rfl ?_ ?_
        ·go_simp
         (try simp only [i64_w])
         try rfl
        refine hK.out _ _ ⟨v850, v854, v858, v862, m22_, (by rw [ha.out]; exact putSel_upk 7 hb_ rfl rfl rfl), Q_BK846, Q_HB, Q_HO851, fun h0_ => absurd ((hoff 13 (by kernel_rfl)).symm.trans h0_) (by decide), Q_HO859, fun h0_ => absurd ((hoff 21 (by kernel_rfl)).symm.trans h0_) (by decide), fun h0_ => absurd ((hoff 22 (by kernel_rfl)).symm.trans h0_) (by decide)⟩
       refine steps_cons ?_ ?_
       ·rintro b a w' ⟨v850, v854, v858, v862, m22_, ha, Q_BK846, Q_HB, Q_HO851, Q_HO855, Q_HO859, Q_HO863, Q_X22_⟩ hb_ hon hoff
        refine ⟨_, rfl, fun K hK => ?_⟩
        have e21 : a.tmps[21]? = some (.int .i64 a0_3) := by rw [ha]; exact putSel_on (e := (12, 21, .int .i64 a0_3)) 7 rfl rfl (hon 12 (by kernel_rfl)) rfl
        replace ha := A_ ha
        have BK846 := A_ Q_BK846
        have HB := A_ Q_HB
        refine Kd.R_lit_step (Kd.int .i64) _ 3 ?hg (N := 22) ?hd (xs := ([a0_3] : List Int)) (inner := [.int .i64 a0_3]) (ok := fun _ => True) (okp := fun _ => True) ?hr ?hp (fun _ hk => hk) trivial (Below.refl _ _) (Nat.le_refl _) (by simp) ?_; (case hd => rfl); (case hg => rfl); (case hr => first | (go_simp; done) | (go_simp; rfl)); (case hp => exact (Reps.one (show Kd.M (Kd.int .i64) _ _ _ a0_3 [.int .i64 a0_3] from rfl) (Reps.none _ _)))
        intro v854 w16 ho17 hb hg_ hnew_
        clear hg_ hnew_
        (first | rw [← Ny853.out] at ho17 | (simp only [Int.reduceToNat] at ho17; rw [← Ny853.out] at ho17))
        have n0_ := A_ (Kd.R_lower ho17 (below_size (oB HB)))
        have n1_ := A_ (bb BK846 hb)
        have n2_ := A_ (below_step (oB HB) hb)
        have z_HO851 := fun (h0_ : b 8 = true) => (show Kd.R (Kd.int .i64) 3 w16 w.heap.size (fun _ => True) v850 y849 from by first | exact (Kd.R_elder' (by (with_reducible repeat (first | apply Kd.R_alloc | apply Kd.R_drewN | apply Kd.R_drew)); exact (Q_HO851 h0_)) (Kd.R_base ho17) hb) | exact Kd.R_mono (Kd.R_elder' (by (with_reducible repeat (first | apply Kd.R_alloc | apply Kd.R_drewN | apply Kd.R_drew)); exact (Q_HO851 h0_)) (Kd.R_base ho17) hb) (fun _ h_ => by first | trivial | exact h_ | exact h_.1))
        have z_HO859 := fun (h0_ : b 18 = true) => (show Kd.R (Kd.int .i64) 3 w16 w.heap.size (fun _ => True) v858 y857 from by first | exact (Kd.R_elder' (by (with_reducible repeat (first | apply Kd.R_alloc | apply Kd.R_drewN | apply Kd.R_drew)); exact (Q_HO859 h0_)) (Kd.R_base ho17) hb) | exact Kd.R_mono (Kd.R_elder' (by (with_reducible repeat (first | apply Kd.R_alloc | apply Kd.R_drewN | apply Kd.R_drew)); exact (Q_HO859 h0_)) (Kd.R_base ho17) hb) (fun _ h_ => by first | trivial | exact h_ | exact h_.1))
        clear BK846
        clear HB
        have HO855 := n0_
        have BK846 := n1_
        have HB := n2_
        clear n0_ n1_ n2_
        clear hb ho17
        refine hK.out _ _ ⟨v850, v854, v858, v862, m22_, (by rw [ha.out]; exact putSel_upk 8 hb_ rfl rfl rfl), (oK BK846), (oB HB), z_HO851, fun _ => (oR HO855), z_HO859, fun h0_ => absurd ((hoff 21 (by kernel_rfl)).symm.trans h0_) (by decide), fun h0_ => absurd ((hoff 22 (by kernel_rfl)).symm.trans h0_) (by decide)⟩
       refine steps_cons ?_ ?_
       ·rintro b a w' ⟨v850, v854, v858, v862, m22_, ha, Q_BK846, Q_HB, Q_HO851, Q_HO855, Q_HO859, Q_HO863, Q_X22_⟩ hb_ hon hoff
        refine ⟨_, rfl, fun K hK => ?_⟩
        have e22 : a.tmps[22]? = some (v854) := by rw [ha]; exact putSel_on (e := (13, 22, v854)) 8 rfl rfl (hon 13 (by kernel_rfl)) rfl
        replace ha := A_ ha
        have BK846 := A_ Q_BK846
        have HB := A_ Q_HB
        have HO851 := A_ (Q_HO851 (hon 8 (by kernel_rfl)))
        have HO855 := A_ (Q_HO855 (hon 13 (by kernel_rfl)))
        obtain ⟨Ao24, co24, eo24⟩ := Kd.R_slice HO855.out
        (first | subst eo24 | (injection eo24 with f1_ f2_ f3_; have f4_ := f1_.symm; have f5_ := f3_.symm; clear f1_ f2_ f3_; subst f4_; subst f5_))
        refine goes_ Tryd.func34 (by kernel_rfl) rfl #[.slice Ao24 y853.length co24] (by rfl) rfl rfl (by first | (simp only [List.map_toArray, List.map_cons, List.map_nil, Act.eval, Array.getD_eq_getD_getElem?, Option.getD_some, e22]; done) | (simp only [List.map_toArray, List.map_cons, List.map_nil, Act.eval, Array.getD_eq_getD_getElem?, Option.getD_some, e22]; rfl)) ?_
        with_reducible refine (impl_words.calls k _ _ y853 t856 _ ?side1 ?side2 A8.out ?sideT).mono ?_
        (case sideT => exact ⟨tab_on ht_.out (oB HB)⟩)
        (case side1 => repeat (first | exact (Kd.R_reads' HO855.out).2.2 | (with_reducible refine Kd.C_alloc ?_ _) | (with_reducible refine Kd.C_drewN ?_ _) | (with_reducible refine Kd.C_drew ?_)))
        (case side2 => exact (Kd.R_reads' HO855.out).2.1)
        rintro e w25 ⟨rfl, hb⟩
        refine ⟨_, rfl, ?_⟩
        have n0_ := A_ (Kd.R_below (oR HO851) hb)
        have n1_ := A_ (Kd.R_below (oR HO855) hb)
        have n2_ := A_ (bb BK846 hb)
        have n3_ := A_ (below_step (oB HB) hb)
        have z_HO859 := fun (h0_ : b 18 = true) => (show Kd.R (Kd.int .i64) 3 w25 w.heap.size (fun _ => True) v858 y857 from by first | exact (Kd.R_below (by (with_reducible repeat (first | apply Kd.R_alloc | apply Kd.R_drewN | apply Kd.R_drew)); exact (Q_HO859 h0_)) hb) | exact Kd.R_mono (Kd.R_below (by (with_reducible repeat (first | apply Kd.R_alloc | apply Kd.R_drewN | apply Kd.R_drew)); exact (Q_HO859 h0_)) hb) (fun _ h_ => by first | trivial | exact h_ | exact h_.1))
        clear HO851
        clear HO855
        clear BK846
        clear HB
        have HO851 := n0_
        have HO855 := n1_
        have BK846 := n2_
        have HB := n3_
        clear n0_ n1_ n2_ n3_
        (try clear hb)
        (try clear hb2)
        (try clear hk)
        (try clear hi)
        refine hK.out _ _ ⟨v850, .slice Ao24 y853.length co24, v858, v862, m22_, (by rw [ha.out]; exact putSel_upk 9 hb_ rfl rfl rfl), (oK BK846), (oB HB), fun _ => (oR HO851), fun _ => (oR HO855), z_HO859, fun h0_ => absurd ((hoff 21 (by kernel_rfl)).symm.trans h0_) (by decide), fun h0_ => absurd ((hoff 22 (by kernel_rfl)).symm.trans h0_) (by decide)⟩
       refine steps_cons ?_ ?_
       ·rintro b a w' ⟨v850, v854, v858, v862, m22_, ha, Q_BK846, Q_HB, Q_HO851, Q_HO855, Q_HO859, Q_HO863, Q_X22_⟩ hb_ hon hoff
        refine ⟨_, rfl, fun K hK => ?_⟩
        have e23 : a.tmps[23]? = some (.string t856) := by rw [ha]; exact putSel_on (e := (14, 23, .string t856)) 9 rfl rfl (hon 14 (by kernel_rfl)) rfl
        replace ha := A_ ha
        have BK846 := A_ Q_BK846
        have HB := A_ Q_HB
        have HO851 := A_ (Q_HO851 (hon 8 (by kernel_rfl)))
        have HO855 := A_ (Q_HO855 (hon 13 (by kernel_rfl)))
        refine value_ (w1 := w') (v := .string ((⟨#[119, 97, 114, 109, 116, 104, 32]⟩ : ByteArray) ++ t856)) (by rfl) rfl ?_ ?_
        ·go_simp
         (try simp only [i64_w])
         try rfl
        refine hK.out _ _ ⟨v850, v854, v858, v862, m22_, (by rw [ha.out]; exact putSel_upk 10 hb_ rfl rfl rfl), Q_BK846, Q_HB, Q_HO851, Q_HO855, Q_HO859, fun h0_ => absurd ((hoff 21 (by kernel_rfl)).symm.trans h0_) (by decide), fun h0_ => absurd ((hoff 22 (by kernel_rfl)).symm.trans h0_) (by decide)⟩
       refine steps_cons ?_ ?_
       ·rintro b a w' ⟨v850, v854, v858, v862, m22_, ha, Q_BK846, Q_HB, Q_HO851, Q_HO855, Q_HO859, Q_HO863, Q_X22_⟩ hb_ hon hoff
        refine ⟨_, rfl, fun K hK => ?_⟩
        have e25 : a.tmps[25]? = some (.pointer (some ⟨gb846, 4, none⟩)) := by rw [ha]; exact (putSel_off rfl).trans rfl
        replace ha := A_ ha
        have BK846 := A_ Q_BK846
        have HB := A_ Q_HB
        have hc0_ : w'.cell? ⟨gb846, 0, none⟩ = some (.slice A0_0 l0_0.length c0_0) := cz BK846 0
        have hc1_ : w'.cell? ⟨gb846, 1, none⟩ = some (.int .i64 a0_1) := cz BK846 1
        have hc2_ : w'.cell? ⟨gb846, 2, none⟩ = some (.slice A0_2 l0_2.length c0_2) := cz BK846 2
        have hc3_ : w'.cell? ⟨gb846, 3, none⟩ = some (.int .i64 a0_3) := cz BK846 3
        have hc4_ : w'.cell? ⟨gb846, 4, none⟩ = some (.int .i64 a0_4) := cz BK846 4
        have hc5_ : w'.cell? ⟨gb846, 5, none⟩ = some (.slice A0_5 l0_5.length c0_5) := cz BK846 5
        refine value_ (w1 := w') (v := .int .i64 a0_4) (by rfl) rfl ?_ ?_
        ·go_simp
         (try simp only [i64_w])
         try rfl
        refine hK.out _ _ ⟨v850, v854, v858, v862, m22_, (by rw [ha.out]; exact putSel_upk 11 hb_ rfl rfl rfl), Q_BK846, Q_HB, Q_HO851, Q_HO855, fun h0_ => absurd ((hoff 18 (by kernel_rfl)).symm.trans h0_) (by decide), fun h0_ => absurd ((hoff 21 (by kernel_rfl)).symm.trans h0_) (by decide), fun h0_ => absurd ((hoff 22 (by kernel_rfl)).symm.trans h0_) (by decide)⟩
       refine steps_cons ?_ ?_
       ·rintro b a w' ⟨v850, v854, v858, v862, m22_, ha, Q_BK846, Q_HB, Q_HO851, Q_HO855, Q_HO859, Q_HO863, Q_X22_⟩ hb_ hon hoff
        refine ⟨_, rfl, fun K hK => ?_⟩
        have e26 : a.tmps[26]? = some (.int .i64 a0_4) := by rw [ha]; exact putSel_on (e := (17, 26, .int .i64 a0_4)) 11 rfl rfl (hon 17 (by kernel_rfl)) rfl
        replace ha := A_ ha
        have BK846 := A_ Q_BK846
        have HB := A_ Q_HB
        refine Kd.R_lit_step (Kd.int .i64) _ 3 ?hg (N := 27) ?hd (xs := ([a0_4] : List Int)) (inner := [.int .i64 a0_4]) (ok := fun _ => True) (okp := fun _ => True) ?hr ?hp (fun _ hk => hk) trivial (Below.refl _ _) (Nat.le_refl _) (by simp) ?_; (case hd => rfl); (case hg => rfl); (case hr => first | (go_simp; done) | (go_simp; rfl)); (case hp => exact (Reps.one (show Kd.M (Kd.int .i64) _ _ _ a0_4 [.int .i64 a0_4] from rfl) (Reps.none _ _)))
        intro v858 w16 ho17 hb hg_ hnew_
        clear hg_ hnew_
        (first | rw [← Ny857.out] at ho17 | (simp only [Int.reduceToNat] at ho17; rw [← Ny857.out] at ho17))
        have n0_ := A_ (Kd.R_lower ho17 (below_size (oB HB)))
        have n1_ := A_ (bb BK846 hb)
        have n2_ := A_ (below_step (oB HB) hb)
        have z_HO851 := fun (h0_ : b 8 = true) => (show Kd.R (Kd.int .i64) 3 w16 w.heap.size (fun _ => True) v850 y849 from by first | exact (Kd.R_elder' (by (with_reducible repeat (first | apply Kd.R_alloc | apply Kd.R_drewN | apply Kd.R_drew)); exact (Q_HO851 h0_)) (Kd.R_base ho17) hb) | exact Kd.R_mono (Kd.R_elder' (by (with_reducible repeat (first | apply Kd.R_alloc | apply Kd.R_drewN | apply Kd.R_drew)); exact (Q_HO851 h0_)) (Kd.R_base ho17) hb) (fun _ h_ => by first | trivial | exact h_ | exact h_.1))
        have z_HO855 := fun (h0_ : b 13 = true) => (show Kd.R (Kd.int .i64) 3 w16 w.heap.size (fun _ => True) v854 y853 from by first | exact (Kd.R_elder' (by (with_reducible repeat (first | apply Kd.R_alloc | apply Kd.R_drewN | apply Kd.R_drew)); exact (Q_HO855 h0_)) (Kd.R_base ho17) hb) | exact Kd.R_mono (Kd.R_elder' (by (with_reducible repeat (first | apply Kd.R_alloc | apply Kd.R_drewN | apply Kd.R_drew)); exact (Q_HO855 h0_)) (Kd.R_base ho17) hb) (fun _ h_ => by first | trivial | exact h_ | exact h_.1))
        clear BK846
        clear HB
        have HO859 := n0_
        have BK846 := n1_
        have HB := n2_
        clear n0_ n1_ n2_
        clear hb ho17
        refine hK.out _ _ ⟨v850, v854, v858, v862, m22_, (by rw [ha.out]; exact putSel_upk 12 hb_ rfl rfl rfl), (oK BK846), (oB HB), z_HO851, z_HO855, fun _ => (oR HO859), fun h0_ => absurd ((hoff 21 (by kernel_rfl)).symm.trans h0_) (by decide), fun h0_ => absurd ((hoff 22 (by kernel_rfl)).symm.trans h0_) (by decide)⟩
       refine steps_cons ?_ ?_
       ·rintro b a w' ⟨v850, v854, v858, v862, m22_, ha, Q_BK846, Q_HB, Q_HO851, Q_HO855, Q_HO859, Q_HO863, Q_X22_⟩ hb_ hon hoff
        refine ⟨_, rfl, fun K hK => ?_⟩
        have e27 : a.tmps[27]? = some (v858) := by rw [ha]; exact putSel_on (e := (18, 27, v858)) 12 rfl rfl (hon 18 (by kernel_rfl)) rfl
        replace ha := A_ ha
        have BK846 := A_ Q_BK846
        have HB := A_ Q_HB
        have HO851 := A_ (Q_HO851 (hon 8 (by kernel_rfl)))
        have HO855 := A_ (Q_HO855 (hon 13 (by kernel_rfl)))
        have HO859 := A_ (Q_HO859 (hon 18 (by kernel_rfl)))
        obtain ⟨Ao28, co28, eo28⟩ := Kd.R_slice HO859.out
        (first | subst eo28 | (injection eo28 with f1_ f2_ f3_; have f4_ := f1_.symm; have f5_ := f3_.symm; clear f1_ f2_ f3_; subst f4_; subst f5_))
        refine goes_ Tryd.func34 (by kernel_rfl) rfl #[.slice Ao28 y857.length co28] (by rfl) rfl rfl (by first | (simp only [List.map_toArray, List.map_cons, List.map_nil, Act.eval, Array.getD_eq_getD_getElem?, Option.getD_some, e27]; done) | (simp only [List.map_toArray, List.map_cons, List.map_nil, Act.eval, Array.getD_eq_getD_getElem?, Option.getD_some, e27]; rfl)) ?_
        with_reducible refine (impl_words.calls k _ _ y857 t860 _ ?side1 ?side2 A10.out ?sideT).mono ?_
        (case sideT => exact ⟨tab_on ht_.out (oB HB)⟩)
        (case side1 => repeat (first | exact (Kd.R_reads' HO859.out).2.2 | (with_reducible refine Kd.C_alloc ?_ _) | (with_reducible refine Kd.C_drewN ?_ _) | (with_reducible refine Kd.C_drew ?_)))
        (case side2 => exact (Kd.R_reads' HO859.out).2.1)
        rintro e w29 ⟨rfl, hb⟩
        refine ⟨_, rfl, ?_⟩
        have n0_ := A_ (Kd.R_below (oR HO851) hb)
        have n1_ := A_ (Kd.R_below (oR HO855) hb)
        have n2_ := A_ (Kd.R_below (oR HO859) hb)
        have n3_ := A_ (bb BK846 hb)
        have n4_ := A_ (below_step (oB HB) hb)
        clear HO851
        clear HO855
        clear HO859
        clear BK846
        clear HB
        have HO851 := n0_
        have HO855 := n1_
        have HO859 := n2_
        have BK846 := n3_
        have HB := n4_
        clear n0_ n1_ n2_ n3_ n4_
        (try clear hb)
        (try clear hb2)
        (try clear hk)
        (try clear hi)
        refine hK.out _ _ ⟨v850, v854, .slice Ao28 y857.length co28, v862, m22_, (by rw [ha.out]; exact putSel_upk 13 hb_ rfl rfl rfl), (oK BK846), (oB HB), fun _ => (oR HO851), fun _ => (oR HO855), fun _ => (oR HO859), fun h0_ => absurd ((hoff 21 (by kernel_rfl)).symm.trans h0_) (by decide), fun h0_ => absurd ((hoff 22 (by kernel_rfl)).symm.trans h0_) (by decide)⟩
       refine steps_cons ?_ ?_
       ·rintro b a w' ⟨v850, v854, v858, v862, m22_, ha, Q_BK846, Q_HB, Q_HO851, Q_HO855, Q_HO859, Q_HO863, Q_X22_⟩ hb_ hon hoff
        refine ⟨_, rfl, fun K hK => ?_⟩
        have e28 : a.tmps[28]? = some (.string t860) := by rw [ha]; exact putSel_on (e := (19, 28, .string t860)) 13 rfl rfl (hon 19 (by kernel_rfl)) rfl
        replace ha := A_ ha
        have BK846 := A_ Q_BK846
        have HB := A_ Q_HB
        have HO851 := A_ (Q_HO851 (hon 8 (by kernel_rfl)))
        have HO855 := A_ (Q_HO855 (hon 13 (by kernel_rfl)))
        have HO859 := A_ (Q_HO859 (hon 18 (by kernel_rfl)))
        refine value_ (w1 := w') (v := .string ((⟨#[109, 111, 109, 101, 110, 116, 32]⟩ : ByteArray) ++ t860)) (by rfl) rfl ?_ ?_
        ·go_simp
         (try simp only [i64_w])
         try rfl
        refine hK.out _ _ ⟨v850, v854, v858, v862, m22_, (by rw [ha.out]; exact putSel_upk 14 hb_ rfl rfl rfl), Q_BK846, Q_HB, Q_HO851, Q_HO855, Q_HO859, fun h0_ => absurd ((hoff 21 (by kernel_rfl)).symm.trans h0_) (by decide), fun h0_ => absurd ((hoff 22 (by kernel_rfl)).symm.trans h0_) (by decide)⟩
       refine steps_cons ?_ ?_
       ·rintro b a w' ⟨v850, v854, v858, v862, m22_, ha, Q_BK846, Q_HB, Q_HO851, Q_HO855, Q_HO859, Q_HO863, Q_X22_⟩ hb_ hon hoff
        refine ⟨_, rfl, fun K hK => ?_⟩
        have e13 : a.tmps[13]? = some (.string ((⟨#[112, 105, 116, 99, 104, 101, 115, 32]⟩ : ByteArray) ++ t848)) := by rw [ha]; exact putSel_on (e := (4, 13, .string ((⟨#[112, 105, 116, 99, 104, 101, 115, 32]⟩ : ByteArray) ++ t848))) 2 rfl rfl (hon 4 (by kernel_rfl)) rfl
        have e19 : a.tmps[19]? = some (.string ((⟨#[100, 111, 110, 101, 32]⟩ : ByteArray) ++ t852)) := by rw [ha]; exact putSel_on (e := (10, 19, .string ((⟨#[100, 111, 110, 101, 32]⟩ : ByteArray) ++ t852))) 6 rfl rfl (hon 10 (by kernel_rfl)) rfl
        have e24 : a.tmps[24]? = some (.string ((⟨#[119, 97, 114, 109, 116, 104, 32]⟩ : ByteArray) ++ t856)) := by rw [ha]; exact putSel_on (e := (15, 24, .string ((⟨#[119, 97, 114, 109, 116, 104, 32]⟩ : ByteArray) ++ t856))) 10 rfl rfl (hon 15 (by kernel_rfl)) rfl
        have e29 : a.tmps[29]? = some (.string ((⟨#[109, 111, 109, 101, 110, 116, 32]⟩ : ByteArray) ++ t860)) := by rw [ha]; exact putSel_on (e := (20, 29, .string ((⟨#[109, 111, 109, 101, 110, 116, 32]⟩ : ByteArray) ++ t860))) 14 rfl rfl (hon 20 (by kernel_rfl)) rfl
        replace ha := A_ ha
        have BK846 := A_ Q_BK846
        have HB := A_ Q_HB
        have HO851 := A_ (Q_HO851 (hon 8 (by kernel_rfl)))
        have HO855 := A_ (Q_HO855 (hon 13 (by kernel_rfl)))
        have HO859 := A_ (Q_HO859 (hon 18 (by kernel_rfl)))
        refine Kd.R_lit_step Kd.string _ 9 ?hg (N := 30) ?hd (xs := ([(⟨#[112, 105, 116, 99, 104, 101, 115, 32]⟩ : ByteArray) ++ t848, (⟨#[100, 111, 110, 101, 32]⟩ : ByteArray) ++ t852, (⟨#[119, 97, 114, 109, 116, 104, 32]⟩ : ByteArray) ++ t856, (⟨#[109, 111, 109, 101, 110, 116, 32]⟩ : ByteArray) ++ t860] : List ByteArray)) (inner := [.string ((⟨#[112, 105, 116, 99, 104, 101, 115, 32]⟩ : ByteArray) ++ t848), .string ((⟨#[100, 111, 110, 101, 32]⟩ : ByteArray) ++ t852), .string ((⟨#[119, 97, 114, 109, 116, 104, 32]⟩ : ByteArray) ++ t856), .string ((⟨#[109, 111, 109, 101, 110, 116, 32]⟩ : ByteArray) ++ t860)]) (ok := fun _ => True) (okp := fun _ => True) ?hr ?hp (fun _ hk => hk) trivial (Below.refl _ _) (Nat.le_refl _) (by simp) ?_; (case hd => rfl); (case hg => rfl); (case hr => first | (go_simp; done) | (go_simp; rfl)); (case hp => exact (Reps.one (show Kd.M Kd.string _ _ _ ((⟨#[112, 105, 116, 99, 104, 101, 115, 32]⟩ : ByteArray) ++ t848) [.string ((⟨#[112, 105, 116, 99, 104, 101, 115, 32]⟩ : ByteArray) ++ t848)] from rfl) (Reps.one (show Kd.M Kd.string _ _ _ ((⟨#[100, 111, 110, 101, 32]⟩ : ByteArray) ++ t852) [.string ((⟨#[100, 111, 110, 101, 32]⟩ : ByteArray) ++ t852)] from rfl) (Reps.one (show Kd.M Kd.string _ _ _ ((⟨#[119, 97, 114, 109, 116, 104, 32]⟩ : ByteArray) ++ t856) [.string ((⟨#[119, 97, 114, 109, 116, 104, 32]⟩ : ByteArray) ++ t856)] from rfl) (Reps.one (show Kd.M Kd.string _ _ _ ((⟨#[109, 111, 109, 101, 110, 116, 32]⟩ : ByteArray) ++ t860) [.string ((⟨#[109, 111, 109, 101, 110, 116, 32]⟩ : ByteArray) ++ t860)] from rfl) (Reps.none _ _))))))
        intro v862 w30 ho31 hb hg_ hnew_
        clear hg_ hnew_
        (first | rw [← Ny861.out] at ho31 | (simp only [Int.reduceToNat] at ho31; rw [← Ny861.out] at ho31))
        have n0_ := A_ (Kd.R_below (oR HO851) hb)
        have n1_ := A_ (Kd.R_below (oR HO855) hb)
        have n2_ := A_ (Kd.R_below (oR HO859) hb)
        have n3_ := A_ (Kd.R_lower ho31 (below_size (oB HB)))
        have n4_ := A_ (bb BK846 hb)
        have n5_ := A_ (below_step (oB HB) hb)
        clear HO851
        clear HO855
        clear HO859
        clear BK846
        clear HB
        have HO851 := n0_
        have HO855 := n1_
        have HO859 := n2_
        have HO863 := n3_
        have BK846 := n4_
        have HB := n5_
        clear n0_ n1_ n2_ n3_ n4_ n5_
        clear hb ho31
        refine hK.out _ _ ⟨v850, v854, v858, v862, m22_, (by rw [ha.out]; exact putSel_upk 15 hb_ rfl rfl rfl), (oK BK846), (oB HB), fun _ => (oR HO851), fun _ => (oR HO855), fun _ => (oR HO859), fun _ => (oR HO863), fun h0_ => absurd ((hoff 22 (by kernel_rfl)).symm.trans h0_) (by decide)⟩
       refine steps_cons ?_ ?_
       ·rintro b a w' ⟨v850, v854, v858, v862, m22_, ha, Q_BK846, Q_HB, Q_HO851, Q_HO855, Q_HO859, Q_HO863, Q_X22_⟩ hb_ hon hoff
        refine ⟨_, rfl, fun K hK => ?_⟩
        have e30 : a.tmps[30]? = some (v862) := by rw [ha]; exact putSel_on (e := (21, 30, v862)) 15 rfl rfl (hon 21 (by kernel_rfl)) rfl
        replace ha := A_ ha
        have BK846 := A_ Q_BK846
        have HB := A_ Q_HB
        have HO851 := A_ (Q_HO851 (hon 8 (by kernel_rfl)))
        have HO855 := A_ (Q_HO855 (hon 13 (by kernel_rfl)))
        have HO859 := A_ (Q_HO859 (hon 18 (by kernel_rfl)))
        have HO863 := A_ (Q_HO863 (hon 21 (by kernel_rfl)))
        refine value_ (w1 := w') (v := v862) (by rfl) rfl ?_ ?_
        ·go_simp
         (try simp only [i64_w])
         try rfl
        refine hK.out _ _ ⟨v850, v854, v858, v862, (v862), (by rw [ha.out]; exact putSel_upk 16 hb_ rfl rfl rfl), Q_BK846, Q_HB, Q_HO851, Q_HO855, Q_HO859, Q_HO863, fun _ => rfl⟩
       exact steps_nil
      rintro b a w31 hall ⟨v850, v854, v858, v862, m22_, ha, Q_BK846, Q_HB, Q_HO851, Q_HO855, Q_HO859, Q_HO863, Q_X22_⟩
      clear BK846 HB
      have hb2_ := hall 2 (by kernel_rfl)
      have hb3_ := hall 3 (by kernel_rfl)
      have hb4_ := hall 4 (by kernel_rfl)
      have hb7_ := hall 7 (by kernel_rfl)
      have hb8_ := hall 8 (by kernel_rfl)
      have hb9_ := hall 9 (by kernel_rfl)
      have hb10_ := hall 10 (by kernel_rfl)
      have hb12_ := hall 12 (by kernel_rfl)
      have hb13_ := hall 13 (by kernel_rfl)
      have hb14_ := hall 14 (by kernel_rfl)
      have hb15_ := hall 15 (by kernel_rfl)
      have hb17_ := hall 17 (by kernel_rfl)
      have hb18_ := hall 18 (by kernel_rfl)
      have hb19_ := hall 19 (by kernel_rfl)
      have hb20_ := hall 20 (by kernel_rfl)
      have hb21_ := hall 21 (by kernel_rfl)
      have hb22_ := hall 22 (by kernel_rfl)
      subst ha
      obtain rfl := Q_X22_ hb22_
      simp only [putSel, hb2_, hb3_, hb4_, hb7_, hb8_, hb9_, hb10_, hb12_, hb13_, hb14_, hb15_, hb17_, hb18_, hb19_, hb20_, hb21_, hb22_, if_true, Act.put, List.setIfInBounds_toArray, List.set_cons_zero, List.set_cons_succ]
      have BK846 := A_ Q_BK846
      clear Q_BK846
      have HB := A_ Q_HB
      clear Q_HB
      have HO851 := A_ (Q_HO851 hb8_)
      clear Q_HO851
      have HO855 := A_ (Q_HO855 hb13_)
      clear Q_HO855
      have HO859 := A_ (Q_HO859 hb18_)
      clear Q_HO859
      have HO863 := A_ (Q_HO863 hb21_)
      clear Q_HO863
      clear hall hb2_ hb3_ hb4_ hb7_ hb8_ hb9_ hb10_ hb12_ hb13_ hb14_ hb15_ hb17_ hb18_ hb19_ hb20_ hb21_ hb22_
      have hcz32_0 := cz BK846 0
      have hcz32_1 := cz BK846 1
      have hcz32_2 := cz BK846 2
      have hcz32_3 := cz BK846 3
      have hcz32_4 := cz BK846 4
      have hcz32_5 := cz BK846 5
      have hfz32_0 := blk_frozen BK846.out 0
      have hfz32_1 := blk_frozen BK846.out 1
      have hfz32_2 := blk_frozen BK846.out 2
      have hfz32_3 := blk_frozen BK846.out 3
      have hfz32_4 := blk_frozen BK846.out 4
      have hfz32_5 := blk_frozen BK846.out 5
      try go_wp2
      go_loopg [3, 34] k (fun kq v3 v34 w' => ∃ (x3_1 : List ByteArray) (x34_1 : Int), v34 = .int .i64 x34_1 ∧ Aside0 (impl_FormatShop.l0 kq x3_1 l0_5 (l0_5.length : Int) x34_1 = some r) ∧ Aside0 (kq ≤ k) ∧ Aside0 (Kd.R Kd.string 9 w' w.heap.size (fun _ => True) v3 x3_1) ∧ Aside0 (w'.heap[gb846]? = some (.cells #[(.slice A0_0 l0_0.length c0_0), .int .i64 a0_1, (.slice A0_2 l0_2.length c0_2), .int .i64 a0_3, .int .i64 a0_4, (.slice A0_5 l0_5.length c0_5)] 44 (0, 0))) ∧ Aside0 (Below w.heap.size w w'))
      case atStart => exact ⟨(y861), (0), (by first | rfl | (simp; done) | (simp [*]; done)), H', ⟨Nat.le_refl _⟩, ⟨oR HO863⟩, ⟨oK BK846⟩, ⟨oB HB⟩⟩
      case round =>
       clear H'
       try clear c1
       try clear c2
       try clear p2
       try clear c3
       try clear c4
       try clear c5
       try clear c5b0
       try clear c5b1
       try clear c5b2
       try clear c7
       try clear c7b0
       try clear c7b1
       try clear c7b2
       try clear c9
       try clear c9b0
       try clear c9b1
       try clear c9b2
       try clear c11
       try clear c11b0
       try clear c11b1
       try clear c11b2
       try clear c18
       try clear hcz13_0
       try clear hcz13_1
       try clear hcz13_2
       try clear hcz13_3
       try clear hcz13_4
       try clear hcz13_5
       try clear hcz32_0
       try clear hcz32_1
       try clear hcz32_2
       try clear hcz32_3
       try clear hcz32_4
       try clear hcz32_5
       try clear hfz13_0
       try clear hfz13_1
       try clear hfz13_2
       try clear hfz13_3
       try clear hfz13_4
       try clear hfz13_5
       try clear hfz32_0
       try clear hfz32_1
       try clear hfz32_2
       try clear hfz32_3
       try clear hfz32_4
       try clear hfz32_5
       obtain ⟨x3_1, x34_1, rfl, HA, HK1, HO_3, BK846, HB⟩ := hrel
       cases gk with
       | zero => exact absurd HA.out (by simp [impl_FormatShop.l0])
       | succ k1 =>
        have H := HA.out
        clear HA
        simp only [impl_FormatShop.l0] at H
        by_cases c33 : x34_1 < (l0_5.length : Int)
        ·rw [if_pos c33] at H
         have c33b0 : decide (x34_1 < (l0_5.length : Int)) = true := decide_eq_true c33
         clear c33
         by_cases c34 : 0 ≤ x34_1
         ·rw [if_pos c34] at H
          have c34b0 : decide (0 ≤ x34_1) = true := decide_eq_true c34
          clear c34
          by_cases c35 : x34_1 < (l0_5.length : Int)
          ·rw [if_pos c35] at H
           have c35b0 : decide (x34_1 < (l0_5.length : Int)) = true := decide_eq_true c35
           clear c35
           obtain ⟨y866, hy866⟩ : ∃ y_ : List Int, y_ = (([(rd_T85 l0_5 x34_1).f0.f0, (rd_T85 l0_5 x34_1).f0.f1, (rd_T85 l0_5 x34_1).f1, (rd_T85 l0_5 x34_1).f2] : List Int)) := ⟨_, rfl⟩
           replace H : ((impl_words.f k1 y866).bind fun t869 => (if x3_1.length < 8796093022208 then (impl_FormatShop.l0 k1 (x3_1 ++ [t869]) l0_5 (l0_5.length : Int) (wrap64 (x34_1 + 1))) else (none))) = some r := by first | (rw [hy866]; with_reducible exact H) | (have H2_ := (Option.bind_some _ _).symm.trans H; rw [hy866]; with_reducible exact H2_) | (have H2_ := (Option.bind_some _ _).symm.trans H; with_reducible exact H2_) | with_reducible exact H | (rw [hy866]; exact H) | exact H
           have Ny866 := A_ hy866
           clear hy866
           replace H := Option.bind_eq_some_iff.mp H
           obtain ⟨t869, A360, H⟩ := H
           (try dsimp only at H)
           have A36 := A_ A360
           clear A360
           by_cases c37 : x3_1.length < 8796093022208
           ·rw [if_pos c37] at H
            have LMc37 := A_ c37
            clear c37
            obtain ⟨y870, hy870⟩ : ∃ y_ : List ByteArray, y_ = (x3_1 ++ [t869]) := ⟨_, rfl⟩
            replace H : (impl_FormatShop.l0 k1 y870 l0_5 (l0_5.length : Int) (wrap64 (x34_1 + 1))) = some r := by first | (rw [hy870]; with_reducible exact H) | (have H2_ := (Option.bind_some _ _).symm.trans H; rw [hy870]; with_reducible exact H2_) | (have H2_ := (Option.bind_some _ _).symm.trans H; with_reducible exact H2_) | with_reducible exact H | (rw [hy870]; exact H) | exact H
            have Ny870 := A_ hy870
            clear hy870
            have H' := A_ H
            clear H
            have p864 : 0 ≤ (x34_1 : Int) := of_decide_eq_true (by first | (with_reducible assumption) | assumption)
            have q864 : x34_1 < (l0_5.length : Int) := of_decide_eq_true (by first | (with_reducible assumption) | assumption)
            obtain ⟨ad864, e864, hx864_0, hx864_1, hx864_2, hx864_3⟩ := at_T85 HR0_5.out x34_1 p864 q864
            cases e864
            replace hx864_0 := (HB.out.cell (World.block_lt_of_cell? w _ hx864_0)).trans hx864_0
            replace hx864_1 := (HB.out.cell (World.block_lt_of_cell? w _ hx864_1)).trans hx864_1
            replace hx864_2 := (HB.out.cell (World.block_lt_of_cell? w _ hx864_2)).trans hx864_2
            replace hx864_3 := (HB.out.cell (World.block_lt_of_cell? w _ hx864_3)).trans hx864_3
            replace p864 := eq_true p864
            replace q864 := eq_true q864
            go_wp2_with (first | ((with_reducible refine gate_dst (N := 5) rfl ?_); refine bX (N := 5) (cs := #[.int .i64 0, .int .i64 0, .int .i64 0, .int .i64 0]) (t := 85) ?_; intro gb865 hg w38 hbox hb; have n0_ := A_ (Kd.R_below (oR HO_3) hb); have n1_ := A_ (bb BK846 hb); have n2_ := A_ (below_step (oB HB) hb); have n3_ := A_ (hbox); have n4_ := A_ ((by rw [hg]; exact (below_size (oB HB)) : w.heap.size ≤ gb865)); have n5_ := A_ ((by rw [hg]; exact (below_size (oB HB)) : w.heap.size ≤ gb865)); have n6_ := A_ (nL BK846 hg); have n7_ := A_ (nG BK846 hg); clear HO_3; clear BK846; clear HB; have HO_3 := n0_; have BK846 := n1_; have HB := n2_; have BK865 := n3_; have GW865 := n4_; have GE865 := n5_; have NB846_865 := n6_; have NB865_846 := n7_; clear n0_ n1_ n2_ n3_ n4_ n5_ n6_ n7_; clear hb hbox hg; have hnb39 := NB865_846.out; have hnc39 := NB846_865.out; have hcz40_0 := cz BK865 0; have hcz40_1 := cz BK865 1; have hcz40_2 := cz BK865 2; have hcz40_3 := cz BK865 3; have hfz40_0 := blk_frozen BK865.out 0; have hfz40_1 := blk_frozen BK865.out 1; have hfz40_2 := blk_frozen BK865.out 2; have hfz40_3 := blk_frozen BK865.out 3) | ((with_reducible refine gate_dst (N := 49) rfl ?_); refine Kd.R_lit (Kd.int .i64) _ 3 ?hg (N := 49) ?hd (xs := ([(rd_T85 l0_5 x34_1).f0.f0, (rd_T85 l0_5 x34_1).f0.f1, (rd_T85 l0_5 x34_1).f1, (rd_T85 l0_5 x34_1).f2] : List Int)) (inner := [.int .i64 ((rd_T85 l0_5 x34_1).f0.f0), .int .i64 ((rd_T85 l0_5 x34_1).f0.f1), .int .i64 ((rd_T85 l0_5 x34_1).f1), .int .i64 ((rd_T85 l0_5 x34_1).f2)]) (ok := fun _ => True) (okp := fun _ => True) ?hr ?hp (fun _ hk => hk) trivial (Below.refl _ _) (Nat.le_refl _) (by simp) ?_; (case hd => rfl); (case hg => rfl); (case hr => first | (go_simp; done) | (go_simp; rfl)); (case hp => exact (Reps.one (show Kd.M (Kd.int .i64) _ _ _ ((rd_T85 l0_5 x34_1).f0.f0) [.int .i64 ((rd_T85 l0_5 x34_1).f0.f0)] from rfl) (Reps.one (show Kd.M (Kd.int .i64) _ _ _ ((rd_T85 l0_5 x34_1).f0.f1) [.int .i64 ((rd_T85 l0_5 x34_1).f0.f1)] from rfl) (Reps.one (show Kd.M (Kd.int .i64) _ _ _ ((rd_T85 l0_5 x34_1).f1) [.int .i64 ((rd_T85 l0_5 x34_1).f1)] from rfl) (Reps.one (show Kd.M (Kd.int .i64) _ _ _ ((rd_T85 l0_5 x34_1).f2) [.int .i64 ((rd_T85 l0_5 x34_1).f2)] from rfl) (Reps.none _ _)))))); intro v867 w41 ho42 hb hg_ hnew_; clear hg_ hnew_; (first | rw [← Ny866.out] at ho42 | (simp only [Int.reduceToNat] at ho42; rw [← Ny866.out] at ho42)); have n0_ := A_ (Kd.R_below (by (with_reducible repeat (first | apply Kd.R_alloc | apply Kd.R_drewN | apply Kd.R_drew)); exact (Kd.R_mono (Kd.R_far (p := ⟨gb865, 3, none⟩) (Kd.R_far (p := ⟨gb865, 2, none⟩) (Kd.R_far (p := ⟨gb865, 1, none⟩) (Kd.R_far (p := ⟨gb865, 0, none⟩) (Kd.R_types HO_3.out BK865.out (by decide)) (fun _ hk => hk.2) (.int .i64 ((rd_T85 l0_5 x34_1).f0.f0))) (fun _ hk => hk.2) (.int .i64 ((rd_T85 l0_5 x34_1).f0.f1))) (fun _ hk => hk.2) (.int .i64 ((rd_T85 l0_5 x34_1).f1))) (fun _ hk => hk.2) (.int .i64 ((rd_T85 l0_5 x34_1).f2))) (fun _ h_ => h_.1))) hb); have n1_ := A_ (Kd.R_lower ho42 (below_size (oB HB))); have n2_ := A_ (blk_below (g := gb846) (o := .cells #[.slice A0_0 l0_0.length c0_0, .int .i64 a0_1, .slice A0_2 l0_2.length c0_2, .int .i64 a0_3, .int .i64 a0_4, .slice (some ad864) l0_5.length c0_5] 44 (0, 0)) (by (with_reducible repeat (first | refine blk_drewN ?_ _ | refine blk_drew ?_ | refine blk_alloc ?_ _)); refine blk_far ?_ NB846_865.out _; (with_reducible repeat (first | refine blk_drewN ?_ _ | refine blk_drew ?_ | refine blk_alloc ?_ _)); refine blk_far ?_ NB846_865.out _; (with_reducible repeat (first | refine blk_drewN ?_ _ | refine blk_drew ?_ | refine blk_alloc ?_ _)); refine blk_far ?_ NB846_865.out _; (with_reducible repeat (first | refine blk_drewN ?_ _ | refine blk_drew ?_ | refine blk_alloc ?_ _)); refine blk_far ?_ NB846_865.out _; (with_reducible repeat (first | refine blk_drewN ?_ _ | refine blk_drew ?_ | refine blk_alloc ?_ _)); exact BK846.out) hb); have n3_ := A_ (blk_below (g := gb865) (o := .cells #[.int .i64 ((rd_T85 l0_5 x34_1).f0.f0), .int .i64 ((rd_T85 l0_5 x34_1).f0.f1), .int .i64 ((rd_T85 l0_5 x34_1).f1), .int .i64 ((rd_T85 l0_5 x34_1).f2)] 85 (0, 0)) (by (with_reducible repeat (first | refine blk_drewN ?_ _ | refine blk_drew ?_ | refine blk_alloc ?_ _)); refine blk_put (cs := #[.int .i64 ((rd_T85 l0_5 x34_1).f0.f0), .int .i64 ((rd_T85 l0_5 x34_1).f0.f1), .int .i64 ((rd_T85 l0_5 x34_1).f1), .int .i64 0]) ?_ 3 _ rfl; (with_reducible repeat (first | refine blk_drewN ?_ _ | refine blk_drew ?_ | refine blk_alloc ?_ _)); refine blk_put (cs := #[.int .i64 ((rd_T85 l0_5 x34_1).f0.f0), .int .i64 ((rd_T85 l0_5 x34_1).f0.f1), .int .i64 0, .int .i64 0]) ?_ 2 _ rfl; (with_reducible repeat (first | refine blk_drewN ?_ _ | refine blk_drew ?_ | refine blk_alloc ?_ _)); refine blk_put (cs := #[.int .i64 ((rd_T85 l0_5 x34_1).f0.f0), .int .i64 0, .int .i64 0, .int .i64 0]) ?_ 1 _ rfl; (with_reducible repeat (first | refine blk_drewN ?_ _ | refine blk_drew ?_ | refine blk_alloc ?_ _)); refine blk_put (cs := #[.int .i64 0, .int .i64 0, .int .i64 0, .int .i64 0]) ?_ 0 _ rfl; (with_reducible repeat (first | refine blk_drewN ?_ _ | refine blk_drew ?_ | refine blk_alloc ?_ _)); exact BK865.out) hb); have n4_ := A_ (below_step (oB HB) hb); clear HO_3; clear BK846; clear BK865; clear HB; have HO_3 := n0_; have HO868 := n1_; have BK846 := n2_; have BK865 := n3_; have HB := n4_; clear n0_ n1_ n2_ n3_ n4_; clear hb ho42; obtain ⟨Ao43, co43, eo43⟩ := Kd.R_slice HO868.out; subst eo43) | ((with_reducible refine gate_callee (f := 34) rfl ?_); refine gL (some 50) Tryd.func34 #[.slice Ao43 y866.length co43] ?_; (with_reducible refine (impl_words.calls k1 _ _ y866 t869 _ ?side1 ?side2 A36.out ?sideT).mono ?_); (case sideT => exact ⟨tab_on ht_.out (oB HB)⟩); (case side1 => repeat (first | exact (Kd.R_reads' HO868.out).2.2 | (with_reducible refine Kd.C_alloc ?_ _) | (with_reducible refine Kd.C_drewN ?_ _) | (with_reducible refine Kd.C_drew ?_))); (case side2 => exact (Kd.R_reads' HO868.out).2.1); rintro e w44 ⟨rfl, hb⟩; refine ⟨_, rfl, ?_⟩; have n0_ := A_ (Kd.R_below (oR HO_3) hb); have n1_ := A_ (Kd.R_below (oR HO868) hb); have n2_ := A_ (bb BK846 hb); have n3_ := A_ (bb BK865 hb); have n4_ := A_ (below_step (oB HB) hb); clear HO_3; clear HO868; clear BK846; clear BK865; clear HB; have HO_3 := n0_; have HO868 := n1_; have BK846 := n2_; have BK865 := n3_; have HB := n4_; clear n0_ n1_ n2_ n3_ n4_; (try clear hb); (try clear hb2); (try clear hk); (try clear hi)) | ((with_reducible refine gate_builtin (b := .append) (xs := #[.tmp 38, .tmp 51]) rfl ?_); at_builtin; refine Kd.R_append Kd.string (w0 := w) w.heap.size rfl (.tmp 38) (.tmp 51) 47 9 (.string ⟨#[]⟩) 16 rfl Tryd.underlying47 info9 rfl (by decide) (by omega) u3 x3_1 t869 [.string t869] (fun _ => True) (fun _ => False) rfl rfl ?aP (fun _ hk => hk.elim) ?aF ?aO ?aB ?aS ?aL ?_; (case aP => exact rfl); (case aB => exact (oB HB)); (case aF => exact (fun _ _ => trivial)); (case aO => exact (oR HO_3)); (case aS => exact (below_size (oB HB))); (case aL => have := LMc37.out; omega); intro v871 w45 ho hb hg hat; rw [← Ny870.out] at ho; have n0_ := A_ (bg BK846 hg (Kd.R_ne HO_3.out BK846.out (by decide))); have n1_ := A_ (bg BK865 hg (Kd.R_ne HO_3.out BK865.out (by decide))); have n2_ := A_ (Kd.R_over' (oR HO868) (Kd.R_typed (oR HO_3)) (by decide) hg); have n3_ := A_ (hb); have n4_ := A_ (ho); clear BK846; clear BK865; clear HO868; clear HB; clear HO_3; have BK846 := n0_; have BK865 := n1_; have HO868 := n2_; have HB := n3_; have HO872 := n4_; clear n0_ n1_ n2_ n3_ n4_; clear ho hb hg hat))
            go_roundg k1
            case measure => have := HK1.out; omega
            case rel => exact ⟨(y870), (wrap64 (x34_1 + 1)), (by first | rfl | (simp; done) | (simp [*]; done)), H', ⟨by have := HK1.out; omega⟩, ⟨oR HO872⟩, ⟨oK BK846⟩, ⟨oB HB⟩⟩
           ·rw [if_neg c37] at H
            exact absurd H (by simp)
          ·rw [if_neg c35] at H
           exact absurd H (by simp)
         ·rw [if_neg c34] at H
          exact absurd H (by simp)
        ·rw [if_neg c33] at H
         have c33b0 : decide (x34_1 < (l0_5.length : Int)) = false := decide_eq_false c33
         clear c33
         obtain rfl := Option.some.inj H
         go_wp2
         go_ret
         exact ⟨_, eR, oR HO_3, oB HB⟩
     ·rw [if_neg c11] at H
      exact absurd H (by simp)
    ·rw [if_neg c9] at H
     exact absurd H (by simp)
   ·rw [if_neg c7] at H
    exact absurd H (by simp)
  ·rw [if_neg c5] at H
   exact absurd H (by simp)
 ·replace c3 := Bool.eq_false_iff.mpr c3
  subst c3
  rw [if_neg (show ¬ (false = true) by decide)] at H
  obtain rfl := Option.some.inj H
  go_enter Tryd.func18, Tryd.ntmps18
  go_wp2_with (first | ((with_reducible refine gate_dst (N := 1) rfl ?_); refine bX (N := 1) (cs := #[.slice A0_0 l0_0.length c0_0, .int .i64 a0_1, .slice A0_2 l0_2.length c0_2, .int .i64 a0_3, .int .i64 a0_4, .slice A0_5 l0_5.length c0_5]) (t := 44) ?_; intro gb846 hg w46 hbox hb; have n0_ := A_ (below_step (oB HB) hb); have n1_ := A_ (hbox); have n2_ := A_ ((by rw [hg]; exact (below_size (oB HB)) : w.heap.size ≤ gb846)); have n3_ := A_ ((by rw [hg]; exact (below_size (oB HB)) : w.heap.size ≤ gb846)); clear HB; have HB := n0_; have BK846 := n1_; have GW846 := n2_; have GE846 := n3_; clear n0_ n1_ n2_ n3_; clear hb hbox hg; have hcz47_0 := cz BK846 0; have hcz47_1 := cz BK846 1; have hcz47_2 := cz BK846 2; have hcz47_3 := cz BK846 3; have hcz47_4 := cz BK846 4; have hcz47_5 := cz BK846 5; have hfz47_0 := blk_frozen BK846.out 0; have hfz47_1 := blk_frozen BK846.out 1; have hfz47_2 := blk_frozen BK846.out 2; have hfz47_3 := blk_frozen BK846.out 3; have hfz47_4 := blk_frozen BK846.out 4; have hfz47_5 := blk_frozen BK846.out 5) | ((with_reducible refine gate_callee (f := 40) rfl ?_); refine gL (some 7) Tryd.func40 #[.agg #[.slice A0_0 l0_0.length c0_0, .int .i64 a0_1, .slice A0_2 l0_2.length c0_2, .int .i64 a0_3, .int .i64 a0_4, .slice A0_5 l0_5.length c0_5]] ?_; (with_reducible refine (impl_ShopOk.calls k _ _ l0_0 a0_1 _ _ l0_2 a0_3 a0_4 _ _ l0_5 false _ ?side1 ?side2 ?side3 ?side4 ?side5 ?side6 A2.out).mono ?_); (case side1 => exact oc_ HR0_0.out); (case side2 => exact HC0_0.out); (case side3 => exact oc_ HR0_2.out); (case side4 => exact HC0_2.out); (case side5 => exact oc_ HR0_5.out); (case side6 => exact HC0_5.out); rintro e w48 ⟨rfl, hb⟩; refine ⟨_, rfl, ?_⟩; have n0_ := A_ (bb BK846 hb); have n1_ := A_ (below_step (oB HB) hb); clear BK846; clear HB; have BK846 := n0_; have HB := n1_; clear n0_ n1_; (try clear hb); (try clear hb2); (try clear hk); (try clear hi)))
  go_ret
  exact ⟨_, eR, by first | exact Kd.R_nil _ _ _ _ _ | exact Kd.N_nil _ _ _ _ _ | exact Kd.V_nil _ _ _ _ _ | exact Kd.Q_nil _ _ _ _ _ | exact Kd.S_nil _ _ _ _ _, oB HB⟩
end Go.Proofs.YtojiighpkppckaaDoor.P


namespace Go.Proofs.YtojiighpkppckaaDoor.P
open Go.RowKit Go.Proofs.YtojiighpkppckaaDoorW.PrintWords Go.Proofs.YtojiighpkppckaaDoorW.PrintLast Go.Proofs.YtojiighpkppckaaDoorW.PrintMore Go.Proofs.YtojiighpkppckaaDoor.V
attribute [local go_sem] cell_b frozen_b
attribute [local go_sem] max2_int min2_int max_two min_two max_three min_three max_four min_four
set_option linter.unusedVariables false
set_option linter.unusedSimpArgs false
mutual
def laws_FnSummaries.j0 : Nat → List ByteArray → Bool → List (S145) → Int → List Int → Int → Int → List (S85) → Option (Bool)
 | 0, _, _, _, _, _, _, _, _ => none
 | k + 1, x5, x61, x890000, x890001, x890002, x890003, x890004, x890005 => if x61 = true then (some false) else (laws_FnSummaries.l0 k x5 (⟨#[112, 105, 116, 99, 104, 101, 115]⟩ : ByteArray) 0 x890000 x890001 x890002 x890003 x890004 x890005)
def laws_FnSummaries.l0 : Nat → List ByteArray → ByteArray → Int → List (S145) → Int → List Int → Int → Int → List (S85) → Option (Bool)
 | 0, _, _, _, _, _, _, _, _, _ => none
 | k + 1, x5, x6, x7, x890000, x890001, x890002, x890003, x890004, x890005 => if x7 < 12 then (if x6.size + 1 ≤ 9223372036854775807 then (if 0 ≤ x7 then (if x7 < (x890002.length : Int) then ((impl_FormatInt.f (rd x890002 x7)).bind fun t900 => (if (x6 ++ (⟨#[32]⟩ : ByteArray)).size + t900.size ≤ 9223372036854775807 then (laws_FnSummaries.l0 k x5 ((x6 ++ (⟨#[32]⟩ : ByteArray)) ++ t900) (wrap64 (x7 + 1)) x890000 x890001 x890002 x890003 x890004 x890005) else (none))) else (none)) else (none)) else (none)) else (if 0 < (x5.length : Int) then (some ((rdOf ByteArray.empty x5 0).toList == x6.toList)) else (none))
end
def laws_FnSummaries.f (k : Nat) (l0 : List Int) : Option (Bool) := (laws_big.f l0).bind fun t873 => (if t873 = true then (some true) else ((spec_DrawActs.f k l0).bind fun bt874 => ((impl_FormatShop.f k bt874.1 bt874.2.1 bt874.2.2.1 bt874.2.2.2.1 bt874.2.2.2.2.1 bt874.2.2.2.2.2.1).bind fun t890 => (if (t890.length : Int) = (wrap64 (4 + (bt874.2.2.2.2.2.1.length : Int))) then (if (bt874.2.2.1.length : Int) = 12 then (if 1 < (t890.length : Int) then ((impl_FormatInt.f bt874.2.1).bind fun t894 => (if 5 + t894.size ≤ 9223372036854775807 then (if (rdOf ByteArray.empty t890 1).toList = ((⟨#[100, 111, 110, 101, 32]⟩ : ByteArray) ++ t894).toList then (if 2 < (t890.length : Int) then ((impl_FormatInt.f bt874.2.2.2.1).bind fun t896 => (if 7 + t896.size ≤ 9223372036854775807 then (if (rdOf ByteArray.empty t890 2).toList = ((⟨#[119, 97, 114, 109, 116, 104, 32]⟩ : ByteArray) ++ t896).toList then (if 3 < (t890.length : Int) then ((impl_FormatInt.f bt874.2.2.2.2.1).bind fun t898 => (if 7 + t898.size ≤ 9223372036854775807 then (laws_FnSummaries.j0 k t890 ((rdOf ByteArray.empty t890 3).toList != ((⟨#[109, 111, 109, 101, 110, 116, 32]⟩ : ByteArray) ++ t898).toList) bt874.1 bt874.2.1 bt874.2.2.1 bt874.2.2.2.1 bt874.2.2.2.2.1 bt874.2.2.2.2.2.1) else (none))) else (none)) else (laws_FnSummaries.j0 k t890 true bt874.1 bt874.2.1 bt874.2.2.1 bt874.2.2.2.1 bt874.2.2.2.2.1 bt874.2.2.2.2.2.1)) else (none))) else (none)) else (laws_FnSummaries.j0 k t890 true bt874.1 bt874.2.1 bt874.2.2.1 bt874.2.2.2.1 bt874.2.2.2.2.1 bt874.2.2.2.2.2.1)) else (none))) else (none)) else (laws_FnSummaries.j0 k t890 true bt874.1 bt874.2.1 bt874.2.2.1 bt874.2.2.2.1 bt874.2.2.2.2.1 bt874.2.2.2.2.2.1)) else (laws_FnSummaries.j0 k t890 true bt874.1 bt874.2.1 bt874.2.2.1 bt874.2.2.2.1 bt874.2.2.2.2.1 bt874.2.2.2.2.2.1)))))
def laws_FnSummaries.T5 : Bool × List (List Nat × List Nat) := (true, [([], []), ([0], [0]), ([], []), ([2], [2]), ([3], [3]), ([4], [4]), ([1, 5], [1, 5]), ([6], [6]), ([7], [7]), ([8, 7], [7, 8]), ([9, 7], [7, 9]), ([10, 7], [7, 10]), ([11, 7], [7, 11]), ([7, 12], [7, 12]), ([13, 7], [13]), ([14], [14]), ([15, 14], [14, 15]), ([16, 14], [14, 16]), ([14], [14]), ([18, 14], [14, 18]), ([19, 14], [14, 19]), ([20, 14, 14], [14, 20]), ([21, 14], [14, 21]), ([17, 22, 14], [14, 17, 22]), ([14, 23], [14, 23]), ([24, 21], [24]), ([25], [25]), ([26, 25], [25, 26]), ([27, 25], [25, 27]), ([25], [25]), ([29, 25], [25, 29]), ([30, 25, 25], [25, 30]), ([31, 25], [25, 31]), ([28, 32, 25], [25, 28, 32]), ([25, 33], [25, 33]), ([34, 31], [34]), ([35], [35]), ([36, 35], [35, 36]), ([37, 35], [35, 37]), ([35], [35]), ([39, 35], [35, 39]), ([40, 35, 35], [35, 40]), ([41, 35], [35, 41]), ([38, 42, 35], [35, 38, 42]), ([35, 43], [35, 43])])
def laws_FnSummaries.B5 : List Nat := [0, 1, 0, 4, 12, 28, 63, 127, 255, 511, 1023, 2047, 4095, 8191, 16383, 32767, 65535, 131071, 32767, 294911, 819199, 1867775, 3964927, 8388607, 16777215, 33554431, 67108863, 134217727, 268435455, 67108863, 603979775, 1677721599, 3825205247, 8589934591, 17179869183, 34359738367, 68719476735, 137438953471, 274877906943, 68719476735, 618475290623, 1717986918399, 3917010173951, 8796093022207, 17592186044415]
theorem laws_FnSummaries.tab5 : rtab .any (opsOf Tryd.f5 5) = laws_FnSummaries.T5 := by kernel_rfl
theorem laws_FnSummaries.bits5 : waitsOk laws_FnSummaries.T5.2 laws_FnSummaries.B5 = true := by kernel_rfl
set_option maxHeartbeats 8000000 in
set_option maxRecDepth 100000 in
theorem laws_FnSummaries.calls (k : Nat) (A0 : Option Addr) (c0 : Nat) (l0 : List Int) (r : Bool) (w : World) (hr0 : Kd.C (Kd.int .u8) w A0 l0.length l0) (hc0 : l0.length ≤ c0) (h : laws_FnSummaries.f k l0 = some r) (hrt_ : Aside0 (r = true)) (ht_ : Aside0 (Tab w)) :
  Calls Tryd.prog 5 #[.slice A0 l0.length c0] w fun e w' => e = .returned (.bool r) ∧ Below w.heap.size w w' := by
 have hu44 := Tryd.underlying44
 have HR0 := A_ hr0
 have HC0 := A_ hc0
 clear hr0 hc0
 have HB := A_ (Below.refl w.heap.size w)
 have H : ((laws_big.f l0).bind fun t873 => (if t873 = true then (some true) else ((spec_DrawActs.f k l0).bind fun bt874 => ((impl_FormatShop.f k bt874.1 bt874.2.1 bt874.2.2.1 bt874.2.2.2.1 bt874.2.2.2.2.1 bt874.2.2.2.2.2.1).bind fun t890 => (if (t890.length : Int) = (wrap64 (4 + (bt874.2.2.2.2.2.1.length : Int))) then (if (bt874.2.2.1.length : Int) = 12 then (if 1 < (t890.length : Int) then ((impl_FormatInt.f bt874.2.1).bind fun t894 => (if 5 + t894.size ≤ 9223372036854775807 then (if (rdOf ByteArray.empty t890 1).toList = ((⟨#[100, 111, 110, 101, 32]⟩ : ByteArray) ++ t894).toList then (if 2 < (t890.length : Int) then ((impl_FormatInt.f bt874.2.2.2.1).bind fun t896 => (if 7 + t896.size ≤ 9223372036854775807 then (if (rdOf ByteArray.empty t890 2).toList = ((⟨#[119, 97, 114, 109, 116, 104, 32]⟩ : ByteArray) ++ t896).toList then (if 3 < (t890.length : Int) then ((impl_FormatInt.f bt874.2.2.2.2.1).bind fun t898 => (if 7 + t898.size ≤ 9223372036854775807 then (laws_FnSummaries.j0 k t890 ((rdOf ByteArray.empty t890 3).toList != ((⟨#[109, 111, 109, 101, 110, 116, 32]⟩ : ByteArray) ++ t898).toList) bt874.1 bt874.2.1 bt874.2.2.1 bt874.2.2.2.1 bt874.2.2.2.2.1 bt874.2.2.2.2.2.1) else (none))) else (none)) else (laws_FnSummaries.j0 k t890 true bt874.1 bt874.2.1 bt874.2.2.1 bt874.2.2.2.1 bt874.2.2.2.2.1 bt874.2.2.2.2.2.1)) else (none))) else (none)) else (laws_FnSummaries.j0 k t890 true bt874.1 bt874.2.1 bt874.2.2.1 bt874.2.2.2.1 bt874.2.2.2.2.1 bt874.2.2.2.2.2.1)) else (none))) else (none)) else (laws_FnSummaries.j0 k t890 true bt874.1 bt874.2.1 bt874.2.2.1 bt874.2.2.2.1 bt874.2.2.2.2.1 bt874.2.2.2.2.2.1)) else (laws_FnSummaries.j0 k t890 true bt874.1 bt874.2.1 bt874.2.2.1 bt874.2.2.2.1 bt874.2.2.2.2.1 bt874.2.2.2.2.2.1)))))) = some r := h
 clear h
 replace H := Option.bind_eq_some_iff.mp H
 obtain ⟨t873, A20, H⟩ := H
 (try dsimp only at H)
 have A2 := A_ A20
 clear A20
 by_cases c3 : t873 = true
 ·subst c3
  rw [if_pos rfl] at H
  obtain rfl := Option.some.inj H
  go_enter Tryd.func5, Tryd.ntmps5
  go_wp2_with (first | ((with_reducible refine gate_callee (f := 16) rfl ?_); refine gL (some 9) Tryd.func16 #[.slice A0 l0.length c0] ?_; (with_reducible refine (laws_big.calls _ _ l0 true _ ?side1 ?side2 A2.out).mono ?_); (case side1 => repeat (first | exact HR0.out | (with_reducible refine Kd.C_alloc ?_ _) | (with_reducible refine Kd.C_drewN ?_ _) | (with_reducible refine Kd.C_drew ?_))); (case side2 => exact HC0.out); rintro e w' ⟨rfl, ⟨nd, rfl⟩⟩; refine ⟨_, rfl, ?_⟩))
  go_ret
  exact ⟨eR, oB HB⟩
 ·replace c3 := Bool.eq_false_iff.mpr c3
  subst c3
  rw [if_neg (show ¬ (false = true) by decide)] at H
  replace H := Option.bind_eq_some_iff.mp H
  obtain ⟨⟨t874, t877, t878, t881, t882, t883, t886⟩, A40, H⟩ := H
  (try dsimp only at H)
  have A4 := A_ A40
  clear A40
  replace H := Option.bind_eq_some_iff.mp H
  obtain ⟨t890, A50, H⟩ := H
  (try dsimp only at H)
  have A5 := A_ A50
  clear A50
  have HC6 := A_ H
  clear H
  go_enter Tryd.func5, Tryd.ntmps5
  go_upto_region 5 with (first | ((with_reducible refine gate_callee (f := 16) rfl ?_); refine gL (some 9) Tryd.func16 #[.slice A0 l0.length c0] ?_; (with_reducible refine (laws_big.calls _ _ l0 false _ ?side1 ?side2 A2.out).mono ?_); (case side1 => repeat (first | exact HR0.out | (with_reducible refine Kd.C_alloc ?_ _) | (with_reducible refine Kd.C_drewN ?_ _) | (with_reducible refine Kd.C_drew ?_))); (case side2 => exact HC0.out); rintro e w' ⟨rfl, ⟨nd, rfl⟩⟩; refine ⟨_, rfl, ?_⟩) | ((with_reducible refine gate_callee (f := 17) rfl ?_); refine gL (some 12) Tryd.func17 #[.slice A0 l0.length c0] ?_; (with_reducible refine (spec_DrawActs.calls k _ _ l0 t874 t877 t878 t881 t882 t883 t886 _ ?side1 ?side2 A4.out).mono ?_); (case side1 => repeat (first | exact HR0.out | (with_reducible refine Kd.C_alloc ?_ _) | (with_reducible refine Kd.C_drewN ?_ _) | (with_reducible refine Kd.C_drew ?_))); (case side2 => exact HC0.out); rintro e w7 ⟨v875, v879, v884, v887, rfl, ho0, ho1, ho2, ho3, hb⟩; refine ⟨_, rfl, ?_⟩; have n0_ := A_ (Kd.R_lower ho0 (below_size (oB HB))); have n1_ := A_ (Kd.R_lower ho1 (below_size (oB HB))); have n2_ := A_ (Kd.R_lower ho2 (below_size (oB HB))); have n3_ := A_ (Kd.R_lower ho3 (below_size (oB HB))); have n4_ := A_ (below_step (oB HB) hb); clear HB; have HO876 := n0_; have HO880 := n1_; have HO885 := n2_; have HO888 := n3_; have HB := n4_; clear n0_ n1_ n2_ n3_ n4_; (try clear hb); (try clear hb2); (try clear hk); (try clear hi); (try clear ho0); (try clear ho1); (try clear ho2); (try clear ho3)) | ((with_reducible refine gate_dst (N := 3) rfl ?_); (try (refine gate_guard (by rfl) ?_; dsimp only)); refine bX (N := 3) (cs := #[.slice none 0 0, .int .i64 0, .slice none 0 0, .int .i64 0, .int .i64 0, .slice none 0 0]) (t := 44) ?_; intro gb889 hg w8 hbox hb; have n0_ := A_ (Kd.R_below (oR HO876) hb); have n1_ := A_ (Kd.R_below (oR HO880) hb); have n2_ := A_ (Kd.R_below (oR HO885) hb); have n3_ := A_ (Kd.R_below (oR HO888) hb); have n4_ := A_ (below_step (oB HB) hb); have n5_ := A_ (hbox); have n6_ := A_ ((by rw [hg]; exact (below_size (oB HB)) : w.heap.size ≤ gb889)); have n7_ := A_ ((by rw [hg]; exact (below_size (oB HB)) : w.heap.size ≤ gb889)); clear HO876; clear HO880; clear HO885; clear HO888; clear HB; have HO876 := n0_; have HO880 := n1_; have HO885 := n2_; have HO888 := n3_; have HB := n4_; have BK889 := n5_; have GW889 := n6_; have GE889 := n7_; clear n0_ n1_ n2_ n3_ n4_ n5_ n6_ n7_; clear hb hbox hg; obtain ⟨Ao9, co9, eo9⟩ := Kd.R_slice HO876.out; subst eo9; have hcz10_0 := cz BK889 0; have hcz10_1 := cz BK889 1; have hcz10_2 := cz BK889 2; have hcz10_3 := cz BK889 3; have hcz10_4 := cz BK889 4; have hcz10_5 := cz BK889 5; have hfz10_0 := blk_frozen BK889.out 0; have hfz10_1 := blk_frozen BK889.out 1; have hfz10_2 := blk_frozen BK889.out 2; have hfz10_3 := blk_frozen BK889.out 3; have hfz10_4 := blk_frozen BK889.out 4; have hfz10_5 := blk_frozen BK889.out 5; obtain ⟨Ao11, co11, eo11⟩ := Kd.R_slice HO880.out; subst eo11; obtain ⟨Ao12, co12, eo12⟩ := Kd.R_slice HO885.out; subst eo12) | ((with_reducible refine gate_callee (f := 18) rfl ?_); refine gL (some 16) Tryd.func18 #[.agg #[.slice Ao9 t874.length co9, .int .i64 t877, .slice Ao11 t878.length co11, .int .i64 t881, .int .i64 t882, .slice Ao12 t883.length co12]] ?_; (with_reducible refine (impl_FormatShop.calls k _ _ t874 t877 _ _ t878 t881 t882 _ _ t883 t890 _ ?side1 ?side2 ?side3 ?side4 ?side5 ?side6 A5.out ?sideT).mono ?_); (case sideT => exact ⟨tab_on ht_.out (oB HB)⟩); (case side1 => refine (Kd.R_reads' (e := 145) (base := w.heap.size) (ok := fun k_ => True) (n := t874.length) (c := co9) ?_).2.2; exact (by (with_reducible repeat (first | apply Kd.R_alloc | apply Kd.R_drewN | apply Kd.R_drew)); exact (Kd.R_mono (Kd.R_far (p := ⟨gb889, 5, none⟩) (Kd.R_far (p := ⟨gb889, 4, none⟩) (Kd.R_far (p := ⟨gb889, 3, none⟩) (Kd.R_far (p := ⟨gb889, 2, none⟩) (Kd.R_far (p := ⟨gb889, 1, none⟩) (Kd.R_far (p := ⟨gb889, 0, none⟩) (Kd.R_types HO876.out BK889.out (by decide)) (fun _ hk => hk.2) (.slice Ao9 t874.length co9)) (fun _ hk => hk.2) (.int .i64 t877)) (fun _ hk => hk.2) (.slice Ao11 t878.length co11)) (fun _ hk => hk.2) (.int .i64 t881)) (fun _ hk => hk.2) (.int .i64 t882)) (fun _ hk => hk.2) (.slice Ao12 t883.length co12)) (fun _ h_ => h_.1)))); (case side2 => exact (Kd.R_reads' HO876.out).2.1); (case side3 => refine (Kd.R_reads' (e := 3) (base := w.heap.size) (ok := fun k_ => True) (n := t878.length) (c := co11) ?_).2.2; exact (by (with_reducible repeat (first | apply Kd.R_alloc | apply Kd.R_drewN | apply Kd.R_drew)); exact (Kd.R_mono (Kd.R_far (p := ⟨gb889, 5, none⟩) (Kd.R_far (p := ⟨gb889, 4, none⟩) (Kd.R_far (p := ⟨gb889, 3, none⟩) (Kd.R_far (p := ⟨gb889, 2, none⟩) (Kd.R_far (p := ⟨gb889, 1, none⟩) (Kd.R_far (p := ⟨gb889, 0, none⟩) (Kd.R_types HO880.out BK889.out (by decide)) (fun _ hk => hk.2) (.slice Ao9 t874.length co9)) (fun _ hk => hk.2) (.int .i64 t877)) (fun _ hk => hk.2) (.slice Ao11 t878.length co11)) (fun _ hk => hk.2) (.int .i64 t881)) (fun _ hk => hk.2) (.int .i64 t882)) (fun _ hk => hk.2) (.slice Ao12 t883.length co12)) (fun _ h_ => h_.1)))); (case side4 => exact (Kd.R_reads' HO880.out).2.1); (case side5 => refine (Kd.R_reads' (e := 85) (base := w.heap.size) (ok := fun k_ => True) (n := t883.length) (c := co12) ?_).2.2; exact (by (with_reducible repeat (first | apply Kd.R_alloc | apply Kd.R_drewN | apply Kd.R_drew)); exact (Kd.R_mono (Kd.R_far (p := ⟨gb889, 5, none⟩) (Kd.R_far (p := ⟨gb889, 4, none⟩) (Kd.R_far (p := ⟨gb889, 3, none⟩) (Kd.R_far (p := ⟨gb889, 2, none⟩) (Kd.R_far (p := ⟨gb889, 1, none⟩) (Kd.R_far (p := ⟨gb889, 0, none⟩) (Kd.R_types HO885.out BK889.out (by decide)) (fun _ hk => hk.2) (.slice Ao9 t874.length co9)) (fun _ hk => hk.2) (.int .i64 t877)) (fun _ hk => hk.2) (.slice Ao11 t878.length co11)) (fun _ hk => hk.2) (.int .i64 t881)) (fun _ hk => hk.2) (.int .i64 t882)) (fun _ hk => hk.2) (.slice Ao12 t883.length co12)) (fun _ h_ => h_.1)))); (case side6 => exact (Kd.R_reads' HO885.out).2.1); rintro e w13 ⟨v891, rfl, ho0, hb⟩; refine ⟨_, rfl, ?_⟩; have n0_ := A_ (Kd.R_below (by (with_reducible repeat (first | apply Kd.R_alloc | apply Kd.R_drewN | apply Kd.R_drew)); exact (Kd.R_mono (Kd.R_far (p := ⟨gb889, 5, none⟩) (Kd.R_far (p := ⟨gb889, 4, none⟩) (Kd.R_far (p := ⟨gb889, 3, none⟩) (Kd.R_far (p := ⟨gb889, 2, none⟩) (Kd.R_far (p := ⟨gb889, 1, none⟩) (Kd.R_far (p := ⟨gb889, 0, none⟩) (Kd.R_types HO876.out BK889.out (by decide)) (fun _ hk => hk.2) (.slice Ao9 t874.length co9)) (fun _ hk => hk.2) (.int .i64 t877)) (fun _ hk => hk.2) (.slice Ao11 t878.length co11)) (fun _ hk => hk.2) (.int .i64 t881)) (fun _ hk => hk.2) (.int .i64 t882)) (fun _ hk => hk.2) (.slice Ao12 t883.length co12)) (fun _ h_ => h_.1))) hb); have n1_ := A_ (Kd.R_below (by (with_reducible repeat (first | apply Kd.R_alloc | apply Kd.R_drewN | apply Kd.R_drew)); exact (Kd.R_mono (Kd.R_far (p := ⟨gb889, 5, none⟩) (Kd.R_far (p := ⟨gb889, 4, none⟩) (Kd.R_far (p := ⟨gb889, 3, none⟩) (Kd.R_far (p := ⟨gb889, 2, none⟩) (Kd.R_far (p := ⟨gb889, 1, none⟩) (Kd.R_far (p := ⟨gb889, 0, none⟩) (Kd.R_types HO880.out BK889.out (by decide)) (fun _ hk => hk.2) (.slice Ao9 t874.length co9)) (fun _ hk => hk.2) (.int .i64 t877)) (fun _ hk => hk.2) (.slice Ao11 t878.length co11)) (fun _ hk => hk.2) (.int .i64 t881)) (fun _ hk => hk.2) (.int .i64 t882)) (fun _ hk => hk.2) (.slice Ao12 t883.length co12)) (fun _ h_ => h_.1))) hb); have n2_ := A_ (Kd.R_below (by (with_reducible repeat (first | apply Kd.R_alloc | apply Kd.R_drewN | apply Kd.R_drew)); exact (Kd.R_mono (Kd.R_far (p := ⟨gb889, 5, none⟩) (Kd.R_far (p := ⟨gb889, 4, none⟩) (Kd.R_far (p := ⟨gb889, 3, none⟩) (Kd.R_far (p := ⟨gb889, 2, none⟩) (Kd.R_far (p := ⟨gb889, 1, none⟩) (Kd.R_far (p := ⟨gb889, 0, none⟩) (Kd.R_types HO885.out BK889.out (by decide)) (fun _ hk => hk.2) (.slice Ao9 t874.length co9)) (fun _ hk => hk.2) (.int .i64 t877)) (fun _ hk => hk.2) (.slice Ao11 t878.length co11)) (fun _ hk => hk.2) (.int .i64 t881)) (fun _ hk => hk.2) (.int .i64 t882)) (fun _ hk => hk.2) (.slice Ao12 t883.length co12)) (fun _ h_ => h_.1))) hb); have n3_ := A_ (Kd.R_below (by (with_reducible repeat (first | apply Kd.R_alloc | apply Kd.R_drewN | apply Kd.R_drew)); exact (Kd.R_mono (Kd.R_far (p := ⟨gb889, 5, none⟩) (Kd.R_far (p := ⟨gb889, 4, none⟩) (Kd.R_far (p := ⟨gb889, 3, none⟩) (Kd.R_far (p := ⟨gb889, 2, none⟩) (Kd.R_far (p := ⟨gb889, 1, none⟩) (Kd.R_far (p := ⟨gb889, 0, none⟩) (Kd.R_types HO888.out BK889.out (by decide)) (fun _ hk => hk.2) (.slice Ao9 t874.length co9)) (fun _ hk => hk.2) (.int .i64 t877)) (fun _ hk => hk.2) (.slice Ao11 t878.length co11)) (fun _ hk => hk.2) (.int .i64 t881)) (fun _ hk => hk.2) (.int .i64 t882)) (fun _ hk => hk.2) (.slice Ao12 t883.length co12)) (fun _ h_ => h_.1))) hb); have n4_ := A_ (Kd.R_lower ho0 (below_size (oB HB))); have n5_ := A_ (blk_below (g := gb889) (o := .cells #[.slice Ao9 t874.length co9, .int .i64 t877, .slice Ao11 t878.length co11, .int .i64 t881, .int .i64 t882, .slice Ao12 t883.length co12] 44 (0, 0)) (by (with_reducible repeat (first | refine blk_drewN ?_ _ | refine blk_drew ?_ | refine blk_alloc ?_ _)); refine blk_put (cs := #[.slice Ao9 t874.length co9, .int .i64 t877, .slice Ao11 t878.length co11, .int .i64 t881, .int .i64 t882, .slice none 0 0]) ?_ 5 _ rfl; (with_reducible repeat (first | refine blk_drewN ?_ _ | refine blk_drew ?_ | refine blk_alloc ?_ _)); refine blk_put (cs := #[.slice Ao9 t874.length co9, .int .i64 t877, .slice Ao11 t878.length co11, .int .i64 t881, .int .i64 0, .slice none 0 0]) ?_ 4 _ rfl; (with_reducible repeat (first | refine blk_drewN ?_ _ | refine blk_drew ?_ | refine blk_alloc ?_ _)); refine blk_put (cs := #[.slice Ao9 t874.length co9, .int .i64 t877, .slice Ao11 t878.length co11, .int .i64 0, .int .i64 0, .slice none 0 0]) ?_ 3 _ rfl; (with_reducible repeat (first | refine blk_drewN ?_ _ | refine blk_drew ?_ | refine blk_alloc ?_ _)); refine blk_put (cs := #[.slice Ao9 t874.length co9, .int .i64 t877, .slice none 0 0, .int .i64 0, .int .i64 0, .slice none 0 0]) ?_ 2 _ rfl; (with_reducible repeat (first | refine blk_drewN ?_ _ | refine blk_drew ?_ | refine blk_alloc ?_ _)); refine blk_put (cs := #[.slice Ao9 t874.length co9, .int .i64 0, .slice none 0 0, .int .i64 0, .int .i64 0, .slice none 0 0]) ?_ 1 _ rfl; (with_reducible repeat (first | refine blk_drewN ?_ _ | refine blk_drew ?_ | refine blk_alloc ?_ _)); refine blk_put (cs := #[.slice none 0 0, .int .i64 0, .slice none 0 0, .int .i64 0, .int .i64 0, .slice none 0 0]) ?_ 0 _ rfl; (with_reducible repeat (first | refine blk_drewN ?_ _ | refine blk_drew ?_ | refine blk_alloc ?_ _)); exact BK889.out) hb); have n6_ := A_ (below_step (oB HB) hb); clear HO876; clear HO880; clear HO885; clear HO888; clear BK889; clear HB; have HO876 := n0_; have HO880 := n1_; have HO885 := n2_; have HO888 := n3_; have HO892 := n4_; have BK889 := n5_; have HB := n6_; clear n0_ n1_ n2_ n3_ n4_ n5_ n6_; (try clear hb); (try clear hb2); (try clear hk); (try clear hi); (try clear ho0)))
  (try simp only [Act.put, List.setIfInBounds_toArray, List.set_cons_zero, List.set_cons_succ])
  go_cut [61] (fun v61 wc => ∃ (kq : Nat) (x61_5 : Bool), v61 = .bool x61_5 ∧ Aside0 (laws_FnSummaries.j0 kq t890 x61_5 t874 t877 t878 t881 t882 t883 = some r) ∧ Aside0 (kq ≤ k) ∧ Aside0 (Kd.R Kd.string 9 wc w.heap.size (fun _ => True) v891 t890) ∧ Aside0 (Kd.R k145 145 wc w.heap.size (fun _ => True) (.slice Ao9 t874.length co9) t874) ∧ Aside0 (Kd.R (Kd.int .i64) 3 wc w.heap.size (fun _ => True) (.slice Ao11 t878.length co11) t878) ∧ Aside0 (Kd.R k85 85 wc w.heap.size (fun _ => True) (.slice Ao12 t883.length co12) t883) ∧ Aside0 (wc.heap[gb889]? = some (.cells #[(.slice Ao9 t874.length co9), .int .i64 t877, (.slice Ao11 t878.length co11), .int .i64 t881, .int .i64 t882, (.slice Ao12 t883.length co12)] 44 (0, 0))) ∧ Aside0 (Below w.heap.size w wc))
  case first =>
   have H := HC6.out
   clear HC6
   by_cases c14 : (t890.length : Int) = (wrap64 (4 + (t883.length : Int)))
   ·rw [if_pos c14] at H
    have c14b0 : ((t890.length : Int) == (wrap64 (4 + (t883.length : Int)))) = true := beq_iff_eq.mpr c14
    have c14b1 : ((t890.length : Int) != (wrap64 (4 + (t883.length : Int)))) = false := bne_eq_false_iff_eq.mpr c14
    clear c14
    (first | rw [c14b0] | (simp only [i64_w, i32_w]; rw [c14b0]) | skip)
    by_cases c15 : (t878.length : Int) = 12
    ·rw [if_pos c15] at H
     have c15b0 : ((t878.length : Int) == 12) = true := beq_iff_eq.mpr c15
     have c15b1 : ((t878.length : Int) != 12) = false := bne_eq_false_iff_eq.mpr c15
     clear c15
     by_cases c16 : 1 < (t890.length : Int)
     ·rw [if_pos c16] at H
      have c16b0 : decide (1 < (t890.length : Int)) = true := decide_eq_true c16
      have c16b1 : decide (1 < t890.length) = true := decide_eq_true (by omega)
      clear c16
      replace H := Option.bind_eq_some_iff.mp H
      obtain ⟨t894, A170, H⟩ := H
      (try dsimp only at H)
      have A17 := A_ A170
      clear A170
      by_cases c18 : 5 + t894.size ≤ 9223372036854775807
      ·rw [if_pos c18] at H
       have c18b0 := eq_true c18
       have c18b1 : decide (5 + t894.size ≤ 9223372036854775807) = true := decide_eq_true c18
       try have c18b2 : (9223372036854775807 < 5 + t894.size) = False := eq_false (Nat.not_lt.2 c18)
       by_cases c19 : (rdOf ByteArray.empty t890 1).toList = ((⟨#[100, 111, 110, 101, 32]⟩ : ByteArray) ++ t894).toList
       ·rw [if_pos c19] at H
        have c19b0 : ((rdOf ByteArray.empty t890 1).toList == ((⟨#[100, 111, 110, 101, 32]⟩ : ByteArray) ++ t894).toList) = true := beq_iff_eq.mpr c19
        have c19b1 : ((rdOf ByteArray.empty t890 1).toList != ((⟨#[100, 111, 110, 101, 32]⟩ : ByteArray) ++ t894).toList) = false := bne_eq_false_iff_eq.mpr c19
        clear c19
        by_cases c20 : 2 < (t890.length : Int)
        ·rw [if_pos c20] at H
         have c20b0 : decide (2 < (t890.length : Int)) = true := decide_eq_true c20
         have c20b1 : decide (2 < t890.length) = true := decide_eq_true (by omega)
         clear c20
         replace H := Option.bind_eq_some_iff.mp H
         obtain ⟨t896, A210, H⟩ := H
         (try dsimp only at H)
         have A21 := A_ A210
         clear A210
         by_cases c22 : 7 + t896.size ≤ 9223372036854775807
         ·rw [if_pos c22] at H
          have c22b0 := eq_true c22
          have c22b1 : decide (7 + t896.size ≤ 9223372036854775807) = true := decide_eq_true c22
          try have c22b2 : (9223372036854775807 < 7 + t896.size) = False := eq_false (Nat.not_lt.2 c22)
          by_cases c23 : (rdOf ByteArray.empty t890 2).toList = ((⟨#[119, 97, 114, 109, 116, 104, 32]⟩ : ByteArray) ++ t896).toList
          ·rw [if_pos c23] at H
           have c23b0 : ((rdOf ByteArray.empty t890 2).toList == ((⟨#[119, 97, 114, 109, 116, 104, 32]⟩ : ByteArray) ++ t896).toList) = true := beq_iff_eq.mpr c23
           have c23b1 : ((rdOf ByteArray.empty t890 2).toList != ((⟨#[119, 97, 114, 109, 116, 104, 32]⟩ : ByteArray) ++ t896).toList) = false := bne_eq_false_iff_eq.mpr c23
           clear c23
           by_cases c24 : 3 < (t890.length : Int)
           ·rw [if_pos c24] at H
            have c24b0 : decide (3 < (t890.length : Int)) = true := decide_eq_true c24
            have c24b1 : decide (3 < t890.length) = true := decide_eq_true (by omega)
            clear c24
            replace H := Option.bind_eq_some_iff.mp H
            obtain ⟨t898, A250, H⟩ := H
            (try dsimp only at H)
            have A25 := A_ A250
            clear A250
            by_cases c26 : 7 + t898.size ≤ 9223372036854775807
            ·rw [if_pos c26] at H
             have c26b0 := eq_true c26
             have c26b1 : decide (7 + t898.size ≤ 9223372036854775807) = true := decide_eq_true c26
             try have c26b2 : (9223372036854775807 < 7 + t898.size) = False := eq_false (Nat.not_lt.2 c26)
             have H' := A_ H
             clear H
             try go_wp2
             have n0_ := A_ (Kd.R_drew HO876.out)
             have n1_ := A_ (Kd.R_drew HO880.out)
             have n2_ := A_ (Kd.R_drew HO885.out)
             have n3_ := A_ (Kd.R_drew HO888.out)
             have n4_ := A_ (Kd.R_drew HO892.out)
             have n5_ := A_ (blk_drew BK889.out)
             have n6_ := A_ (below_drew1 HB.out)
             clear HO876
             clear HO880
             clear HO885
             clear HO888
             clear HO892
             clear BK889
             clear HB
             have HO876 := n0_
             have HO880 := n1_
             have HO885 := n2_
             have HO888 := n3_
             have HO892 := n4_
             have BK889 := n5_
             have HB := n6_
             clear n0_ n1_ n2_ n3_ n4_ n5_ n6_
             obtain ⟨Ao28, co28, eo28⟩ := Kd.R_slice HO892.out
             (first | subst eo28 | (injection eo28 with f1_ f2_ f3_; have f4_ := f1_.symm; have f5_ := f3_.symm; clear f1_ f2_ f3_; subst f4_; subst f5_))
             have p893 : 0 ≤ (1 : Int) := (by omega)
             have q893 : 1 < (t890.length : Int) := of_decide_eq_true (by first | (with_reducible assumption) | assumption)
             obtain ⟨ad893, e893, hx893_0⟩ := Kd.at_string (Kd.R_reads' HO892.out).2.2 1 p893 q893
             cases e893
             (try simp only [show (1 : Int).toNat = 1 from rfl, Nat.reduceMul, Nat.reduceEqDiff, Go.Addr.add, ↓reduceIte] at hx893_0)
             have qi893 : (1 < t890.length) = True := eq_true (by omega)
             (try rw [show ((1 : Int)).toNat = 1 from rfl] at hx893_0)
             replace p893 := eq_true p893
             replace q893 := eq_true q893
             have p895 : 0 ≤ (2 : Int) := (by omega)
             have q895 : 2 < (t890.length : Int) := of_decide_eq_true (by first | (with_reducible assumption) | assumption)
             obtain ⟨ad895, e895, hx895_0⟩ := Kd.at_string (Kd.R_reads' HO892.out).2.2 2 p895 q895
             obtain rfl : ad893 = ad895 := (by injection e895)
             (try simp only [show (2 : Int).toNat = 2 from rfl, Nat.reduceMul, Nat.reduceEqDiff, Go.Addr.add, ↓reduceIte] at hx895_0)
             have qi895 : (2 < t890.length) = True := eq_true (by omega)
             (try rw [show ((2 : Int)).toNat = 2 from rfl] at hx895_0)
             replace p895 := eq_true p895
             replace q895 := eq_true q895
             have p897 : 0 ≤ (3 : Int) := (by omega)
             have q897 : 3 < (t890.length : Int) := of_decide_eq_true (by first | (with_reducible assumption) | assumption)
             obtain ⟨ad897, e897, hx897_0⟩ := Kd.at_string (Kd.R_reads' HO892.out).2.2 3 p897 q897
             obtain rfl : ad893 = ad897 := (by injection e897)
             (try simp only [show (3 : Int).toNat = 3 from rfl, Nat.reduceMul, Nat.reduceEqDiff, Go.Addr.add, ↓reduceIte] at hx897_0)
             have qi897 : (3 < t890.length) = True := eq_true (by omega)
             (try rw [show ((3 : Int)).toNat = 3 from rfl] at hx897_0)
             replace p897 := eq_true p897
             replace q897 := eq_true q897
             refine start_ (n := 45) (S := fun w' => w'.cell? ⟨gb889, 0, none⟩ = some (.slice Ao9 t874.length co9) ∧ w'.cell? ⟨gb889, 1, none⟩ = some (.int .i64 t877) ∧ w'.cell? ⟨gb889, 2, none⟩ = some (.slice Ao11 t878.length co11) ∧ w'.cell? ⟨gb889, 3, none⟩ = some (.int .i64 t881) ∧ w'.cell? ⟨gb889, 4, none⟩ = some (.int .i64 t882) ∧ w'.cell? ⟨gb889, 5, none⟩ = some (.slice Ao12 t883.length co12) ∧ w'.cell? ⟨ad893.block, ad893.off + 1, none⟩ = some (.string (rdOf ByteArray.empty t890 1)) ∧ w'.cell? ⟨ad893.block, ad893.off + 2, none⟩ = some (.string (rdOf ByteArray.empty t890 2)) ∧ w'.cell? ⟨ad893.block, ad893.off + 3, none⟩ = some (.string (rdOf ByteArray.empty t890 3))) (ds := []) #[false, false, false, false, false, false, false, false, false, false, false, false, false, false, false, false, false, false, false, false, false, false, false, false, false, false, false, false, false, false, false, false, false, false, false, false, false, false, false, false, false, false, false, false, false] (by kernel_rfl) rfl rfl ⟨cz BK889 0, cz BK889 1, cz BK889 2, cz BK889 3, cz BK889 4, cz BK889 5, hx893_0, hx895_0, hx897_0⟩ (fun hHeld => ?_); refine with_tabW laws_FnSummaries.tab5 laws_FnSummaries.bits5 (fun HT_ HW_ => ?_)
             generalize w13.drew = w27 at HO876 HO880 HO885 HO888 HO892 BK889 HB hx893_0 hx895_0 hx897_0 hHeld ⊢
             refine pA 0 (some 17) HT_.out ?_
             refine pA 1 (some 18) HT_.out ?_
             refine pA 2 (some 19) HT_.out ?_
             refine pT 3 (some 20) HT_.out HW_.out hHeld ?_
             refine pA 4 (some 21) HT_.out ?_
             refine pA 5 (some 22) HT_.out ?_
             refine pA 6 (some 23) HT_.out ?_
             refine pA 7 (some 24) HT_.out ?_
             refine pA 8 (some 25) HT_.out ?_
             refine pA 9 (some 26) HT_.out ?_
             refine pT 10 (some 27) HT_.out HW_.out hHeld ?_
             refine pA 11 (some 28) HT_.out ?_
             refine pA 12 (some 29) HT_.out ?_
             refine pA 13 (some 30) HT_.out ?_
             refine pA 14 (some 31) HT_.out ?_
             refine pA 15 (some 32) HT_.out ?_
             refine pA 16 (some 33) HT_.out ?_
             refine pA 18 (some 35) HT_.out ?_
             refine pA 19 (some 36) HT_.out ?_
             refine pT 17 (some 34) HT_.out HW_.out hHeld ?_
             refine pT 20 (some 37) HT_.out HW_.out hHeld ?_
             refine one_ (i := 21) (N := some 38) #[true, true, true, true, true, true, true, true, true, true, true, true, true, true, true, true, true, true, true, true, true, true, false, false, false, false, false, false, false, false, false, false, false, false, false, false, false, false, false, false, false, false, false, false, false] rfl rfl (one_of HT_.out (by kernel_rfl)) (by decide) (fun K hK => ?_)
             refine goes_ Tryd.func19 (by kernel_rfl) rfl #[.int .i64 t877] (by rfl) rfl rfl (by (try simp only [List.map_toArray, List.map_cons, List.map_nil]); first | done | rfl | (simp only [List.length_drop, List.length_take]; rfl)) ?_
             with_reducible refine (impl_FormatInt.calls t877 t894 _ A17.out ?sideT).mono ?_
             (case sideT => exact ⟨tab_on ht_.out (oB HB)⟩)
             rintro e w29 ⟨rfl, hb⟩
             have HS6_ := (hb.cell (World.block_lt_of_cell? _ _ (hHeld.2.2.2.2.2.2.1))).trans (hHeld.2.2.2.2.2.2.1)
             have HS7_ := (hb.cell (World.block_lt_of_cell? _ _ (hHeld.2.2.2.2.2.2.2.1))).trans (hHeld.2.2.2.2.2.2.2.1)
             have HS8_ := (hb.cell (World.block_lt_of_cell? _ _ (hHeld.2.2.2.2.2.2.2.2))).trans (hHeld.2.2.2.2.2.2.2.2)
             refine ⟨_, rfl, ?_⟩
             have n0_ := A_ (Kd.R_below (oR HO876) hb)
             have n1_ := A_ (Kd.R_below (oR HO880) hb)
             have n2_ := A_ (Kd.R_below (oR HO885) hb)
             have n3_ := A_ (Kd.R_below (oR HO888) hb)
             have n4_ := A_ (Kd.R_below (oR HO892) hb)
             have n5_ := A_ (bb BK889 hb)
             have n6_ := A_ (below_step (oB HB) hb)
             clear HO876
             clear HO880
             clear HO885
             clear HO888
             clear HO892
             clear BK889
             clear HB
             have HO876 := n0_
             have HO880 := n1_
             have HO885 := n2_
             have HO888 := n3_
             have HO892 := n4_
             have BK889 := n5_
             have HB := n6_
             clear n0_ n1_ n2_ n3_ n4_ n5_ n6_
             (try clear hb)
             (try clear hb2)
             (try clear hk)
             (try clear hi)
             refine hK.out _ _ ⟨cz BK889 0, cz BK889 1, cz BK889 2, cz BK889 3, cz BK889 4, cz BK889 5, HS6_, HS7_, HS8_⟩ (fun hHeld => ?_)
             clear hK K
             refine norm_ (a' := ?_) ?_ ?_
             rotate_left
             ·show Act.put _ (some 38) _ = _
              simp only [Act.put, List.setIfInBounds_toArray, List.set_cons_zero, List.set_cons_succ, i64_w, i32_w]
              rfl
             refine pA 22 (some 39) HT_.out ?_
             refine pA 23 (some 40) HT_.out ?_
             refine pA 24 (some 41) HT_.out ?_
             refine pA 25 (some 42) HT_.out ?_
             refine pA 26 (some 43) HT_.out ?_
             refine pA 27 (some 44) HT_.out ?_
             refine pA 29 (some 46) HT_.out ?_
             refine pT 28 (some 45) HT_.out HW_.out hHeld ?_
             refine pT 30 (some 47) HT_.out HW_.out hHeld ?_
             refine one_ (i := 31) (N := some 48) #[true, true, true, true, true, true, true, true, true, true, true, true, true, true, true, true, true, true, true, true, true, true, true, true, true, true, true, true, true, true, true, true, false, false, false, false, false, false, false, false, false, false, false, false, false] rfl rfl (one_of HT_.out (by kernel_rfl)) (by decide) (fun K hK => ?_)
             refine goes_ Tryd.func19 (by kernel_rfl) rfl #[.int .i64 t881] (by rfl) rfl rfl (by (try simp only [List.map_toArray, List.map_cons, List.map_nil]); first | done | rfl | (simp only [List.length_drop, List.length_take]; rfl)) ?_
             with_reducible refine (impl_FormatInt.calls t881 t896 _ A21.out ?sideT).mono ?_
             (case sideT => exact ⟨tab_on ht_.out (oB HB)⟩)
             rintro e w30 ⟨rfl, hb⟩
             have HS6_ := (hb.cell (World.block_lt_of_cell? _ _ (hHeld.2.2.2.2.2.2.1))).trans (hHeld.2.2.2.2.2.2.1)
             have HS7_ := (hb.cell (World.block_lt_of_cell? _ _ (hHeld.2.2.2.2.2.2.2.1))).trans (hHeld.2.2.2.2.2.2.2.1)
             have HS8_ := (hb.cell (World.block_lt_of_cell? _ _ (hHeld.2.2.2.2.2.2.2.2))).trans (hHeld.2.2.2.2.2.2.2.2)
             refine ⟨_, rfl, ?_⟩
             have n0_ := A_ (Kd.R_below (oR HO876) hb)
             have n1_ := A_ (Kd.R_below (oR HO880) hb)
             have n2_ := A_ (Kd.R_below (oR HO885) hb)
             have n3_ := A_ (Kd.R_below (oR HO888) hb)
             have n4_ := A_ (Kd.R_below (oR HO892) hb)
             have n5_ := A_ (bb BK889 hb)
             have n6_ := A_ (below_step (oB HB) hb)
             clear HO876
             clear HO880
             clear HO885
             clear HO888
             clear HO892
             clear BK889
             clear HB
             have HO876 := n0_
             have HO880 := n1_
             have HO885 := n2_
             have HO888 := n3_
             have HO892 := n4_
             have BK889 := n5_
             have HB := n6_
             clear n0_ n1_ n2_ n3_ n4_ n5_ n6_
             (try clear hb)
             (try clear hb2)
             (try clear hk)
             (try clear hi)
             refine hK.out _ _ ⟨cz BK889 0, cz BK889 1, cz BK889 2, cz BK889 3, cz BK889 4, cz BK889 5, HS6_, HS7_, HS8_⟩ (fun hHeld => ?_)
             clear hK K
             refine norm_ (a' := ?_) ?_ ?_
             rotate_left
             ·show Act.put _ (some 48) _ = _
              simp only [Act.put, List.setIfInBounds_toArray, List.set_cons_zero, List.set_cons_succ, i64_w, i32_w]
              rfl
             refine pA 32 (some 49) HT_.out ?_
             refine pA 33 (some 50) HT_.out ?_
             refine pA 34 (some 51) HT_.out ?_
             refine pA 35 (some 52) HT_.out ?_
             refine pA 36 (some 53) HT_.out ?_
             refine pA 37 (some 54) HT_.out ?_
             refine pA 39 (some 56) HT_.out ?_
             refine pT 38 (some 55) HT_.out HW_.out hHeld ?_
             refine pT 40 (some 57) HT_.out HW_.out hHeld ?_
             refine one_ (i := 41) (N := some 58) #[true, true, true, true, true, true, true, true, true, true, true, true, true, true, true, true, true, true, true, true, true, true, true, true, true, true, true, true, true, true, true, true, true, true, true, true, true, true, true, true, true, true, false, false, false] rfl rfl (one_of HT_.out (by kernel_rfl)) (by decide) (fun K hK => ?_)
             refine goes_ Tryd.func19 (by kernel_rfl) rfl #[.int .i64 t882] (by rfl) rfl rfl (by (try simp only [List.map_toArray, List.map_cons, List.map_nil]); first | done | rfl | (simp only [List.length_drop, List.length_take]; rfl)) ?_
             with_reducible refine (impl_FormatInt.calls t882 t898 _ A25.out ?sideT).mono ?_
             (case sideT => exact ⟨tab_on ht_.out (oB HB)⟩)
             rintro e w31 ⟨rfl, hb⟩
             have HS6_ := (hb.cell (World.block_lt_of_cell? _ _ (hHeld.2.2.2.2.2.2.1))).trans (hHeld.2.2.2.2.2.2.1)
             have HS7_ := (hb.cell (World.block_lt_of_cell? _ _ (hHeld.2.2.2.2.2.2.2.1))).trans (hHeld.2.2.2.2.2.2.2.1)
             have HS8_ := (hb.cell (World.block_lt_of_cell? _ _ (hHeld.2.2.2.2.2.2.2.2))).trans (hHeld.2.2.2.2.2.2.2.2)
             refine ⟨_, rfl, ?_⟩
             have n0_ := A_ (Kd.R_below (oR HO876) hb)
             have n1_ := A_ (Kd.R_below (oR HO880) hb)
             have n2_ := A_ (Kd.R_below (oR HO885) hb)
             have n3_ := A_ (Kd.R_below (oR HO888) hb)
             have n4_ := A_ (Kd.R_below (oR HO892) hb)
             have n5_ := A_ (bb BK889 hb)
             have n6_ := A_ (below_step (oB HB) hb)
             clear HO876
             clear HO880
             clear HO885
             clear HO888
             clear HO892
             clear BK889
             clear HB
             have HO876 := n0_
             have HO880 := n1_
             have HO885 := n2_
             have HO888 := n3_
             have HO892 := n4_
             have BK889 := n5_
             have HB := n6_
             clear n0_ n1_ n2_ n3_ n4_ n5_ n6_
             (try clear hb)
             (try clear hb2)
             (try clear hk)
             (try clear hi)
             refine hK.out _ _ ⟨cz BK889 0, cz BK889 1, cz BK889 2, cz BK889 3, cz BK889 4, cz BK889 5, HS6_, HS7_, HS8_⟩ (fun hHeld => ?_)
             clear hK K
             refine norm_ (a' := ?_) ?_ ?_
             rotate_left
             ·show Act.put _ (some 58) _ = _
              simp only [Act.put, List.setIfInBounds_toArray, List.set_cons_zero, List.set_cons_succ, i64_w, i32_w]
              rfl
             refine pA 42 (some 59) HT_.out ?_
             refine pA 43 (some 60) HT_.out ?_
             refine pA 44 (some 61) HT_.out ?_
             refine done_ (done_of HT_.out (by kernel_rfl)) ?_
             try go_wp2
             go_meet
             case rel => exact ⟨_, (((rdOf ByteArray.empty t890 3).toList != ((⟨#[109, 111, 109, 101, 110, 116, 32]⟩ : ByteArray) ++ t898).toList)), (by first | rfl | (simp; done) | (simp [*]; done)), H', ⟨by first | omega | exact Nat.le_refl _⟩, ⟨oR HO892⟩, ⟨oR HO876⟩, ⟨oR HO880⟩, ⟨oR HO885⟩, ⟨oK BK889⟩, ⟨oB HB⟩⟩
            ·rw [if_neg c26] at H
             exact absurd H (by simp)
           ·rw [if_neg c24] at H
            exact absurd H (by simp)
          ·rw [if_neg c23] at H
           have c23b0 : ((rdOf ByteArray.empty t890 2).toList == ((⟨#[119, 97, 114, 109, 116, 104, 32]⟩ : ByteArray) ++ t896).toList) = false := beq_eq_false_iff_ne.mpr c23
           have c23b1 : ((rdOf ByteArray.empty t890 2).toList != ((⟨#[119, 97, 114, 109, 116, 104, 32]⟩ : ByteArray) ++ t896).toList) = true := bne_iff_ne.mpr c23
           have H' := A_ H
           clear H
           try go_wp2
           have n0_ := A_ (Kd.R_drew HO876.out)
           have n1_ := A_ (Kd.R_drew HO880.out)
           have n2_ := A_ (Kd.R_drew HO885.out)
           have n3_ := A_ (Kd.R_drew HO888.out)
           have n4_ := A_ (Kd.R_drew HO892.out)
           have n5_ := A_ (blk_drew BK889.out)
           have n6_ := A_ (below_drew1 HB.out)
           clear HO876
           clear HO880
           clear HO885
           clear HO888
           clear HO892
           clear BK889
           clear HB
           have HO876 := n0_
           have HO880 := n1_
           have HO885 := n2_
           have HO888 := n3_
           have HO892 := n4_
           have BK889 := n5_
           have HB := n6_
           clear n0_ n1_ n2_ n3_ n4_ n5_ n6_
           obtain ⟨Ao33, co33, eo33⟩ := Kd.R_slice HO892.out
           (first | subst eo33 | (injection eo33 with f1_ f2_ f3_; have f4_ := f1_.symm; have f5_ := f3_.symm; clear f1_ f2_ f3_; subst f4_; subst f5_))
           have p893 : 0 ≤ (1 : Int) := (by omega)
           have q893 : 1 < (t890.length : Int) := of_decide_eq_true (by first | (with_reducible assumption) | assumption)
           obtain ⟨ad893, e893, hx893_0⟩ := Kd.at_string (Kd.R_reads' HO892.out).2.2 1 p893 q893
           cases e893
           (try simp only [show (1 : Int).toNat = 1 from rfl, Nat.reduceMul, Nat.reduceEqDiff, Go.Addr.add, ↓reduceIte] at hx893_0)
           have qi893 : (1 < t890.length) = True := eq_true (by omega)
           (try rw [show ((1 : Int)).toNat = 1 from rfl] at hx893_0)
           replace p893 := eq_true p893
           replace q893 := eq_true q893
           have p895 : 0 ≤ (2 : Int) := (by omega)
           have q895 : 2 < (t890.length : Int) := of_decide_eq_true (by first | (with_reducible assumption) | assumption)
           obtain ⟨ad895, e895, hx895_0⟩ := Kd.at_string (Kd.R_reads' HO892.out).2.2 2 p895 q895
           obtain rfl : ad893 = ad895 := (by injection e895)
           (try simp only [show (2 : Int).toNat = 2 from rfl, Nat.reduceMul, Nat.reduceEqDiff, Go.Addr.add, ↓reduceIte] at hx895_0)
           have qi895 : (2 < t890.length) = True := eq_true (by omega)
           (try rw [show ((2 : Int)).toNat = 2 from rfl] at hx895_0)
           replace p895 := eq_true p895
           replace q895 := eq_true q895
           refine start_ (n := 45) (S := fun w' => w'.cell? ⟨gb889, 0, none⟩ = some (.slice Ao9 t874.length co9) ∧ w'.cell? ⟨gb889, 1, none⟩ = some (.int .i64 t877) ∧ w'.cell? ⟨gb889, 2, none⟩ = some (.slice Ao11 t878.length co11) ∧ w'.cell? ⟨gb889, 3, none⟩ = some (.int .i64 t881) ∧ w'.cell? ⟨gb889, 4, none⟩ = some (.int .i64 t882) ∧ w'.cell? ⟨gb889, 5, none⟩ = some (.slice Ao12 t883.length co12) ∧ w'.cell? ⟨ad893.block, ad893.off + 1, none⟩ = some (.string (rdOf ByteArray.empty t890 1)) ∧ w'.cell? ⟨ad893.block, ad893.off + 2, none⟩ = some (.string (rdOf ByteArray.empty t890 2))) (ds := []) #[false, false, false, false, false, false, false, false, false, false, false, false, false, false, false, false, false, false, false, false, false, false, false, false, false, false, false, false, false, false, false, false, false, false, false, false, false, false, false, false, false, false, false, false, false] (by kernel_rfl) rfl rfl ⟨cz BK889 0, cz BK889 1, cz BK889 2, cz BK889 3, cz BK889 4, cz BK889 5, hx893_0, hx895_0⟩ (fun hHeld => ?_); refine with_tabW laws_FnSummaries.tab5 laws_FnSummaries.bits5 (fun HT_ HW_ => ?_)
           generalize w13.drew = w32 at HO876 HO880 HO885 HO888 HO892 BK889 HB hx893_0 hx895_0 hHeld ⊢
           refine pA 0 (some 17) HT_.out ?_
           refine pA 1 (some 18) HT_.out ?_
           refine pA 2 (some 19) HT_.out ?_
           refine pT 3 (some 20) HT_.out HW_.out hHeld ?_
           refine pA 4 (some 21) HT_.out ?_
           refine pA 5 (some 22) HT_.out ?_
           refine pA 6 (some 23) HT_.out ?_
           refine pA 7 (some 24) HT_.out ?_
           refine pA 8 (some 25) HT_.out ?_
           refine pA 9 (some 26) HT_.out ?_
           refine pT 10 (some 27) HT_.out HW_.out hHeld ?_
           refine pA 11 (some 28) HT_.out ?_
           refine pA 12 (some 29) HT_.out ?_
           refine pA 13 (some 30) HT_.out ?_
           refine pA 14 (some 31) HT_.out ?_
           refine pA 15 (some 32) HT_.out ?_
           refine pA 16 (some 33) HT_.out ?_
           refine pA 18 (some 35) HT_.out ?_
           refine pA 19 (some 36) HT_.out ?_
           refine pT 17 (some 34) HT_.out HW_.out hHeld ?_
           refine pT 20 (some 37) HT_.out HW_.out hHeld ?_
           refine one_ (i := 21) (N := some 38) #[true, true, true, true, true, true, true, true, true, true, true, true, true, true, true, true, true, true, true, true, true, true, false, false, false, false, false, false, false, false, false, false, false, false, false, false, false, false, false, false, false, false, false, false, false] rfl rfl (one_of HT_.out (by kernel_rfl)) (by decide) (fun K hK => ?_)
           refine goes_ Tryd.func19 (by kernel_rfl) rfl #[.int .i64 t877] (by rfl) rfl rfl (by (try simp only [List.map_toArray, List.map_cons, List.map_nil]); first | done | rfl | (simp only [List.length_drop, List.length_take]; rfl)) ?_
           with_reducible refine (impl_FormatInt.calls t877 t894 _ A17.out ?sideT).mono ?_
           (case sideT => exact ⟨tab_on ht_.out (oB HB)⟩)
           rintro e w34 ⟨rfl, hb⟩
           have HS6_ := (hb.cell (World.block_lt_of_cell? _ _ (hHeld.2.2.2.2.2.2.1))).trans (hHeld.2.2.2.2.2.2.1)
           have HS7_ := (hb.cell (World.block_lt_of_cell? _ _ (hHeld.2.2.2.2.2.2.2))).trans (hHeld.2.2.2.2.2.2.2)
           refine ⟨_, rfl, ?_⟩
           have n0_ := A_ (Kd.R_below (oR HO876) hb)
           have n1_ := A_ (Kd.R_below (oR HO880) hb)
           have n2_ := A_ (Kd.R_below (oR HO885) hb)
           have n3_ := A_ (Kd.R_below (oR HO888) hb)
           have n4_ := A_ (Kd.R_below (oR HO892) hb)
           have n5_ := A_ (bb BK889 hb)
           have n6_ := A_ (below_step (oB HB) hb)
           clear HO876
           clear HO880
           clear HO885
           clear HO888
           clear HO892
           clear BK889
           clear HB
           have HO876 := n0_
           have HO880 := n1_
           have HO885 := n2_
           have HO888 := n3_
           have HO892 := n4_
           have BK889 := n5_
           have HB := n6_
           clear n0_ n1_ n2_ n3_ n4_ n5_ n6_
           (try clear hb)
           (try clear hb2)
           (try clear hk)
           (try clear hi)
           refine hK.out _ _ ⟨cz BK889 0, cz BK889 1, cz BK889 2, cz BK889 3, cz BK889 4, cz BK889 5, HS6_, HS7_⟩ (fun hHeld => ?_)
           clear hK K
           refine norm_ (a' := ?_) ?_ ?_
           rotate_left
           ·show Act.put _ (some 38) _ = _
            simp only [Act.put, List.setIfInBounds_toArray, List.set_cons_zero, List.set_cons_succ, i64_w, i32_w]
            rfl
           refine pA 22 (some 39) HT_.out ?_
           refine pA 23 (some 40) HT_.out ?_
           refine pA 24 (some 41) HT_.out ?_
           refine pA 25 (some 42) HT_.out ?_
           refine pA 26 (some 43) HT_.out ?_
           refine pA 27 (some 44) HT_.out ?_
           refine pA 29 (some 46) HT_.out ?_
           refine pT 28 (some 45) HT_.out HW_.out hHeld ?_
           refine pT 30 (some 47) HT_.out HW_.out hHeld ?_
           refine one_ (i := 31) (N := some 48) #[true, true, true, true, true, true, true, true, true, true, true, true, true, true, true, true, true, true, true, true, true, true, true, true, true, true, true, true, true, true, true, true, false, false, false, false, false, false, false, false, false, false, false, false, false] rfl rfl (one_of HT_.out (by kernel_rfl)) (by decide) (fun K hK => ?_)
           refine goes_ Tryd.func19 (by kernel_rfl) rfl #[.int .i64 t881] (by rfl) rfl rfl (by (try simp only [List.map_toArray, List.map_cons, List.map_nil]); first | done | rfl | (simp only [List.length_drop, List.length_take]; rfl)) ?_
           with_reducible refine (impl_FormatInt.calls t881 t896 _ A21.out ?sideT).mono ?_
           (case sideT => exact ⟨tab_on ht_.out (oB HB)⟩)
           rintro e w35 ⟨rfl, hb⟩
           have HS6_ := (hb.cell (World.block_lt_of_cell? _ _ (hHeld.2.2.2.2.2.2.1))).trans (hHeld.2.2.2.2.2.2.1)
           have HS7_ := (hb.cell (World.block_lt_of_cell? _ _ (hHeld.2.2.2.2.2.2.2))).trans (hHeld.2.2.2.2.2.2.2)
           refine ⟨_, rfl, ?_⟩
           have n0_ := A_ (Kd.R_below (oR HO876) hb)
           have n1_ := A_ (Kd.R_below (oR HO880) hb)
           have n2_ := A_ (Kd.R_below (oR HO885) hb)
           have n3_ := A_ (Kd.R_below (oR HO888) hb)
           have n4_ := A_ (Kd.R_below (oR HO892) hb)
           have n5_ := A_ (bb BK889 hb)
           have n6_ := A_ (below_step (oB HB) hb)
           clear HO876
           clear HO880
           clear HO885
           clear HO888
           clear HO892
           clear BK889
           clear HB
           have HO876 := n0_
           have HO880 := n1_
           have HO885 := n2_
           have HO888 := n3_
           have HO892 := n4_
           have BK889 := n5_
           have HB := n6_
           clear n0_ n1_ n2_ n3_ n4_ n5_ n6_
           (try clear hb)
           (try clear hb2)
           (try clear hk)
           (try clear hi)
           refine hK.out _ _ ⟨cz BK889 0, cz BK889 1, cz BK889 2, cz BK889 3, cz BK889 4, cz BK889 5, HS6_, HS7_⟩ (fun hHeld => ?_)
           clear hK K
           refine norm_ (a' := ?_) ?_ ?_
           rotate_left
           ·show Act.put _ (some 48) _ = _
            simp only [Act.put, List.setIfInBounds_toArray, List.set_cons_zero, List.set_cons_succ, i64_w, i32_w]
            rfl
           refine pA 32 (some 49) HT_.out ?_
           refine pA 33 (some 50) HT_.out ?_
           refine pA 34 (some 51) HT_.out ?_
           refine pA 35 (some 52) HT_.out ?_
           refine pU 36 (some 53) HT_.out ?_
           refine pU 37 (some 54) HT_.out ?_
           refine pU 38 (some 55) HT_.out ?_
           refine pU 39 (some 56) HT_.out ?_
           refine pU 40 (some 57) HT_.out ?_
           refine pU 41 (some 58) HT_.out ?_
           refine pU 42 (some 59) HT_.out ?_
           refine pU 43 (some 60) HT_.out ?_
           refine pA 44 (some 61) HT_.out ?_
           refine done_ (done_of HT_.out (by kernel_rfl)) ?_
           try go_wp2
           go_meet
           case rel => exact ⟨_, (true), (by first | rfl | (simp; done) | (simp [*]; done)), H', ⟨by first | omega | exact Nat.le_refl _⟩, ⟨oR HO892⟩, ⟨oR HO876⟩, ⟨oR HO880⟩, ⟨oR HO885⟩, ⟨oK BK889⟩, ⟨oB HB⟩⟩
         ·rw [if_neg c22] at H
          exact absurd H (by simp)
        ·rw [if_neg c20] at H
         exact absurd H (by simp)
       ·rw [if_neg c19] at H
        have c19b0 : ((rdOf ByteArray.empty t890 1).toList == ((⟨#[100, 111, 110, 101, 32]⟩ : ByteArray) ++ t894).toList) = false := beq_eq_false_iff_ne.mpr c19
        have c19b1 : ((rdOf ByteArray.empty t890 1).toList != ((⟨#[100, 111, 110, 101, 32]⟩ : ByteArray) ++ t894).toList) = true := bne_iff_ne.mpr c19
        have H' := A_ H
        clear H
        try go_wp2
        have n0_ := A_ (Kd.R_drew HO876.out)
        have n1_ := A_ (Kd.R_drew HO880.out)
        have n2_ := A_ (Kd.R_drew HO885.out)
        have n3_ := A_ (Kd.R_drew HO888.out)
        have n4_ := A_ (Kd.R_drew HO892.out)
        have n5_ := A_ (blk_drew BK889.out)
        have n6_ := A_ (below_drew1 HB.out)
        clear HO876
        clear HO880
        clear HO885
        clear HO888
        clear HO892
        clear BK889
        clear HB
        have HO876 := n0_
        have HO880 := n1_
        have HO885 := n2_
        have HO888 := n3_
        have HO892 := n4_
        have BK889 := n5_
        have HB := n6_
        clear n0_ n1_ n2_ n3_ n4_ n5_ n6_
        obtain ⟨Ao37, co37, eo37⟩ := Kd.R_slice HO892.out
        (first | subst eo37 | (injection eo37 with f1_ f2_ f3_; have f4_ := f1_.symm; have f5_ := f3_.symm; clear f1_ f2_ f3_; subst f4_; subst f5_))
        have p893 : 0 ≤ (1 : Int) := (by omega)
        have q893 : 1 < (t890.length : Int) := of_decide_eq_true (by first | (with_reducible assumption) | assumption)
        obtain ⟨ad893, e893, hx893_0⟩ := Kd.at_string (Kd.R_reads' HO892.out).2.2 1 p893 q893
        cases e893
        (try simp only [show (1 : Int).toNat = 1 from rfl, Nat.reduceMul, Nat.reduceEqDiff, Go.Addr.add, ↓reduceIte] at hx893_0)
        have qi893 : (1 < t890.length) = True := eq_true (by omega)
        (try rw [show ((1 : Int)).toNat = 1 from rfl] at hx893_0)
        replace p893 := eq_true p893
        replace q893 := eq_true q893
        refine start_ (n := 45) (S := fun w' => w'.cell? ⟨gb889, 0, none⟩ = some (.slice Ao9 t874.length co9) ∧ w'.cell? ⟨gb889, 1, none⟩ = some (.int .i64 t877) ∧ w'.cell? ⟨gb889, 2, none⟩ = some (.slice Ao11 t878.length co11) ∧ w'.cell? ⟨gb889, 3, none⟩ = some (.int .i64 t881) ∧ w'.cell? ⟨gb889, 4, none⟩ = some (.int .i64 t882) ∧ w'.cell? ⟨gb889, 5, none⟩ = some (.slice Ao12 t883.length co12) ∧ w'.cell? ⟨ad893.block, ad893.off + 1, none⟩ = some (.string (rdOf ByteArray.empty t890 1))) (ds := []) #[false, false, false, false, false, false, false, false, false, false, false, false, false, false, false, false, false, false, false, false, false, false, false, false, false, false, false, false, false, false, false, false, false, false, false, false, false, false, false, false, false, false, false, false, false] (by kernel_rfl) rfl rfl ⟨cz BK889 0, cz BK889 1, cz BK889 2, cz BK889 3, cz BK889 4, cz BK889 5, hx893_0⟩ (fun hHeld => ?_); refine with_tabW laws_FnSummaries.tab5 laws_FnSummaries.bits5 (fun HT_ HW_ => ?_)
        generalize w13.drew = w36 at HO876 HO880 HO885 HO888 HO892 BK889 HB hx893_0 hHeld ⊢
        refine pA 0 (some 17) HT_.out ?_
        refine pA 1 (some 18) HT_.out ?_
        refine pA 2 (some 19) HT_.out ?_
        refine pT 3 (some 20) HT_.out HW_.out hHeld ?_
        refine pA 4 (some 21) HT_.out ?_
        refine pA 5 (some 22) HT_.out ?_
        refine pA 6 (some 23) HT_.out ?_
        refine pA 7 (some 24) HT_.out ?_
        refine pA 8 (some 25) HT_.out ?_
        refine pA 9 (some 26) HT_.out ?_
        refine pT 10 (some 27) HT_.out HW_.out hHeld ?_
        refine pA 11 (some 28) HT_.out ?_
        refine pA 12 (some 29) HT_.out ?_
        refine pA 13 (some 30) HT_.out ?_
        refine pA 14 (some 31) HT_.out ?_
        refine pA 15 (some 32) HT_.out ?_
        refine pA 16 (some 33) HT_.out ?_
        refine pA 18 (some 35) HT_.out ?_
        refine pA 19 (some 36) HT_.out ?_
        refine pT 17 (some 34) HT_.out HW_.out hHeld ?_
        refine pT 20 (some 37) HT_.out HW_.out hHeld ?_
        refine one_ (i := 21) (N := some 38) #[true, true, true, true, true, true, true, true, true, true, true, true, true, true, true, true, true, true, true, true, true, true, false, false, false, false, false, false, false, false, false, false, false, false, false, false, false, false, false, false, false, false, false, false, false] rfl rfl (one_of HT_.out (by kernel_rfl)) (by decide) (fun K hK => ?_)
        refine goes_ Tryd.func19 (by kernel_rfl) rfl #[.int .i64 t877] (by rfl) rfl rfl (by (try simp only [List.map_toArray, List.map_cons, List.map_nil]); first | done | rfl | (simp only [List.length_drop, List.length_take]; rfl)) ?_
        with_reducible refine (impl_FormatInt.calls t877 t894 _ A17.out ?sideT).mono ?_
        (case sideT => exact ⟨tab_on ht_.out (oB HB)⟩)
        rintro e w38 ⟨rfl, hb⟩
        have HS6_ := (hb.cell (World.block_lt_of_cell? _ _ (hHeld.2.2.2.2.2.2))).trans (hHeld.2.2.2.2.2.2)
        refine ⟨_, rfl, ?_⟩
        have n0_ := A_ (Kd.R_below (oR HO876) hb)
        have n1_ := A_ (Kd.R_below (oR HO880) hb)
        have n2_ := A_ (Kd.R_below (oR HO885) hb)
        have n3_ := A_ (Kd.R_below (oR HO888) hb)
        have n4_ := A_ (Kd.R_below (oR HO892) hb)
        have n5_ := A_ (bb BK889 hb)
        have n6_ := A_ (below_step (oB HB) hb)
        clear HO876
        clear HO880
        clear HO885
        clear HO888
        clear HO892
        clear BK889
        clear HB
        have HO876 := n0_
        have HO880 := n1_
        have HO885 := n2_
        have HO888 := n3_
        have HO892 := n4_
        have BK889 := n5_
        have HB := n6_
        clear n0_ n1_ n2_ n3_ n4_ n5_ n6_
        (try clear hb)
        (try clear hb2)
        (try clear hk)
        (try clear hi)
        refine hK.out _ _ ⟨cz BK889 0, cz BK889 1, cz BK889 2, cz BK889 3, cz BK889 4, cz BK889 5, HS6_⟩ (fun hHeld => ?_)
        clear hK K
        refine norm_ (a' := ?_) ?_ ?_
        rotate_left
        ·show Act.put _ (some 38) _ = _
         simp only [Act.put, List.setIfInBounds_toArray, List.set_cons_zero, List.set_cons_succ, i64_w, i32_w]
         rfl
        refine pA 22 (some 39) HT_.out ?_
        refine pA 23 (some 40) HT_.out ?_
        refine pA 24 (some 41) HT_.out ?_
        refine pA 25 (some 42) HT_.out ?_
        refine pU 26 (some 43) HT_.out ?_
        refine pU 27 (some 44) HT_.out ?_
        refine pU 28 (some 45) HT_.out ?_
        refine pU 29 (some 46) HT_.out ?_
        refine pU 30 (some 47) HT_.out ?_
        refine pU 31 (some 48) HT_.out ?_
        refine pU 32 (some 49) HT_.out ?_
        refine pU 33 (some 50) HT_.out ?_
        refine pA 34 (some 51) HT_.out ?_
        refine pA 35 (some 52) HT_.out ?_
        refine pU 36 (some 53) HT_.out ?_
        refine pU 37 (some 54) HT_.out ?_
        refine pU 38 (some 55) HT_.out ?_
        refine pU 39 (some 56) HT_.out ?_
        refine pU 40 (some 57) HT_.out ?_
        refine pU 41 (some 58) HT_.out ?_
        refine pU 42 (some 59) HT_.out ?_
        refine pU 43 (some 60) HT_.out ?_
        refine pA 44 (some 61) HT_.out ?_
        refine done_ (done_of HT_.out (by kernel_rfl)) ?_
        try go_wp2
        go_meet
        case rel => exact ⟨_, (true), (by first | rfl | (simp; done) | (simp [*]; done)), H', ⟨by first | omega | exact Nat.le_refl _⟩, ⟨oR HO892⟩, ⟨oR HO876⟩, ⟨oR HO880⟩, ⟨oR HO885⟩, ⟨oK BK889⟩, ⟨oB HB⟩⟩
      ·rw [if_neg c18] at H
       exact absurd H (by simp)
     ·rw [if_neg c16] at H
      exact absurd H (by simp)
    ·rw [if_neg c15] at H
     have c15b0 : ((t878.length : Int) == 12) = false := beq_eq_false_iff_ne.mpr c15
     have c15b1 : ((t878.length : Int) != 12) = true := bne_iff_ne.mpr c15
     have H' := A_ H
     clear H
     try go_wp2
     have n0_ := A_ (Kd.R_drew HO876.out)
     have n1_ := A_ (Kd.R_drew HO880.out)
     have n2_ := A_ (Kd.R_drew HO885.out)
     have n3_ := A_ (Kd.R_drew HO888.out)
     have n4_ := A_ (Kd.R_drew HO892.out)
     have n5_ := A_ (blk_drew BK889.out)
     have n6_ := A_ (below_drew1 HB.out)
     clear HO876
     clear HO880
     clear HO885
     clear HO888
     clear HO892
     clear BK889
     clear HB
     have HO876 := n0_
     have HO880 := n1_
     have HO885 := n2_
     have HO888 := n3_
     have HO892 := n4_
     have BK889 := n5_
     have HB := n6_
     clear n0_ n1_ n2_ n3_ n4_ n5_ n6_
     obtain ⟨Ao40, co40, eo40⟩ := Kd.R_slice HO892.out
     (first | subst eo40 | (injection eo40 with f1_ f2_ f3_; have f4_ := f1_.symm; have f5_ := f3_.symm; clear f1_ f2_ f3_; subst f4_; subst f5_))
     refine start_ (n := 45) (S := fun w' => w'.cell? ⟨gb889, 0, none⟩ = some (.slice Ao9 t874.length co9) ∧ w'.cell? ⟨gb889, 1, none⟩ = some (.int .i64 t877) ∧ w'.cell? ⟨gb889, 2, none⟩ = some (.slice Ao11 t878.length co11) ∧ w'.cell? ⟨gb889, 3, none⟩ = some (.int .i64 t881) ∧ w'.cell? ⟨gb889, 4, none⟩ = some (.int .i64 t882) ∧ w'.cell? ⟨gb889, 5, none⟩ = some (.slice Ao12 t883.length co12)) (ds := []) #[false, false, false, false, false, false, false, false, false, false, false, false, false, false, false, false, false, false, false, false, false, false, false, false, false, false, false, false, false, false, false, false, false, false, false, false, false, false, false, false, false, false, false, false, false] (by kernel_rfl) rfl rfl ⟨cz BK889 0, cz BK889 1, cz BK889 2, cz BK889 3, cz BK889 4, cz BK889 5⟩ (fun hHeld => ?_); refine with_tabW laws_FnSummaries.tab5 laws_FnSummaries.bits5 (fun HT_ HW_ => ?_)
     generalize w13.drew = w39 at HO876 HO880 HO885 HO888 HO892 BK889 HB hHeld ⊢
     refine pA 0 (some 17) HT_.out ?_
     refine pA 1 (some 18) HT_.out ?_
     refine pA 2 (some 19) HT_.out ?_
     refine pT 3 (some 20) HT_.out HW_.out hHeld ?_
     refine pA 4 (some 21) HT_.out ?_
     refine pA 5 (some 22) HT_.out ?_
     refine pA 6 (some 23) HT_.out ?_
     refine pA 7 (some 24) HT_.out ?_
     refine pA 8 (some 25) HT_.out ?_
     refine pA 9 (some 26) HT_.out ?_
     refine pT 10 (some 27) HT_.out HW_.out hHeld ?_
     refine pA 11 (some 28) HT_.out ?_
     refine pA 12 (some 29) HT_.out ?_
     refine pA 13 (some 30) HT_.out ?_
     refine pA 14 (some 31) HT_.out ?_
     refine pU 15 (some 32) HT_.out ?_
     refine pU 16 (some 33) HT_.out ?_
     refine pU 17 (some 34) HT_.out ?_
     refine pU 18 (some 35) HT_.out ?_
     refine pU 19 (some 36) HT_.out ?_
     refine pU 20 (some 37) HT_.out ?_
     refine pU 21 (some 38) HT_.out ?_
     refine pU 22 (some 39) HT_.out ?_
     refine pU 23 (some 40) HT_.out ?_
     refine pA 24 (some 41) HT_.out ?_
     refine pA 25 (some 42) HT_.out ?_
     refine pU 26 (some 43) HT_.out ?_
     refine pU 27 (some 44) HT_.out ?_
     refine pU 28 (some 45) HT_.out ?_
     refine pU 29 (some 46) HT_.out ?_
     refine pU 30 (some 47) HT_.out ?_
     refine pU 31 (some 48) HT_.out ?_
     refine pU 32 (some 49) HT_.out ?_
     refine pU 33 (some 50) HT_.out ?_
     refine pA 34 (some 51) HT_.out ?_
     refine pA 35 (some 52) HT_.out ?_
     refine pU 36 (some 53) HT_.out ?_
     refine pU 37 (some 54) HT_.out ?_
     refine pU 38 (some 55) HT_.out ?_
     refine pU 39 (some 56) HT_.out ?_
     refine pU 40 (some 57) HT_.out ?_
     refine pU 41 (some 58) HT_.out ?_
     refine pU 42 (some 59) HT_.out ?_
     refine pU 43 (some 60) HT_.out ?_
     refine pA 44 (some 61) HT_.out ?_
     refine done_ (done_of HT_.out (by kernel_rfl)) ?_
     try go_wp2
     go_meet
     case rel => exact ⟨_, (true), (by first | rfl | (simp; done) | (simp [*]; done)), H', ⟨by first | omega | exact Nat.le_refl _⟩, ⟨oR HO892⟩, ⟨oR HO876⟩, ⟨oR HO880⟩, ⟨oR HO885⟩, ⟨oK BK889⟩, ⟨oB HB⟩⟩
   ·rw [if_neg c14] at H
    have c14b0 : ((t890.length : Int) == (wrap64 (4 + (t883.length : Int)))) = false := beq_eq_false_iff_ne.mpr c14
    have c14b1 : ((t890.length : Int) != (wrap64 (4 + (t883.length : Int)))) = true := bne_iff_ne.mpr c14
    (first | rw [c14b0] | (simp only [i64_w, i32_w]; rw [c14b0]) | skip)
    have H' := A_ H
    clear H
    try go_wp2
    have n0_ := A_ (Kd.R_drew HO876.out)
    have n1_ := A_ (Kd.R_drew HO880.out)
    have n2_ := A_ (Kd.R_drew HO885.out)
    have n3_ := A_ (Kd.R_drew HO888.out)
    have n4_ := A_ (Kd.R_drew HO892.out)
    have n5_ := A_ (blk_drew BK889.out)
    have n6_ := A_ (below_drew1 HB.out)
    clear HO876
    clear HO880
    clear HO885
    clear HO888
    clear HO892
    clear BK889
    clear HB
    have HO876 := n0_
    have HO880 := n1_
    have HO885 := n2_
    have HO888 := n3_
    have HO892 := n4_
    have BK889 := n5_
    have HB := n6_
    clear n0_ n1_ n2_ n3_ n4_ n5_ n6_
    obtain ⟨Ao42, co42, eo42⟩ := Kd.R_slice HO892.out
    (first | subst eo42 | (injection eo42 with f1_ f2_ f3_; have f4_ := f1_.symm; have f5_ := f3_.symm; clear f1_ f2_ f3_; subst f4_; subst f5_))
    refine start_ (n := 45) (S := fun w' => w'.cell? ⟨gb889, 0, none⟩ = some (.slice Ao9 t874.length co9) ∧ w'.cell? ⟨gb889, 1, none⟩ = some (.int .i64 t877) ∧ w'.cell? ⟨gb889, 2, none⟩ = some (.slice Ao11 t878.length co11) ∧ w'.cell? ⟨gb889, 3, none⟩ = some (.int .i64 t881) ∧ w'.cell? ⟨gb889, 4, none⟩ = some (.int .i64 t882) ∧ w'.cell? ⟨gb889, 5, none⟩ = some (.slice Ao12 t883.length co12)) (ds := []) #[false, false, false, false, false, false, false, false, false, false, false, false, false, false, false, false, false, false, false, false, false, false, false, false, false, false, false, false, false, false, false, false, false, false, false, false, false, false, false, false, false, false, false, false, false] (by kernel_rfl) rfl rfl ⟨cz BK889 0, cz BK889 1, cz BK889 2, cz BK889 3, cz BK889 4, cz BK889 5⟩ (fun hHeld => ?_); refine with_tabW laws_FnSummaries.tab5 laws_FnSummaries.bits5 (fun HT_ HW_ => ?_)
    generalize w13.drew = w41 at HO876 HO880 HO885 HO888 HO892 BK889 HB hHeld ⊢
    refine pA 0 (some 17) HT_.out ?_
    refine pA 1 (some 18) HT_.out ?_
    refine pA 2 (some 19) HT_.out ?_
    refine pT 3 (some 20) HT_.out HW_.out hHeld ?_
    refine pA 4 (some 21) HT_.out ?_
    refine pA 5 (some 22) HT_.out ?_
    refine pA 6 (some 23) HT_.out ?_
    refine pA 7 (some 24) HT_.out ?_
    refine pU 8 (some 25) HT_.out ?_
    refine pU 9 (some 26) HT_.out ?_
    refine pU 10 (some 27) HT_.out ?_
    refine pU 11 (some 28) HT_.out ?_
    refine pU 12 (some 29) HT_.out ?_
    refine pA 13 (some 30) HT_.out ?_
    refine pA 14 (some 31) HT_.out ?_
    refine pU 15 (some 32) HT_.out ?_
    refine pU 16 (some 33) HT_.out ?_
    refine pU 17 (some 34) HT_.out ?_
    refine pU 18 (some 35) HT_.out ?_
    refine pU 19 (some 36) HT_.out ?_
    refine pU 20 (some 37) HT_.out ?_
    refine pU 21 (some 38) HT_.out ?_
    refine pU 22 (some 39) HT_.out ?_
    refine pU 23 (some 40) HT_.out ?_
    refine pA 24 (some 41) HT_.out ?_
    refine pA 25 (some 42) HT_.out ?_
    refine pU 26 (some 43) HT_.out ?_
    refine pU 27 (some 44) HT_.out ?_
    refine pU 28 (some 45) HT_.out ?_
    refine pU 29 (some 46) HT_.out ?_
    refine pU 30 (some 47) HT_.out ?_
    refine pU 31 (some 48) HT_.out ?_
    refine pU 32 (some 49) HT_.out ?_
    refine pU 33 (some 50) HT_.out ?_
    refine pA 34 (some 51) HT_.out ?_
    refine pA 35 (some 52) HT_.out ?_
    refine pU 36 (some 53) HT_.out ?_
    refine pU 37 (some 54) HT_.out ?_
    refine pU 38 (some 55) HT_.out ?_
    refine pU 39 (some 56) HT_.out ?_
    refine pU 40 (some 57) HT_.out ?_
    refine pU 41 (some 58) HT_.out ?_
    refine pU 42 (some 59) HT_.out ?_
    refine pU 43 (some 60) HT_.out ?_
    refine pA 44 (some 61) HT_.out ?_
    refine done_ (done_of HT_.out (by kernel_rfl)) ?_
    try go_wp2
    go_meet
    case rel => exact ⟨_, (true), (by first | rfl | (simp; done) | (simp [*]; done)), H', ⟨by first | omega | exact Nat.le_refl _⟩, ⟨oR HO892⟩, ⟨oR HO876⟩, ⟨oR HO880⟩, ⟨oR HO885⟩, ⟨oK BK889⟩, ⟨oB HB⟩⟩
  case rest =>
   clear HC6
   try clear c1
   try clear p2
   try clear p6
   try clear c14
   try clear c14b0
   try clear c14b1
   try clear c15
   try clear c15b0
   try clear c15b1
   try clear c16
   try clear c18
   obtain ⟨kq, x61_5, rfl, HA, HJ5, HO_5, HO_890000, HO_890002, HO_890005, BK889, HB⟩ := hcut
   cases kq with
   | zero => exact absurd HA.out (by simp [laws_FnSummaries.j0])
   | succ kj5 =>
    have H := HA.out
    clear HA
    simp only [laws_FnSummaries.j0] at H
    by_cases c43 : x61_5 = true
    ·subst c43
     rw [if_pos rfl] at H
     exact absurd ((Option.some.inj H).trans hrt_.out) (by decide)
    ·replace c43 := Bool.eq_false_iff.mpr c43
     subst c43
     rw [if_neg (show ¬ (false = true) by decide)] at H
     have H' := A_ H
     clear H
     go_wp2
     go_loopg [6, 7] kj5 (fun kq v6 v7 w' => ∃ (x6_2 : ByteArray) (x7_2 : Int), v6 = .string x6_2 ∧ v7 = .int .i64 x7_2 ∧ Aside0 (laws_FnSummaries.l0 kq t890 x6_2 x7_2 t874 t877 t878 t881 t882 t883 = some r) ∧ Aside0 (kq ≤ kj5) ∧ Aside0 (Kd.R Kd.string 9 w' w.heap.size (fun _ => True) v891 t890) ∧ Aside0 (Kd.R k145 145 w' w.heap.size (fun _ => True) (.slice Ao9 t874.length co9) t874) ∧ Aside0 (Kd.R (Kd.int .i64) 3 w' w.heap.size (fun _ => True) (.slice Ao11 t878.length co11) t878) ∧ Aside0 (Kd.R k85 85 w' w.heap.size (fun _ => True) (.slice Ao12 t883.length co12) t883) ∧ Aside0 (w'.heap[gb889]? = some (.cells #[(.slice Ao9 t874.length co9), .int .i64 t877, (.slice Ao11 t878.length co11), .int .i64 t881, .int .i64 t882, (.slice Ao12 t883.length co12)] 44 (0, 0))) ∧ Aside0 (Below w.heap.size w w'))
     case atStart => exact ⟨((⟨#[112, 105, 116, 99, 104, 101, 115]⟩ : ByteArray)), (0), (by first | rfl | (simp; done) | (simp [*]; done)), (by first | rfl | (simp; done) | (simp [*]; done)), H', ⟨Nat.le_refl _⟩, ⟨oR HO_5⟩, ⟨oR HO_890000⟩, ⟨oR HO_890002⟩, ⟨oR HO_890005⟩, ⟨oK BK889⟩, ⟨oB HB⟩⟩
     case round =>
      clear H'
      try clear c1
      try clear p2
      try clear c4
      try clear p6
      try clear c14
      try clear c14b0
      try clear c14b1
      try clear c15
      try clear c15b0
      try clear c15b1
      try clear c16
      try clear c18
      try clear c43
      try clear p2
      try clear p6
      obtain ⟨x6_2, x7_2, rfl, rfl, HA, HK2, HO_5, HO_890000, HO_890002, HO_890005, BK889, HB⟩ := hrel
      cases gk with
      | zero => exact absurd HA.out (by simp [laws_FnSummaries.l0])
      | succ k2 =>
       have H := HA.out
       clear HA
       simp only [laws_FnSummaries.l0] at H
       by_cases c44 : x7_2 < 12
       ·rw [if_pos c44] at H
        have c44b0 : decide (x7_2 < 12) = true := decide_eq_true c44
        clear c44
        by_cases c45 : x6_2.size + 1 ≤ 9223372036854775807
        ·rw [if_pos c45] at H
         have c45b0 := eq_true c45
         have c45b1 : decide (x6_2.size + 1 ≤ 9223372036854775807) = true := decide_eq_true c45
         try have c45b2 : (9223372036854775807 < x6_2.size + 1) = False := eq_false (Nat.not_lt.2 c45)
         by_cases c46 : 0 ≤ x7_2
         ·rw [if_pos c46] at H
          have c46b0 : decide (0 ≤ x7_2) = true := decide_eq_true c46
          clear c46
          by_cases c47 : x7_2 < (t878.length : Int)
          ·rw [if_pos c47] at H
           have c47b0 : decide (x7_2 < (t878.length : Int)) = true := decide_eq_true c47
           clear c47
           replace H := Option.bind_eq_some_iff.mp H
           obtain ⟨t900, A480, H⟩ := H
           (try dsimp only at H)
           have A48 := A_ A480
           clear A480
           by_cases c49 : (x6_2 ++ (⟨#[32]⟩ : ByteArray)).size + t900.size ≤ 9223372036854775807
           ·rw [if_pos c49] at H
            have c49b0 := eq_true c49
            have c49b1 : decide ((x6_2 ++ (⟨#[32]⟩ : ByteArray)).size + t900.size ≤ 9223372036854775807) = true := decide_eq_true c49
            try have c49b2 : (9223372036854775807 < (x6_2 ++ (⟨#[32]⟩ : ByteArray)).size + t900.size) = False := eq_false (Nat.not_lt.2 c49)
            have c49z0 : (9223372036854775807 < x6_2.size + 1 + t900.size) = False := by have := c49; rw [ByteArray.size_append] at this; exact eq_false (Nat.not_lt.2 this)
            have c49z1 : (x6_2.size + 1 + t900.size ≤ 9223372036854775807) = True := by have := c49; rw [ByteArray.size_append] at this; exact eq_true this
            have H' := A_ H
            clear H
            have hcz50_0 := cz BK889 0
            have hcz50_1 := cz BK889 1
            have hcz50_2 := cz BK889 2
            have hcz50_3 := cz BK889 3
            have hcz50_4 := cz BK889 4
            have hcz50_5 := cz BK889 5
            have hfz50_0 := blk_frozen BK889.out 0
            have hfz50_1 := blk_frozen BK889.out 1
            have hfz50_2 := blk_frozen BK889.out 2
            have hfz50_3 := blk_frozen BK889.out 3
            have hfz50_4 := blk_frozen BK889.out 4
            have hfz50_5 := blk_frozen BK889.out 5
            have p899 : 0 ≤ (x7_2 : Int) := of_decide_eq_true (by first | (with_reducible assumption) | assumption)
            have q899 : x7_2 < (t878.length : Int) := of_decide_eq_true (by first | (with_reducible assumption) | assumption)
            obtain ⟨ad899, e899, hx899_0⟩ := Kd.at_int (Kd.R_reads' HO_890002.out).2.2 x7_2 p899 q899
            cases e899
            replace p899 := eq_true p899
            replace q899 := eq_true q899
            go_wp2_with (first | ((with_reducible refine gate_callee (f := 19) rfl ?_); refine gL (some 74) Tryd.func19 #[.int .i64 (rd t878 x7_2)] ?_; (with_reducible refine (impl_FormatInt.calls (rd t878 x7_2) t900 _ A48.out ?sideT).mono ?_); (case sideT => exact ⟨tab_on ht_.out (oB HB)⟩); rintro e w51 ⟨rfl, hb⟩; refine ⟨_, rfl, ?_⟩; have n0_ := A_ (Kd.R_below (oR HO_5) hb); have n1_ := A_ (Kd.R_below (oR HO_890000) hb); have n2_ := A_ (Kd.R_below (oR HO_890002) hb); have n3_ := A_ (Kd.R_below (oR HO_890005) hb); have n4_ := A_ (bb BK889 hb); have n5_ := A_ (below_step (oB HB) hb); clear HO_5; clear HO_890000; clear HO_890002; clear HO_890005; clear BK889; clear HB; have HO_5 := n0_; have HO_890000 := n1_; have HO_890002 := n2_; have HO_890005 := n3_; have BK889 := n4_; have HB := n5_; clear n0_ n1_ n2_ n3_ n4_ n5_; (try clear hb); (try clear hb2); (try clear hk); (try clear hi)))
            go_roundg k2
            case measure => have := HJ5.out; have := HK2.out; omega
            case rel => exact ⟨((x6_2 ++ (⟨#[32]⟩ : ByteArray)) ++ t900), (wrap64 (x7_2 + 1)), (by first | rfl | (simp; done) | (simp [*]; done)), (by first | rfl | (simp; done) | (simp [*]; done)), H', ⟨by have := HJ5.out; have := HK2.out; omega⟩, ⟨oR HO_5⟩, ⟨oR HO_890000⟩, ⟨oR HO_890002⟩, ⟨oR HO_890005⟩, ⟨oK BK889⟩, ⟨oB HB⟩⟩
           ·rw [if_neg c49] at H
            exact absurd H (by simp)
          ·rw [if_neg c47] at H
           exact absurd H (by simp)
         ·rw [if_neg c46] at H
          exact absurd H (by simp)
        ·rw [if_neg c45] at H
         exact absurd H (by simp)
       ·rw [if_neg c44] at H
        have c44b0 : decide (x7_2 < 12) = false := decide_eq_false c44
        clear c44
        by_cases c52 : 0 < (t890.length : Int)
        ·rw [if_pos c52] at H
         have c52b0 : decide (0 < (t890.length : Int)) = true := decide_eq_true c52
         have c52b1 : decide (0 < t890.length) = true := decide_eq_true (by omega)
         clear c52
         obtain rfl := Option.some.inj H
         obtain ⟨Ao53, co53, eo53⟩ := Kd.R_slice HO_5.out
         subst eo53
         have p901 : 0 ≤ (0 : Int) := (by omega)
         have q901 : 0 < (t890.length : Int) := of_decide_eq_true (by first | (with_reducible assumption) | assumption)
         obtain ⟨ad901, e901, hx901_0⟩ := Kd.at_string (Kd.R_reads' HO_5.out).2.2 0 p901 q901
         cases e901
         have qi901 : (0 < t890.length) = True := eq_true (by omega)
         (try rw [show ((0 : Int)).toNat = 0 from rfl] at hx901_0)
         (try rw [Addr.add_zero'] at hx901_0)
         replace p901 := eq_true p901
         replace q901 := eq_true q901
         go_wp2
         go_ret
         exact ⟨eR, oB HB⟩
        ·rw [if_neg c52] at H
         exact absurd H (by simp)
end Go.Proofs.YtojiighpkppckaaDoor.P


namespace Go.Proofs.YtojiighpkppckaaDoor.Q
set_option linter.unusedVariables false
set_option linter.unusedSimpArgs false
open Go.RowKit Go.Proofs.YtojiighpkppckaaDoorW.PrintWords
theorem evp {α : Type} {c : Prop} [Decidable c] (h : c) {f g : Nat → Option α} {r : α} (k : Ev f r) : Ev (fun n => if c then f n else g n) r := by
  simp only [if_pos h]; exact k
theorem evn {α : Type} {c : Prop} [Decidable c] (h : ¬ c) {f g : Nat → Option α} {r : α} (k : Ev g r) : Ev (fun n => if c then f n else g n) r := by
  simp only [if_neg h]; exact k
theorem evb {α β : Type} {x : Option α} {f : Nat → α → Option β} {a : α} {r : β} (h : x = some a) (k : Ev (fun n => f n a) r) : Ev (fun n => x.bind (f n)) r := by
  simp only [h, Option.bind_some]; exact k
theorem evs {α : Type} {a b : α} (h : a = b) : Ev (fun _ => some a) b := h ▸ Ev.now a
theorem rpos {α : Type} {c : Prop} [Decidable c] (h : c) {f : Nat → Option α} {r s : α} (k : Ev f r) : Ev f (if c then r else s) := by rw [if_pos h]; exact k
theorem rneg {α : Type} {c : Prop} [Decidable c] (h : ¬ c) {f : Nat → Option α} {r s : α} (k : Ev f s) : Ev f (if c then r else s) := by rw [if_neg h]; exact k
theorem btrue {c : Prop} [Decidable c] (h : c) : decide c = true := decide_eq_true h
theorem bfalse {c : Prop} [Decidable c] (h : ¬ c) : ¬ decide c = true := by simpa using h
theorem down {P : Nat → Prop} {n : Nat} (he : P n) (hs : ∀ i, i < n → P (i + 1) → P i) (i : Nat) (h : i ≤ n) : P i := by
  obtain ⟨d, rfl⟩ : ∃ d, n = i + d := ⟨n - i, by omega⟩
  clear h
  induction d generalizing i with
  | zero => exact he
  | succ d ih =>
    refine hs i (by omega) (ih (i + 1) ?_ ?_)
    · rw [show i + 1 + d = i + (d + 1) by omega]; exact he
    · intro j hj; exact hs j (by omega)
theorem w64 {n : Int} (h1 : -9223372036854775808 ≤ n) (h2 : n ≤ 9223372036854775807) : wrap64 n = n := by unfold wrap64; omega
theorem rd_nat (l : List Int) (i : Nat) (h : i < l.length) : rd l (i : Int) = l[i] := by
  unfold rd; simp [List.getD_eq_getElem?_getD, h]
theorem drop_cons {α : Type} (l : List α) (i : Nat) (h : i < l.length) : l.drop i = l[i] :: l.drop (i + 1) := List.drop_eq_getElem_cons h
theorem drop_end {α : Type} (l : List α) : l.drop l.length = [] := List.drop_eq_nil_of_le (Nat.le_refl _)
end Go.Proofs.YtojiighpkppckaaDoor.Q


namespace Go.Proofs.YtojiighpkppckaaDoor.Q
set_option linter.unusedVariables false
set_option linter.unusedSimpArgs false
open Go.RowKit Go.Proofs.YtojiighpkppckaaDoor.P Go.Proofs.YtojiighpkppckaaDoorW.PrintWords
theorem l01In_eq (a b c : Int) : spec_l01In.f a b c = some (decide (b ≤ a ∧ a ≤ c)) := by
  unfold spec_l01In.f; by_cases h : a ≥ b
  · rw [if_pos h]; simp [show b ≤ a from h]
  · rw [if_neg h]; simp [show ¬ b ≤ a from h]
end Go.Proofs.YtojiighpkppckaaDoor.Q


namespace Go.Proofs.YtojiighpkppckaaDoor.Q
set_option linter.unusedVariables false
set_option linter.unusedSimpArgs false
open Go.RowKit Go.Proofs.YtojiighpkppckaaDoor.P Go.Proofs.YtojiighpkppckaaDoorW.PrintWords Go.Proofs.YtojiighpkppckaaDoorW.PrintMore
def fine (n : Int) : Bool := decide (1 ≤ n ∧ n ≤ 10000000)
theorem pitch_eq (n : Int) : spec_l18Pitch.f n = some (fine n) := by unfold spec_l18Pitch.f; rw [l01In_eq]; rfl
end Go.Proofs.YtojiighpkppckaaDoor.Q


namespace Go.Proofs.YtojiighpkppckaaDoor.Q
set_option linter.unusedVariables false
set_option linter.unusedSimpArgs false
open Go.RowKit Go.Proofs.YtojiighpkppckaaDoor.P Go.Proofs.YtojiighpkppckaaDoorW.PrintWords Go.Proofs.YtojiighpkppckaaDoorW.PrintMore
def orZero (n : Int) : Int := if fine n = true then n else 0
def tunedPitch (a k b : Int) : Int :=
  if fine a = true then
    if 0 ≤ b ∧ b ≤ 100000 then
      if k = 1 then orZero (wrap64 (Int.tdiv (mx (wrap64 ((wrap64 (3 * a)) - b)) 0) 2))
      else if k = 2 then orZero (wrap64 (Int.tdiv (mx (wrap64 ((wrap64 (3 * a)) - b)) 0) 4))
      else if k = 3 then if b = 0 then orZero (wrap64 (2 * a)) else 0
      else if k = 4 then if b = 0 then orZero (wrap64 (Int.tdiv a 2)) else 0
      else 0
    else 0
  else 0
theorem mx_comm (a b : Int) : mx a b = mx b a := by unfold mx; split <;> split <;> omega
theorem evz {n : Int} {x : Option Bool} (h : x = some (fine n)) : Ev (fun _ => x.bind fun t => if t = true then some n else some 0) (orZero n) := by
  subst h; simp only [Option.bind_some]; unfold orZero; by_cases h : fine n = true
  · rw [if_pos h, if_pos h]; exact Ev.now _
  · rw [if_neg h, if_neg h]; exact Ev.now _
theorem tuned_spec (a k b : Int) : Ev (fun n => spec_TunedPitch.f n a k b) (tunedPitch a k b) := by
  have jt : Ev (fun n => spec_TunedPitch.j0 n a k b true) 0 := Ev.step (fun n => by rw [spec_TunedPitch.j0]) (evp rfl (Ev.now _))
  unfold spec_TunedPitch.f
  refine evb (pitch_eq a) ?_
  unfold tunedPitch
  by_cases ha : fine a = true
  rotate_left
  · exact rneg ha <| evn ha jt
  refine rpos ha <| evp ha (evb (l01In_eq _ _ _) ?_)
  by_cases hb : 0 ≤ b ∧ b ≤ 100000
  rotate_left
  · rw [show (!decide (0 ≤ b ∧ b ≤ 100000)) = true by rw [decide_eq_false hb]; rfl]; exact rneg hb jt
  rw [show (!decide (0 ≤ b ∧ b ≤ 100000)) = false by rw [decide_eq_true hb]; rfl]
  refine rpos hb ?_
  have j2t : Ev (fun n => spec_TunedPitch.j2 n a 0 true) (orZero (wrap64 (Int.tdiv a 2))) := Ev.step (fun n => by rw [spec_TunedPitch.j2]) (evp rfl (evz (pitch_eq _)))
  have j2f : Ev (fun n => spec_TunedPitch.j2 n a 0 false) 0 := Ev.step (fun n => by rw [spec_TunedPitch.j2]) (evn (by decide) (evz (pitch_eq 0)))
  refine Ev.step (fun n => by rw [spec_TunedPitch.j0]) (evn (by decide) ?_)
  by_cases h1 : k = 1
  · rw [mx_comm 0]; exact rpos h1 <| evp h1 (evz (pitch_eq _))
  refine rneg h1 <| evn h1 ?_
  by_cases h2 : k = 2
  · rw [mx_comm 0]; exact rpos h2 <| evp h2 (evz (pitch_eq _))
  refine rneg h2 <| evn h2 ?_
  have j1f : Ev (fun n => spec_TunedPitch.j1 n a k b 0 false) (if k = 4 then if b = 0 then orZero (wrap64 (Int.tdiv a 2)) else 0 else 0) := by
    refine Ev.step (fun n => by rw [spec_TunedPitch.j1]) (evn (by decide) ?_)
    by_cases h4 : k = 4
    · refine rpos h4 <| evp h4 ?_
      by_cases b0 : b = 0
      · rw [show (b == 0) = true by simp [b0]]; exact rpos b0 j2t
      · rw [show (b == 0) = false by simp [b0]]; exact rneg b0 j2f
    · exact rneg h4 <| evn h4 j2f
  by_cases h3 : k = 3
  · refine rpos h3 <| evp h3 ?_
    by_cases b0 : b = 0
    · rw [show (b == 0) = true by simp [b0]]
      exact rpos b0 <| Ev.step (fun n => by rw [spec_TunedPitch.j1]) (evp rfl (evz (pitch_eq _)))
    · rw [show (b == 0) = false by simp [b0]]
      rw [if_neg (by omega)] at j1f
      exact rneg b0 j1f
  exact rneg h3 <| evn h3 j1f
end Go.Proofs.YtojiighpkppckaaDoor.Q


namespace Go.Proofs.YtojiighpkppckaaDoor.Q
set_option linter.unusedVariables false
set_option linter.unusedSimpArgs false
open Go.RowKit Go.Proofs.YtojiighpkppckaaDoor.P Go.Proofs.YtojiighpkppckaaDoorW.PrintWords Go.Proofs.YtojiighpkppckaaDoorW.PrintMore
theorem rdS (l : List S145) (i : Nat) (h : i < l.length) : rd_T145 l (i : Int) = l[i] := by
  unfold rd_T145; simp [List.getD_eq_getElem?_getD, h]
end Go.Proofs.YtojiighpkppckaaDoor.Q


namespace Go.Proofs.YtojiighpkppckaaDoor.Q
set_option linter.unusedVariables false
set_option linter.unusedSimpArgs false
open Go.RowKit Go.Proofs.YtojiighpkppckaaDoor.P Go.Proofs.YtojiighpkppckaaDoorW.PrintWords Go.Proofs.YtojiighpkppckaaDoorW.PrintMore
theorem planGoS_eq (l : List S145) (t : List Bool) : planGoS l t = planGo l t := by
  induction l generalizing t with
  | nil => rfl
  | cons x r ih => simp only [planGoS, planGo, ih]; rfl
theorem planSpec_eq (l : List S145) : spec_PlanOk.f l = some (planOk l) := by
  show some (planOkS l) = some (planOk l)
  unfold planOkS planOk
  rw [planGoS_eq, Bool.and_comm]; rfl
def inKeys (x : S145) : Prop := 0 ≤ x.f0 ∧ x.f0 ≤ 11 ∧ 0 ≤ x.f1 ∧ x.f1 ≤ 11 ∧ x.f1 = (x.f0 + 1) % 12
theorem stepOk_in {x : S145} {t : List Bool} (h : stepOk x t = true) : inKeys x := by
  simp [stepOk] at h; unfold inKeys; omega
theorem planGo_in {l : List S145} {t : List Bool} (h : planGo l t = true) : ∀ x ∈ l, inKeys x := by
  induction l generalizing t with
  | nil => simp
  | cons y r ih =>
    simp only [planGo, Bool.and_eq_true] at h
    intro x hx
    rcases List.mem_cons.1 hx with rfl | hx
    · exact stepOk_in h.1
    · exact ih h.2 x hx
theorem planOk_in {l : List S145} (h : planOk l = true) : ∀ x ∈ l, inKeys x := by
  simp only [planOk, Bool.and_eq_true] at h; exact planGo_in h.2
theorem planOk_len {l : List S145} (h : planOk l = true) : l.length ≤ 11 := by
  simp only [planOk, Bool.and_eq_true, decide_eq_true_eq] at h; exact h.1
theorem rd_get (l : List Int) (i : Int) : rd l i = l.getD i.toNat 0 := rfl
end Go.Proofs.YtojiighpkppckaaDoor.Q


namespace Go.Proofs.YtojiighpkppckaaDoor.Q
set_option linter.unusedVariables false
set_option linter.unusedSimpArgs false
open Go.RowKit Go.Proofs.YtojiighpkppckaaDoor.P Go.Proofs.YtojiighpkppckaaDoorW.PrintWords Go.Proofs.YtojiighpkppckaaDoorW.PrintMore
def runGo : List S145 → List Int → List Int × Bool
  | [], o => (o, true)
  | x :: r, o => if tunedPitch (o.getD x.f0.toNat 0) x.f2 x.f3 = 0 then ([], false) else runGo r (o.set x.f1.toNat (tunedPitch (o.getD x.f0.toNat 0) x.f2 x.f3))
def begun (a : Int) : List Int := a :: List.replicate 11 0
def runPlan (a : Int) (l : List S145) : List Int × Bool := if planOk l = true ∧ fine a = true then runGo l (begun a) else ([], false)
theorem runPlan_spec (a : Int) (l : List S145) : Ev (fun n => spec_RunPlan.f n a l) (runPlan a l) := by
  have jt : Ev (fun n => spec_RunPlan.j0 n a l true) ([], false) := Ev.step (fun n => by rw [spec_RunPlan.j0]) (evp rfl (Ev.now _))
  unfold spec_RunPlan.f runPlan
  refine evb (planSpec_eq l) ?_
  by_cases hp : planOk l = true
  rotate_left
  · exact rneg (fun h => hp h.1) <| evn hp jt
  refine evp hp (evb (pitch_eq a) ?_)
  by_cases ha : fine a = true
  rotate_left
  · rw [show (!fine a) = true by simpa using ha]; exact rneg (fun h => ha h.2) jt
  rw [show (!fine a) = false by simpa using ha]
  refine rpos ⟨hp, ha⟩ ?_
  have hl := planOk_len hp
  have hin := planOk_in hp
  have key : ∀ i, i ≤ l.length → ∀ o : List Int, o.length = 12 → Ev (fun n => spec_RunPlan.l0 n l o (i : Int)) (runGo (l.drop i) o) := by
    refine down (n := l.length) ?_ ?_
    · intro o ho
      refine Ev.step (fun n => by rw [spec_RunPlan.l0]) (evn (by omega) (evs ?_))
      rw [drop_end]; rfl
    · intro i hi ih o ho
      obtain ⟨k0, k1, k2, k3, k4⟩ := hin l[i] (List.getElem_mem hi)
      refine Ev.step (fun n => by rw [spec_RunPlan.l0]) ?_
      refine evp (by omega) (evp (by omega) ?_)
      rw [rdS l i hi, drop_cons l i hi, runGo]
      refine evp k0 (evp (by omega) (Ev.bind (tuned_spec _ _ _) ?_))
      rw [rd_get]
      by_cases hz : tunedPitch (o.getD l[i].f0.toNat 0) l[i].f2 l[i].f3 = 0
      · exact rpos hz <| evp hz (Ev.now _)
      refine rneg hz <| evn hz (evp k2 (evp (by omega) ?_))
      rw [w64 (by omega) (by omega)]
      exact ih _ (by simpa using ho)
  refine Ev.step (fun n => by rw [spec_RunPlan.j0]) ?_
  refine evn (by decide) (evp (by decide) ?_)
  simp only [Option.bind_some]
  refine evp (by simp) ?_
  exact key 0 (Nat.zero_le _) _ (by simp)
end Go.Proofs.YtojiighpkppckaaDoor.Q


namespace Go.Proofs.YtojiighpkppckaaDoor.Q
set_option linter.unusedVariables false
set_option linter.unusedSimpArgs false
open Go.RowKit Go.Proofs.YtojiighpkppckaaDoor.P Go.Proofs.YtojiighpkppckaaDoorW.PrintWords Go.Proofs.YtojiighpkppckaaDoorW.PrintMore
def stepTo (c : Int) : List S145 → Nat → Int
  | [], _ => -1
  | x :: r, j => if x.f1 = c then (j : Int) else stepTo c r (j + 1)
theorem stepTo_ev (l : List S145) (c : Int) (hl : l.length ≤ 4000000) : Ev (fun n => spec_l20Step.f n l c) (stepTo c l 0) := by
  have key : ∀ i, i ≤ l.length → Ev (fun n => spec_l20Step.l0 n l c (i : Int)) (stepTo c (l.drop i) i) := by
    refine down (n := l.length) ?_ ?_
    · refine Ev.step (fun n => by rw [spec_l20Step.l0]) (evn (by omega) (evs ?_))
      rw [drop_end]; rfl
    · intro i hi ih
      refine Ev.step (fun n => by rw [spec_l20Step.l0]) ?_
      refine evp (by omega) (evp (by omega) ?_)
      rw [rdS l i hi, drop_cons l i hi, stepTo]
      by_cases h : l[i].f1 = c
      · exact rpos h <| evp h (Ev.now _)
      · refine rneg h <| evn h ?_
        rw [w64 (by omega) (by omega)]
        exact ih
  exact key 0 (Nat.zero_le _)
theorem stepTo_lt (c : Int) (l : List S145) (j d : Nat) : (0 ≤ stepTo c l j ∧ stepTo c l j < ((j + d : Nat) : Int)) ↔ ∃ x ∈ l.take d, x.f1 = c := by
  induction l generalizing j d with
  | nil => simp [stepTo]
  | cons x r ih =>
    unfold stepTo
    cases d with
    | zero =>
      simp only [List.take_zero, List.not_mem_nil, false_and, exists_false, iff_false]
      by_cases h : x.f1 = c
      · rw [if_pos h]; omega
      · rw [if_neg h]
        have := ih (j + 1) 0
        simp at this
        have h1 := this
        intro h2
        have : ∀ (l : List S145) (j : Nat), stepTo c l j = -1 ∨ (j : Int) ≤ stepTo c l j := by
          intro l
          induction l with
          | nil => intro j; exact .inl rfl
          | cons y s ih2 =>
            intro j; unfold stepTo; split
            · exact .inr (Int.le_refl _)
            · rcases ih2 (j + 1) with h | h
              · exact .inl h
              · exact .inr (by omega)
        rcases this r (j + 1) with h3 | h3 <;> omega
    | succ d =>
      rw [List.take_succ_cons]
      by_cases h : x.f1 = c
      · rw [if_pos h]
        exact ⟨fun _ => ⟨x, List.mem_cons_self, h⟩, fun _ => ⟨by omega, by omega⟩⟩
      · rw [if_neg h]
        have := ih (j + 1) d
        rw [show j + 1 + d = j + (d + 1) by omega] at this
        rw [this]
        constructor
        · rintro ⟨y, hy, e⟩; exact ⟨y, List.mem_cons_of_mem _ hy, e⟩
        · rintro ⟨y, hy, e⟩
          rcases List.mem_cons.1 hy with rfl | hy
          · exact absurd e h
          · exact ⟨y, hy, e⟩
theorem tunedBy_len (l : List S145) (t : List Bool) : (P.tunedBy l t).length = t.length := by
  unfold P.tunedBy
  induction l generalizing t with
  | nil => rfl
  | cons x r ih => rw [List.foldl_cons, ih, List.length_set]
theorem tunedBy_get (l : List S145) (t : List Bool) (hin : ∀ x ∈ l, 0 ≤ x.f1) (c : Nat) (hc : c < t.length) : (P.tunedBy l t)[c]? = some (t[c] || l.any (fun x => decide (x.f1 = (c : Int)))) := by
  unfold P.tunedBy
  induction l generalizing t with
  | nil => simp [hc]
  | cons x r ih =>
    rw [List.foldl_cons, ih _ (fun y hy => hin y (List.mem_cons_of_mem _ hy)) (by simpa using hc)]
    have := hin x List.mem_cons_self
    simp only [List.any_cons, List.getElem_set]
    by_cases h : x.f1 = (c : Int)
    · rw [if_pos (by omega)]; simp [h]
    · rw [if_neg (by omega)]; simp [h]
theorem workOk_spec (p : List S145) (d : Int) (q : List Int) : Ev (fun n => spec_WorkOk.f n p d q) (workOk p d q) := by
  have jt : Ev (fun n => spec_WorkOk.j0 n true p d q) false := Ev.step (fun n => by rw [spec_WorkOk.j0]) (evp rfl (Ev.now _))
  unfold spec_WorkOk.f workOk
  refine evb (planSpec_eq p) ?_
  by_cases hp : planOk p = true
  rotate_left
  · rw [show planOk p = false by simpa using hp, Bool.false_and]; exact evn (by simp) jt
  refine evp hp (evb (l01In_eq _ _ _) ?_)
  rw [hp, Bool.true_and]
  by_cases hd : 0 ≤ d ∧ d ≤ (p.length : Int)
  rotate_left
  · rw [decide_eq_false hd, Bool.false_and]; exact evn (by simp) jt
  rw [decide_eq_true hd, Bool.true_and]
  refine evp rfl ?_
  by_cases hq : q.length = 12
  rotate_left
  · rw [decide_eq_false hq, Bool.false_and, show ((q.length : Int) != 12) = true by simpa using (show ¬ (q.length : Int) = 12 by omega)]; exact jt
  rw [decide_eq_true hq, Bool.true_and, show ((q.length : Int) != 12) = false by simpa using (show (q.length : Int) = 12 by omega)]
  have hl := planOk_len hp
  have hin := planOk_in hp
  obtain ⟨T, hT⟩ : ∃ T, P.tunedBy (p.take d.toNat) tuned0 = T := ⟨_, rfl⟩
  have hTl : T.length = 12 := by rw [← hT, tunedBy_len]; rfl
  have hTi : ∀ c : Nat, (hc : c < T.length) → T[c] = (decide (c = 0) || decide (0 ≤ stepTo (c : Int) p 0 ∧ stepTo (c : Int) p 0 < d)) := by
    intro c hc
    have h1 := tunedBy_get (p.take d.toNat) tuned0 (fun x hx => (hin x (List.mem_of_mem_take hx)).2.2.1) c (show c < 12 by omega)
    rw [hT, List.getElem?_eq_getElem hc] at h1
    rw [Option.some.inj h1]
    congr 1
    · have : ∀ c, (h : c < tuned0.length) → tuned0[c] = decide (c = 0) := by decide
      exact this c _
    · have h2 := stepTo_lt (c : Int) p 0 d.toNat
      rw [Nat.zero_add, Int.toNat_of_nonneg hd.1] at h2
      rw [Bool.eq_iff_iff, decide_eq_true_iff, h2]
      simp
  rw [hT]
  have key : ∀ i : Nat, i ≤ 12 → Ev (fun n => spec_WorkOk.l0 n (i : Int) p d q) (keyGo (T.drop i) (q.drop i)) := by
    refine down (n := 12) ?_ ?_
    · refine Ev.step (fun n => by rw [spec_WorkOk.l0]) (evn (by omega) (evs ?_))
      rw [List.drop_eq_nil_of_le (by omega)]; rfl
    · intro i hi ih
      refine Ev.step (fun n => by rw [spec_WorkOk.l0]) ?_
      refine evp (by omega) (Ev.bind (stepTo_ev p _ (by omega)) ?_)
      rw [rd_nat q i (by omega), drop_cons T i (by omega), drop_cons q i (by omega), keyGo, hTi i (by omega), w64 (n := (i : Int) + 1) (by omega) (by omega)]
      have fin : ∀ v : Bool, Ev (fun n => (spec_l18Pitch.f q[i]).bind fun t => if t = true then spec_WorkOk.l0 n (((i + 1 : Nat)) : Int) p d q else some false) (decide (1 ≤ q[i] ∧ q[i] ≤ 10000000) && keyGo (T.drop (i + 1)) (q.drop (i + 1))) := by
        intro v
        refine evb (pitch_eq _) ?_
        by_cases hf : fine q[i] = true
        · rw [show decide (1 ≤ q[i] ∧ q[i] ≤ 10000000) = true from hf, Bool.true_and]; exact evp hf ih
        · rw [show decide (1 ≤ q[i] ∧ q[i] ≤ 10000000) = false by simpa [fine] using hf, Bool.false_and]; exact evn hf (Ev.now _)
      have zer : Ev (fun n => if 0 ≤ (i : Int) then (if (i : Int) < (q.length : Int) then (if q[i] = 0 then spec_WorkOk.l0 n (((i + 1 : Nat)) : Int) p d q else some false) else none) else none) (decide (q[i] = 0) && keyGo (T.drop (i + 1)) (q.drop (i + 1))) := by
        refine evp (by omega) (evp (by omega) ?_)
        by_cases hz : q[i] = 0
        · rw [decide_eq_true hz, Bool.true_and]; exact evp hz ih
        · rw [decide_eq_false hz, Bool.false_and]; exact evn hz (Ev.now _)
      by_cases h0 : i = 0
      · refine evp (by omega) (evp (by omega) (evp (by omega) ?_))
        rw [decide_eq_true h0, Bool.true_or, if_pos rfl]
        exact fin true
      refine evn (by omega) ?_
      rw [decide_eq_false h0, Bool.false_or]
      by_cases h1 : 0 ≤ stepTo (i : Int) p 0
      rotate_left
      · rw [decide_eq_false (fun h => h1 h.1), if_neg (by simp)]; exact evn (by omega) zer
      refine evp (by omega) ?_
      by_cases h2 : stepTo (i : Int) p 0 < d
      · rw [decide_eq_true ⟨h1, h2⟩, if_pos rfl]; exact evp h2 (evp (by omega) (evp (by omega) (fin true)))
      · rw [decide_eq_false (fun h => h2 h.2), if_neg (by simp)]; exact evn h2 zer
  refine Ev.step (fun n => by rw [spec_WorkOk.j0]) (evn (by decide) ?_)
  exact key 0 (by omega)
theorem workOk_plan {p : List S145} {d : Int} {q : List Int} (h : workOk p d q = true) : planOk p = true := by
  simp only [workOk, Bool.and_eq_true] at h; exact h.1
theorem workOk_done {p : List S145} {d : Int} {q : List Int} (h : workOk p d q = true) : 0 ≤ d ∧ d ≤ p.length := by
  simp only [workOk, Bool.and_eq_true, decide_eq_true_eq] at h; exact h.2.1
theorem workOk_len {p : List S145} {d : Int} {q : List Int} (h : workOk p d q = true) : q.length = 12 := by
  simp only [workOk, Bool.and_eq_true, decide_eq_true_eq] at h; exact h.2.2.1
end Go.Proofs.YtojiighpkppckaaDoor.Q


namespace Go.Proofs.YtojiighpkppckaaDoor.Q
set_option linter.unusedVariables false
set_option linter.unusedSimpArgs false
open Go.RowKit Go.Proofs.YtojiighpkppckaaDoor.P Go.Proofs.YtojiighpkppckaaDoorW.PrintWords Go.Proofs.YtojiighpkppckaaDoorW.PrintMore
def tuneAt (p : List S145) (q : List Int) (i : Nat) : Int := tunedPitch (q.getD (p.getD i z145).f0.toNat 0) (p.getD i z145).f2 (p.getD i z145).f3
theorem getS (p : List S145) (i : Nat) (hi : i < p.length) : p.getD i z145 = p[i] := by simp [List.getD_eq_getElem?_getD, hi]
end Go.Proofs.YtojiighpkppckaaDoor.Q


namespace Go.Proofs.YtojiighpkppckaaDoor.Q
set_option linter.unusedVariables false
set_option linter.unusedSimpArgs false
open Go.RowKit Go.Proofs.YtojiighpkppckaaDoor.P Go.Proofs.YtojiighpkppckaaDoorW.PrintWords Go.Proofs.YtojiighpkppckaaDoorW.PrintMore
def usualKind (i : Nat) : Int := if i = 0 ∨ i = 2 ∨ i = 4 ∨ i = 7 ∨ i = 9 then 1 else 2
def usualPlan (b : Int) : List S145 := if 0 ≤ b ∧ b ≤ 5000 then (List.range 11).map (fun (i : Nat) => ⟨(i : Int), (i : Int) + 1, usualKind i, b⟩) else []
theorem usual_kinds : ∀ i : Nat, i < 11 → rd [1, 2, 1, 2, 1, 2, 2, 1, 2, 1, 2] (i : Int) = usualKind i := by decide
theorem usual_spec (b : Int) : Ev (fun k => spec_UsualPlan.f k b) (usualPlan b) := by
  unfold spec_UsualPlan.f usualPlan
  by_cases hb : 0 ≤ b ∧ b ≤ 5000
  rotate_left
  · refine rneg hb (Ev.step (fun k => by rw [spec_UsualPlan.l0]) (evp (by decide) (evb (l01In_eq _ _ _) (evn (bfalse hb) (Ev.now _)))))
  refine rpos hb ?_
  have key : ∀ i : Nat, i ≤ 11 → Ev (fun k => spec_UsualPlan.l0 k b ((List.range i).map (fun (i : Nat) => (⟨(i : Int), (i : Int) + 1, usualKind i, b⟩ : S145))) (i : Int)) ((List.range 11).map (fun (i : Nat) => ⟨(i : Int), (i : Int) + 1, usualKind i, b⟩)) := by
    refine down (n := 11) ?_ ?_
    · exact Ev.step (fun k => by rw [spec_UsualPlan.l0]) (evn (by decide) (Ev.now _))
    · intro i hi ih
      refine Ev.step (fun k => by rw [spec_UsualPlan.l0]) ?_
      refine evp (by omega) (evb (l01In_eq _ _ _) ?_)
      refine evp (btrue hb) (evb rfl ?_)
      refine evp (by omega) ?_
      refine evp (by simp; omega) ?_
      refine evp (by simp; omega) ?_
      rw [usual_kinds i hi, w64 (n := (i : Int) + 1) (by omega) (by omega)]
      rw [List.range_succ, List.map_append] at ih
      exact ih
  exact key 0 (by omega)
end Go.Proofs.YtojiighpkppckaaDoor.Q


namespace Go.Proofs.YtojiighpkppckaaDoor.Q
set_option linter.unusedVariables false
set_option linter.unusedSimpArgs false
open Go.RowKit Go.Proofs.YtojiighpkppckaaDoor.P Go.Proofs.YtojiighpkppckaaDoorW.PrintWords Go.Proofs.YtojiighpkppckaaDoorW.PrintMore
def gStep (i : Nat) (x : S145) : Prop := x.f0 = i ∧ x.f1 = (i : Int) + 1 ∧ (x.f2 = 2 ∨ x.f2 = usualKind i) ∧ 0 ≤ x.f3 ∧ x.f3 < 1500
def gPlan (p : List S145) : Prop := p.length ≤ 11 ∧ ∀ i (h : i < p.length), gStep i p[i]
theorem gPlan_usual (b : Int) (h : 0 ≤ b ∧ b < 1500) : gPlan (usualPlan b) ∧ (usualPlan b).length = 11 := by
  unfold usualPlan
  rw [if_pos (by omega)]
  refine ⟨⟨by simp, fun i hi => ?_⟩, by simp⟩
  simp only [List.getElem_map, List.getElem_range]
  exact ⟨rfl, rfl, .inr rfl, h.1, h.2⟩
theorem gPlan_take {p : List S145} (h : gPlan p) (n : Nat) : gPlan (p.take n) := by
  refine ⟨by have := h.1; simp; omega, fun i hi => ?_⟩
  rw [List.getElem_take]
  exact h.2 i _
end Go.Proofs.YtojiighpkppckaaDoor.Q


namespace Go.Proofs.YtojiighpkppckaaDoor.Q
set_option linter.unusedVariables false
set_option linter.unusedSimpArgs false
open Go.RowKit Go.Proofs.YtojiighpkppckaaDoor.P Go.Proofs.YtojiighpkppckaaDoorW.PrintWords Go.Proofs.YtojiighpkppckaaDoorW.PrintMore
theorem getD_set_self (q : List Int) (i : Nat) (v : Int) (h : i < q.length) : (q.set i v).getD i 0 = v := by simp [List.getD_eq_getElem?_getD, h]
theorem getD_set_ne (q : List Int) (i k : Nat) (v : Int) (h : i ≠ k) : (q.set i v).getD k 0 = q.getD k 0 := by
  simp only [List.getD_eq_getElem?_getD]; rw [List.getElem?_set_ne h]
def pit (p : List S145) (s : Int) : Nat → Int
  | 0 => s
  | k + 1 => tunedPitch (pit p s k) (p.getD k z145).f2 (p.getD k z145).f3
def lows : List Int := [155000, 115875, 86531, 64523, 48017, 35638, 26353, 19390, 14167, 10250, 7312, 5109]
def highs : List Int := [345000, 517500, 388125, 582187, 436640, 654960, 491220, 368415, 552622, 414466, 621699, 466274]
theorem fine_of {n : Int} (h1 : 1 ≤ n) (h2 : n ≤ 10000000) : fine n = true := decide_eq_true ⟨h1, h2⟩
theorem tuned_five (a b : Int) (h1 : 2000 ≤ a) (h2 : a ≤ 1000000) (h3 : 0 ≤ b) (h4 : b < 1500) : tunedPitch a 1 b = (3 * a - b) / 2 := by
  unfold tunedPitch orZero mx
  rw [if_pos (fine_of (by omega) (by omega)), if_pos (by omega), if_pos rfl, w64 (n := 3 * a) (by omega) (by omega), w64 (n := 3 * a - b) (by omega) (by omega)]
  have e : (if (3 * a - b) < 0 then (0 : Int) else 3 * a - b) = 3 * a - b := if_neg (by omega)
  rw [e]
  rw [Int.tdiv_eq_ediv_of_nonneg (by omega), w64 (by omega) (by omega), if_pos (fine_of (by omega) (by omega))]
theorem tuned_four (a b : Int) (h1 : 2000 ≤ a) (h2 : a ≤ 1000000) (h3 : 0 ≤ b) (h4 : b < 1500) : tunedPitch a 2 b = (3 * a - b) / 4 := by
  unfold tunedPitch orZero mx
  rw [if_pos (fine_of (by omega) (by omega)), if_pos (by omega), if_neg (by decide), if_pos rfl, w64 (n := 3 * a) (by omega) (by omega), w64 (n := 3 * a - b) (by omega) (by omega)]
  have e : (if (3 * a - b) < 0 then (0 : Int) else 3 * a - b) = 3 * a - b := if_neg (by omega)
  rw [e]
  rw [Int.tdiv_eq_ediv_of_nonneg (by omega), w64 (by omega) (by omega), if_pos (fine_of (by omega) (by omega))]
theorem bound_step (k : Nat) (hk : k < 11) (a b x : Int) (h1 : lows.getD k 0 ≤ a) (h2 : a ≤ highs.getD k 0) (h3 : 0 ≤ b) (h4 : b < 1500) (hx : x = 2 ∨ x = usualKind k) :
    lows.getD (k + 1) 0 ≤ tunedPitch a x b ∧ tunedPitch a x b ≤ highs.getD (k + 1) 0 := by
  have a1 : 2000 ≤ a ∧ a ≤ 1000000 := by
    have : ∀ k : Nat, k < 11 → 2000 ≤ lows.getD k 0 ∧ highs.getD k 0 ≤ 1000000 := by decide
    have := this k hk; omega
  have hx2 : x = 2 ∨ (x = 1 ∧ usualKind k = 1) := by
    rcases hx with h | h
    · exact .inl h
    · unfold usualKind at h ⊢
      by_cases h5 : k = 0 ∨ k = 2 ∨ k = 4 ∨ k = 7 ∨ k = 9
      · rw [if_pos h5] at h ⊢; exact .inr ⟨h, rfl⟩
      · rw [if_neg h5] at h; exact .inl h
  have hk2 : k = 0 ∨ k = 1 ∨ k = 2 ∨ k = 3 ∨ k = 4 ∨ k = 5 ∨ k = 6 ∨ k = 7 ∨ k = 8 ∨ k = 9 ∨ k = 10 := by omega
  rcases hx2 with rfl | ⟨rfl, hu⟩
  · rw [tuned_four a b a1.1 a1.2 h3 h4]
    rcases hk2 with rfl | rfl | rfl | rfl | rfl | rfl | rfl | rfl | rfl | rfl | rfl <;> simp only [lows, highs, List.getD_cons_zero, List.getD_cons_succ] at h1 h2 ⊢ <;> omega
  · rw [tuned_five a b a1.1 a1.2 h3 h4]
    rcases hk2 with rfl | rfl | rfl | rfl | rfl | rfl | rfl | rfl | rfl | rfl | rfl <;> first | (exact absurd hu (by decide)) | (simp only [lows, highs, List.getD_cons_zero, List.getD_cons_succ] at h1 h2 ⊢; omega)
section
variable {p : List S145} (g : gPlan p) {s : Int} (hs : 155000 ≤ s ∧ s ≤ 345000)
include g
theorem gAt (i : Nat) (h : i < p.length) : (p.getD i z145).f0 = i ∧ (p.getD i z145).f1 = (i : Int) + 1 ∧ ((p.getD i z145).f2 = 2 ∨ (p.getD i z145).f2 = usualKind i) ∧ 0 ≤ (p.getD i z145).f3 ∧ (p.getD i z145).f3 < 1500 := by
  rw [getS p i h]; exact g.2 i h
include hs
theorem pit_bounds (k : Nat) (hk : k ≤ p.length) : lows.getD k 0 ≤ pit p s k ∧ pit p s k ≤ highs.getD k 0 := by
  induction k with
  | zero => exact hs
  | succ k ih =>
    obtain ⟨h1, h2⟩ := ih (by omega)
    obtain ⟨g0, g1, g2, g3, g4⟩ := gAt g k (by omega)
    exact bound_step k (by have := g.1; omega) _ _ _ h1 h2 g3 g4 g2
theorem pit_fine (k : Nat) (hk : k ≤ p.length) : 2000 ≤ pit p s k ∧ pit p s k ≤ 1000000 := by
  have : ∀ k : Nat, k < 12 → 2000 ≤ lows.getD k 0 ∧ highs.getD k 0 ≤ 1000000 := by decide
  have h1 := this k (by have := g.1; omega)
  have h2 := pit_bounds g hs k hk
  omega
end
def pits (p : List S145) (s : Int) (n : Nat) : List Int := (List.range 12).map (fun k => if k ≤ n then pit p s k else 0)
theorem pits_len (p : List S145) (s : Int) (n : Nat) : (pits p s n).length = 12 := by simp [pits]
theorem pits_get (p : List S145) (s : Int) (n k : Nat) (hk : k < 12) : (pits p s n).getD k 0 = if k ≤ n then pit p s k else 0 := by
  simp [pits, List.getD_eq_getElem?_getD, hk]
theorem list_ext12 {a b : List Int} (ha : a.length = 12) (hb : b.length = 12) (h : ∀ k : Nat, k < 12 → a.getD k 0 = b.getD k 0) : a = b := by
  apply List.ext_getElem (by omega)
  intro k h1 h2
  have := h k (by omega)
  simpa [List.getD_eq_getElem?_getD, h1, h2] using this
theorem pits_zero (p : List S145) (s : Int) : pits p s 0 = begun s := by
  refine list_ext12 (pits_len p s 0) (by simp [begun]) (fun k hk => ?_)
  rw [pits_get p s 0 k hk]
  cases k with
  | zero => rfl
  | succ k =>
    rw [if_neg (by omega)]
    have : ∀ k : Nat, k < 11 → (List.replicate 11 (0 : Int)).getD k 0 = 0 := by decide
    exact (this k (by omega)).symm
theorem pits_succ (p : List S145) (s : Int) (n : Nat) (hn : n < 11) : (pits p s n).set (n + 1) (pit p s (n + 1)) = pits p s (n + 1) := by
  refine list_ext12 (by simp [pits_len]) (pits_len _ _ _) (fun k hk => ?_)
  have h1 := pits_get p s n k hk
  rw [pits_get p s (n + 1) k hk]
  by_cases e : k = n + 1
  · subst e
    rw [if_pos (Nat.le_refl _)]
    exact getD_set_self _ _ _ (by rw [pits_len]; omega)
  · have : ((pits p s n).set (n + 1) (pit p s (n + 1))).getD k 0 = (pits p s n).getD k 0 := by
      simp only [List.getD_eq_getElem?_getD]
      rw [List.getElem?_set_ne (by omega)]
    rw [this, h1]
    by_cases h2 : k ≤ n
    · rw [if_pos h2, if_pos (by omega)]
    · rw [if_neg h2, if_neg (by omega)]
def tunedN (n : Nat) : List Bool := (List.range 12).map (fun k => decide (k ≤ n))
theorem tunedN_zero : tunedN 0 = tuned0 := by decide
theorem tunedN_succ (n : Nat) (hn : n < 11) : (tunedN n).set (n + 1) true = tunedN (n + 1) := by
  have : ∀ n : Nat, n < 11 → (tunedN n).set (n + 1) true = tunedN (n + 1) := by decide
  exact this n hn
theorem tunedN_get (n k : Nat) (hk : k < 12) : (tunedN n).getD k false = decide (k ≤ n) := by simp [tunedN, List.getD_eq_getElem?_getD, hk]
theorem usualKind_le (i : Nat) : usualKind i = 1 ∨ usualKind i = 2 := by unfold usualKind; split <;> simp
theorem planGo_good {p : List S145} (g : gPlan p) (j : Nat) (hj : j ≤ p.length) : planGo (p.drop j) (tunedN j) = true := by
  refine down (P := fun j => planGo (p.drop j) (tunedN j) = true) (n := p.length) ?_ ?_ j hj
  · rw [drop_end]; rfl
  · intro i hi ih
    have hl := g.1
    obtain ⟨g0, g1, g2, g3, g4⟩ := g.2 i hi
    rw [drop_cons p i hi, planGo, Bool.and_eq_true]
    constructor
    · have t1 := tunedN_get i i (by omega)
      have t2 := tunedN_get i (i + 1) (by omega)
      have e1 : (p[i].f0).toNat = i := by omega
      have e2 : (p[i].f1).toNat = i + 1 := by omega
      unfold stepOk
      rw [e1, e2, t1, t2]
      have hk : p[i].f2 = 1 ∨ p[i].f2 = 2 := by
        rcases g2 with h | h
        · exact .inr h
        · rw [h]; exact usualKind_le i
      simp only [Bool.and_eq_true, Bool.or_eq_true, decide_eq_true_eq]
      refine ⟨hk, ⟨g3, by omega⟩, by omega, by omega, by omega, Nat.le_refl _, ?_⟩
      simp
    · rw [g1, show ((i : Int) + 1).toNat = i + 1 by omega, tunedN_succ i (by omega)]
      exact ih
theorem planOk_good {p : List S145} (g : gPlan p) : planOk p = true := by
  unfold planOk
  rw [Bool.and_eq_true, decide_eq_true_eq]
  refine ⟨g.1, ?_⟩
  have := planGo_good g 0 (Nat.zero_le _)
  rwa [tunedN_zero] at this
theorem tunedBy_good {p : List S145} (g : gPlan p) (n : Nat) (hn : n ≤ p.length) : P.tunedBy (p.take n) tuned0 = tunedN n := by
  induction n with
  | zero => rw [tunedN_zero]; rfl
  | succ n ih =>
    rw [List.take_succ_eq_append_getElem (by omega), P.tunedBy_snoc, ih (by omega)]
    obtain ⟨g0, g1, _⟩ := g.2 n (by omega)
    rw [g1, show ((n : Int) + 1).toNat = n + 1 by omega]
    exact tunedN_succ n (by have := g.1; omega)
theorem keyGo_iff : ∀ (t : List Bool) (q : List Int), t.length = q.length → (keyGo t q = true ↔ ∀ k : Nat, k < q.length → if t.getD k false = true then 1 ≤ q.getD k 0 ∧ q.getD k 0 ≤ 10000000 else q.getD k 0 = 0)
  | [], [], _ => by simp [keyGo]
  | b :: t, x :: q, h => by
    have ih := keyGo_iff t q (by simpa using h)
    rw [keyGo, Bool.and_eq_true, ih]
    constructor
    · rintro ⟨h1, h2⟩ k hk
      cases k with
      | zero => simpa [apply_ite] using h1
      | succ k => simpa using h2 k (by simpa using hk)
    · intro h2
      refine ⟨?_, fun k hk => by simpa using h2 (k + 1) (by simpa using hk)⟩
      have := h2 0 (by simp)
      cases b <;> simpa using this
theorem workOk_good {p : List S145} (g : gPlan p) (n : Nat) (hn : n ≤ p.length) (q : List Int) :
    workOk p (n : Int) q = true ↔ q.length = 12 ∧ (∀ k : Nat, k ≤ n → 1 ≤ q.getD k 0 ∧ q.getD k 0 ≤ 10000000) ∧ (∀ k : Nat, n < k → k < 12 → q.getD k 0 = 0) := by
  unfold workOk
  rw [planOk_good g, Bool.true_and, decide_eq_true (show 0 ≤ (n : Int) ∧ (n : Int) ≤ p.length by omega), Bool.true_and, Int.toNat_natCast, tunedBy_good g n hn, Bool.and_eq_true, decide_eq_true_eq]
  have hl := g.1
  constructor
  · rintro ⟨h1, h2⟩
    rw [keyGo_iff _ _ (by simp [tunedN, h1])] at h2
    refine ⟨h1, fun k hk => ?_, fun k hk hk2 => ?_⟩
    · have := h2 k (by omega)
      rw [tunedN_get n k (by omega), decide_eq_true hk, if_pos rfl] at this
      exact this
    · have := h2 k (by omega)
      rw [tunedN_get n k (by omega), decide_eq_false (by omega), if_neg (by simp)] at this
      exact this
  · rintro ⟨h1, h2, h3⟩
    refine ⟨h1, (keyGo_iff _ _ (by simp [tunedN, h1])).2 fun k hk => ?_⟩
    rw [tunedN_get n k (by omega)]
    by_cases h : k ≤ n
    · rw [decide_eq_true h, if_pos rfl]; exact h2 k h
    · rw [decide_eq_false h, if_neg (by simp)]; exact h3 k (by omega) (by omega)
theorem workOk_pits {p : List S145} (g : gPlan p) {s : Int} (hs : 155000 ≤ s ∧ s ≤ 345000) (n : Nat) (hn : n ≤ p.length) : workOk p (n : Int) (pits p s n) = true := by
  have hl := g.1
  refine (workOk_good g n hn _).2 ⟨pits_len _ _ _, fun k hk => ?_, fun k hk hk2 => ?_⟩
  · rw [pits_get p s n k (by omega), if_pos hk]
    have := pit_fine g hs k (by omega)
    omega
  · rw [pits_get p s n k hk2, if_neg (by omega)]
theorem runGo_good {p : List S145} (g : gPlan p) {s : Int} (hs : 155000 ≤ s ∧ s ≤ 345000) (j : Nat) (hj : j ≤ p.length) : runGo (p.drop j) (pits p s j) = (pits p s p.length, true) := by
  refine down (P := fun j => runGo (p.drop j) (pits p s j) = (pits p s p.length, true)) (n := p.length) ?_ ?_ j hj
  · rw [drop_end]; rfl
  · intro i hi ih
    have hl := g.1
    obtain ⟨g0, g1, _⟩ := g.2 i hi
    rw [drop_cons p i hi, runGo]
    have e1 : (p[i].f0).toNat = i := by omega
    have e2 : (p[i].f1).toNat = i + 1 := by omega
    have e3 : tunedPitch ((pits p s i).getD i 0) p[i].f2 p[i].f3 = pit p s (i + 1) := by
      rw [pits_get p s i i (by omega), if_pos (Nat.le_refl _)]
      show _ = tunedPitch _ (p.getD i z145).f2 (p.getD i z145).f3
      rw [getS p i hi]
    have hf := pit_fine g hs (i + 1) hi
    rw [e1, e2, e3, if_neg (by omega), pits_succ p s i (by omega)]
    exact ih
theorem runPlan_good {p : List S145} (g : gPlan p) {s : Int} (hs : 155000 ≤ s ∧ s ≤ 345000) : runPlan s p = (pits p s p.length, true) := by
  unfold runPlan
  rw [if_pos ⟨planOk_good g, fine_of (by omega) (by omega)⟩, ← pits_zero p s]
  exact runGo_good g hs 0 (Nat.zero_le _)
end Go.Proofs.YtojiighpkppckaaDoor.Q


namespace Go.Proofs.YtojiighpkppckaaDoor.Q
set_option linter.unusedVariables false
set_option linter.unusedSimpArgs false
open Go.RowKit Go.Proofs.YtojiighpkppckaaDoor.P Go.Proofs.YtojiighpkppckaaDoorW.PrintWords Go.Proofs.YtojiighpkppckaaDoorW.PrintMore
theorem l19Copy_eq (p : List S145) (hp : p.length ≤ 4000000) : spec_l19Copy.f p = some p := by
  unfold spec_l19Copy.f; simp only [Option.bind_some]; rw [if_pos (by simp; omega)]; simp
theorem l02Copy_eq (p : List Int) (hp : p.length ≤ 4000000) : spec_l02Copy.f p = some p := by
  unfold spec_l02Copy.f; simp only [Option.bind_some]; rw [if_pos (by simp; omega)]; simp
theorem l36Copy_eq (p : List S145) (d : Int) (q : List Int) (hp : p.length ≤ 4000000) (hq : q.length ≤ 4000000) : spec_l36Copy.f p d q = some (p, d, q) := by
  unfold spec_l36Copy.f; rw [l19Copy_eq p hp]; simp only [Option.bind_some]; rw [l02Copy_eq q hq]; rfl
end Go.Proofs.YtojiighpkppckaaDoor.Q


namespace Go.Proofs.YtojiighpkppckaaDoor.Q
set_option linter.unusedVariables false
set_option linter.unusedSimpArgs false
open Go.RowKit Go.Proofs.YtojiighpkppckaaDoor.P Go.Proofs.YtojiighpkppckaaDoorW.PrintWords Go.Proofs.YtojiighpkppckaaDoorW.PrintMore
def workStep (p : List S145) (d : Int) (q : List Int) : List S145 × Int × List Int × Bool :=
  if workOk p d q = true then
    if d = (p.length : Int) then (p, d, q, false)
    else if tuneAt p q d.toNat = 0 then (p, d, q, false)
    else (p, d + 1, q.set (p.getD d.toNat z145).f1.toNat (tuneAt p q d.toNat), true)
  else (p, d, q, false)
theorem step_spec (p : List S145) (d : Int) (q : List Int) (hp : p.length ≤ 4000000) (hq : q.length ≤ 4000000) : Ev (fun n => spec_WorkStep.f n p d q) (workStep p d q) := by
  have jt : Ev (fun n => spec_WorkStep.j0 n true p d q p d q) (p, d, q, false) := Ev.step (fun n => by rw [spec_WorkStep.j0]) (evp rfl (Ev.now _))
  unfold spec_WorkStep.f workStep
  refine evb (l36Copy_eq p d q hp hq) (Ev.bind (workOk_spec p d q) ?_)
  by_cases h : workOk p d q = true
  rotate_left
  · exact rneg h <| evn h jt
  refine rpos h <| evp h ?_
  have hp := workOk_plan h; have hd := workOk_done h; have hq := workOk_len h; have hl := planOk_len hp
  obtain ⟨m, rfl⟩ := Int.eq_ofNat_of_zero_le hd.1
  by_cases he : (m : Int) = (p.length : Int)
  · rw [show ((m : Int) == (p.length : Int)) = true by simpa using he]; exact rpos he jt
  rw [show ((m : Int) == (p.length : Int)) = false by simpa using he]
  refine rneg he ?_
  have hm : m < p.length := by omega
  obtain ⟨k0, k1, k2, k3, k4⟩ := planOk_in hp p[m] (List.getElem_mem hm)
  refine Ev.step (fun n => by rw [spec_WorkStep.j0]) ?_
  refine evn (by decide) (evp (by omega) (evp (by omega) ?_))
  rw [rdS p m hm]
  refine evp k0 (evp (by omega) (Ev.bind (tuned_spec _ _ _) ?_))
  rw [rd_get]
  have et : tunedPitch (q.getD p[m].f0.toNat 0) p[m].f2 p[m].f3 = tuneAt p q m := by unfold tuneAt; rw [getS p m hm]
  rw [et, getS p ((m : Int).toNat) hm]
  simp only [Int.toNat_natCast]
  by_cases hz : tuneAt p q m = 0
  · exact rpos hz <| evp hz (Ev.now _)
  refine rneg hz <| evn hz ?_
  rw [w64 (n := (m : Int) + 1) (by omega) (by omega)]
  exact evp k2 (evp (by omega) (Ev.now _))
end Go.Proofs.YtojiighpkppckaaDoor.Q


namespace Go.Proofs.YtojiighpkppckaaDoor.Q
set_option linter.unusedVariables false
set_option linter.unusedSimpArgs false
open Go.RowKit Go.Proofs.YtojiighpkppckaaDoor.P Go.Proofs.YtojiighpkppckaaDoorW.PrintWords Go.Proofs.YtojiighpkppckaaDoorW.PrintMore
def isBad (p : List S145) (q : List Int) (i : Nat) : Bool := decide (q.getD (p.getD i z145).f1.toNat 0 ≠ tuneAt p q i)
def wrongs (p : List S145) (q : List Int) (l : List Nat) : List Int := (l.filter (isBad p q)).map (fun (i : Nat) => (i : Int))
def wrongSteps (p : List S145) (d : Int) (q : List Int) : List Int := if workOk p d q = true then wrongs p q (List.range d.toNat) else []
theorem wrongs_cons (p : List S145) (q : List Int) (i : Nat) (l : List Nat) : wrongs p q (i :: l) = if isBad p q i = true then (i : Int) :: wrongs p q l else wrongs p q l := by
  unfold wrongs; rw [List.filter_cons]; split <;> rfl
theorem wrong_spec (p : List S145) (d : Int) (q : List Int) : Ev (fun n => spec_WrongSteps.f n p d q) (wrongSteps p d q) := by
  unfold spec_WrongSteps.f wrongSteps
  simp only [Option.bind_some]
  refine Ev.bind (workOk_spec p d q) ?_
  by_cases h : workOk p d q = true
  rotate_left
  · exact rneg h <| evn h (Ev.now _)
  have hp := workOk_plan h; have hd := workOk_done h; have hq := workOk_len h; have hl := planOk_len hp
  obtain ⟨m, rfl⟩ := Int.eq_ofNat_of_zero_le hd.1
  refine rpos h <| evp h ?_
  simp only [Int.toNat_natCast]
  have key : ∀ i, i ≤ m → ∀ acc : List Int, acc.length ≤ i → Ev (fun n => spec_WrongSteps.l0 n acc (i : Int) p m q) (acc ++ wrongs p q ((List.range m).drop i)) := by
    refine down (n := m) ?_ ?_
    · intro acc ha
      refine Ev.step (fun n => by rw [spec_WrongSteps.l0]) (evn (by omega) (evs ?_))
      rw [List.drop_eq_nil_of_le (by simp)]; simp [wrongs]
    · intro i hi ih acc ha
      obtain ⟨k0, k1, k2, k3, k4⟩ := planOk_in hp p[i] (List.getElem_mem (by omega))
      refine Ev.step (fun n => by rw [spec_WrongSteps.l0]) ?_
      refine evp (by omega) (evp (by omega) (evp (by omega) ?_))
      rw [rdS p i (by omega)]
      refine evp k2 (evp (by omega) (evp k0 (evp (by omega) (Ev.bind (tuned_spec _ _ _) ?_))))
      rw [drop_cons _ i (by simpa using hi), List.getElem_range, rd_get, rd_get, w64 (n := (i : Int) + 1) (by omega) (by omega)]
      have g := getS p i (by omega)
      have eb : isBad p q i = decide (q.getD p[i].f1.toNat 0 ≠ tuneAt p q i) := by unfold isBad; rw [g]
      by_cases hb : q.getD p[i].f1.toNat 0 = tuneAt p q i
      · rw [show wrongs p q (i :: (List.range m).drop (i + 1)) = wrongs p q ((List.range m).drop (i + 1)) by rw [wrongs_cons, eb, if_neg (by simp only [decide_eq_true_eq]; exact fun h => h hb)]]
        refine evp (by rw [hb]; unfold tuneAt; rw [g]) ?_
        exact ih acc (by omega)
      · rw [show wrongs p q (i :: (List.range m).drop (i + 1)) = (i : Int) :: wrongs p q ((List.range m).drop (i + 1)) by rw [wrongs_cons, eb, if_pos (by simp only [decide_eq_true_eq]; exact hb)]]
        refine evn (by unfold tuneAt at hb; rw [g] at hb; exact hb) (evp (by omega) ?_)
        have := ih (acc ++ [(i : Int)]) (by simp; omega)
        rw [List.append_assoc] at this
        exact this
  have := key 0 (Nat.zero_le _) [] (Nat.le_refl _)
  simpa using this
end Go.Proofs.YtojiighpkppckaaDoor.Q


namespace Go.Proofs.YtojiighpkppckaaDoor.Q
set_option linter.unusedVariables false
set_option linter.unusedSimpArgs false
open Go.RowKit Go.Proofs.YtojiighpkppckaaDoor.P Go.Proofs.YtojiighpkppckaaDoorW.PrintWords Go.Proofs.YtojiighpkppckaaDoorW.PrintMore
def mendStep (p : List S145) (d : Int) (q : List Int) : List S145 × Int × List Int × Bool :=
  match wrongSteps p d q with
  | [] => (p, d, q, false)
  | i :: _ => if tuneAt p q i.toNat = 0 then (p, d, q, false) else (p, d, q.set (p.getD i.toNat z145).f1.toNat (tuneAt p q i.toNat), true)
theorem wrongSteps_head {p : List S145} {d : Int} {q : List Int} {i : Int} {r : List Int} (h : wrongSteps p d q = i :: r) : workOk p d q = true ∧ ∃ j : Nat, i = j ∧ (j : Int) < d ∧ j < p.length := by
  unfold wrongSteps at h
  by_cases hw : workOk p d q = true
  rotate_left
  · rw [if_neg hw] at h; exact absurd h (by simp)
  rw [if_pos hw] at h
  refine ⟨hw, ?_⟩
  have hi : i ∈ wrongs p q (List.range d.toNat) := by rw [h]; exact List.mem_cons_self
  unfold wrongs at hi
  obtain ⟨j, hj, rfl⟩ := List.mem_map.1 hi
  have hd := workOk_done hw
  have := List.mem_range.1 (List.mem_filter.1 hj).1
  exact ⟨j, rfl, by omega, by omega⟩
theorem mend_spec (p : List S145) (d : Int) (q : List Int) (hp : p.length ≤ 4000000) (hq : q.length ≤ 4000000) : Ev (fun n => spec_MendStep.f n p d q) (mendStep p d q) := by
  unfold spec_MendStep.f mendStep
  refine evb (l36Copy_eq p d q hp hq) (Ev.bind (wrong_spec p d q) ?_)
  cases h : wrongSteps p d q with
  | nil => exact evp rfl (Ev.now _)
  | cons i r =>
    obtain ⟨hw, j, rfl, hj, hj2⟩ := wrongSteps_head h
    have hp := workOk_plan hw; have hq := workOk_len hw
    obtain ⟨k0, k1, k2, k3, k4⟩ := planOk_in hp p[j] (List.getElem_mem hj2)
    refine evn (by simp; omega) (evp (by simp) ?_)
    rw [show rd ((j : Int) :: r) 0 = (j : Int) from rfl]
    refine evp (by omega) (evp (by omega) ?_)
    rw [rdS p j hj2]
    refine evp k0 (evp (by omega) (Ev.bind (tuned_spec _ _ _) ?_))
    rw [rd_get]
    have et : tunedPitch (q.getD p[j].f0.toNat 0) p[j].f2 p[j].f3 = tuneAt p q j := by unfold tuneAt; rw [getS p j hj2]
    simp only [Int.toNat_natCast]
    rw [et, getS p j hj2]
    by_cases hz : tuneAt p q j = 0
    · exact rpos hz <| evp hz (Ev.now _)
    exact rneg hz <| evn hz (evp k2 (evp (by omega) (Ev.now _)))
end Go.Proofs.YtojiighpkppckaaDoor.Q


namespace Go.Proofs.YtojiighpkppckaaDoor.Q
set_option linter.unusedVariables false
set_option linter.unusedSimpArgs false
open Go.RowKit Go.Proofs.YtojiighpkppckaaDoor.P Go.Proofs.YtojiighpkppckaaDoorW.PrintWords Go.Proofs.YtojiighpkppckaaDoorW.PrintMore
def knocked (q : List Int) (c x : Int) : List Int := q.set c.toNat (wrap64 (q.getD c.toNat 0 + x))
def knockKey (p : List S145) (d : Int) (q : List Int) (c x : Int) : List S145 × Int × List Int × Bool :=
  if workOk p d q = true ∧ (0 ≤ c ∧ c ≤ 11) ∧ (-100000 ≤ x ∧ x ≤ 100000) ∧ q.getD c.toNat 0 ≠ 0 then
    if workOk p d (knocked q c x) = true then (p, d, knocked q c x, true) else (p, d, q, false)
  else (p, d, q, false)
theorem knock_spec (p : List S145) (d : Int) (q : List Int) (c x : Int) (hp : p.length ≤ 4000000) (hq : q.length ≤ 4000000) : Ev (fun n => spec_KnockKey.f n p d q c x) (knockKey p d q c x) := by
  have jt : Ev (fun n => spec_KnockKey.j0 n c x true p d q p d q) (p, d, q, false) := Ev.step (fun n => by rw [spec_KnockKey.j0]) (evp rfl (Ev.now _))
  unfold spec_KnockKey.f knockKey
  refine evb (l36Copy_eq p d q hp hq) (Ev.bind (workOk_spec p d q) ?_)
  by_cases h : workOk p d q = true
  rotate_left
  · exact rneg (fun h2 => h h2.1) <| evn h jt
  have hl := workOk_len h
  refine evp h (evb (l01In_eq _ _ _) ?_)
  by_cases hc : 0 ≤ c ∧ c ≤ 11
  rotate_left
  · exact rneg (fun h2 => hc h2.2.1) <| evn (bfalse hc) jt
  refine evp (btrue hc) (evb (l01In_eq _ _ _) ?_)
  by_cases hx : -100000 ≤ x ∧ x ≤ 100000
  rotate_left
  · exact rneg (fun h2 => hx h2.2.2.1) <| evn (bfalse hx) jt
  refine evp (btrue hx) (evp hc.1 (evp (by omega) ?_))
  rw [rd_get]
  by_cases hz : q.getD c.toNat 0 = 0
  · rw [show (q.getD c.toNat 0 == 0) = true by rw [hz]; rfl]; exact rneg (fun h2 => h2.2.2.2 hz) jt
  rw [show (q.getD c.toNat 0 == 0) = false from beq_eq_false_iff_ne.mpr hz]
  refine rpos ⟨h, hc, hx, hz⟩ ?_
  refine Ev.step (fun n => by rw [spec_KnockKey.j0]) ?_
  refine evn (by decide) (evp hc.1 (evp (by show c < (q.length : Int); omega) ?_))
  simp only [Option.bind_some, rd_get]
  refine Ev.bind (workOk_spec p d _) ?_
  by_cases h3 : workOk p d (knocked q c x) = true
  · exact rpos h3 <| evp h3 (Ev.now _)
  · exact rneg h3 <| evn h3 (evb (l36Copy_eq p d q hp hq) (Ev.now _))
end Go.Proofs.YtojiighpkppckaaDoor.Q


namespace Go.Proofs.YtojiighpkppckaaDoor.Q
set_option linter.unusedVariables false
set_option linter.unusedSimpArgs false
open Go.RowKit Go.Proofs.YtojiighpkppckaaDoor.P Go.Proofs.YtojiighpkppckaaDoorW.PrintWords Go.Proofs.YtojiighpkppckaaDoorW.PrintMore
def newWork (a : Int) (p : List S145) : List S145 × Int × List Int × Bool := if (runPlan a p).2 = true then (p, 0, begun a, true) else ([], 0, [], false)
theorem runPlan_plan {a : Int} {p : List S145} (h : (runPlan a p).2 = true) : planOk p = true ∧ fine a = true := by
  unfold runPlan at h
  by_cases h2 : planOk p = true ∧ fine a = true
  · exact h2
  · rw [if_neg h2] at h; exact absurd h (by simp)
theorem newWork_spec (a : Int) (p : List S145) : Ev (fun n => spec_NewWork.f n a p) (newWork a p) := by
  unfold spec_NewWork.f newWork
  refine Ev.bind (runPlan_spec a p) ?_
  by_cases h : (runPlan a p).2 = true
  rotate_left
  · exact rneg h <| evn h (Ev.now _)
  refine rpos h <| evp h (evb (l19Copy_eq p (by have := planOk_len (runPlan_plan h).1; omega)) (evp (by decide) ?_))
  simp only [Option.bind_some]
  exact evp (by simp) (Ev.now _)
end Go.Proofs.YtojiighpkppckaaDoor.Q


namespace Go.Proofs.YtojiighpkppckaaDoor.Q
set_option linter.unusedVariables false
set_option linter.unusedSimpArgs false
open Go.RowKit Go.Proofs.YtojiighpkppckaaDoor.P Go.Proofs.YtojiighpkppckaaDoorW.PrintWords Go.Proofs.YtojiighpkppckaaDoorW.PrintMore
def rightTo (p : List S145) (q : List Int) (i : Nat) : Prop := ∀ k : Nat, k ≤ i → q.getD k 0 = pit p (q.getD 0 0) k
theorem rightTo_zero (p : List S145) (q : List Int) : rightTo p q 0 := by
  intro k hk
  obtain rfl : k = 0 := by omega
  rfl
theorem rightTo_pits (p : List S145) (s : Int) (n : Nat) (hn : n < 12) : rightTo p (pits p s n) n := fun k hk => by
  rw [pits_get p s n k (by omega), if_pos hk, pits_get p s n 0 (by omega), if_pos (Nat.zero_le _)]; rfl
section
variable {p : List S145} (g : gPlan p)
include g
theorem tuneAt_right {q : List Int} {i : Nat} (hi : i < p.length) (h : q.getD i 0 = pit p (q.getD 0 0) i) : tuneAt p q i = pit p (q.getD 0 0) (i + 1) := by
  unfold tuneAt
  rw [(gAt g i hi).1, Int.toNat_natCast, h]; rfl
theorem isBad_iff {q : List Int} {i : Nat} (hi : i < p.length) : isBad p q i = true ↔ q.getD (i + 1) 0 ≠ tuneAt p q i := by
  unfold isBad
  rw [(gAt g i hi).2.1, show ((i : Int) + 1).toNat = i + 1 by omega, decide_eq_true_iff]
theorem rightTo_succ {q : List Int} {i : Nat} (hi : i < p.length) (h : rightTo p q i) (hb : ¬ isBad p q i = true) : rightTo p q (i + 1) := by
  rw [isBad_iff g hi] at hb
  have hb2 : q.getD (i + 1) 0 = tuneAt p q i := Classical.byContradiction hb
  intro k hk
  by_cases e : k = i + 1
  · subst e; rw [hb2]; exact tuneAt_right g hi (h i (Nat.le_refl _))
  · exact h k (by omega)
theorem notBad {q : List Int} {i j : Nat} (hi : i ≤ p.length) (h : rightTo p q i) (hj : j < i) : isBad p q j = false := by
  have : ¬ isBad p q j = true := by
    rw [isBad_iff g (by omega), Classical.not_not, tuneAt_right g (by omega) (h j (by omega))]
    exact h (j + 1) (by omega)
  simpa using this
theorem wrongs_skip {q : List Int} {i : Nat} (hi : i ≤ p.length) (h : rightTo p q i) (r : List Nat) : wrongs p q (List.range i ++ r) = wrongs p q r := by
  unfold wrongs
  rw [List.filter_append, List.filter_eq_nil_iff.2 (fun j hj => by rw [notBad g hi h (List.mem_range.1 hj)]; simp)]
  rfl
theorem wrongs_none {q : List Int} {i : Nat} (hi : i ≤ p.length) (h : rightTo p q i) : wrongs p q (List.range i) = [] := by
  have := wrongs_skip g hi h []
  rw [List.append_nil] at this
  rw [this]; rfl
theorem wrongs_first {q : List Int} {i j : Nat} (hi : i + (j + 1) ≤ p.length) (h : rightTo p q i) (hb : isBad p q i = true) : ∃ r, wrongs p q (List.range (i + (j + 1))) = (i : Int) :: r := by
  rw [List.range_add, wrongs_skip g (by omega) h, List.range_succ_eq_map, List.map_cons, Nat.add_zero, wrongs_cons, if_pos hb]
  exact ⟨_, rfl⟩
theorem right_pits {q : List Int} {n : Nat} (hn : n ≤ p.length) (hw : workOk p (n : Int) q = true) (h : rightTo p q n) : q = pits p (q.getD 0 0) n := by
  obtain ⟨h1, h2, h3⟩ := (workOk_good g n hn q).1 hw
  refine list_ext12 h1 (pits_len _ _ _) (fun k hk => ?_)
  rw [pits_get _ _ n k hk]
  by_cases e : k ≤ n
  · rw [if_pos e]; exact h k e
  · rw [if_neg e]; exact h3 k (by omega) hk
theorem mended {q : List Int} {i n : Nat} (hn : n ≤ p.length) (hi : i < n) (hw : workOk p (n : Int) q = true) (hs : 155000 ≤ q.getD 0 0 ∧ q.getD 0 0 ≤ 345000) (h : rightTo p q i) :
    workOk p (n : Int) (q.set (i + 1) (pit p (q.getD 0 0) (i + 1))) = true ∧ (q.set (i + 1) (pit p (q.getD 0 0) (i + 1))).getD 0 0 = q.getD 0 0 ∧ rightTo p (q.set (i + 1) (pit p (q.getD 0 0) (i + 1))) (i + 1) := by
  obtain ⟨h1, h2, h3⟩ := (workOk_good g n hn q).1 hw
  have hl := g.1
  have hf := pit_fine g hs (i + 1) (by omega)
  have e0 : (q.set (i + 1) (pit p (q.getD 0 0) (i + 1))).getD 0 0 = q.getD 0 0 := getD_set_ne _ _ _ _ (by omega)
  refine ⟨(workOk_good g n hn _).2 ⟨by simpa using h1, fun k hk => ?_, fun k hk hk2 => ?_⟩, e0, fun k hk => ?_⟩
  · by_cases e : i + 1 = k
    · subst e; rw [getD_set_self _ _ _ (by omega)]; omega
    · rw [getD_set_ne _ _ _ _ e]; exact h2 k hk
  · rw [getD_set_ne _ _ _ _ (by omega)]; exact h3 k hk hk2
  · rw [e0]
    by_cases e : i + 1 = k
    · subst e; rw [getD_set_self _ _ _ (by omega)]
    · rw [getD_set_ne _ _ _ _ e]; exact h k (by omega)
omit g in
theorem wrongSteps_good {q : List Int} {n : Nat} (hw : workOk p (n : Int) q = true) : wrongSteps p (n : Int) q = wrongs p q (List.range n) := by
  unfold wrongSteps; rw [if_pos hw, Int.toNat_natCast]
theorem mendStep_good {q : List Int} {i j n : Nat} (hn : n ≤ p.length) (hij : n = i + (j + 1)) (hw : workOk p (n : Int) q = true) (hs : 155000 ≤ q.getD 0 0 ∧ q.getD 0 0 ≤ 345000) (h : rightTo p q i) (hb : isBad p q i = true) :
    mendStep p (n : Int) q = (p, (n : Int), q.set (i + 1) (pit p (q.getD 0 0) (i + 1)), true) := by
  obtain ⟨r, hr⟩ := wrongs_first g (by omega : i + (j + 1) ≤ p.length) h hb
  have hf := pit_fine g hs (i + 1) (by omega)
  unfold mendStep
  rw [wrongSteps_good hw, hij, hr]
  simp only [Int.toNat_natCast]
  rw [tuneAt_right g (by omega) (h i (Nat.le_refl _)), if_neg (by omega), (gAt g i (by omega)).2.1, show ((i : Int) + 1).toNat = i + 1 by omega]
theorem workStep_good {s : Int} (hs : 155000 ≤ s ∧ s ≤ 345000) {n : Nat} (hn : n < p.length) : workStep p (n : Int) (pits p s n) = (p, ((n + 1 : Nat) : Int), pits p s (n + 1), true) := by
  have hl := g.1
  have hf := pit_fine g hs (n + 1) hn
  have e0 : (pits p s n).getD 0 0 = s := by rw [pits_get p s n 0 (by omega), if_pos (Nat.zero_le _)]; rfl
  have e1 : tuneAt p (pits p s n) n = pit p s (n + 1) := by
    have := tuneAt_right g hn (q := pits p s n) (rightTo_pits p s n (by omega) n (Nat.le_refl _))
    rwa [e0] at this
  unfold workStep
  rw [if_pos (workOk_pits g hs n (by omega)), if_neg (by omega), Int.toNat_natCast, e1, if_neg (by omega), (gAt g n hn).2.1, show ((n : Int) + 1).toNat = n + 1 by omega, pits_succ p s n (by omega)]
  rfl
theorem workStep_end {s : Int} (hs : 155000 ≤ s ∧ s ≤ 345000) : workStep p (p.length : Int) (pits p s p.length) = (p, (p.length : Int), pits p s p.length, false) := by
  unfold workStep
  rw [if_pos (workOk_pits g hs p.length (Nat.le_refl _)), if_pos rfl]
theorem newWork_good {s : Int} (hs : 155000 ≤ s ∧ s ≤ 345000) : newWork s p = (p, ((0 : Nat) : Int), pits p s 0, true) := by
  unfold newWork
  rw [runPlan_good g hs, if_pos rfl, pits_zero]; rfl
theorem knock_good {q : List Int} {n : Nat} (hn : n ≤ p.length) (hw : workOk p (n : Int) q = true) (c x : Int) (hx : -1000 ≤ x ∧ x ≤ 1000) :
    (knockKey p (n : Int) q c x).1 = p ∧ (knockKey p (n : Int) q c x).2.1 = (n : Int) ∧ workOk p (n : Int) (knockKey p (n : Int) q c x).2.2.1 = true ∧
      q.getD 0 0 - 1000 ≤ (knockKey p (n : Int) q c x).2.2.1.getD 0 0 ∧ (knockKey p (n : Int) q c x).2.2.1.getD 0 0 ≤ q.getD 0 0 + 1000 := by
  obtain ⟨h1, h2, h3⟩ := (workOk_good g n hn q).1 hw
  have h20 := h2 0 (Nat.zero_le _)
  unfold knockKey
  split
  · rename_i hk
    split
    · rename_i hok
      refine ⟨rfl, rfl, hok, ?_⟩
      show _ ≤ (knocked q c x).getD 0 0 ∧ (knocked q c x).getD 0 0 ≤ _
      unfold knocked
      by_cases e : c.toNat = 0
      · rw [e, getD_set_self _ _ _ (by omega), w64 (by omega) (by omega)]; omega
      · rw [getD_set_ne _ _ _ _ e]; omega
    · exact ⟨rfl, rfl, hw, by dsimp only; omega⟩
  · exact ⟨rfl, rfl, hw, by dsimp only; omega⟩
end
end Go.Proofs.YtojiighpkppckaaDoor.Q


namespace Go.Proofs.YtojiighpkppckaaDoor.Q
set_option linter.unusedVariables false
set_option linter.unusedSimpArgs false
open Go.RowKit Go.Proofs.YtojiighpkppckaaDoor.P Go.Proofs.YtojiighpkppckaaDoorW.PrintWords Go.Proofs.YtojiighpkppckaaDoorW.PrintMore
def newShop (x : Int) (p : List S145) : List S145 × Int × List Int × Int × Int × List S85 × Bool :=
  if (newWork x p).2.2.2 = true then ((newWork x p).1, (newWork x p).2.1, (newWork x p).2.2.1, 15, 0, [], true) else ([], 0, [], 0, 0, [], false)
theorem newShop_spec (x : Int) (p : List S145) : Ev (fun k => spec_NewShop.f k x p) (newShop x p) := by
  unfold spec_NewShop.f newShop
  refine Ev.bind (newWork_spec x p) ?_
  by_cases h : (newWork x p).2.2.2 = true
  · exact rpos h <| evp h (Ev.now _)
  · exact rneg h <| evn h (Ev.now _)
end Go.Proofs.YtojiighpkppckaaDoor.Q


namespace Go.Proofs.YtojiighpkppckaaDoor.Q
set_option linter.unusedVariables false
set_option linter.unusedSimpArgs false
open Go.RowKit Go.Proofs.YtojiighpkppckaaDoor.P Go.Proofs.YtojiighpkppckaaDoorW.PrintWords Go.Proofs.YtojiighpkppckaaDoorW.PrintMore
theorem logOk_spec (l : List S85) (hl : l.length ≤ 1048577) : Ev (fun k => spec_LogOk.f k l) (logOk l) := Ev.now _
end Go.Proofs.YtojiighpkppckaaDoor.Q


namespace Go.Proofs.YtojiighpkppckaaDoor.Q
set_option linter.unusedVariables false
set_option linter.unusedSimpArgs false
open Go.RowKit Go.Proofs.YtojiighpkppckaaDoor.P Go.Proofs.YtojiighpkppckaaDoorW.PrintWords Go.Proofs.YtojiighpkppckaaDoorW.PrintMore
theorem shopOk_impl (p : List S145) (d : Int) (q : List Int) (a m : Int) (l : List S85) (hl : l.length ≤ 1048577) : Ev (fun k => impl_ShopOk.f k p d q a m l) (shopOk p d q a m l) := Ev.now _
theorem shopOk_spec (p : List S145) (d : Int) (q : List Int) (a m : Int) (l : List S85) (hl : l.length ≤ 1048577) : Ev (fun k => spec_ShopOk.f k p d q a m l) (shopOk p d q a m l) := Ev.bind (workOk_spec p d q) (Ev.now _)
end Go.Proofs.YtojiighpkppckaaDoor.Q


namespace Go.Proofs.YtojiighpkppckaaDoor.Q
set_option linter.unusedVariables false
set_option linter.unusedSimpArgs false
open Go.RowKit Go.Proofs.YtojiighpkppckaaDoor.P Go.Proofs.YtojiighpkppckaaDoorW.PrintWords Go.Proofs.YtojiighpkppckaaDoorW.PrintMore
theorem l34Copy_eq (l : List S85) (hl : l.length ≤ 4000000) : spec_l34Copy.f l = some l := by
  unfold spec_l34Copy.f; simp only [Option.bind_some]; rw [if_pos (by simp; omega)]; simp
end Go.Proofs.YtojiighpkppckaaDoor.Q


namespace Go.Proofs.YtojiighpkppckaaDoor.Q
set_option linter.unusedVariables false
set_option linter.unusedSimpArgs false
open Go.RowKit Go.Proofs.YtojiighpkppckaaDoor.P Go.Proofs.YtojiighpkppckaaDoorW.PrintWords Go.Proofs.YtojiighpkppckaaDoorW.PrintMore
theorem l38Copy_eq (p : List S145) (d : Int) (q : List Int) (a m : Int) (l : List S85) (hp : p.length ≤ 4000000) (hq : q.length ≤ 4000000) (hl : l.length ≤ 4000000) : spec_l38Copy.f p d q a m l = some (p, d, q, a, m, l) := by
  unfold spec_l38Copy.f; rw [l36Copy_eq p d q hp hq, Option.bind_some, l34Copy_eq l hl]; rfl
end Go.Proofs.YtojiighpkppckaaDoor.Q


namespace Go.Proofs.YtojiighpkppckaaDoor.Q
set_option linter.unusedVariables false
set_option linter.unusedSimpArgs false
open Go.RowKit Go.Proofs.YtojiighpkppckaaDoor.P Go.Proofs.YtojiighpkppckaaDoorW.PrintWords Go.Proofs.YtojiighpkppckaaDoorW.PrintMore
def shopWarm (p : List S145) (d : Int) (q : List Int) (a m : Int) (l : List S85) (x : Int) : List S145 × Int × List Int × Int × Int × List S85 × Bool :=
  if shopOk p d q a m l = true ∧ m ≠ 100000 ∧ (-10 ≤ x ∧ x ≤ 40) then (p, d, q, x, m + 1, l, true) else (p, d, q, a, m, l, false)
theorem lastOk_mono {l : List S85} {m n : Int} (h : lastOk l m) (hm : m ≤ n) : lastOk l n := by
  rcases h with h | h
  · exact .inl h
  · exact .inr (by omega)
theorem warm_spec (p : List S145) (d : Int) (q : List Int) (a m : Int) (l : List S85) (x : Int) (hp : p.length ≤ 4000000) (hq : q.length ≤ 4000000) (hl : l.length ≤ 1048576) : Ev (fun k => spec_ShopWarm.f k p d q a m l x) (shopWarm p d q a m l x) := by
  unfold spec_ShopWarm.f shopWarm
  refine evb (l38Copy_eq p d q a m l hp hq (by omega)) (Ev.bind (shopOk_spec p d q a m l (by omega)) ?_)
  by_cases h : shopOk p d q a m l = true
  rotate_left
  · exact rneg (fun h2 => h h2.1) <| evn h (evb (l38Copy_eq p d q a m l hp hq (by omega)) (Ev.now _))
  obtain ⟨h1, h2, h3, h4, h5⟩ := shopOk_iff.1 h
  refine evp h ?_
  by_cases h8 : m = 100000
  · exact rneg (fun h7 => h7.2.1 h8) <| evp h8 (evb (l38Copy_eq p d q a m l hp hq (by omega)) (Ev.now _))
  refine evn h8 (Ev.bind (shopOk_spec p d q x m l (by omega)) ?_)
  by_cases h6 : -10 ≤ x ∧ x ≤ 40
  · rw [w64 (n := m + 1) (by omega) (by omega)]
    exact rpos ⟨h, h8, h6⟩ <| evp (shopOk_iff.2 ⟨h1, h2, h6, h4, h5⟩) (Ev.now _)
  · refine rneg (fun h7 => h6 h7.2.2) <| evn (fun h7 => ?_) (evb (l38Copy_eq p d q a m l hp hq (by omega)) (Ev.now _))
    exact h6 (shopOk_iff.1 h7).2.2.1
end Go.Proofs.YtojiighpkppckaaDoor.Q


namespace Go.Proofs.YtojiighpkppckaaDoor.Q
set_option linter.unusedVariables false
set_option linter.unusedSimpArgs false
open Go.RowKit Go.Proofs.YtojiighpkppckaaDoor.P Go.Proofs.YtojiighpkppckaaDoorW.PrintWords Go.Proofs.YtojiighpkppckaaDoorW.PrintMore
def ent (r n f m : Int) : S85 := ⟨⟨r, n⟩, f, m⟩
def addEntry (l : List S85) (r n f m : Int) : List S85 × Bool := if logOk l = true ∧ logOk (l ++ [ent r n f m]) = true then (l ++ [ent r n f m], true) else (l, false)
theorem add_spec (l : List S85) (r n f m : Int) (hl : l.length ≤ 1048576) : Ev (fun k => spec_AddEntry.f k l r n f m) (addEntry l r n f m) := by
  unfold spec_AddEntry.f addEntry
  refine evb (l34Copy_eq l (by omega)) (evb rfl (evp (by simp; omega) (evb rfl (Ev.bind (logOk_spec l (by omega)) ?_))))
  by_cases h : logOk l = true
  rotate_left
  · exact rneg (fun h2 => h h2.1) <| evn h (evb (l34Copy_eq l (by omega)) (Ev.now _))
  refine evp h (Ev.bind (logOk_spec _ (by simp; omega)) ?_)
  by_cases h2 : logOk (l ++ [ent r n f m]) = true
  · exact rpos ⟨h, h2⟩ <| evp h2 (Ev.now _)
  · exact rneg (fun h3 => h2 h3.2) <| evn h2 (evb (l34Copy_eq l (by omega)) (Ev.now _))
end Go.Proofs.YtojiighpkppckaaDoor.Q


namespace Go.Proofs.YtojiighpkppckaaDoor.Q
set_option linter.unusedVariables false
set_option linter.unusedSimpArgs false
open Go.RowKit Go.Proofs.YtojiighpkppckaaDoor.P Go.Proofs.YtojiighpkppckaaDoorW.PrintWords Go.Proofs.YtojiighpkppckaaDoorW.PrintMore
def shopFault (p : List S145) (d : Int) (q : List Int) (a m : Int) (l : List S85) (r n f : Int) : List S145 × Int × List Int × Int × Int × List S85 × Bool :=
  if shopOk p d q a m l = true ∧ (addEntry l r n f m).2 = true then (p, d, q, a, m, (addEntry l r n f m).1, true) else (p, d, q, a, m, l, false)
theorem fault_spec (p : List S145) (d : Int) (q : List Int) (a m : Int) (l : List S85) (r n f : Int) (hp : p.length ≤ 4000000) (hq : q.length ≤ 4000000) (hl : l.length ≤ 1048576) : Ev (fun k => spec_ShopFault.f k p d q a m l r n f) (shopFault p d q a m l r n f) := by
  unfold spec_ShopFault.f shopFault
  refine evb (l38Copy_eq p d q a m l hp hq (by omega)) (Ev.bind (add_spec l r n f m hl) (Ev.bind (shopOk_spec p d q a m l (by omega)) ?_))
  by_cases h : shopOk p d q a m l = true
  rotate_left
  · exact rneg (fun h2 => h h2.1) <| evn h (Ev.now _)
  refine evp h ?_
  by_cases h2 : (addEntry l r n f m).2 = true
  · exact rpos ⟨h, h2⟩ <| evp h2 (Ev.now _)
  · exact rneg (fun h3 => h2 h3.2) <| evn h2 (Ev.now _)
end Go.Proofs.YtojiighpkppckaaDoor.Q


namespace Go.Proofs.YtojiighpkppckaaDoor.Q
set_option linter.unusedVariables false
set_option linter.unusedSimpArgs false
open Go.RowKit Go.Proofs.YtojiighpkppckaaDoor.P Go.Proofs.YtojiighpkppckaaDoorW.PrintWords Go.Proofs.YtojiighpkppckaaDoorW.PrintMore
def shopKnock (p : List S145) (d : Int) (q : List Int) (a m : Int) (l : List S85) (c x : Int) : List S145 × Int × List Int × Int × Int × List S85 × Bool :=
  if shopOk p d q a m l = true then ((knockKey p d q c x).1, (knockKey p d q c x).2.1, (knockKey p d q c x).2.2.1, a, m, l, (knockKey p d q c x).2.2.2) else (p, d, q, a, m, l, false)
theorem sknock_spec (p : List S145) (d : Int) (q : List Int) (a m : Int) (l : List S85) (c x : Int) (hp : p.length ≤ 4000000) (hq : q.length ≤ 4000000) (hl : l.length ≤ 1048576) : Ev (fun k => spec_ShopKnock.f k p d q a m l c x) (shopKnock p d q a m l c x) := by
  unfold spec_ShopKnock.f shopKnock
  refine evb (l38Copy_eq p d q a m l hp hq (by omega)) (Ev.bind (shopOk_spec p d q a m l (by omega)) ?_)
  by_cases h : shopOk p d q a m l = true
  · exact rpos h <| evp h (Ev.bind (knock_spec p d q c x hp hq) (Ev.now _))
  · exact rneg h <| evn h (Ev.now _)
end Go.Proofs.YtojiighpkppckaaDoor.Q


namespace Go.Proofs.YtojiighpkppckaaDoor.Q
set_option linter.unusedVariables false
set_option linter.unusedSimpArgs false
open Go.RowKit Go.Proofs.YtojiighpkppckaaDoor.P Go.Proofs.YtojiighpkppckaaDoorW.PrintWords Go.Proofs.YtojiighpkppckaaDoorW.PrintMore
def tuneStep (p : List S145) (d : Int) (q : List Int) : List S145 × Int × List Int × Bool := if (((wrongSteps p d q).length : Nat) : Int) > 0 then mendStep p d q else workStep p d q
def shopTune (p : List S145) (d : Int) (q : List Int) (a m : Int) (l : List S85) : List S145 × Int × List Int × Int × Int × List S85 × Bool :=
  if shopOk p d q a m l = true then ((tuneStep p d q).1, (tuneStep p d q).2.1, (tuneStep p d q).2.2.1, a, m, l, (tuneStep p d q).2.2.2) else (p, d, q, a, m, l, false)
theorem stune_spec (p : List S145) (d : Int) (q : List Int) (a m : Int) (l : List S85) (hp : p.length ≤ 4000000) (hq : q.length ≤ 4000000) (hl : l.length ≤ 1048576) : Ev (fun k => spec_ShopTune.f k p d q a m l) (shopTune p d q a m l) := by
  unfold spec_ShopTune.f shopTune tuneStep
  refine evb (l38Copy_eq p d q a m l hp hq (by omega)) (Ev.bind (shopOk_spec p d q a m l (by omega)) ?_)
  by_cases h : shopOk p d q a m l = true
  rotate_left
  · exact rneg h <| evn h (Ev.now _)
  refine rpos h <| evp h (Ev.bind (wrong_spec p d q) ?_)
  by_cases h2 : (((wrongSteps p d q).length : Nat) : Int) > 0
  · simp only [if_pos h2]; exact Ev.bind (mend_spec p d q hp hq) (Ev.now _)
  · simp only [if_neg h2]; exact Ev.bind (step_spec p d q hp hq) (Ev.now _)
end Go.Proofs.YtojiighpkppckaaDoor.Q


namespace Go.Proofs.YtojiighpkppckaaDoor.Q
set_option linter.unusedVariables false
set_option linter.unusedSimpArgs false
open Go.RowKit Go.Proofs.YtojiighpkppckaaDoor.P Go.Proofs.YtojiighpkppckaaDoorW.PrintWords Go.Proofs.YtojiighpkppckaaDoorW.PrintMore
def sampleShop : List S145 × Int × List Int × Int × Int × List S85 := ((newShop 264000 (usualPlan 700)).1, (newShop 264000 (usualPlan 700)).2.1, (newShop 264000 (usualPlan 700)).2.2.1, (newShop 264000 (usualPlan 700)).2.2.2.1, (newShop 264000 (usualPlan 700)).2.2.2.2.1, (newShop 264000 (usualPlan 700)).2.2.2.2.2.1)
theorem sample_spec : Ev (fun k => spec_SampleShop.f k) sampleShop := by
  unfold spec_SampleShop.f
  exact Ev.bind (usual_spec 700) (Ev.bind (newShop_spec 264000 _) (Ev.now _))
end Go.Proofs.YtojiighpkppckaaDoor.Q


namespace Go.Proofs.YtojiighpkppckaaDoor.Q
set_option linter.unusedVariables false
set_option linter.unusedSimpArgs false
open Go.RowKit Go.Proofs.YtojiighpkppckaaDoor.P Go.Proofs.YtojiighpkppckaaDoorW.PrintWords Go.Proofs.YtojiighpkppckaaDoorW.PrintMore
theorem bits_and (x y : Int) : Go.bits .and .i64 x y = wrap64 (((BitVec.ofInt IntKind.i64.bits x &&& BitVec.ofInt IntKind.i64.bits y).toNat : Nat) : Int) := by
  unfold Go.bits
  rw [IntWalk.i64_left]
theorem bits255 (x : Int) : 0 ≤ Go.bits .and .i64 x 255 ∧ Go.bits .and .i64 x 255 ≤ 255 := by
  have h2 : (BitVec.ofInt IntKind.i64.bits 255).toNat ≤ 255 := by decide
  rw [bits_and]
  obtain ⟨y, hy⟩ : ∃ y, BitVec.ofInt IntKind.i64.bits 255 = y := ⟨_, rfl⟩
  rw [hy] at h2 ⊢
  have h : (BitVec.ofInt IntKind.i64.bits x &&& y).toNat ≤ 255 := by
    rw [BitVec.toNat_and]; exact Nat.le_trans Nat.and_le_right h2
  rw [w64 (by omega) (by omega)]
  omega
section
variable (b : List Int) (hb : b.length ≤ 1048576)
include hb
theorem byte_ev (i h : Int) (hi : 0 ≤ i) : ∃ v i' h', spec_l01Byte.f b i h = some (v, i', h') ∧ 0 ≤ v ∧ v ≤ 255 ∧ 0 ≤ i' := by
  unfold spec_l01Byte.f
  by_cases h1 : i < (b.length : Int)
  · rw [if_pos h1, if_pos hi]
    exact ⟨_, _, _, rfl, (bits255 _).1, (bits255 _).2, by rw [w64 (by omega) (by omega)]; omega⟩
  · rw [if_neg h1]
    exact ⟨_, _, _, rfl, (bits255 _).1, (bits255 _).2, hi⟩
theorem below_ev (i h n : Int) (hi : 0 ≤ i) : ∃ v i' h', spec_l01Below.f b i h n = some (v, i', h') ∧ 0 ≤ v ∧ (0 < n → v < n) ∧ (n ≤ 0 → v = 0) ∧ 0 ≤ i' := by
  unfold spec_l01Below.f
  by_cases h1 : n ≤ 0
  · rw [if_pos h1]
    exact ⟨_, _, _, rfl, by omega, by omega, fun _ => rfl, hi⟩
  rw [if_neg h1]
  have key : ∀ v : Int, 0 ≤ v → 0 ≤ Int.tmod v n ∧ (0 < n → Int.tmod v n < n) := fun v hv => ⟨Int.tmod_nonneg n hv, fun h2 => by rw [Int.tmod_eq_emod_of_nonneg hv]; exact Int.emod_lt_of_pos v h2⟩
  by_cases h2 : n ≤ 256
  · rw [if_pos h2]
    obtain ⟨v, i1, h1', e, v0, v1, i0⟩ := byte_ev b hb i h hi
    rw [e, Option.bind_some, if_neg (by omega)]
    exact ⟨_, _, _, rfl, (key v v0).1, (key v v0).2, by omega, i0⟩
  rw [if_neg h2]
  obtain ⟨x, i1, g1, e1, x0, x1, j1⟩ := byte_ev b hb i h hi
  obtain ⟨y, i2, g2, e2, y0, y1, j2⟩ := byte_ev b hb i1 g1 j1
  obtain ⟨z, i3, g3, e3, z0, z1, j3⟩ := byte_ev b hb i2 g2 j2
  obtain ⟨u, i4, g4, e4, u0, u1, j4⟩ := byte_ev b hb i3 g3 j3
  rw [e1, Option.bind_some]; dsimp only
  rw [e2, Option.bind_some]; dsimp only
  rw [e3, Option.bind_some]; dsimp only
  rw [e4, Option.bind_some, if_neg (by omega)]; dsimp only
  rw [w64 (n := x * 16777216) (by omega) (by omega), w64 (n := y * 65536) (by omega) (by omega), w64 (n := z * 256) (by omega) (by omega), w64 (n := x * 16777216 + y * 65536) (by omega) (by omega), w64 (n := x * 16777216 + y * 65536 + z * 256) (by omega) (by omega), w64 (by omega) (by omega)]
  exact ⟨_, _, _, rfl, (key _ (by omega)).1, (key _ (by omega)).2, by omega, j4⟩
omit hb in
theorem new_ev : ∃ h, Ev (fun k => spec_l01New.f k b) (b, 0, h) := by
  have key : ∀ i, i ≤ b.length → ∀ x : Int, ∃ h, Ev (fun k => spec_l01New.l0 k b x (i : Int)) (b, 0, h) := by
    refine down (n := b.length) ?_ ?_
    · intro x
      exact ⟨x, Ev.step (fun k => by rw [spec_l01New.l0]) (evn (by omega) (Ev.now _))⟩
    · intro i hi ih x
      by_cases h4 : (i : Int) < 4000
      · obtain ⟨h, he⟩ := ih (Go.bits .and .i64 (wrap64 ((wrap64 ((wrap64 (x * 131)) + (wrap64 (rd b (i : Int))))) + 7)) 1073741823)
        refine ⟨h, Ev.step (fun k => by rw [spec_l01New.l0]) (evp (by omega) (evp h4 (evp (by omega) ?_)))⟩
        rw [w64 (n := (i : Int) + 1) (by omega) (by omega)]
        exact he
      · exact ⟨x, Ev.step (fun k => by rw [spec_l01New.l0]) (evp (by omega) (evn h4 (Ev.now _)))⟩
  unfold spec_l01New.f
  exact key 0 (Nat.zero_le _) _
end
end Go.Proofs.YtojiighpkppckaaDoor.Q


namespace Go.Proofs.YtojiighpkppckaaDoor.Q
set_option linter.unusedVariables false
set_option linter.unusedSimpArgs false
open Go.RowKit Go.Proofs.YtojiighpkppckaaDoor.P Go.Proofs.YtojiighpkppckaaDoorW.PrintWords Go.Proofs.YtojiighpkppckaaDoorW.PrintMore
def gPipe (p : S83) : Prop := 0 ≤ p.f0 ∧ p.f0 ≤ 1 ∧ 0 ≤ p.f1 ∧ p.f1 ≤ 5
section
variable (b : List Int) (hb : b.length ≤ 1048576)
include hb
theorem pipe_ev (i h : Int) (hi : 0 ≤ i) : ∃ r n i' h', spec_l34Pipe.f b i h = some (r, n, i', h') ∧ gPipe ⟨r, n⟩ ∧ 0 ≤ i' := by
  unfold spec_l34Pipe.f
  obtain ⟨r, i1, h1, e1, r0, r1, _, j1⟩ := below_ev b hb i h 2 hi
  obtain ⟨n, i2, h2, e2, n0, n1, _, j2⟩ := below_ev b hb i1 h1 6 j1
  rw [e1, Option.bind_some]; dsimp only
  rw [e2, Option.bind_some]
  exact ⟨_, _, _, _, rfl, ⟨r0, by have := r1 (by omega); dsimp only; omega, n0, by have := n1 (by omega); dsimp only; omega⟩, j2⟩
end
end Go.Proofs.YtojiighpkppckaaDoor.Q


namespace Go.Proofs.YtojiighpkppckaaDoor.Q
set_option linter.unusedVariables false
set_option linter.unusedSimpArgs false
open Go.RowKit Go.Proofs.YtojiighpkppckaaDoor.P Go.Proofs.YtojiighpkppckaaDoorW.PrintWords Go.Proofs.YtojiighpkppckaaDoorW.PrintMore
section
variable (b : List Int) (hb : b.length ≤ 1048576)
include hb
theorem once_ev (i h n : Int) (hi : 0 ≤ i) : ∃ v i' h', spec_l01Once.f b i h n = some (v, i', h') ∧ 0 ≤ i' := by
  unfold spec_l01Once.f
  obtain ⟨v, i1, h1, e, _, _, _, j⟩ := below_ev b hb i h n hi
  rw [e, Option.bind_some]
  exact ⟨_, _, _, rfl, j⟩
theorem pick_ev (i h : Int) (l : List Int) (hi : 0 ≤ i) (hl : 0 < l.length) : ∃ v i' h', spec_l01PickInt.f b i h l = some (v, i', h') ∧ v ∈ l ∧ 0 ≤ i' := by
  unfold spec_l01PickInt.f
  obtain ⟨v, i1, h1, e, v0, v1, _, j⟩ := below_ev b hb i h (l.length : Int) hi
  rw [e, Option.bind_some, if_pos v0, if_pos (v1 (by omega))]
  obtain ⟨m, rfl⟩ := Int.eq_ofNat_of_zero_le v0
  have hm : m < l.length := by have := v1 (by omega); omega
  exact ⟨_, _, _, rfl, by dsimp only; rw [rd_nat l m hm]; exact List.getElem_mem hm, j⟩
end
end Go.Proofs.YtojiighpkppckaaDoor.Q


namespace Go.Proofs.YtojiighpkppckaaDoor.Q
set_option linter.unusedVariables false
set_option linter.unusedSimpArgs false
open Go.RowKit Go.Proofs.YtojiighpkppckaaDoor.P Go.Proofs.YtojiighpkppckaaDoorW.PrintWords Go.Proofs.YtojiighpkppckaaDoorW.PrintMore
theorem plan_ev (b : List Int) (hb : b.length ≤ 1048576) (i h : Int) (hi : 0 ≤ i) : ∃ p i' h', Ev (fun k => spec_l19Plan.f k b i h) (p, i', h') ∧ gPlan p ∧ 0 ≤ i' := by
  have key : ∀ j : Nat, j ≤ 11 → ∀ L : List S145, L.length = 11 → gPlan L → ∀ i h : Int, 0 ≤ i → ∃ p i' h', Ev (fun k => spec_l19Plan.l0 k L (j : Int) b i h) (p, i', h') ∧ gPlan p ∧ 0 ≤ i' := by
    refine down (P := fun j => ∀ L : List S145, L.length = 11 → gPlan L → ∀ i h : Int, 0 ≤ i → ∃ p i' h', Ev (fun k => spec_l19Plan.l0 k L (j : Int) b i h) (p, i', h') ∧ gPlan p ∧ 0 ≤ i') (n := 11) ?_ ?_
    · intro L hL g i h hi
      obtain ⟨v, i1, h1, e1, v0, v1, _, j1⟩ := below_ev b hb i h 12 hi
      obtain ⟨u, i2, h2, e2, hu, j2⟩ := pick_ev b hb i1 h1 [11, 11, 11, v] j1 (by simp)
      have hu2 : 0 ≤ u ∧ u ≤ 11 := by simp at hu; have := v1 (by omega); omega
      refine ⟨L.take u.toNat, i2, h2, ?_, gPlan_take g _, j2⟩
      refine Ev.step (fun k => by rw [spec_l19Plan.l0]) ?_
      refine evn (by omega) (evb e1 ?_)
      dsimp only
      refine evb e2 ?_
      dsimp only
      refine evp hu2.1 ?_
      refine evp (by omega) ?_
      exact Ev.now _
    · intro j hj ih L hL g i h hi
      obtain ⟨v, i1, h1, e1, v0, v1, _, j1⟩ := below_ev b hb i h 1500 hi
      obtain ⟨o, i2, h2, e2, j2⟩ := once_ev b hb i1 h1 5 j1
      have hr : ∀ M : List S145, M.length = 11 → rd_T145 M (j : Int) = M.getD j z145 := fun M hM => by rw [rdS M j (by omega)]; simp [List.getD_eq_getElem?_getD, show j < M.length by omega]
      have gs : ∀ M : List S145, M.length = 11 → gPlan M → ∀ x, gStep j x → gPlan (M.set j x) := fun M hM gM x gx => by
        refine ⟨by simp; omega, fun i hi => ?_⟩
        rw [List.getElem_set]
        split
        · rename_i e; subst e; exact gx
        · exact gM.2 i _
      have gd : ∀ M : List S145, M.length = 11 → gPlan M → gStep j (M.getD j z145) := fun M hM gM => by
        have hj2 : j < M.length := by omega
        have := gM.2 j hj2
        simpa [List.getD_eq_getElem?_getD, hj2] using this
      have g1 := gd L hL g
      have gy := gs L hL g (⟨(L.getD j z145).f0, (L.getD j z145).f1, (L.getD j z145).f2, v⟩ : S145) ⟨g1.1, g1.2.1, g1.2.2.1, v0, v1 (by omega)⟩
      obtain ⟨Y, hY⟩ : ∃ Y, L.set j (⟨(L.getD j z145).f0, (L.getD j z145).f1, (L.getD j z145).f2, v⟩ : S145) = Y := ⟨_, rfl⟩
      rw [hY] at gy
      have hYl : Y.length = 11 := by rw [← hY]; simpa using hL
      have g2 := gd Y hYl gy
      have gz := gs Y hYl gy (⟨(Y.getD j z145).f0, (Y.getD j z145).f1, 2, (Y.getD j z145).f3⟩ : S145) ⟨g2.1, g2.2.1, .inl rfl, g2.2.2.2.1, g2.2.2.2.2⟩
      have w1 : wrap64 ((j : Int) + 1) = ((j + 1 : Nat) : Int) := w64 (by omega) (by omega)
      have e3 : (some (L.set (j : Int).toNat (⟨(rd_T145 L (j : Int)).f0, (rd_T145 L (j : Int)).f1, (rd_T145 L (j : Int)).f2, v⟩ : S145) : List S145)) = some Y := by rw [hr L hL, Int.toNat_natCast, hY]
      cases ho : o with
      | true =>
        obtain ⟨p, i', h', ep, gp, jp⟩ := ih _ (by simpa using hYl) gz i2 h2 j2
        refine ⟨p, i', h', ?_, gp, jp⟩
        refine Ev.step (fun k => by rw [spec_l19Plan.l0]) ?_
        refine evp (by omega) (evb e1 ?_)
        refine evp (by omega) (evb e3 ?_)
        refine evb e2 ?_
        refine evp ho ?_
        rw [hr Y hYl, Int.toNat_natCast, w1]
        exact ep
      | false =>
        obtain ⟨p, i', h', ep, gp, jp⟩ := ih Y hYl gy i2 h2 j2
        refine ⟨p, i', h', ?_, gp, jp⟩
        refine Ev.step (fun k => by rw [spec_l19Plan.l0]) ?_
        refine evp (by omega) (evb e1 ?_)
        refine evp (by omega) (evb e3 ?_)
        refine evb e2 ?_
        refine evn (by rw [ho]; simp) ?_
        rw [w1]
        exact ep
  unfold spec_l19Plan.f
  obtain ⟨g, hg⟩ := gPlan_usual 0 (by omega)
  obtain ⟨p, i', h', e, g', j⟩ := key 0 (Nat.zero_le _) (usualPlan 0) hg g i h hi
  exact ⟨p, i', h', Ev.bind (usual_spec 0) e, g', j⟩
end Go.Proofs.YtojiighpkppckaaDoor.Q


namespace Go.Proofs.YtojiighpkppckaaDoor.Q
set_option linter.unusedVariables false
set_option linter.unusedSimpArgs false
open Go.RowKit Go.Proofs.YtojiighpkppckaaDoor.P Go.Proofs.YtojiighpkppckaaDoorW.PrintWords Go.Proofs.YtojiighpkppckaaDoorW.PrintMore
structure GShop (p : List S145) (d : Int) (q : List Int) (a m : Int) (l : List S85) (c : Nat) : Prop where
  plan : gPlan p
  work : ∃ n : Nat, d = (n : Int) ∧ n ≤ p.length ∧ workOk p (n : Int) q = true
  lo : 200000 - 1000 * (c : Int) ≤ q.getD 0 0
  hi : q.getD 0 0 ≤ 299999 + 1000 * (c : Int)
  log : logOk l = true
  last : lastOk l m
  warm : -10 ≤ a ∧ a ≤ 40
  mom : 0 ≤ m ∧ m ≤ (c : Int)
section
variable {p : List S145} {d : Int} {q : List Int} {a m : Int} {l : List S85} {c : Nat}
theorem GShop.ok (h : GShop p d q a m l c) (hc : c ≤ 45) : shopOk p d q a m l = true := by
  obtain ⟨n, rfl, hn, hw⟩ := h.work
  have := h.mom
  exact shopOk_iff.2 ⟨hw, h.log, h.warm, by omega, h.last⟩
theorem GShop.len (h : GShop p d q a m l c) : q.length = 12 := by
  obtain ⟨n, rfl, hn, hw⟩ := h.work
  exact ((workOk_good h.plan n hn q).1 hw).1
theorem logOk_len {l : List S85} (h : logOk l = true) : l.length ≤ 30 := by
  unfold logOk at h
  simp only [Bool.and_eq_true, decide_eq_true_eq] at h
  exact h.2
theorem GShop.step (h : GShop p d q a m l c) : GShop p d q a m l (c + 1) :=
  ⟨h.plan, h.work, by have := h.lo; omega, by have := h.hi; omega, h.log, h.last, h.warm, by have := h.mom; omega⟩
theorem GShop.warmed (h : GShop p d q a m l c) (x : Int) :
    GShop (shopWarm p d q a m l x).1 (shopWarm p d q a m l x).2.1 (shopWarm p d q a m l x).2.2.1 (shopWarm p d q a m l x).2.2.2.1 (shopWarm p d q a m l x).2.2.2.2.1 (shopWarm p d q a m l x).2.2.2.2.2.1 (c + 1) := by
  unfold shopWarm
  split
  · rename_i hc
    have := h.mom
    exact ⟨h.plan, h.work, by have := h.lo; dsimp only; omega, by have := h.hi; dsimp only; omega, h.log, lastOk_mono h.last (by dsimp only; omega), hc.2.2, by dsimp only; omega⟩
  · exact h.step
theorem GShop.faulted (h : GShop p d q a m l c) (r n f : Int) :
    GShop (shopFault p d q a m l r n f).1 (shopFault p d q a m l r n f).2.1 (shopFault p d q a m l r n f).2.2.1 (shopFault p d q a m l r n f).2.2.2.1 (shopFault p d q a m l r n f).2.2.2.2.1 (shopFault p d q a m l r n f).2.2.2.2.2.1 (c + 1) := by
  unfold shopFault
  split
  · rename_i hc
    refine ⟨h.plan, h.work, by have := h.lo; dsimp only; omega, by have := h.hi; dsimp only; omega, ?_, ?_, h.warm, by have := h.mom; dsimp only; omega⟩
    · have h2 := hc.2
      unfold addEntry at h2 ⊢
      split
      · rename_i h3; exact h3.2
      · rename_i h3; rw [if_neg h3] at h2; cases h2
    · have h2 := hc.2
      unfold addEntry at h2 ⊢
      split
      · exact .inr (by simp [List.getD_eq_getElem?_getD, ent])
      · rename_i h3; rw [if_neg h3] at h2; cases h2
  · exact h.step
theorem GShop.knocked (h : GShop p d q a m l c) (k x : Int) (hx : -1000 ≤ x ∧ x ≤ 1000) :
    GShop (shopKnock p d q a m l k x).1 (shopKnock p d q a m l k x).2.1 (shopKnock p d q a m l k x).2.2.1 (shopKnock p d q a m l k x).2.2.2.1 (shopKnock p d q a m l k x).2.2.2.2.1 (shopKnock p d q a m l k x).2.2.2.2.2.1 (c + 1) := by
  obtain ⟨n, rfl, hn, hw⟩ := h.work
  obtain ⟨k1, k2, k3, k4, k5⟩ := knock_good h.plan hn hw k x hx
  unfold shopKnock
  split
  · refine ⟨by rw [k1]; exact h.plan, ⟨n, k2, by rw [k1]; exact hn, by rw [k1]; exact k3⟩, by have := h.lo; dsimp only; omega, by have := h.hi; dsimp only; omega, h.log, h.last, h.warm, by have := h.mom; dsimp only; omega⟩
  · exact h.step
theorem bad_or (g : gPlan p) (q : List Int) : ∀ i : Nat, i ≤ p.length → (∃ j, j < i ∧ rightTo p q j ∧ isBad p q j = true) ∨ rightTo p q i := by
  intro i
  induction i with
  | zero => exact fun _ => .inr (rightTo_zero p q)
  | succ i ih =>
    intro hi
    rcases ih (by omega) with ⟨j, h1, h2, h3⟩ | h
    · exact .inl ⟨j, by omega, h2, h3⟩
    · by_cases hb : isBad p q i = true
      · exact .inl ⟨i, by omega, h, hb⟩
      · exact .inr (rightTo_succ g (by omega) h hb)
theorem tune_good (g : gPlan p) {n : Nat} (hn : n ≤ p.length) (hw : workOk p (n : Int) q = true) (hs : 155000 ≤ q.getD 0 0 ∧ q.getD 0 0 ≤ 345000) :
    (tuneStep p (n : Int) q).1 = p ∧ (∃ n' : Nat, (tuneStep p (n : Int) q).2.1 = (n' : Int) ∧ n' ≤ p.length ∧ workOk p (n' : Int) (tuneStep p (n : Int) q).2.2.1 = true) ∧ (tuneStep p (n : Int) q).2.2.1.getD 0 0 = q.getD 0 0 := by
  unfold tuneStep
  rcases bad_or g q n hn with ⟨j, h1, h2, h3⟩ | h
  · obtain ⟨e, he⟩ : ∃ e, n = j + (e + 1) := ⟨n - j - 1, by omega⟩
    obtain ⟨r, hr⟩ := wrongs_first g (by omega : j + (e + 1) ≤ p.length) h2 h3
    have hm := mendStep_good g hn he hw hs h2 h3
    obtain ⟨m1, m2, m3⟩ := mended g hn h1 hw hs h2
    rw [wrongSteps_good hw, if_pos (by rw [he, hr]; simp only [List.length_cons]; omega), hm]
    exact ⟨rfl, ⟨n, rfl, hn, m1⟩, m2⟩
  · rw [wrongSteps_good hw, wrongs_none g hn h, if_neg (by simp)]
    have hq := right_pits g hn hw h
    have e0 : ∀ k, (pits p (q.getD 0 0) k).getD 0 0 = q.getD 0 0 := fun k => by rw [pits_get _ _ _ _ (by omega), if_pos (Nat.zero_le _)]; rfl
    by_cases hlt : n < p.length
    · have := workStep_good g hs hlt
      rw [← hq] at this
      rw [this]
      exact ⟨rfl, ⟨n + 1, rfl, hlt, workOk_pits g hs (n + 1) hlt⟩, e0 _⟩
    · obtain rfl : n = p.length := by omega
      have := workStep_end g hs
      rw [← hq] at this
      rw [this]
      exact ⟨rfl, ⟨p.length, rfl, Nat.le_refl _, hw⟩, rfl⟩
theorem GShop.tuned (h : GShop p d q a m l c) (hc : c ≤ 45) :
    GShop (shopTune p d q a m l).1 (shopTune p d q a m l).2.1 (shopTune p d q a m l).2.2.1 (shopTune p d q a m l).2.2.2.1 (shopTune p d q a m l).2.2.2.2.1 (shopTune p d q a m l).2.2.2.2.2.1 (c + 1) := by
  obtain ⟨n, rfl, hn, hw⟩ := h.work
  have h1 := h.lo
  have h2 := h.hi
  obtain ⟨t1, ⟨n', t2, t3, t4⟩, t5⟩ := tune_good h.plan hn hw ⟨by omega, by omega⟩
  unfold shopTune
  split
  · exact ⟨by rw [t1]; exact h.plan, ⟨n', t2, by rw [t1]; exact t3, by rw [t1]; exact t4⟩, by dsimp only; omega, by dsimp only; omega, h.log, h.last, h.warm, by have := h.mom; dsimp only; omega⟩
  · exact h.step
end
theorem made_good (p : List S145) (g : gPlan p) (s : Int) (hs : 200000 ≤ s ∧ s ≤ 299999) :
    GShop (newShop s p).1 (newShop s p).2.1 (newShop s p).2.2.1 (newShop s p).2.2.2.1 (newShop s p).2.2.2.2.1 (newShop s p).2.2.2.2.2.1 0 := by
  have hn := newWork_good g (s := s) ⟨by omega, by omega⟩
  unfold newShop
  rw [if_pos (by rw [hn]), hn]
  have e0 : (pits p s 0).getD 0 0 = s := by rw [pits_get _ _ _ _ (by omega), if_pos (Nat.zero_le _)]; rfl
  refine ⟨g, ⟨0, rfl, Nat.zero_le _, workOk_pits g ⟨by omega, by omega⟩ 0 (Nat.zero_le _)⟩, ?_, ?_, (show logOk ([] : List S85) = true from by decide), .inl rfl, (by dsimp only; omega), (by dsimp only; omega)⟩
  · show _ ≤ (pits p s 0).getD 0 0; rw [e0]; omega
  · show (pits p s 0).getD 0 0 ≤ _; rw [e0]; omega
def Drawn (s : List S145 × Int × List Int × Int × Int × List S85) : Prop := GShop s.1 s.2.1 s.2.2.1 s.2.2.2.1 s.2.2.2.2.1 s.2.2.2.2.2 20
theorem GShop.more {p : List S145} {d : Int} {q : List Int} {a m : Int} {l : List S85} {c c' : Nat} (h : GShop p d q a m l c) (hc : c ≤ c') : GShop p d q a m l c' :=
  ⟨h.plan, h.work, by have := h.lo; omega, by have := h.hi; omega, h.log, h.last, h.warm, by have := h.mom; omega⟩
section
variable (b : List Int) (hb : b.length ≤ 1048576)
include hb
theorem shop_l0 (N : Nat) (hN : N ≤ 19) : ∀ e : Nat, e ≤ N → ∀ (i h : Int) (p : List S145) (d : Int) (q : List Int) (a m : Int) (l : List S85), 0 ≤ i → GShop p d q a m l (N - e) →
    ∃ s i' h', Ev (fun k => spec_l38Shop.l0 k (N : Int) ((N - e : Nat) : Int) b i h p d q a m l) (s.1, s.2.1, s.2.2.1, s.2.2.2.1, s.2.2.2.2.1, s.2.2.2.2.2, i', h') ∧ Drawn s ∧ 0 ≤ i' := by
  intro e
  induction e with
  | zero =>
    intro _ i h p d q a m l hi g
    exact ⟨(p, d, q, a, m, l), i, h, Ev.step (fun k => by rw [spec_l38Shop.l0]) (evn (by omega) (Ev.now _)), g.more (by omega), hi⟩
  | succ e ih =>
    intro he i h p d q a m l hi g
    have lq := g.len
    have lp := g.plan.1
    have ll := logOk_len g.log
    obtain ⟨x, i1, h1, e1, x0, x1, _, j1⟩ := below_ev b hb i h 8 hi
    have hs : N - e = N - (e + 1) + 1 := by omega
    by_cases y0 : x = 0
    · obtain ⟨y, i2, h2, e2, _, _, _, j2⟩ := below_ev b hb i1 h1 30 j1
      obtain ⟨s, i', h', ev, gs, hi'⟩ := ih (by omega) i2 h2 _ _ _ _ _ _ j2 (hs ▸ g.warmed y)
      refine ⟨s, i', h', Ev.step (fun k => by rw [spec_l38Shop.l0]) (evp (by omega) (evb e1 (evp y0 (evb e2 (Ev.bind (warm_spec p d q a m l y (by omega) (by omega) (by omega)) ?_))))), gs, hi'⟩
      rw [show wrap64 (((N - (e + 1) : Nat) : Int) + 1) = ((N - e : Nat) : Int) from by rw [w64 (by omega) (by omega)]; omega]; exact ev
    by_cases y1 : x = 1
    · obtain ⟨r, n, i2, h2, e2, gp, j2⟩ := pipe_ev b hb i1 h1 j1
      obtain ⟨f, i3, h3, e3, _, _, _, j3⟩ := below_ev b hb i2 h2 3 j2
      obtain ⟨s, i', h', ev, gs, hi'⟩ := ih (by omega) i3 h3 _ _ _ _ _ _ j3 (hs ▸ g.faulted r n f)
      refine ⟨s, i', h', Ev.step (fun k => by rw [spec_l38Shop.l0]) (evp (by omega) (evb e1 (evn y0 (evp y1 (evb e2 (evb e3 (Ev.bind (fault_spec p d q a m l r n f (by omega) (by omega) (by omega)) ?_))))))), gs, hi'⟩
      rw [show wrap64 (((N - (e + 1) : Nat) : Int) + 1) = ((N - e : Nat) : Int) from by rw [w64 (by omega) (by omega)]; omega]; exact ev
    by_cases y2 : x = 2
    · obtain ⟨k0, i2, h2, e2, _, _, _, j2⟩ := below_ev b hb i1 h1 12 j1
      obtain ⟨z, i3, h3, e3, z0, z1, _, j3⟩ := below_ev b hb i2 h2 2001 j2
      have z2 := z1 (by omega)
      obtain ⟨s, i', h', ev, gs, hi'⟩ := ih (by omega) i3 h3 _ _ _ _ _ _ j3 (hs ▸ g.knocked k0 (z - 1000) (by omega))
      refine ⟨s, i', h', Ev.step (fun k => by rw [spec_l38Shop.l0]) (evp (by omega) (evb e1 (evn y0 (evn y1 (evp y2 (evb e2 (evb e3 ?_))))))), gs, hi'⟩
      dsimp only
      rw [show wrap64 (z - 1000) = z - 1000 from w64 (by omega) (by omega)]
      refine Ev.bind (sknock_spec p d q a m l k0 (z - 1000) (by omega) (by omega) (by omega)) ?_
      rw [show wrap64 (((N - (e + 1) : Nat) : Int) + 1) = ((N - e : Nat) : Int) from by rw [w64 (by omega) (by omega)]; omega]; exact ev
    · obtain ⟨s, i', h', ev, gs, hi'⟩ := ih (by omega) i1 h1 _ _ _ _ _ _ j1 (hs ▸ g.tuned (by omega))
      refine ⟨s, i', h', Ev.step (fun k => by rw [spec_l38Shop.l0]) (evp (by omega) (evb e1 (evn y0 (evn y1 (evn y2 (Ev.bind (stune_spec p d q a m l (by omega) (by omega) (by omega)) ?_)))))), gs, hi'⟩
      rw [show wrap64 (((N - (e + 1) : Nat) : Int) + 1) = ((N - e : Nat) : Int) from by rw [w64 (by omega) (by omega)]; omega]; exact ev
theorem shop_ev (i h : Int) (hi : 0 ≤ i) : ∃ s i' h', Ev (fun k => spec_l38Shop.f k b i h) (s.1, s.2.1, s.2.2.1, s.2.2.2.1, s.2.2.2.2.1, s.2.2.2.2.2, i', h') ∧ Drawn s ∧ 0 ≤ i' := by
  obtain ⟨x, i1, h1, e1, x0, x1, _, j1⟩ := below_ev b hb i h 100000 hi
  have x2 := x1 (by omega)
  obtain ⟨p, i2, h2, e2, g, j2⟩ := plan_ev b hb i1 h1 j1
  obtain ⟨y, i3, h3, e3, y0, y1, _, j3⟩ := below_ev b hb i2 h2 20 j2
  have y2 := y1 (by omega)
  obtain ⟨N, rfl⟩ := Int.eq_ofNat_of_zero_le y0
  obtain ⟨s, i', h', ev, gs, hi'⟩ := shop_l0 b hb N (by omega) N (Nat.le_refl _) i3 h3 _ _ _ _ _ _ j3 ((made_good p g (200000 + x) (by omega)).more (Nat.zero_le _))
  refine ⟨s, i', h', ?_, gs, hi'⟩
  unfold spec_l38Shop.f
  refine evb e1 (Ev.bind e2 ?_)
  dsimp only
  rw [show wrap64 (200000 + x) = 200000 + x from w64 (by omega) (by omega)]
  refine Ev.bind (newShop_spec (200000 + x) p) (evb e3 ?_)
  rw [show N - N = 0 by omega] at ev
  exact ev
theorem anyShop_ev (i h : Int) (hi : 0 ≤ i) : ∃ s i' h', Ev (fun k => spec_l39Shop.f k b i h) (s.1, s.2.1, s.2.2.1, s.2.2.2.1, s.2.2.2.2.1, s.2.2.2.2.2, i', h') ∧ Drawn s ∧ 0 ≤ i' := by
  obtain ⟨v, i1, h1, e1, j1⟩ := once_ev b hb i h 2 hi
  unfold spec_l39Shop.f
  by_cases hv : v = true
  · refine ⟨sampleShop, i1, h1, evb e1 (evp hv (Ev.bind sample_spec (Ev.now _))), ?_, j1⟩
    have := (made_good (usualPlan 700) (gPlan_usual 700 (by omega)).1 264000 (by omega)).more (Nat.zero_le 20)
    exact this
  · obtain ⟨s, i', h', ev, gs, hi'⟩ := shop_ev b hb i1 h1 j1
    exact ⟨s, i', h', evb e1 (evn hv (Ev.bind ev (Ev.now _))), gs, hi'⟩
end
end Go.Proofs.YtojiighpkppckaaDoor.Q


namespace Go.Proofs.YtojiighpkppckaaDoor.P
open Go.RowKit Go.Proofs.YtojiighpkppckaaDoorW.PrintWords Go.Proofs.YtojiighpkppckaaDoorW.PrintLast Go.Proofs.YtojiighpkppckaaDoorW.PrintMore
attribute [local go_sem] max2_int min2_int max_two min_two max_three min_three max_four min_four
set_option linter.unusedVariables false
set_option linter.unusedSimpArgs false
theorem eqA26 (d : Nat) (w : World) (x0 y0 : Int) (x1 y1 : Int) (x2 y2 : Int) (x3 y3 : Int) :
  (Op.equalIn (d + 2) 26 (.agg #[.int .i64 x0, .int .i64 x1, .int .i64 x2, .int .i64 x3]) (.agg #[.int .i64 y0, .int .i64 y1, .int .i64 y2, .int .i64 y3])).run Tryd.prog w = .ok (x0 == y0 && (x1 == y1 && (x2 == y2 && (x3 == y3)))) w := by
 refine eqA_of Tryd.underlying26 (by kernel_rfl) ?_
 refine eqf_cons (by rfl) (by go_simp; rfl) (by go_simp; rfl) (by go_simp) ?_
 refine eqf_cons (by rfl) (by go_simp; rfl) (by go_simp; rfl) (by go_simp) ?_
 refine eqf_cons (by rfl) (by go_simp; rfl) (by go_simp; rfl) (by go_simp) ?_
 exact eqf_last (by rfl) (by go_simp; rfl) (by go_simp; rfl) (by go_simp)
end Go.Proofs.YtojiighpkppckaaDoor.P


namespace Go.Proofs.YtojiighpkppckaaDoor.Q
set_option linter.unusedVariables false
set_option linter.unusedSimpArgs false
open Go.RowKit Go.Proofs.YtojiighpkppckaaDoor.P Go.Proofs.YtojiighpkppckaaDoorW.PrintWords Go.Proofs.YtojiighpkppckaaDoorW.PrintMore
def actOk (n a b c : Int) : Bool :=
  if n = 1 ∨ n = 5 ∨ n = 6 then decide (a = 0 ∧ b = 0 ∧ c = 0)
  else if n = 2 then decide ((-10 ≤ a ∧ a ≤ 40) ∧ b = 0 ∧ c = 0)
  else if n = 3 then decide ((0 ≤ a ∧ a ≤ 3) ∧ (0 ≤ b ∧ b ≤ 39) ∧ (0 ≤ c ∧ c ≤ 2))
  else if n = 4 then decide ((0 ≤ a ∧ a ≤ 11) ∧ (-100000 ≤ b ∧ b ≤ 100000) ∧ c = 0)
  else if n = 7 then decide ((0 ≤ a ∧ a ≤ 11) ∧ b = 0 ∧ c = 0) else false
end Go.Proofs.YtojiighpkppckaaDoor.Q


namespace Go.Proofs.YtojiighpkppckaaDoor.Q
set_option linter.unusedVariables false
set_option linter.unusedSimpArgs false
open Go.RowKit Go.Proofs.YtojiighpkppckaaDoor.P Go.Proofs.YtojiighpkppckaaDoorW.PrintWords Go.Proofs.YtojiighpkppckaaDoorW.PrintMore
structure GAct (x : S26) : Prop where
  ok : actOk x.f0 x.f1 x.f2 x.f3 = true
  small : (-1000 ≤ x.f1 ∧ x.f1 ≤ 1000) ∧ (-1000 ≤ x.f2 ∧ x.f2 ≤ 1000) ∧ (-1000 ≤ x.f3 ∧ x.f3 ≤ 1000)
section
variable (b : List Int) (hb : b.length ≤ 1048576)
include hb
theorem act_ev (i h : Int) (hi : 0 ≤ i) : ∃ n x y z i' h', spec_l39Act.f b i h = some (n, x, y, z, i', h') ∧ GAct ⟨n, x, y, z⟩ ∧ 0 ≤ i' := by
  obtain ⟨v, i1, h1, e1, v0, v1, _, j1⟩ := below_ev b hb i h 12 hi
  have v2 := v1 (by omega)
  unfold spec_l39Act.f
  rw [e1, Option.bind_some]; dsimp only
  by_cases c0 : v = 0
  · obtain ⟨x, i2, h2, e2, x0, x1, _, j2⟩ := below_ev b hb i1 h1 40 j1
    have x2 := x1 (by omega)
    rw [if_pos c0, e2, Option.bind_some]; dsimp only
    rw [show wrap64 (x - 5) = x - 5 from w64 (by omega) (by omega)]
    exact ⟨_, _, _, _, _, _, rfl, ⟨by unfold actOk; dsimp only; rw [if_neg (by omega), if_pos rfl, decide_eq_true_eq]; omega, by dsimp only; omega⟩, j2⟩
  rw [if_neg c0]
  by_cases c1 : v = 1
  · obtain ⟨x, i2, h2, e2, x0, j2⟩ := pick_ev b hb i1 h1 [0, 0, 1] j1 (by decide)
    obtain ⟨y, i3, h3, e3, y0, y1, _, j3⟩ := below_ev b hb i2 h2 6 j2
    obtain ⟨z, i4, h4, e4, z0, z1, _, j4⟩ := below_ev b hb i3 h3 3 j3
    have y2 := y1 (by omega)
    have z2 := z1 (by omega)
    have x2 : x = 0 ∨ x = 1 := by simp at x0; omega
    rw [if_pos c1, e2, Option.bind_some]; dsimp only
    rw [e3, Option.bind_some]; dsimp only
    rw [e4, Option.bind_some]
    exact ⟨_, _, _, _, _, _, rfl, ⟨by unfold actOk; dsimp only; rw [if_neg (by omega), if_neg (by omega), if_pos rfl, decide_eq_true_eq]; omega, by dsimp only; omega⟩, j4⟩
  rw [if_neg c1]
  by_cases c2 : v = 2
  · obtain ⟨x, i2, h2, e2, x0, x1, _, j2⟩ := below_ev b hb i1 h1 12 j1
    obtain ⟨y, i3, h3, e3, y0, y1, _, j3⟩ := below_ev b hb i2 h2 2001 j2
    have x2 := x1 (by omega)
    have y2 := y1 (by omega)
    rw [if_pos c2, e2, Option.bind_some]; dsimp only
    rw [e3, Option.bind_some]; dsimp only
    rw [show wrap64 (y - 1000) = y - 1000 from w64 (by omega) (by omega)]
    exact ⟨_, _, _, _, _, _, rfl, ⟨by unfold actOk; dsimp only; rw [if_neg (by omega), if_neg (by omega), if_neg (by omega), if_pos rfl, decide_eq_true_eq]; omega, by dsimp only; omega⟩, j3⟩
  rw [if_neg c2]
  by_cases c3 : v = 3
  · rw [if_pos c3]; exact ⟨_, _, _, _, _, _, rfl, ⟨by decide, by dsimp only; omega⟩, j1⟩
  rw [if_neg c3]
  by_cases c4 : v = 4
  · rw [if_pos c4]; exact ⟨_, _, _, _, _, _, rfl, ⟨by decide, by dsimp only; omega⟩, j1⟩
  rw [if_neg c4]
  by_cases c5 : v = 5
  · obtain ⟨x, i2, h2, e2, x0, x1, _, j2⟩ := below_ev b hb i1 h1 12 j1
    have x2 := x1 (by omega)
    rw [if_pos c5, e2, Option.bind_some]
    exact ⟨_, _, _, _, _, _, rfl, ⟨by unfold actOk; dsimp only; rw [if_neg (by omega), if_neg (by omega), if_neg (by omega), if_neg (by omega), if_pos rfl, decide_eq_true_eq]; omega, by dsimp only; omega⟩, j2⟩
  rw [if_neg c5]
  exact ⟨_, _, _, _, _, _, rfl, ⟨by decide, by dsimp only; omega⟩, j1⟩
theorem acts_ev (i h : Int) (hi : 0 ≤ i) : ∃ l i' h', Ev (fun k => spec_l39List.f k b i h) (l, i', h') ∧ l.length ≤ 25 ∧ (∀ x ∈ l, GAct x) ∧ 0 ≤ i' := by
  obtain ⟨n, i1, h1, e1, n0, n1, _, j1⟩ := below_ev b hb i h 26 hi
  have n2 := n1 (by omega)
  obtain ⟨N, rfl⟩ := Int.eq_ofNat_of_zero_le n0
  have key : ∀ m : Nat, m ≤ N → ∀ (acc : List S26) (i h : Int), 0 ≤ i → acc.length = N - m → (∀ x ∈ acc, GAct x) →
      ∃ l i' h', Ev (fun k => spec_l39List.l0 k acc (N : Int) ((N - m : Nat) : Int) b i h) (l, i', h') ∧ l.length ≤ 25 ∧ (∀ x ∈ l, GAct x) ∧ 0 ≤ i' := by
    intro m
    induction m with
    | zero =>
      intro _ acc i h hi hl hx
      exact ⟨acc, i, h, Ev.step (fun k => by rw [spec_l39List.l0]) (evn (by omega) (Ev.now _)), by omega, hx, hi⟩
    | succ m ih =>
      intro hm acc i h hi hl hx
      obtain ⟨a, x, y, z, i2, h2, e2, g, j2⟩ := act_ev b hb i h hi
      obtain ⟨l, i', h', ev, l1, l2, j⟩ := ih (by omega) (acc ++ [⟨a, x, y, z⟩]) i2 h2 j2 (by simp; omega) (by
        intro w hw
        rcases List.mem_append.1 hw with hw | hw
        · exact hx w hw
        · simp at hw; subst hw; exact g)
      refine ⟨l, i', h', Ev.step (fun k => by rw [spec_l39List.l0]) (evp (by omega) (evb e2 ?_)), l1, l2, j⟩
      refine evp (show acc.length < 4398046511104 by omega) ?_
      rw [show wrap64 (((N - (m + 1) : Nat) : Int) + 1) = ((N - m : Nat) : Int) from by rw [w64 (by omega) (by omega)]; omega]
      exact ev
  obtain ⟨l, i', h', ev, l1, l2, j⟩ := key N (Nat.le_refl _) [] i1 h1 j1 (by simp) (by simp)
  refine ⟨l, i', h', ?_, l1, l2, j⟩
  unfold spec_l39List.f
  refine evb e1 ?_
  rw [show N - N = 0 by omega] at ev
  exact ev
theorem drawActs_ev : ∃ s l, Ev (fun k => spec_DrawActs.f k b) (s.1, s.2.1, s.2.2.1, s.2.2.2.1, s.2.2.2.2.1, s.2.2.2.2.2, l) ∧ Drawn s ∧ l.length ≤ 25 ∧ ∀ x ∈ l, GAct x := by
  obtain ⟨h0, e0⟩ := new_ev b
  obtain ⟨s, i1, h1, e1, g, j1⟩ := anyShop_ev b hb 0 h0 (by omega)
  obtain ⟨l, i2, h2, e2, l1, l2, j2⟩ := acts_ev b hb i1 h1 j1
  refine ⟨s, l, ?_, g, l1, l2⟩
  unfold spec_DrawActs.f
  exact Ev.bind e0 (Ev.bind e1 (Ev.bind e2 (Ev.now _)))
end
end Go.Proofs.YtojiighpkppckaaDoor.Q


namespace Go.Proofs.YtojiighpkppckaaDoor.Q
set_option linter.unusedVariables false
set_option linter.unusedSimpArgs false
open Go.RowKit Go.Proofs.YtojiighpkppckaaDoor.P Go.Proofs.YtojiighpkppckaaDoorW.PrintWords
def txt (l : List UInt8) : ByteArray := ⟨l.toArray⟩
theorem txt_app (a b : List UInt8) : txt a ++ txt b = txt (a ++ b) := by
  apply ByteArray.ext
  simp [txt]
theorem txt_size (a : List UInt8) : (txt a).size = a.length := by simp [txt, ByteArray.size]
theorem txt_data (a : List UInt8) : (txt a).data.toList = a := by simp [txt]
def num (n : Int) : List UInt8 := Go.Lib.itoa n
theorem fmt_impl (n : Int) (h1 : -9223372036854775808 ≤ n) (h2 : n ≤ 9223372036854775807) : impl_FormatInt.f n = some (txt (num n)) := by
  unfold impl_FormatInt.f
  rw [if_pos ⟨h1, h2⟩]; rfl
theorem num_len (n : Int) (h1 : -9223372036854775808 ≤ n) (h2 : n ≤ 9223372036854775807) : (num n).length ≤ 21 := Go.Lib.itoa_length_le n h1 h2
def tail_ (l : List Int) : List UInt8 := l.flatMap fun n => 32 :: num n
theorem tail_len (l : List Int) (h : ∀ n ∈ l, -9223372036854775808 ≤ n ∧ n ≤ 9223372036854775807) : (tail_ l).length ≤ 22 * l.length := by
  induction l with
  | nil => simp [tail_]
  | cons a r ih =>
    have h1 := num_len a (h a (by simp)).1 (h a (by simp)).2
    have h2 := ih (fun n hn => h n (by simp [hn]))
    simp only [tail_, List.flatMap_cons, List.length_append, List.length_cons] at h2 ⊢
    omega
def line (l : List Int) : List UInt8 := Go.Lib.join (l.map num) [32]
theorem line_cons (a : Int) (r : List Int) : line (a :: r) = num a ++ tail_ r := by
  unfold line
  rw [List.map_cons, Go.Lib.join_cons]
  congr 1
  induction r with
  | nil => rfl
  | cons b r ih =>
    simp only [Go.Lib.joinTail, List.map_cons, List.flatten_cons, tail_, List.flatMap_cons] at ih ⊢
    rw [ih]; rfl
theorem line_len (l : List Int) (h : ∀ n ∈ l, -9223372036854775808 ≤ n ∧ n ≤ 9223372036854775807) : (line l).length ≤ 22 * l.length := by
  cases l with
  | nil => simp [line, Go.Lib.join_nil]
  | cons a r =>
    rw [line_cons]
    have h1 := num_len a (h a (by simp)).1 (h a (by simp)).2
    have h2 := tail_len r (fun n hn => h n (by simp [hn]))
    simp only [List.length_append, List.length_cons]
    omega
theorem words_l0 (l : List Int) (h : ∀ n ∈ l, -9223372036854775808 ≤ n ∧ n ≤ 9223372036854775807) (hl : l.length ≤ 1048576) : ∀ (d i : Nat), i + d = l.length →
    Ev (fun k => impl_words.l0 k ((l.take i).map fun n => txt (num n)) l (l.length : Int) (i : Int)) (txt (line l)) := by
  intro d
  induction d with
  | zero =>
    intro i hi
    obtain rfl : i = l.length := by omega
    refine Ev.step (fun k => by rw [impl_words.l0]) (evn (by omega) ?_)
    refine evb (a := txt (line l)) ?_ (evs rfl)
    unfold strings_Join.f
    rw [List.take_length]
    have e : ((l.map fun n => txt (num n)).map fun x => x.data.toList) = l.map num := by
      rw [List.map_map]
      exact List.map_congr_left (fun n _ => txt_data _)
    rw [e]
    have h3 := line_len l h
    rw [if_pos ⟨by simp; omega, by unfold line at h3; show (Go.Lib.join (l.map num) [32]).length ≤ _; omega⟩]
    rfl
  | succ d ih =>
    intro i hi
    have hlt : i < l.length := by omega
    have hm := h l[i] (List.getElem_mem hlt)
    refine Ev.step (fun k => by rw [impl_words.l0]) (evp (by omega) (evp (by omega) (evp (by omega) ?_)))
    rw [rd_nat l i hlt]
    refine evb (fmt_impl _ hm.1 hm.2) (evp (by simp; omega) ?_)
    have := ih (i + 1) (by omega)
    rw [List.take_succ_eq_append_getElem hlt, List.map_append] at this
    rw [w64 (by omega) (by omega)]
    exact this
theorem words_eq (l : List Int) (h : ∀ n ∈ l, -9223372036854775808 ≤ n ∧ n ≤ 9223372036854775807) (hl : l.length ≤ 1048576) : Ev (fun k => impl_words.f k l) (txt (line l)) := by
  unfold impl_words.f
  exact words_l0 l h hl l.length 0 (by omega)
end Go.Proofs.YtojiighpkppckaaDoor.Q


namespace Go.Proofs.YtojiighpkppckaaDoor.Q
set_option linter.unusedVariables false
set_option linter.unusedSimpArgs false
open Go.RowKit Go.Proofs.YtojiighpkppckaaDoor.P Go.Proofs.YtojiighpkppckaaDoorW.PrintWords Go.Proofs.YtojiighpkppckaaDoorW.PrintMore
def is64 (n : Int) : Prop := -9223372036854775808 ≤ n ∧ n ≤ 9223372036854775807
theorem tail_snoc (l : List Int) (x : Int) : tail_ (l ++ [x]) = tail_ l ++ (32 :: num x) := by simp [tail_]
theorem line_one (x : Int) : line [x] = num x := by rw [line_cons]; simp [tail_]
def entLine (e : S85) : ByteArray := txt (line [e.f0.f0, e.f0.f1, e.f1, e.f2])
def isEnt (e : S85) : Prop := is64 e.f0.f0 ∧ is64 e.f0.f1 ∧ is64 e.f1 ∧ is64 e.f2
def headText (d : Int) (q : List Int) (a m : Int) : List ByteArray := [txt ([112, 105, 116, 99, 104, 101, 115, 32] ++ line q), txt ([100, 111, 110, 101, 32] ++ num d), txt ([119, 97, 114, 109, 116, 104, 32] ++ num a), txt ([109, 111, 109, 101, 110, 116, 32] ++ num m)]
def shopText (p : List S145) (d : Int) (q : List Int) (a m : Int) (l : List S85) : List ByteArray := if shopOk p d q a m l = true then headText d q a m ++ l.map entLine else []
theorem ent_all {e : S85} (h : isEnt e) : ∀ n ∈ [e.f0.f0, e.f0.f1, e.f1, e.f2], is64 n := by
  obtain ⟨h1, h2, h3, h4⟩ := h
  intro n hn
  simp at hn
  rcases hn with rfl | rfl | rfl | rfl <;> assumption
theorem rdEn (l : List S85) (i : Nat) (h : i < l.length) : rd_T85 l (i : Int) = l[i] := by
  unfold rd_T85; simp [List.getD_eq_getElem?_getD, h]
theorem fshop_impl (p : List S145) (d : Int) (q : List Int) (a m : Int) (l : List S85) (hd : is64 d) (hq : ∀ n ∈ q, is64 n) (ha : is64 a) (hm : is64 m) (hl : ∀ e ∈ l, isEnt e) (lq : q.length ≤ 1048576) (ll : l.length ≤ 1048576) :
    Ev (fun k => impl_FormatShop.f k p d q a m l) (shopText p d q a m l) := by
  have key : ∀ i, i ≤ l.length → Ev (fun k => impl_FormatShop.l0 k (headText d q a m ++ (l.take i).map entLine) l (l.length : Int) (i : Int)) (headText d q a m ++ l.map entLine) := by
    refine down (n := l.length) ?_ ?_
    · exact Ev.step (fun k => by rw [impl_FormatShop.l0]) (evn (by omega) (evs (by rw [List.take_length])))
    · intro i hi ih
      refine Ev.step (fun k => by rw [impl_FormatShop.l0]) (evp (by omega) (evp (by omega) (evp (by omega) ?_)))
      rw [rdEn l i hi, w64 (by omega) (by omega)]
      refine Ev.bind (words_eq _ (ent_all (hl l[i] (List.getElem_mem hi))) (by simp)) (evp (by simp [headText]; omega) ?_)
      rw [List.take_succ_eq_append_getElem hi, List.map_append, ← List.append_assoc] at ih
      exact ih
  have one : ∀ x, is64 x → Ev (fun k => impl_words.f k [x]) (txt (num x)) := fun x hx => by
    have := words_eq [x] (by intro n hn; simp at hn; subst hn; exact hx) (by simp)
    rwa [line_one] at this
  unfold impl_FormatShop.f shopText
  refine Ev.bind (shopOk_impl p d q a m l (by omega)) ?_
  by_cases hok : shopOk p d q a m l = true
  · rw [if_pos hok]
    have h1 := line_len q hq
    have h2 := num_len d hd.1 hd.2
    have h3 := num_len a ha.1 ha.2
    have h4 := num_len m hm.1 hm.2
    refine evp hok (Ev.bind (words_eq q hq lq) (evp (by rw [txt_size]; omega) (Ev.bind (one _ hd) (evp (by rw [txt_size]; omega) (Ev.bind (one _ ha) (evp (by rw [txt_size]; omega) (Ev.bind (one _ hm) (evp (by rw [txt_size]; omega) ?_))))))))
    exact key 0 (Nat.zero_le _)
  · rw [if_neg hok]
    exact evn hok (Ev.now _)
end Go.Proofs.YtojiighpkppckaaDoor.Q


namespace Go.Proofs.YtojiighpkppckaaDoor.Q
set_option linter.unusedVariables false
set_option linter.unusedSimpArgs false
open Go.RowKit Go.Deep Go.ChangeShapes Go.WideShapes Go.Proofs.YtojiighpkppckaaDoorW.PrintWords
def Opens {α : Type} (P : Program) (w : World) (d : Kd α) (T : TypeId) (G : α → Prop) : Prop :=
  ∀ (H : Type) (enc : TypeId × Value → H) (base : Nat) (spare : Nat → Bool) (held : Bool) (fuel : Nat) (cs : List Value) (x : DataW H × List MemPlace),
    DataW.trod enc P w base spare held fuel T cs = some x → ∃ v, d.K w v cs ∧ G v
def OpensFs {α : Type} (P : Program) (w : World) (d : Kd α) (off : Nat) (fs : Array Field) (i : Nat) (G : α → Prop) : Prop :=
  ∀ (H : Type) (enc : TypeId × Value → H) (base : Nat) (spare : Nat → Bool) (held : Bool) (fuel : Nat) (cs : List Value), cs.length = off + d.sz →
    (∀ j f, i ≤ j → fs[j]? = some f → ∃ y : DataW H × List MemPlace, DataW.trod enc P w base spare held fuel f.type ((cs.drop f.offset).take (P.cellsOf f.type)) = some y) → ∃ v, d.K w v (cs.drop off) ∧ G v
section
variable {P : Program} {w : World}
theorem Opens.int {k : IntKind} {T : TypeId} (ht : P.underlying T = some (.int k)) : Opens P w (Kd.int k) T (fun n => (Lit.int k n).wf = true) := by
  intro H enc base spare held fuel cs x hx
  obtain ⟨n, rfl, _, hw⟩ := DataW.trod_int ht hx
  exact ⟨n, rfl, hw⟩
theorem Opens.slice {α : Type} (z : α) {d : Kd α} {E T : TypeId} {G : α → Prop} (ht : P.underlying T = some (.slice E)) (hC : P.cellsOf E = d.sz) (h : Opens P w d E G) :
    Opens P w (Kd.slice E d) T (fun l => l.length ≤ 9223372036854775807 ∧ ∀ x ∈ l, G x) := by
  haveI : Inhabited α := ⟨z⟩
  intro H enc base spare held fuel cs x hx
  rcases open_slice ht hx with ⟨rfl, _⟩ | ⟨a, len, cap, m, n, D, Pl, rfl, hb, hl, hm, hmm, _, hi⟩
  · exact ⟨[], ⟨none, 0, rfl, Nat.le_refl _, rfl, by simp, fun h => absurd h (by simp)⟩, by simp, by simp⟩
  · have hlm : len ≤ m := by rw [hmm]; split <;> omega
    obtain ⟨V, hV⟩ := choose_lt (α := α) (n := len) (p := fun i v => G v ∧ ∃ c, c.length = d.sz ∧ d.K w v c ∧ ∀ j u, c[j]? = some u → w.cell? (a.add (i * d.sz + j)) = some u) (fun i hil => by
      obtain ⟨cs', h1, h2⟩ := hi i (by omega)
      obtain ⟨v, hv, g⟩ := h H enc base spare held n cs' _ h2
      obtain ⟨_, hcl, hat⟩ := World.cells?_some h1
      refine ⟨v, g, cs', by rw [hcl, hC], hv, fun j u hu => ?_⟩
      have hj : j < P.cellsOf E := by rw [← hcl]; exact (List.getElem?_eq_some_iff.1 hu).1
      have := hat j hj
      rw [hC, Go.Deep.add_add] at this
      rw [this, hu])
    refine ⟨(List.range len).map V, ⟨some a, cap, by simp, by simpa using hl, by simp, by have := hm; unfold maxLen at this; simp; omega, fun _ => ⟨a, rfl, fun j p hj => ?_⟩⟩, ?_⟩
    · have hj' : j < len := by have := (List.getElem?_eq_some_iff.1 hj).1; simpa using this
      obtain rfl : V j = p := by simpa [hj'] using hj
      exact (hV j hj').2
    · refine ⟨by have := hm; unfold maxLen at this; simp; omega, fun x hx => ?_⟩
      obtain ⟨i, hi, rfl⟩ := List.mem_map.1 hx
      exact (hV i (List.mem_range.1 hi)).1
theorem OpensFs.one {α : Type} {d : Kd α} {off i : Nat} {fs : Array Field} {f : Field} {G : α → Prop} (hf : fs[i]? = some f) (h : Opens P w d f.type G) (ho : f.offset = off) (hc : P.cellsOf f.type = d.sz) : OpensFs P w d off fs i G := by
  intro H enc base spare held fuel cs hlen hfs
  obtain ⟨y, hy⟩ := hfs i f (Nat.le_refl _) hf
  rw [ho, hc, List.take_of_length_le (by simp [hlen])] at hy
  exact h H enc base spare held fuel _ _ hy
theorem OpensFs.more {α β : Type} {d : Kd α} {d2 : Kd β} {off i : Nat} {fs : Array Field} {f : Field} {G : α → Prop} {G2 : β → Prop} (hf : fs[i]? = some f) (h : Opens P w d f.type G) (ho : f.offset = off) (hc : P.cellsOf f.type = d.sz)
    (h2 : OpensFs P w d2 (off + d.sz) fs (i + 1) G2) : OpensFs P w (Kd.pair d d2) off fs i (fun x => G x.1 ∧ G2 x.2) := by
  intro H enc base spare held fuel cs hlen hfs
  have hlen' : cs.length = off + (d.sz + d2.sz) := hlen
  obtain ⟨y, hy⟩ := hfs i f (Nat.le_refl _) hf
  rw [ho, hc] at hy
  obtain ⟨v, hv, g⟩ := h H enc base spare held fuel _ _ hy
  obtain ⟨v2, hv2, g2⟩ := h2 H enc base spare held fuel cs (by omega) (fun j f' hj hf' => hfs j f' (by omega) hf')
  refine ⟨(v, v2), ⟨_, _, ?_, hv, hv2⟩, g, g2⟩
  rw [← List.drop_drop, List.take_append_drop]
theorem Opens.string {T : TypeId} (ht : P.underlying T = some .string) : Opens P w Kd.string T (fun s => s.size ≤ maxLen) := by
  intro H enc base spare held fuel cs x hx
  obtain ⟨s, rfl, _, hs⟩ := DataW.trod_string ht hx
  exact ⟨s, rfl, hs⟩
end
end Go.Proofs.YtojiighpkppckaaDoor.Q


namespace Go.Proofs.YtojiighpkppckaaDoor.Q
open Go.RowKit Go.Proofs.YtojiighpkppckaaDoor.P Go.Proofs.YtojiighpkppckaaDoorW.PrintWords
def good5 (x : Int) : Prop := (Lit.int .u8 x).wf = true
theorem op5 {w : World} : Opens Tryd.prog w (Kd.int .u8) 5 good5 := (Opens.int Tryd.underlying5)
end Go.Proofs.YtojiighpkppckaaDoor.Q


namespace Go.Proofs.YtojiighpkppckaaDoor.Q
open Go.RowKit Go.Proofs.YtojiighpkppckaaDoor.P Go.Proofs.YtojiighpkppckaaDoorW.PrintWords
set_option linter.unusedVariables false
set_option linter.unusedSimpArgs false
theorem logGo_ents : ∀ (l : List S85) (p : Int), logGo p l = true → ∀ e ∈ l, entOk e = true
  | [], _, _, e, he => by simp at he
  | x :: r, p, h, e, he => by
    unfold logGo at h
    simp only [Bool.and_eq_true] at h
    rcases List.mem_cons.1 he with rfl | he
    · exact h.1
    · exact logGo_ents r x.f2 h.2.2 e he
theorem logOk_all_ent {l : List S85} (h : logOk l = true) (e : S85) (he : e ∈ l) : (0 ≤ e.f0.f0 ∧ e.f0.f0 ≤ 3) ∧ (0 ≤ e.f0.f1 ∧ e.f0.f1 ≤ 39) ∧ (0 ≤ e.f1 ∧ e.f1 ≤ 2) ∧ (0 ≤ e.f2 ∧ e.f2 ≤ 100000) := by
  unfold logOk at h
  simp only [Bool.and_eq_true] at h
  have := logGo_ents l 0 h.1 e he
  unfold entOk at this
  simpa only [Bool.and_eq_true, decide_eq_true_eq] using this
theorem sum_l0 (ls : List ByteArray) (p : List S145) (d : Int) (q : List Int) (a m : Int) (l : List S85) (hq : q.length = 12) (h : ∀ n ∈ q, is64 n) (h0 : 0 < ls.length) (he : rdOf ByteArray.empty ls 0 = txt ([112, 105, 116, 99, 104, 101, 115] ++ tail_ q)) :
    Ev (fun k => laws_FnSummaries.l0 k ls (txt [112, 105, 116, 99, 104, 101, 115]) 0 p d q a m l) true := by
  have key : ∀ i, i ≤ 12 → Ev (fun k => laws_FnSummaries.l0 k ls (txt ([112, 105, 116, 99, 104, 101, 115] ++ tail_ (q.take i))) (i : Int) p d q a m l) true := by
    refine down (n := 12) ?_ ?_
    · refine Ev.step (fun k => by rw [laws_FnSummaries.l0]) (evn (by omega) (evp (by omega) (evs ?_)))
      rw [he, List.take_of_length_le (by omega)]
      simp
    · intro i hi ih
      have hlt : i < q.length := by omega
      have hm := h q[i] (List.getElem_mem hlt)
      have hn := num_len _ hm.1 hm.2
      have ht := tail_len (q.take i) (fun n hn => h n (List.mem_of_mem_take hn))
      have hti : (q.take i).length = i := by rw [List.length_take]; omega
      refine Ev.step (fun k => by rw [laws_FnSummaries.l0]) (evp (by omega) (evp (by rw [txt_size]; simp only [List.length_append, List.length_cons, List.length_nil]; omega) (evp (by omega) (evp (by omega) ?_))))
      rw [rd_nat q i hlt]
      refine evb (fmt_impl _ hm.1 hm.2) (evp ?_ ?_)
      · rw [show (⟨#[32]⟩ : ByteArray) = txt [32] from rfl, txt_app, txt_size, txt_size]
        simp only [List.length_append, List.length_cons, List.length_nil]
        omega
      · rw [show (⟨#[32]⟩ : ByteArray) = txt [32] from rfl, txt_app, txt_app, w64 (by omega) (by omega)]
        rw [show tail_ (q.take (i + 1)) = tail_ (q.take i) ++ (32 :: num q[i]) from by rw [List.take_succ_eq_append_getElem hlt]; exact tail_snoc _ _] at ih
        rw [show ([112, 105, 116, 99, 104, 101, 115] ++ tail_ (q.take i) ++ [32] ++ num q[i]) = [112, 105, 116, 99, 104, 101, 115] ++ (tail_ (q.take i) ++ (32 :: num q[i])) from by simp [List.append_assoc]]
        exact ih
  have := key 0 (by omega)
  simpa [tail_] using this
end Go.Proofs.YtojiighpkppckaaDoor.Q
namespace Go.Proofs.YtojiighpkppckaaDoor.Pure
set_option linter.unusedVariables false
set_option linter.unusedSimpArgs false
open Go.RowKit Go.Proofs.YtojiighpkppckaaDoor.P Go.Proofs.YtojiighpkppckaaDoor.Q Go.Proofs.YtojiighpkppckaaDoorW.PrintWords Go.Proofs.YtojiighpkppckaaDoorW.PrintLast
theorem FnSummaries (b : List Int) (h0 : b.length ≤ 9223372036854775807 ∧ ∀ y ∈ b, good5 y) : ∃ k, laws_FnSummaries.f k b = some true := by
  refine Ev.rounds ?_
  unfold laws_FnSummaries.f
  by_cases hbig : (b.length : Int) > 1048576
  · exact evb (a := true) (by unfold laws_big.f; rw [decide_eq_true hbig]) (evp rfl (Ev.now _))
  refine evb (a := false) (by unfold laws_big.f; rw [decide_eq_false hbig]) (evn (by decide) ?_)
  obtain ⟨⟨p, d, q, a, m, l⟩, acts, hev, hd, _, _⟩ := drawActs_ev b (by omega)
  dsimp only at hev
  have g : GShop p d q a m l 20 := hd
  have lq := g.len
  have ll := logOk_len g.log
  have hok := g.ok (by omega)
  obtain ⟨n, rfl, hn, hw⟩ := g.work
  have lp := g.plan.1
  have hq : ∀ x ∈ q, is64 x := by
    intro x hx
    obtain ⟨i, hi, rfl⟩ := List.mem_iff_getElem.1 hx
    obtain ⟨_, w2, w3⟩ := (workOk_good g.plan n hn q).1 hw
    have e : q.getD i 0 = q[i] := by simp [List.getD_eq_getElem?_getD, hi]
    by_cases c : i ≤ n
    · have := w2 i c; rw [e] at this; exact ⟨by omega, by omega⟩
    · have := w3 i (by omega) (by omega); rw [e] at this; exact ⟨by omega, by omega⟩
  have hl : ∀ e ∈ l, isEnt e := by
    intro e he
    have := logOk_all_ent g.log e he
    exact ⟨⟨by omega, by omega⟩, ⟨by omega, by omega⟩, ⟨by omega, by omega⟩, ⟨by omega, by omega⟩⟩
  have hda : is64 (n : Int) := ⟨by omega, by omega⟩
  have hwa : is64 a := by have := g.warm; exact ⟨by omega, by omega⟩
  have hma : is64 m := by have := g.mom; exact ⟨by omega, by omega⟩
  have F := fshop_impl p (n : Int) q a m l hda hq hwa hma hl (by omega) (by omega)
  have n1 := num_len _ hda.1 hda.2
  have n2 := num_len _ hwa.1 hwa.2
  have n3 := num_len _ hma.1 hma.2
  obtain ⟨R, hR⟩ : ∃ R, shopText p (n : Int) q a m l = R := ⟨_, rfl⟩
  rw [hR] at F
  unfold shopText at hR
  rw [if_pos hok] at hR
  have hRl : R.length = 4 + l.length := by rw [← hR]; simp [headText]; omega
  have r0 : rdOf ByteArray.empty R 0 = txt ([112, 105, 116, 99, 104, 101, 115, 32] ++ line q) := by rw [← hR]; rfl
  have r1 : rdOf ByteArray.empty R 1 = txt ([100, 111, 110, 101, 32] ++ num n) := by rw [← hR]; rfl
  have r2 : rdOf ByteArray.empty R 2 = txt ([119, 97, 114, 109, 116, 104, 32] ++ num a) := by rw [← hR]; rfl
  have r3 : rdOf ByteArray.empty R 3 = txt ([109, 111, 109, 101, 110, 116, 32] ++ num m) := by rw [← hR]; rfl
  have e0 : ([112, 105, 116, 99, 104, 101, 115, 32] : List UInt8) ++ line q = [112, 105, 116, 99, 104, 101, 115] ++ tail_ q := by
    cases q with
    | nil => simp at lq
    | cons x r => rw [line_cons]; simp [tail_]
  rw [e0] at r0
  have S := sum_l0 R p (n : Int) q a m l lq hq (by omega) r0
  refine Ev.bind hev ?_
  dsimp only
  refine Ev.bind F (evp ?_ (evp (by rw [lq]; rfl) (evp (by omega) ?_)))
  · rw [w64 (by omega) (by omega)]; omega
  refine evb (fmt_impl _ hda.1 hda.2) (evp (by rw [txt_size]; omega) (evp (by rw [r1]; rfl) (evp (by omega) ?_)))
  refine evb (fmt_impl _ hwa.1 hwa.2) (evp (by rw [txt_size]; omega) (evp (by rw [r2]; rfl) (evp (by omega) ?_)))
  refine evb (fmt_impl _ hma.1 hma.2) (evp (by rw [txt_size]; omega) ?_)
  refine Ev.step (f := fun k => if ((rdOf ByteArray.empty R 3).toList != ((⟨#[109, 111, 109, 101, 110, 116, 32]⟩ : ByteArray) ++ txt (num m)).toList) = true then some false else laws_FnSummaries.l0 k R (⟨#[112, 105, 116, 99, 104, 101, 115]⟩ : ByteArray) 0 p (n : Int) q a m l) (fun k => by rw [laws_FnSummaries.j0]) ?_
  refine evn ?_ S
  rw [r3]
  simp [txt_app, show (⟨#[109, 111, 109, 101, 110, 116, 32]⟩ : ByteArray) = txt [109, 111, 109, 101, 110, 116, 32] from rfl]
end Go.Proofs.YtojiighpkppckaaDoor.Pure


namespace Go.Proofs.YtojiighpkppckaaDoor.fnSummaries
open Go.ChangeShapes Go.WideShapes Go.ChangeAt Go.RowKit Go.Proofs.YtojiighpkppckaaDoor.P Go.Proofs.YtojiighpkppckaaDoor.Q Go.Proofs.YtojiighpkppckaaDoorW.PrintWords
open Go.ChangeMaps (open_string shut_string)
set_option linter.unusedVariables false
set_option linter.unusedSimpArgs false
theorem own : ownKnob Tryd.prog.godebug = none := by kernel_rfl
theorem laidOut : laidOutB Tryd.prog = true := by kernel_rfl
def laidX : List (String × DataW Unit) := [("math/bits.deBruijn32tab", Rows.laid_math_bits_deBruijn32tab), ("math/bits.deBruijn64tab", Rows.laid_math_bits_deBruijn64tab), ("internal/strconv.uint64pow10", Rows.laid_internal_strconv_uint64pow10)]
theorem door_met (os : Os) (args : Array Value) : laidMetH Tryd.prog laidX ((World.doorLaid Tryd.prog 400 os).forCall (fun _ _ => 0) ⟨#[], args, []⟩).memory :=
  laidMetH_of_parts3 (fuel := 8) (laidMet_of_run' 8 (by kernel_rfl) (by kernel_rfl)) (by kernel_rfl) (by kernel_rfl)
theorem tab_met {W : World} (h : laidMetH Tryd.prog laidX W) : Tab W := by
  rw [MakeChecks.laidMetH_plain _ _ _ (by kernel_rfl)] at h
  exact Go.Lib.tabIs_of_head (g := 2) (by kernel_rfl) (by kernel_rfl) Tryd.underlying192 Tryd.underlying169 (by kernel_rfl) (by kernel_rfl) h.tail.tail
set_option maxRecDepth 100000 in
theorem lifted (os : Os) (started : os.Started) (H : Type) (enc : TypeId × Value → H) :
    ReturnsInHanded {} Tryd.checked os 5 .any (fun w args => (Rows.fnSummariesSpec.pre enc Tryd.prog Tryd.f5 [] false w args ∧ laidMetH Tryd.prog laidX w) ∧ sizedMet enc Tryd.prog Tryd.f5 (OpenSpec.ofChange Rows.fnSummariesSpec) false w args) (Rows.fnSummariesSpec.post enc Tryd.prog Tryd.f5 false true false false) := by
  refine returnsInHanded_of_change_and (C := Tryd.checked) (X := fun w _ => laidMetH Tryd.prog laidX w) (fun _ _ _ hh h => h.of_heap hh) own started (by kernel_rfl) Tryd.func5
    (ChangeSpec.witness_shaped (enc := enc) (C := Tryd.checked) (os := os) (X := fun w _ => laidMetH Tryd.prog laidX w) false (World.doorLaid Tryd.prog 400 os) #[.slice none 0 0] 8 rfl (World.shaped_of_RefB (by kernel_rfl) (by kernel_rfl)) (by kernel_rfl) (by kernel_rfl) (by kernel_rfl) (door_met os _)) ?_
  intro W base args ds gs before hval0 hW hcnd hsz0 hL _
  have htab := tab_met hL
  have hval : ∀ (j : Nat) t v, Tryd.f5.params[j]? = some t → args[j]? = some v → Value.okWide Tryd.prog W .any base t v := hval0
  have hW' := hW
  obtain ⟨p, q, hA0, hV, rfl, hfz, hnd⟩ := hW
  have hA : DataW.TrodAll enc Tryd.prog W 0 (fun _ => true) true Tryd.f5.params.toList args.toList ds p := hA0
  rw [Tryd.params5] at hA hval
  obtain ⟨v0, vs0, d0, ds0, p0, q0, hargs, rfl, rfl, h0, r0⟩ := trodAll_cons hA
  obtain ⟨rfl, rfl, rfl⟩ := trodAll_nil r0
  obtain rfl : args = #[v0] := by cases args; simp_all
  obtain ⟨rfl, rfl⟩ := trodVars_none hV
  have k0 := h0
  have lt0 : ∀ x ∈ p0, x.block < W.heap.size := by obtain ⟨m, hm⟩ := k0; exact DataW.trod_lt m _ _ _ hm
  obtain ⟨fuel0, f0⟩ := h0
  obtain ⟨x0, K0, G0⟩ := (show Opens Tryd.prog W (Kd.slice 5 (Kd.int .u8)) 36 _ from Opens.slice 0 Tryd.underlying36 (by kernel_rfl) op5) H enc 0 _ _ fuel0 _ _ f0
  obtain ⟨len0, cap0, adr0, rfl⟩ : ∃ l c a, v0 = .slice a l c := by obtain ⟨a, l, c, e⟩ := okWide_slice Tryd.underlying36 (hval 0 36 v0 rfl rfl); exact ⟨l, c, a, e⟩
  obtain ⟨A0, c0, e0, hc0, hr0⟩ := K0
  simp [Value.cells] at e0
  obtain ⟨rfl, rfl, rfl⟩ := e0
  obtain ⟨k, hP⟩ := Pure.FnSummaries x0 G0
  refine (P.laws_FnSummaries.calls k _ _ x0 true W hr0 hc0 hP ⟨rfl⟩ ⟨htab⟩).mono fun e W' ⟨he, bel0⟩ => ?_
  have bel : Below W.heap.size W W' := bel0
  subst he
  exact ⟨_, rfl, _, _, _, [], _, [], hW', trodAll_mk1 (shut_bool Tryd.underlying4 _), (trodAll_cons_mk (Below.trod laidOut (by kernel_rfl) (of_decide_eq_true (by kernel_rfl)) k0 bel lt0) trodAll_mk0), rfl, bel.frame _, fun h => by cases h⟩
theorem over : Rows.fnSummariesRow.holds Tryd.pinned (OpenSpec.ofChange Rows.fnSummariesSpec) :=
  OpenClaim.holds_of_wide 5 Tryd.f5 rfl rfl rfl rfl rfl rfl rfl ⟨rfl, rfl, rfl, rfl, rfl⟩ rfl rfl rfl rfl rfl (by kernel_rfl) Tryd.func5 (by kernel_rfl)
    (of_decide_eq_true (by kernel_rfl)) (by unfold Func.isWrapper; first | (rw [if_pos (by decide +kernel)]; kernel_rfl) | (rw [if_neg (by decide +kernel)]; exact ⟨rfl, rfl⟩))
    (fun os started H enc _ => lifted os started H enc)
theorem proved : Rows.FnSummariesCardSaid :=
  Claim7.holds_tied_plain_at .later [] [.data, .data, .data] true (true, "945ce9a059cba3a6b1cb180f52f852ce1e51cd91454f1ca8874738d61f1647a2") true
    over (fun _ h => by cases h) (by kernel_rfl) (fun _ h => by cases h) fnSummaries_row_tie rfl ⟨rfl, rfl⟩ (by kernel_rfl) rfl
    (fun f fn hf hfn => by
      obtain rfl : f = 5 := Option.some.inj ((show Tryd.prog.funcNamed "loop.example/g00989/laws.FnSummaries" = some 5 by kernel_rfl).symm.trans hf) |>.symm
      obtain rfl : fn = Tryd.f5 := (Option.some.inj (Tryd.func5.symm.trans hfn)).symm
      exact ⟨by kernel_rfl, fun j t ht => by
        rw [Tryd.params5] at ht
        have hm : t ∈ ([36] : List Nat) := by simpa using Array.mem_of_getElem? ht
        have hall : (([36] : List Nat).all fun u => !Tryd.prog.wantsStandIn u) = true := by kernel_rfl
        exact (show Tryd.prog.wantsStandIn t = false by simpa using List.all_eq_true.1 hall t hm)⟩)
    (by kernel_rfl)
#print axioms proved
end Go.Proofs.YtojiighpkppckaaDoor.fnSummaries
namespace Go.Proofs.YtojiighpkppckaaDoor
theorem fnSummaries_holds : Rows.FnSummariesCardSaid := fnSummaries.proved
end Go.Proofs.YtojiighpkppckaaDoor

