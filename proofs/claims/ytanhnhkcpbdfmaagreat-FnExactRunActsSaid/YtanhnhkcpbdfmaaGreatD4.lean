/- What functions of the program come to (f), that their calls come to just this (calls), and the plain laws over lists and numbers. No condition but those of the given row. -/
import Derived.Test.YtanhnhkcpbdfmaaGreatD3
import Derived.Deep.RegionHeld3
import Derived.Shelf.GgSortFunc.Insertion
import Derived.Sort.WalkA6
set_option linter.unusedVariables false
set_option linter.unusedSimpArgs false
namespace Go.Proofs.YtanhnhkcpbdfmaaGreat.P
set_option maxRecDepth 100000
set_option synthInstance.maxHeartbeats 400000
set_option synthInstance.maxSize 100000
open Go.RowKit Go.Proofs.YtanhnhkcpbdfmaaGreatW.PrintWords Go.Proofs.YtanhnhkcpbdfmaaGreatW.PrintLast Go.Proofs.YtanhnhkcpbdfmaaGreatW.PrintMore Go.Proofs.YtanhnhkcpbdfmaaGreat.V
attribute [local go_sem] cell_b frozen_b
attribute [local go_sem] max2_int min2_int max_two min_two max_three min_three max_four min_four
def spec_ShopOk.f (k : Nat) (l0_0 : List (S112)) (a0_1 : Int) (l0_2 : List Int) (a0_3 : Int) (a0_4 : Int) (l0_5 : List (S104)) : Option (Bool) := (spec_WorkOk.f k l0_0 a0_1 l0_2).bind fun b => some (b && (Q.logOk l0_5 && (decide (-10 ≤ a0_3 ∧ a0_3 ≤ 40) && (decide (0 ≤ a0_4 ∧ a0_4 ≤ 100000) && decide (Q.lastOk l0_5 a0_4)))))
def spec_ShopOk.T2 : Bool × List (List Nat × List Nat) := (true, [([], []), ([0], [0]), ([1], [1]), ([2, 2], [2]), ([3], [3]), ([4, 3], [3, 4]), ([5, 3, 3], [3, 5]), ([3, 6], [3, 6]), ([7, 6], [7]), ([8], [8]), ([9, 8], [8, 9]), ([10, 8, 8], [8, 10]), ([8, 11], [8, 11]), ([12, 11], [12]), ([13], [13]), ([14, 13], [13, 14]), ([15, 13, 13], [13, 15]), ([13, 16], [13, 16]), ([17, 16], [17]), ([18], [18]), ([19, 18], [18, 19]), ([20, 18, 18], [18, 20]), ([21], [21]), ([22, 21], [21, 22]), ([21], [21]), ([24, 21], [21, 24]), ([23, 25, 21], [21, 23, 25]), ([26, 21], [21, 26]), ([27, 21], [21, 27]), ([21], [21]), ([29, 21], [21, 29]), ([28, 30, 21], [21, 28, 30]), ([21, 31, 18], [18, 21, 31]), ([18, 32], [18, 32]), ([33, 21, 0, 1, 2, 3, 4, 5, 6, 7, 8, 9, 10, 11, 12, 13, 14, 15, 16, 17, 18, 19, 20, 21, 22, 23, 24, 25, 26, 27, 28, 29, 30, 31, 32, 33], [33])])
def spec_ShopOk.B2 : List Nat := [0, 1, 3, 7, 15, 31, 63, 127, 255, 511, 1023, 2047, 4095, 8191, 16383, 32767, 65535, 131071, 262143, 524287, 1048575, 2097151, 4194303, 8388607, 4194303, 20971519, 67108863, 134217727, 268435455, 4194303, 541065215, 2147483647, 4294967295, 8589934591, 17179869183]
theorem spec_ShopOk.tab2 : rtab .any (opsOf Tryz.f37 2) = spec_ShopOk.T2 := by kernel_rfl
theorem spec_ShopOk.bits2 : waitsOk spec_ShopOk.T2.2 spec_ShopOk.B2 = true := by kernel_rfl
def spec_ShopOk.m (n : Nat) : Array Bool := ((List.range 35).map (fun j => decide (j < n))).toArray
attribute [local go_sem] cellR_c
set_option maxHeartbeats 4000000 in
theorem spec_ShopOk.calls (k : Nat) (A0_0 : Option Addr) (c0_0 : Nat) (l0_0 : List (S112)) (a0_1 : Int) (A0_2 : Option Addr) (c0_2 : Nat) (l0_2 : List Int) (a0_3 : Int) (a0_4 : Int) (A0_5 : Option Addr) (c0_5 : Nat) (l0_5 : List (S104)) (r : Bool) (w : World) (hr0_0 : Kd.C k112 w A0_0 l0_0.length l0_0) (hc0_0 : l0_0.length ≤ c0_0) (hr0_2 : Kd.C (Kd.int .i64) w A0_2 l0_2.length l0_2) (hc0_2 : l0_2.length ≤ c0_2) (hr0_5 : Kd.C k104 w A0_5 l0_5.length l0_5) (hc0_5 : l0_5.length ≤ c0_5) (h : spec_ShopOk.f k l0_0 a0_1 l0_2 a0_3 a0_4 l0_5 = some r) :
  Calls Tryz.prog 37 #[.agg #[.slice A0_0 l0_0.length c0_0, .int .i64 a0_1, .slice A0_2 l0_2.length c0_2, .int .i64 a0_3, .int .i64 a0_4, .slice A0_5 l0_5.length c0_5]] w fun e w' => e = .returned (.bool r) ∧ Below w.heap.size w w' := by
 obtain ⟨b1, hb1, h⟩ := Option.bind_eq_some_iff.mp h
 obtain ⟨b2, hb2⟩ : ∃ b, Q.logOk l0_5 = b := ⟨_, rfl⟩
 obtain ⟨b3, hb3⟩ : ∃ b, decide (-10 ≤ a0_3 ∧ a0_3 ≤ 40) = b := ⟨_, rfl⟩
 obtain ⟨b4, hb4⟩ : ∃ b, decide (0 ≤ a0_4 ∧ a0_4 ≤ 100000) = b := ⟨_, rfl⟩
 obtain ⟨b5, hb5⟩ : ∃ b, decide (Q.lastOk l0_5 a0_4) = b := ⟨_, rfl⟩
 have HQ : Aside0 ((b1 && (b2 && (b3 && (b4 && b5)))) = r) := ⟨by rw [← hb2, ← hb3, ← hb4, ← hb5]; exact Option.some.inj h⟩
 have A1 : Aside0 (spec_WorkOk.f k l0_0 a0_1 l0_2 = some b1) := ⟨hb1⟩
 have A2 : Aside0 (spec_LogOk.f k l0_5 = some b2) := ⟨by rw [← hb2]; rfl⟩
 have A3 : Aside0 (spec_l01In.f a0_3 (-10) 40 = some b3) := ⟨by rw [← hb3]; unfold spec_l01In.f; by_cases hh : a0_3 ≥ -10 <;> simp [hh] <;> omega⟩
 have A4 : Aside0 (spec_l01In.f a0_4 0 100000 = some b4) := ⟨by rw [← hb4]; unfold spec_l01In.f; by_cases hh : a0_4 ≥ 0 <;> simp [hh] <;> omega⟩
 have H5 := A_ hb5
 have HR := A_ hr0_5
 have HM := A_ (Kd.C_max hr0_5)
 have i0 := RdE.mk hr0_0
 have i1 := LeI.mk hc0_0
 have i2 := RdE.mk hr0_2
 have i3 := LeI.mk hc0_2
 have i4 := RdE.mk hr0_5
 have i5 := LeI.mk hc0_5
 have hu := Tryz.underlying37
 clear hr0_0 hc0_0 hr0_2 hc0_2 hr0_5 hc0_5 h hb1 hb2 hb3 hb4 hb5
 have hzz : l0_5.length = 0 ∨ ∃ (ad2 : Addr) (j : Nat) (y : S104), A0_5 = some ad2 ∧ ((l0_5.length : Int) == 0) = false ∧ ((l0_5.length : Int) != 0) = true ∧ wrap64 ((l0_5.length : Int) - 1) = (j : Int) ∧ IntKind.i64.wrap ((l0_5.length : Int) - 1) = (j : Int) ∧ (j : Int) < (l0_5.length : Int) ∧ j < l0_5.length ∧ CelR w ⟨(ad2.add (j * 4)).block, (ad2.add (j * 4)).off + 3, none⟩ (.int .i64 y.f2) ∧ decide (y.f2 ≤ a0_4) = b5 := by
  by_cases hz : l0_5.length = 0
  ·exact .inl hz
  right
  obtain ⟨j, hj⟩ : ∃ j, j + 1 = l0_5.length := ⟨l0_5.length - 1, by omega⟩
  have hM := HM.out
  obtain ⟨ad2, e2, _, _, _, hy3⟩ := at_T104 HR.out (j : Int) (by omega) (by omega)
  have hw1 : wrap64 ((l0_5.length : Int) - 1) = (j : Int) := by unfold wrap64; omega
  simp only [Int.toNat_natCast] at hy3
  refine ⟨ad2, j, rd_T104 l0_5 (j : Int), e2, beq_eq_false_iff_ne.mpr (by omega), bne_iff_ne.mpr (by omega), hw1, by rw [i64_w]; exact hw1, by omega, by omega, ⟨hy3⟩, ?_⟩
  rw [← H5.out]
  refine decide_eq_decide.mpr ?_
  unfold Q.lastOk
  rw [show l0_5.length - 1 = j by omega]
  simp [rd_T104, hz]
 have hways : (b1 = false ∧ r = false) ∨ (b1 = true ∧ b2 = false ∧ r = false) ∨ (b1 = true ∧ b2 = true ∧ b3 = false ∧ r = false) ∨ (b1 = true ∧ b2 = true ∧ b3 = true ∧ b4 = false ∧ r = false) ∨ (b1 = true ∧ b2 = true ∧ b3 = true ∧ b4 = true ∧ b5 = r) := by
  have := HQ.out
  cases b1 <;> cases b2 <;> cases b3 <;> cases b4 <;> simp_all
 replace hzz := hzz.imp (fun hz => (⟨by rw [← H5.out]; exact (decide_eq_true (.inl hz)).symm, beq_iff_eq.mpr (by omega), bne_eq_false_iff_eq.mpr (by omega)⟩ : true = b5 ∧ ((l0_5.length : Int) == 0) = true ∧ ((l0_5.length : Int) != 0) = false)) id
 clear HQ H5 HR HM
 rcases hways with ⟨rfl, rfl⟩ | ⟨rfl, rfl, rfl⟩ | ⟨rfl, rfl, rfl, rfl⟩ | ⟨rfl, rfl, rfl, rfl, rfl⟩ | ⟨rfl, rfl, rfl, rfl, rfl⟩
 rotate_right
 rcases hzz with ⟨rfl, z1, z2⟩ | ⟨ad2, j, y, rfl, z1, z2, z3, z4, z5, z6, z7, z8⟩
 all_goals try clear hzz
 all_goals go_enter Tryz.func37, Tryz.ntmps37
 all_goals go_wp2_with (first | ((with_reducible refine gate_dst (N := 1) rfl ?_); (try (refine gate_guard (by rfl) ?_; dsimp only)); (first | refine box_event rfl (N := 1) rfl (cs := #[.slice A0_0 l0_0.length c0_0, .int .i64 a0_1, .slice A0_2 l0_2.length c0_2, .int .i64 a0_3, .int .i64 a0_4, .slice A0_5 l0_5.length c0_5]) (t := 37) (by first | (go_simp; done) | (go_simp; rfl)) ?_ | refine box_event rfl (N := 1) rfl (cs := #[.slice A0_0 l0_0.length c0_0, .int .i64 a0_1, .slice A0_2 l0_2.length c0_2, .int .i64 a0_3, .int .i64 a0_4, .slice (some ad2) l0_5.length c0_5]) (t := 37) (by first | (go_simp; done) | (go_simp; rfl)) ?_); intro g hg w1 hk hb; have j1 := Born.mk hg; have j2 := Bel.mk hb; have j3 := Blk.mk hk; clear hg hb hk))
 all_goals (refine start_ (n := 35) (S := fun w' => Below w1.heap.size w1 w') (ds := []) (spec_ShopOk.m 0) (by kernel_rfl) rfl (by kernel_rfl) From.out (fun hHeld => ?_); refine with_tabW spec_ShopOk.tab2 spec_ShopOk.bits2 (fun HT_ HW_ => ?_))
 all_goals first | (refine pA 0 (some 7) HT_.out ?_ (l' := (spec_ShopOk.m 1)) (hl := by rfl)) | (refine pU 0 (some 7) HT_.out ?_ (l' := (spec_ShopOk.m 1)) (hl := by rfl))
 all_goals first | (refine pT 1 (some 8) HT_.out HW_.out hHeld ?_ (l' := (spec_ShopOk.m 2)) (hl := by rfl) (hy := by intro w' hS; have jS : Sin w1 w' := ⟨hS⟩; go_simp; with_reducible rfl)) | (refine pU 1 (some 8) HT_.out ?_ (l' := (spec_ShopOk.m 2)) (hl := by rfl))
 all_goals first | (refine one_ (i := 2) (N := some 9) (spec_ShopOk.m 3) rfl rfl (one_of HT_.out (by kernel_rfl)) (by decide) (fun K hK => ?_); refine goes_ Tryz.func86 (by kernel_rfl) rfl #[.agg #[.slice A0_0 l0_0.length c0_0, .int .i64 a0_1, .slice A0_2 l0_2.length c0_2]] (by rfl) rfl rfl (by (try simp only [List.map_toArray, List.map_cons, List.map_nil]); first | done | rfl) ?_; refine (spec_WorkOk.calls k _ _ _ _ _ _ _ _ _ Rd.out LeI.out Rd.out LeI.out A1.out).mono ?_; rintro e w2 ⟨rfl, hb⟩; have jb := Bel.mk hb; clear hb; refine ⟨_, rfl, ?_⟩; refine hK.out _ _ From.out (fun hHeld => ?_); clear hK K; refine norm_ (a' := ?_) ?_ ?_; rotate_left; (focus (show Act.put _ (some 9) _ = _; simp only [Act.put, List.setIfInBounds_toArray, List.set_cons_zero, List.set_cons_succ, i64_w, i32_w]; rfl))) | (refine pU 2 (some 9) HT_.out ?_ (l' := (spec_ShopOk.m 3)) (hl := by rfl))
 all_goals first | (refine pA 3 (some 10) HT_.out ?_ (l' := (spec_ShopOk.m 4)) (hl := by rfl)) | (refine pU 3 (some 10) HT_.out ?_ (l' := (spec_ShopOk.m 4)) (hl := by rfl))
 all_goals first | (refine pA 4 (some 11) HT_.out ?_ (l' := (spec_ShopOk.m 5)) (hl := by rfl)) | (refine pU 4 (some 11) HT_.out ?_ (l' := (spec_ShopOk.m 5)) (hl := by rfl))
 all_goals first | (refine pT 5 (some 12) HT_.out HW_.out hHeld ?_ (l' := (spec_ShopOk.m 6)) (hl := by rfl) (hy := by intro w' hS; have jS : Sin w1 w' := ⟨hS⟩; go_simp; with_reducible rfl)) | (refine pU 5 (some 12) HT_.out ?_ (l' := (spec_ShopOk.m 6)) (hl := by rfl))
 all_goals first | (refine one_ (i := 6) (N := some 13) (spec_ShopOk.m 7) rfl rfl (one_of HT_.out (by kernel_rfl)) (by decide) (fun K hK => ?_); refine goes_ Tryz.func87 (by kernel_rfl) rfl #[.slice _ l0_5.length c0_5] (by rfl) rfl rfl (by (try simp only [List.map_toArray, List.map_cons, List.map_nil]); first | done | rfl) ?_; refine (spec_LogOk.calls k _ _ _ _ _ Rd.out LeI.out A2.out).mono ?_; rintro e w2 ⟨rfl, hb⟩; have jb := Bel.mk hb; clear hb; refine ⟨_, rfl, ?_⟩; refine hK.out _ _ From.out (fun hHeld => ?_); clear hK K; refine norm_ (a' := ?_) ?_ ?_; rotate_left; (focus (show Act.put _ (some 13) _ = _; simp only [Act.put, List.setIfInBounds_toArray, List.set_cons_zero, List.set_cons_succ, i64_w, i32_w]; rfl))) | (refine pU 6 (some 13) HT_.out ?_ (l' := (spec_ShopOk.m 7)) (hl := by rfl))
 all_goals first | (refine pA 7 (some 14) HT_.out ?_ (l' := (spec_ShopOk.m 8)) (hl := by rfl)) | (refine pU 7 (some 14) HT_.out ?_ (l' := (spec_ShopOk.m 8)) (hl := by rfl))
 all_goals first | (refine pA 8 (some 15) HT_.out ?_ (l' := (spec_ShopOk.m 9)) (hl := by rfl)) | (refine pU 8 (some 15) HT_.out ?_ (l' := (spec_ShopOk.m 9)) (hl := by rfl))
 all_goals first | (refine pA 9 (some 16) HT_.out ?_ (l' := (spec_ShopOk.m 10)) (hl := by rfl)) | (refine pU 9 (some 16) HT_.out ?_ (l' := (spec_ShopOk.m 10)) (hl := by rfl))
 all_goals first | (refine pT 10 (some 17) HT_.out HW_.out hHeld ?_ (l' := (spec_ShopOk.m 11)) (hl := by rfl) (hy := by intro w' hS; have jS : Sin w1 w' := ⟨hS⟩; go_simp; with_reducible rfl)) | (refine pU 10 (some 17) HT_.out ?_ (l' := (spec_ShopOk.m 11)) (hl := by rfl))
 all_goals first | (refine one_ (i := 11) (N := some 18) (spec_ShopOk.m 12) rfl rfl (one_of HT_.out (by kernel_rfl)) (by decide) (fun K hK => ?_); refine goes_ Tryz.func88 (by kernel_rfl) rfl #[.int .i64 a0_3, .int .i64 (-10), .int .i64 40] (by rfl) rfl rfl (by (try simp only [List.map_toArray, List.map_cons, List.map_nil]); first | done | rfl) ?_; refine (spec_l01In.calls _ _ _ _ _ A3.out).mono ?_; rintro e w2 ⟨rfl, n, rfl⟩; refine ⟨_, rfl, ?_⟩; refine hK.out _ _ From.out (fun hHeld => ?_); clear hK K; refine norm_ (a' := ?_) ?_ ?_; rotate_left; (focus (show Act.put _ (some 18) _ = _; simp only [Act.put, List.setIfInBounds_toArray, List.set_cons_zero, List.set_cons_succ, i64_w, i32_w]; rfl))) | (refine pU 11 (some 18) HT_.out ?_ (l' := (spec_ShopOk.m 12)) (hl := by rfl))
 all_goals first | (refine pA 12 (some 19) HT_.out ?_ (l' := (spec_ShopOk.m 13)) (hl := by rfl)) | (refine pU 12 (some 19) HT_.out ?_ (l' := (spec_ShopOk.m 13)) (hl := by rfl))
 all_goals first | (refine pA 13 (some 20) HT_.out ?_ (l' := (spec_ShopOk.m 14)) (hl := by rfl)) | (refine pU 13 (some 20) HT_.out ?_ (l' := (spec_ShopOk.m 14)) (hl := by rfl))
 all_goals first | (refine pA 14 (some 21) HT_.out ?_ (l' := (spec_ShopOk.m 15)) (hl := by rfl)) | (refine pU 14 (some 21) HT_.out ?_ (l' := (spec_ShopOk.m 15)) (hl := by rfl))
 all_goals first | (refine pT 15 (some 22) HT_.out HW_.out hHeld ?_ (l' := (spec_ShopOk.m 16)) (hl := by rfl) (hy := by intro w' hS; have jS : Sin w1 w' := ⟨hS⟩; go_simp; with_reducible rfl)) | (refine pU 15 (some 22) HT_.out ?_ (l' := (spec_ShopOk.m 16)) (hl := by rfl))
 all_goals first | (refine one_ (i := 16) (N := some 23) (spec_ShopOk.m 17) rfl rfl (one_of HT_.out (by kernel_rfl)) (by decide) (fun K hK => ?_); refine goes_ Tryz.func88 (by kernel_rfl) rfl #[.int .i64 a0_4, .int .i64 0, .int .i64 100000] (by rfl) rfl rfl (by (try simp only [List.map_toArray, List.map_cons, List.map_nil]); first | done | rfl) ?_; refine (spec_l01In.calls _ _ _ _ _ A4.out).mono ?_; rintro e w2 ⟨rfl, n, rfl⟩; refine ⟨_, rfl, ?_⟩; refine hK.out _ _ From.out (fun hHeld => ?_); clear hK K; refine norm_ (a' := ?_) ?_ ?_; rotate_left; (focus (show Act.put _ (some 23) _ = _; simp only [Act.put, List.setIfInBounds_toArray, List.set_cons_zero, List.set_cons_succ, i64_w, i32_w]; rfl))) | (refine pU 16 (some 23) HT_.out ?_ (l' := (spec_ShopOk.m 17)) (hl := by rfl))
 all_goals first | (refine pA 17 (some 24) HT_.out ?_ (l' := (spec_ShopOk.m 18)) (hl := by rfl)) | (refine pU 17 (some 24) HT_.out ?_ (l' := (spec_ShopOk.m 18)) (hl := by rfl))
 all_goals first | (refine pA 18 (some 25) HT_.out ?_ (l' := (spec_ShopOk.m 19)) (hl := by rfl)) | (refine pU 18 (some 25) HT_.out ?_ (l' := (spec_ShopOk.m 19)) (hl := by rfl))
 all_goals first | (refine pA 19 (some 26) HT_.out ?_ (l' := (spec_ShopOk.m 20)) (hl := by rfl)) | (refine pU 19 (some 26) HT_.out ?_ (l' := (spec_ShopOk.m 20)) (hl := by rfl))
 all_goals first | (refine pA 20 (some 27) HT_.out ?_ (l' := (spec_ShopOk.m 21)) (hl := by rfl)) | (refine pU 20 (some 27) HT_.out ?_ (l' := (spec_ShopOk.m 21)) (hl := by rfl))
 all_goals first | (refine pA 21 (some 28) HT_.out ?_ (l' := (spec_ShopOk.m 22)) (hl := by rfl)) | (refine pU 21 (some 28) HT_.out ?_ (l' := (spec_ShopOk.m 22)) (hl := by rfl))
 all_goals first | (refine pA 22 (some 29) HT_.out ?_ (l' := (spec_ShopOk.m 23)) (hl := by rfl)) | (refine pU 22 (some 29) HT_.out ?_ (l' := (spec_ShopOk.m 23)) (hl := by rfl))
 all_goals first | (refine pT 23 (some 30) HT_.out HW_.out hHeld ?_ (l' := (spec_ShopOk.m 24)) (hl := by rfl) (hy := by intro w' hS; have jS : Sin w1 w' := ⟨hS⟩; go_simp; with_reducible rfl)) | (refine pU 23 (some 30) HT_.out ?_ (l' := (spec_ShopOk.m 24)) (hl := by rfl))
 all_goals first | (refine pA 24 (some 31) HT_.out ?_ (l' := (spec_ShopOk.m 25)) (hl := by rfl)) | (refine pU 24 (some 31) HT_.out ?_ (l' := (spec_ShopOk.m 25)) (hl := by rfl))
 all_goals first | (refine pA 25 (some 32) HT_.out ?_ (l' := (spec_ShopOk.m 26)) (hl := by rfl)) | (refine pU 25 (some 32) HT_.out ?_ (l' := (spec_ShopOk.m 26)) (hl := by rfl))
 all_goals first | (refine pA 26 (some 33) HT_.out ?_ (l' := (spec_ShopOk.m 27)) (hl := by rfl)) | (refine pU 26 (some 33) HT_.out ?_ (l' := (spec_ShopOk.m 27)) (hl := by rfl))
 all_goals first | (refine pA 27 (some 34) HT_.out ?_ (l' := (spec_ShopOk.m 28)) (hl := by rfl)) | (refine pU 27 (some 34) HT_.out ?_ (l' := (spec_ShopOk.m 28)) (hl := by rfl))
 all_goals first | (refine pT 28 (some 35) HT_.out HW_.out hHeld ?_ (l' := (spec_ShopOk.m 29)) (hl := by rfl) (hy := by intro w' hS; have jS : Sin w1 w' := ⟨hS⟩; go_simp; with_reducible rfl)) | (refine pU 28 (some 35) HT_.out ?_ (l' := (spec_ShopOk.m 29)) (hl := by rfl))
 all_goals first | (refine pA 29 (some 36) HT_.out ?_ (l' := (spec_ShopOk.m 30)) (hl := by rfl)) | (refine pU 29 (some 36) HT_.out ?_ (l' := (spec_ShopOk.m 30)) (hl := by rfl))
 all_goals first | (refine pT 30 (some 37) HT_.out HW_.out hHeld ?_ (l' := (spec_ShopOk.m 31)) (hl := by rfl) (hy := by intro w' hS; have jS : Sin w1 w' := ⟨hS⟩; go_simp; with_reducible rfl)) | (refine pU 30 (some 37) HT_.out ?_ (l' := (spec_ShopOk.m 31)) (hl := by rfl))
 all_goals first | (refine pA 31 (some 38) HT_.out ?_ (l' := (spec_ShopOk.m 32)) (hl := by rfl)) | (refine pU 31 (some 38) HT_.out ?_ (l' := (spec_ShopOk.m 32)) (hl := by rfl))
 all_goals first | (refine pA 32 (some 39) HT_.out ?_ (l' := (spec_ShopOk.m 33)) (hl := by rfl)) | (refine pU 32 (some 39) HT_.out ?_ (l' := (spec_ShopOk.m 33)) (hl := by rfl))
 all_goals first | (refine pA 33 (some 40) HT_.out ?_ (l' := (spec_ShopOk.m 34)) (hl := by rfl)) | (refine pU 33 (some 40) HT_.out ?_ (l' := (spec_ShopOk.m 34)) (hl := by rfl))
 all_goals first | (refine pA 34 (some 2) HT_.out ?_ (l' := (spec_ShopOk.m 35)) (hl := by rfl)) | (refine pU 34 (some 2) HT_.out ?_ (l' := (spec_ShopOk.m 35)) (hl := by rfl))
 all_goals refine done_ (done_of HT_.out (by kernel_rfl)) ?_
 all_goals try go_wp2
 all_goals go_ret
 all_goals exact ⟨by first | rfl | (simp [*]; done), From.out⟩
end Go.Proofs.YtanhnhkcpbdfmaaGreat.P
namespace Go.Proofs.YtanhnhkcpbdfmaaGreat.P
set_option maxHeartbeats 8000000
set_option maxRecDepth 100000
set_option synthInstance.maxHeartbeats 400000
set_option synthInstance.maxSize 100000
open Go.RowKit Go.Proofs.YtanhnhkcpbdfmaaGreatW.PrintWords Go.Proofs.YtanhnhkcpbdfmaaGreatW.PrintLast Go.Proofs.YtanhnhkcpbdfmaaGreatW.PrintMore Go.Proofs.YtanhnhkcpbdfmaaGreat.V
attribute [local go_sem] cell_b frozen_b
attribute [local go_sem] max2_int min2_int max_two min_two max_three min_three max_four min_four
def spec_ShopTune.f (k : Nat) (l0_0 : List (S112)) (a0_1 : Int) (l0_2 : List Int) (a0_3 : Int) (a0_4 : Int) (l0_5 : List (S104)) : Option ((List (S112)) × Int × List Int × Int × Int × (List (S104)) × Bool) := (spec_l38Copy.f l0_0 a0_1 l0_2 a0_3 a0_4 l0_5).bind fun bt227 => ((spec_ShopOk.f k l0_0 a0_1 l0_2 a0_3 a0_4 l0_5).bind fun t240 => (if t240 = true then ((spec_WrongSteps.f k l0_0 a0_1 l0_2).bind fun t241 => (if (t241.length : Int) > 0 then ((spec_MendStep.f k l0_0 a0_1 l0_2).bind fun bt244 => (some (bt244.1, bt244.2.1, bt244.2.2.1, bt227.2.2.2.1, bt227.2.2.2.2.1, bt227.2.2.2.2.2, bt244.2.2.2))) else ((spec_WorkStep.f k l0_0 a0_1 l0_2).bind fun bt252 => (some (bt252.1, bt252.2.1, bt252.2.2.1, bt227.2.2.2.1, bt227.2.2.2.2.1, bt227.2.2.2.2.2, bt252.2.2.2))))) else (some (bt227.1, bt227.2.1, bt227.2.2.1, bt227.2.2.2.1, bt227.2.2.2.2.1, bt227.2.2.2.2.2, false))))
theorem spec_ShopTune.calls (k : Nat) (A0_0 : Option Addr) (c0_0 : Nat) (l0_0 : List (S112)) (a0_1 : Int) (A0_2 : Option Addr) (c0_2 : Nat) (l0_2 : List Int) (a0_3 : Int) (a0_4 : Int) (A0_5 : Option Addr) (c0_5 : Nat) (l0_5 : List (S104)) (r1 : List (S112)) (r2 : Int) (r3 : List Int) (r4 : Int) (r5 : Int) (r6 : List (S104)) (r7 : Bool) (w : World) (hr0_0 : Kd.C k112 w A0_0 l0_0.length l0_0) (hc0_0 : l0_0.length ≤ c0_0) (hr0_2 : Kd.C (Kd.int .i64) w A0_2 l0_2.length l0_2) (hc0_2 : l0_2.length ≤ c0_2) (hr0_5 : Kd.C k104 w A0_5 l0_5.length l0_5) (hc0_5 : l0_5.length ≤ c0_5) (h : spec_ShopTune.f k l0_0 a0_1 l0_2 a0_3 a0_4 l0_5 = some (r1, r2, r3, r4, r5, r6, r7)) :
  Calls Tryz.prog 47 #[.agg #[.slice A0_0 l0_0.length c0_0, .int .i64 a0_1, .slice A0_2 l0_2.length c0_2, .int .i64 a0_3, .int .i64 a0_4, .slice A0_5 l0_5.length c0_5]] w fun e w' => ∃ v0_ v2_ v5_ : Value, e = .returned (.tuple #[.agg #[v0_, .int .i64 r2, v2_, .int .i64 r4, .int .i64 r5, v5_], .bool r7]) ∧ Kd.R k112 112 w' w.heap.size (fun _ => True) v0_ r1 ∧ Kd.R (Kd.int .i64) 3 w' w.heap.size (fun _ => True) v2_ r3 ∧ Kd.R k104 104 w' w.heap.size (fun _ => True) v5_ r6 ∧ Below w.heap.size w w' := by
 replace hr0_0 := RdE.mk hr0_0
 replace hc0_0 := LeI.mk hc0_0
 replace hr0_2 := RdE.mk hr0_2
 replace hc0_2 := LeI.mk hc0_2
 replace hr0_5 := RdE.mk hr0_5
 replace hc0_5 := LeI.mk hc0_5
 unfold spec_ShopTune.f at h
 have hu37 := Tryz.underlying37
 (repeat' first | ((with_reducible replace h := ite_some h); rcases h with ⟨hc, h⟩ | ⟨hc, h⟩ <;> first | exact (none_some h).elim | exact absurd hc (by decide) | subst hc | (replace hc := hF_ hc; subst hc) | (have hd := hI_ hc; have he := hJ_ hc; clear hc) | (have hd := hK_ hc; have he := hL_ hc) | (have hd := decide_eq_false hc) | (have hd := decide_eq_true hc) | skip))
 all_goals go_enter Tryz.func47, Tryz.ntmps47
 all_goals go_wp2_with ((first
  | ((with_reducible refine gate_dst (N := 1) rfl ?_); refine bV #[.slice A0_0 l0_0.length c0_0, .int .i64 a0_1, .slice A0_2 l0_2.length c0_2, .int .i64 a0_3, .int .i64 a0_4, .slice A0_5 l0_5.length c0_5] 37 fun g w1 j1 j2 j3 => ?_)
  | ((with_reducible refine gate_dst (N := 2) rfl ?_); refine bV #[.slice none 0 0, .int .i64 0, .slice none 0 0, .int .i64 0, .int .i64 0, .slice none 0 0] 37 fun g w1 j1 j2 j3 => ?_)
  | ((with_reducible refine gate_dst (N := 4) rfl ?_); refine bV #[.slice none 0 0, .int .i64 0, .slice none 0 0, .int .i64 0, .int .i64 0, .slice none 0 0] 37 fun g w1 j1 j2 j3 => ?_)
  | (go_at_call 45; replace h := bI h; obtain ⟨⟨t1, t2, t3, t4, t5, t6⟩, A, h⟩ := h; (try dsimp only at h); refine (spec_l38Copy.calls _ _ _ _ _ _ _ _ _ _ _ _ _ _ _ _ _ _ _ Rd.out LeI.out Rd.out LeI.out Rd.out LeI.out A).mono ?_; rintro e w2 ⟨v0, v1, v2, rfl, ho0, ho1, ho2, hb⟩; obtain ⟨B0, b0, rfl, j0, q0⟩ := rowS ho0; obtain ⟨B1, b1, rfl, j1, q1⟩ := rowS ho1; obtain ⟨B2, b2, rfl, j2, q2⟩ := rowS ho2; have jb := Bel.mk hb; clear A ho0 ho1 ho2 hb)
  | (go_at_call 37; replace h := bI h; obtain ⟨t, A, h⟩ := h; (try dsimp only at h); refine (spec_ShopOk.calls _ _ _ _ _ _ _ _ _ _ _ _ _ _ _ Rd.out LeI.out Rd.out LeI.out Rd.out LeI.out A).mono ?_; rintro e w2 ⟨rfl, hb⟩; have jb := Bel.mk hb; clear A hb)
  | (go_at_call 83; replace h := bI h; obtain ⟨t, A, h⟩ := h; (try dsimp only at h); refine (spec_WrongSteps.calls _ _ _ _ _ _ _ _ _ _ Rd.out LeI.out Rd.out LeI.out A).mono ?_; rintro e w2 ⟨v0, rfl, ho0, hb⟩; obtain ⟨B0, b0, rfl, j0, q0⟩ := rowS ho0; have jb := Bel.mk hb; clear A ho0 hb)
  | (go_at_call 97; replace h := bI h; obtain ⟨⟨t1, t2, t3, t4⟩, A, h⟩ := h; (try dsimp only at h); refine (spec_MendStep.calls _ _ _ _ _ _ _ _ _ _ _ _ _ Rd.out LeI.out Rd.out LeI.out A).mono ?_; rintro e w2 ⟨v0, v1, rfl, ho0, ho1, hb⟩; obtain ⟨B0, b0, rfl, j0, q0⟩ := rowS ho0; obtain ⟨B1, b1, rfl, j1, q1⟩ := rowS ho1; have jb := Bel.mk hb; clear A ho0 ho1 hb)
  | (go_at_call 98; replace h := bI h; obtain ⟨⟨t1, t2, t3, t4⟩, A, h⟩ := h; (try dsimp only at h); refine (spec_WorkStep.calls _ _ _ _ _ _ _ _ _ _ _ _ _ Rd.out LeI.out Rd.out LeI.out A).mono ?_; rintro e w2 ⟨v0, v1, rfl, ho0, ho1, hb⟩; obtain ⟨B0, b0, rfl, j0, q0⟩ := rowS ho0; obtain ⟨B1, b1, rfl, j1, q1⟩ := rowS ho1; have jb := Bel.mk hb; clear A ho0 ho1 hb)); (repeat' first | ((with_reducible replace h := ite_some h); rcases h with ⟨hc, h⟩ | ⟨hc, h⟩ <;> first | exact (none_some h).elim | exact absurd hc (by decide) | subst hc | (replace hc := hF_ hc; subst hc) | (have hd := hI_ hc; have he := hJ_ hc; clear hc) | (have hd := hK_ hc; have he := hL_ hc) | (have hd := decide_eq_false hc) | (have hd := decide_eq_true hc) | skip)); all_goals (try have hn : decide (0 < t.length) = true := decide_eq_true (by omega)); all_goals (try have hn : decide (0 < t.length) = false := decide_eq_false (by omega)))
 all_goals simp only [Option.some.injEq, Prod.mk.injEq] at h
 all_goals obtain ⟨rfl, rfl, rfl, rfl, rfl, rfl, rfl⟩ := h
 all_goals refine bodyPost_ret (results_ct rfl _ _ _ _ _ (0, 0) _ rfl Blk.out Tryz.underlying37 rfl (by kernel_rfl)) rfl ?_
 all_goals exact ⟨_, _, _, rfl, (by first | exact rowFin | exact Kd.R_nil _ _ _ _ _), (by first | exact rowFin | exact Kd.R_nil _ _ _ _ _), (by first | exact rowFin | exact Kd.R_nil _ _ _ _ _), From.out⟩
def spec_ShopWarm.f (k : Nat) (l0_0 : List (S112)) (a0_1 : Int) (l0_2 : List Int) (a0_3 : Int) (a0_4 : Int) (l0_5 : List (S104)) (a1 : Int) : Option ((List (S112)) × Int × List Int × Int × Int × (List (S104)) × Bool) := (spec_l38Copy.f l0_0 a0_1 l0_2 a0_3 a0_4 l0_5).bind fun bt262 => ((spec_ShopOk.f k l0_0 a0_1 l0_2 a0_3 a0_4 l0_5).bind fun t275 => (if t275 = true then (if a0_4 = 100000 then ((spec_l38Copy.f l0_0 a0_1 l0_2 a0_3 a0_4 l0_5).bind fun bt276 => (some (bt276.1, bt276.2.1, bt276.2.2.1, bt276.2.2.2.1, bt276.2.2.2.2.1, bt276.2.2.2.2.2, false))) else ((spec_ShopOk.f k bt262.1 bt262.2.1 bt262.2.2.1 a1 bt262.2.2.2.2.1 bt262.2.2.2.2.2).bind fun t288 => (if t288 = true then (some (bt262.1, bt262.2.1, bt262.2.2.1, a1, wrap64 (a0_4 + 1), bt262.2.2.2.2.2, true)) else ((spec_l38Copy.f l0_0 a0_1 l0_2 a0_3 a0_4 l0_5).bind fun bt289 => (some (bt289.1, bt289.2.1, bt289.2.2.1, bt289.2.2.2.1, bt289.2.2.2.2.1, bt289.2.2.2.2.2, false)))))) else ((spec_l38Copy.f l0_0 a0_1 l0_2 a0_3 a0_4 l0_5).bind fun bt301 => (some (bt301.1, bt301.2.1, bt301.2.2.1, bt301.2.2.2.1, bt301.2.2.2.2.1, bt301.2.2.2.2.2, false)))))
theorem spec_ShopWarm.calls (k : Nat) (A0_0 : Option Addr) (c0_0 : Nat) (l0_0 : List (S112)) (a0_1 : Int) (A0_2 : Option Addr) (c0_2 : Nat) (l0_2 : List Int) (a0_3 : Int) (a0_4 : Int) (A0_5 : Option Addr) (c0_5 : Nat) (l0_5 : List (S104)) (a1 : Int) (r1 : List (S112)) (r2 : Int) (r3 : List Int) (r4 : Int) (r5 : Int) (r6 : List (S104)) (r7 : Bool) (w : World) (hr0_0 : Kd.C k112 w A0_0 l0_0.length l0_0) (hc0_0 : l0_0.length ≤ c0_0) (hr0_2 : Kd.C (Kd.int .i64) w A0_2 l0_2.length l0_2) (hc0_2 : l0_2.length ≤ c0_2) (hr0_5 : Kd.C k104 w A0_5 l0_5.length l0_5) (hc0_5 : l0_5.length ≤ c0_5) (h : spec_ShopWarm.f k l0_0 a0_1 l0_2 a0_3 a0_4 l0_5 a1 = some (r1, r2, r3, r4, r5, r6, r7)) :
  Calls Tryz.prog 48 #[.agg #[.slice A0_0 l0_0.length c0_0, .int .i64 a0_1, .slice A0_2 l0_2.length c0_2, .int .i64 a0_3, .int .i64 a0_4, .slice A0_5 l0_5.length c0_5], .int .i64 a1] w fun e w' => ∃ v0_ v2_ v5_ : Value, e = .returned (.tuple #[.agg #[v0_, .int .i64 r2, v2_, .int .i64 r4, .int .i64 r5, v5_], .bool r7]) ∧ Kd.R k112 112 w' w.heap.size (fun _ => True) v0_ r1 ∧ Kd.R (Kd.int .i64) 3 w' w.heap.size (fun _ => True) v2_ r3 ∧ Kd.R k104 104 w' w.heap.size (fun _ => True) v5_ r6 ∧ Below w.heap.size w w' := by
 replace hr0_0 := RdE.mk hr0_0
 replace hc0_0 := LeI.mk hc0_0
 replace hr0_2 := RdE.mk hr0_2
 replace hc0_2 := LeI.mk hc0_2
 replace hr0_5 := RdE.mk hr0_5
 replace hc0_5 := LeI.mk hc0_5
 unfold spec_ShopWarm.f at h
 have hu37 := Tryz.underlying37
 (repeat' first | ((with_reducible replace h := ite_some h); rcases h with ⟨hc, h⟩ | ⟨hc, h⟩ <;> first | exact (none_some h).elim | exact absurd hc (by decide) | subst hc | (replace hc := hF_ hc; subst hc) | (have hd := hI_ hc; have he := hJ_ hc; clear hc) | (have hd := hK_ hc; have he := hL_ hc) | (have hd := decide_eq_false hc) | (have hd := decide_eq_true hc) | skip))
 all_goals go_enter Tryz.func48, Tryz.ntmps48
 all_goals go_wp2_with ((first
  | ((with_reducible refine gate_dst (N := 2) rfl ?_); refine bV #[.slice A0_0 l0_0.length c0_0, .int .i64 a0_1, .slice A0_2 l0_2.length c0_2, .int .i64 a0_3, .int .i64 a0_4, .slice A0_5 l0_5.length c0_5] 37 fun g w1 j1 j2 j3 => ?_)
  | ((with_reducible refine gate_dst (N := 4) rfl ?_); refine bV #[.slice none 0 0, .int .i64 0, .slice none 0 0, .int .i64 0, .int .i64 0, .slice none 0 0] 37 fun g w1 j1 j2 j3 => ?_)
  | ((with_reducible refine gate_dst (N := 6) rfl ?_); refine bV #[.slice none 0 0, .int .i64 0, .slice none 0 0, .int .i64 0, .int .i64 0, .slice none 0 0] 37 fun g w1 j1 j2 j3 => ?_)
  | (go_at_call 45; replace h := bI h; obtain ⟨⟨t1, t2, t3, t4, t5, t6⟩, A, h⟩ := h; (try dsimp only at h); refine (spec_l38Copy.calls _ _ _ _ _ _ _ _ _ _ _ _ _ _ _ _ _ _ _ Rd.out LeI.out Rd.out LeI.out Rd.out LeI.out A).mono ?_; rintro e w2 ⟨v0, v1, v2, rfl, ho0, ho1, ho2, hb⟩; obtain ⟨B0, b0, rfl, j0, q0⟩ := rowS ho0; obtain ⟨B1, b1, rfl, j1, q1⟩ := rowS ho1; obtain ⟨B2, b2, rfl, j2, q2⟩ := rowS ho2; have jb := Bel.mk hb; clear A ho0 ho1 ho2 hb)
  | (go_at_call 37; replace h := bI h; obtain ⟨t, A, h⟩ := h; (try dsimp only at h); refine (spec_ShopOk.calls _ _ _ _ _ _ _ _ _ _ _ _ _ _ _ Rd.out LeI.out Rd.out LeI.out Rd.out LeI.out A).mono ?_; rintro e w2 ⟨rfl, hb⟩; have jb := Bel.mk hb; clear A hb)); (repeat' first | ((with_reducible replace h := ite_some h); rcases h with ⟨hc, h⟩ | ⟨hc, h⟩ <;> first | exact (none_some h).elim | exact absurd hc (by decide) | subst hc | (replace hc := hF_ hc; subst hc) | (have hd := hI_ hc; have he := hJ_ hc; clear hc) | (have hd := hK_ hc; have he := hL_ hc) | (have hd := decide_eq_false hc) | (have hd := decide_eq_true hc) | skip)))
 all_goals simp only [Option.some.injEq, Prod.mk.injEq] at h
 all_goals obtain ⟨rfl, rfl, rfl, rfl, rfl, rfl, rfl⟩ := h
 all_goals refine bodyPost_ret (results_ct rfl _ _ _ _ _ (0, 0) _ rfl Blk.out Tryz.underlying37 rfl (by kernel_rfl)) rfl ?_
 all_goals exact ⟨_, _, _, rfl, (by first | exact rowFin | exact Kd.R_nil _ _ _ _ _), (by first | exact rowFin | exact Kd.R_nil _ _ _ _ _), (by first | exact rowFin | exact Kd.R_nil _ _ _ _ _), From.out⟩
def spec_ShopFault.f (k : Nat) (l0_0 : List (S112)) (a0_1 : Int) (l0_2 : List Int) (a0_3 : Int) (a0_4 : Int) (l0_5 : List (S104)) (a1_0 : Int) (a1_1 : Int) (a2 : Int) : Option ((List (S112)) × Int × List Int × Int × Int × (List (S104)) × Bool) := (spec_l38Copy.f l0_0 a0_1 l0_2 a0_3 a0_4 l0_5).bind fun bt334 => ((spec_AddEntry.f k l0_5 a1_0 a1_1 a2 a0_4).bind fun bt347 => ((spec_ShopOk.f k l0_0 a0_1 l0_2 a0_3 a0_4 l0_5).bind fun t351 => (if t351 = true then (if bt347.2 = true then (some (bt334.1, bt334.2.1, bt334.2.2.1, bt334.2.2.2.1, bt334.2.2.2.2.1, bt347.1, true)) else (some (bt334.1, bt334.2.1, bt334.2.2.1, bt334.2.2.2.1, bt334.2.2.2.2.1, bt334.2.2.2.2.2, false))) else (some (bt334.1, bt334.2.1, bt334.2.2.1, bt334.2.2.2.1, bt334.2.2.2.2.1, bt334.2.2.2.2.2, false)))))
theorem spec_ShopFault.calls (k : Nat) (A0_0 : Option Addr) (c0_0 : Nat) (l0_0 : List (S112)) (a0_1 : Int) (A0_2 : Option Addr) (c0_2 : Nat) (l0_2 : List Int) (a0_3 : Int) (a0_4 : Int) (A0_5 : Option Addr) (c0_5 : Nat) (l0_5 : List (S104)) (a1_0 : Int) (a1_1 : Int) (a2 : Int) (r1 : List (S112)) (r2 : Int) (r3 : List Int) (r4 : Int) (r5 : Int) (r6 : List (S104)) (r7 : Bool) (w : World) (hr0_0 : Kd.C k112 w A0_0 l0_0.length l0_0) (hc0_0 : l0_0.length ≤ c0_0) (hr0_2 : Kd.C (Kd.int .i64) w A0_2 l0_2.length l0_2) (hc0_2 : l0_2.length ≤ c0_2) (hr0_5 : Kd.C k104 w A0_5 l0_5.length l0_5) (hc0_5 : l0_5.length ≤ c0_5) (h : spec_ShopFault.f k l0_0 a0_1 l0_2 a0_3 a0_4 l0_5 a1_0 a1_1 a2 = some (r1, r2, r3, r4, r5, r6, r7)) :
  Calls Tryz.prog 49 #[.agg #[.slice A0_0 l0_0.length c0_0, .int .i64 a0_1, .slice A0_2 l0_2.length c0_2, .int .i64 a0_3, .int .i64 a0_4, .slice A0_5 l0_5.length c0_5], .agg #[.int .i64 a1_0, .int .i64 a1_1], .int .i64 a2] w fun e w' => ∃ v0_ v2_ v5_ : Value, e = .returned (.tuple #[.agg #[v0_, .int .i64 r2, v2_, .int .i64 r4, .int .i64 r5, v5_], .bool r7]) ∧ Kd.R k112 112 w' w.heap.size (fun _ => True) v0_ r1 ∧ Kd.R (Kd.int .i64) 3 w' w.heap.size (fun _ => True) v2_ r3 ∧ Kd.R k104 104 w' w.heap.size (fun _ => True) v5_ r6 ∧ Below w.heap.size w w' := by
 replace hr0_0 := RdE.mk hr0_0
 replace hc0_0 := LeI.mk hc0_0
 replace hr0_2 := RdE.mk hr0_2
 replace hc0_2 := LeI.mk hc0_2
 replace hr0_5 := RdE.mk hr0_5
 replace hc0_5 := LeI.mk hc0_5
 unfold spec_ShopFault.f at h
 have hu37 := Tryz.underlying37
 have hu74 := Tryz.underlying74
 (repeat' first | ((with_reducible replace h := ite_some h); rcases h with ⟨hc, h⟩ | ⟨hc, h⟩ <;> first | exact (none_some h).elim | exact absurd hc (by decide) | subst hc | (replace hc := hF_ hc; subst hc) | (have hd := hI_ hc; have he := hJ_ hc; clear hc) | (have hd := hK_ hc; have he := hL_ hc) | (have hd := decide_eq_false hc) | (have hd := decide_eq_true hc) | skip))
 all_goals go_enter Tryz.func49, Tryz.ntmps49
 all_goals go_wp2_with ((first
  | ((with_reducible refine gate_dst (N := 3) rfl ?_); refine bV #[.slice A0_0 l0_0.length c0_0, .int .i64 a0_1, .slice A0_2 l0_2.length c0_2, .int .i64 a0_3, .int .i64 a0_4, .slice A0_5 l0_5.length c0_5] 37 fun g w1 j1 j2 j3 => ?_)
  | ((with_reducible refine gate_dst (N := 4) rfl ?_); refine bV #[.int .i64 a1_0, .int .i64 a1_1] 74 fun g w1 j1 j2 j3 => ?_)
  | ((with_reducible refine gate_dst (N := 6) rfl ?_); refine bV #[.slice none 0 0, .int .i64 0, .slice none 0 0, .int .i64 0, .int .i64 0, .slice none 0 0] 37 fun g w1 j1 j2 j3 => ?_)
  | ((with_reducible refine gate_dst (N := 8) rfl ?_); refine bV #[.slice none 0 0, .int .i64 0, .slice none 0 0, .int .i64 0, .int .i64 0, .slice none 0 0] 37 fun g w1 j1 j2 j3 => ?_)
  | (go_at_call 45; replace h := bI h; obtain ⟨⟨t1, t2, t3, t4, t5, t6⟩, A, h⟩ := h; (try dsimp only at h); refine (spec_l38Copy.calls _ _ _ _ _ _ _ _ _ _ _ _ _ _ _ _ _ _ _ Rd.out LeI.out Rd.out LeI.out Rd.out LeI.out A).mono ?_; rintro e w2 ⟨v0, v1, v2, rfl, ho0, ho1, ho2, hb⟩; obtain ⟨B0, b0, rfl, j0, q0⟩ := rowS ho0; obtain ⟨B1, b1, rfl, j1, q1⟩ := rowS ho1; obtain ⟨B2, b2, rfl, j2, q2⟩ := rowS ho2; have jb := Bel.mk hb; clear A ho0 ho1 ho2 hb)
  | (go_at_call 99; replace h := bI h; obtain ⟨⟨t1, t2⟩, A, h⟩ := h; (try dsimp only at h); refine (spec_AddEntry.calls _ _ _ _ _ _ _ _ _ _ _ Rd.out LeI.out A).mono ?_; rintro e w2 ⟨v0, rfl, ho0, hb⟩; obtain ⟨B0, b0, rfl, j0, q0⟩ := rowS ho0; have jb := Bel.mk hb; clear A ho0 hb)
  | (go_at_call 37; replace h := bI h; obtain ⟨t, A, h⟩ := h; (try dsimp only at h); refine (spec_ShopOk.calls _ _ _ _ _ _ _ _ _ _ _ _ _ _ _ Rd.out LeI.out Rd.out LeI.out Rd.out LeI.out A).mono ?_; rintro e w2 ⟨rfl, hb⟩; have jb := Bel.mk hb; clear A hb)); (repeat' first | ((with_reducible replace h := ite_some h); rcases h with ⟨hc, h⟩ | ⟨hc, h⟩ <;> first | exact (none_some h).elim | exact absurd hc (by decide) | subst hc | (replace hc := hF_ hc; subst hc) | (have hd := hI_ hc; have he := hJ_ hc; clear hc) | (have hd := hK_ hc; have he := hL_ hc) | (have hd := decide_eq_false hc) | (have hd := decide_eq_true hc) | skip)))
 all_goals simp only [Option.some.injEq, Prod.mk.injEq] at h
 all_goals obtain ⟨rfl, rfl, rfl, rfl, rfl, rfl, rfl⟩ := h
 all_goals refine bodyPost_ret (results_ct rfl _ _ _ _ _ (0, 0) _ rfl Blk.out Tryz.underlying37 rfl (by kernel_rfl)) rfl ?_
 all_goals exact ⟨_, _, _, rfl, (by first | exact rowFin | exact Kd.R_nil _ _ _ _ _), (by first | exact rowFin | exact Kd.R_nil _ _ _ _ _), (by first | exact rowFin | exact Kd.R_nil _ _ _ _ _), From.out⟩
def spec_ShopKnock.f (k : Nat) (l0_0 : List (S112)) (a0_1 : Int) (l0_2 : List Int) (a0_3 : Int) (a0_4 : Int) (l0_5 : List (S104)) (a1 : Int) (a2 : Int) : Option ((List (S112)) × Int × List Int × Int × Int × (List (S104)) × Bool) := (spec_l38Copy.f l0_0 a0_1 l0_2 a0_3 a0_4 l0_5).bind fun bt378 => ((spec_ShopOk.f k l0_0 a0_1 l0_2 a0_3 a0_4 l0_5).bind fun t391 => (if t391 = true then ((spec_KnockKey.f k l0_0 a0_1 l0_2 a1 a2).bind fun bt392 => (some (bt392.1, bt392.2.1, bt392.2.2.1, bt378.2.2.2.1, bt378.2.2.2.2.1, bt378.2.2.2.2.2, bt392.2.2.2))) else (some (bt378.1, bt378.2.1, bt378.2.2.1, bt378.2.2.2.1, bt378.2.2.2.2.1, bt378.2.2.2.2.2, false))))
theorem spec_ShopKnock.calls (k : Nat) (A0_0 : Option Addr) (c0_0 : Nat) (l0_0 : List (S112)) (a0_1 : Int) (A0_2 : Option Addr) (c0_2 : Nat) (l0_2 : List Int) (a0_3 : Int) (a0_4 : Int) (A0_5 : Option Addr) (c0_5 : Nat) (l0_5 : List (S104)) (a1 : Int) (a2 : Int) (r1 : List (S112)) (r2 : Int) (r3 : List Int) (r4 : Int) (r5 : Int) (r6 : List (S104)) (r7 : Bool) (w : World) (hr0_0 : Kd.C k112 w A0_0 l0_0.length l0_0) (hc0_0 : l0_0.length ≤ c0_0) (hr0_2 : Kd.C (Kd.int .i64) w A0_2 l0_2.length l0_2) (hc0_2 : l0_2.length ≤ c0_2) (hr0_5 : Kd.C k104 w A0_5 l0_5.length l0_5) (hc0_5 : l0_5.length ≤ c0_5) (h : spec_ShopKnock.f k l0_0 a0_1 l0_2 a0_3 a0_4 l0_5 a1 a2 = some (r1, r2, r3, r4, r5, r6, r7)) :
  Calls Tryz.prog 50 #[.agg #[.slice A0_0 l0_0.length c0_0, .int .i64 a0_1, .slice A0_2 l0_2.length c0_2, .int .i64 a0_3, .int .i64 a0_4, .slice A0_5 l0_5.length c0_5], .int .i64 a1, .int .i64 a2] w fun e w' => ∃ v0_ v2_ v5_ : Value, e = .returned (.tuple #[.agg #[v0_, .int .i64 r2, v2_, .int .i64 r4, .int .i64 r5, v5_], .bool r7]) ∧ Kd.R k112 112 w' w.heap.size (fun _ => True) v0_ r1 ∧ Kd.R (Kd.int .i64) 3 w' w.heap.size (fun _ => True) v2_ r3 ∧ Kd.R k104 104 w' w.heap.size (fun _ => True) v5_ r6 ∧ Below w.heap.size w w' := by
 replace hr0_0 := RdE.mk hr0_0
 replace hc0_0 := LeI.mk hc0_0
 replace hr0_2 := RdE.mk hr0_2
 replace hc0_2 := LeI.mk hc0_2
 replace hr0_5 := RdE.mk hr0_5
 replace hc0_5 := LeI.mk hc0_5
 unfold spec_ShopKnock.f at h
 have hu34 := Tryz.underlying34
 have hu37 := Tryz.underlying37
 (repeat' first | ((with_reducible replace h := ite_some h); rcases h with ⟨hc, h⟩ | ⟨hc, h⟩ <;> first | exact (none_some h).elim | exact absurd hc (by decide) | subst hc | (replace hc := hF_ hc; subst hc) | (have hd := hI_ hc; have he := hJ_ hc; clear hc) | (have hd := hK_ hc; have he := hL_ hc) | (have hd := decide_eq_false hc) | (have hd := decide_eq_true hc) | skip))
 all_goals go_enter Tryz.func50, Tryz.ntmps50
 all_goals go_wp2_with ((first
  | ((with_reducible refine gate_dst (N := 3) rfl ?_); refine bV #[.slice A0_0 l0_0.length c0_0, .int .i64 a0_1, .slice A0_2 l0_2.length c0_2, .int .i64 a0_3, .int .i64 a0_4, .slice A0_5 l0_5.length c0_5] 37 fun g w1 j1 j2 j3 => ?_)
  | ((with_reducible refine gate_dst (N := 6) rfl ?_); refine bV #[.slice none 0 0, .int .i64 0, .slice none 0 0, .int .i64 0, .int .i64 0, .slice none 0 0] 37 fun g w1 j1 j2 j3 => ?_)
  | ((with_reducible refine gate_dst (N := 8) rfl ?_); refine bV #[.slice none 0 0, .int .i64 0, .slice none 0 0, .int .i64 0, .int .i64 0, .slice none 0 0] 37 fun g w1 j1 j2 j3 => ?_)
  | ((with_reducible refine gate_dst (N := 9) rfl ?_); refine bV #[.slice none 0 0, .int .i64 0, .slice none 0 0] 34 fun g w1 j1 j2 j3 => ?_)
  | (go_at_call 45; replace h := bI h; obtain ⟨⟨t1, t2, t3, t4, t5, t6⟩, A, h⟩ := h; (try dsimp only at h); refine (spec_l38Copy.calls _ _ _ _ _ _ _ _ _ _ _ _ _ _ _ _ _ _ _ Rd.out LeI.out Rd.out LeI.out Rd.out LeI.out A).mono ?_; rintro e w2 ⟨v0, v1, v2, rfl, ho0, ho1, ho2, hb⟩; obtain ⟨B0, b0, rfl, j0, q0⟩ := rowS ho0; obtain ⟨B1, b1, rfl, j1, q1⟩ := rowS ho1; obtain ⟨B2, b2, rfl, j2, q2⟩ := rowS ho2; have jb := Bel.mk hb; clear A ho0 ho1 ho2 hb)
  | (go_at_call 37; replace h := bI h; obtain ⟨t, A, h⟩ := h; (try dsimp only at h); refine (spec_ShopOk.calls _ _ _ _ _ _ _ _ _ _ _ _ _ _ _ Rd.out LeI.out Rd.out LeI.out Rd.out LeI.out A).mono ?_; rintro e w2 ⟨rfl, hb⟩; have jb := Bel.mk hb; clear A hb)
  | (go_at_call 100; replace h := bI h; obtain ⟨⟨t1, t2, t3, t4⟩, A, h⟩ := h; (try dsimp only at h); refine (spec_KnockKey.calls _ _ _ _ _ _ _ _ _ _ _ _ _ _ _ Rd.out LeI.out Rd.out LeI.out A).mono ?_; rintro e w2 ⟨v0, v1, rfl, ho0, ho1, hb⟩; obtain ⟨B0, b0, rfl, j0, q0⟩ := rowS ho0; obtain ⟨B1, b1, rfl, j1, q1⟩ := rowS ho1; have jb := Bel.mk hb; clear A ho0 ho1 hb)); (repeat' first | ((with_reducible replace h := ite_some h); rcases h with ⟨hc, h⟩ | ⟨hc, h⟩ <;> first | exact (none_some h).elim | exact absurd hc (by decide) | subst hc | (replace hc := hF_ hc; subst hc) | (have hd := hI_ hc; have he := hJ_ hc; clear hc) | (have hd := hK_ hc; have he := hL_ hc) | (have hd := decide_eq_false hc) | (have hd := decide_eq_true hc) | skip)))
 all_goals simp only [Option.some.injEq, Prod.mk.injEq] at h
 all_goals obtain ⟨rfl, rfl, rfl, rfl, rfl, rfl, rfl⟩ := h
 all_goals refine bodyPost_ret (results_ct rfl _ _ _ _ _ (0, 0) _ rfl Blk.out Tryz.underlying37 rfl (by kernel_rfl)) rfl ?_
 all_goals exact ⟨_, _, _, rfl, (by first | exact rowFin | exact Kd.R_nil _ _ _ _ _), (by first | exact rowFin | exact Kd.R_nil _ _ _ _ _), (by first | exact rowFin | exact Kd.R_nil _ _ _ _ _), From.out⟩
end Go.Proofs.YtanhnhkcpbdfmaaGreat.P
namespace Go.Proofs.YtanhnhkcpbdfmaaGreat.P
set_option maxHeartbeats 8000000
set_option maxRecDepth 100000
open Go.RowKit Go.Proofs.YtanhnhkcpbdfmaaGreatW.PrintWords Go.Proofs.YtanhnhkcpbdfmaaGreatW.PrintLast Go.Proofs.YtanhnhkcpbdfmaaGreatW.PrintMore
attribute [local go_sem] max2_int min2_int max_two min_two max_three min_three max_four min_four
def spec_StepsLeft.f (k : Nat) (l0_0 : List (S112)) (a0_1 : Int) (l0_2 : List Int) (a0_3 : Int) (a0_4 : Int) (l0_5 : List (S104)) : Option (Int) := (spec_ShopOk.f k l0_0 a0_1 l0_2 a0_3 a0_4 l0_5).bind fun t140 => (if t140 = true then ((spec_WrongSteps.f k l0_0 a0_1 l0_2).bind fun t141 => (some (wrap64 ((wrap64 ((l0_0.length : Int) - a0_1)) + (t141.length : Int))))) else (some 0))
def spec_StepsLeft.T3 : Bool × List (List Nat × List Nat) := (true, [([], []), ([0], [0]), ([1], [1]), ([2], [2]), ([], []), ([4], [4]), ([5], [5]), ([3, 6], [3, 6]), ([], []), ([8], [8]), ([9], [9]), ([10], [10]), ([7, 11], [7, 11]), ([12, 10, 0, 1, 2, 3, 4, 5, 6, 7, 8, 9, 10, 11, 12], [12])])
def spec_StepsLeft.B3 : List Nat := [0, 1, 3, 7, 0, 16, 48, 127, 0, 256, 768, 1792, 4095, 8191]
theorem spec_StepsLeft.tab3 : rtab .any (opsOf Tryz.f35 3) = spec_StepsLeft.T3 := by kernel_rfl
theorem spec_StepsLeft.bits3 : waitsOk spec_StepsLeft.T3.2 spec_StepsLeft.B3 = true := by kernel_rfl
theorem spec_StepsLeft.calls (k : Nat) (A0_0 : Option Addr) (c0_0 : Nat) (l0_0 : List (S112)) (a0_1 : Int) (A0_2 : Option Addr) (c0_2 : Nat) (l0_2 : List Int) (a0_3 : Int) (a0_4 : Int) (A0_5 : Option Addr) (c0_5 : Nat) (l0_5 : List (S104)) (r : Int) (w : World) (hr0_0 : Kd.C k112 w A0_0 l0_0.length l0_0) (hc0_0 : l0_0.length ≤ c0_0) (hr0_2 : Kd.C (Kd.int .i64) w A0_2 l0_2.length l0_2) (hc0_2 : l0_2.length ≤ c0_2) (hr0_5 : Kd.C k104 w A0_5 l0_5.length l0_5) (hc0_5 : l0_5.length ≤ c0_5) (h : spec_StepsLeft.f k l0_0 a0_1 l0_2 a0_3 a0_4 l0_5 = some r) :
  Calls Tryz.prog 35 #[.agg #[.slice A0_0 l0_0.length c0_0, .int .i64 a0_1, .slice A0_2 l0_2.length c0_2, .int .i64 a0_3, .int .i64 a0_4, .slice A0_5 l0_5.length c0_5]] w fun e w' => e = .returned (.int .i64 r) ∧ Below w.heap.size w w' := by
 have hu37 := Tryz.underlying37
 have hu34 := Tryz.underlying34
 have HR0_0 := A_ hr0_0
 have HC0_0 := A_ hc0_0
 clear hr0_0 hc0_0
 have HR0_2 := A_ hr0_2
 have HC0_2 := A_ hc0_2
 clear hr0_2 hc0_2
 have HR0_5 := A_ hr0_5
 have HC0_5 := A_ hc0_5
 clear hr0_5 hc0_5
 have HB := A_ (Below.refl w.heap.size w)
 have H : ((spec_ShopOk.f k l0_0 a0_1 l0_2 a0_3 a0_4 l0_5).bind fun t140 => (if t140 = true then ((spec_WrongSteps.f k l0_0 a0_1 l0_2).bind fun t141 => (some (wrap64 ((wrap64 ((l0_0.length : Int) - a0_1)) + (t141.length : Int))))) else (some 0))) = some r := h
 clear h
 replace H := Option.bind_eq_some_iff.mp H
 obtain ⟨t140, A20, H⟩ := H
 (try dsimp only at H)
 have A2 := A_ A20
 clear A20
 by_cases c3 : t140 = true
 ·subst c3
  rw [if_pos rfl] at H
  replace H := Option.bind_eq_some_iff.mp H
  obtain ⟨t141, A40, H⟩ := H
  (try dsimp only at H)
  have A4 := A_ A40
  clear A40
  obtain rfl := Option.some.inj H
  go_enter Tryz.func35, Tryz.ntmps35
  try go_wp2_with (first | ((with_reducible refine gate_dst (N := 1) rfl ?_); refine bX (N := 1) (cs := #[.slice A0_0 l0_0.length c0_0, .int .i64 a0_1, .slice A0_2 l0_2.length c0_2, .int .i64 a0_3, .int .i64 a0_4, .slice A0_5 l0_5.length c0_5]) (t := 37) ?_; intro gb139 hg w5 hbox hb; have n0_ := A_ (below_step (oB HB) hb); have n1_ := A_ (hbox); have n2_ := A_ ((by rw [hg]; exact (below_size (oB HB)) : w.heap.size ≤ gb139)); have n3_ := A_ ((by rw [hg]; exact (below_size (oB HB)) : w.heap.size ≤ gb139)); clear HB; have HB := n0_; have BK139 := n1_; have GW139 := n2_; have GE139 := n3_; clear n0_ n1_ n2_ n3_; clear hb hbox hg; have hcz6_0 := cz BK139 0; have hcz6_1 := cz BK139 1; have hcz6_2 := cz BK139 2; have hcz6_3 := cz BK139 3; have hcz6_4 := cz BK139 4; have hcz6_5 := cz BK139 5; have hfz6_0 := blk_frozen BK139.out 0; have hfz6_1 := blk_frozen BK139.out 1; have hfz6_2 := blk_frozen BK139.out 2; have hfz6_3 := blk_frozen BK139.out 3; have hfz6_4 := blk_frozen BK139.out 4; have hfz6_5 := blk_frozen BK139.out 5) | ((with_reducible refine gate_callee (f := 37) rfl ?_); refine gL (some 4) Tryz.func37 #[.agg #[.slice A0_0 l0_0.length c0_0, .int .i64 a0_1, .slice A0_2 l0_2.length c0_2, .int .i64 a0_3, .int .i64 a0_4, .slice A0_5 l0_5.length c0_5]] ?_; (with_reducible refine (spec_ShopOk.calls k _ _ l0_0 a0_1 _ _ l0_2 a0_3 a0_4 _ _ l0_5 true _ ?side1 ?side2 ?side3 ?side4 ?side5 ?side6 A2.out).mono ?_); (case side1 => exact oc_ HR0_0.out); (case side2 => exact HC0_0.out); (case side3 => exact oc_ HR0_2.out); (case side4 => exact HC0_2.out); (case side5 => exact oc_ HR0_5.out); (case side6 => exact HC0_5.out); rintro e w7 ⟨rfl, hb⟩; refine ⟨_, rfl, ?_⟩; have n0_ := A_ (bb BK139 hb); have n1_ := A_ (below_step (oB HB) hb); clear BK139; clear HB; have BK139 := n0_; have HB := n1_; clear n0_ n1_; (try clear hb); (try clear hb2); (try clear hk); (try clear hi)))
  have n0_ := A_ (blk_drew BK139.out)
  have n1_ := A_ (below_drew1 HB.out)
  clear BK139
  clear HB
  have BK139 := n0_
  have HB := n1_
  clear n0_ n1_
  refine start_ (n := 14) (S := fun w' => w'.cell? ⟨gb139, 0, none⟩ = some (.slice A0_0 l0_0.length c0_0) ∧ w'.cell? ⟨gb139, 1, none⟩ = some (.int .i64 a0_1) ∧ w'.cell? ⟨gb139, 2, none⟩ = some (.slice A0_2 l0_2.length c0_2) ∧ w'.cell? ⟨gb139, 3, none⟩ = some (.int .i64 a0_3) ∧ w'.cell? ⟨gb139, 4, none⟩ = some (.int .i64 a0_4) ∧ w'.cell? ⟨gb139, 5, none⟩ = some (.slice A0_5 l0_5.length c0_5)) (ds := []) #[false, false, false, false, false, false, false, false, false, false, false, false, false, false] (by kernel_rfl) rfl rfl ⟨cz BK139 0, cz BK139 1, cz BK139 2, cz BK139 3, cz BK139 4, cz BK139 5⟩ (fun hHeld => ?_); refine with_tabW spec_StepsLeft.tab3 spec_StepsLeft.bits3 (fun HT_ HW_ => ?_)
  generalize w7.drew = w8 at BK139 HB hHeld ⊢
  refine pA 0 (some 6) HT_.out ?_
  refine pA 1 (some 7) HT_.out ?_
  refine pA 4 (some 10) HT_.out ?_
  refine pA 5 (some 11) HT_.out ?_
  refine pA 8 (some 14) HT_.out ?_
  refine pT 2 (some 8) HT_.out HW_.out hHeld ?_
  refine pA 3 (some 9) HT_.out ?_
  refine pT 6 (some 12) HT_.out HW_.out hHeld ?_
  refine pA 7 (some 13) HT_.out ?_
  refine pT 9 (some 15) HT_.out HW_.out hHeld ?_
  refine one_ (i := 10) (N := some 16) #[true, true, true, true, true, true, true, true, true, true, true, false, false, false] rfl rfl (one_of HT_.out (by kernel_rfl)) (by decide) (fun K hK => ?_)
  refine goes_ Tryz.func83 (by kernel_rfl) rfl #[.agg #[.slice A0_0 l0_0.length c0_0, .int .i64 a0_1, .slice A0_2 l0_2.length c0_2]] (by rfl) rfl rfl (by (try simp only [List.map_toArray, List.map_cons, List.map_nil]); first | done | rfl | (simp only [List.length_drop, List.length_take]; rfl)) ?_
  with_reducible refine (spec_WrongSteps.calls k _ _ l0_0 a0_1 _ _ l0_2 t141 _ ?side1 ?side2 ?side3 ?side4 A4.out).mono ?_
  (case side1 => exact oc_ HR0_0.out)
  (case side2 => exact HC0_0.out)
  (case side3 => exact oc_ HR0_2.out)
  (case side4 => exact HC0_2.out)
  rintro e w9 ⟨v142, rfl, ho0, hb⟩
  refine ⟨_, rfl, ?_⟩
  have n0_ := A_ (Kd.R_lower ho0 (below_size (oB HB)))
  have n1_ := A_ (bb BK139 hb)
  have n2_ := A_ (below_step (oB HB) hb)
  clear BK139
  clear HB
  have HO143 := n0_
  have BK139 := n1_
  have HB := n2_
  clear n0_ n1_ n2_
  (try clear hb)
  (try clear hb2)
  (try clear hk)
  (try clear hi)
  (try clear ho0)
  obtain ⟨Ao10, co10, eo10⟩ := Kd.R_slice HO143.out
  (first | subst eo10 | (injection eo10 with f1_ f2_ f3_; have f4_ := f1_.symm; have f5_ := f3_.symm; clear f1_ f2_ f3_; subst f4_; subst f5_))
  refine hK.out _ _ ⟨cz BK139 0, cz BK139 1, cz BK139 2, cz BK139 3, cz BK139 4, cz BK139 5⟩ (fun hHeld => ?_)
  clear hK K
  refine norm_ (a' := ?_) ?_ ?_
  rotate_left
  ·show Act.put _ (some 16) _ = _
   simp only [Act.put, List.setIfInBounds_toArray, List.set_cons_zero, List.set_cons_succ, i64_w, i32_w]
   rfl
  refine pA 11 (some 17) HT_.out ?_
  refine pA 12 (some 18) HT_.out ?_
  refine pA 13 (some 2) HT_.out ?_
  refine done_ (done_of HT_.out (by kernel_rfl)) ?_
  try go_wp2
  go_ret
  exact ⟨eR, oB HB⟩
 ·replace c3 := Bool.eq_false_iff.mpr c3
  subst c3
  rw [if_neg (show ¬ (false = true) by decide)] at H
  obtain rfl := Option.some.inj H
  go_enter Tryz.func35, Tryz.ntmps35
  go_wp2_with (first | ((with_reducible refine gate_dst (N := 1) rfl ?_); refine bX (N := 1) (cs := #[.slice A0_0 l0_0.length c0_0, .int .i64 a0_1, .slice A0_2 l0_2.length c0_2, .int .i64 a0_3, .int .i64 a0_4, .slice A0_5 l0_5.length c0_5]) (t := 37) ?_; intro gb139 hg w11 hbox hb; have n0_ := A_ (below_step (oB HB) hb); have n1_ := A_ (hbox); have n2_ := A_ ((by rw [hg]; exact (below_size (oB HB)) : w.heap.size ≤ gb139)); have n3_ := A_ ((by rw [hg]; exact (below_size (oB HB)) : w.heap.size ≤ gb139)); clear HB; have HB := n0_; have BK139 := n1_; have GW139 := n2_; have GE139 := n3_; clear n0_ n1_ n2_ n3_; clear hb hbox hg; have hcz12_0 := cz BK139 0; have hcz12_1 := cz BK139 1; have hcz12_2 := cz BK139 2; have hcz12_3 := cz BK139 3; have hcz12_4 := cz BK139 4; have hcz12_5 := cz BK139 5; have hfz12_0 := blk_frozen BK139.out 0; have hfz12_1 := blk_frozen BK139.out 1; have hfz12_2 := blk_frozen BK139.out 2; have hfz12_3 := blk_frozen BK139.out 3; have hfz12_4 := blk_frozen BK139.out 4; have hfz12_5 := blk_frozen BK139.out 5) | ((with_reducible refine gate_callee (f := 37) rfl ?_); refine gL (some 4) Tryz.func37 #[.agg #[.slice A0_0 l0_0.length c0_0, .int .i64 a0_1, .slice A0_2 l0_2.length c0_2, .int .i64 a0_3, .int .i64 a0_4, .slice A0_5 l0_5.length c0_5]] ?_; (with_reducible refine (spec_ShopOk.calls k _ _ l0_0 a0_1 _ _ l0_2 a0_3 a0_4 _ _ l0_5 false _ ?side1 ?side2 ?side3 ?side4 ?side5 ?side6 A2.out).mono ?_); (case side1 => exact oc_ HR0_0.out); (case side2 => exact HC0_0.out); (case side3 => exact oc_ HR0_2.out); (case side4 => exact HC0_2.out); (case side5 => exact oc_ HR0_5.out); (case side6 => exact HC0_5.out); rintro e w13 ⟨rfl, hb⟩; refine ⟨_, rfl, ?_⟩; have n0_ := A_ (bb BK139 hb); have n1_ := A_ (below_step (oB HB) hb); clear BK139; clear HB; have BK139 := n0_; have HB := n1_; clear n0_ n1_; (try clear hb); (try clear hb2); (try clear hk); (try clear hi)))
  go_ret
  exact ⟨eR, oB HB⟩
end Go.Proofs.YtanhnhkcpbdfmaaGreat.P
namespace Go.Proofs.YtanhnhkcpbdfmaaGreat.P
set_option maxHeartbeats 8000000
set_option maxRecDepth 100000
set_option synthInstance.maxHeartbeats 400000
set_option synthInstance.maxSize 100000
open Go.RowKit Go.Proofs.YtanhnhkcpbdfmaaGreatW.PrintWords Go.Proofs.YtanhnhkcpbdfmaaGreatW.PrintLast Go.Proofs.YtanhnhkcpbdfmaaGreatW.PrintMore Go.Proofs.YtanhnhkcpbdfmaaGreat.V
attribute [local go_sem] cell_b frozen_b cellR_c cell_r frozen_r cell_r0 frozen_r0
attribute [local go_sem] max2_int min2_int max_two min_two max_three min_three max_four min_four
def spec_HeardAt.f (k : Nat) (l0_0 : List (S112)) (a0_1 : Int) (l0_2 : List Int) (a0_3 : Int) (a0_4 : Int) (l0_5 : List (S104)) (a1 : Int) : Option (Int) := (spec_ShopOk.f k l0_0 a0_1 l0_2 a0_3 a0_4 l0_5).bind fun t446 => (if t446 = true then ((spec_l01In.f a1 0 11).bind fun t447 => (if t447 = true then ((spec_FaultOf.f k l0_5 0 a1).bind fun t448 => (if t448 = 1 then (some 0) else (if 0 ≤ a1 then (if a1 < (l0_2.length : Int) then ((spec_WarmPitch.f (rd l0_2 a1) a0_3).bind fun t450 => (some t450)) else (none)) else (none)))) else (some 0))) else (some 0))
noncomputable def spec_HeardAt.T3 : Bool × List (List Nat × List Nat) := rtab .any (opsOf Tryz.f52 3)
def spec_HeardAt.B3 : List Nat := [0, 1, 3, 0, 15, 31, 0, 64, 255, 511]
theorem spec_HeardAt.tab3 : rtab .any (opsOf Tryz.f52 3) = spec_HeardAt.T3 := rfl
theorem spec_HeardAt.bits3 : waitsOk spec_HeardAt.T3.2 spec_HeardAt.B3 = true := by kernel_rfl
theorem spec_HeardAt.calls (k : Nat) (A0_0 : Option Addr) (c0_0 : Nat) (l0_0 : List (S112)) (a0_1 : Int) (A0_2 : Option Addr) (c0_2 : Nat) (l0_2 : List Int) (a0_3 : Int) (a0_4 : Int) (A0_5 : Option Addr) (c0_5 : Nat) (l0_5 : List (S104)) (a1 : Int) (r : Int) (w : World) (hr0_0 : Kd.C k112 w A0_0 l0_0.length l0_0) (hc0_0 : l0_0.length ≤ c0_0) (hr0_2 : Kd.C (Kd.int .i64) w A0_2 l0_2.length l0_2) (hc0_2 : l0_2.length ≤ c0_2) (hr0_5 : Kd.C k104 w A0_5 l0_5.length l0_5) (hc0_5 : l0_5.length ≤ c0_5) (h : spec_HeardAt.f k l0_0 a0_1 l0_2 a0_3 a0_4 l0_5 a1 = some r) :
  Calls Tryz.prog 52 #[.agg #[.slice A0_0 l0_0.length c0_0, .int .i64 a0_1, .slice A0_2 l0_2.length c0_2, .int .i64 a0_3, .int .i64 a0_4, .slice A0_5 l0_5.length c0_5], .int .i64 a1] w fun e w' => e = .returned (.int .i64 r) ∧ Below w.heap.size w w' := by
 replace hr0_0 := RdE.mk hr0_0
 replace hc0_0 := LeI.mk hc0_0
 replace hr0_2 := RdE.mk hr0_2
 replace hc0_2 := LeI.mk hc0_2
 replace hr0_5 := RdE.mk hr0_5
 replace hc0_5 := LeI.mk hc0_5
 unfold spec_HeardAt.f at h
 have hu37 := Tryz.underlying37
 have hu74 := Tryz.underlying74
 (repeat' first | ((with_reducible replace h := ite_some h); rcases h with ⟨hc, h⟩ | ⟨hc, h⟩ <;> first | exact (none_some h).elim | exact absurd hc (by decide) | subst hc | (replace hc := hF_ hc; subst hc) | (replace hc := hG_ hc; subst hc) | (replace hc := hH_ hc; subst hc) | (have hd : (_ == _) = true := hc) | (have hd : (_ == _) = false := hF_ hc) | (have hd := hI_ hc; have he := hJ_ hc; clear hc) | (have hd := hK_ hc; have he := hL_ hc) | (have hd := decide_eq_false hc) | (have hd := decide_eq_true hc; (try (have hn := Int.natCast_pos.mp hc; have hm := decide_eq_true hn; replace hn := eq_true hn)); first | (obtain ⟨g_, e_, i_⟩ := form_ (by assumption) (by first | assumption | decide) hc; cases e_) | (obtain ⟨a_, e_, c_⟩ := atI_ (by assumption) (by first | assumption | decide) hc; cases e_)) | (have hd := decide_eq_true hc) | skip) | ((with_reducible replace h := bind_set_ h); obtain ⟨hl_, h⟩ := h; replace hl_ := A_ hl_; (try dsimp only at h)))
 all_goals go_enter Tryz.func52, Tryz.ntmps52
 all_goals go_wp2_with ((first
  | ((with_reducible refine gate_dst (N := 2) rfl ?_); refine bV #[.slice A0_0 l0_0.length c0_0, .int .i64 a0_1, .slice A0_2 l0_2.length c0_2, .int .i64 a0_3, .int .i64 a0_4, .slice A0_5 l0_5.length c0_5] 37 fun g w1 j1 j2 j3 => ?_)
  | (go_at_call 37; (try rw [hl_.out]); replace h := bI h; obtain ⟨t, A, h⟩ := h; (try dsimp only at h); refine (spec_ShopOk.calls _ _ _ _ _ _ _ _ _ _ _ _ _ _ _ Rd.out LeI.out Rd.out LeI.out Rd.out LeI.out A).mono ?_; rintro e w2 ⟨rfl, hb⟩; have jb := Bel.mk hb; clear A hb)
  | (go_at_call 88; (try rw [hl_.out]); replace h := bI h; obtain ⟨t, A, h⟩ := h; (try dsimp only at h); refine (spec_l01In.calls _ _ _ _ _ A).mono ?_; rintro e w2 ⟨rfl, n, rfl⟩; clear A)
  | (go_at_call 102; (try rw [hl_.out]); replace h := bI h; obtain ⟨t, A, h⟩ := h; (try dsimp only at h); refine (spec_FaultOf.calls _ _ _ _ _ _ _ _ Rd.out LeI.out A).mono ?_; rintro e w2 ⟨rfl, hb⟩; have jb := Bel.mk hb; clear A hb)
  | (refine qR (id := 3) (ds := []) (l := #[false, false, false, false, false, false, false, false, false, false]) spec_HeardAt.tab3 spec_HeardAt.bits3 ?_; intro HT_ HW_ w3 jw u0 iu hHeld; replace h := bI h; obtain ⟨r8t, A8, h⟩ := h; (try dsimp only at h); refine qA 0 (some 21) HT_ ?_; refine qA 1 (some 22) HT_ ?_; refine qT 2 (some 23) HT_ HW_ hHeld ?_; refine qA 3 (some 24) HT_ ?_; refine qA 4 (some 25) HT_ ?_; refine qT 5 (some 26) HT_ HW_ hHeld ?_; refine qA 6 (some 27) HT_ ?_; refine qT 7 (some 28) HT_ HW_ hHeld ?_; refine qO1 8 (some 29) HT_ fun K hK => ?_; refine goes_ Tryz.func103 (by kernel_rfl) rfl _ (by rfl) rfl rfl (by (try simp only [List.map_toArray, List.map_cons, List.map_nil]); rfl) ?_; refine (spec_WarmPitch.calls _ _ _ _ A8).mono ?_; rintro e u8 ⟨rfl, n, rfl⟩; refine ⟨_, rfl, hK.out _ _ From.out fun hHeld => ?_⟩; clear hK K; refine qN ?_; refine qA 9 (some 4) HT_ ?_; refine qD HT_ ?_; all_goals ((try simp only [Option.bind_some] at h); (repeat' first | ((with_reducible replace h := ite_some h); rcases h with ⟨hc, h⟩ | ⟨hc, h⟩ <;> first | exact (none_some h).elim | exact absurd hc (by decide) | subst hc | (replace hc := hF_ hc; subst hc) | (replace hc := hG_ hc; subst hc) | (replace hc := hH_ hc; subst hc) | (have hd : (_ == _) = true := hc) | (have hd : (_ == _) = false := hF_ hc) | (have hd := hI_ hc; have he := hJ_ hc; clear hc) | (have hd := hK_ hc; have he := hL_ hc) | (have hd := decide_eq_false hc) | (have hd := decide_eq_true hc; (try (have hn := Int.natCast_pos.mp hc; have hm := decide_eq_true hn; replace hn := eq_true hn)); first | (obtain ⟨g_, e_, i_⟩ := form_ (by assumption) (by first | assumption | decide) hc; cases e_) | (obtain ⟨a_, e_, c_⟩ := atI_ (by assumption) (by first | assumption | decide) hc; cases e_)) | (have hd := decide_eq_true hc) | skip) | ((with_reducible replace h := bind_set_ h); obtain ⟨hl_, h⟩ := h; replace hl_ := A_ hl_; (try dsimp only at h)))))); (repeat' first | ((with_reducible replace h := ite_some h); rcases h with ⟨hc, h⟩ | ⟨hc, h⟩ <;> first | exact (none_some h).elim | exact absurd hc (by decide) | subst hc | (replace hc := hF_ hc; subst hc) | (replace hc := hG_ hc; subst hc) | (replace hc := hH_ hc; subst hc) | (have hd : (_ == _) = true := hc) | (have hd : (_ == _) = false := hF_ hc) | (have hd := hI_ hc; have he := hJ_ hc; clear hc) | (have hd := hK_ hc; have he := hL_ hc) | (have hd := decide_eq_false hc) | (have hd := decide_eq_true hc; (try (have hn := Int.natCast_pos.mp hc; have hm := decide_eq_true hn; replace hn := eq_true hn)); first | (obtain ⟨g_, e_, i_⟩ := form_ (by assumption) (by first | assumption | decide) hc; cases e_) | (obtain ⟨a_, e_, c_⟩ := atI_ (by assumption) (by first | assumption | decide) hc; cases e_)) | (have hd := decide_eq_true hc) | skip) | ((with_reducible replace h := bind_set_ h); obtain ⟨hl_, h⟩ := h; replace hl_ := A_ hl_; (try dsimp only at h))))
 all_goals obtain rfl := Option.some.inj h
 all_goals go_ret
 all_goals exact ⟨(by first | rfl | (simp_all; done)), From.out⟩
def spec_DoAct.j0 : Nat → Bool → List (S112) → Int → List Int → Int → Int → List (S104) → Int → Int → Int → Int → List (S112) → Int → List Int → Int → Int → List (S104) → Option ((List (S112)) × Int × List Int × Int × Int × (List (S104)) × Int)
 | 0, _, _, _, _, _, _, _, _, _, _, _, _, _, _, _, _, _ => none
 | k + 1, x17, x452000, x452001, x452002, x452003, x452004, x452005, x453000, x453001, x453002, x453003, x467000, x467001, x467002, x467003, x467004, x467005 => if x17 = true then (some (x467000, x467001, x467002, x467003, x467004, x467005, (-1))) else (if x453000 = 1 then ((spec_ShopTune.f k x452000 x452001 x452002 x452003 x452004 x452005).bind fun bt469 => ((spec_l39Bool.f bt469.2.2.2.2.2.2).bind fun t482 => (some (bt469.1, bt469.2.1, bt469.2.2.1, bt469.2.2.2.1, bt469.2.2.2.2.1, bt469.2.2.2.2.2.1, t482)))) else (if x453000 = 2 then ((spec_ShopWarm.f k x452000 x452001 x452002 x452003 x452004 x452005 x453001).bind fun bt483 => ((spec_l39Bool.f bt483.2.2.2.2.2.2).bind fun t496 => (some (bt483.1, bt483.2.1, bt483.2.2.1, bt483.2.2.2.1, bt483.2.2.2.2.1, bt483.2.2.2.2.2.1, t496)))) else (if x453000 = 3 then ((spec_ShopFault.f k x452000 x452001 x452002 x452003 x452004 x452005 x453001 x453002 x453003).bind fun bt497 => ((spec_l39Bool.f bt497.2.2.2.2.2.2).bind fun t510 => (some (bt497.1, bt497.2.1, bt497.2.2.1, bt497.2.2.2.1, bt497.2.2.2.2.1, bt497.2.2.2.2.2.1, t510)))) else (if x453000 = 4 then ((spec_ShopKnock.f k x452000 x452001 x452002 x452003 x452004 x452005 x453001 x453002).bind fun bt511 => ((spec_l39Bool.f bt511.2.2.2.2.2.2).bind fun t524 => (some (bt511.1, bt511.2.1, bt511.2.2.1, bt511.2.2.2.1, bt511.2.2.2.2.1, bt511.2.2.2.2.2.1, t524)))) else (if x453000 = 5 then ((spec_RepairNext.f k x452005 x452004).bind fun bt525 => ((spec_l39Bool.f bt525.2).bind fun t529 => (some (x467000, x467001, x467002, x467003, x467004, bt525.1, t529)))) else (if x453000 = 6 then ((spec_StepsLeft.f k x452000 x452001 x452002 x452003 x452004 x452005).bind fun t530 => (some (x467000, x467001, x467002, x467003, x467004, x467005, t530))) else (if x453000 = 7 then ((spec_HeardAt.f k x452000 x452001 x452002 x452003 x452004 x452005 x453001).bind fun t531 => (some (x467000, x467001, x467002, x467003, x467004, x467005, t531))) else ((spec_l39Bool.f false).bind fun t532 => (some (x467000, x467001, x467002, x467003, x467004, x467005, t532))))))))))
def spec_DoAct.f (k : Nat) (l0_0 : List (S112)) (a0_1 : Int) (l0_2 : List Int) (a0_3 : Int) (a0_4 : Int) (l0_5 : List (S104)) (a1_0 : Int) (a1_1 : Int) (a1_2 : Int) (a1_3 : Int) : Option ((List (S112)) × Int × List Int × Int × Int × (List (S104)) × Int) := (spec_l38Copy.f l0_0 a0_1 l0_2 a0_3 a0_4 l0_5).bind fun bt454 => ((spec_ShopOk.f k l0_0 a0_1 l0_2 a0_3 a0_4 l0_5).bind fun t467 => (if t467 = true then ((spec_ActOk.f k a1_0 a1_1 a1_2 a1_3).bind fun t468 => (spec_DoAct.j0 k (!t468) l0_0 a0_1 l0_2 a0_3 a0_4 l0_5 a1_0 a1_1 a1_2 a1_3 bt454.1 bt454.2.1 bt454.2.2.1 bt454.2.2.2.1 bt454.2.2.2.2.1 bt454.2.2.2.2.2)) else (spec_DoAct.j0 k true l0_0 a0_1 l0_2 a0_3 a0_4 l0_5 a1_0 a1_1 a1_2 a1_3 bt454.1 bt454.2.1 bt454.2.2.1 bt454.2.2.2.1 bt454.2.2.2.2.1 bt454.2.2.2.2.2)))
noncomputable def spec_DoAct.T17 : Bool × List (List Nat × List Nat) := rtab .any (opsOf Tryz.f10 17)
def spec_DoAct.B17 : List Nat := [0, 0, 2, 7, 15]
theorem spec_DoAct.tab17 : rtab .any (opsOf Tryz.f10 17) = spec_DoAct.T17 := rfl
theorem spec_DoAct.bits17 : waitsOk spec_DoAct.T17.2 spec_DoAct.B17 = true := by kernel_rfl
noncomputable def spec_DoAct.T19 : Bool × List (List Nat × List Nat) := rtab .any (opsOf Tryz.f10 19)
def spec_DoAct.B19 : List Nat := [0, 0, 0, 4, 14, 31, 63]
theorem spec_DoAct.tab19 : rtab .any (opsOf Tryz.f10 19) = spec_DoAct.T19 := rfl
theorem spec_DoAct.bits19 : waitsOk spec_DoAct.T19.2 spec_DoAct.B19 = true := by kernel_rfl
noncomputable def spec_DoAct.T20 : Bool × List (List Nat × List Nat) := rtab .any (opsOf Tryz.f10 20)
def spec_DoAct.B20 : List Nat := [0, 0, 2, 7, 15]
theorem spec_DoAct.tab20 : rtab .any (opsOf Tryz.f10 20) = spec_DoAct.T20 := rfl
theorem spec_DoAct.bits20 : waitsOk spec_DoAct.T20.2 spec_DoAct.B20 = true := by kernel_rfl
theorem spec_DoAct.calls (k : Nat) (A0_0 : Option Addr) (c0_0 : Nat) (l0_0 : List (S112)) (a0_1 : Int) (A0_2 : Option Addr) (c0_2 : Nat) (l0_2 : List Int) (a0_3 : Int) (a0_4 : Int) (A0_5 : Option Addr) (c0_5 : Nat) (l0_5 : List (S104)) (a1_0 : Int) (a1_1 : Int) (a1_2 : Int) (a1_3 : Int) (r1 : List (S112)) (r2 : Int) (r3 : List Int) (r4 : Int) (r5 : Int) (r6 : List (S104)) (r7 : Int) (w : World) (hr0_0 : Kd.C k112 w A0_0 l0_0.length l0_0) (hc0_0 : l0_0.length ≤ c0_0) (hr0_2 : Kd.C (Kd.int .i64) w A0_2 l0_2.length l0_2) (hc0_2 : l0_2.length ≤ c0_2) (hr0_5 : Kd.C k104 w A0_5 l0_5.length l0_5) (hc0_5 : l0_5.length ≤ c0_5) (h : spec_DoAct.f k l0_0 a0_1 l0_2 a0_3 a0_4 l0_5 a1_0 a1_1 a1_2 a1_3 = some (r1, r2, r3, r4, r5, r6, r7)) :
  Calls Tryz.prog 10 #[.agg #[.slice A0_0 l0_0.length c0_0, .int .i64 a0_1, .slice A0_2 l0_2.length c0_2, .int .i64 a0_3, .int .i64 a0_4, .slice A0_5 l0_5.length c0_5], .agg #[.int .i64 a1_0, .int .i64 a1_1, .int .i64 a1_2, .int .i64 a1_3]] w fun e w' => ∃ v0_ v2_ v5_ : Value, e = .returned (.tuple #[.agg #[v0_, .int .i64 r2, v2_, .int .i64 r4, .int .i64 r5, v5_], .int .i64 r7]) ∧ Kd.R k112 112 w' w.heap.size (fun _ => True) v0_ r1 ∧ Kd.R (Kd.int .i64) 3 w' w.heap.size (fun _ => True) v2_ r3 ∧ Kd.R k104 104 w' w.heap.size (fun _ => True) v5_ r6 ∧ Below w.heap.size w w' := by
 replace hr0_0 := RdE.mk hr0_0
 replace hc0_0 := LeI.mk hc0_0
 replace hr0_2 := RdE.mk hr0_2
 replace hc0_2 := LeI.mk hc0_2
 replace hr0_5 := RdE.mk hr0_5
 replace hc0_5 := LeI.mk hc0_5
 have nt112_3 := NeT.mk (d := k112) (e := 112) (t := 3) (by decide)
 have nt112_37 := NeT.mk (d := k112) (e := 112) (t := 37) (by decide)
 have nt112_41 := NeT.mk (d := k112) (e := 112) (t := 41) (by decide)
 have nt104_3 := NeT.mk (d := k104) (e := 104) (t := 3) (by decide)
 have nt104_37 := NeT.mk (d := k104) (e := 104) (t := 37) (by decide)
 have nt104_41 := NeT.mk (d := k104) (e := 104) (t := 41) (by decide)
 unfold spec_DoAct.f at h
 have hu37 := Tryz.underlying37
 have hu41 := Tryz.underlying41
 have hu74 := Tryz.underlying74
 (repeat' first | ((with_reducible replace h := ite_some h); rcases h with ⟨hc, h⟩ | ⟨hc, h⟩ <;> first | exact (none_some h).elim | exact absurd hc (by decide) | subst hc | (replace hc := hF_ hc; subst hc) | (replace hc := hG_ hc; subst hc) | (replace hc := hH_ hc; subst hc) | (have hd : (_ == _) = true := hc) | (have hd : (_ == _) = false := hF_ hc) | (have hd := hI_ hc; have he := hJ_ hc; clear hc) | (have hd := hK_ hc; have he := hL_ hc) | (have hd := decide_eq_false hc) | (have hd := decide_eq_true hc; (try (have hn := Int.natCast_pos.mp hc; have hm := decide_eq_true hn; replace hn := eq_true hn)); first | (obtain ⟨g_, e_, i_⟩ := form_ (by assumption) (by first | assumption | decide) hc; cases e_) | (obtain ⟨a_, e_, c_⟩ := atI_ (by assumption) (by first | assumption | decide) hc; cases e_)) | (have hd := decide_eq_true hc) | skip) | ((with_reducible have hj : spec_DoAct.j0 k _ _ _ _ _ _ _ _ _ _ _ _ _ _ _ _ _ = _ := h); clear hj; rcases k with _ | k <;> rw [spec_DoAct.j0] at h <;> first | exact (none_some h).elim | skip) | ((with_reducible replace h := bind_set_ h); obtain ⟨hl_, h⟩ := h; replace hl_ := A_ hl_; (try dsimp only at h)))
 all_goals go_enter Tryz.func10, Tryz.ntmps10
 all_goals go_wp2_with ((first
  | ((with_reducible refine gate_dst (N := 2) rfl ?_); refine bV #[.slice A0_0 l0_0.length c0_0, .int .i64 a0_1, .slice A0_2 l0_2.length c0_2, .int .i64 a0_3, .int .i64 a0_4, .slice A0_5 l0_5.length c0_5] 37 fun g w1 j1 j2 j3 => ?_)
  | ((with_reducible refine gate_dst (N := 3) rfl ?_); refine bV #[.int .i64 a1_0, .int .i64 a1_1, .int .i64 a1_2, .int .i64 a1_3] 41 fun g w1 j1 j2 j3 => ?_)
  | ((with_reducible refine gate_dst (N := 4) rfl ?_); refine bV #[.slice none 0 0, .int .i64 0, .slice none 0 0, .int .i64 0, .int .i64 0, .slice none 0 0] 37 fun g w1 j1 j2 j3 => ?_)
  | ((with_reducible refine gate_dst (N := 6) rfl ?_); refine bV #[.slice none 0 0, .int .i64 0, .slice none 0 0, .int .i64 0, .int .i64 0, .slice none 0 0] 37 fun g w1 j1 j2 j3 => ?_)
  | (go_at_call 45; (try rw [hl_.out]); replace h := bI h; obtain ⟨⟨t1, t2, t3, t4, t5, t6⟩, A, h⟩ := h; (try dsimp only at h); refine (spec_l38Copy.calls _ _ _ _ _ _ _ _ _ _ _ _ _ _ _ _ _ _ _ Rd.out LeI.out Rd.out LeI.out Rd.out LeI.out A).mono ?_; rintro e w2 ⟨v0, v1, v2, rfl, ho0, ho1, ho2, hb⟩; obtain ⟨B0, b0, rfl, j0, q0⟩ := rowS ho0; obtain ⟨B1, b1, rfl, j1, q1⟩ := rowS ho1; obtain ⟨B2, b2, rfl, j2, q2⟩ := rowS ho2; have jb := Bel.mk hb; clear A ho0 ho1 ho2 hb)
  | (go_at_call 37; (try rw [hl_.out]); replace h := bI h; obtain ⟨t, A, h⟩ := h; (try dsimp only at h); refine (spec_ShopOk.calls _ _ _ _ _ _ _ _ _ _ _ _ _ _ _ Rd.out LeI.out Rd.out LeI.out Rd.out LeI.out A).mono ?_; rintro e w2 ⟨rfl, hb⟩; have jb := Bel.mk hb; clear A hb)
  | (go_at_call 46; (try rw [hl_.out]); replace h := bI h; obtain ⟨t, A, h⟩ := h; (try dsimp only at h); refine (spec_ActOk.calls _ _ _ _ _ _ _ A).mono ?_; rintro e w2 ⟨rfl, hb⟩; have jb := Bel.mk hb; clear A hb)
  | (go_at_call 47; (try rw [hl_.out]); replace h := bI h; obtain ⟨⟨t1, t2, t3, t4, t5, t6, t7⟩, A, h⟩ := h; (try dsimp only at h); refine (spec_ShopTune.calls _ _ _ _ _ _ _ _ _ _ _ _ _ _ _ _ _ _ _ _ _ Rd.out LeI.out Rd.out LeI.out Rd.out LeI.out A).mono ?_; rintro e w2 ⟨v0, v1, v2, rfl, ho0, ho1, ho2, hb⟩; obtain ⟨B0, b0, rfl, j0, q0⟩ := rowS ho0; obtain ⟨B1, b1, rfl, j1, q1⟩ := rowS ho1; obtain ⟨B2, b2, rfl, j2, q2⟩ := rowS ho2; have jb := Bel.mk hb; clear A ho0 ho1 ho2 hb)
  | (go_at_call 48; (try rw [hl_.out]); replace h := bI h; obtain ⟨⟨t1, t2, t3, t4, t5, t6, t7⟩, A, h⟩ := h; (try dsimp only at h); refine (spec_ShopWarm.calls _ _ _ _ _ _ _ _ _ _ _ _ _ _ _ _ _ _ _ _ _ _ Rd.out LeI.out Rd.out LeI.out Rd.out LeI.out A).mono ?_; rintro e w2 ⟨v0, v1, v2, rfl, ho0, ho1, ho2, hb⟩; obtain ⟨B0, b0, rfl, j0, q0⟩ := rowS ho0; obtain ⟨B1, b1, rfl, j1, q1⟩ := rowS ho1; obtain ⟨B2, b2, rfl, j2, q2⟩ := rowS ho2; have jb := Bel.mk hb; clear A ho0 ho1 ho2 hb)
  | (go_at_call 49; (try rw [hl_.out]); replace h := bI h; obtain ⟨⟨t1, t2, t3, t4, t5, t6, t7⟩, A, h⟩ := h; (try dsimp only at h); refine (spec_ShopFault.calls _ _ _ _ _ _ _ _ _ _ _ _ _ _ _ _ _ _ _ _ _ _ _ _ Rd.out LeI.out Rd.out LeI.out Rd.out LeI.out A).mono ?_; rintro e w2 ⟨v0, v1, v2, rfl, ho0, ho1, ho2, hb⟩; obtain ⟨B0, b0, rfl, j0, q0⟩ := rowS ho0; obtain ⟨B1, b1, rfl, j1, q1⟩ := rowS ho1; obtain ⟨B2, b2, rfl, j2, q2⟩ := rowS ho2; have jb := Bel.mk hb; clear A ho0 ho1 ho2 hb)
  | (go_at_call 50; (try rw [hl_.out]); replace h := bI h; obtain ⟨⟨t1, t2, t3, t4, t5, t6, t7⟩, A, h⟩ := h; (try dsimp only at h); refine (spec_ShopKnock.calls _ _ _ _ _ _ _ _ _ _ _ _ _ _ _ _ _ _ _ _ _ _ _ Rd.out LeI.out Rd.out LeI.out Rd.out LeI.out A).mono ?_; rintro e w2 ⟨v0, v1, v2, rfl, ho0, ho1, ho2, hb⟩; obtain ⟨B0, b0, rfl, j0, q0⟩ := rowS ho0; obtain ⟨B1, b1, rfl, j1, q1⟩ := rowS ho1; obtain ⟨B2, b2, rfl, j2, q2⟩ := rowS ho2; have jb := Bel.mk hb; clear A ho0 ho1 ho2 hb)
  | (go_at_call 51; (try rw [hl_.out]); replace h := bI h; obtain ⟨⟨t1, t2⟩, A, h⟩ := h; (try dsimp only at h); refine (spec_RepairNext.calls _ _ _ _ _ _ _ _ Rd.out LeI.out A).mono ?_; rintro e w2 ⟨v0, rfl, ho0, hb⟩; obtain ⟨B0, b0, rfl, j0, q0⟩ := rowS ho0; have jb := Bel.mk hb; clear A ho0 hb)
  | (refine qR (id := 17) (ds := [3]) (l := #[false, false, false, false, false]) spec_DoAct.tab17 spec_DoAct.bits17 ?_; intro HT_ HW_ w3 jw u0 iu hHeld; refine qT 0 (some 75) HT_ HW_ hHeld ?_; refine qT 1 (some 76) HT_ HW_ hHeld ?_; replace h := bI h; obtain ⟨t, A, h⟩ := h; (try dsimp only at h); refine qC 2 77 Tryz.func35 HT_ fun K hK => ?_; refine (spec_StepsLeft.calls _ _ _ _ _ _ _ _ _ _ _ _ _ _ _ Rd.out LeI.out Rd.out LeI.out Rd.out LeI.out A).mono ?_; rintro e w2 ⟨rfl, hb⟩; have jb := Bel.mk hb; clear A hb; refine ⟨_, rfl, hK _ _ From.out fun hHeld => ?_⟩; clear hK K; refine qN ?_; refine qL 3 HT_ ?_; refine qA 4 (some 5) HT_ ?_; refine qD HT_ ?_)
  | (refine qR (id := 19) (ds := [5]) (l := #[false, false, false, false, false, false, false]) spec_DoAct.tab19 spec_DoAct.bits19 ?_; intro HT_ HW_ w3 jw u0 iu hHeld; refine qA 2 (some 82) HT_ ?_; refine qT 0 (some 80) HT_ HW_ hHeld ?_; refine qT 1 (some 81) HT_ HW_ hHeld ?_; refine qT 3 (some 83) HT_ HW_ hHeld ?_; replace h := bI h; obtain ⟨t, A, h⟩ := h; (try dsimp only at h); refine qC 4 84 Tryz.func52 HT_ fun K hK => ?_; refine (spec_HeardAt.calls _ _ _ _ _ _ _ _ _ _ _ _ _ _ _ _ Rd.out LeI.out Rd.out LeI.out Rd.out LeI.out A).mono ?_; rintro e w2 ⟨rfl, hb⟩; have jb := Bel.mk hb; clear A hb; refine ⟨_, rfl, hK _ _ From.out fun hHeld => ?_⟩; clear hK K; refine qN ?_; refine qL 5 HT_ ?_; refine qA 6 (some 5) HT_ ?_; refine qD HT_ ?_)
  | (refine qR (id := 20) (ds := [3]) (l := #[false, false, false, false, false]) spec_DoAct.tab20 spec_DoAct.bits20 ?_; intro HT_ HW_ w3 jw u0 iu hHeld; refine qA 1 (some 86) HT_ ?_; refine qT 0 (some 85) HT_ HW_ hHeld ?_; replace h := bI h; obtain ⟨t, A, h⟩ := h; (try dsimp only at h); refine qC 2 87 Tryz.func53 HT_ fun K hK => ?_; refine (spec_l39Bool.calls _ _ _ A).mono ?_; rintro e w2 ⟨rfl, n, rfl⟩; clear A; refine ⟨_, rfl, hK _ _ From.out fun hHeld => ?_⟩; clear hK K; refine qN ?_; refine qL 3 HT_ ?_; refine qA 4 (some 5) HT_ ?_; refine qD HT_ ?_)); (repeat' first | ((with_reducible replace h := ite_some h); rcases h with ⟨hc, h⟩ | ⟨hc, h⟩ <;> first | exact (none_some h).elim | exact absurd hc (by decide) | subst hc | (replace hc := hF_ hc; subst hc) | (replace hc := hG_ hc; subst hc) | (replace hc := hH_ hc; subst hc) | (have hd : (_ == _) = true := hc) | (have hd : (_ == _) = false := hF_ hc) | (have hd := hI_ hc; have he := hJ_ hc; clear hc) | (have hd := hK_ hc; have he := hL_ hc) | (have hd := decide_eq_false hc) | (have hd := decide_eq_true hc; (try (have hn := Int.natCast_pos.mp hc; have hm := decide_eq_true hn; replace hn := eq_true hn)); first | (obtain ⟨g_, e_, i_⟩ := form_ (by assumption) (by first | assumption | decide) hc; cases e_) | (obtain ⟨a_, e_, c_⟩ := atI_ (by assumption) (by first | assumption | decide) hc; cases e_)) | (have hd := decide_eq_true hc) | skip) | ((with_reducible have hj : spec_DoAct.j0 k _ _ _ _ _ _ _ _ _ _ _ _ _ _ _ _ _ = _ := h); clear hj; rcases k with _ | k <;> rw [spec_DoAct.j0] at h <;> first | exact (none_some h).elim | skip) | ((with_reducible replace h := bind_set_ h); obtain ⟨hl_, h⟩ := h; replace hl_ := A_ hl_; (try dsimp only at h))))
 all_goals simp only [Option.some.injEq, Prod.mk.injEq] at h
 all_goals obtain ⟨rfl, rfl, rfl, rfl, rfl, rfl, rfl⟩ := h
 all_goals refine bodyPost_ret (results_ct rfl _ _ _ _ _ (0, 0) _ rfl Blk.out Tryz.underlying37 rfl (by kernel_rfl)) rfl ?_
 all_goals exact ⟨_, _, _, rfl, (by first | exact rowFin | exact Kd.R_nil _ _ _ _ _ | exact atFin | exact irowFin' (by simp)), (by first | exact rowFin | exact Kd.R_nil _ _ _ _ _ | exact atFin | exact irowFin' (by simp)), (by first | exact rowFin | exact Kd.R_nil _ _ _ _ _ | exact atFin | exact irowFin' (by simp)), From.out⟩
mutual
def spec_RunActs.j0 : Nat → List (S41) → List Int → Bool → List (S112) → Int → List Int → Int → Int → List (S104) → Option ((List (S112)) × Int × List Int × Int × Int × (List (S104)) × List Int)
 | 0, _, _, _, _, _, _, _, _, _ => none
 | k + 1, x1, x7, x21, x1208000, x1208001, x1208002, x1208003, x1208004, x1208005 => if x21 = true then (some (x1208000, x1208001, x1208002, x1208003, x1208004, x1208005, x7)) else (spec_RunActs.l0 k x1 x7 0 x1208000 x1208001 x1208002 x1208003 x1208004 x1208005)
def spec_RunActs.l0 : Nat → List (S41) → List Int → Int → List (S112) → Int → List Int → Int → Int → List (S104) → Option ((List (S112)) × Int × List Int × Int × Int × (List (S104)) × List Int)
 | 0, _, _, _, _, _, _, _, _, _ => none
 | k + 1, x1, x7, x8, x1208000, x1208001, x1208002, x1208003, x1208004, x1208005 => if x8 < (x1.length : Int) then (if 0 ≤ x8 then ((spec_DoAct.f k x1208000 x1208001 x1208002 x1208003 x1208004 x1208005 ((rd_T41 x1 x8).f0) ((rd_T41 x1 x8).f1) ((rd_T41 x1 x8).f2) ((rd_T41 x1 x8).f3)).bind fun bt1213 => (if x7.length < 17592186044416 then (spec_RunActs.l0 k x1 (x7 ++ [bt1213.2.2.2.2.2.2]) (wrap64 (x8 + 1)) bt1213.1 bt1213.2.1 bt1213.2.2.1 bt1213.2.2.2.1 bt1213.2.2.2.2.1 bt1213.2.2.2.2.2.1) else (none))) else (none)) else (some (x1208000, x1208001, x1208002, x1208003, x1208004, x1208005, x7))
end
def spec_RunActs.f (k : Nat) (l0_0 : List (S112)) (a0_1 : Int) (l0_2 : List Int) (a0_3 : Int) (a0_4 : Int) (l0_5 : List (S104)) (l1 : List (S41)) : Option ((List (S112)) × Int × List Int × Int × Int × (List (S104)) × List Int) := (spec_l38Copy.f l0_0 a0_1 l0_2 a0_3 a0_4 l0_5).bind fun bt1195 => ((some (([] : List Int) : List Int)).bind fun y1208 => ((spec_ShopOk.f k l0_0 a0_1 l0_2 a0_3 a0_4 l0_5).bind fun t1211 => (if t1211 = true then (spec_RunActs.j0 k l1 y1208 (decide ((l1.length : Int) > 40)) bt1195.1 bt1195.2.1 bt1195.2.2.1 bt1195.2.2.2.1 bt1195.2.2.2.2.1 bt1195.2.2.2.2.2) else (spec_RunActs.j0 k l1 y1208 true bt1195.1 bt1195.2.1 bt1195.2.2.1 bt1195.2.2.2.1 bt1195.2.2.2.2.1 bt1195.2.2.2.2.2))))
def spec_RunActs.T8 : Bool × List (List Nat × List Nat) := (true, [([], []), ([], []), ([], []), ([1, 2], [1, 2]), ([3], [3]), ([0, 4], [0, 4]), ([5], [5]), ([6], [6]), ([6], [6]), ([], []), ([9, 7, 5, 0, 1, 2, 3, 4, 5, 6, 7, 9], [7, 9]), ([8, 10, 0, 1, 2, 3, 4, 5, 6, 7, 8, 9, 10], [8])])
def spec_RunActs.B8 : List Nat := [0, 0, 0, 6, 14, 31, 63, 127, 127, 0, 767, 2047]
theorem spec_RunActs.tab8 : rtab .any (opsOf Tryz.f18 8) = spec_RunActs.T8 := by kernel_rfl
theorem spec_RunActs.bits8 : waitsOk spec_RunActs.T8.2 spec_RunActs.B8 = true := by kernel_rfl
theorem spec_RunActs.calls (k : Nat) (A0_0 : Option Addr) (c0_0 : Nat) (l0_0 : List (S112)) (a0_1 : Int) (A0_2 : Option Addr) (c0_2 : Nat) (l0_2 : List Int) (a0_3 : Int) (a0_4 : Int) (A0_5 : Option Addr) (c0_5 : Nat) (l0_5 : List (S104)) (A1 : Option Addr) (c1 : Nat) (l1 : List (S41)) (r1 : List (S112)) (r2 : Int) (r3 : List Int) (r4 : Int) (r5 : Int) (r6 : List (S104)) (r7 : List Int) (w : World) (hr0_0 : Kd.C k112 w A0_0 l0_0.length l0_0) (hc0_0 : l0_0.length ≤ c0_0) (hr0_2 : Kd.C (Kd.int .i64) w A0_2 l0_2.length l0_2) (hc0_2 : l0_2.length ≤ c0_2) (hr0_5 : Kd.C k104 w A0_5 l0_5.length l0_5) (hc0_5 : l0_5.length ≤ c0_5) (hr1 : Kd.C k41 w A1 l1.length l1) (hc1 : l1.length ≤ c1) (h : spec_RunActs.f k l0_0 a0_1 l0_2 a0_3 a0_4 l0_5 l1 = some (r1, r2, r3, r4, r5, r6, r7)) :
  Calls Tryz.prog 18 #[.agg #[.slice A0_0 l0_0.length c0_0, .int .i64 a0_1, .slice A0_2 l0_2.length c0_2, .int .i64 a0_3, .int .i64 a0_4, .slice A0_5 l0_5.length c0_5], .slice A1 l1.length c1] w fun e w' => ∃ v0_ v2_ v5_ v6_ : Value, e = .returned (.tuple #[.agg #[v0_, .int .i64 r2, v2_, .int .i64 r4, .int .i64 r5, v5_], v6_]) ∧ Kd.R k112 112 w' w.heap.size (fun _ => True) v0_ r1 ∧ Kd.R (Kd.int .i64) 3 w' w.heap.size (fun k_ => some k_ ≠ (v6_ : Value).ownBlock) v2_ r3 ∧ Kd.R k104 104 w' w.heap.size (fun _ => True) v5_ r6 ∧ Kd.R (Kd.int .i64) 3 w' w.heap.size (fun k_ => some k_ ≠ (v2_ : Value).ownBlock) v6_ r7 ∧ Below w.heap.size w w' := by
 have ihr0_0 := RdE.mk hr0_0
 have ihc0_0 := LeI.mk hc0_0
 have ihr0_2 := RdE.mk hr0_2
 have ihc0_2 := LeI.mk hc0_2
 have ihr0_5 := RdE.mk hr0_5
 have ihc0_5 := LeI.mk hc0_5
 have ihr1 := RdE.mk hr1
 have ihc1 := LeI.mk hc1
 clear hr0_0 hc0_0 hr0_2 hc0_2 hr0_5 hc0_5 hr1 hc1
 have nt3_37 := NeT.mk (d := (Kd.int .i64)) (e := 3) (t := 37) (by decide)
 have nt104_37 := NeT.mk (d := k104) (e := 104) (t := 37) (by decide)
 have nt112_37 := NeT.mk (d := k112) (e := 112) (t := 37) (by decide)
 have nn3_37 := NeN.mk (e := 3) (t := 37) (by decide)
 unfold spec_RunActs.f at h
 (try simp only [Option.bind_some] at h)
 have hu37 := Tryz.underlying37
 have hu41 := Tryz.underlying41
 (repeat' first | ((with_reducible replace h := ite_some h); rcases h with ⟨hc, h⟩ | ⟨hc, h⟩ <;> first | exact (none_some h).elim | exact absurd hc (by decide) | subst hc | (replace hc := hF_ hc; subst hc) | (replace hc := hG_ hc; subst hc) | (replace hc := hH_ hc; subst hc) | (have hd : (_ == _) = true := hc) | (have hd : (_ == _) = false := hF_ hc) | (have hd := hI_ hc; have he := hJ_ hc; clear hc) | (have hd := hK_ hc; have he := hL_ hc) | (have hd := decide_eq_false hc) | (have hd := decide_eq_true hc; (try (have hn := Int.natCast_pos.mp hc; have hm := decide_eq_true hn; replace hn := eq_true hn)); first | (have hz := form_ (by assumption) (by first | assumption | decide) hc; obtain ⟨g_, e_, i_⟩ := hz; cases e_) | (have hz := atI_ (by assumption) (by first | assumption | decide) hc; obtain ⟨a_, e_, c_⟩ := hz; cases e_) | (have hz := at_T41 (RdE.out (self := by assumption)) _ (by first | assumption | decide) hc; obtain ⟨a_, e_, c0_, c1_, c2_, c3_⟩ := hz; cases e_; replace c0_ := CelE.mk c0_; replace c1_ := CelE.mk c1_; replace c2_ := CelE.mk c2_; replace c3_ := CelE.mk c3_) | (have hz := at_T41 (RdE.out (self := by assumption)) _ hc (by assumption); obtain ⟨a_, e_, c0_, c1_, c2_, c3_⟩ := hz; cases e_; replace c0_ := CelE.mk c0_; replace c1_ := CelE.mk c1_; replace c2_ := CelE.mk c2_; replace c3_ := CelE.mk c3_)) | (have hd := decide_eq_true hc) | skip) | ((with_reducible have hj : spec_RunActs.j0 k _ _ _ _ _ _ _ _ _ = _ := h); clear hj; rcases k with _ | k <;> rw [spec_RunActs.j0] at h <;> first | exact (none_some h).elim | skip) | ((with_reducible replace h := bind_set_ h); obtain ⟨hl_, h⟩ := h; replace hl_ := A_ hl_; (try dsimp only at h)))
 all_goals go_enter Tryz.func18, Tryz.ntmps18
 all_goals go_wp2_with ((first
  | ((with_reducible refine gate_dst (N := 2) rfl ?_); refine bV #[.slice A0_0 l0_0.length c0_0, .int .i64 a0_1, .slice A0_2 l0_2.length c0_2, .int .i64 a0_3, .int .i64 a0_4, .slice A0_5 l0_5.length c0_5] 37 fun g2 w1 ja1 ja2 ja3 => ?_)
  | ((with_reducible refine gate_dst (N := 4) rfl ?_); refine bV #[.slice none 0 0, .int .i64 0, .slice none 0 0, .int .i64 0, .int .i64 0, .slice none 0 0] 37 fun g4 w1 ja1 ja2 ja3 => ?_)
  | ((with_reducible refine gate_dst (N := 6) rfl ?_); refine bV #[.slice none 0 0, .int .i64 0, .slice none 0 0, .int .i64 0, .int .i64 0, .slice none 0 0] 37 fun g6 w1 ja1 ja2 ja3 => ?_)
  | ((with_reducible refine gate_dst (N := 13) rfl ?_); refine Kd.R_lit (Kd.int .i64) _ 3 ?hg (N := 13) ?hd (xs := ([] : List Int)) (inner := []) (ok := fun _ => True) (okp := fun _ => True) ?hr ?hp (fun _ hk => hk) trivial (Below.refl _ _) (Nat.le_refl _) (by simp) ?_; (case hd => rfl); (case hg => rfl); (case hr => first | (go_simp; done) | (go_simp; rfl)); (case hp => exact (Reps.none _ _)); intro v5 w5 ho hb hg_ hn_; obtain ⟨A5, c5, rfl⟩ := Kd.R_slice ho; have j5 := RowE.mk ho; have q5 := LeI.mk (rowLe j5); have j6 := Bel.mk hb; clear hg_ hn_ ho hb)
  | (go_at_call 45; (try rw [hl_.out]); replace h := bI h; obtain ⟨⟨t1, t2, t3, t4, t5, t6⟩, A, h⟩ := h; (try dsimp only at h); refine (spec_l38Copy.calls _ _ _ _ _ _ _ _ _ _ _ _ _ _ _ _ _ _ _ Rd.out LeI.out Rd.out LeI.out Rd.out LeI.out A).mono ?_; rintro e w2 ⟨v0, v1, v2, rfl, ho0, ho1, ho2, hb⟩; obtain ⟨B0, b0, rfl, j0, q0⟩ := rowS ho0; obtain ⟨B1, b1, rfl, j1, q1⟩ := rowS ho1; obtain ⟨B2, b2, rfl, j2, q2⟩ := rowS ho2; have jb := Bel.mk hb; clear A ho0 ho1 ho2 hb)
  | (go_at_call 37; (try rw [hl_.out]); replace h := bI h; obtain ⟨t, A, h⟩ := h; (try dsimp only at h); refine (spec_ShopOk.calls _ _ _ _ _ _ _ _ _ _ _ _ _ _ _ Rd.out LeI.out Rd.out LeI.out Rd.out LeI.out A).mono ?_; rintro e w2 ⟨rfl, hb⟩; have jb := Bel.mk hb; clear A hb)
  | (refine qR (id := 8) (ds := []) (l := #[false, false, false, false, false, false, false, false, false, false, false, false]) spec_RunActs.tab8 spec_RunActs.bits8 ?_; intro HT_ HW_ w3 jw u0 iu hHeld; replace h := bI h; obtain ⟨⟨r5t1, r5t2, r5t3, r5t4, r5t5, r5t6, r5t7⟩, A5, h⟩ := h; (try dsimp only at h); refine qT 0 (some 31) HT_ HW_ hHeld ?_; refine qA 1 (some 32) HT_ ?_; refine qA 2 (some 33) HT_ ?_; refine qA 3 (some 34) HT_ ?_; refine qT 4 (some 35) HT_ HW_ hHeld ?_; refine qO2 5 9 (some 36) (some 9) HT_ (fun K hK => ?_) (fun K hK => ?_); (focus (refine goes_ Tryz.func10 (by kernel_rfl) rfl _ (by rfl) rfl rfl (by (try simp only [List.map_toArray, List.map_cons, List.map_nil]); rfl) ?_; refine (spec_DoAct.calls _ _ _ _ _ _ _ _ _ _ _ _ _ _ _ _ _ _ _ _ _ _ _ _ _ Rd.out LeI.out Rd.out LeI.out Rd.out LeI.out A5).mono ?_; rintro e u5 ⟨v0, v1, v2, rfl, ho0, ho1, ho2, hb⟩; obtain ⟨B0, b0, rfl, j0, q0⟩ := rowS ho0; obtain ⟨B1, b1, rfl, j1, q1⟩ := rowS ho1; obtain ⟨B2, b2, rfl, j2, q2⟩ := rowS ho2; have jb := Bel.mk hb; (try clear ho0 ho1 ho2 hb); refine ⟨_, rfl, hK.out _ _ From.out fun hHeld => ?_⟩; clear hK K; refine qN ?_; refine qA 6 (some 30) HT_ ?_; refine qA 7 (some 37) HT_ ?_; refine qA 8 (some 38) HT_ ?_; refine qO1 9 (some 9) HT_ fun K hK => ?_; refine qX0 9 #[.slice none 0 0, .int .i64 0, .slice none 0 0, .int .i64 0, .int .i64 0, .slice none 0 0] 37 ?_; intro g9 ja9 u9 jb9 jc9; refine hK.out _ _ From.out fun hHeld => ?_; clear hK K; refine qN ?_; refine qS 10 HT_ fun hHeld => ?_; refine qA 11 (some 10) HT_ ?_; refine qD HT_ ?_)); rotate_left 1; (focus (refine qX0 9 #[.slice none 0 0, .int .i64 0, .slice none 0 0, .int .i64 0, .int .i64 0, .slice none 0 0] 37 ?_; intro g9 ja9 u9 jb9 jc9; refine hK.out _ _ From.out fun hHeld => ?_; clear hK K; refine qN ?_; refine qO1 5 (some 36) HT_ fun K hK => ?_; refine goes_ Tryz.func10 (by kernel_rfl) rfl _ (by rfl) rfl rfl (by (try simp only [List.map_toArray, List.map_cons, List.map_nil]); rfl) ?_; refine (spec_DoAct.calls _ _ _ _ _ _ _ _ _ _ _ _ _ _ _ _ _ _ _ _ _ _ _ _ _ Rd.out LeI.out Rd.out LeI.out Rd.out LeI.out A5).mono ?_; rintro e u5 ⟨v0, v1, v2, rfl, ho0, ho1, ho2, hb⟩; obtain ⟨B0, b0, rfl, j0, q0⟩ := rowS ho0; obtain ⟨B1, b1, rfl, j1, q1⟩ := rowS ho1; obtain ⟨B2, b2, rfl, j2, q2⟩ := rowS ho2; have jb := Bel.mk hb; (try clear ho0 ho1 ho2 hb); refine ⟨_, rfl, hK.out _ _ From.out fun hHeld => ?_⟩; clear hK K; refine qN ?_; refine qA 6 (some 30) HT_ ?_; refine qA 7 (some 37) HT_ ?_; refine qA 8 (some 38) HT_ ?_; refine qS 10 HT_ fun hHeld => ?_; refine qA 11 (some 10) HT_ ?_; refine qD HT_ ?_)); all_goals ((try simp only [Option.bind_some] at h); (repeat' first | ((with_reducible replace h := ite_some h); rcases h with ⟨hc, h⟩ | ⟨hc, h⟩ <;> first | exact (none_some h).elim | exact absurd hc (by decide) | subst hc | (replace hc := hF_ hc; subst hc) | (replace hc := hG_ hc; subst hc) | (replace hc := hH_ hc; subst hc) | (have hd : (_ == _) = true := hc) | (have hd : (_ == _) = false := hF_ hc) | (have hd := hI_ hc; have he := hJ_ hc; clear hc) | (have hd := hK_ hc; have he := hL_ hc) | (have hd := decide_eq_false hc) | (have hd := decide_eq_true hc; (try (have hn := Int.natCast_pos.mp hc; have hm := decide_eq_true hn; replace hn := eq_true hn)); first | (have hz := form_ (by assumption) (by first | assumption | decide) hc; obtain ⟨g_, e_, i_⟩ := hz; cases e_) | (have hz := atI_ (by assumption) (by first | assumption | decide) hc; obtain ⟨a_, e_, c_⟩ := hz; cases e_) | (have hz := at_T41 (RdE.out (self := by assumption)) _ (by first | assumption | decide) hc; obtain ⟨a_, e_, c0_, c1_, c2_, c3_⟩ := hz; cases e_; replace c0_ := CelE.mk c0_; replace c1_ := CelE.mk c1_; replace c2_ := CelE.mk c2_; replace c3_ := CelE.mk c3_) | (have hz := at_T41 (RdE.out (self := by assumption)) _ hc (by assumption); obtain ⟨a_, e_, c0_, c1_, c2_, c3_⟩ := hz; cases e_; replace c0_ := CelE.mk c0_; replace c1_ := CelE.mk c1_; replace c2_ := CelE.mk c2_; replace c3_ := CelE.mk c3_)) | (have hd := decide_eq_true hc) | skip) | ((with_reducible have hj : spec_RunActs.j0 k _ _ _ _ _ _ _ _ _ = _ := h); clear hj; rcases k with _ | k <;> rw [spec_RunActs.j0] at h <;> first | exact (none_some h).elim | skip) | ((with_reducible replace h := bind_set_ h); obtain ⟨hl_, h⟩ := h; replace hl_ := A_ hl_; (try dsimp only at h)))))
  | ((with_reducible refine gate_builtin (b := .append) (xs := #[.tmp 40, .tmp 42]) rfl ?_); (try (refine gate_guard (by rfl) ?_; dsimp only)); at_builtin; refine Kd.R_append (Kd.int .i64) (w0 := w) w.heap.size rfl (.tmp 40) (.tmp 42) 23 3 (.int .i64 0) 8 rfl Tryz.underlying23 info3 rfl (by decide) (by omega) (.slice A90 x7_2.length c90) x7_2 r5t7 [.int .i64 r5t7] (fun _ => True) (fun _ => False) rfl (by first | (go_simp; done) | (go_simp; rfl)) ?aP (fun _ hk => hk.elim) ?aF ?aO ?aB ?aS ?aL ?_; (case aP => exact rfl); (case aO => exact atFin); (case aB => exact From.out); (case aF => exact (fun _ _ => trivial)); (case aS => exact (From.out (w0 := w)).size); (case aL => omega); intro v7 w7 ho hb hg hat; have jg := grAt hg; obtain ⟨A7, c7, rfl⟩ := Kd.R_slice ho; have jk := keepGr j0 hg; have jd := djGr j1 hat; have je := djSym jd; have j7 := At.mk ho; have jf : From w w7 := ⟨hb⟩; have js : Sz w w7 := ⟨hb.size⟩; clear ho hb hg hat)); (repeat' first | ((with_reducible replace h := ite_some h); rcases h with ⟨hc, h⟩ | ⟨hc, h⟩ <;> first | exact (none_some h).elim | exact absurd hc (by decide) | subst hc | (replace hc := hF_ hc; subst hc) | (replace hc := hG_ hc; subst hc) | (replace hc := hH_ hc; subst hc) | (have hd : (_ == _) = true := hc) | (have hd : (_ == _) = false := hF_ hc) | (have hd := hI_ hc; have he := hJ_ hc; clear hc) | (have hd := hK_ hc; have he := hL_ hc) | (have hd := decide_eq_false hc) | (have hd := decide_eq_true hc; (try (have hn := Int.natCast_pos.mp hc; have hm := decide_eq_true hn; replace hn := eq_true hn)); first | (have hz := form_ (by assumption) (by first | assumption | decide) hc; obtain ⟨g_, e_, i_⟩ := hz; cases e_) | (have hz := atI_ (by assumption) (by first | assumption | decide) hc; obtain ⟨a_, e_, c_⟩ := hz; cases e_) | (have hz := at_T41 (RdE.out (self := by assumption)) _ (by first | assumption | decide) hc; obtain ⟨a_, e_, c0_, c1_, c2_, c3_⟩ := hz; cases e_; replace c0_ := CelE.mk c0_; replace c1_ := CelE.mk c1_; replace c2_ := CelE.mk c2_; replace c3_ := CelE.mk c3_) | (have hz := at_T41 (RdE.out (self := by assumption)) _ hc (by assumption); obtain ⟨a_, e_, c0_, c1_, c2_, c3_⟩ := hz; cases e_; replace c0_ := CelE.mk c0_; replace c1_ := CelE.mk c1_; replace c2_ := CelE.mk c2_; replace c3_ := CelE.mk c3_)) | (have hd := decide_eq_true hc) | skip) | ((with_reducible have hj : spec_RunActs.j0 k _ _ _ _ _ _ _ _ _ = _ := h); clear hj; rcases k with _ | k <;> rw [spec_RunActs.j0] at h <;> first | exact (none_some h).elim | skip) | ((with_reducible replace h := bind_set_ h); obtain ⟨hl_, h⟩ := h; replace hl_ := A_ hl_; (try dsimp only at h))))
 all_goals first
  | ((try simp only [Option.some.injEq, Prod.mk.injEq] at h); (try obtain ⟨rfl, rfl, rfl, rfl, rfl, rfl, rfl⟩ := h); refine bodyPost_ret (results_ct rfl _ _ _ _ _ (0, 0) _ rfl Blk.out Tryz.underlying37 rfl (by kernel_rfl)) rfl ?_; exact ⟨_, _, _, _, rfl, (by first | exact rowFin | exact rowFin' rfl | exact rowFin' (by simp) | exact Kd.R_nil _ _ _ _ _ | exact atFin | exact irowFin' (by simp)), (by first | exact Kd.R_nil _ _ _ _ _ | exact djR (ok := fun _ => True) (by first | exact rowFin | exact atFin | exact atFin' (by simp) | exact rowFin' (by simp))), (by first | exact rowFin | exact rowFin' rfl | exact rowFin' (by simp) | exact Kd.R_nil _ _ _ _ _ | exact atFin | exact irowFin' (by simp)), (by first | exact Kd.R_nil _ _ _ _ _ | exact djR (ok := fun _ => True) (by first | exact rowFin | exact atFin | exact atFin' (by simp) | exact rowFin' (by simp))), From.out⟩)
  | (exfalso; simp at hd; omega)
  | skip
 go_loopg [7, 8] k (fun kq v7 v8 w' => ∃ (x7_2 : List Int) (x8_2 : Int) (x1208000_2 : List (S112)) (x1208001_2 : Int) (x1208002_2 : List Int) (x1208003_2 : Int) (x1208004_2 : Int) (x1208005_2 : List (S104)) (u1208000 : Value) (u1208002 : Value) (u1208005 : Value), v8 = .int .i64 x8_2 ∧ Aside0 (spec_RunActs.l0 kq l1 x7_2 x8_2 x1208000_2 x1208001_2 x1208002_2 x1208003_2 x1208004_2 x1208005_2 = some (r1, r2, r3, r4, r5, r6, r7)) ∧ Aside0 (kq ≤ k) ∧ Aside0 (Kd.R (Kd.int .i64) 3 w' w.heap.size (fun k_ => some k_ ≠ (u1208002 : Value).ownBlock) v7 x7_2) ∧ Aside0 (Kd.R k112 112 w' w.heap.size (fun _ => True) u1208000 x1208000_2) ∧ Aside0 (Kd.R (Kd.int .i64) 3 w' w.heap.size (fun k_ => some k_ ≠ (v7 : Value).ownBlock) u1208002 x1208002_2) ∧ Aside0 (Kd.R k104 104 w' w.heap.size (fun _ => True) u1208005 x1208005_2) ∧ Aside0 (w'.heap[g2]? = some (.cells #[(.slice A0_0 l0_0.length c0_0), .int .i64 a0_1, (.slice A0_2 l0_2.length c0_2), .int .i64 a0_3, .int .i64 a0_4, (.slice A0_5 l0_5.length c0_5)] 37 (0, 0))) ∧ Aside0 (w'.heap[g4]? = some (.cells #[(.slice none 0 0), .int .i64 0, (.slice none 0 0), .int .i64 0, .int .i64 0, (.slice none 0 0)] 37 (0, 0))) ∧ Aside0 (w'.heap[g6]? = some (.cells #[u1208000, .int .i64 x1208001_2, u1208002, .int .i64 x1208003_2, .int .i64 x1208004_2, u1208005] 37 (0, 0))) ∧ Aside0 (Below w.heap.size w w'))
 case atStart => exact ⟨_, _, _, _, _, _, _, _, (.slice B0 t1.length b0), (.slice B1 t3.length b1), (.slice B2 t6.length b2), (by first | rfl | (simp; done)), ⟨h⟩, ⟨Nat.le_refl _⟩, ⟨djR (ok := fun _ => True) (by first | exact rowFin | exact atFin | exact atFin' (by simp) | exact rowFin' (by simp))⟩, ⟨by first | exact rowFin | exact rowFin' rfl | exact rowFin' (by simp) | exact Kd.R_nil _ _ _ _ _⟩, ⟨djR (ok := fun _ => True) (by first | exact rowFin | exact atFin | exact atFin' (by simp) | exact rowFin' (by simp))⟩, ⟨by first | exact rowFin | exact rowFin' rfl | exact rowFin' (by simp) | exact Kd.R_nil _ _ _ _ _⟩, ⟨Blk.out⟩, ⟨Blk.out⟩, ⟨Blk.out⟩, ⟨From.out⟩⟩
 case round =>
  clear h
  obtain ⟨x7_2, x8_2, x1208000_2, x1208001_2, x1208002_2, x1208003_2, x1208004_2, x1208005_2, u1208000, u1208002, u1208005, rfl, HA, HK2, HO_7, HO_1208000, HO_1208002, HO_1208005, BK1193, BK1194, BK1207, HB⟩ := hrel
  rcases gk with _ | k1
  ·exact absurd HA.out (by simp [spec_RunActs.l0])
  have h := HA.out
  clear HA
  simp only [spec_RunActs.l0] at h
  obtain ⟨A90, c90, rfl, j90, q90, o90⟩ := atOf_ HO_7.out; clear HO_7
  obtain ⟨A91, c91, rfl, j91, q91, o91⟩ := atOf_ HO_1208000.out; clear HO_1208000
  obtain ⟨A92, c92, rfl, j92, q92, o92⟩ := atOf_ HO_1208002.out; clear HO_1208002
  obtain ⟨A93, c93, rfl, j93, q93, o93⟩ := atOf_ HO_1208005.out; clear HO_1208005
  have BK1193_ := Blk.mk BK1193.out; clear BK1193
  have BK1194_ := Blk.mk BK1194.out; clear BK1194
  have BK1207_ := Blk.mk BK1207.out; clear BK1207
  have HB_ : From w wr := ⟨HB.out⟩; have HS_ : Sz w wr := ⟨HB.out.size⟩; clear HB
  (try have d90 := djOf_ o90); (try have d91 := djOf_ o91); (try have d92 := djOf_ o92); (try have d93 := djOf_ o93); clear o90 o91 o92 o93
  (repeat' first | ((with_reducible replace h := ite_some h); rcases h with ⟨hc, h⟩ | ⟨hc, h⟩ <;> first | exact (none_some h).elim | exact absurd hc (by decide) | subst hc | (replace hc := hF_ hc; subst hc) | (replace hc := hG_ hc; subst hc) | (replace hc := hH_ hc; subst hc) | (have hd : (_ == _) = true := hc) | (have hd : (_ == _) = false := hF_ hc) | (have hd := hI_ hc; have he := hJ_ hc; clear hc) | (have hd := hK_ hc; have he := hL_ hc) | (have hd := decide_eq_false hc) | (have hd := decide_eq_true hc; (try (have hn := Int.natCast_pos.mp hc; have hm := decide_eq_true hn; replace hn := eq_true hn)); first | (have hz := form_ (by assumption) (by first | assumption | decide) hc; obtain ⟨g_, e_, i_⟩ := hz; cases e_) | (have hz := atI_ (by assumption) (by first | assumption | decide) hc; obtain ⟨a_, e_, c_⟩ := hz; cases e_) | (have hz := at_T41 (RdE.out (self := by assumption)) _ (by first | assumption | decide) hc; obtain ⟨a_, e_, c0_, c1_, c2_, c3_⟩ := hz; cases e_; replace c0_ := CelE.mk c0_; replace c1_ := CelE.mk c1_; replace c2_ := CelE.mk c2_; replace c3_ := CelE.mk c3_) | (have hz := at_T41 (RdE.out (self := by assumption)) _ hc (by assumption); obtain ⟨a_, e_, c0_, c1_, c2_, c3_⟩ := hz; cases e_; replace c0_ := CelE.mk c0_; replace c1_ := CelE.mk c1_; replace c2_ := CelE.mk c2_; replace c3_ := CelE.mk c3_)) | (have hd := decide_eq_true hc) | skip) | ((with_reducible have hj : spec_RunActs.j0 k _ _ _ _ _ _ _ _ _ = _ := h); clear hj; rcases k with _ | k <;> rw [spec_RunActs.j0] at h <;> first | exact (none_some h).elim | skip) | ((with_reducible replace h := bind_set_ h); obtain ⟨hl_, h⟩ := h; replace hl_ := A_ hl_; (try dsimp only at h)))
  all_goals go_wp2_with ((first
   | ((with_reducible refine gate_dst (N := 2) rfl ?_); refine bV #[.slice A0_0 l0_0.length c0_0, .int .i64 a0_1, .slice A0_2 l0_2.length c0_2, .int .i64 a0_3, .int .i64 a0_4, .slice A0_5 l0_5.length c0_5] 37 fun g2 w1 ja1 ja2 ja3 => ?_)
   | ((with_reducible refine gate_dst (N := 4) rfl ?_); refine bV #[.slice none 0 0, .int .i64 0, .slice none 0 0, .int .i64 0, .int .i64 0, .slice none 0 0] 37 fun g4 w1 ja1 ja2 ja3 => ?_)
   | ((with_reducible refine gate_dst (N := 6) rfl ?_); refine bV #[.slice none 0 0, .int .i64 0, .slice none 0 0, .int .i64 0, .int .i64 0, .slice none 0 0] 37 fun g6 w1 ja1 ja2 ja3 => ?_)
   | ((with_reducible refine gate_dst (N := 13) rfl ?_); refine Kd.R_lit (Kd.int .i64) _ 3 ?hg (N := 13) ?hd (xs := ([] : List Int)) (inner := []) (ok := fun _ => True) (okp := fun _ => True) ?hr ?hp (fun _ hk => hk) trivial (Below.refl _ _) (Nat.le_refl _) (by simp) ?_; (case hd => rfl); (case hg => rfl); (case hr => first | (go_simp; done) | (go_simp; rfl)); (case hp => exact (Reps.none _ _)); intro v5 w5 ho hb hg_ hn_; obtain ⟨A5, c5, rfl⟩ := Kd.R_slice ho; have j5 := RowE.mk ho; have q5 := LeI.mk (rowLe j5); have j6 := Bel.mk hb; clear hg_ hn_ ho hb)
   | (go_at_call 45; (try rw [hl_.out]); replace h := bI h; obtain ⟨⟨t1, t2, t3, t4, t5, t6⟩, A, h⟩ := h; (try dsimp only at h); refine (spec_l38Copy.calls _ _ _ _ _ _ _ _ _ _ _ _ _ _ _ _ _ _ _ Rd.out LeI.out Rd.out LeI.out Rd.out LeI.out A).mono ?_; rintro e w2 ⟨v0, v1, v2, rfl, ho0, ho1, ho2, hb⟩; obtain ⟨B0, b0, rfl, j0, q0⟩ := rowS ho0; obtain ⟨B1, b1, rfl, j1, q1⟩ := rowS ho1; obtain ⟨B2, b2, rfl, j2, q2⟩ := rowS ho2; have jb := Bel.mk hb; clear A ho0 ho1 ho2 hb)
   | (go_at_call 37; (try rw [hl_.out]); replace h := bI h; obtain ⟨t, A, h⟩ := h; (try dsimp only at h); refine (spec_ShopOk.calls _ _ _ _ _ _ _ _ _ _ _ _ _ _ _ Rd.out LeI.out Rd.out LeI.out Rd.out LeI.out A).mono ?_; rintro e w2 ⟨rfl, hb⟩; have jb := Bel.mk hb; clear A hb)
   | (refine qR (id := 8) (ds := []) (l := #[false, false, false, false, false, false, false, false, false, false, false, false]) spec_RunActs.tab8 spec_RunActs.bits8 ?_; intro HT_ HW_ w3 jw u0 iu hHeld; replace h := bI h; obtain ⟨⟨r5t1, r5t2, r5t3, r5t4, r5t5, r5t6, r5t7⟩, A5, h⟩ := h; (try dsimp only at h); refine qT 0 (some 31) HT_ HW_ hHeld ?_; refine qA 1 (some 32) HT_ ?_; refine qA 2 (some 33) HT_ ?_; refine qA 3 (some 34) HT_ ?_; refine qT 4 (some 35) HT_ HW_ hHeld ?_; refine qO2 5 9 (some 36) (some 9) HT_ (fun K hK => ?_) (fun K hK => ?_); (focus (refine goes_ Tryz.func10 (by kernel_rfl) rfl _ (by rfl) rfl rfl (by (try simp only [List.map_toArray, List.map_cons, List.map_nil]); rfl) ?_; refine (spec_DoAct.calls _ _ _ _ _ _ _ _ _ _ _ _ _ _ _ _ _ _ _ _ _ _ _ _ _ Rd.out LeI.out Rd.out LeI.out Rd.out LeI.out A5).mono ?_; rintro e u5 ⟨v0, v1, v2, rfl, ho0, ho1, ho2, hb⟩; obtain ⟨B0, b0, rfl, j0, q0⟩ := rowS ho0; obtain ⟨B1, b1, rfl, j1, q1⟩ := rowS ho1; obtain ⟨B2, b2, rfl, j2, q2⟩ := rowS ho2; have jb := Bel.mk hb; (try clear ho0 ho1 ho2 hb); refine ⟨_, rfl, hK.out _ _ From.out fun hHeld => ?_⟩; clear hK K; refine qN ?_; refine qA 6 (some 30) HT_ ?_; refine qA 7 (some 37) HT_ ?_; refine qA 8 (some 38) HT_ ?_; refine qO1 9 (some 9) HT_ fun K hK => ?_; refine qX0 9 #[.slice none 0 0, .int .i64 0, .slice none 0 0, .int .i64 0, .int .i64 0, .slice none 0 0] 37 ?_; intro g9 ja9 u9 jb9 jc9; refine hK.out _ _ From.out fun hHeld => ?_; clear hK K; refine qN ?_; refine qS 10 HT_ fun hHeld => ?_; refine qA 11 (some 10) HT_ ?_; refine qD HT_ ?_)); rotate_left 1; (focus (refine qX0 9 #[.slice none 0 0, .int .i64 0, .slice none 0 0, .int .i64 0, .int .i64 0, .slice none 0 0] 37 ?_; intro g9 ja9 u9 jb9 jc9; refine hK.out _ _ From.out fun hHeld => ?_; clear hK K; refine qN ?_; refine qO1 5 (some 36) HT_ fun K hK => ?_; refine goes_ Tryz.func10 (by kernel_rfl) rfl _ (by rfl) rfl rfl (by (try simp only [List.map_toArray, List.map_cons, List.map_nil]); rfl) ?_; refine (spec_DoAct.calls _ _ _ _ _ _ _ _ _ _ _ _ _ _ _ _ _ _ _ _ _ _ _ _ _ Rd.out LeI.out Rd.out LeI.out Rd.out LeI.out A5).mono ?_; rintro e u5 ⟨v0, v1, v2, rfl, ho0, ho1, ho2, hb⟩; obtain ⟨B0, b0, rfl, j0, q0⟩ := rowS ho0; obtain ⟨B1, b1, rfl, j1, q1⟩ := rowS ho1; obtain ⟨B2, b2, rfl, j2, q2⟩ := rowS ho2; have jb := Bel.mk hb; (try clear ho0 ho1 ho2 hb); refine ⟨_, rfl, hK.out _ _ From.out fun hHeld => ?_⟩; clear hK K; refine qN ?_; refine qA 6 (some 30) HT_ ?_; refine qA 7 (some 37) HT_ ?_; refine qA 8 (some 38) HT_ ?_; refine qS 10 HT_ fun hHeld => ?_; refine qA 11 (some 10) HT_ ?_; refine qD HT_ ?_)); all_goals ((try simp only [Option.bind_some] at h); (repeat' first | ((with_reducible replace h := ite_some h); rcases h with ⟨hc, h⟩ | ⟨hc, h⟩ <;> first | exact (none_some h).elim | exact absurd hc (by decide) | subst hc | (replace hc := hF_ hc; subst hc) | (replace hc := hG_ hc; subst hc) | (replace hc := hH_ hc; subst hc) | (have hd : (_ == _) = true := hc) | (have hd : (_ == _) = false := hF_ hc) | (have hd := hI_ hc; have he := hJ_ hc; clear hc) | (have hd := hK_ hc; have he := hL_ hc) | (have hd := decide_eq_false hc) | (have hd := decide_eq_true hc; (try (have hn := Int.natCast_pos.mp hc; have hm := decide_eq_true hn; replace hn := eq_true hn)); first | (have hz := form_ (by assumption) (by first | assumption | decide) hc; obtain ⟨g_, e_, i_⟩ := hz; cases e_) | (have hz := atI_ (by assumption) (by first | assumption | decide) hc; obtain ⟨a_, e_, c_⟩ := hz; cases e_) | (have hz := at_T41 (RdE.out (self := by assumption)) _ (by first | assumption | decide) hc; obtain ⟨a_, e_, c0_, c1_, c2_, c3_⟩ := hz; cases e_; replace c0_ := CelE.mk c0_; replace c1_ := CelE.mk c1_; replace c2_ := CelE.mk c2_; replace c3_ := CelE.mk c3_) | (have hz := at_T41 (RdE.out (self := by assumption)) _ hc (by assumption); obtain ⟨a_, e_, c0_, c1_, c2_, c3_⟩ := hz; cases e_; replace c0_ := CelE.mk c0_; replace c1_ := CelE.mk c1_; replace c2_ := CelE.mk c2_; replace c3_ := CelE.mk c3_)) | (have hd := decide_eq_true hc) | skip) | ((with_reducible have hj : spec_RunActs.j0 k _ _ _ _ _ _ _ _ _ = _ := h); clear hj; rcases k with _ | k <;> rw [spec_RunActs.j0] at h <;> first | exact (none_some h).elim | skip) | ((with_reducible replace h := bind_set_ h); obtain ⟨hl_, h⟩ := h; replace hl_ := A_ hl_; (try dsimp only at h)))))
   | ((with_reducible refine gate_builtin (b := .append) (xs := #[.tmp 40, .tmp 42]) rfl ?_); (try (refine gate_guard (by rfl) ?_; dsimp only)); at_builtin; refine Kd.R_append (Kd.int .i64) (w0 := w) w.heap.size rfl (.tmp 40) (.tmp 42) 23 3 (.int .i64 0) 8 rfl Tryz.underlying23 info3 rfl (by decide) (by omega) (.slice A90 x7_2.length c90) x7_2 r5t7 [.int .i64 r5t7] (fun _ => True) (fun _ => False) rfl (by first | (go_simp; done) | (go_simp; rfl)) ?aP (fun _ hk => hk.elim) ?aF ?aO ?aB ?aS ?aL ?_; (case aP => exact rfl); (case aO => exact atFin); (case aB => exact From.out); (case aF => exact (fun _ _ => trivial)); (case aS => exact (From.out (w0 := w)).size); (case aL => omega); intro v7 w7 ho hb hg hat; have jg := grAt hg; obtain ⟨A7, c7, rfl⟩ := Kd.R_slice ho; have jk := keepGr j0 hg; have jd := djGr j1 hat; have je := djSym jd; have j7 := At.mk ho; have jf : From w w7 := ⟨hb⟩; have js : Sz w w7 := ⟨hb.size⟩; clear ho hb hg hat)); (repeat' first | ((with_reducible replace h := ite_some h); rcases h with ⟨hc, h⟩ | ⟨hc, h⟩ <;> first | exact (none_some h).elim | exact absurd hc (by decide) | subst hc | (replace hc := hF_ hc; subst hc) | (replace hc := hG_ hc; subst hc) | (replace hc := hH_ hc; subst hc) | (have hd : (_ == _) = true := hc) | (have hd : (_ == _) = false := hF_ hc) | (have hd := hI_ hc; have he := hJ_ hc; clear hc) | (have hd := hK_ hc; have he := hL_ hc) | (have hd := decide_eq_false hc) | (have hd := decide_eq_true hc; (try (have hn := Int.natCast_pos.mp hc; have hm := decide_eq_true hn; replace hn := eq_true hn)); first | (have hz := form_ (by assumption) (by first | assumption | decide) hc; obtain ⟨g_, e_, i_⟩ := hz; cases e_) | (have hz := atI_ (by assumption) (by first | assumption | decide) hc; obtain ⟨a_, e_, c_⟩ := hz; cases e_) | (have hz := at_T41 (RdE.out (self := by assumption)) _ (by first | assumption | decide) hc; obtain ⟨a_, e_, c0_, c1_, c2_, c3_⟩ := hz; cases e_; replace c0_ := CelE.mk c0_; replace c1_ := CelE.mk c1_; replace c2_ := CelE.mk c2_; replace c3_ := CelE.mk c3_) | (have hz := at_T41 (RdE.out (self := by assumption)) _ hc (by assumption); obtain ⟨a_, e_, c0_, c1_, c2_, c3_⟩ := hz; cases e_; replace c0_ := CelE.mk c0_; replace c1_ := CelE.mk c1_; replace c2_ := CelE.mk c2_; replace c3_ := CelE.mk c3_)) | (have hd := decide_eq_true hc) | skip) | ((with_reducible have hj : spec_RunActs.j0 k _ _ _ _ _ _ _ _ _ = _ := h); clear hj; rcases k with _ | k <;> rw [spec_RunActs.j0] at h <;> first | exact (none_some h).elim | skip) | ((with_reducible replace h := bind_set_ h); obtain ⟨hl_, h⟩ := h; replace hl_ := A_ hl_; (try dsimp only at h))))
  all_goals first
   | (go_roundg k1; (case measure => have := HK2.out; omega); (case rel => exact ⟨_, _, _, _, _, _, _, _, (.slice B0 r5t1.length b0), (.slice B1 r5t3.length b1), (.slice B2 r5t6.length b2), (by first | rfl | (simp; done)), ⟨h⟩, ⟨by have := HK2.out; omega⟩, ⟨djR (ok := fun _ => True) (by first | exact rowFin | exact atFin | exact atFin' (by simp) | exact rowFin' (by simp))⟩, ⟨by first | exact rowFin | exact rowFin' rfl | exact rowFin' (by simp) | exact Kd.R_nil _ _ _ _ _⟩, ⟨djR (ok := fun _ => True) (by first | exact rowFin | exact atFin | exact atFin' (by simp) | exact rowFin' (by simp))⟩, ⟨by first | exact rowFin | exact rowFin' rfl | exact rowFin' (by simp) | exact Kd.R_nil _ _ _ _ _⟩, ⟨Blk.out⟩, ⟨Blk.out⟩, ⟨Blk.out⟩, ⟨From.out⟩⟩))
   | ((try simp only [Option.some.injEq, Prod.mk.injEq] at h); (try obtain ⟨rfl, rfl, rfl, rfl, rfl, rfl, rfl⟩ := h); refine bodyPost_ret (results_ct rfl _ _ _ _ _ (0, 0) _ rfl Blk.out Tryz.underlying37 rfl (by kernel_rfl)) rfl ?_; exact ⟨_, _, _, _, rfl, (by first | exact rowFin | exact rowFin' rfl | exact rowFin' (by simp) | exact Kd.R_nil _ _ _ _ _ | exact atFin | exact irowFin' (by simp)), (by first | exact Kd.R_nil _ _ _ _ _ | exact djR (ok := fun _ => True) (by first | exact rowFin | exact atFin | exact atFin' (by simp) | exact rowFin' (by simp))), (by first | exact rowFin | exact rowFin' rfl | exact rowFin' (by simp) | exact Kd.R_nil _ _ _ _ _ | exact atFin | exact irowFin' (by simp)), (by first | exact Kd.R_nil _ _ _ _ _ | exact djR (ok := fun _ => True) (by first | exact rowFin | exact atFin | exact atFin' (by simp) | exact rowFin' (by simp))), From.out⟩)
end Go.Proofs.YtanhnhkcpbdfmaaGreat.P
namespace Go.Proofs.YtanhnhkcpbdfmaaGreat.P
set_option maxHeartbeats 8000000
set_option maxRecDepth 100000
set_option synthInstance.maxHeartbeats 400000
set_option synthInstance.maxSize 100000
open Go.RowKit Go.Proofs.YtanhnhkcpbdfmaaGreatW.PrintWords Go.Proofs.YtanhnhkcpbdfmaaGreatW.PrintLast Go.Proofs.YtanhnhkcpbdfmaaGreatW.PrintMore Go.Proofs.YtanhnhkcpbdfmaaGreat.V
attribute [local go_sem] cell_b frozen_b
attribute [local go_sem] max2_int min2_int max_two min_two max_three min_three max_four min_four
def impl_LogOk.f (k : Nat) (l0 : List (S104)) : Option (Bool) := some (Q.logOk l0)
attribute [local go_sem] cellR_c
theorem impl_LogOk.calls (k : Nat) (A0 : Option Addr) (c0 : Nat) (l0 : List (S104)) (r : Bool) (w : World) (hr0 : Kd.C k104 w A0 l0.length l0) (hc0 : l0.length ≤ c0) (h : impl_LogOk.f k l0 = some r) :
  Calls Tryz.prog 77 #[.slice A0 l0.length c0] w fun e w' => e = .returned (.bool r) ∧ Below w.heap.size w w' := by
 have win : ∀ (a b c : Int) (d : Bool), decide (b ≤ a ∧ a ≤ c) = d → Aside0 (∀ W : World, Calls Tryz.prog 79 #[.int .i64 a, .int .i64 b, .int .i64 c] W fun e w' => e = .returned (.bool d) ∧ Drawn0 W w') := fun a b c d hd =>
  ⟨fun W => impl_within.calls a b c d W (by rw [← hd]; unfold impl_within.f; by_cases hh : b ≤ a <;> simp [hh])⟩
 have hm : l0.length ≤ 9223372036854775807 := Kd.C_max hr0
 have HQ : Aside0 ((Q.logGo (Q.prevM l0 0) (l0.drop 0) && decide (l0.length ≤ 30)) = r) := ⟨Option.some.inj h⟩
 have HR0 := A_ hr0
 have WIN := A_ win
 clear hr0 h win
 have hu := Tryz.underlying104
 go_enter Tryz.func77, Tryz.ntmps77
 go_wp2
 go_loopg [7] (l0.length + 1) (fun kq v7 w' => ∃ (i : Nat), v7 = .int .i64 (i : Int) ∧ Aside0 (i + kq = l0.length + 1) ∧ Aside0 (i ≤ l0.length) ∧ Aside0 ((Q.logGo (Q.prevM l0 i) (l0.drop i) && decide (l0.length ≤ 30)) = r) ∧ Aside0 (Below w.heap.size w w'))
 case atStart => exact ⟨0, rfl, ⟨by omega⟩, ⟨by omega⟩, HQ, ⟨by repeat (first | exact Below.refl _ _ | apply below_alloc | apply pw_below_drewN | apply below_drew1)⟩⟩
 case round =>
  clear HQ
  obtain ⟨i, rfl, HI1, HI2, HQ, HB⟩ := hrel
  have jf : From w wr := ⟨HB.out⟩
  have js : Sz w wr := ⟨HB.out.size⟩
  by_cases hlt : i < l0.length
  rotate_left
  ·have hb3 : decide ((i : Int) < (l0.length : Int)) = false := decide_eq_false (by omega)
   have hb4 : decide (i < l0.length) = false := decide_eq_false (by omega)
   obtain rfl : i = l0.length := by have := HI2.out; omega
   have HX : Aside0 (decide (l0.length ≤ 30) = r) := ⟨by rw [← HQ.out, List.drop_eq_nil_of_le (Nat.le_refl _)]; simp [Q.logGo]⟩
   have hx1 : decide ((l0.length : Int) ≤ 30) = r := by rw [← HX.out]; exact decide_eq_decide.mpr (by omega)
   clear HQ HR0 WIN
   go_wp2
   go_ret
   exact ⟨by first | rfl | (simp [hx1]; done), HB.out⟩
  ·have hb3 : decide ((i : Int) < (l0.length : Int)) = true := decide_eq_true (by omega)
   have hb4 : decide (i < l0.length) = true := decide_eq_true hlt
   obtain ⟨ad, e, hx0, hx1, hx2, hx3⟩ := at_T104 HR0.out (i : Int) (by omega) (by omega)
   cases e
   obtain ⟨x, hx⟩ : ∃ x, rd_T104 l0 (i : Int) = x := ⟨_, rfl⟩
   rw [hx] at hx0 hx1 hx2 hx3
   simp only [Int.toNat_natCast] at hx0 hx1 hx2 hx3
   have j0 : CelR wr _ _ := ⟨hW HB hx0⟩
   have j1 : CelR wr _ _ := ⟨hW HB hx1⟩
   have j2 : CelR wr _ _ := ⟨hW HB hx2⟩
   have j3 : CelR wr _ _ := ⟨hW HB hx3⟩
   have e0 : l0[i] = x := by rw [← hx]; simp [rd_T104, List.getD_eq_getElem?_getD, hlt]
   have HD := A_ (Q.logGo_at l0 i hlt)
   rw [e0] at HD
   obtain ⟨b1, hb1⟩ : ∃ b, decide (0 ≤ x.f0.f0 ∧ x.f0.f0 ≤ 3) = b := ⟨_, rfl⟩
   obtain ⟨b2, hb2⟩ : ∃ b, decide (0 ≤ x.f0.f1 ∧ x.f0.f1 ≤ 39) = b := ⟨_, rfl⟩
   obtain ⟨b3, hb3'⟩ : ∃ b, decide (0 ≤ x.f1 ∧ x.f1 ≤ 2) = b := ⟨_, rfl⟩
   obtain ⟨b4, hb4'⟩ : ∃ b, decide (0 ≤ x.f2 ∧ x.f2 ≤ 100000) = b := ⟨_, rfl⟩
   have W1 := WIN.out _ _ _ _ hb1
   have W2 := WIN.out _ _ _ _ hb2
   have W3 := WIN.out _ _ _ _ hb3'
   have W4 := WIN.out _ _ _ _ hb4'
   have HE : Aside0 (Q.entOk x = (b1 && (b2 && (b3 && b4)))) := ⟨by rw [← hb1, ← hb2, ← hb3', ← hb4']; rfl⟩
   have HP : Aside0 (0 < i → Q.prevM l0 i = (rd_T104 l0 ((i - 1 : Nat) : Int)).f2) := ⟨fun h0 => by rw [Q.prevM_pos l0 i h0 hlt]; simp [rd_T104, List.getD_eq_getElem?_getD, show i - 1 < l0.length by omega]⟩
   have HZ : Aside0 (b4 = true → i = 0 → Q.prevM l0 i ≤ x.f2) := ⟨fun h4 h0 => by subst h0; rw [h4, decide_eq_true_eq] at hb4'; exact hb4'.1⟩
   clear hx hx0 hx1 hx2 hx3 e0 WIN hb1 hb2 hb3' hb4'
   cases b1 with
   | false =>
    obtain rfl : false = r := by rw [← HQ.out, HD.out, HE.out]; rfl
    clear HR0 HQ HD HE HP HZ
    go_wp2_with (first         | ((with_reducible refine gate_dst (N := 4) rfl ?_); refine bV #[.int .i64 0, .int .i64 0, .int .i64 0, .int .i64 0] 104 fun g w1 j1 j2 j3 => ?_)         | (go_at_call 79; (first | (with_reducible refine (W1.out _).mono ?_) | (with_reducible refine (W2.out _).mono ?_) | (with_reducible refine (W3.out _).mono ?_) | (with_reducible refine (W4.out _).mono ?_)); rintro e w' ⟨rfl, ⟨nd, rfl⟩⟩))
    repeat (go_quiet (first | (go_at_call 79; (first | (with_reducible refine (W1.out _).mono ?_) | (with_reducible refine (W2.out _).mono ?_) | (with_reducible refine (W3.out _).mono ?_) | (with_reducible refine (W4.out _).mono ?_)); rintro e w' ⟨rfl, ⟨nd, rfl⟩⟩; exact ⟨rfl, _, World.drewN_drewN _ _ _⟩)); try go_wp2)
    go_ret
    exact ⟨rfl, From.out⟩
   | true =>
    cases b2 with
    | false =>
     obtain rfl : false = r := by rw [← HQ.out, HD.out, HE.out]; rfl
     clear HR0 HQ HD HE HP HZ
     go_wp2_with (first         | ((with_reducible refine gate_dst (N := 4) rfl ?_); refine bV #[.int .i64 0, .int .i64 0, .int .i64 0, .int .i64 0] 104 fun g w1 j1 j2 j3 => ?_)         | (go_at_call 79; (first | (with_reducible refine (W1.out _).mono ?_) | (with_reducible refine (W2.out _).mono ?_) | (with_reducible refine (W3.out _).mono ?_) | (with_reducible refine (W4.out _).mono ?_)); rintro e w' ⟨rfl, ⟨nd, rfl⟩⟩))
     repeat (go_quiet (first | (go_at_call 79; (first | (with_reducible refine (W1.out _).mono ?_) | (with_reducible refine (W2.out _).mono ?_) | (with_reducible refine (W3.out _).mono ?_) | (with_reducible refine (W4.out _).mono ?_)); rintro e w' ⟨rfl, ⟨nd, rfl⟩⟩; exact ⟨rfl, _, World.drewN_drewN _ _ _⟩)); try go_wp2)
     go_ret
     exact ⟨rfl, From.out⟩
    | true =>
     cases b3 with
     | false =>
      obtain rfl : false = r := by rw [← HQ.out, HD.out, HE.out]; rfl
      clear HR0 HQ HD HE HP HZ
      go_wp2_with (first         | ((with_reducible refine gate_dst (N := 4) rfl ?_); refine bV #[.int .i64 0, .int .i64 0, .int .i64 0, .int .i64 0] 104 fun g w1 j1 j2 j3 => ?_)         | (go_at_call 79; (first | (with_reducible refine (W1.out _).mono ?_) | (with_reducible refine (W2.out _).mono ?_) | (with_reducible refine (W3.out _).mono ?_) | (with_reducible refine (W4.out _).mono ?_)); rintro e w' ⟨rfl, ⟨nd, rfl⟩⟩))
      repeat (go_quiet (first | (go_at_call 79; (first | (with_reducible refine (W1.out _).mono ?_) | (with_reducible refine (W2.out _).mono ?_) | (with_reducible refine (W3.out _).mono ?_) | (with_reducible refine (W4.out _).mono ?_)); rintro e w' ⟨rfl, ⟨nd, rfl⟩⟩; exact ⟨rfl, _, World.drewN_drewN _ _ _⟩)); try go_wp2)
      go_ret
      exact ⟨rfl, From.out⟩
     | true =>
      cases b4 with
      | false =>
       obtain rfl : false = r := by rw [← HQ.out, HD.out, HE.out]; rfl
       clear HR0 HQ HD HE HP HZ
       go_wp2_with (first         | ((with_reducible refine gate_dst (N := 4) rfl ?_); refine bV #[.int .i64 0, .int .i64 0, .int .i64 0, .int .i64 0] 104 fun g w1 j1 j2 j3 => ?_)         | (go_at_call 79; (first | (with_reducible refine (W1.out _).mono ?_) | (with_reducible refine (W2.out _).mono ?_) | (with_reducible refine (W3.out _).mono ?_) | (with_reducible refine (W4.out _).mono ?_)); rintro e w' ⟨rfl, ⟨nd, rfl⟩⟩))
       repeat (go_quiet (first | (go_at_call 79; (first | (with_reducible refine (W1.out _).mono ?_) | (with_reducible refine (W2.out _).mono ?_) | (with_reducible refine (W3.out _).mono ?_) | (with_reducible refine (W4.out _).mono ?_)); rintro e w' ⟨rfl, ⟨nd, rfl⟩⟩; exact ⟨rfl, _, World.drewN_drewN _ _ _⟩)); try go_wp2)
       go_ret
       exact ⟨rfl, From.out⟩
      | true =>
       have hs : (i : Int) + 1 ≤ 9223372036854775807 := by omega
       by_cases hz : i = 0
       ·have hz1 : decide ((i : Int) > 0) = false := decide_eq_false (by omega)
        have hz2 : decide ((0 : Int) < (i : Int)) = false := decide_eq_false (by omega)
        have hz3 : decide (0 < i) = false := decide_eq_false (by omega)
        have HN : Aside0 ((Q.logGo (Q.prevM l0 (i + 1)) (l0.drop (i + 1)) && decide (l0.length ≤ 30)) = r) := ⟨by rw [← HQ.out, HD.out, HE.out, show decide (Q.prevM l0 i ≤ x.f2) = true from decide_eq_true (HZ.out rfl hz)]; rfl⟩
        clear HQ HD HE HP HZ hz
        go_wp2_with (first         | ((with_reducible refine gate_dst (N := 4) rfl ?_); refine bV #[.int .i64 0, .int .i64 0, .int .i64 0, .int .i64 0] 104 fun g w1 j1 j2 j3 => ?_)         | (go_at_call 79; (first | (with_reducible refine (W1.out _).mono ?_) | (with_reducible refine (W2.out _).mono ?_) | (with_reducible refine (W3.out _).mono ?_) | (with_reducible refine (W4.out _).mono ?_)); rintro e w' ⟨rfl, ⟨nd, rfl⟩⟩))
        repeat (go_quiet (first | (go_at_call 79; (first | (with_reducible refine (W1.out _).mono ?_) | (with_reducible refine (W2.out _).mono ?_) | (with_reducible refine (W3.out _).mono ?_) | (with_reducible refine (W4.out _).mono ?_)); rintro e w' ⟨rfl, ⟨nd, rfl⟩⟩; exact ⟨rfl, _, World.drewN_drewN _ _ _⟩)); try go_wp2)
        go_roundg (l0.length - i)
        case measure => have := HI1.out; omega
        case rel => exact ⟨i + 1, by go_num, ⟨by omega⟩, ⟨by omega⟩, HN, ⟨From.out⟩⟩
       ·obtain ⟨j, hj⟩ : ∃ j, j = i - 1 := ⟨_, rfl⟩
        have hz1 : decide ((i : Int) > 0) = true := decide_eq_true (by omega)
        have hz2 : decide ((0 : Int) < (i : Int)) = true := decide_eq_true (by omega)
        have hz3 : decide (0 < i) = true := decide_eq_true (by omega)
        have hw1 : wrap64 ((i : Int) - 1) = (j : Int) := by unfold wrap64; omega
        have hw2 : IntKind.i64.wrap ((i : Int) - 1) = (j : Int) := by rw [i64_w]; exact hw1
        have hj1 : (j : Int) < (l0.length : Int) := by omega
        have hj2 : j < l0.length := by omega
        have hl1 : decide ((j : Int) < (l0.length : Int)) = true := decide_eq_true (by omega)
        have hl2 : decide (j < l0.length) = true := decide_eq_true (by omega)
        obtain ⟨ad2, e2, _, _, _, hy3⟩ := at_T104 HR0.out (j : Int) (by omega) (by omega)
        cases e2
        obtain ⟨y, hy⟩ : ∃ y, rd_T104 l0 (j : Int) = y := ⟨_, rfl⟩
        have HP2 := A_ (HP.out (by omega))
        rw [← hj, hy] at HP2
        rw [hy] at hy3
        simp only [Int.toNat_natCast] at hy3
        have j4 : CelR wr _ _ := ⟨hW HB hy3⟩
        clear hy hy3 HP hj
        by_cases h5 : y.f2 ≤ x.f2
        ·have h51 : decide (y.f2 > x.f2) = false := decide_eq_false (by omega)
         have h52 : decide (x.f2 < y.f2) = false := decide_eq_false (by omega)
         have HN : Aside0 ((Q.logGo (Q.prevM l0 (i + 1)) (l0.drop (i + 1)) && decide (l0.length ≤ 30)) = r) := ⟨by rw [← HQ.out, HD.out, HE.out, show decide (Q.prevM l0 i ≤ x.f2) = true from decide_eq_true (by rw [HP2.out]; exact h5)]; rfl⟩
         clear HQ HD HE HP2 HZ HR0
         go_wp2_with (first         | ((with_reducible refine gate_dst (N := 4) rfl ?_); refine bV #[.int .i64 0, .int .i64 0, .int .i64 0, .int .i64 0] 104 fun g w1 j1 j2 j3 => ?_)         | (go_at_call 79; (first | (with_reducible refine (W1.out _).mono ?_) | (with_reducible refine (W2.out _).mono ?_) | (with_reducible refine (W3.out _).mono ?_) | (with_reducible refine (W4.out _).mono ?_)); rintro e w' ⟨rfl, ⟨nd, rfl⟩⟩))
         repeat (go_quiet (first | (go_at_call 79; (first | (with_reducible refine (W1.out _).mono ?_) | (with_reducible refine (W2.out _).mono ?_) | (with_reducible refine (W3.out _).mono ?_) | (with_reducible refine (W4.out _).mono ?_)); rintro e w' ⟨rfl, ⟨nd, rfl⟩⟩; exact ⟨rfl, _, World.drewN_drewN _ _ _⟩)); try go_wp2)
         go_roundg (l0.length - i)
         case measure => have := HI1.out; omega
         case rel => exact ⟨i + 1, by go_num, ⟨by omega⟩, ⟨by omega⟩, HN, ⟨From.out⟩⟩
        ·have h51 : decide (y.f2 > x.f2) = true := decide_eq_true (by omega)
         have h52 : decide (x.f2 < y.f2) = true := decide_eq_true (by omega)
         obtain rfl : false = r := by rw [← HQ.out, HD.out, HE.out, show decide (Q.prevM l0 i ≤ x.f2) = false from decide_eq_false (by rw [HP2.out]; exact h5)]; rfl
         clear HQ HD HE HP2 HZ HR0
         go_wp2_with (first         | ((with_reducible refine gate_dst (N := 4) rfl ?_); refine bV #[.int .i64 0, .int .i64 0, .int .i64 0, .int .i64 0] 104 fun g w1 j1 j2 j3 => ?_)         | (go_at_call 79; (first | (with_reducible refine (W1.out _).mono ?_) | (with_reducible refine (W2.out _).mono ?_) | (with_reducible refine (W3.out _).mono ?_) | (with_reducible refine (W4.out _).mono ?_)); rintro e w' ⟨rfl, ⟨nd, rfl⟩⟩))
         repeat (go_quiet (first | (go_at_call 79; (first | (with_reducible refine (W1.out _).mono ?_) | (with_reducible refine (W2.out _).mono ?_) | (with_reducible refine (W3.out _).mono ?_) | (with_reducible refine (W4.out _).mono ?_)); rintro e w' ⟨rfl, ⟨nd, rfl⟩⟩; exact ⟨rfl, _, World.drewN_drewN _ _ _⟩)); try go_wp2)
         go_ret
         exact ⟨rfl, From.out⟩
end Go.Proofs.YtanhnhkcpbdfmaaGreat.P
namespace Go.Proofs.YtanhnhkcpbdfmaaGreat.Q
open Go.RowKit Go.Proofs.YtanhnhkcpbdfmaaGreat.P Go.Proofs.YtanhnhkcpbdfmaaGreatW.PrintWords Go.Proofs.YtanhnhkcpbdfmaaGreatW.PrintMore
theorem logOk_spec (l : List S104) (hl : l.length ≤ 1048577) : Ev (fun k => spec_LogOk.f k l) (logOk l) := Ev.now _
theorem logOk_impl (l : List S104) (hl : l.length ≤ 1048577) : Ev (fun k => impl_LogOk.f k l) (logOk l) := Ev.now _
def beforeE (a b : S104) : Bool := if a.f1 = b.f1 then (if a.f2 = b.f2 then (if a.f0.f0 = b.f0.f0 then decide (a.f0.f1 < b.f0.f1) else decide (a.f0.f0 < b.f0.f0)) else decide (a.f2 < b.f2)) else decide (a.f1 > b.f1)
theorem before_eq (a b : S104) : spec_l35Before.f a.f0.f0 a.f0.f1 a.f1 a.f2 b.f0.f0 b.f0.f1 b.f1 b.f2 = some (beforeE a b) := by
  unfold spec_l35Before.f beforeE
  by_cases h1 : a.f1 = b.f1 <;> by_cases h2 : a.f2 = b.f2 <;> by_cases h3 : a.f0.f0 = b.f0.f0 <;> simp [h1, h2, h3]
theorem entry_eq {a b : S104} (h0 : a.f0.f0 = b.f0.f0) (h1 : a.f0.f1 = b.f0.f1) (h2 : a.f1 = b.f1) (h3 : a.f2 = b.f2) : a = b := by
  obtain ⟨⟨x, y⟩, z, u⟩ := a
  obtain ⟨⟨x', y'⟩, z', u'⟩ := b
  simp only at h0 h1 h2 h3
  rw [h0, h1, h2, h3]
theorem before_total {a b : S104} (h : a ≠ b) : beforeE a b = true ∨ beforeE b a = true := by
  unfold beforeE
  by_cases h1 : a.f1 = b.f1
  · by_cases h2 : a.f2 = b.f2
    · by_cases h3 : a.f0.f0 = b.f0.f0
      · by_cases h4 : a.f0.f1 = b.f0.f1
        · exact absurd (entry_eq h3 h4 h1 h2) h
        · simp [h1, h2, h3]; omega
      · simp [h1, h2, h3, Ne.symm h3]; omega
    · simp [h1, h2, Ne.symm h2]; omega
  · simp [h1, Ne.symm h1]; omega
theorem before_asymm {a b : S104} (h : beforeE a b = true) : beforeE b a = false := by
  unfold beforeE at h ⊢
  by_cases h1 : a.f1 = b.f1
  · by_cases h2 : a.f2 = b.f2
    · by_cases h3 : a.f0.f0 = b.f0.f0
      · simp [h1, h2, h3] at h ⊢; omega
      · simp [h1, h2, h3, Ne.symm h3] at h ⊢; omega
    · simp [h1, h2, Ne.symm h2] at h ⊢; omega
  · simp [h1, Ne.symm h1] at h ⊢; omega
theorem before_irrefl (a : S104) : beforeE a a = false := by simp [beforeE]
theorem before_iff {a b : S104} : beforeE a b = true ↔ a.f1 > b.f1 ∨ (a.f1 = b.f1 ∧ (a.f2 < b.f2 ∨ (a.f2 = b.f2 ∧ (a.f0.f0 < b.f0.f0 ∨ (a.f0.f0 = b.f0.f0 ∧ a.f0.f1 < b.f0.f1))))) := by
  unfold beforeE
  by_cases h1 : a.f1 = b.f1
  · by_cases h2 : a.f2 = b.f2
    · by_cases h3 : a.f0.f0 = b.f0.f0
      · rw [if_pos h1, if_pos h2, if_pos h3, decide_eq_true_eq]; omega
      · rw [if_pos h1, if_pos h2, if_neg h3, decide_eq_true_eq]; omega
    · rw [if_pos h1, if_neg h2, decide_eq_true_eq]; omega
  · rw [if_neg h1, decide_eq_true_eq]; omega
theorem before_trans {a b c : S104} (h : beforeE a b = true) (k : beforeE b c = true) : beforeE a c = true := by
  rw [before_iff] at h k ⊢
  omega
theorem sorted_ext : ∀ {xs ys : List S104}, xs.Pairwise (fun a b => beforeE a b = true) → ys.Pairwise (fun a b => beforeE a b = true) → (∀ a, a ∈ xs ↔ a ∈ ys) → xs = ys
  | [], [], _, _, _ => rfl
  | [], y :: _, _, _, h => by have := (h y).mpr (by simp); simp at this
  | x :: _, [], _, _, h => by have := (h x).mp (by simp); simp at this
  | x :: xs, y :: ys, hx, hy, h => by
    obtain ⟨hx1, hx2⟩ := List.pairwise_cons.1 hx
    obtain ⟨hy1, hy2⟩ := List.pairwise_cons.1 hy
    have e : x = y := by
      rcases List.mem_cons.1 ((h x).mp (by simp)) with e | e
      · exact e
      rcases List.mem_cons.1 ((h y).mpr (by simp)) with e' | e'
      · exact e'.symm
      have a1 := hy1 x e
      have a2 := hx1 y e'
      rw [before_asymm a1] at a2
      cases a2
    subst e
    rw [sorted_ext hx2 hy2 (fun a => ⟨fun ha => by
      rcases List.mem_cons.1 ((h a).mp (List.mem_cons_of_mem _ ha)) with e | e
      · subst e; have := hx1 a ha; rw [before_irrefl] at this; cases this
      · exact e, fun ha => by
      rcases List.mem_cons.1 ((h a).mpr (List.mem_cons_of_mem _ ha)) with e | e
      · subst e; have := hy1 a ha; rw [before_irrefl] at this; cases this
      · exact e⟩)]
def insAt (x : S104) (out : List S104) : Nat → List S104
  | 0 => x :: out
  | n + 1 => if beforeE x (out.getD n z104) = true then insAt x out n else out.take (n + 1) ++ x :: out.drop (n + 1)
theorem mem_insAt (x : S104) (out : List S104) (a : S104) : ∀ n, a ∈ insAt x out n ↔ a = x ∨ a ∈ out
  | 0 => by simp [insAt]
  | n + 1 => by
    unfold insAt
    split
    · exact mem_insAt x out a n
    · rw [List.mem_append, List.mem_cons]
      constructor
      · rintro (h | h | h)
        · exact .inr (List.mem_of_mem_take h)
        · exact .inl h
        · exact .inr (List.mem_of_mem_drop h)
      · rintro (h | h)
        · exact .inr (.inl h)
        · rw [← List.take_append_drop (n + 1) out, List.mem_append] at h
          rcases h with h | h
          · exact .inl h
          · exact .inr (.inr h)
theorem insAt_length (x : S104) (out : List S104) : ∀ n, (insAt x out n).length = out.length + 1
  | 0 => by simp [insAt]
  | n + 1 => by
    unfold insAt
    split
    · exact insAt_length x out n
    · have := congrArg List.length (List.take_append_drop (n + 1) out)
      simp only [List.length_append, List.length_cons] at this ⊢
      omega
theorem sorted_insAt (x : S104) (out : List S104) (hs : out.Pairwise (fun a b => beforeE a b = true)) (hx : ∀ a ∈ out, a ≠ x) :
    ∀ n, n ≤ out.length → (∀ a ∈ out.drop n, beforeE x a = true) → (insAt x out n).Pairwise (fun a b => beforeE a b = true)
  | 0, _, h => by
    unfold insAt
    exact List.pairwise_cons.2 ⟨fun a ha => h a (by simpa using ha), hs⟩
  | n + 1, hn, h => by
    have hlt : n < out.length := by omega
    have e : out.getD n z104 = out[n] := by simp [List.getD_eq_getElem?_getD, hlt]
    unfold insAt
    rw [e]
    split
    · rename_i hb
      refine sorted_insAt x out hs hx n (by omega) fun a ha => ?_
      rw [List.drop_eq_getElem_cons hlt] at ha
      rcases List.mem_cons.1 ha with rfl | ha
      · exact hb
      · exact h a ha
    · rename_i hb
      have hnx : beforeE out[n] x = true := by
        rcases before_total (hx out[n] (List.getElem_mem hlt)) with h' | h'
        · exact h'
        · exact absurd h' hb
      have hs' := hs
      rw [← List.take_append_drop (n + 1) out] at hs'
      obtain ⟨p1, p2, p3⟩ := List.pairwise_append.1 hs'
      refine List.pairwise_append.2 ⟨p1, List.pairwise_cons.2 ⟨h, p2⟩, fun a ha b hb' => ?_⟩
      have hax : beforeE a x = true := by
        rw [List.take_succ_eq_append_getElem hlt, List.mem_append, List.mem_singleton] at ha
        rcases ha with ha | rfl
        · rw [List.take_succ_eq_append_getElem hlt] at p1
          exact before_trans ((List.pairwise_append.1 p1).2.2 a ha out[n] (by simp)) hnx
        · exact hnx
      rcases List.mem_cons.1 hb' with rfl | hb'
      · exact hax
      · exact p3 a ha b hb'
def neP (x y : S104) : Bool := !(y.f0.f0 == x.f0.f0) || !(y.f0.f1 == x.f0.f1)
def lastAt (l : List S104) (i : Nat) : Bool := ((l.getD i z104).f1 != 0) && (l.drop (i + 1)).all (neP (l.getD i z104))
def openUp (l : List S104) : Nat → List S104
  | 0 => []
  | i + 1 => if lastAt l i = true then insAt (l.getD i z104) (openUp l i) (openUp l i).length else openUp l i
theorem openUp_length (l : List S104) : ∀ i, (openUp l i).length ≤ i
  | 0 => by simp [openUp]
  | i + 1 => by
    have := openUp_length l i
    unfold openUp
    split
    · rw [insAt_length]; omega
    · omega
theorem eta_entry (x : S104) : (⟨(⟨x.f0.f0, x.f0.f1⟩ : S74), x.f1, x.f2⟩ : S104) = x := rfl
theorem hole_get (out : List S104) (y : S104) (n : Nat) (h : n < out.length) : rd_T104 (out.take (n + 1) ++ y :: out.drop (n + 1)) (n : Int) = out.getD n z104 := by
  unfold rd_T104
  rw [Int.toNat_natCast, List.getD_eq_getElem?_getD, List.getElem?_append_left (by rw [List.length_take]; omega), List.getD_eq_getElem?_getD]
  simp [List.getElem?_take]
theorem hole_set (out : List S104) (y x : S104) (n : Nat) (h : n ≤ out.length) : (out.take n ++ y :: out.drop n).set n x = out.take n ++ x :: out.drop n := by
  have e : (out.take n).length = n := by rw [List.length_take]; omega
  rw [List.set_append_right _ _ (by omega), e, Nat.sub_self]
  rfl
theorem hole_len (out : List S104) (y : S104) (n : Nat) (h : n ≤ out.length) : (out.take n ++ y :: out.drop n).length = out.length + 1 := by
  simp only [List.length_append, List.length_cons, List.length_take, List.length_drop]; omega
theorem hole_shift (out : List S104) (n : Nat) (h : n < out.length) : out.take (n + 1) ++ out.getD n z104 :: out.drop (n + 1) = out.take n ++ out.getD n z104 :: out.drop n := by
  have e : out.getD n z104 = out[n] := by simp [List.getD_eq_getElem?_getD, h]
  rw [e, List.take_succ_eq_append_getElem h, List.drop_eq_getElem_cons h, List.append_assoc]
  rfl
theorem open_l2 (l : List S104) (i : Nat) (hi : i < l.length) (hl : l.length ≤ 1048577) (out : List S104) (ho : out.length ≤ 1048577) (R : List S104) :
    ∀ n, n ≤ out.length → Ev (fun k => spec_OpenFaults.l0 k l (insAt l[i] out n) ((i : Int) + 1)) R → ∀ y, Ev (fun k => spec_OpenFaults.l2 k l (out.take n ++ y :: out.drop n) (i : Int) (n : Int)) R
  | 0, hn, H, y => by
    refine Ev.step (fun k => by rw [spec_OpenFaults.l2]) (evn (by omega) ?_)
    rw [hole_len out y 0 (by omega)]
    refine evp (by omega) (evp (by omega) (evp (by omega) (evp (by omega) ?_)))
    rw [rdE l i hi, w64 (n := (i : Int) + 1) (by omega) (by omega), eta_entry]
    simpa [insAt] using H
  | n + 1, hn, H, y => by
    refine Ev.step (fun k => by rw [spec_OpenFaults.l2]) ?_
    have e1 : ((n + 1 : Nat) : Int) - 1 = (n : Int) := by omega
    rw [w64 (n := ((n + 1 : Nat) : Int) - 1) (by omega) (by omega), e1]
    rw [hole_len out y (n + 1) hn, hole_get out y n (by omega)]
    refine evp (by omega) (evp (by omega) (evp (by omega) (evp (by omega) (evp (by omega) ?_))))
    rw [rdE l i hi]
    refine evb (before_eq _ _) ?_
    have et : (((n + 1 : Nat) : Int)).toNat = n + 1 := by omega
    rw [et, hole_set out y _ (n + 1) hn, hole_set out y _ (n + 1) hn, eta_entry, eta_entry]
    by_cases hb : beforeE l[i] (out.getD n z104) = true
    · refine evp hb (evp (by omega) (evp (by omega) ?_))
      rw [hole_shift out n (by omega)]
      refine open_l2 l i hi hl out ho R n (by omega) ?_ _
      unfold insAt at H
      rwa [if_pos hb] at H
    · refine evn hb (evp (by omega) (evp (by omega) ?_))
      rw [w64 (n := (i : Int) + 1) (by omega) (by omega)]
      unfold insAt at H
      rwa [if_neg hb] at H
theorem open_spec (l : List S104) (hl : l.length ≤ 1048577) : Ev (fun k => spec_OpenFaults.f k l) (if logOk l = true then openUp l l.length else []) := by
  have HL := logOk_spec l hl
  by_cases h0 : logOk l = true
  rotate_left
  · rw [if_neg h0]
    replace h0 := Bool.eq_false_iff.mpr h0
    rw [h0] at HL
    unfold spec_OpenFaults.f
    by_cases hz : l.length = 0
    · have : l = [] := List.length_eq_zero_iff.mp hz
      subst this
      exact absurd h0 (by decide)
    refine Ev.step (fun k => by rw [spec_OpenFaults.l0]) (evp (by omega) (Ev.bind HL ?_))
    exact Ev.step (fun k => by rw [spec_OpenFaults.j1]) (evn (by decide) (evs rfl))
  rw [if_pos h0]
  rw [h0] at HL
  obtain ⟨R, hR⟩ : ∃ R, openUp l l.length = R := ⟨_, rfl⟩
  have key : ∀ i, i ≤ l.length → Ev (fun k => spec_OpenFaults.l0 k l (openUp l i) (i : Int)) R := by
    refine down (n := l.length) ?_ ?_
    · refine Ev.step (fun k => by rw [spec_OpenFaults.l0]) (evn (by omega) ?_)
      exact Ev.step (fun k => by rw [spec_OpenFaults.j1]) (evn (by decide) (evs hR))
    · intro i hi ih
      have eg : l.getD i z104 = l[i] := by simp [List.getD_eq_getElem?_getD, hi]
      refine Ev.step (fun k => by rw [spec_OpenFaults.l0]) (evp (by omega) (Ev.bind HL ?_))
      refine Ev.step (fun k => by rw [spec_OpenFaults.j1]) (evp rfl (evp (by omega) (evp (by omega) ?_)))
      rw [rdE l i hi, w64 (n := (i : Int) + 1) (by omega) (by omega)]
      have key1 : ∀ j, j ≤ l.length → ∀ b, (b && (l.drop j).all (neP l[i])) = lastAt l i → Ev (fun k => spec_OpenFaults.l1 k l (openUp l i) (i : Int) b (j : Int)) R := by
        refine down (n := l.length) ?_ ?_
        · intro b hb
          rw [drop_end] at hb
          simp only [List.all_nil, Bool.and_true] at hb
          refine Ev.step (fun k => by rw [spec_OpenFaults.l1]) (evn (by omega) ?_)
          have ho := openUp_length l i
          cases b with
          | true =>
            refine evp rfl (evp (by omega) (evp (by omega) (evp (by omega) ?_)))
            rw [rdE l i hi, eta_entry]
            have := open_l2 l i hi hl (openUp l i) (by omega) R (openUp l i).length (Nat.le_refl _) (by
              have e : ((i + 1 : Nat) : Int) = (i : Int) + 1 := by omega
              rw [← e]
              unfold openUp at ih
              rw [if_pos hb.symm, eg] at ih
              exact ih) l[i]
            rwa [List.take_length, drop_end] at this
          | false =>
            refine evn (by decide) ?_
            rw [w64 (n := (i : Int) + 1) (by omega) (by omega)]
            have e : ((i + 1 : Nat) : Int) = (i : Int) + 1 := by omega
            rw [← e]
            unfold openUp at ih
            rw [if_neg (by rw [← hb]; decide)] at ih
            exact ih
        · intro j hj ih1 b hb
          refine Ev.step (fun k => by rw [spec_OpenFaults.l1]) (evp (by omega) ?_)
          rw [drop_cons l j hj, List.all_cons] at hb
          have e : (j : Int) + 1 = ((j + 1 : Nat) : Int) := by omega
          rw [w64 (n := (j : Int) + 1) (by omega) (by omega), e]
          cases b with
          | true =>
            refine evp rfl (evp (by omega) (evp (by omega) (evp (by omega) ?_)))
            rw [rdE l j hj, rdE l i hi]
            exact ih1 _ (by rw [← hb]; simp [neP])
          | false => exact evn (by decide) (ih1 false (by rw [← hb]; simp))
      have e : (i : Int) + 1 = ((i + 1 : Nat) : Int) := by omega
      rw [e]
      exact key1 (i + 1) hi _ (by unfold lastAt; rw [eg])
  rw [hR]
  exact key 0 (Nat.zero_le _)
theorem neP_iff {x y : S104} : neP x y = true ↔ y.f0 ≠ x.f0 := by
  have e : y.f0 = x.f0 ↔ y.f0.f0 = x.f0.f0 ∧ y.f0.f1 = x.f0.f1 := by
    obtain ⟨⟨a, b⟩, c, d⟩ := x
    obtain ⟨⟨a', b'⟩, c', d'⟩ := y
    simp
  unfold neP
  rw [ne_eq, e]
  by_cases h0 : y.f0.f0 = x.f0.f0 <;> by_cases h1 : y.f0.f1 = x.f0.f1 <;> simp [h0, h1]
theorem lastMap_iff (l : List S104) (p : S74) (x : S104) :
    ∀ n, n ≤ l.length → (lastMap (l.take n) p = some x ↔ ∃ i, i < n ∧ l[i]? = some x ∧ x.f0 = p ∧ ∀ j y, i < j → j < n → l[j]? = some y → y.f0 ≠ p)
  | 0, _ => by
    constructor
    · intro h; simp [lastMap] at h
    · rintro ⟨i, hi, _⟩; omega
  | n + 1, hn => by
    have hlt : n < l.length := by omega
    have ih := lastMap_iff l p x n (by omega)
    have eg : l[n]? = some l[n] := List.getElem?_eq_getElem hlt
    rw [List.take_succ_eq_append_getElem hlt, lastMap_snoc]
    by_cases hp : p = l[n].f0
    · simp only [if_pos hp, Option.some.injEq]
      constructor
      · intro e
        subst e
        exact ⟨n, by omega, eg, hp.symm, fun j y h1 h2 _ => by omega⟩
      · rintro ⟨i, hi, h1, h2, h3⟩
        by_cases hin : i = n
        · subst hin; rw [eg] at h1; exact Option.some.inj h1
        · exact absurd hp.symm (h3 n _ (by omega) (by omega) eg)
    · simp only [if_neg hp]
      rw [ih]
      constructor
      · rintro ⟨i, hi, h1, h2, h3⟩
        refine ⟨i, by omega, h1, h2, fun j y k1 k2 k3 => ?_⟩
        by_cases hjn : j = n
        · subst hjn; rw [eg] at k3; cases k3; exact fun e => hp e.symm
        · exact h3 j y k1 (by omega) k3
      · rintro ⟨i, hi, h1, h2, h3⟩
        by_cases hin : i = n
        · subst hin; rw [eg] at h1; cases h1; exact absurd h2.symm hp
        · exact ⟨i, by omega, h1, h2, fun j y k1 k2 k3 => h3 j y k1 (by omega) k3⟩
theorem lastAt_iff (l : List S104) (i : Nat) (x : S104) (hx : l[i]? = some x) : lastAt l i = true ↔ x.f1 ≠ 0 ∧ ∀ j y, i < j → l[j]? = some y → y.f0 ≠ x.f0 := by
  have eg : l.getD i z104 = x := by simp [List.getD_eq_getElem?_getD, hx]
  unfold lastAt
  rw [eg, Bool.and_eq_true, bne_iff_ne, List.all_eq_true]
  constructor
  · rintro ⟨h1, h2⟩
    refine ⟨h1, fun j y hj hy => neP_iff.mp (h2 y ?_)⟩
    rw [List.mem_iff_getElem?]
    exact ⟨j - (i + 1), by rw [List.getElem?_drop, show i + 1 + (j - (i + 1)) = j by omega]; exact hy⟩
  · rintro ⟨h1, h2⟩
    refine ⟨h1, fun y hy => neP_iff.mpr ?_⟩
    rw [List.mem_iff_getElem?] at hy
    obtain ⟨k, hk⟩ := hy
    rw [List.getElem?_drop] at hk
    exact h2 _ y (by omega) hk
theorem mem_openUp (l : List S104) (x : S104) : ∀ n, n ≤ l.length → (x ∈ openUp l n ↔ ∃ i, i < n ∧ lastAt l i = true ∧ l[i]? = some x)
  | 0, _ => by
    constructor
    · intro h; simp [openUp] at h
    · rintro ⟨i, hi, _⟩; omega
  | n + 1, hn => by
    have hlt : n < l.length := by omega
    have eg : l[n]? = some l[n] := List.getElem?_eq_getElem hlt
    have ed : l.getD n z104 = l[n] := by simp [List.getD_eq_getElem?_getD, hlt]
    have ih := mem_openUp l x n (by omega)
    unfold openUp
    split
    · rename_i hl
      rw [mem_insAt, ih, ed]
      constructor
      · rintro (e | ⟨i, h1, h2, h3⟩)
        · exact ⟨n, by omega, hl, by rw [e]; exact eg⟩
        · exact ⟨i, by omega, h2, h3⟩
      · rintro ⟨i, h1, h2, h3⟩
        by_cases hin : i = n
        · subst hin; rw [eg] at h3; exact .inl (Option.some.inj h3).symm
        · exact .inr ⟨i, by omega, h2, h3⟩
    · rename_i hl
      rw [ih]
      constructor
      · rintro ⟨i, h1, h2, h3⟩; exact ⟨i, by omega, h2, h3⟩
      · rintro ⟨i, h1, h2, h3⟩
        by_cases hin : i = n
        · subst hin; exact absurd h2 hl
        · exact ⟨i, by omega, h2, h3⟩
theorem sorted_openUp (l : List S104) : ∀ n, n ≤ l.length → (openUp l n).Pairwise (fun a b => beforeE a b = true)
  | 0, _ => by simp [openUp]
  | n + 1, hn => by
    have hlt : n < l.length := by omega
    have eg : l[n]? = some l[n] := List.getElem?_eq_getElem hlt
    have ed : l.getD n z104 = l[n] := by simp [List.getD_eq_getElem?_getD, hlt]
    have ih := sorted_openUp l n (by omega)
    unfold openUp
    split
    · refine sorted_insAt _ _ ih (fun a ha e => ?_) _ (Nat.le_refl _) (by rw [drop_end]; intro a ha; cases ha)
      rw [ed] at e
      obtain ⟨i, h1, h2, h3⟩ := (mem_openUp l a n (by omega)).mp ha
      exact ((lastAt_iff l i a h3).mp h2).2 n _ h1 eg (by rw [e])
    · exact ih
theorem mem_open (l : List S104) (x : S104) : x ∈ openUp l l.length ↔ lastMap l x.f0 = some x ∧ x.f1 ≠ 0 := by
  rw [mem_openUp l x l.length (Nat.le_refl _)]
  have H := lastMap_iff l x.f0 x l.length (Nat.le_refl _)
  rw [List.take_length] at H
  rw [H]
  constructor
  · rintro ⟨i, h1, h2, h3⟩
    obtain ⟨k1, k2⟩ := (lastAt_iff l i x h3).mp h2
    exact ⟨⟨i, h1, h3, rfl, fun j y a b c => k2 j y a c⟩, k1⟩
  · rintro ⟨⟨i, h1, h2, _, h3⟩, k1⟩
    refine ⟨i, h1, (lastAt_iff l i x h2).mpr ⟨k1, fun j y a c => h3 j y a ?_ c⟩, h2⟩
    exact (List.getElem?_eq_some_iff.mp c).1
theorem open_unique (l xs : List S104) (hs : xs.Pairwise (fun a b => beforeE a b = true)) (hm : ∀ x, x ∈ xs ↔ lastMap l x.f0 = some x ∧ x.f1 ≠ 0) : xs = openUp l l.length :=
  sorted_ext hs (sorted_openUp l l.length (Nat.le_refl _)) (fun a => (hm a).trans (mem_open l a).symm)
end Go.Proofs.YtanhnhkcpbdfmaaGreat.Q
namespace Go.Proofs.YtanhnhkcpbdfmaaGreat.P
set_option maxHeartbeats 8000000
set_option maxRecDepth 100000
set_option synthInstance.maxHeartbeats 400000
set_option synthInstance.maxSize 100000
open Go.RowKit Go.Proofs.YtanhnhkcpbdfmaaGreatW.PrintWords Go.Proofs.YtanhnhkcpbdfmaaGreatW.PrintLast Go.Proofs.YtanhnhkcpbdfmaaGreatW.PrintMore Go.Proofs.YtanhnhkcpbdfmaaGreat.V
attribute [local go_sem] cell_b frozen_b
attribute [local go_sem] max2_int min2_int max_two min_two max_three min_three max_four min_four
def impl_FaultOf.f (l0 : List (S104)) (a1_0 : Int) (a1_1 : Int) : Option (Int) := if wf64 a1_0 ∧ wf64 a1_1 ∧ l0.length ≤ 1048577 then some (if Q.logOk l0 = true then faultOf l0 ⟨a1_0, a1_1⟩ else 0) else none
theorem logOk_wf {l : List S104} (h : Q.logOk l = true) : l.length ≤ 1000 ∧ ∀ x ∈ l, wf64 x.f0.f0 ∧ wf64 x.f0.f1 := by
 have h1 : l.length ≤ 30 := by simp [Q.logOk] at h; exact h.2
 refine ⟨by omega, fun x hx => ?_⟩
 have h2 : Q.logGo 0 l = true := by simp [Q.logOk] at h; exact h.1
 have key : ∀ (l : List S104) (p : Int), Q.logGo p l = true → ∀ x ∈ l, wf64 x.f0.f0 ∧ wf64 x.f0.f1 := by
  intro l
  induction l with
  | nil => intro p _ x hx; cases hx
  | cons e r ih =>
   intro p h x hx
   simp only [Q.logGo, Bool.and_eq_true] at h
   rcases List.mem_cons.1 hx with rfl | hx
   ·have := h.1
    simp [Q.entOk] at this
    exact ⟨wf64_of (by omega) (by omega), wf64_of (by omega) (by omega)⟩
   ·exact ih _ h.2.2 x hx
 exact key l 0 h2 x hx
theorem impl_FaultOf.calls (A0 : Option Addr) (c0 : Nat) (l0 : List (S104)) (a1_0 : Int) (a1_1 : Int) (r : Int) (w : World) (hr0 : Kd.C k104 w A0 l0.length l0) (hc0 : l0.length ≤ c0) (h : impl_FaultOf.f l0 a1_0 a1_1 = some r) :
  Calls Tryz.prog 41 #[.slice A0 l0.length c0, .agg #[.int .i64 a1_0, .int .i64 a1_1]] w fun e w' => e = .returned (.int .i64 r) ∧ Below w.heap.size w w' := by
 unfold impl_FaultOf.f at h
 by_cases h0 : wf64 a1_0 ∧ wf64 a1_1 ∧ l0.length ≤ 1048577
 rotate_left
 ·rw [if_neg h0] at h; cases h
 rw [if_pos h0] at h
 obtain ⟨k, hk⟩ := Q.logOk_impl l0 h0.2.2
 have A := hk k (Nat.le_refl _)
 have i0 := RdE.mk hr0
 have i1 := LeI.mk hc0
 clear hk hr0 hc0
 by_cases hb : Q.logOk l0 = true
 ·rw [if_pos hb] at h
  rw [hb] at A
  obtain ⟨hl, hw⟩ := logOk_wf hb
  obtain rfl := Option.some.inj h
  have HF : Aside0 (faultOf l0 ⟨a1_0, a1_1⟩ = ((lastMap l0 ⟨a1_0, a1_1⟩).getD z104).f1) := ⟨rfl⟩
  obtain ⟨res, hres⟩ : ∃ res, faultOf l0 ⟨a1_0, a1_1⟩ = res := ⟨_, rfl⟩
  rw [hres] at HF
  rw [hres]
  have A := A_ A
  have HW := A_ hw
  have H0 := A_ h0
  clear h hres hw h0 hb
  have hu74 := Tryz.underlying104
  have hu56 := Tryz.underlying74
  have hfe := field_fault
  go_enter Tryz.func41, Tryz.ntmps41
  go_wp2_with (first
   | ((with_reducible refine gate_dst (N := 3) rfl ?_); refine bV #[.int .i64 a1_0, .int .i64 a1_1] 74 fun g w1 j1 j2 j3 => ?_)
   | (go_at_call 77; refine (impl_LogOk.calls k _ _ _ true _ Rd.out LeI.out A.out).mono ?_; rintro e w2 ⟨rfl, hb⟩; have jb := Bel.mk hb; clear hb)
   | (go_at_call 92; refine (impl_lastOf.calls _ _ _ _ Rd.out LeI.out hl HW.out).mono ?_; rintro e w3 ⟨b, rfl, hb1, hm, hb⟩; obtain ⟨D, hD, hD2⟩ := hm; have jb := Bel.mk hb; obtain ⟨x, hrun, hx⟩ := lookup_pipe hD hD2 ⟨a1_0, a1_1⟩ H0.out.1 H0.out.2.1; have HX := A_ hx; clear hb hb1 hD hD2 hx)
   | ((with_reducible refine region_at ?_); intro w3 jw; go_region_held3 (fun w' => Sin w3 w') (first | exact ⟨From.out⟩ | skip) (first | (go_at_call 77; refine (impl_LogOk.calls k _ _ _ true _ Rd.out LeI.out A.out).mono ?_; rintro e w2 ⟨rfl, hb⟩; have jb := Bel.mk hb; clear hb) | (go_at_call 92; refine (impl_lastOf.calls _ _ _ _ Rd.out LeI.out hl HW.out).mono ?_; rintro e w3 ⟨b, rfl, hb1, hm, hb⟩; obtain ⟨D, hD, hD2⟩ := hm; have jb := Bel.mk hb; obtain ⟨x, hrun, hx⟩ := lookup_pipe hD hD2 ⟨a1_0, a1_1⟩ H0.out.1 H0.out.2.1; have HX := A_ hx; clear hb hb1 hD hD2 hx) )))
  go_ret
  have e9 : x.f1 = res := by rw [HF.out, ← HX.out]
  exact ⟨by rw [← e9]; rfl, From.out⟩
 ·rw [if_neg hb] at h
  replace hb := Bool.eq_false_iff.mpr hb
  rw [hb] at A
  obtain rfl := Option.some.inj h
  have A := A_ A
  clear h h0 hb
  go_enter Tryz.func41, Tryz.ntmps41
  go_wp2_with (first
   | ((with_reducible refine gate_dst (N := 3) rfl ?_); refine bV #[.int .i64 a1_0, .int .i64 a1_1] 74 fun g w1 j1 j2 j3 => ?_)
   | (go_at_call 77; refine (impl_LogOk.calls k _ _ _ false _ Rd.out LeI.out A.out).mono ?_; rintro e w2 ⟨rfl, hb⟩; have jb := Bel.mk hb; clear hb))
  go_ret
  exact ⟨rfl, From.out⟩
end Go.Proofs.YtanhnhkcpbdfmaaGreat.P
namespace Go.Proofs.YtanhnhkcpbdfmaaGreat.P
set_option maxHeartbeats 8000000
set_option maxRecDepth 100000
set_option synthInstance.maxHeartbeats 400000
set_option synthInstance.maxSize 100000
open Go.RowKit Go.Proofs.YtanhnhkcpbdfmaaGreatW.PrintWords Go.Proofs.YtanhnhkcpbdfmaaGreatW.PrintLast Go.Proofs.YtanhnhkcpbdfmaaGreatW.PrintMore Go.Proofs.YtanhnhkcpbdfmaaGreat.V
attribute [local go_sem] cell_b frozen_b cellR_c cell_r frozen_r cell_r0 frozen_r0
attribute [local go_sem] max2_int min2_int max_two min_two max_three min_three max_four min_four
def impl_AddEntry.f (k : Nat) (l0 : List (S104)) (a1_0 : Int) (a1_1 : Int) (a1_2 : Int) (a1_3 : Int) : Option ((List (S104)) × Bool) := (impl_copyLog.f l0).bind fun t789 => ((some (([(⟨(⟨a1_0, a1_1⟩ : S74), a1_2, a1_3⟩ : S104)] : List (S104)) : List (S104))).bind fun y792 => (if t789.length + y792.length < 4398046511104 then ((some (t789 ++ y792 : List (S104))).bind fun y795 => ((impl_LogOk.f k l0).bind fun t798 => (if t798 = true then ((impl_LogOk.f k y795).bind fun t799 => (if t799 = true then (some (y795, true)) else ((impl_copyLog.f l0).bind fun t800 => (some (t800, false))))) else ((impl_copyLog.f l0).bind fun t803 => (some (t803, false)))))) else (none)))
noncomputable def impl_AddEntry.T1 : Bool × List (List Nat × List Nat) := rtab .any (opsOf Tryz.f108 1)
def impl_AddEntry.B1 : List Nat := [0, 1, 0, 4, 15, 31]
theorem impl_AddEntry.tab1 : rtab .any (opsOf Tryz.f108 1) = impl_AddEntry.T1 := rfl
theorem impl_AddEntry.bits1 : waitsOk impl_AddEntry.T1.2 impl_AddEntry.B1 = true := by kernel_rfl
theorem impl_AddEntry.calls (k : Nat) (A0 : Option Addr) (c0 : Nat) (l0 : List (S104)) (a1_0 : Int) (a1_1 : Int) (a1_2 : Int) (a1_3 : Int) (r1 : List (S104)) (r2 : Bool) (w : World) (hr0 : Kd.C k104 w A0 l0.length l0) (hc0 : l0.length ≤ c0) (h : impl_AddEntry.f k l0 a1_0 a1_1 a1_2 a1_3 = some (r1, r2)) :
  Calls Tryz.prog 108 #[.slice A0 l0.length c0, .agg #[.int .i64 a1_0, .int .i64 a1_1, .int .i64 a1_2, .int .i64 a1_3]] w fun e w' => ∃ v0_ : Value, e = .returned (.tuple #[v0_, .bool r2]) ∧ Kd.R k104 104 w' w.heap.size (fun _ => True) v0_ r1 ∧ Below w.heap.size w w' := by
 replace hr0 := RdE.mk hr0
 replace hc0 := LeI.mk hc0
 unfold impl_AddEntry.f at h
 have hu104 := Tryz.underlying104
 (repeat' first | ((with_reducible replace h := ite_some h); rcases h with ⟨hc, h⟩ | ⟨hc, h⟩ <;> first | exact (none_some h).elim | exact absurd hc (by decide) | subst hc | (replace hc := hF_ hc; subst hc) | (replace hc := hG_ hc; subst hc) | (replace hc := hH_ hc; subst hc) | (have hd : (_ == _) = true := hc) | (have hd : (_ == _) = false := hF_ hc) | (have hd := hI_ hc; have he := hJ_ hc; clear hc) | (have hd := hK_ hc; have he := hL_ hc) | (have hd := decide_eq_false hc) | (have hd := decide_eq_true hc; (try (have hn := Int.natCast_pos.mp hc; have hm := decide_eq_true hn; replace hn := eq_true hn)); first | (obtain ⟨g_, e_, i_⟩ := form_ (by assumption) (by first | assumption | decide) hc; cases e_) | (obtain ⟨a_, e_, c_⟩ := atI_ (by assumption) (by first | assumption | decide) hc; cases e_)) | (have hd := decide_eq_true hc) | skip) | ((with_reducible replace h := bind_set_ h); obtain ⟨hl_, h⟩ := h; replace hl_ := A_ hl_; (try dsimp only at h)))
 all_goals go_enter Tryz.func108, Tryz.ntmps108
 all_goals go_wp2_with ((first
  | ((with_reducible refine gate_dst (N := 3) rfl ?_); refine bV #[.int .i64 a1_0, .int .i64 a1_1, .int .i64 a1_2, .int .i64 a1_3] 104 fun g w1 j1 j2 j3 => ?_)
  | (go_at_call 107; (try rw [hl_.out]); replace h := bI h; obtain ⟨t, A, h⟩ := h; (try dsimp only at h); refine (impl_copyLog.calls _ _ _ _ _ Rd.out LeI.out A).mono ?_; rintro e w2 ⟨v0, rfl, ho0, hb⟩; obtain ⟨B0, b0, rfl, j0, q0⟩ := rowS ho0; have jb := Bel.mk hb; clear A ho0 hb)
  | (go_at_call 77; (try rw [hl_.out]); replace h := bI h; obtain ⟨t, A, h⟩ := h; (try dsimp only at h); refine (impl_LogOk.calls _ _ _ _ _ _ Rd.out LeI.out A).mono ?_; rintro e w2 ⟨rfl, hb⟩; have jb := Bel.mk hb; clear A hb)
  | (refine qR (id := 1) (ds := []) (l := #[false, false, false, false, false, false]) impl_AddEntry.tab1 impl_AddEntry.bits1 ?_; intro HT_ HW_ w3 jw u0 iu hHeld; refine qA 0 (some 7) HT_ ?_; refine qT 2 (some 9) HT_ HW_ hHeld ?_; replace h := bI h; obtain ⟨t, A, h⟩ := h; (try dsimp only at h); simp only [Option.bind_some] at h; (repeat' first | ((with_reducible replace h := ite_some h); rcases h with ⟨hc, h⟩ | ⟨hc, h⟩ <;> first | exact (none_some h).elim | exact absurd hc (by decide) | subst hc | (replace hc := hF_ hc; subst hc) | (replace hc := hG_ hc; subst hc) | (replace hc := hH_ hc; subst hc) | (have hd : (_ == _) = true := hc) | (have hd : (_ == _) = false := hF_ hc) | (have hd := hI_ hc; have he := hJ_ hc; clear hc) | (have hd := hK_ hc; have he := hL_ hc) | (have hd := decide_eq_false hc) | (have hd := decide_eq_true hc; (try (have hn := Int.natCast_pos.mp hc; have hm := decide_eq_true hn; replace hn := eq_true hn)); first | (obtain ⟨g_, e_, i_⟩ := form_ (by assumption) (by first | assumption | decide) hc; cases e_) | (obtain ⟨a_, e_, c_⟩ := atI_ (by assumption) (by first | assumption | decide) hc; cases e_)) | (have hd := decide_eq_true hc) | skip) | ((with_reducible replace h := bind_set_ h); obtain ⟨hl_, h⟩ := h; replace hl_ := A_ hl_; (try dsimp only at h))); refine qO2 1 3 (some 8) (some 10) HT_ (fun K hK => ?_) (fun K hK => ?_); (focus (refine goes_ Tryz.func107 (by kernel_rfl) rfl _ (by rfl) rfl rfl (by (try simp only [List.map_toArray, List.map_cons, List.map_nil]); rfl) ?_; refine (impl_copyLog.calls _ _ _ _ _ Rd.out LeI.out A).mono ?_; rintro e u1 ⟨v0, rfl, ho0, hb⟩; obtain ⟨B0, b0, rfl, j0, q0⟩ := rowS ho0; have jb := Bel.mk hb; (try clear ho0 hb); refine ⟨_, rfl, hK.out _ _ From.out fun hHeld => ?_⟩; clear hK K; refine qN ?_; refine qI k104 3 104 10 ([(⟨(⟨a1_0, a1_1⟩ : S74), a1_2, a1_3⟩ : S104)] : List (S104)) [.int .i64 a1_0, .int .i64 a1_1, .int .i64 a1_2, .int .i64 a1_3] HT_ hHeld (Reps.c4 (show Kd.M k104 _ _ _ (⟨(⟨a1_0, a1_1⟩ : S74), a1_2, a1_3⟩ : S104) [.int .i64 a1_0, .int .i64 a1_1, .int .i64 a1_2, .int .i64 a1_3] from (k104_mkM _ _ _ (⟨(⟨a1_0, a1_1⟩ : S74), a1_2, a1_3⟩ : S104) )) (Reps.none _ _)) ?_; intro B9 b9 u9 j9 jb9 hHeld)); rotate_left; (focus (refine qI0 k104 104 10 ([(⟨(⟨a1_0, a1_1⟩ : S74), a1_2, a1_3⟩ : S104)] : List (S104)) [.int .i64 a1_0, .int .i64 a1_1, .int .i64 a1_2, .int .i64 a1_3] (Reps.c4 (show Kd.M k104 _ _ _ (⟨(⟨a1_0, a1_1⟩ : S74), a1_2, a1_3⟩ : S104) [.int .i64 a1_0, .int .i64 a1_1, .int .i64 a1_2, .int .i64 a1_3] from (k104_mkM _ _ _ (⟨(⟨a1_0, a1_1⟩ : S74), a1_2, a1_3⟩ : S104) )) (Reps.none _ _)) ?_; intro B9 b9 u9 j9 jb9; refine hK.out _ _ From.out fun hHeld => ?_; clear hK K; refine qN ?_; refine qC 1 8 Tryz.func107 HT_ fun K hK => ?_; refine (impl_copyLog.calls _ _ _ _ _ Rd.out LeI.out A).mono ?_; rintro e u1 ⟨v0, rfl, ho0, hb⟩; obtain ⟨B0, b0, rfl, j0, q0⟩ := rowS ho0; have jb := Bel.mk hb; (try clear ho0 hb); refine ⟨_, rfl, hK _ _ From.out fun hHeld => ?_⟩; clear hK K; refine qN ?_)); all_goals (refine qP k104 t ([(⟨(⟨a1_0, a1_1⟩ : S74), a1_2, a1_3⟩ : S104)] : List (S104)) 4 11 (.tmp 8) (.tmp 10) 35 (.agg #[(.int .i64 0), (.int .i64 0), (.int .i64 0), (.int .i64 0)]) 32 HT_ hHeld Tryz.underlying35 info104 rfl (by decide) (by omega) (fun _ _ h => h) (by simp at hc ⊢; omega) ?_; intro B8 b8 u8 j8 jb8 hHeld; have q8 := LeI.mk (rowLe j8); generalize t ++ ([(⟨(⟨a1_0, a1_1⟩ : S74), a1_2, a1_3⟩ : S104)] : List (S104)) = y8 at h j8 q8 ⊢; refine qA 5 (some 6) HT_ ?_; refine qD HT_ ?_))); (repeat' first | ((with_reducible replace h := ite_some h); rcases h with ⟨hc, h⟩ | ⟨hc, h⟩ <;> first | exact (none_some h).elim | exact absurd hc (by decide) | subst hc | (replace hc := hF_ hc; subst hc) | (replace hc := hG_ hc; subst hc) | (replace hc := hH_ hc; subst hc) | (have hd : (_ == _) = true := hc) | (have hd : (_ == _) = false := hF_ hc) | (have hd := hI_ hc; have he := hJ_ hc; clear hc) | (have hd := hK_ hc; have he := hL_ hc) | (have hd := decide_eq_false hc) | (have hd := decide_eq_true hc; (try (have hn := Int.natCast_pos.mp hc; have hm := decide_eq_true hn; replace hn := eq_true hn)); first | (obtain ⟨g_, e_, i_⟩ := form_ (by assumption) (by first | assumption | decide) hc; cases e_) | (obtain ⟨a_, e_, c_⟩ := atI_ (by assumption) (by first | assumption | decide) hc; cases e_)) | (have hd := decide_eq_true hc) | skip) | ((with_reducible replace h := bind_set_ h); obtain ⟨hl_, h⟩ := h; replace hl_ := A_ hl_; (try dsimp only at h))); all_goals (try have hn : decide (0 < t.length) = true := decide_eq_true (by omega)); all_goals (try have hn : decide (0 < t.length) = false := decide_eq_false (by omega)))
 all_goals simp only [Option.some.injEq, Prod.mk.injEq] at h
 all_goals obtain ⟨rfl, rfl⟩ := h
 all_goals go_ret2
 all_goals exact ⟨_, rfl, (by first | exact rowFin | exact Kd.R_nil _ _ _ _ _ | exact atFin | exact irowFin' (by simp)), From.out⟩
end Go.Proofs.YtanhnhkcpbdfmaaGreat.P
namespace Go.Proofs.YtanhnhkcpbdfmaaGreat.Q
open Go.RowKit Go.Proofs.YtanhnhkcpbdfmaaGreat.P Go.Proofs.YtanhnhkcpbdfmaaGreatW.PrintWords Go.Proofs.YtanhnhkcpbdfmaaGreatW.PrintMore
def ent (r n f m : Int) : S104 := ⟨⟨r, n⟩, f, m⟩
def addEntry (l : List S104) (r n f m : Int) : List S104 × Bool := if logOk l = true ∧ logOk (l ++ [ent r n f m]) = true then (l ++ [ent r n f m], true) else (l, false)
theorem add_impl (l : List S104) (r n f m : Int) (hl : l.length ≤ 1048576) : Ev (fun k => impl_AddEntry.f k l r n f m) (addEntry l r n f m) := by
  unfold impl_AddEntry.f addEntry
  refine evb (copyLog_eq l (by omega)) (evb rfl (evp (by simp; omega) (evb rfl (Ev.bind (logOk_impl l (by omega)) ?_))))
  by_cases h : logOk l = true
  rotate_left
  · exact rneg (fun h2 => h h2.1) <| evn h (evb (copyLog_eq l (by omega)) (Ev.now _))
  refine evp h (Ev.bind (logOk_impl _ (by simp; omega)) ?_)
  by_cases h2 : logOk (l ++ [ent r n f m]) = true
  · exact rpos ⟨h, h2⟩ <| evp h2 (Ev.now _)
  · exact rneg (fun h3 => h2 h3.2) <| evn h2 (evb (copyLog_eq l (by omega)) (Ev.now _))
theorem add_spec (l : List S104) (r n f m : Int) (hl : l.length ≤ 1048576) : Ev (fun k => spec_AddEntry.f k l r n f m) (addEntry l r n f m) := by
  unfold spec_AddEntry.f addEntry
  refine evb (l34Copy_eq l (by omega)) (evb rfl (evp (by simp; omega) (evb rfl (Ev.bind (logOk_spec l (by omega)) ?_))))
  by_cases h : logOk l = true
  rotate_left
  · exact rneg (fun h2 => h h2.1) <| evn h (evb (l34Copy_eq l (by omega)) (Ev.now _))
  refine evp h (Ev.bind (logOk_spec _ (by simp; omega)) ?_)
  by_cases h2 : logOk (l ++ [ent r n f m]) = true
  · exact rpos ⟨h, h2⟩ <| evp h2 (Ev.now _)
  · exact rneg (fun h3 => h2 h3.2) <| evn h2 (evb (l34Copy_eq l (by omega)) (Ev.now _))
theorem addEntry_len (l : List S104) (r n f m : Int) : (addEntry l r n f m).1.length ≤ l.length + 1 := by
  unfold addEntry; split <;> simp
theorem faultOf_snoc (l : List S104) (x : S104) (p : S74) : faultOf (l ++ [x]) p = if p = x.f0 then x.f1 else faultOf l p := by
  unfold faultOf
  rw [lastMap_snoc]
  by_cases h : p = x.f0 <;> simp [h]
theorem pipe_eq {p q : S74} : p = q ↔ p.f0 = q.f0 ∧ p.f1 = q.f1 := by
  obtain ⟨a, b⟩ := p
  obtain ⟨c, d⟩ := q
  simp
theorem fault_spec (l : List S104) (a b : Int) (hl : l.length ≤ 1048577) : Ev (fun k => spec_FaultOf.f k l a b) (if logOk l = true then faultOf l ⟨a, b⟩ else 0) := by
  have HL := logOk_spec l hl
  by_cases h0 : logOk l = true
  rotate_left
  · rw [if_neg h0]
    replace h0 := Bool.eq_false_iff.mpr h0
    rw [h0] at HL
    unfold spec_FaultOf.f
    by_cases hz : l.length = 0
    · have : l = [] := List.length_eq_zero_iff.mp hz
      subst this
      exact absurd h0 (by decide)
    refine Ev.step (fun k => by rw [spec_FaultOf.l0]) (evp (by omega) (Ev.bind HL ?_))
    exact Ev.step (fun k => by rw [spec_FaultOf.j1]) (evn (by decide) (evs rfl))
  rw [if_pos h0]
  rw [h0] at HL
  have key : ∀ i, i ≤ l.length → Ev (fun k => spec_FaultOf.l0 k l (faultOf (l.take i) ⟨a, b⟩) (i : Int) a b) (faultOf l ⟨a, b⟩) := by
    refine down (n := l.length) ?_ ?_
    · refine Ev.step (fun k => by rw [spec_FaultOf.l0]) (evn (by omega) ?_)
      exact Ev.step (fun k => by rw [spec_FaultOf.j1]) (evn (by decide) (evs (by rw [List.take_length])))
    · intro i hi ih
      refine Ev.step (fun k => by rw [spec_FaultOf.l0]) (evp (by omega) (Ev.bind HL ?_))
      refine Ev.step (fun k => by rw [spec_FaultOf.j1]) (evp rfl (evp (by omega) (evp (by omega) ?_)))
      rw [rdE l i hi, w64 (n := (i : Int) + 1) (by omega) (by omega)]
      rw [List.take_succ_eq_append_getElem hi, faultOf_snoc] at ih
      by_cases he : (⟨a, b⟩ : S74) = l[i].f0
      · rw [if_pos he] at ih
        obtain ⟨e1, e2⟩ := pipe_eq.mp he
        simp only at e1 e2
        exact evp (by simp [← e1, ← e2]) ih
      · rw [if_neg he] at ih
        refine evn ?_ ih
        intro hh
        simp only [Bool.and_eq_true, beq_iff_eq] at hh
        exact he (pipe_eq.mpr ⟨hh.1.symm, hh.2.symm⟩)
  exact key 0 (Nat.zero_le _)
end Go.Proofs.YtanhnhkcpbdfmaaGreat.Q
namespace Go.Proofs.YtanhnhkcpbdfmaaGreat.P
open Go.RowKit Go.Proofs.YtanhnhkcpbdfmaaGreatW.PrintWords
theorem logOk_all {l : List S104} (h : Q.logOk l = true) : l.length ≤ 30 ∧ (∀ x ∈ l, wf64 x.f0.f0 ∧ wf64 x.f0.f1) ∧ ∀ x ∈ l, 0 ≤ x.f1 ∧ x.f1 ≤ 2 := by
  have h1 : l.length ≤ 30 := by simp [Q.logOk] at h; exact h.2
  have h2 : Q.logGo 0 l = true := by simp [Q.logOk] at h; exact h.1
  have key : ∀ (l : List S104) (p : Int), Q.logGo p l = true → ∀ x ∈ l, (wf64 x.f0.f0 ∧ wf64 x.f0.f1) ∧ 0 ≤ x.f1 ∧ x.f1 ≤ 2 := by
    intro l
    induction l with
    | nil => intro p _ x hx; cases hx
    | cons e r ih =>
      intro p h x hx
      simp only [Q.logGo, Bool.and_eq_true] at h
      rcases List.mem_cons.1 hx with rfl | hx
      · have := h.1
        simp [Q.entOk] at this
        exact ⟨⟨wf64_of (by omega) (by omega), wf64_of (by omega) (by omega)⟩, by omega, by omega⟩
      · exact ih _ h.2.2 x hx
  exact ⟨h1, fun x hx => (key l 0 h2 x hx).1, fun x hx => (key l 0 h2 x hx).2⟩
end Go.Proofs.YtanhnhkcpbdfmaaGreat.P
namespace Go.Proofs.YtanhnhkcpbdfmaaGreat.P
open Go.RowKit Go.Proofs.YtanhnhkcpbdfmaaGreatW.PrintWords Go.Proofs.YtanhnhkcpbdfmaaGreatW.PrintLast Go.Proofs.YtanhnhkcpbdfmaaGreatW.PrintMore Go.Proofs.YtanhnhkcpbdfmaaGreat.V
open Go.Maps (Keyed)
attribute [local go_sem] cell_b frozen_b
structure Found (m : S74 → Option S104) (left : Lit → Bool) (xs : List S104) : Prop where
  all : ∀ x ∈ xs, m x.f0 = some x ∧ x.f1 ≠ 0 ∧ wf64 x.f0.f0 ∧ wf64 x.f0.f1 ∧ left (pipeL x.f0.f0 x.f0.f1) = false
  nodup : xs.Pairwise (fun a b => a.f0 ≠ b.f0)
  got : ∀ (p : S74) (x : S104), wf64 p.f0 → wf64 p.f1 → m p = some x → x.f1 ≠ 0 → left (pipeL p.f0 p.f1) = false → x ∈ xs
theorem Found.step {m : S74 → Option S104} {left : Lit → Bool} {xs : List S104} (h : Found m left xs) (c : S104) (h0 : wf64 c.f0.f0) (h1 : wf64 c.f0.f1) (hm : m c.f0 = some c)
    (hl : left (pipeL c.f0.f0 c.f0.f1) = true) : Found m (fun z => left z && !z.sameKey (pipeL c.f0.f0 c.f0.f1)) (if c.f1 ≠ 0 then xs ++ [c] else xs) := by
  have hk := pipeKeyed.key (keyOf_pipe h0 h1)
  have hself : (pipeL c.f0.f0 c.f0.f1).sameKey (pipeL c.f0.f0 c.f0.f1) = true := WideAt.sameKey_self hk
  have hold : ∀ p x, wf64 p.f0 → wf64 p.f1 → m p = some x → x.f1 ≠ 0 → (left (pipeL p.f0 p.f1) && !(pipeL p.f0 p.f1).sameKey (pipeL c.f0.f0 c.f0.f1)) = false → x ∈ xs ∨ x = c := by
    intro p x p0 p1 hp hx hf
    rw [Bool.and_eq_false_iff] at hf
    rcases hf with hf | hf
    · exact .inl (h.got p x p0 p1 hp hx hf)
    · by_cases he : pipeL p.f0 p.f1 = pipeL c.f0.f0 c.f0.f1
      · obtain ⟨e0, e1⟩ := pipeL_inj p0 p1 h0 h1 he
        have : p = c.f0 := by
          obtain ⟨a, b⟩ := p
          obtain ⟨⟨u, v⟩, _, _⟩ := c
          simp only at e0 e1
          rw [e0, e1]
        subst this
        rw [hm] at hp
        exact .inr (Option.some.inj hp).symm
      · rw [Maps.sameKey_ne he] at hf; cases hf
  by_cases hc : c.f1 ≠ 0
  · rw [if_pos hc]
    refine ⟨fun x hx => ?_, ?_, fun p x p0 p1 hp hx hf => ?_⟩
    · rcases List.mem_append.1 hx with hx | hx
      · obtain ⟨a, b, u, v, w⟩ := h.all x hx
        exact ⟨a, b, u, v, by rw [w]; rfl⟩
      · rw [List.mem_singleton] at hx
        subst hx
        exact ⟨hm, hc, h0, h1, by rw [hself]; simp⟩
    · refine List.pairwise_append.2 ⟨h.nodup, List.pairwise_singleton _ _, fun a ha b hb e => ?_⟩
      rw [List.mem_singleton] at hb
      subst hb
      have := (h.all a ha).2.2.2.2
      rw [e, hl] at this
      cases this
    · rcases hold p x p0 p1 hp hx hf with h' | h'
      · exact List.mem_append_left _ h'
      · rw [h']; simp
  · rw [if_neg hc]
    refine ⟨fun x hx => ?_, h.nodup, fun p x p0 p1 hp hx hf => ?_⟩
    · obtain ⟨a, b, u, v, w⟩ := h.all x hx
      exact ⟨a, b, u, v, by rw [w]; rfl⟩
    · rcases hold p x p0 p1 hp hx hf with h' | h'
      · exact h'
      · rw [h'] at hx; exact absurd hx hc
theorem mapIs_key {D : DataW Unit} {m : S74 → Option S104} (h : MapIs D m) {p : S74} (h0 : wf64 p.f0) (h1 : wf64 p.f1) {c : S104} (hat : ∀ zd, D.atKey (pipeL p.f0 p.f1) zd = quadD c) : m p = some c := by
  cases hm : m p with
  | none =>
    have a := (h.at_ p h0 h1 (.map [])).symm.trans (hat _)
    rw [hm] at a
    exact absurd a (by simp [quadD])
  | some x =>
    have a := (h.at_ p h0 h1 (.map [])).symm.trans (hat _)
    rw [hm] at a
    exact congrArg some (quadD_inj a)
end Go.Proofs.YtanhnhkcpbdfmaaGreat.P
namespace Go.Proofs.YtanhnhkcpbdfmaaGreat.P
set_option maxRecDepth 100000
set_option synthInstance.maxHeartbeats 400000
set_option synthInstance.maxSize 100000
open Go.RowKit Go.Proofs.YtanhnhkcpbdfmaaGreatW.PrintWords Go.Proofs.YtanhnhkcpbdfmaaGreatW.PrintLast Go.Proofs.YtanhnhkcpbdfmaaGreatW.PrintMore Go.Proofs.YtanhnhkcpbdfmaaGreat.V
attribute [local go_sem] cell_b frozen_b
attribute [local go_sem] max2_int min2_int max_two min_two max_three min_three max_four min_four
def impl_ShopOk.f (k : Nat) (l0_0 : List (S112)) (a0_1 : Int) (l0_2 : List Int) (a0_3 : Int) (a0_4 : Int) (l0_5 : List (S104)) : Option (Bool) := some (Q.shopOk l0_0 a0_1 l0_2 a0_3 a0_4 l0_5)
attribute [local go_sem] cellR_c
set_option maxHeartbeats 2000000 in
theorem impl_ShopOk.calls (k : Nat) (A0_0 : Option Addr) (c0_0 : Nat) (l0_0 : List (S112)) (a0_1 : Int) (A0_2 : Option Addr) (c0_2 : Nat) (l0_2 : List Int) (a0_3 : Int) (a0_4 : Int) (A0_5 : Option Addr) (c0_5 : Nat) (l0_5 : List (S104)) (r : Bool) (w : World) (hr0_0 : Kd.C k112 w A0_0 l0_0.length l0_0) (hc0_0 : l0_0.length ≤ c0_0) (hr0_2 : Kd.C (Kd.int .i64) w A0_2 l0_2.length l0_2) (hc0_2 : l0_2.length ≤ c0_2) (hr0_5 : Kd.C k104 w A0_5 l0_5.length l0_5) (hc0_5 : l0_5.length ≤ c0_5) (h : impl_ShopOk.f k l0_0 a0_1 l0_2 a0_3 a0_4 l0_5 = some r) :
  Calls Tryz.prog 32 #[.agg #[.slice A0_0 l0_0.length c0_0, .int .i64 a0_1, .slice A0_2 l0_2.length c0_2, .int .i64 a0_3, .int .i64 a0_4, .slice A0_5 l0_5.length c0_5]] w fun e w' => e = .returned (.bool r) ∧ Below w.heap.size w w' := by
 obtain ⟨b1, hb1⟩ : ∃ b, workOk l0_0 a0_1 l0_2 = b := ⟨_, rfl⟩
 obtain ⟨b2, hb2⟩ : ∃ b, Q.logOk l0_5 = b := ⟨_, rfl⟩
 obtain ⟨b3, hb3⟩ : ∃ b, decide (-10 ≤ a0_3 ∧ a0_3 ≤ 40) = b := ⟨_, rfl⟩
 obtain ⟨b4, hb4⟩ : ∃ b, decide (0 ≤ a0_4 ∧ a0_4 ≤ 100000) = b := ⟨_, rfl⟩
 obtain ⟨b5, hb5⟩ : ∃ b, decide (Q.lastOk l0_5 a0_4) = b := ⟨_, rfl⟩
 have HQ : Aside0 ((b1 && (b2 && (b3 && (b4 && b5)))) = r) := ⟨by rw [← hb1, ← hb2, ← hb3, ← hb4, ← hb5]; exact Option.some.inj h⟩
 have A1 : Aside0 (impl_WorkOk.f l0_0 a0_1 l0_2 = some b1) := ⟨by rw [← hb1]; rfl⟩
 have A2 : Aside0 (impl_LogOk.f k l0_5 = some b2) := ⟨by rw [← hb2]; rfl⟩
 have A4 : Aside0 (impl_within.f a0_4 0 100000 = some b4) := ⟨by rw [← hb4]; unfold impl_within.f; by_cases hh : 0 ≤ a0_4 <;> simp [hh]⟩
 have A3 : Aside0 (impl_isWarmth.f a0_3 = some b3) := ⟨by rw [← hb3]; unfold impl_isWarmth.f impl_within.f; by_cases hh : -10 ≤ a0_3 <;> simp [hh]⟩
 have H5 := A_ hb5
 have HR := A_ hr0_5
 have HM := A_ (Kd.C_max hr0_5)
 have i0 := RdE.mk hr0_0
 have i1 := LeI.mk hc0_0
 have i2 := RdE.mk hr0_2
 have i3 := LeI.mk hc0_2
 have i4 := RdE.mk hr0_5
 have i5 := LeI.mk hc0_5
 have hu := Tryz.underlying37
 clear hr0_0 hc0_0 hr0_2 hc0_2 hr0_5 hc0_5 h hb1 hb2 hb3 hb4 hb5
 cases b1 with
 | false =>
  obtain rfl : false = r := HQ.out
  clear HQ H5 HR HM
  go_enter Tryz.func32, Tryz.ntmps32
  go_wp2_with (first | ((with_reducible refine gate_dst (N := 1) rfl ?_); (try (refine gate_guard (by rfl) ?_; dsimp only)); refine bV #[.slice A0_0 l0_0.length c0_0, .int .i64 a0_1, .slice A0_2 l0_2.length c0_2, .int .i64 a0_3, .int .i64 a0_4, .slice A0_5 l0_5.length c0_5] 37 fun g w1 j1 j2 j3 => ?_) | (go_at_call 76; refine (impl_WorkOk.calls _ _ _ _ _ _ _ _ _ Rd.out LeI.out Rd.out LeI.out A1.out).mono ?_; rintro e w2 ⟨rfl, hb⟩; have jb := Bel.mk hb; clear hb) | (go_at_call 77; refine (impl_LogOk.calls k _ _ _ _ _ Rd.out LeI.out A2.out).mono ?_; rintro e w2 ⟨rfl, hb⟩; have jb := Bel.mk hb; clear hb) | (go_at_call 78; refine (impl_isWarmth.calls _ _ _ A3.out).mono ?_; rintro e w2 ⟨rfl, n, rfl⟩) | (go_at_call 79; refine (impl_within.calls _ _ _ _ _ A4.out).mono ?_; rintro e w2 ⟨rfl, n, rfl⟩))
  repeat (go_quiet (fail); try go_wp2)
  go_ret
  exact ⟨rfl, From.out⟩
 | true =>
  cases b2 with
  | false =>
   obtain rfl : false = r := HQ.out
   clear HQ H5 HR HM
   go_enter Tryz.func32, Tryz.ntmps32
   go_wp2_with (first | ((with_reducible refine gate_dst (N := 1) rfl ?_); (try (refine gate_guard (by rfl) ?_; dsimp only)); refine bV #[.slice A0_0 l0_0.length c0_0, .int .i64 a0_1, .slice A0_2 l0_2.length c0_2, .int .i64 a0_3, .int .i64 a0_4, .slice A0_5 l0_5.length c0_5] 37 fun g w1 j1 j2 j3 => ?_) | (go_at_call 76; refine (impl_WorkOk.calls _ _ _ _ _ _ _ _ _ Rd.out LeI.out Rd.out LeI.out A1.out).mono ?_; rintro e w2 ⟨rfl, hb⟩; have jb := Bel.mk hb; clear hb) | (go_at_call 77; refine (impl_LogOk.calls k _ _ _ _ _ Rd.out LeI.out A2.out).mono ?_; rintro e w2 ⟨rfl, hb⟩; have jb := Bel.mk hb; clear hb) | (go_at_call 78; refine (impl_isWarmth.calls _ _ _ A3.out).mono ?_; rintro e w2 ⟨rfl, n, rfl⟩) | (go_at_call 79; refine (impl_within.calls _ _ _ _ _ A4.out).mono ?_; rintro e w2 ⟨rfl, n, rfl⟩))
   repeat (go_quiet (fail); try go_wp2)
   go_ret
   exact ⟨rfl, From.out⟩
  | true =>
   cases b3 with
   | false =>
    obtain rfl : false = r := HQ.out
    clear HQ H5 HR HM
    go_enter Tryz.func32, Tryz.ntmps32
    go_wp2_with (first | ((with_reducible refine gate_dst (N := 1) rfl ?_); (try (refine gate_guard (by rfl) ?_; dsimp only)); refine bV #[.slice A0_0 l0_0.length c0_0, .int .i64 a0_1, .slice A0_2 l0_2.length c0_2, .int .i64 a0_3, .int .i64 a0_4, .slice A0_5 l0_5.length c0_5] 37 fun g w1 j1 j2 j3 => ?_) | (go_at_call 76; refine (impl_WorkOk.calls _ _ _ _ _ _ _ _ _ Rd.out LeI.out Rd.out LeI.out A1.out).mono ?_; rintro e w2 ⟨rfl, hb⟩; have jb := Bel.mk hb; clear hb) | (go_at_call 77; refine (impl_LogOk.calls k _ _ _ _ _ Rd.out LeI.out A2.out).mono ?_; rintro e w2 ⟨rfl, hb⟩; have jb := Bel.mk hb; clear hb) | (go_at_call 78; refine (impl_isWarmth.calls _ _ _ A3.out).mono ?_; rintro e w2 ⟨rfl, n, rfl⟩) | (go_at_call 79; refine (impl_within.calls _ _ _ _ _ A4.out).mono ?_; rintro e w2 ⟨rfl, n, rfl⟩))
    repeat (go_quiet (fail); try go_wp2)
    go_ret
    exact ⟨rfl, From.out⟩
   | true =>
    cases b4 with
    | false =>
     obtain rfl : false = r := HQ.out
     clear HQ H5 HR HM
     go_enter Tryz.func32, Tryz.ntmps32
     go_wp2_with (first | ((with_reducible refine gate_dst (N := 1) rfl ?_); (try (refine gate_guard (by rfl) ?_; dsimp only)); refine bV #[.slice A0_0 l0_0.length c0_0, .int .i64 a0_1, .slice A0_2 l0_2.length c0_2, .int .i64 a0_3, .int .i64 a0_4, .slice A0_5 l0_5.length c0_5] 37 fun g w1 j1 j2 j3 => ?_) | (go_at_call 76; refine (impl_WorkOk.calls _ _ _ _ _ _ _ _ _ Rd.out LeI.out Rd.out LeI.out A1.out).mono ?_; rintro e w2 ⟨rfl, hb⟩; have jb := Bel.mk hb; clear hb) | (go_at_call 77; refine (impl_LogOk.calls k _ _ _ _ _ Rd.out LeI.out A2.out).mono ?_; rintro e w2 ⟨rfl, hb⟩; have jb := Bel.mk hb; clear hb) | (go_at_call 78; refine (impl_isWarmth.calls _ _ _ A3.out).mono ?_; rintro e w2 ⟨rfl, n, rfl⟩) | (go_at_call 79; refine (impl_within.calls _ _ _ _ _ A4.out).mono ?_; rintro e w2 ⟨rfl, n, rfl⟩))
     repeat (go_quiet (fail); try go_wp2)
     go_ret
     exact ⟨rfl, From.out⟩
    | true =>
     obtain rfl : b5 = r := HQ.out
     by_cases hz : l0_5.length = 0
     ·have z1 : ((l0_5.length : Int) == 0) = true := beq_iff_eq.mpr (by omega)
      have z2 : ((l0_5.length : Int) != 0) = false := bne_eq_false_iff_eq.mpr (by omega)
      have z3 : decide ((l0_5.length : Int) = 0) = true := decide_eq_true (by omega)
      obtain rfl : true = b5 := by rw [← H5.out]; exact (decide_eq_true (.inl hz)).symm
      clear HQ H5 HR HM hz
      go_enter Tryz.func32, Tryz.ntmps32
      go_wp2_with (first | ((with_reducible refine gate_dst (N := 1) rfl ?_); (try (refine gate_guard (by rfl) ?_; dsimp only)); refine bV #[.slice A0_0 l0_0.length c0_0, .int .i64 a0_1, .slice A0_2 l0_2.length c0_2, .int .i64 a0_3, .int .i64 a0_4, .slice A0_5 l0_5.length c0_5] 37 fun g w1 j1 j2 j3 => ?_) | (go_at_call 76; refine (impl_WorkOk.calls _ _ _ _ _ _ _ _ _ Rd.out LeI.out Rd.out LeI.out A1.out).mono ?_; rintro e w2 ⟨rfl, hb⟩; have jb := Bel.mk hb; clear hb) | (go_at_call 77; refine (impl_LogOk.calls k _ _ _ _ _ Rd.out LeI.out A2.out).mono ?_; rintro e w2 ⟨rfl, hb⟩; have jb := Bel.mk hb; clear hb) | (go_at_call 78; refine (impl_isWarmth.calls _ _ _ A3.out).mono ?_; rintro e w2 ⟨rfl, n, rfl⟩) | (go_at_call 79; refine (impl_within.calls _ _ _ _ _ A4.out).mono ?_; rintro e w2 ⟨rfl, n, rfl⟩))
      repeat (go_quiet (fail); try go_wp2)
      go_ret
      exact ⟨rfl, From.out⟩
     ·obtain ⟨j, hj⟩ : ∃ j, j + 1 = l0_5.length := ⟨l0_5.length - 1, by omega⟩
      have z1 : ((l0_5.length : Int) == 0) = false := beq_eq_false_iff_ne.mpr (by omega)
      have z2 : ((l0_5.length : Int) != 0) = true := bne_iff_ne.mpr (by omega)
      have z3 : decide ((l0_5.length : Int) = 0) = false := decide_eq_false (by omega)
      have hM := HM.out
      have hw1 : wrap64 ((l0_5.length : Int) - 1) = (j : Int) := by unfold wrap64; omega
      have hw2 : IntKind.i64.wrap ((l0_5.length : Int) - 1) = (j : Int) := by rw [i64_w]; exact hw1
      have hj1 : (j : Int) < (l0_5.length : Int) := by omega
      have hj2 : j < l0_5.length := by omega
      obtain ⟨ad2, e2, _, _, _, hy3⟩ := at_T104 HR.out (j : Int) (by omega) (by omega)
      subst e2
      obtain ⟨y, hy⟩ : ∃ y, rd_T104 l0_5 (j : Int) = y := ⟨_, rfl⟩
      rw [hy] at hy3
      simp only [Int.toNat_natCast] at hy3
      have j4 : CelR w _ _ := ⟨hy3⟩
      have h6 : decide (y.f2 ≤ a0_4) = b5 := by
       rw [← H5.out, ← hy]
       refine decide_eq_decide.mpr ?_
       unfold Q.lastOk
       rw [show l0_5.length - 1 = j by omega]
       simp [rd_T104, hz]
      have h7 : decide (a0_4 ≥ y.f2) = b5 := h6
      clear HQ H5 HR HM hM hy hy3 hz hj
      go_enter Tryz.func32, Tryz.ntmps32
      go_wp2_with (first | ((with_reducible refine gate_dst (N := 1) rfl ?_); (try (refine gate_guard (by rfl) ?_; dsimp only)); refine bV #[.slice A0_0 l0_0.length c0_0, .int .i64 a0_1, .slice A0_2 l0_2.length c0_2, .int .i64 a0_3, .int .i64 a0_4, .slice (some ad2) l0_5.length c0_5] 37 fun g w1 j1 j2 j3 => ?_) | (go_at_call 76; refine (impl_WorkOk.calls _ _ _ _ _ _ _ _ _ Rd.out LeI.out Rd.out LeI.out A1.out).mono ?_; rintro e w2 ⟨rfl, hb⟩; have jb := Bel.mk hb; clear hb) | (go_at_call 77; refine (impl_LogOk.calls k _ _ _ _ _ Rd.out LeI.out A2.out).mono ?_; rintro e w2 ⟨rfl, hb⟩; have jb := Bel.mk hb; clear hb) | (go_at_call 78; refine (impl_isWarmth.calls _ _ _ A3.out).mono ?_; rintro e w2 ⟨rfl, n, rfl⟩) | (go_at_call 79; refine (impl_within.calls _ _ _ _ _ A4.out).mono ?_; rintro e w2 ⟨rfl, n, rfl⟩))
      repeat (go_quiet (fail); try go_wp2)
      go_ret
      exact ⟨by first | rfl | (simp [h6]; done), From.out⟩
end Go.Proofs.YtanhnhkcpbdfmaaGreat.P
namespace Go.Proofs.YtanhnhkcpbdfmaaGreat.P
set_option maxHeartbeats 8000000
set_option maxRecDepth 100000
set_option synthInstance.maxHeartbeats 400000
set_option synthInstance.maxSize 100000
open Go.RowKit Go.Proofs.YtanhnhkcpbdfmaaGreatW.PrintWords Go.Proofs.YtanhnhkcpbdfmaaGreatW.PrintLast Go.Proofs.YtanhnhkcpbdfmaaGreatW.PrintMore Go.Proofs.YtanhnhkcpbdfmaaGreat.V
attribute [local go_sem] cell_b frozen_b
attribute [local go_sem] max2_int min2_int max_two min_two max_three min_three max_four min_four
def impl_ShopTune.f (k : Nat) (l0_0 : List (S112)) (a0_1 : Int) (l0_2 : List Int) (a0_3 : Int) (a0_4 : Int) (l0_5 : List (S104)) : Option ((List (S112)) × Int × List Int × Int × Int × (List (S104)) × Bool) := (impl_copyShop.f l0_0 a0_1 l0_2 a0_3 a0_4 l0_5).bind fun bt696 => ((impl_ShopOk.f k l0_0 a0_1 l0_2 a0_3 a0_4 l0_5).bind fun t709 => (if t709 = true then ((impl_WorkStep.f k l0_0 a0_1 l0_2).bind fun bt710 => ((impl_WrongSteps.f k l0_0 a0_1 l0_2).bind fun t719 => (if (t719.length : Int) > 0 then ((impl_MendStep.f k l0_0 a0_1 l0_2).bind fun bt722 => (if bt722.2.2.2 = true then (some (bt722.1, bt722.2.1, bt722.2.2.1, bt696.2.2.2.1, bt696.2.2.2.2.1, bt696.2.2.2.2.2, true)) else (some (bt696.1, bt696.2.1, bt696.2.2.1, bt696.2.2.2.1, bt696.2.2.2.2.1, bt696.2.2.2.2.2, false)))) else (if bt710.2.2.2 = true then (some (bt710.1, bt710.2.1, bt710.2.2.1, bt696.2.2.2.1, bt696.2.2.2.2.1, bt696.2.2.2.2.2, true)) else (some (bt696.1, bt696.2.1, bt696.2.2.1, bt696.2.2.2.1, bt696.2.2.2.2.1, bt696.2.2.2.2.2, false)))))) else (some (bt696.1, bt696.2.1, bt696.2.2.1, bt696.2.2.2.1, bt696.2.2.2.2.1, bt696.2.2.2.2.2, false))))
theorem impl_ShopTune.calls (k : Nat) (A0_0 : Option Addr) (c0_0 : Nat) (l0_0 : List (S112)) (a0_1 : Int) (A0_2 : Option Addr) (c0_2 : Nat) (l0_2 : List Int) (a0_3 : Int) (a0_4 : Int) (A0_5 : Option Addr) (c0_5 : Nat) (l0_5 : List (S104)) (r1 : List (S112)) (r2 : Int) (r3 : List Int) (r4 : Int) (r5 : Int) (r6 : List (S104)) (r7 : Bool) (w : World) (hr0_0 : Kd.C k112 w A0_0 l0_0.length l0_0) (hc0_0 : l0_0.length ≤ c0_0) (hr0_2 : Kd.C (Kd.int .i64) w A0_2 l0_2.length l0_2) (hc0_2 : l0_2.length ≤ c0_2) (hr0_5 : Kd.C k104 w A0_5 l0_5.length l0_5) (hc0_5 : l0_5.length ≤ c0_5) (h : impl_ShopTune.f k l0_0 a0_1 l0_2 a0_3 a0_4 l0_5 = some (r1, r2, r3, r4, r5, r6, r7)) :
  Calls Tryz.prog 36 #[.agg #[.slice A0_0 l0_0.length c0_0, .int .i64 a0_1, .slice A0_2 l0_2.length c0_2, .int .i64 a0_3, .int .i64 a0_4, .slice A0_5 l0_5.length c0_5]] w fun e w' => ∃ v0_ v2_ v5_ : Value, e = .returned (.tuple #[.agg #[v0_, .int .i64 r2, v2_, .int .i64 r4, .int .i64 r5, v5_], .bool r7]) ∧ Kd.R k112 112 w' w.heap.size (fun _ => True) v0_ r1 ∧ Kd.R (Kd.int .i64) 3 w' w.heap.size (fun _ => True) v2_ r3 ∧ Kd.R k104 104 w' w.heap.size (fun _ => True) v5_ r6 ∧ Below w.heap.size w w' := by
 replace hr0_0 := RdE.mk hr0_0
 replace hc0_0 := LeI.mk hc0_0
 replace hr0_2 := RdE.mk hr0_2
 replace hc0_2 := LeI.mk hc0_2
 replace hr0_5 := RdE.mk hr0_5
 replace hc0_5 := LeI.mk hc0_5
 unfold impl_ShopTune.f at h
 have hu34 := Tryz.underlying34
 have hu37 := Tryz.underlying37
 (repeat' first | ((with_reducible replace h := ite_some h); rcases h with ⟨hc, h⟩ | ⟨hc, h⟩ <;> first | exact (none_some h).elim | exact absurd hc (by decide) | subst hc | (replace hc := hF_ hc; subst hc) | (have hd := hI_ hc; have he := hJ_ hc; clear hc) | (have hd := hK_ hc; have he := hL_ hc) | (have hd := decide_eq_false hc) | (have hd := decide_eq_true hc) | skip))
 all_goals go_enter Tryz.func36, Tryz.ntmps36
 all_goals go_wp2_with ((first
  | ((with_reducible refine gate_dst (N := 1) rfl ?_); refine bV #[.slice A0_0 l0_0.length c0_0, .int .i64 a0_1, .slice A0_2 l0_2.length c0_2, .int .i64 a0_3, .int .i64 a0_4, .slice A0_5 l0_5.length c0_5] 37 fun g w1 j1 j2 j3 => ?_)
  | ((with_reducible refine gate_dst (N := 2) rfl ?_); refine bV #[.slice none 0 0, .int .i64 0, .slice none 0 0, .int .i64 0, .int .i64 0, .slice none 0 0] 37 fun g w1 j1 j2 j3 => ?_)
  | ((with_reducible refine gate_dst (N := 4) rfl ?_); refine bV #[.slice none 0 0, .int .i64 0, .slice none 0 0, .int .i64 0, .int .i64 0, .slice none 0 0] 37 fun g w1 j1 j2 j3 => ?_)
  | ((with_reducible refine gate_dst (N := 5) rfl ?_); refine bV #[.slice none 0 0, .int .i64 0, .slice none 0 0] 34 fun g w1 j1 j2 j3 => ?_)
  | (go_at_call 57; replace h := bI h; obtain ⟨⟨t1, t2, t3, t4, t5, t6⟩, A, h⟩ := h; (try dsimp only at h); refine (impl_copyShop.calls _ _ _ _ _ _ _ _ _ _ _ _ _ _ _ _ _ _ _ Rd.out LeI.out Rd.out LeI.out Rd.out LeI.out A).mono ?_; rintro e w2 ⟨v0, v1, v2, rfl, ho0, ho1, ho2, hb⟩; obtain ⟨B0, b0, rfl, j0, q0⟩ := rowS ho0; obtain ⟨B1, b1, rfl, j1, q1⟩ := rowS ho1; obtain ⟨B2, b2, rfl, j2, q2⟩ := rowS ho2; have jb := Bel.mk hb; clear A ho0 ho1 ho2 hb)
  | (go_at_call 32; replace h := bI h; obtain ⟨t, A, h⟩ := h; (try dsimp only at h); refine (impl_ShopOk.calls _ _ _ _ _ _ _ _ _ _ _ _ _ _ _ Rd.out LeI.out Rd.out LeI.out Rd.out LeI.out A).mono ?_; rintro e w2 ⟨rfl, hb⟩; have jb := Bel.mk hb; clear A hb)
  | (go_at_call 84; replace h := bI h; obtain ⟨⟨t1, t2, t3, t4⟩, A, h⟩ := h; (try dsimp only at h); refine (impl_WorkStep.calls _ _ _ _ _ _ _ _ _ _ _ _ _ Rd.out LeI.out Rd.out LeI.out A).mono ?_; rintro e w2 ⟨v0, v1, rfl, ho0, ho1, hb⟩; obtain ⟨B0, b0, rfl, j0, q0⟩ := rowS ho0; obtain ⟨B1, b1, rfl, j1, q1⟩ := rowS ho1; have jb := Bel.mk hb; clear A ho0 ho1 hb)
  | (go_at_call 82; replace h := bI h; obtain ⟨t, A, h⟩ := h; (try dsimp only at h); refine (impl_WrongSteps.calls _ _ _ _ _ _ _ _ _ _ Rd.out LeI.out Rd.out LeI.out A).mono ?_; rintro e w2 ⟨v0, rfl, ho0, hb⟩; obtain ⟨B0, b0, rfl, j0, q0⟩ := rowS ho0; have jb := Bel.mk hb; clear A ho0 hb)
  | (go_at_call 85; replace h := bI h; obtain ⟨⟨t1, t2, t3, t4⟩, A, h⟩ := h; (try dsimp only at h); refine (impl_MendStep.calls _ _ _ _ _ _ _ _ _ _ _ _ _ Rd.out LeI.out Rd.out LeI.out A).mono ?_; rintro e w2 ⟨v0, v1, rfl, ho0, ho1, hb⟩; obtain ⟨B0, b0, rfl, j0, q0⟩ := rowS ho0; obtain ⟨B1, b1, rfl, j1, q1⟩ := rowS ho1; have jb := Bel.mk hb; clear A ho0 ho1 hb)); (repeat' first | ((with_reducible replace h := ite_some h); rcases h with ⟨hc, h⟩ | ⟨hc, h⟩ <;> first | exact (none_some h).elim | exact absurd hc (by decide) | subst hc | (replace hc := hF_ hc; subst hc) | (have hd := hI_ hc; have he := hJ_ hc; clear hc) | (have hd := hK_ hc; have he := hL_ hc) | (have hd := decide_eq_false hc) | (have hd := decide_eq_true hc) | skip)); all_goals (try have hn : decide (0 < t.length) = true := decide_eq_true (by omega)); all_goals (try have hn : decide (0 < t.length) = false := decide_eq_false (by omega)))
 all_goals simp only [Option.some.injEq, Prod.mk.injEq] at h
 all_goals obtain ⟨rfl, rfl, rfl, rfl, rfl, rfl, rfl⟩ := h
 all_goals refine bodyPost_ret (results_ct rfl _ _ _ _ _ (0, 0) _ rfl Blk.out Tryz.underlying37 rfl (by kernel_rfl)) rfl ?_
 all_goals exact ⟨_, _, _, rfl, (by first | exact rowFin | exact Kd.R_nil _ _ _ _ _), (by first | exact rowFin | exact Kd.R_nil _ _ _ _ _), (by first | exact rowFin | exact Kd.R_nil _ _ _ _ _), From.out⟩
def impl_ShopWarm.f (k : Nat) (l0_0 : List (S112)) (a0_1 : Int) (l0_2 : List Int) (a0_3 : Int) (a0_4 : Int) (l0_5 : List (S104)) (a1 : Int) : Option ((List (S112)) × Int × List Int × Int × Int × (List (S104)) × Bool) := (impl_copyShop.f l0_0 a0_1 l0_2 a0_3 a0_4 l0_5).bind fun bt749 => ((impl_ShopOk.f k l0_0 a0_1 l0_2 a0_3 a0_4 l0_5).bind fun t762 => (if t762 = true then ((impl_ShopOk.f k bt749.1 bt749.2.1 bt749.2.2.1 a1 (wrap64 (bt749.2.2.2.2.1 + 1)) bt749.2.2.2.2.2).bind fun t763 => (if t763 = true then (some (bt749.1, bt749.2.1, bt749.2.2.1, a1, wrap64 (bt749.2.2.2.2.1 + 1), bt749.2.2.2.2.2, true)) else ((impl_copyShop.f l0_0 a0_1 l0_2 a0_3 a0_4 l0_5).bind fun bt764 => (some (bt764.1, bt764.2.1, bt764.2.2.1, bt764.2.2.2.1, bt764.2.2.2.2.1, bt764.2.2.2.2.2, false))))) else ((impl_copyShop.f l0_0 a0_1 l0_2 a0_3 a0_4 l0_5).bind fun bt776 => (some (bt776.1, bt776.2.1, bt776.2.2.1, bt776.2.2.2.1, bt776.2.2.2.2.1, bt776.2.2.2.2.2, false)))))
theorem impl_ShopWarm.calls (k : Nat) (A0_0 : Option Addr) (c0_0 : Nat) (l0_0 : List (S112)) (a0_1 : Int) (A0_2 : Option Addr) (c0_2 : Nat) (l0_2 : List Int) (a0_3 : Int) (a0_4 : Int) (A0_5 : Option Addr) (c0_5 : Nat) (l0_5 : List (S104)) (a1 : Int) (r1 : List (S112)) (r2 : Int) (r3 : List Int) (r4 : Int) (r5 : Int) (r6 : List (S104)) (r7 : Bool) (w : World) (hr0_0 : Kd.C k112 w A0_0 l0_0.length l0_0) (hc0_0 : l0_0.length ≤ c0_0) (hr0_2 : Kd.C (Kd.int .i64) w A0_2 l0_2.length l0_2) (hc0_2 : l0_2.length ≤ c0_2) (hr0_5 : Kd.C k104 w A0_5 l0_5.length l0_5) (hc0_5 : l0_5.length ≤ c0_5) (h : impl_ShopWarm.f k l0_0 a0_1 l0_2 a0_3 a0_4 l0_5 a1 = some (r1, r2, r3, r4, r5, r6, r7)) :
  Calls Tryz.prog 59 #[.agg #[.slice A0_0 l0_0.length c0_0, .int .i64 a0_1, .slice A0_2 l0_2.length c0_2, .int .i64 a0_3, .int .i64 a0_4, .slice A0_5 l0_5.length c0_5], .int .i64 a1] w fun e w' => ∃ v0_ v2_ v5_ : Value, e = .returned (.tuple #[.agg #[v0_, .int .i64 r2, v2_, .int .i64 r4, .int .i64 r5, v5_], .bool r7]) ∧ Kd.R k112 112 w' w.heap.size (fun _ => True) v0_ r1 ∧ Kd.R (Kd.int .i64) 3 w' w.heap.size (fun _ => True) v2_ r3 ∧ Kd.R k104 104 w' w.heap.size (fun _ => True) v5_ r6 ∧ Below w.heap.size w w' := by
 replace hr0_0 := RdE.mk hr0_0
 replace hc0_0 := LeI.mk hc0_0
 replace hr0_2 := RdE.mk hr0_2
 replace hc0_2 := LeI.mk hc0_2
 replace hr0_5 := RdE.mk hr0_5
 replace hc0_5 := LeI.mk hc0_5
 unfold impl_ShopWarm.f at h
 have hu37 := Tryz.underlying37
 (repeat' first | ((with_reducible replace h := ite_some h); rcases h with ⟨hc, h⟩ | ⟨hc, h⟩ <;> first | exact (none_some h).elim | exact absurd hc (by decide) | subst hc | (replace hc := hF_ hc; subst hc) | (have hd := hI_ hc; have he := hJ_ hc; clear hc) | (have hd := hK_ hc; have he := hL_ hc) | (have hd := decide_eq_false hc) | (have hd := decide_eq_true hc) | skip))
 all_goals go_enter Tryz.func59, Tryz.ntmps59
 all_goals go_wp2_with ((first
  | ((with_reducible refine gate_dst (N := 2) rfl ?_); refine bV #[.slice A0_0 l0_0.length c0_0, .int .i64 a0_1, .slice A0_2 l0_2.length c0_2, .int .i64 a0_3, .int .i64 a0_4, .slice A0_5 l0_5.length c0_5] 37 fun g w1 j1 j2 j3 => ?_)
  | ((with_reducible refine gate_dst (N := 4) rfl ?_); refine bV #[.slice none 0 0, .int .i64 0, .slice none 0 0, .int .i64 0, .int .i64 0, .slice none 0 0] 37 fun g w1 j1 j2 j3 => ?_)
  | ((with_reducible refine gate_dst (N := 6) rfl ?_); refine bV #[.slice none 0 0, .int .i64 0, .slice none 0 0, .int .i64 0, .int .i64 0, .slice none 0 0] 37 fun g w1 j1 j2 j3 => ?_)
  | (go_at_call 57; replace h := bI h; obtain ⟨⟨t1, t2, t3, t4, t5, t6⟩, A, h⟩ := h; (try dsimp only at h); refine (impl_copyShop.calls _ _ _ _ _ _ _ _ _ _ _ _ _ _ _ _ _ _ _ Rd.out LeI.out Rd.out LeI.out Rd.out LeI.out A).mono ?_; rintro e w2 ⟨v0, v1, v2, rfl, ho0, ho1, ho2, hb⟩; obtain ⟨B0, b0, rfl, j0, q0⟩ := rowS ho0; obtain ⟨B1, b1, rfl, j1, q1⟩ := rowS ho1; obtain ⟨B2, b2, rfl, j2, q2⟩ := rowS ho2; have jb := Bel.mk hb; clear A ho0 ho1 ho2 hb)
  | (go_at_call 32; replace h := bI h; obtain ⟨t, A, h⟩ := h; (try dsimp only at h); refine (impl_ShopOk.calls _ _ _ _ _ _ _ _ _ _ _ _ _ _ _ Rd.out LeI.out Rd.out LeI.out Rd.out LeI.out A).mono ?_; rintro e w2 ⟨rfl, hb⟩; have jb := Bel.mk hb; clear A hb)); (repeat' first | ((with_reducible replace h := ite_some h); rcases h with ⟨hc, h⟩ | ⟨hc, h⟩ <;> first | exact (none_some h).elim | exact absurd hc (by decide) | subst hc | (replace hc := hF_ hc; subst hc) | (have hd := hI_ hc; have he := hJ_ hc; clear hc) | (have hd := hK_ hc; have he := hL_ hc) | (have hd := decide_eq_false hc) | (have hd := decide_eq_true hc) | skip)))
 all_goals simp only [Option.some.injEq, Prod.mk.injEq] at h
 all_goals obtain ⟨rfl, rfl, rfl, rfl, rfl, rfl, rfl⟩ := h
 all_goals refine bodyPost_ret (results_ct rfl _ _ _ _ _ (0, 0) _ rfl Blk.out Tryz.underlying37 rfl (by kernel_rfl)) rfl ?_
 all_goals exact ⟨_, _, _, rfl, (by first | exact rowFin | exact Kd.R_nil _ _ _ _ _), (by first | exact rowFin | exact Kd.R_nil _ _ _ _ _), (by first | exact rowFin | exact Kd.R_nil _ _ _ _ _), From.out⟩
def impl_ShopFault.f (k : Nat) (l0_0 : List (S112)) (a0_1 : Int) (l0_2 : List Int) (a0_3 : Int) (a0_4 : Int) (l0_5 : List (S104)) (a1_0 : Int) (a1_1 : Int) (a2 : Int) : Option ((List (S112)) × Int × List Int × Int × Int × (List (S104)) × Bool) := (impl_copyShop.f l0_0 a0_1 l0_2 a0_3 a0_4 l0_5).bind fun bt809 => ((impl_ShopOk.f k l0_0 a0_1 l0_2 a0_3 a0_4 l0_5).bind fun t822 => (if t822 = true then ((impl_AddEntry.f k l0_5 a1_0 a1_1 a2 a0_4).bind fun bt823 => (if bt823.2 = true then (some (bt809.1, bt809.2.1, bt809.2.2.1, bt809.2.2.2.1, bt809.2.2.2.2.1, bt823.1, true)) else (some (bt809.1, bt809.2.1, bt809.2.2.1, bt809.2.2.2.1, bt809.2.2.2.2.1, bt809.2.2.2.2.2, false)))) else (some (bt809.1, bt809.2.1, bt809.2.2.1, bt809.2.2.2.1, bt809.2.2.2.2.1, bt809.2.2.2.2.2, false))))
theorem impl_ShopFault.calls (k : Nat) (A0_0 : Option Addr) (c0_0 : Nat) (l0_0 : List (S112)) (a0_1 : Int) (A0_2 : Option Addr) (c0_2 : Nat) (l0_2 : List Int) (a0_3 : Int) (a0_4 : Int) (A0_5 : Option Addr) (c0_5 : Nat) (l0_5 : List (S104)) (a1_0 : Int) (a1_1 : Int) (a2 : Int) (r1 : List (S112)) (r2 : Int) (r3 : List Int) (r4 : Int) (r5 : Int) (r6 : List (S104)) (r7 : Bool) (w : World) (hr0_0 : Kd.C k112 w A0_0 l0_0.length l0_0) (hc0_0 : l0_0.length ≤ c0_0) (hr0_2 : Kd.C (Kd.int .i64) w A0_2 l0_2.length l0_2) (hc0_2 : l0_2.length ≤ c0_2) (hr0_5 : Kd.C k104 w A0_5 l0_5.length l0_5) (hc0_5 : l0_5.length ≤ c0_5) (h : impl_ShopFault.f k l0_0 a0_1 l0_2 a0_3 a0_4 l0_5 a1_0 a1_1 a2 = some (r1, r2, r3, r4, r5, r6, r7)) :
  Calls Tryz.prog 60 #[.agg #[.slice A0_0 l0_0.length c0_0, .int .i64 a0_1, .slice A0_2 l0_2.length c0_2, .int .i64 a0_3, .int .i64 a0_4, .slice A0_5 l0_5.length c0_5], .agg #[.int .i64 a1_0, .int .i64 a1_1], .int .i64 a2] w fun e w' => ∃ v0_ v2_ v5_ : Value, e = .returned (.tuple #[.agg #[v0_, .int .i64 r2, v2_, .int .i64 r4, .int .i64 r5, v5_], .bool r7]) ∧ Kd.R k112 112 w' w.heap.size (fun _ => True) v0_ r1 ∧ Kd.R (Kd.int .i64) 3 w' w.heap.size (fun _ => True) v2_ r3 ∧ Kd.R k104 104 w' w.heap.size (fun _ => True) v5_ r6 ∧ Below w.heap.size w w' := by
 replace hr0_0 := RdE.mk hr0_0
 replace hc0_0 := LeI.mk hc0_0
 replace hr0_2 := RdE.mk hr0_2
 replace hc0_2 := LeI.mk hc0_2
 replace hr0_5 := RdE.mk hr0_5
 replace hc0_5 := LeI.mk hc0_5
 unfold impl_ShopFault.f at h
 have hu37 := Tryz.underlying37
 have hu74 := Tryz.underlying74
 (repeat' first | ((with_reducible replace h := ite_some h); rcases h with ⟨hc, h⟩ | ⟨hc, h⟩ <;> first | exact (none_some h).elim | exact absurd hc (by decide) | subst hc | (replace hc := hF_ hc; subst hc) | (have hd := hI_ hc; have he := hJ_ hc; clear hc) | (have hd := hK_ hc; have he := hL_ hc) | (have hd := decide_eq_false hc) | (have hd := decide_eq_true hc) | skip))
 all_goals go_enter Tryz.func60, Tryz.ntmps60
 all_goals go_wp2_with ((first
  | ((with_reducible refine gate_dst (N := 3) rfl ?_); refine bV #[.slice A0_0 l0_0.length c0_0, .int .i64 a0_1, .slice A0_2 l0_2.length c0_2, .int .i64 a0_3, .int .i64 a0_4, .slice A0_5 l0_5.length c0_5] 37 fun g w1 j1 j2 j3 => ?_)
  | ((with_reducible refine gate_dst (N := 4) rfl ?_); refine bV #[.int .i64 a1_0, .int .i64 a1_1] 74 fun g w1 j1 j2 j3 => ?_)
  | ((with_reducible refine gate_dst (N := 6) rfl ?_); refine bV #[.slice none 0 0, .int .i64 0, .slice none 0 0, .int .i64 0, .int .i64 0, .slice none 0 0] 37 fun g w1 j1 j2 j3 => ?_)
  | ((with_reducible refine gate_dst (N := 8) rfl ?_); refine bV #[.slice none 0 0, .int .i64 0, .slice none 0 0, .int .i64 0, .int .i64 0, .slice none 0 0] 37 fun g w1 j1 j2 j3 => ?_)
  | (go_at_call 57; replace h := bI h; obtain ⟨⟨t1, t2, t3, t4, t5, t6⟩, A, h⟩ := h; (try dsimp only at h); refine (impl_copyShop.calls _ _ _ _ _ _ _ _ _ _ _ _ _ _ _ _ _ _ _ Rd.out LeI.out Rd.out LeI.out Rd.out LeI.out A).mono ?_; rintro e w2 ⟨v0, v1, v2, rfl, ho0, ho1, ho2, hb⟩; obtain ⟨B0, b0, rfl, j0, q0⟩ := rowS ho0; obtain ⟨B1, b1, rfl, j1, q1⟩ := rowS ho1; obtain ⟨B2, b2, rfl, j2, q2⟩ := rowS ho2; have jb := Bel.mk hb; clear A ho0 ho1 ho2 hb)
  | (go_at_call 32; replace h := bI h; obtain ⟨t, A, h⟩ := h; (try dsimp only at h); refine (impl_ShopOk.calls _ _ _ _ _ _ _ _ _ _ _ _ _ _ _ Rd.out LeI.out Rd.out LeI.out Rd.out LeI.out A).mono ?_; rintro e w2 ⟨rfl, hb⟩; have jb := Bel.mk hb; clear A hb)
  | (go_at_call 108; replace h := bI h; obtain ⟨⟨t1, t2⟩, A, h⟩ := h; (try dsimp only at h); refine (impl_AddEntry.calls _ _ _ _ _ _ _ _ _ _ _ Rd.out LeI.out A).mono ?_; rintro e w2 ⟨v0, rfl, ho0, hb⟩; obtain ⟨B0, b0, rfl, j0, q0⟩ := rowS ho0; have jb := Bel.mk hb; clear A ho0 hb)); (repeat' first | ((with_reducible replace h := ite_some h); rcases h with ⟨hc, h⟩ | ⟨hc, h⟩ <;> first | exact (none_some h).elim | exact absurd hc (by decide) | subst hc | (replace hc := hF_ hc; subst hc) | (have hd := hI_ hc; have he := hJ_ hc; clear hc) | (have hd := hK_ hc; have he := hL_ hc) | (have hd := decide_eq_false hc) | (have hd := decide_eq_true hc) | skip)))
 all_goals simp only [Option.some.injEq, Prod.mk.injEq] at h
 all_goals obtain ⟨rfl, rfl, rfl, rfl, rfl, rfl, rfl⟩ := h
 all_goals refine bodyPost_ret (results_ct rfl _ _ _ _ _ (0, 0) _ rfl Blk.out Tryz.underlying37 rfl (by kernel_rfl)) rfl ?_
 all_goals exact ⟨_, _, _, rfl, (by first | exact rowFin | exact Kd.R_nil _ _ _ _ _), (by first | exact rowFin | exact Kd.R_nil _ _ _ _ _), (by first | exact rowFin | exact Kd.R_nil _ _ _ _ _), From.out⟩
def impl_ShopKnock.f (k : Nat) (l0_0 : List (S112)) (a0_1 : Int) (l0_2 : List Int) (a0_3 : Int) (a0_4 : Int) (l0_5 : List (S104)) (a1 : Int) (a2 : Int) : Option ((List (S112)) × Int × List Int × Int × Int × (List (S104)) × Bool) := (impl_copyShop.f l0_0 a0_1 l0_2 a0_3 a0_4 l0_5).bind fun bt853 => ((impl_ShopOk.f k l0_0 a0_1 l0_2 a0_3 a0_4 l0_5).bind fun t866 => (if t866 = true then ((impl_KnockKey.f k l0_0 a0_1 l0_2 a1 a2).bind fun bt867 => (some (bt867.1, bt867.2.1, bt867.2.2.1, bt853.2.2.2.1, bt853.2.2.2.2.1, bt853.2.2.2.2.2, bt867.2.2.2))) else (some (bt853.1, bt853.2.1, bt853.2.2.1, bt853.2.2.2.1, bt853.2.2.2.2.1, bt853.2.2.2.2.2, false))))
theorem impl_ShopKnock.calls (k : Nat) (A0_0 : Option Addr) (c0_0 : Nat) (l0_0 : List (S112)) (a0_1 : Int) (A0_2 : Option Addr) (c0_2 : Nat) (l0_2 : List Int) (a0_3 : Int) (a0_4 : Int) (A0_5 : Option Addr) (c0_5 : Nat) (l0_5 : List (S104)) (a1 : Int) (a2 : Int) (r1 : List (S112)) (r2 : Int) (r3 : List Int) (r4 : Int) (r5 : Int) (r6 : List (S104)) (r7 : Bool) (w : World) (hr0_0 : Kd.C k112 w A0_0 l0_0.length l0_0) (hc0_0 : l0_0.length ≤ c0_0) (hr0_2 : Kd.C (Kd.int .i64) w A0_2 l0_2.length l0_2) (hc0_2 : l0_2.length ≤ c0_2) (hr0_5 : Kd.C k104 w A0_5 l0_5.length l0_5) (hc0_5 : l0_5.length ≤ c0_5) (h : impl_ShopKnock.f k l0_0 a0_1 l0_2 a0_3 a0_4 l0_5 a1 a2 = some (r1, r2, r3, r4, r5, r6, r7)) :
  Calls Tryz.prog 61 #[.agg #[.slice A0_0 l0_0.length c0_0, .int .i64 a0_1, .slice A0_2 l0_2.length c0_2, .int .i64 a0_3, .int .i64 a0_4, .slice A0_5 l0_5.length c0_5], .int .i64 a1, .int .i64 a2] w fun e w' => ∃ v0_ v2_ v5_ : Value, e = .returned (.tuple #[.agg #[v0_, .int .i64 r2, v2_, .int .i64 r4, .int .i64 r5, v5_], .bool r7]) ∧ Kd.R k112 112 w' w.heap.size (fun _ => True) v0_ r1 ∧ Kd.R (Kd.int .i64) 3 w' w.heap.size (fun _ => True) v2_ r3 ∧ Kd.R k104 104 w' w.heap.size (fun _ => True) v5_ r6 ∧ Below w.heap.size w w' := by
 replace hr0_0 := RdE.mk hr0_0
 replace hc0_0 := LeI.mk hc0_0
 replace hr0_2 := RdE.mk hr0_2
 replace hc0_2 := LeI.mk hc0_2
 replace hr0_5 := RdE.mk hr0_5
 replace hc0_5 := LeI.mk hc0_5
 unfold impl_ShopKnock.f at h
 have hu34 := Tryz.underlying34
 have hu37 := Tryz.underlying37
 (repeat' first | ((with_reducible replace h := ite_some h); rcases h with ⟨hc, h⟩ | ⟨hc, h⟩ <;> first | exact (none_some h).elim | exact absurd hc (by decide) | subst hc | (replace hc := hF_ hc; subst hc) | (have hd := hI_ hc; have he := hJ_ hc; clear hc) | (have hd := hK_ hc; have he := hL_ hc) | (have hd := decide_eq_false hc) | (have hd := decide_eq_true hc) | skip))
 all_goals go_enter Tryz.func61, Tryz.ntmps61
 all_goals go_wp2_with ((first
  | ((with_reducible refine gate_dst (N := 3) rfl ?_); refine bV #[.slice A0_0 l0_0.length c0_0, .int .i64 a0_1, .slice A0_2 l0_2.length c0_2, .int .i64 a0_3, .int .i64 a0_4, .slice A0_5 l0_5.length c0_5] 37 fun g w1 j1 j2 j3 => ?_)
  | ((with_reducible refine gate_dst (N := 6) rfl ?_); refine bV #[.slice none 0 0, .int .i64 0, .slice none 0 0, .int .i64 0, .int .i64 0, .slice none 0 0] 37 fun g w1 j1 j2 j3 => ?_)
  | ((with_reducible refine gate_dst (N := 8) rfl ?_); refine bV #[.slice none 0 0, .int .i64 0, .slice none 0 0, .int .i64 0, .int .i64 0, .slice none 0 0] 37 fun g w1 j1 j2 j3 => ?_)
  | ((with_reducible refine gate_dst (N := 9) rfl ?_); refine bV #[.slice none 0 0, .int .i64 0, .slice none 0 0] 34 fun g w1 j1 j2 j3 => ?_)
  | (go_at_call 57; replace h := bI h; obtain ⟨⟨t1, t2, t3, t4, t5, t6⟩, A, h⟩ := h; (try dsimp only at h); refine (impl_copyShop.calls _ _ _ _ _ _ _ _ _ _ _ _ _ _ _ _ _ _ _ Rd.out LeI.out Rd.out LeI.out Rd.out LeI.out A).mono ?_; rintro e w2 ⟨v0, v1, v2, rfl, ho0, ho1, ho2, hb⟩; obtain ⟨B0, b0, rfl, j0, q0⟩ := rowS ho0; obtain ⟨B1, b1, rfl, j1, q1⟩ := rowS ho1; obtain ⟨B2, b2, rfl, j2, q2⟩ := rowS ho2; have jb := Bel.mk hb; clear A ho0 ho1 ho2 hb)
  | (go_at_call 32; replace h := bI h; obtain ⟨t, A, h⟩ := h; (try dsimp only at h); refine (impl_ShopOk.calls _ _ _ _ _ _ _ _ _ _ _ _ _ _ _ Rd.out LeI.out Rd.out LeI.out Rd.out LeI.out A).mono ?_; rintro e w2 ⟨rfl, hb⟩; have jb := Bel.mk hb; clear A hb)
  | (go_at_call 109; replace h := bI h; obtain ⟨⟨t1, t2, t3, t4⟩, A, h⟩ := h; (try dsimp only at h); refine (impl_KnockKey.calls _ _ _ _ _ _ _ _ _ _ _ _ _ _ _ Rd.out LeI.out Rd.out LeI.out A).mono ?_; rintro e w2 ⟨v0, v1, rfl, ho0, ho1, hb⟩; obtain ⟨B0, b0, rfl, j0, q0⟩ := rowS ho0; obtain ⟨B1, b1, rfl, j1, q1⟩ := rowS ho1; have jb := Bel.mk hb; clear A ho0 ho1 hb)); (repeat' first | ((with_reducible replace h := ite_some h); rcases h with ⟨hc, h⟩ | ⟨hc, h⟩ <;> first | exact (none_some h).elim | exact absurd hc (by decide) | subst hc | (replace hc := hF_ hc; subst hc) | (have hd := hI_ hc; have he := hJ_ hc; clear hc) | (have hd := hK_ hc; have he := hL_ hc) | (have hd := decide_eq_false hc) | (have hd := decide_eq_true hc) | skip)))
 all_goals simp only [Option.some.injEq, Prod.mk.injEq] at h
 all_goals obtain ⟨rfl, rfl, rfl, rfl, rfl, rfl, rfl⟩ := h
 all_goals refine bodyPost_ret (results_ct rfl _ _ _ _ _ (0, 0) _ rfl Blk.out Tryz.underlying37 rfl (by kernel_rfl)) rfl ?_
 all_goals exact ⟨_, _, _, rfl, (by first | exact rowFin | exact Kd.R_nil _ _ _ _ _), (by first | exact rowFin | exact Kd.R_nil _ _ _ _ _), (by first | exact rowFin | exact Kd.R_nil _ _ _ _ _), From.out⟩
end Go.Proofs.YtanhnhkcpbdfmaaGreat.P
namespace Go.Proofs.YtanhnhkcpbdfmaaGreat.P
set_option maxHeartbeats 8000000
set_option maxRecDepth 100000
open Go.RowKit Go.Proofs.YtanhnhkcpbdfmaaGreatW.PrintWords Go.Proofs.YtanhnhkcpbdfmaaGreatW.PrintLast Go.Proofs.YtanhnhkcpbdfmaaGreatW.PrintMore
attribute [local go_sem] max2_int min2_int max_two min_two max_three min_three max_four min_four
def impl_StepsLeft.f (k : Nat) (l0_0 : List (S112)) (a0_1 : Int) (l0_2 : List Int) (a0_3 : Int) (a0_4 : Int) (l0_5 : List (S104)) : Option (Int) := (impl_ShopOk.f k l0_0 a0_1 l0_2 a0_3 a0_4 l0_5).bind fun t623 => (if t623 = true then ((impl_WrongSteps.f k l0_0 a0_1 l0_2).bind fun t624 => (some (wrap64 ((wrap64 ((l0_0.length : Int) - a0_1)) + (t624.length : Int))))) else (some 0))
def impl_StepsLeft.T3 : Bool × List (List Nat × List Nat) := (true, [([], []), ([0], [0]), ([1], [1]), ([2], [2]), ([], []), ([4], [4]), ([5], [5]), ([3, 6], [3, 6]), ([], []), ([8], [8]), ([9], [9]), ([10], [10]), ([7, 11], [7, 11]), ([12, 10, 0, 1, 2, 3, 4, 5, 6, 7, 8, 9, 10, 11, 12], [12])])
def impl_StepsLeft.B3 : List Nat := [0, 1, 3, 7, 0, 16, 48, 127, 0, 256, 768, 1792, 4095, 8191]
theorem impl_StepsLeft.tab3 : rtab .any (opsOf Tryz.f34 3) = impl_StepsLeft.T3 := by kernel_rfl
theorem impl_StepsLeft.bits3 : waitsOk impl_StepsLeft.T3.2 impl_StepsLeft.B3 = true := by kernel_rfl
theorem impl_StepsLeft.calls (k : Nat) (A0_0 : Option Addr) (c0_0 : Nat) (l0_0 : List (S112)) (a0_1 : Int) (A0_2 : Option Addr) (c0_2 : Nat) (l0_2 : List Int) (a0_3 : Int) (a0_4 : Int) (A0_5 : Option Addr) (c0_5 : Nat) (l0_5 : List (S104)) (r : Int) (w : World) (hr0_0 : Kd.C k112 w A0_0 l0_0.length l0_0) (hc0_0 : l0_0.length ≤ c0_0) (hr0_2 : Kd.C (Kd.int .i64) w A0_2 l0_2.length l0_2) (hc0_2 : l0_2.length ≤ c0_2) (hr0_5 : Kd.C k104 w A0_5 l0_5.length l0_5) (hc0_5 : l0_5.length ≤ c0_5) (h : impl_StepsLeft.f k l0_0 a0_1 l0_2 a0_3 a0_4 l0_5 = some r) :
  Calls Tryz.prog 34 #[.agg #[.slice A0_0 l0_0.length c0_0, .int .i64 a0_1, .slice A0_2 l0_2.length c0_2, .int .i64 a0_3, .int .i64 a0_4, .slice A0_5 l0_5.length c0_5]] w fun e w' => e = .returned (.int .i64 r) ∧ Below w.heap.size w w' := by
 have hu37 := Tryz.underlying37
 have hu34 := Tryz.underlying34
 have HR0_0 := A_ hr0_0
 have HC0_0 := A_ hc0_0
 clear hr0_0 hc0_0
 have HR0_2 := A_ hr0_2
 have HC0_2 := A_ hc0_2
 clear hr0_2 hc0_2
 have HR0_5 := A_ hr0_5
 have HC0_5 := A_ hc0_5
 clear hr0_5 hc0_5
 have HB := A_ (Below.refl w.heap.size w)
 have H : ((impl_ShopOk.f k l0_0 a0_1 l0_2 a0_3 a0_4 l0_5).bind fun t623 => (if t623 = true then ((impl_WrongSteps.f k l0_0 a0_1 l0_2).bind fun t624 => (some (wrap64 ((wrap64 ((l0_0.length : Int) - a0_1)) + (t624.length : Int))))) else (some 0))) = some r := h
 clear h
 replace H := Option.bind_eq_some_iff.mp H
 obtain ⟨t623, A20, H⟩ := H
 (try dsimp only at H)
 have A2 := A_ A20
 clear A20
 by_cases c3 : t623 = true
 ·subst c3
  rw [if_pos rfl] at H
  replace H := Option.bind_eq_some_iff.mp H
  obtain ⟨t624, A40, H⟩ := H
  (try dsimp only at H)
  have A4 := A_ A40
  clear A40
  obtain rfl := Option.some.inj H
  go_enter Tryz.func34, Tryz.ntmps34
  try go_wp2_with (first | ((with_reducible refine gate_dst (N := 1) rfl ?_); refine bX (N := 1) (cs := #[.slice A0_0 l0_0.length c0_0, .int .i64 a0_1, .slice A0_2 l0_2.length c0_2, .int .i64 a0_3, .int .i64 a0_4, .slice A0_5 l0_5.length c0_5]) (t := 37) ?_; intro gb622 hg w5 hbox hb; have n0_ := A_ (below_step (oB HB) hb); have n1_ := A_ (hbox); have n2_ := A_ ((by rw [hg]; exact (below_size (oB HB)) : w.heap.size ≤ gb622)); have n3_ := A_ ((by rw [hg]; exact (below_size (oB HB)) : w.heap.size ≤ gb622)); clear HB; have HB := n0_; have BK622 := n1_; have GW622 := n2_; have GE622 := n3_; clear n0_ n1_ n2_ n3_; clear hb hbox hg; have hcz6_0 := cz BK622 0; have hcz6_1 := cz BK622 1; have hcz6_2 := cz BK622 2; have hcz6_3 := cz BK622 3; have hcz6_4 := cz BK622 4; have hcz6_5 := cz BK622 5; have hfz6_0 := blk_frozen BK622.out 0; have hfz6_1 := blk_frozen BK622.out 1; have hfz6_2 := blk_frozen BK622.out 2; have hfz6_3 := blk_frozen BK622.out 3; have hfz6_4 := blk_frozen BK622.out 4; have hfz6_5 := blk_frozen BK622.out 5) | ((with_reducible refine gate_callee (f := 32) rfl ?_); refine gL (some 4) Tryz.func32 #[.agg #[.slice A0_0 l0_0.length c0_0, .int .i64 a0_1, .slice A0_2 l0_2.length c0_2, .int .i64 a0_3, .int .i64 a0_4, .slice A0_5 l0_5.length c0_5]] ?_; (with_reducible refine (impl_ShopOk.calls k _ _ l0_0 a0_1 _ _ l0_2 a0_3 a0_4 _ _ l0_5 true _ ?side1 ?side2 ?side3 ?side4 ?side5 ?side6 A2.out).mono ?_); (case side1 => exact oc_ HR0_0.out); (case side2 => exact HC0_0.out); (case side3 => exact oc_ HR0_2.out); (case side4 => exact HC0_2.out); (case side5 => exact oc_ HR0_5.out); (case side6 => exact HC0_5.out); rintro e w7 ⟨rfl, hb⟩; refine ⟨_, rfl, ?_⟩; have n0_ := A_ (bb BK622 hb); have n1_ := A_ (below_step (oB HB) hb); clear BK622; clear HB; have BK622 := n0_; have HB := n1_; clear n0_ n1_; (try clear hb); (try clear hb2); (try clear hk); (try clear hi)))
  have n0_ := A_ (blk_drew BK622.out)
  have n1_ := A_ (below_drew1 HB.out)
  clear BK622
  clear HB
  have BK622 := n0_
  have HB := n1_
  clear n0_ n1_
  refine start_ (n := 14) (S := fun w' => w'.cell? ⟨gb622, 0, none⟩ = some (.slice A0_0 l0_0.length c0_0) ∧ w'.cell? ⟨gb622, 1, none⟩ = some (.int .i64 a0_1) ∧ w'.cell? ⟨gb622, 2, none⟩ = some (.slice A0_2 l0_2.length c0_2) ∧ w'.cell? ⟨gb622, 3, none⟩ = some (.int .i64 a0_3) ∧ w'.cell? ⟨gb622, 4, none⟩ = some (.int .i64 a0_4) ∧ w'.cell? ⟨gb622, 5, none⟩ = some (.slice A0_5 l0_5.length c0_5)) (ds := []) #[false, false, false, false, false, false, false, false, false, false, false, false, false, false] (by kernel_rfl) rfl rfl ⟨cz BK622 0, cz BK622 1, cz BK622 2, cz BK622 3, cz BK622 4, cz BK622 5⟩ (fun hHeld => ?_); refine with_tabW impl_StepsLeft.tab3 impl_StepsLeft.bits3 (fun HT_ HW_ => ?_)
  generalize w7.drew = w8 at BK622 HB hHeld ⊢
  refine pA 0 (some 6) HT_.out ?_
  refine pA 1 (some 7) HT_.out ?_
  refine pA 4 (some 10) HT_.out ?_
  refine pA 5 (some 11) HT_.out ?_
  refine pA 8 (some 14) HT_.out ?_
  refine pT 2 (some 8) HT_.out HW_.out hHeld ?_
  refine pA 3 (some 9) HT_.out ?_
  refine pT 6 (some 12) HT_.out HW_.out hHeld ?_
  refine pA 7 (some 13) HT_.out ?_
  refine pT 9 (some 15) HT_.out HW_.out hHeld ?_
  refine one_ (i := 10) (N := some 16) #[true, true, true, true, true, true, true, true, true, true, true, false, false, false] rfl rfl (one_of HT_.out (by kernel_rfl)) (by decide) (fun K hK => ?_)
  refine goes_ Tryz.func82 (by kernel_rfl) rfl #[.agg #[.slice A0_0 l0_0.length c0_0, .int .i64 a0_1, .slice A0_2 l0_2.length c0_2]] (by rfl) rfl rfl (by (try simp only [List.map_toArray, List.map_cons, List.map_nil]); first | done | rfl | (simp only [List.length_drop, List.length_take]; rfl)) ?_
  with_reducible refine (impl_WrongSteps.calls k _ _ l0_0 a0_1 _ _ l0_2 t624 _ ?side1 ?side2 ?side3 ?side4 A4.out).mono ?_
  (case side1 => exact oc_ HR0_0.out)
  (case side2 => exact HC0_0.out)
  (case side3 => exact oc_ HR0_2.out)
  (case side4 => exact HC0_2.out)
  rintro e w9 ⟨v625, rfl, ho0, hb⟩
  refine ⟨_, rfl, ?_⟩
  have n0_ := A_ (Kd.R_lower ho0 (below_size (oB HB)))
  have n1_ := A_ (bb BK622 hb)
  have n2_ := A_ (below_step (oB HB) hb)
  clear BK622
  clear HB
  have HO626 := n0_
  have BK622 := n1_
  have HB := n2_
  clear n0_ n1_ n2_
  (try clear hb)
  (try clear hb2)
  (try clear hk)
  (try clear hi)
  (try clear ho0)
  obtain ⟨Ao10, co10, eo10⟩ := Kd.R_slice HO626.out
  (first | subst eo10 | (injection eo10 with f1_ f2_ f3_; have f4_ := f1_.symm; have f5_ := f3_.symm; clear f1_ f2_ f3_; subst f4_; subst f5_))
  refine hK.out _ _ ⟨cz BK622 0, cz BK622 1, cz BK622 2, cz BK622 3, cz BK622 4, cz BK622 5⟩ (fun hHeld => ?_)
  clear hK K
  refine norm_ (a' := ?_) ?_ ?_
  rotate_left
  ·show Act.put _ (some 16) _ = _
   simp only [Act.put, List.setIfInBounds_toArray, List.set_cons_zero, List.set_cons_succ, i64_w, i32_w]
   rfl
  refine pA 11 (some 17) HT_.out ?_
  refine pA 12 (some 18) HT_.out ?_
  refine pA 13 (some 2) HT_.out ?_
  refine done_ (done_of HT_.out (by kernel_rfl)) ?_
  try go_wp2
  go_ret
  exact ⟨eR, oB HB⟩
 ·replace c3 := Bool.eq_false_iff.mpr c3
  subst c3
  rw [if_neg (show ¬ (false = true) by decide)] at H
  obtain rfl := Option.some.inj H
  go_enter Tryz.func34, Tryz.ntmps34
  go_wp2_with (first | ((with_reducible refine gate_dst (N := 1) rfl ?_); refine bX (N := 1) (cs := #[.slice A0_0 l0_0.length c0_0, .int .i64 a0_1, .slice A0_2 l0_2.length c0_2, .int .i64 a0_3, .int .i64 a0_4, .slice A0_5 l0_5.length c0_5]) (t := 37) ?_; intro gb622 hg w11 hbox hb; have n0_ := A_ (below_step (oB HB) hb); have n1_ := A_ (hbox); have n2_ := A_ ((by rw [hg]; exact (below_size (oB HB)) : w.heap.size ≤ gb622)); have n3_ := A_ ((by rw [hg]; exact (below_size (oB HB)) : w.heap.size ≤ gb622)); clear HB; have HB := n0_; have BK622 := n1_; have GW622 := n2_; have GE622 := n3_; clear n0_ n1_ n2_ n3_; clear hb hbox hg; have hcz12_0 := cz BK622 0; have hcz12_1 := cz BK622 1; have hcz12_2 := cz BK622 2; have hcz12_3 := cz BK622 3; have hcz12_4 := cz BK622 4; have hcz12_5 := cz BK622 5; have hfz12_0 := blk_frozen BK622.out 0; have hfz12_1 := blk_frozen BK622.out 1; have hfz12_2 := blk_frozen BK622.out 2; have hfz12_3 := blk_frozen BK622.out 3; have hfz12_4 := blk_frozen BK622.out 4; have hfz12_5 := blk_frozen BK622.out 5) | ((with_reducible refine gate_callee (f := 32) rfl ?_); refine gL (some 4) Tryz.func32 #[.agg #[.slice A0_0 l0_0.length c0_0, .int .i64 a0_1, .slice A0_2 l0_2.length c0_2, .int .i64 a0_3, .int .i64 a0_4, .slice A0_5 l0_5.length c0_5]] ?_; (with_reducible refine (impl_ShopOk.calls k _ _ l0_0 a0_1 _ _ l0_2 a0_3 a0_4 _ _ l0_5 false _ ?side1 ?side2 ?side3 ?side4 ?side5 ?side6 A2.out).mono ?_); (case side1 => exact oc_ HR0_0.out); (case side2 => exact HC0_0.out); (case side3 => exact oc_ HR0_2.out); (case side4 => exact HC0_2.out); (case side5 => exact oc_ HR0_5.out); (case side6 => exact HC0_5.out); rintro e w13 ⟨rfl, hb⟩; refine ⟨_, rfl, ?_⟩; have n0_ := A_ (bb BK622 hb); have n1_ := A_ (below_step (oB HB) hb); clear BK622; clear HB; have BK622 := n0_; have HB := n1_; clear n0_ n1_; (try clear hb); (try clear hb2); (try clear hk); (try clear hi)))
  go_ret
  exact ⟨eR, oB HB⟩
end Go.Proofs.YtanhnhkcpbdfmaaGreat.P
namespace Go.Proofs.YtanhnhkcpbdfmaaGreat.P
set_option maxHeartbeats 8000000
set_option maxRecDepth 100000
set_option synthInstance.maxHeartbeats 400000
set_option synthInstance.maxSize 100000
open Go.RowKit Go.Proofs.YtanhnhkcpbdfmaaGreatW.PrintWords Go.Proofs.YtanhnhkcpbdfmaaGreatW.PrintLast Go.Proofs.YtanhnhkcpbdfmaaGreatW.PrintMore Go.Proofs.YtanhnhkcpbdfmaaGreat.V
attribute [local go_sem] cell_b frozen_b cellR_c cell_r frozen_r cell_r0 frozen_r0
attribute [local go_sem] max2_int min2_int max_two min_two max_three min_three max_four min_four
def impl_HeardAt.f (k : Nat) (l0_0 : List (S112)) (a0_1 : Int) (l0_2 : List Int) (a0_3 : Int) (a0_4 : Int) (l0_5 : List (S104)) (a1 : Int) : Option (Int) := (impl_ShopOk.f k l0_0 a0_1 l0_2 a0_3 a0_4 l0_5).bind fun t733 => (if t733 = true then ((impl_within.f a1 0 11).bind fun t734 => (if t734 = true then (if 0 ≤ a1 then (if a1 < (l0_2.length : Int) then (if (rd l0_2 a1) = 0 then (some 0) else ((impl_FaultOf.f l0_5 0 a1).bind fun t736 => (if t736 = 1 then (some 0) else ((impl_WarmPitch.f (rd l0_2 a1) a0_3).bind fun t738 => (some t738))))) else (none)) else (none)) else (some 0))) else (some 0))
noncomputable def impl_HeardAt.T3 : Bool × List (List Nat × List Nat) := rtab .any (opsOf Tryz.f40 3)
def impl_HeardAt.B3 : List Nat := [0, 1, 3, 0, 15, 31, 0, 64, 255, 511]
theorem impl_HeardAt.tab3 : rtab .any (opsOf Tryz.f40 3) = impl_HeardAt.T3 := rfl
theorem impl_HeardAt.bits3 : waitsOk impl_HeardAt.T3.2 impl_HeardAt.B3 = true := by kernel_rfl
theorem impl_HeardAt.calls (k : Nat) (A0_0 : Option Addr) (c0_0 : Nat) (l0_0 : List (S112)) (a0_1 : Int) (A0_2 : Option Addr) (c0_2 : Nat) (l0_2 : List Int) (a0_3 : Int) (a0_4 : Int) (A0_5 : Option Addr) (c0_5 : Nat) (l0_5 : List (S104)) (a1 : Int) (r : Int) (w : World) (hr0_0 : Kd.C k112 w A0_0 l0_0.length l0_0) (hc0_0 : l0_0.length ≤ c0_0) (hr0_2 : Kd.C (Kd.int .i64) w A0_2 l0_2.length l0_2) (hc0_2 : l0_2.length ≤ c0_2) (hr0_5 : Kd.C k104 w A0_5 l0_5.length l0_5) (hc0_5 : l0_5.length ≤ c0_5) (h : impl_HeardAt.f k l0_0 a0_1 l0_2 a0_3 a0_4 l0_5 a1 = some r) :
  Calls Tryz.prog 40 #[.agg #[.slice A0_0 l0_0.length c0_0, .int .i64 a0_1, .slice A0_2 l0_2.length c0_2, .int .i64 a0_3, .int .i64 a0_4, .slice A0_5 l0_5.length c0_5], .int .i64 a1] w fun e w' => e = .returned (.int .i64 r) ∧ Below w.heap.size w w' := by
 replace hr0_0 := RdE.mk hr0_0
 replace hc0_0 := LeI.mk hc0_0
 replace hr0_2 := RdE.mk hr0_2
 replace hc0_2 := LeI.mk hc0_2
 replace hr0_5 := RdE.mk hr0_5
 replace hc0_5 := LeI.mk hc0_5
 unfold impl_HeardAt.f at h
 have hu37 := Tryz.underlying37
 have hu74 := Tryz.underlying74
 (repeat' first | ((with_reducible replace h := ite_some h); rcases h with ⟨hc, h⟩ | ⟨hc, h⟩ <;> first | exact (none_some h).elim | exact absurd hc (by decide) | subst hc | (replace hc := hF_ hc; subst hc) | (replace hc := hG_ hc; subst hc) | (replace hc := hH_ hc; subst hc) | (have hd : (_ == _) = true := hc) | (have hd : (_ == _) = false := hF_ hc) | (have hd := hI_ hc; have he := hJ_ hc; clear hc) | (have hd := hK_ hc; have he := hL_ hc) | (have hd := decide_eq_false hc) | (have hd := decide_eq_true hc; (try (have hn := Int.natCast_pos.mp hc; have hm := decide_eq_true hn; replace hn := eq_true hn)); first | (obtain ⟨g_, e_, i_⟩ := form_ (by assumption) (by first | assumption | decide) hc; cases e_) | (obtain ⟨a_, e_, c_⟩ := atI_ (by assumption) (by first | assumption | decide) hc; cases e_)) | (have hd := decide_eq_true hc) | skip) | ((with_reducible replace h := bind_set_ h); obtain ⟨hl_, h⟩ := h; replace hl_ := A_ hl_; (try dsimp only at h)))
 all_goals go_enter Tryz.func40, Tryz.ntmps40
 all_goals go_wp2_with ((first
  | ((with_reducible refine gate_dst (N := 2) rfl ?_); refine bV #[.slice A0_0 l0_0.length c0_0, .int .i64 a0_1, .slice A0_2 l0_2.length c0_2, .int .i64 a0_3, .int .i64 a0_4, .slice A0_5 l0_5.length c0_5] 37 fun g w1 j1 j2 j3 => ?_)
  | (go_at_call 32; (try rw [hl_.out]); replace h := bI h; obtain ⟨t, A, h⟩ := h; (try dsimp only at h); refine (impl_ShopOk.calls _ _ _ _ _ _ _ _ _ _ _ _ _ _ _ Rd.out LeI.out Rd.out LeI.out Rd.out LeI.out A).mono ?_; rintro e w2 ⟨rfl, hb⟩; have jb := Bel.mk hb; clear A hb)
  | (go_at_call 79; (try rw [hl_.out]); replace h := bI h; obtain ⟨t, A, h⟩ := h; (try dsimp only at h); refine (impl_within.calls _ _ _ _ _ A).mono ?_; rintro e w2 ⟨rfl, n, rfl⟩; clear A)
  | (go_at_call 41; (try rw [hl_.out]); replace h := bI h; obtain ⟨t, A, h⟩ := h; (try dsimp only at h); refine (impl_FaultOf.calls _ _ _ _ _ _ _ Rd.out LeI.out A).mono ?_; rintro e w2 ⟨rfl, hb⟩; have jb := Bel.mk hb; clear A hb)
  | (refine qR (id := 3) (ds := []) (l := #[false, false, false, false, false, false, false, false, false, false]) impl_HeardAt.tab3 impl_HeardAt.bits3 ?_; intro HT_ HW_ w3 jw u0 iu hHeld; replace h := bI h; obtain ⟨r8t, A8, h⟩ := h; (try dsimp only at h); refine qA 0 (some 30) HT_ ?_; refine qA 1 (some 31) HT_ ?_; refine qT 2 (some 32) HT_ HW_ hHeld ?_; refine qA 3 (some 33) HT_ ?_; refine qA 4 (some 34) HT_ ?_; refine qT 5 (some 35) HT_ HW_ hHeld ?_; refine qA 6 (some 36) HT_ ?_; refine qT 7 (some 37) HT_ HW_ hHeld ?_; refine qO1 8 (some 38) HT_ fun K hK => ?_; refine goes_ Tryz.func42 (by kernel_rfl) rfl _ (by rfl) rfl rfl (by (try simp only [List.map_toArray, List.map_cons, List.map_nil]); rfl) ?_; refine (impl_WarmPitch.calls _ _ _ _ A8).mono ?_; rintro e u8 ⟨rfl, n, rfl⟩; refine ⟨_, rfl, hK.out _ _ From.out fun hHeld => ?_⟩; clear hK K; refine qN ?_; refine qA 9 (some 4) HT_ ?_; refine qD HT_ ?_; all_goals ((try simp only [Option.bind_some] at h); (repeat' first | ((with_reducible replace h := ite_some h); rcases h with ⟨hc, h⟩ | ⟨hc, h⟩ <;> first | exact (none_some h).elim | exact absurd hc (by decide) | subst hc | (replace hc := hF_ hc; subst hc) | (replace hc := hG_ hc; subst hc) | (replace hc := hH_ hc; subst hc) | (have hd : (_ == _) = true := hc) | (have hd : (_ == _) = false := hF_ hc) | (have hd := hI_ hc; have he := hJ_ hc; clear hc) | (have hd := hK_ hc; have he := hL_ hc) | (have hd := decide_eq_false hc) | (have hd := decide_eq_true hc; (try (have hn := Int.natCast_pos.mp hc; have hm := decide_eq_true hn; replace hn := eq_true hn)); first | (obtain ⟨g_, e_, i_⟩ := form_ (by assumption) (by first | assumption | decide) hc; cases e_) | (obtain ⟨a_, e_, c_⟩ := atI_ (by assumption) (by first | assumption | decide) hc; cases e_)) | (have hd := decide_eq_true hc) | skip) | ((with_reducible replace h := bind_set_ h); obtain ⟨hl_, h⟩ := h; replace hl_ := A_ hl_; (try dsimp only at h)))))); (repeat' first | ((with_reducible replace h := ite_some h); rcases h with ⟨hc, h⟩ | ⟨hc, h⟩ <;> first | exact (none_some h).elim | exact absurd hc (by decide) | subst hc | (replace hc := hF_ hc; subst hc) | (replace hc := hG_ hc; subst hc) | (replace hc := hH_ hc; subst hc) | (have hd : (_ == _) = true := hc) | (have hd : (_ == _) = false := hF_ hc) | (have hd := hI_ hc; have he := hJ_ hc; clear hc) | (have hd := hK_ hc; have he := hL_ hc) | (have hd := decide_eq_false hc) | (have hd := decide_eq_true hc; (try (have hn := Int.natCast_pos.mp hc; have hm := decide_eq_true hn; replace hn := eq_true hn)); first | (obtain ⟨g_, e_, i_⟩ := form_ (by assumption) (by first | assumption | decide) hc; cases e_) | (obtain ⟨a_, e_, c_⟩ := atI_ (by assumption) (by first | assumption | decide) hc; cases e_)) | (have hd := decide_eq_true hc) | skip) | ((with_reducible replace h := bind_set_ h); obtain ⟨hl_, h⟩ := h; replace hl_ := A_ hl_; (try dsimp only at h))))
 all_goals obtain rfl := Option.some.inj h
 all_goals go_ret
 all_goals exact ⟨(by first | rfl | (simp_all; done)), From.out⟩
end Go.Proofs.YtanhnhkcpbdfmaaGreat.P
namespace Go.Proofs.YtanhnhkcpbdfmaaGreat.Q
open Go.RowKit Go.Proofs.YtanhnhkcpbdfmaaGreat.P Go.Proofs.YtanhnhkcpbdfmaaGreatW.PrintWords Go.Proofs.YtanhnhkcpbdfmaaGreatW.PrintMore
theorem isWarmth_eq (a : Int) : impl_isWarmth.f a = some (decide (-10 ≤ a ∧ a ≤ 40)) := by unfold impl_isWarmth.f; rw [within_eq]; rfl
theorem shopOk_impl (p : List S112) (d : Int) (q : List Int) (a m : Int) (l : List S104) (hl : l.length ≤ 1048577) : Ev (fun k => impl_ShopOk.f k p d q a m l) (shopOk p d q a m l) := Ev.now _
theorem shopOk_spec (p : List S112) (d : Int) (q : List Int) (a m : Int) (l : List S104) (hl : l.length ≤ 1048577) : Ev (fun k => spec_ShopOk.f k p d q a m l) (shopOk p d q a m l) := Ev.bind (workOk_spec p d q) (Ev.now _)
def shopWarm (p : List S112) (d : Int) (q : List Int) (a m : Int) (l : List S104) (x : Int) : List S112 × Int × List Int × Int × Int × List S104 × Bool :=
  if shopOk p d q a m l = true ∧ m ≠ 100000 ∧ (-10 ≤ x ∧ x ≤ 40) then (p, d, q, x, m + 1, l, true) else (p, d, q, a, m, l, false)
theorem lastOk_mono {l : List S104} {m n : Int} (h : lastOk l m) (hm : m ≤ n) : lastOk l n := by
  rcases h with h | h
  · exact .inl h
  · exact .inr (by omega)
theorem swarm_impl (p : List S112) (d : Int) (q : List Int) (a m : Int) (l : List S104) (x : Int) (hp : p.length ≤ 4000000) (hq : q.length ≤ 4000000) (hl : l.length ≤ 1048576) : Ev (fun k => impl_ShopWarm.f k p d q a m l x) (shopWarm p d q a m l x) := by
  unfold impl_ShopWarm.f shopWarm
  refine evb (copyShop_eq p d q a m l hp hq (by omega)) (Ev.bind (shopOk_impl p d q a m l (by omega)) ?_)
  by_cases h : shopOk p d q a m l = true
  rotate_left
  · exact rneg (fun h2 => h h2.1) <| evn h (evb (copyShop_eq p d q a m l hp hq (by omega)) (Ev.now _))
  obtain ⟨h1, h2, h3, h4, h5⟩ := shopOk_iff.1 h
  rw [w64 (n := m + 1) (by omega) (by omega)]
  refine evp h (Ev.bind (shopOk_impl p d q x (m + 1) l (by omega)) ?_)
  by_cases h6 : m ≠ 100000 ∧ (-10 ≤ x ∧ x ≤ 40)
  · exact rpos ⟨h, h6⟩ <| evp (shopOk_iff.2 ⟨h1, h2, h6.2, by omega, lastOk_mono h5 (by omega)⟩) (Ev.now _)
  · refine rneg (fun h7 => h6 h7.2) <| evn (fun h7 => ?_) (evb (copyShop_eq p d q a m l hp hq (by omega)) (Ev.now _))
    obtain ⟨g1, g2, g3, g4, g5⟩ := shopOk_iff.1 h7
    exact h6 ⟨by omega, g3⟩
theorem swarm_spec (p : List S112) (d : Int) (q : List Int) (a m : Int) (l : List S104) (x : Int) (hp : p.length ≤ 4000000) (hq : q.length ≤ 4000000) (hl : l.length ≤ 1048576) : Ev (fun k => spec_ShopWarm.f k p d q a m l x) (shopWarm p d q a m l x) := by
  unfold spec_ShopWarm.f shopWarm
  refine evb (l38Copy_eq p d q a m l hp hq (by omega)) (Ev.bind (shopOk_spec p d q a m l (by omega)) ?_)
  by_cases h : shopOk p d q a m l = true
  rotate_left
  · exact rneg (fun h2 => h h2.1) <| evn h (evb (l38Copy_eq p d q a m l hp hq (by omega)) (Ev.now _))
  obtain ⟨h1, h2, h3, h4, h5⟩ := shopOk_iff.1 h
  refine evp h ?_
  by_cases h8 : m = 100000
  · exact rneg (fun h7 => h7.2.1 h8) <| evp h8 (evb (l38Copy_eq p d q a m l hp hq (by omega)) (Ev.now _))
  refine evn h8 (Ev.bind (shopOk_spec p d q x m l (by omega)) ?_)
  by_cases h6 : -10 ≤ x ∧ x ≤ 40
  · rw [w64 (n := m + 1) (by omega) (by omega)]
    exact rpos ⟨h, h8, h6⟩ <| evp (shopOk_iff.2 ⟨h1, h2, h6, h4, h5⟩) (Ev.now _)
  · refine rneg (fun h7 => h6 h7.2.2) <| evn (fun h7 => ?_) (evb (l38Copy_eq p d q a m l hp hq (by omega)) (Ev.now _))
    exact h6 (shopOk_iff.1 h7).2.2.1
theorem shopWarm_len (p : List S112) (d : Int) (q : List Int) (a m : Int) (l : List S104) (x : Int) : (shopWarm p d q a m l x).1 = p ∧ (shopWarm p d q a m l x).2.2.1 = q ∧ (shopWarm p d q a m l x).2.2.2.2.2.1 = l := by
  unfold shopWarm; split <;> exact ⟨rfl, rfl, rfl⟩
def shopFault (p : List S112) (d : Int) (q : List Int) (a m : Int) (l : List S104) (r n f : Int) : List S112 × Int × List Int × Int × Int × List S104 × Bool :=
  if shopOk p d q a m l = true ∧ (addEntry l r n f m).2 = true then (p, d, q, a, m, (addEntry l r n f m).1, true) else (p, d, q, a, m, l, false)
theorem sfault_impl (p : List S112) (d : Int) (q : List Int) (a m : Int) (l : List S104) (r n f : Int) (hp : p.length ≤ 4000000) (hq : q.length ≤ 4000000) (hl : l.length ≤ 1048576) : Ev (fun k => impl_ShopFault.f k p d q a m l r n f) (shopFault p d q a m l r n f) := by
  unfold impl_ShopFault.f shopFault
  refine evb (copyShop_eq p d q a m l hp hq (by omega)) (Ev.bind (shopOk_impl p d q a m l (by omega)) ?_)
  by_cases h : shopOk p d q a m l = true
  rotate_left
  · exact rneg (fun h2 => h h2.1) <| evn h (Ev.now _)
  refine evp h (Ev.bind (add_impl l r n f m hl) ?_)
  by_cases h2 : (addEntry l r n f m).2 = true
  · exact rpos ⟨h, h2⟩ <| evp h2 (Ev.now _)
  · exact rneg (fun h3 => h2 h3.2) <| evn h2 (Ev.now _)
theorem sfault_spec (p : List S112) (d : Int) (q : List Int) (a m : Int) (l : List S104) (r n f : Int) (hp : p.length ≤ 4000000) (hq : q.length ≤ 4000000) (hl : l.length ≤ 1048576) : Ev (fun k => spec_ShopFault.f k p d q a m l r n f) (shopFault p d q a m l r n f) := by
  unfold spec_ShopFault.f shopFault
  refine evb (l38Copy_eq p d q a m l hp hq (by omega)) (Ev.bind (add_spec l r n f m hl) (Ev.bind (shopOk_spec p d q a m l (by omega)) ?_))
  by_cases h : shopOk p d q a m l = true
  rotate_left
  · exact rneg (fun h2 => h h2.1) <| evn h (Ev.now _)
  refine evp h ?_
  by_cases h2 : (addEntry l r n f m).2 = true
  · exact rpos ⟨h, h2⟩ <| evp h2 (Ev.now _)
  · exact rneg (fun h3 => h2 h3.2) <| evn h2 (Ev.now _)
theorem shopFault_len (p : List S112) (d : Int) (q : List Int) (a m : Int) (l : List S104) (r n f : Int) : (shopFault p d q a m l r n f).1 = p ∧ (shopFault p d q a m l r n f).2.2.1 = q ∧ (shopFault p d q a m l r n f).2.2.2.2.2.1.length ≤ l.length + 1 := by
  unfold shopFault; split
  · exact ⟨rfl, rfl, addEntry_len l r n f m⟩
  · exact ⟨rfl, rfl, Nat.le_succ _⟩
def shopKnock (p : List S112) (d : Int) (q : List Int) (a m : Int) (l : List S104) (c x : Int) : List S112 × Int × List Int × Int × Int × List S104 × Bool :=
  if shopOk p d q a m l = true then ((knockKey p d q c x).1, (knockKey p d q c x).2.1, (knockKey p d q c x).2.2.1, a, m, l, (knockKey p d q c x).2.2.2) else (p, d, q, a, m, l, false)
theorem sknock_impl (p : List S112) (d : Int) (q : List Int) (a m : Int) (l : List S104) (c x : Int) (hp : p.length ≤ 4000000) (hq : q.length ≤ 4000000) (hl : l.length ≤ 1048576) : Ev (fun k => impl_ShopKnock.f k p d q a m l c x) (shopKnock p d q a m l c x) := by
  unfold impl_ShopKnock.f shopKnock
  refine evb (copyShop_eq p d q a m l hp hq (by omega)) (Ev.bind (shopOk_impl p d q a m l (by omega)) ?_)
  by_cases h : shopOk p d q a m l = true
  · exact rpos h <| evp h (Ev.bind (knock_impl p d q c x hp hq) (Ev.now _))
  · exact rneg h <| evn h (Ev.now _)
theorem sknock_spec (p : List S112) (d : Int) (q : List Int) (a m : Int) (l : List S104) (c x : Int) (hp : p.length ≤ 4000000) (hq : q.length ≤ 4000000) (hl : l.length ≤ 1048576) : Ev (fun k => spec_ShopKnock.f k p d q a m l c x) (shopKnock p d q a m l c x) := by
  unfold spec_ShopKnock.f shopKnock
  refine evb (l38Copy_eq p d q a m l hp hq (by omega)) (Ev.bind (shopOk_spec p d q a m l (by omega)) ?_)
  by_cases h : shopOk p d q a m l = true
  · exact rpos h <| evp h (Ev.bind (knock_spec p d q c x hp hq) (Ev.now _))
  · exact rneg h <| evn h (Ev.now _)
theorem shopKnock_len (p : List S112) (d : Int) (q : List Int) (a m : Int) (l : List S104) (c x : Int) : (shopKnock p d q a m l c x).1 = p ∧ (shopKnock p d q a m l c x).2.2.1.length = q.length ∧ (shopKnock p d q a m l c x).2.2.2.2.2.1 = l := by
  unfold shopKnock; split
  · exact ⟨(knockKey_len p d q c x).1, (knockKey_len p d q c x).2, rfl⟩
  · exact ⟨rfl, rfl, rfl⟩
theorem mendStep_false (p : List S112) (d : Int) (q : List Int) (h : ¬ (mendStep p d q).2.2.2 = true) : mendStep p d q = (p, d, q, false) := by
  unfold mendStep at h ⊢
  split
  · rfl
  · split
    · rfl
    · rename_i h2 h3; rw [h2] at h; simp only [if_neg h3] at h; exact absurd trivial h
theorem workStep_false (p : List S112) (d : Int) (q : List Int) (h : ¬ (workStep p d q).2.2.2 = true) : workStep p d q = (p, d, q, false) := by
  unfold workStep at h ⊢
  split
  · rename_i h1
    rw [if_pos h1] at h
    split
    · rfl
    · rename_i h2
      rw [if_neg h2] at h
      split
      · rfl
      · rename_i h3; rw [if_neg h3] at h; exact absurd rfl h
  · rfl
def tuneStep (p : List S112) (d : Int) (q : List Int) : List S112 × Int × List Int × Bool := if (((wrongSteps p d q).length : Nat) : Int) > 0 then mendStep p d q else workStep p d q
def shopTune (p : List S112) (d : Int) (q : List Int) (a m : Int) (l : List S104) : List S112 × Int × List Int × Int × Int × List S104 × Bool :=
  if shopOk p d q a m l = true then ((tuneStep p d q).1, (tuneStep p d q).2.1, (tuneStep p d q).2.2.1, a, m, l, (tuneStep p d q).2.2.2) else (p, d, q, a, m, l, false)
theorem stune_impl (p : List S112) (d : Int) (q : List Int) (a m : Int) (l : List S104) (hp : p.length ≤ 4000000) (hq : q.length ≤ 4000000) (hl : l.length ≤ 1048576) : Ev (fun k => impl_ShopTune.f k p d q a m l) (shopTune p d q a m l) := by
  unfold impl_ShopTune.f shopTune tuneStep
  refine evb (copyShop_eq p d q a m l hp hq (by omega)) (Ev.bind (shopOk_impl p d q a m l (by omega)) ?_)
  by_cases h : shopOk p d q a m l = true
  rotate_left
  · exact rneg h <| evn h (Ev.now _)
  refine rpos h <| evp h (Ev.bind (step_impl p d q hp hq) (Ev.bind (wrong_impl p d q) ?_))
  by_cases h2 : (((wrongSteps p d q).length : Nat) : Int) > 0
  · simp only [if_pos h2]
    refine Ev.bind (mend_impl p d q hp hq) ?_
    by_cases h3 : (mendStep p d q).2.2.2 = true
    · exact evp h3 (evs (by rw [h3]))
    · exact evn h3 (evs (by rw [mendStep_false p d q h3]))
  · simp only [if_neg h2]
    by_cases h3 : (workStep p d q).2.2.2 = true
    · exact evp h3 (evs (by rw [h3]))
    · exact evn h3 (evs (by rw [workStep_false p d q h3]))
theorem stune_spec (p : List S112) (d : Int) (q : List Int) (a m : Int) (l : List S104) (hp : p.length ≤ 4000000) (hq : q.length ≤ 4000000) (hl : l.length ≤ 1048576) : Ev (fun k => spec_ShopTune.f k p d q a m l) (shopTune p d q a m l) := by
  unfold spec_ShopTune.f shopTune tuneStep
  refine evb (l38Copy_eq p d q a m l hp hq (by omega)) (Ev.bind (shopOk_spec p d q a m l (by omega)) ?_)
  by_cases h : shopOk p d q a m l = true
  rotate_left
  · exact rneg h <| evn h (Ev.now _)
  refine rpos h <| evp h (Ev.bind (wrong_spec p d q) ?_)
  by_cases h2 : (((wrongSteps p d q).length : Nat) : Int) > 0
  · simp only [if_pos h2]; exact Ev.bind (mend_spec p d q hp hq) (Ev.now _)
  · simp only [if_neg h2]; exact Ev.bind (step_spec p d q hp hq) (Ev.now _)
theorem shopTune_len (p : List S112) (d : Int) (q : List Int) (a m : Int) (l : List S104) : (shopTune p d q a m l).1 = p ∧ (shopTune p d q a m l).2.2.1.length = q.length ∧ (shopTune p d q a m l).2.2.2.2.2.1 = l := by
  unfold shopTune tuneStep; split
  · split
    · exact ⟨(mendStep_len p d q).1, (mendStep_len p d q).2.2, rfl⟩
    · exact ⟨(workStep_len p d q).1, (workStep_len p d q).2, rfl⟩
  · exact ⟨rfl, rfl, rfl⟩
def stepsLeft (p : List S112) (d : Int) (q : List Int) (a m : Int) (l : List S104) : Int :=
  if shopOk p d q a m l = true then wrap64 ((wrap64 ((p.length : Int) - d)) + ((wrongSteps p d q).length : Int)) else 0
theorem left_impl (p : List S112) (d : Int) (q : List Int) (a m : Int) (l : List S104) (hl : l.length ≤ 1048577) : Ev (fun k => impl_StepsLeft.f k p d q a m l) (stepsLeft p d q a m l) := by
  unfold impl_StepsLeft.f stepsLeft
  refine Ev.bind (shopOk_impl p d q a m l hl) ?_
  by_cases h : shopOk p d q a m l = true
  · exact rpos h <| evp h (Ev.bind (wrong_impl p d q) (Ev.now _))
  · exact rneg h <| evn h (Ev.now _)
theorem left_spec (p : List S112) (d : Int) (q : List Int) (a m : Int) (l : List S104) (hl : l.length ≤ 1048577) : Ev (fun k => spec_StepsLeft.f k p d q a m l) (stepsLeft p d q a m l) := by
  unfold spec_StepsLeft.f stepsLeft
  refine Ev.bind (shopOk_spec p d q a m l hl) ?_
  by_cases h : shopOk p d q a m l = true
  · exact rpos h <| evp h (Ev.bind (wrong_spec p d q) (Ev.now _))
  · exact rneg h <| evn h (Ev.now _)
def warmPitch (p t : Int) : Int := if fine p = true then (if -10 ≤ t ∧ t ≤ 40 then wrap64 (Int.tdiv (wrap64 (p * (wrap64 (1000 + (wrap64 (2 * (wrap64 (t - 15)))))))) 1000) else 0) else 0
theorem warm_impl (p t : Int) : impl_WarmPitch.f p t = some (warmPitch p t) := by
  unfold impl_WarmPitch.f warmPitch
  rw [isFine_eq, isWarmth_eq]
  cases fine p <;> by_cases h : -10 ≤ t ∧ t ≤ 40 <;> simp [h]
theorem warm_spec (p t : Int) : spec_WarmPitch.f p t = some (warmPitch p t) := by
  unfold spec_WarmPitch.f warmPitch
  rw [pitch_eq, l01In_eq]
  cases fine p <;> by_cases h : -10 ≤ t ∧ t ≤ 40 <;> simp [h]
theorem warm_zero (t : Int) : warmPitch 0 t = 0 := by
  have : fine 0 = false := by decide
  unfold warmPitch
  rw [this]
  rfl
def heardAt (p : List S112) (d : Int) (q : List Int) (a m : Int) (l : List S104) (c : Int) : Int :=
  if shopOk p d q a m l = true then (if 0 ≤ c ∧ c ≤ 11 then (if faultOf l ⟨0, c⟩ = 1 then 0 else warmPitch (rd q c) a) else 0) else 0
theorem heard_spec (p : List S112) (d : Int) (q : List Int) (a m : Int) (l : List S104) (c : Int) (hl : l.length ≤ 1048577) : Ev (fun k => spec_HeardAt.f k p d q a m l c) (heardAt p d q a m l c) := by
  unfold spec_HeardAt.f
  refine Ev.bind (shopOk_spec p d q a m l hl) ?_
  by_cases h0 : shopOk p d q a m l = true
  rotate_left
  · exact evn h0 (evs (by simp [heardAt, h0]))
  refine evp h0 (evb (l01In_eq _ _ _) ?_)
  obtain ⟨hw, hlo, _⟩ := shopOk_iff.mp h0
  have hq : q.length = 12 := by
    unfold workOk at hw
    simp only [Bool.and_eq_true, decide_eq_true_eq] at hw
    exact hw.2.2.1
  by_cases hc : 0 ≤ c ∧ c ≤ 11
  rotate_left
  · exact evn (by simpa using hc) (evs (by simp [heardAt, hc]))
  have F := fault_spec l 0 c hl
  rw [if_pos hlo] at F
  refine evp (by simpa using hc) (Ev.bind F ?_)
  by_cases hf : faultOf l ⟨0, c⟩ = 1
  · exact evp hf (evs (by simp [heardAt, hf]))
  exact evn hf (evp hc.1 (evp (by omega) (evb (warm_spec _ _) (evs (by simp [heardAt, h0, hc, hf])))))
theorem heard_impl (p : List S112) (d : Int) (q : List Int) (a m : Int) (l : List S104) (c : Int) (hl : l.length ≤ 1048577) : Ev (fun k => impl_HeardAt.f k p d q a m l c) (heardAt p d q a m l c) := by
  unfold impl_HeardAt.f
  refine Ev.bind (shopOk_impl p d q a m l hl) ?_
  by_cases h0 : shopOk p d q a m l = true
  rotate_left
  · exact evn h0 (evs (by simp [heardAt, h0]))
  refine evp h0 (evb (within_eq _ _ _) ?_)
  obtain ⟨hw, hlo, _⟩ := shopOk_iff.mp h0
  have hq : q.length = 12 := by
    unfold workOk at hw
    simp only [Bool.and_eq_true, decide_eq_true_eq] at hw
    exact hw.2.2.1
  by_cases hc : 0 ≤ c ∧ c ≤ 11
  rotate_left
  · exact evn (by simpa using hc) (evs (by simp [heardAt, hc]))
  refine evp (by simpa using hc) (evp hc.1 (evp (by omega) ?_))
  by_cases hz : rd q c = 0
  · exact evp hz (evs (by simp [heardAt, hz, warm_zero]))
  refine evn hz ?_
  have F : impl_FaultOf.f l 0 c = some (faultOf l ⟨0, c⟩) := by
    unfold impl_FaultOf.f
    rw [if_pos ⟨wf64_of (by omega) (by omega), wf64_of (by omega) (by omega), hl⟩, if_pos hlo]
  refine evb F ?_
  by_cases hf : faultOf l ⟨0, c⟩ = 1
  · exact evp hf (evs (by simp [heardAt, hf]))
  exact evn hf (evb (warm_impl _ _) (evs (by simp [heardAt, h0, hc, hf])))
end Go.Proofs.YtanhnhkcpbdfmaaGreat.Q
namespace Go.Proofs.YtanhnhkcpbdfmaaGreat.S
open Go.RowKit Go.Sort Go.Proofs.YtanhnhkcpbdfmaaGreat.P Go.Proofs.YtanhnhkcpbdfmaaGreat.Q Go.Proofs.YtanhnhkcpbdfmaaGreat.V Go.Proofs.YtanhnhkcpbdfmaaGreatW.PrintWords
attribute [local go_sem] cell_b frozen_b
abbrev E := S104
instance : Inhabited E := ⟨z104⟩
def enc4 (x : E) : List Value := [.int .i64 x.f0.f0, .int .i64 x.f0.f1, .int .i64 x.f1, .int .i64 x.f2]
abbrev val4 (x : E) : Value := .agg #[.int .i64 x.f0.f0, .int .i64 x.f0.f1, .int .i64 x.f1, .int .i64 x.f2]
class Cel (W : World) (a : Addr) (v : outParam Value) : Prop where out : W.cell? a = some v
section
variable {w w0 W : World} {a : Addr} {v : Value} {o : Obj} {n : Nat}
theorem cel_lt (h : Cel W a v) : a.block < W.heap.size := World.block_lt_of_cell? W a h.out
instance [h : Cel W a v] : Cel (W.alloc o) a v := ⟨((below_alloc (RowKit.Below.refl W.heap.size W) o).cell (cel_lt h)).trans h.out⟩
instance [h : Cel W a v] : Cel W.drew a v := ⟨h.out⟩
instance [h : Cel W a v] : Cel (W.drewN n) a v := ⟨h.out⟩
instance [b : Bel w W] [h : Cel w a v] : Cel W a v := ⟨(b.out.cell (cel_lt h)).trans h.out⟩
instance [b : Sin w0 W] [h : Cel w0 a v] : Cel W a v := ⟨(b.out.cell (cel_lt h)).trans h.out⟩
theorem cell_c (W : World) (a : Addr) {v : Value} [h : Cel W a v] : W.cell? a = some v := h.out
end
def Ftd (x : E) : Prop := x.f1 = 1 ∨ x.f1 = 2
theorem bne_t {a b : Int} (h : a ≠ b) : (a != b) = true := bne_iff_ne.mpr h
theorem bne_f {a b : Int} (h : a = b) : (a != b) = false := bne_eq_false_iff_eq.mpr h
set_option maxHeartbeats 8000000 in
set_option maxRecDepth 100000 in
set_option synthInstance.maxHeartbeats 400000 in
set_option synthInstance.maxSize 100000 in
theorem sooner_calls (a b : E) (w : World) (ha : Ftd a) (hb : Ftd b) :
    Calls Tryz.prog 143 #[val4 a, val4 b] w fun e w' => e = .returned (.bool (beforeE a b)) ∧ Below w.heap.size w w' := by
  obtain ⟨⟨a0, a1⟩, a2, a3⟩ := a
  obtain ⟨⟨b0, b1⟩, b2, b3⟩ := b
  obtain ⟨r, hr⟩ : ∃ r, beforeE ⟨⟨a0, a1⟩, a2, a3⟩ ⟨⟨b0, b1⟩, b2, b3⟩ = r := ⟨_, rfl⟩
  rw [hr]
  unfold Ftd at ha hb
  simp only at ha hb
  unfold beforeE at hr
  simp only at hr
  have hu := Tryz.underlying104
  have hu2 := Tryz.underlying74
  have done_ : ∀ {p q s : Prop} [Decidable p] [Decidable q] [Decidable s], True := fun {_ _ _} _ _ _ => trivial
  clear done_
  by_cases h1 : a2 = b2
  · rw [if_pos h1] at hr
    have h1 := bne_f h1
    by_cases h2 : a3 = b3
    · rw [if_pos h2] at hr
      have h2 := bne_f h2
      by_cases h3 : a0 = b0
      · rw [if_pos h3] at hr
        have h3 := bne_f h3
        clear ha hb
        go_enter Tryz.func143, Tryz.ntmps143
        go_wp2
        go_ret
        exact ⟨rfl, From.out⟩
      · rw [if_neg h3] at hr
        have h3 := bne_t h3
        clear ha hb
        go_enter Tryz.func143, Tryz.ntmps143
        go_wp2
        go_ret
        exact ⟨rfl, From.out⟩
    · rw [if_neg h2] at hr
      have h2 := bne_t h2
      clear ha hb
      go_enter Tryz.func143, Tryz.ntmps143
      go_wp2
      go_ret
      exact ⟨rfl, From.out⟩
  · rw [if_neg h1] at hr
    have h4 : (a2 == 2) = r := by rw [← hr, Bool.eq_iff_iff, beq_iff_eq, decide_eq_true_eq]; omega
    have h1 := bne_t h1
    clear ha hb hr
    go_enter Tryz.func143, Tryz.ntmps143
    go_wp2
    go_ret
    exact ⟨rfl, From.out⟩
structure SoC where
  g : Nat
  bs : Nat
  n : Nat
  c : Nat
  lb : Array Value
  sb : Array Value
class SoG (C : outParam SoC) : Prop where
  swap : SwapSwapsK Tryz.prog 159 C.sb enc4 4 C.g 0 C.n
  small : C.n < 50
  lb : C.lb = #[.pointer (some ⟨C.bs, 0, none⟩)]
  ne : C.bs ≠ C.g
structure SoAt (C : SoC) (W : World) (D : Array E) : Prop where
  hold : HoldsK enc4 4 W C.g 0 D
  size : D.size = C.n
  box : W.heap[C.bs]? = some (.cells #[.slice (some ⟨C.g, 0, none⟩) C.n C.c] 35 (0, 0))
  lt : C.g < W.heap.size
  shape : ∃ cur : Array Value, W.heap[C.g]? = some (.cells cur 104 (0, 0)) ∧ cur.size = C.c * 4
  ftd : ∀ x ∈ D, Ftd x
class So (C : outParam SoC) (W : World) (D : outParam (Array E)) : Prop where out : SoAt C W D
theorem SoAt.at_ {C : SoC} {W : World} {D : Array E} (h : SoAt C W D) (i : Nat) (hi : i < C.n) :
    W.cell? ⟨C.g, i * 4, none⟩ = some (.int .i64 D[i]!.f0.f0) ∧ W.cell? ⟨C.g, i * 4 + 1, none⟩ = some (.int .i64 D[i]!.f0.f1) ∧ W.cell? ⟨C.g, i * 4 + 2, none⟩ = some (.int .i64 D[i]!.f1) ∧ W.cell? ⟨C.g, i * 4 + 3, none⟩ = some (.int .i64 D[i]!.f2) := by
  have hi' : i < D.size := by rw [h.size]; exact hi
  have c0 := (h.hold.cell (i := i) (c := 0) hi' (by omega)).1
  have c1 := (h.hold.cell (i := i) (c := 1) hi' (by omega)).1
  have c2 := (h.hold.cell (i := i) (c := 2) hi' (by omega)).1
  have c3 := (h.hold.cell (i := i) (c := 3) hi' (by omega)).1
  simp only [Nat.zero_add, Nat.add_zero] at c0 c1 c2 c3
  exact ⟨c0, c1, c2, c3⟩
theorem SoAt.ftd' {C : SoC} {W : World} {D : Array E} (h : SoAt C W D) (i : Nat) (hi : i < C.n) : Ftd D[i]! := by
  have hi' : i < D.size := by rw [h.size]; exact hi
  rw [getElem!_pos D i hi']
  exact h.ftd _ (Array.getElem_mem hi')
attribute [local go_sem] cell_c
set_option maxHeartbeats 8000000 in
set_option maxRecDepth 100000 in
set_option synthInstance.maxHeartbeats 400000 in
set_option synthInstance.maxSize 100000 in
theorem less_calls (C : SoC) (w : World) (D : Array E) (h : SoAt C w D) (hlb : C.lb = #[.pointer (some ⟨C.bs, 0, none⟩)]) (hn : C.n < 50) (i j : Nat) (hi : i < C.n) (hj : j < C.n) :
    Calls Tryz.prog 142 (#[.int .i64 i, .int .i64 j] ++ C.lb) w fun e w' => e = .returned (.bool (beforeE D[i]! D[j]!)) ∧ Below w.heap.size w w' := by
  obtain ⟨i0, i1, i2, i3⟩ := h.at_ i hi
  obtain ⟨j0, j1, j2, j3⟩ := h.at_ j hj
  have fi := h.ftd' i hi
  have fj := h.ftd' j hj
  generalize D[i]! = x at *
  generalize D[j]! = y at *
  have hbx := h.box
  rw [hlb]
  obtain ⟨g, bs, n, c, lb, sb⟩ := C
  simp only at *
  have jB : Blk w bs #[.slice (some ⟨g, 0, none⟩) n c] 35 := ⟨hbx⟩
  have hs := fun W => sooner_calls x y W fi fj
  have HS := Aside0.mk hs
  have k0 := Cel.mk i0
  have k1 := Cel.mk i1
  have k2 := Cel.mk i2
  have k3 := Cel.mk i3
  have k4 := Cel.mk j0
  have k5 := Cel.mk j1
  have k6 := Cel.mk j2
  have k7 := Cel.mk j3
  clear i0 i1 i2 i3 j0 j1 j2 j3
  have hi1 : (0 : Int) ≤ (i : Int) := by omega
  have hi2 : (i : Int) < (n : Int) := by omega
  have hj1 : (0 : Int) ≤ (j : Int) := by omega
  have hj2 : (j : Int) < (n : Int) := by omega
  clear h hlb hbx hs fi fj hn hi hj
  have hu := Tryz.underlying104
  go_enter Tryz.func142, Tryz.ntmps142
  go_wp2
  refine region_at ?_
  intro w3 jw
  go_region_held3 (fun w' => Sin w3 w') (first | exact ⟨From.out⟩ | skip) (first | (go_at_call 143; refine (HS.out _).mono ?_; rintro e w2 ⟨rfl, hb⟩; have jb := Bel.mk hb; clear hb))
  all_goals go_wp2
  all_goals go_ret
  all_goals exact ⟨rfl, From.out⟩
end Go.Proofs.YtanhnhkcpbdfmaaGreat.S
namespace Go.Proofs.YtanhnhkcpbdfmaaGreat.S
open Go.RowKit Go.Sort Go.Proofs.YtanhnhkcpbdfmaaGreat.P Go.Proofs.YtanhnhkcpbdfmaaGreat.Q Go.Proofs.YtanhnhkcpbdfmaaGreat.V Go.Proofs.YtanhnhkcpbdfmaaGreatW.PrintWords
class Ix (i : Int) (n : Nat) : Prop where
  lo : 0 ≤ i
  hi : i < (n : Int)
theorem enc4_len (x : E) : (enc4 x).length = 4 := rfl
def swapW (C : SoC) (D : Array E) (W : World) (i j : Int) : World := (W.setCells C.g (0 + i.toNat * 4) (enc4 D[j.toNat]!)).setCells C.g (0 + j.toNat * 4) (enc4 D[i.toNat]!)
theorem swapW_eq {C : SoC} {W : World} {D : Array E} (h : SoAt C W D) (i j : Int) (hi : i.toNat < C.n) (hj : j.toNat < C.n) : swapW C D W i j = putRowK enc4 4 W C.g 0 (swp D i.toNat j.toNat) := by
  have := swap_worldK enc4 4 enc4_len W 0 0 C.g 0 D i.toNat j.toNat (by rw [h.size]; exact hi) (by rw [h.size]; exact hj)
  rw [show ((putRowK enc4 4 (Sort.ahead W 0) C.g 0 D).drewN 0) = W by
    rw [show ∀ X : World, X.drewN 0 = X from fun _ => rfl]
    exact putRowK_self enc4 4 W C.g 0 D h.hold] at this
  exact this
theorem mem_swp {D : Array E} {i j : Nat} {x : E} (h : x ∈ swp D i j) (hi : i < D.size) (hj : j < D.size) : x ∈ D := by
  obtain ⟨k, hk, rfl⟩ := Array.mem_iff_getElem.mp h
  have hk' : k < D.size := by simpa [size_swp] using hk
  rw [← getElem!_pos (swp D i j) k hk]
  by_cases e1 : k = j
  · subst e1; rw [swp_right D i k hk', getElem!_pos D i hi]; exact Array.getElem_mem hi
  · by_cases e2 : k = i
    · subst e2; rw [swp_left D k j hk' e1, getElem!_pos D j hj]; exact Array.getElem_mem hj
    · rw [swp_other D i j k e2 e1, getElem!_pos D k hk']; exact Array.getElem_mem hk'
theorem put_shape {W : World} {g : Nat} {D : Array E} {c : Nat} (h : ∃ cur : Array Value, W.heap[g]? = some (.cells cur 104 (0, 0)) ∧ cur.size = c) : ∃ cur : Array Value, (putRowK enc4 4 W g 0 D).heap[g]? = some (.cells cur 104 (0, 0)) ∧ cur.size = c := by
  obtain ⟨cur, hc, hs⟩ := h
  refine ⟨putCells id 0 (flatK enc4 4 D) cur, ?_, by simpa [putCells] using hs⟩
  unfold putRowK putRow
  rw [onCells_block, if_pos rfl, hc]
  rfl
class Fr (C : outParam SoC) (w0 W : World) : Prop where out : w0.grownBy W (some C.g)
section
variable {C : SoC} {w w0 W : World} {D : Array E} {o : Obj} {n x i : Nat} {v : Value} {cs : Array Value} {t : TypeId}
theorem SoAt.move (h : SoAt C w D) (hs : w.heap.size ≤ W.heap.size) (h1 : W.heap[C.g]? = w.heap[C.g]?) (h2 : W.heap[C.bs]? = w.heap[C.bs]?) : SoAt C W D :=
  ⟨fun j hj => by
    obtain ⟨a, b⟩ := h.hold j hj
    exact ⟨(World.cell?_of_block (a := ⟨C.g, 0 + j, none⟩) h1).trans a, (World.frozen?_of_block (a := ⟨C.g, 0 + j, none⟩) h1).trans b⟩, h.size, h2.trans h.box, Nat.lt_of_lt_of_le h.lt hs, by rw [h1]; exact h.shape, h.ftd⟩
theorem SoAt.bs_lt (h : SoAt C W D) : C.bs < W.heap.size := blk_lt h.box
theorem SoAt.below (h : SoAt C w D) (hb : RowKit.Below w.heap.size w W) : SoAt C W D := h.move hb.size (hb.block _ h.lt) (hb.block _ h.bs_lt)
instance [h : So C W D] : So C (W.alloc o) D := ⟨h.out.below (below_alloc (RowKit.Below.refl _ _) o)⟩
instance [h : So C W D] : So C W.drew D := ⟨h.out.below (below_drew1 (RowKit.Below.refl _ _))⟩
instance [h : So C W D] : So C (W.drewN n) D := ⟨h.out.below (pw_below_drewN (RowKit.Below.refl _ _) n)⟩
instance [b : Bel w W] [h : So C w D] : So C W D := ⟨h.out.below b.out⟩
instance [h : So C W D] [k : Born W x] : NeB x C.g := ⟨by rw [k.out]; exact Nat.ne_of_gt h.out.lt⟩
instance [h : So C W D] [k : Born W x] : NeB x C.bs := ⟨by rw [k.out]; exact Nat.ne_of_gt h.out.bs_lt⟩
instance [h : So C W D] [k : NeB x C.g] [l : NeB x C.bs] : So C (W.setCell ⟨x, i, none⟩ v) D :=
  ⟨h.out.move (by simp) (Below.heap_setCell W ⟨x, i, none⟩ v _ (Ne.symm k.out)) (Below.heap_setCell W ⟨x, i, none⟩ v _ (Ne.symm l.out))⟩
theorem swap_heap (h : SoAt C W D) (i j : Int) (hi : i.toNat < C.n) (hj : j.toNat < C.n) : W.grownBy (swapW C D W i j) (some C.g) := by
  rw [swapW_eq h i j hi hj]
  refine ⟨rfl, rfl, rfl, by simp [putRowK], fun k hk hne => ?_⟩
  unfold putRowK putRow
  rw [onCells_block, if_neg (fun hh => hne (by rw [hh]))]
theorem ix_nat {i : Int} {n : Nat} (h : Ix i n) : i.toNat < n := by have := h.lo; have := h.hi; omega
theorem so_swap [g : SoG C] (h : SoAt C W D) (i j : Int) (hi : i.toNat < C.n) (hj : j.toNat < C.n) : SoAt C (swapW C D W i j) (swp D i.toNat j.toNat) := by
  have hg := swap_heap h i j hi hj
  refine ⟨?_, by rw [size_swp]; exact h.size, (hg.block _ h.bs_lt (fun e => g.ne (Option.some.inj e))).trans h.box, Nat.lt_of_lt_of_le h.lt hg.size, by rw [swapW_eq h i j hi hj]; exact put_shape h.shape, fun x hx => h.ftd x (mem_swp hx (by rw [h.size]; exact hi) (by rw [h.size]; exact hj))⟩
  rw [swapW_eq h i j hi hj]
  exact holdsK_putRowK enc4 4 W C.g 0 D _ h.hold (size_swp _ _ _)
instance {i j : Int} [g : SoG C] [h : So C W D] [a : Ix i C.n] [b : Ix j C.n] : So C (swapW C D W i j) (swp D i.toNat j.toNat) := ⟨so_swap h.out i j (ix_nat a) (ix_nat b)⟩
instance {i j : Int} [h : So C W D] [k : Blk W x cs t] [l : NeB x C.g] [a : Ix i C.n] [b : Ix j C.n] : Blk (swapW C D W i j) x cs t := ⟨((swap_heap h.out i j (ix_nat a) (ix_nat b)).block x (blk_lt k.out) (fun e => l.out (Option.some.inj e))).trans k.out⟩
theorem swap_run (W : World) (i j : Int) [g : SoG C] [h : So C W D] [a : Ix i C.n] [b : Ix j C.n] : (callFunc 159 (#[.int .i64 i, .int .i64 j] ++ C.sb)).run Tryz.prog W = .ok (.value (.tuple #[])) (swapW C D W i j) := by
  have := g.swap W D h.out.hold h.out.size i.toNat j.toNat (ix_nat a) (ix_nat b)
  rw [show ((i.toNat : Nat) : Int) = i from Int.toNat_of_nonneg a.lo, show ((j.toNat : Nat) : Int) = j from Int.toNat_of_nonneg b.lo] at this
  exact this
theorem less_at [g : SoG C] [h : So C W D] (i j : Int) [a : Ix i C.n] [b : Ix j C.n] :
    Calls Tryz.prog 142 (#[.int .i64 i, .int .i64 j] ++ C.lb) W fun e w' => e = .returned (.bool (beforeE D[i.toNat]! D[j.toNat]!)) ∧ RowKit.Below W.heap.size W w' := by
  have := less_calls C W D h.out g.lb g.small i.toNat j.toNat (ix_nat a) (ix_nat b)
  rw [show ((i.toNat : Nat) : Int) = i from Int.toNat_of_nonneg a.lo, show ((j.toNat : Nat) : Int) = j from Int.toNat_of_nonneg b.lo] at this
  exact this
class Les (D : Array E) (i j : Int) (b : outParam Bool) : Prop where out : beforeE D[i.toNat]! D[j.toNat]! = b
theorem Les.of {D : Array E} {i j : Int} {b : Bool} {i' j' : Nat} (h : beforeE D[i']! D[j']! = b) (hi : i = i') (hj : j = j') : Les D i j b := ⟨by rw [hi, hj, Int.toNat_natCast, Int.toNat_natCast]; exact h⟩
theorem less_is {b : Bool} [g : SoG C] [h : So C W D] (i j : Int) [a : Ix i C.n] [k : Ix j C.n] [l : Les D i j b] :
    Calls Tryz.prog 142 (#[.int .i64 i, .int .i64 j] ++ C.lb) W fun e w' => e = .returned (.bool b) ∧ RowKit.Below W.heap.size W w' :=
  (less_at i j).mono fun e w' h => ⟨by rw [h.1, l.out], h.2⟩
theorem grownBy_trans {w0 w W : World} {r : Option Nat} (h : w0.grownBy w r) (k : w.grownBy W r) : w0.grownBy W r :=
  ⟨k.os.trans h.os, k.tape.trans h.tape, k.output.trans h.output, Nat.le_trans h.size k.size, fun j hj hne => (k.block j (Nat.lt_of_lt_of_le hj h.size) hne).trans (h.block j hj hne)⟩
theorem grownBy_below {w W : World} {r : Option Nat} (h : RowKit.Below w.heap.size w W) : w.grownBy W r := ⟨h.os, h.tape, h.output, h.size, fun j hj _ => h.block j hj⟩
instance [h : So C w D] : Fr C w w := ⟨grownBy_below (RowKit.Below.refl _ _)⟩
instance [h : Fr C w W] : Fr C w (W.alloc o) := ⟨grownBy_trans h.out (grownBy_below (below_alloc (RowKit.Below.refl _ _) o))⟩
instance [h : Fr C w W] : Fr C w W.drew := ⟨grownBy_trans h.out (grownBy_below (below_drew1 (RowKit.Below.refl _ _)))⟩
instance [h : Fr C w W] : Fr C w (W.drewN n) := ⟨grownBy_trans h.out (grownBy_below (pw_below_drewN (RowKit.Below.refl _ _) n))⟩
instance [b : Bel w W] [h : Fr C w0 w] : Fr C w0 W := ⟨grownBy_trans h.out (grownBy_below b.out)⟩
instance {i j : Int} [h : Fr C w0 W] [k : So C W D] [a : Ix i C.n] [b : Ix j C.n] : Fr C w0 (swapW C D W i j) := ⟨grownBy_trans h.out (swap_heap k.out i j (ix_nat a) (ix_nat b))⟩
class Gb (C : outParam SoC) (w : outParam World) (W : World) : Prop where out : w.grownBy W (some C.g)
instance [b : Gb C w W] [h : Fr C w0 w] : Fr C w0 W := ⟨grownBy_trans h.out b.out⟩
instance [b : Gb C w W] [h : Blk w x cs t] [l : NeB x C.g] : Blk W x cs t := ⟨(b.out.block x (blk_lt h.out) (fun e => l.out (Option.some.inj e))).trans h.out⟩
end
end Go.Proofs.YtanhnhkcpbdfmaaGreat.S
namespace Go.Proofs.YtanhnhkcpbdfmaaGreat.S
open Go.RowKit Go.Sort Go.Proofs.YtanhnhkcpbdfmaaGreat.P Go.Proofs.YtanhnhkcpbdfmaaGreat.Q Go.Proofs.YtanhnhkcpbdfmaaGreat.V Go.Proofs.YtanhnhkcpbdfmaaGreatW.PrintWords
attribute [local go_sem] cell_b frozen_b swap_run
abbrev datV (C : SoC) : Value := .agg #[.func (.func 142) #[] C.lb, .func (.func 159) #[] C.sb]
set_option maxHeartbeats 8000000 in
set_option maxRecDepth 100000 in
set_option synthInstance.maxHeartbeats 400000 in
set_option synthInstance.maxSize 100000 in
theorem insertion_calls (C : SoC) [SoG C] (w : World) (D : Array E) (h : SoAt C w D) (a b : Nat) (hab : a ≤ b) (hb : b ≤ C.n) :
    Calls Tryz.prog 162 #[datV C, .int .i64 a, .int .i64 b] w fun e w' => e = .returned (.tuple #[]) ∧ SoAt C w' (insertionSort beforeE D a b) ∧ w.grownBy w' (some C.g) := by
  have j0 := So.mk h
  have hsm := SoG.small (C := C)
  have jx : NeB w.heap.size C.g := ⟨Nat.ne_of_gt h.lt⟩
  clear h
  have hu := Tryz.underlying162
  go_enter Tryz.func162, Tryz.ntmps162
  go_wp2
  go_loopw [6] (fun vi wr => ∃ (i : Nat) (dk : Array E), vi = .int .i64 i ∧ Aside0 (a < i) ∧ Aside0 (i ≤ b + 1) ∧ So C wr dk ∧ Fr C w wr ∧ Blk wr w.heap.size #[.func (.func 142) #[] C.lb, .func (.func 159) #[] C.sb] 162 ∧ Aside0 (insOuter beforeE a b i dk = insOuter beforeE a b (a + 1) D)) (fun vi _ => b + 1 - (intOf vi).toNat)
  case atStart => exact ⟨a + 1, D, by go_num, ⟨by omega⟩, ⟨by omega⟩, inferInstance, inferInstance, ⟨blk_new w _⟩, ⟨rfl⟩⟩
  case round =>
    clear j0
    obtain ⟨i, dk, rfl, HA, HI, j1, j2, j3, HO⟩ := hrel
    by_cases hib : i < b
    · have hib1 : decide ((i : Int) < (b : Int)) = true := decide_eq_true (by omega)
      go_wp2
      go_loopw [7] (fun vj wr2 => ∃ (j : Nat) (dj : Array E), vj = .int .i64 j ∧ Aside0 (a ≤ j) ∧ Aside0 (j ≤ i) ∧ So C wr2 dj ∧ Fr C w wr2 ∧ Blk wr2 w.heap.size #[.func (.func 142) #[] C.lb, .func (.func 159) #[] C.sb] 162 ∧ Aside0 (insInner beforeE a j dj = insInner beforeE a i dk)) (fun vj _ => (intOf vj).toNat)
      case atStart => exact ⟨i, dk, rfl, ⟨by have := HA.out; omega⟩, ⟨Nat.le_refl _⟩, j1, j2, j3, ⟨rfl⟩⟩
      case round =>
        clear j1 j2 j3
        obtain ⟨j, dj, rfl, HAJ, HJI, j1, j2, j3, HN⟩ := hrel
        have hjb := HJI.out
        have haj := HAJ.out
        by_cases hja : a < j
        · have hja1 : decide ((a : Int) < (j : Int)) = true := decide_eq_true (by omega)
          have x1 : Ix (j : Int) C.n := ⟨by omega, by omega⟩
          have x2 : Ix ((j : Int) - 1) C.n := ⟨by omega, by omega⟩
          have e1 : ((j : Int) - 1).toNat = j - 1 := by omega
          cases hl : beforeE dj[j]! dj[j - 1]! with
          | true =>
            go_wp2_with (first | (go_at_call 142; refine (less_at _ _).mono ?_; rintro e w2 ⟨he, hb⟩; rw [Int.toNat_natCast, e1, hl] at he; subst he; have jb := Bel.mk hb; clear hb))
            refine ⟨⟨j - 1, swp dj j (j - 1), by congr 1; omega, ⟨by omega⟩, ⟨by omega⟩, ?_, inferInstance, inferInstance, ⟨?_⟩⟩, by simp [intOf]; omega⟩
            · have k : So C (swapW C dj w2 (j : Int) ((j : Int) - 1)) (swp dj (j : Int).toNat ((j : Int) - 1).toNat) := inferInstance
              rw [Int.toNat_natCast, e1] at k
              exact k
            · rw [← HN.out, insInner_go beforeE a j dj hja hl]
          | false =>
            go_wp2_with (first | (go_at_call 142; refine (less_at _ _).mono ?_; rintro e w2 ⟨he, hb⟩; rw [Int.toNat_natCast, e1, hl] at he; subst he; have jb := Bel.mk hb; clear hb))
            refine ⟨⟨i + 1, dj, by go_num, ⟨by have := HA.out; omega⟩, ⟨by omega⟩, inferInstance, inferInstance, inferInstance, ⟨?_⟩⟩, by simp [intOf]; omega⟩
            rw [← HO.out, insOuter_go beforeE a b i dk hib, ← HN.out, insInner_stop beforeE a j dj (.inr hl)]
        · have hja1 : decide ((a : Int) < (j : Int)) = false := decide_eq_false (by omega)
          go_wp2
          refine ⟨⟨i + 1, dj, by go_num, ⟨by have := HA.out; omega⟩, ⟨by omega⟩, inferInstance, inferInstance, inferInstance, ⟨?_⟩⟩, by simp [intOf]; omega⟩
          rw [← HO.out, insOuter_go beforeE a b i dk hib, ← HN.out, insInner_stop beforeE a j dj (.inl (by omega))]
    · have hib1 : decide ((i : Int) < (b : Int)) = false := decide_eq_false (by omega)
      go_wp2
      go_end0
      refine ⟨rfl, ?_, Fr.out⟩
      have := HO.out
      rw [insOuter_stop beforeE a b i dk hib] at this
      unfold insertionSort
      rw [← this]
      exact So.out
abbrev datC (C : SoC) : Array Value := #[.func (.func 142) #[] C.lb, .func (.func 159) #[] C.sb]
theorem so_cast {C : SoC} {W : World} {D D' : Array E} (h : So C W D) (e : D = D') : SoAt C W D' := e ▸ h.out
set_option maxHeartbeats 8000000 in
set_option maxRecDepth 100000 in
set_option synthInstance.maxHeartbeats 400000 in
set_option synthInstance.maxSize 100000 in
theorem siftDown_calls (C : SoC) [SoG C] (w : World) (D : Array E) (h : SoAt C w D) (lo hi first : Nat) (hf : first + hi ≤ C.n) (hlo : lo ≤ C.n) :
    Calls Tryz.prog 170 #[datV C, .int .i64 lo, .int .i64 hi, .int .i64 first] w fun e w' => e = .returned (.tuple #[]) ∧ SoAt C w' (siftDown beforeE hi first lo D) ∧ w.grownBy w' (some C.g) := by
  have j0 := So.mk h
  have hsm := SoG.small (C := C)
  have jx : NeB w.heap.size C.g := ⟨Nat.ne_of_gt h.lt⟩
  clear h
  have hu := Tryz.underlying162
  go_enter Tryz.func170, Tryz.ntmps170
  go_wp2
  go_loopw [8] (fun v wr => ∃ (r : Nat) (dk : Array E), v = .int .i64 r ∧ Aside0 (r ≤ C.n) ∧ So C wr dk ∧ Fr C w wr ∧ Blk wr w.heap.size (datC C) 162 ∧ Aside0 (siftDown beforeE hi first r dk = siftDown beforeE hi first lo D)) (fun v _ => hi - (intOf v).toNat)
  case atStart => exact ⟨lo, D, rfl, ⟨hlo⟩, inferInstance, inferInstance, ⟨blk_new w _⟩, ⟨rfl⟩⟩
  case round =>
    clear j0
    obtain ⟨r, dk, rfl, HR, j1, j2, j3, HO⟩ := hrel
    have hrn := HR.out
    have huf := HO.out
    rw [siftDown] at huf
    by_cases c1 : 2 * r + 1 ≥ hi
    · rw [dif_pos c1] at huf
      have huf := Aside0.mk huf
      have d1 : decide ((hi : Int) ≤ 2 * (r : Int) + 1) = true := decide_eq_true (by omega)
      go_wp2
      go_end0
      exact ⟨rfl, so_cast j1 huf.out, Fr.out⟩
    rw [dif_neg c1] at huf
    have d1 : decide ((hi : Int) ≤ 2 * (r : Int) + 1) = false := decide_eq_false (by omega)
    have x1 : Ix ((first : Int) + (2 * (r : Int) + 1)) C.n := ⟨by omega, by omega⟩
    have x0 : Ix ((first : Int) + (r : Int)) C.n := ⟨by omega, by omega⟩
    by_cases c2 : 2 * r + 1 + 1 < hi
    · have d2 : decide (2 * (r : Int) + 1 + 1 < (hi : Int)) = true := decide_eq_true (by omega)
      have x2 : Ix ((first : Int) + (2 * (r : Int) + 1) + 1) C.n := ⟨by omega, by omega⟩
      have x3 : Ix ((first : Int) + (2 * (r : Int) + 1 + 1)) C.n := ⟨by omega, by omega⟩
      cases l1 : beforeE dk[first + (2 * r + 1)]! dk[first + (2 * r + 1) + 1]! with
      | true =>
        have y1 : Les dk ((first : Int) + (2 * (r : Int) + 1)) ((first : Int) + (2 * (r : Int) + 1) + 1) true := Les.of l1 (by omega) (by omega)
        rw [l1, decide_eq_true c2, Bool.and_self, if_pos rfl] at huf
        clear l1
        cases l2 : beforeE dk[first + r]! dk[first + (2 * r + 2)]! with
        | true =>
          have y2 : Les dk ((first : Int) + (r : Int)) ((first : Int) + (2 * (r : Int) + 1 + 1)) true := Les.of l2 (by omega) (by omega)
          rw [l2, if_neg (by decide), dif_pos c2] at huf
          have huf := Aside0.mk huf
          clear l2
          go_wp2_with (first | (go_at_call 142; refine (less_is _ _).mono ?_; rintro e w2 ⟨rfl, hb⟩; have jb := Bel.mk hb; clear hb))
          refine ⟨⟨2 * r + 2, swp dk (first + r) (first + (2 * r + 2)), by first | rfl | (congr 1; omega), ⟨by omega⟩, ⟨so_cast (D' := swp dk (first + r) (first + (2 * r + 2))) inferInstance (by first | rfl | (congr 1 <;> omega))⟩, inferInstance, inferInstance, huf⟩, by simp [intOf]; omega⟩
        | false =>
          have y2 : Les dk ((first : Int) + (r : Int)) ((first : Int) + (2 * (r : Int) + 1 + 1)) false := Les.of l2 (by omega) (by omega)
          rw [l2, if_pos (by decide)] at huf
          have huf := Aside0.mk huf
          clear l2
          go_wp2_with (first | (go_at_call 142; refine (less_is _ _).mono ?_; rintro e w2 ⟨rfl, hb⟩; have jb := Bel.mk hb; clear hb))
          ((try simp only [Exit.inBlock, Exit.then]); refine bodyPost_ret (results_none rfl _ _ _) rfl ?_)
          exact ⟨rfl, so_cast inferInstance huf.out, Fr.out⟩
      | false =>
        have y1 : Les dk ((first : Int) + (2 * (r : Int) + 1)) ((first : Int) + (2 * (r : Int) + 1) + 1) false := Les.of l1 (by omega) (by omega)
        rw [l1, Bool.and_false, if_neg (by decide)] at huf
        clear l1
        cases l2 : beforeE dk[first + r]! dk[first + (2 * r + 1)]! with
        | true =>
          have y2 : Les dk ((first : Int) + (r : Int)) ((first : Int) + (2 * (r : Int) + 1)) true := Les.of l2 (by omega) (by omega)
          rw [l2, if_neg (by decide)] at huf
          have huf := Aside0.mk huf
          clear l2
          go_wp2_with (first | (go_at_call 142; refine (less_is _ _).mono ?_; rintro e w2 ⟨rfl, hb⟩; have jb := Bel.mk hb; clear hb))
          refine ⟨⟨2 * r + 1, swp dk (first + r) (first + (2 * r + 1)), by first | rfl | (congr 1; omega), ⟨by omega⟩, ⟨so_cast (D' := swp dk (first + r) (first + (2 * r + 1))) inferInstance (by first | rfl | (congr 1 <;> omega))⟩, inferInstance, inferInstance, huf⟩, by simp [intOf]; omega⟩
        | false =>
          have y2 : Les dk ((first : Int) + (r : Int)) ((first : Int) + (2 * (r : Int) + 1)) false := Les.of l2 (by omega) (by omega)
          rw [l2, if_pos (by decide)] at huf
          have huf := Aside0.mk huf
          clear l2
          go_wp2_with (first | (go_at_call 142; refine (less_is _ _).mono ?_; rintro e w2 ⟨rfl, hb⟩; have jb := Bel.mk hb; clear hb))
          ((try simp only [Exit.inBlock, Exit.then]); refine bodyPost_ret (results_none rfl _ _ _) rfl ?_)
          exact ⟨rfl, so_cast inferInstance huf.out, Fr.out⟩
    · have d2 : decide (2 * (r : Int) + 1 + 1 < (hi : Int)) = false := decide_eq_false (by omega)
      rw [decide_eq_false c2, Bool.false_and, if_neg (by decide)] at huf
      cases l2 : beforeE dk[first + r]! dk[first + (2 * r + 1)]! with
      | true =>
        have y2 : Les dk ((first : Int) + (r : Int)) ((first : Int) + (2 * (r : Int) + 1)) true := Les.of l2 (by omega) (by omega)
        rw [l2, if_neg (by decide)] at huf
        have huf := Aside0.mk huf
        clear l2
        go_wp2_with (first | (go_at_call 142; refine (less_is _ _).mono ?_; rintro e w2 ⟨rfl, hb⟩; have jb := Bel.mk hb; clear hb))
        refine ⟨⟨2 * r + 1, swp dk (first + r) (first + (2 * r + 1)), by first | rfl | (congr 1; omega), ⟨by omega⟩, ⟨so_cast (D' := swp dk (first + r) (first + (2 * r + 1))) inferInstance (by first | rfl | (congr 1 <;> omega))⟩, inferInstance, inferInstance, huf⟩, by simp [intOf]; omega⟩
      | false =>
        have y2 : Les dk ((first : Int) + (r : Int)) ((first : Int) + (2 * (r : Int) + 1)) false := Les.of l2 (by omega) (by omega)
        rw [l2, if_pos (by decide)] at huf
        have huf := Aside0.mk huf
        clear l2
        go_wp2_with (first | (go_at_call 142; refine (less_is _ _).mono ?_; rintro e w2 ⟨rfl, hb⟩; have jb := Bel.mk hb; clear hb))
        ((try simp only [Exit.inBlock, Exit.then]); refine bodyPost_ret (results_none rfl _ _ _) rfl ?_)
        exact ⟨rfl, so_cast inferInstance huf.out, Fr.out⟩
theorem siftDown_at {C : SoC} {W : World} {D : Array E} [SoG C] [h : So C W D] (lo' hi' first' : Int) (lo hi first : Nat) (e1 : lo' = lo) (e2 : hi' = hi) (e3 : first' = first) (hf : first + hi ≤ C.n) (hlo : lo ≤ C.n) :
    Calls Tryz.prog 170 #[datV C, .int .i64 lo', .int .i64 hi', .int .i64 first'] W fun e w' => e = .returned (.tuple #[]) ∧ SoAt C w' (siftDown beforeE hi first lo D) ∧ W.grownBy w' (some C.g) := by
  subst e1 e2 e3
  exact siftDown_calls C W D h.out lo hi first hf hlo
set_option maxHeartbeats 8000000 in
set_option maxRecDepth 100000 in
set_option synthInstance.maxHeartbeats 400000 in
set_option synthInstance.maxSize 100000 in
theorem heapSort_calls (C : SoC) [SoG C] (w : World) (D : Array E) (h : SoAt C w D) (a b : Nat) (hab : a ≤ b) (hb : b ≤ C.n) :
    Calls Tryz.prog 163 #[datV C, .int .i64 a, .int .i64 b] w fun e w' => e = .returned (.tuple #[]) ∧ SoAt C w' (heapSort beforeE D a b) ∧ w.grownBy w' (some C.g) := by
  have j0 := So.mk h
  have hsm := SoG.small (C := C)
  have jx : NeB w.heap.size C.g := ⟨Nat.ne_of_gt h.lt⟩
  clear h
  have hu := Tryz.underlying162
  have hq : Int.tdiv ((b : Int) - (a : Int) - 1) 2 = (((b - a - 1) / 2 : Nat) : Int) := by
    by_cases h0 : b - a = 0
    · rw [h0, show (b : Int) - (a : Int) - 1 = -1 by omega]; decide
    · rw [show (b : Int) - (a : Int) - 1 = ((b - a - 1 : Nat) : Int) by omega]; rfl
  go_enter Tryz.func163, Tryz.ntmps163
  go_wp2
  go_loopw [9] (fun v wr => ∃ (k : Nat) (z : Int) (dk : Array E), v = .int .i64 z ∧ Aside0 (z = (k : Int) - 1) ∧ Aside0 (k ≤ (b - a - 1) / 2 + 1) ∧ So C wr dk ∧ Fr C w wr ∧ Blk wr w.heap.size (datC C) 162 ∧ Aside0 (heapBuild beforeE (b - a) a k dk = heapBuild beforeE (b - a) a ((b - a - 1) / 2 + 1) D)) (fun v _ => (intOf v + 1).toNat)
  case atStart =>
    refine ⟨(b - a - 1) / 2 + 1, _, D, rfl, ⟨?_⟩, ⟨Nat.le_refl _⟩, inferInstance, inferInstance, ⟨blk_new w _⟩, ⟨rfl⟩⟩
    omega
  case round =>
    clear j0
    obtain ⟨k, z, dk, rfl, HZ, HK, j1, j2, j3, HO⟩ := hrel
    have hz := HZ.out
    have hk := HK.out
    cases k with
    | succ m =>
      obtain rfl : z = (m : Int) := by omega
      have d1 : decide (0 ≤ (m : Int)) = true := decide_eq_true (by omega)
      clear hq hz
      go_wp2_with (first | (go_at_call 170; refine (siftDown_at _ _ _ m (b - a) a rfl (by omega) rfl (by omega) (by omega)).mono ?_; rintro e w2 ⟨rfl, hs, hg⟩; have k1 := So.mk hs; have k2 := Gb.mk hg; clear hs hg))
      exact ⟨⟨m, _, _, rfl, ⟨rfl⟩, ⟨by omega⟩, k1, inferInstance, inferInstance, ⟨HO.out⟩⟩, by simp [intOf]⟩
    | zero =>
      obtain rfl : z = -1 := by omega
      have ho : dk = heapBuild beforeE (b - a) a ((b - a - 1) / 2 + 1) D := HO.out
      clear hq hz HO
      go_wp2
      go_loopw [10] (fun v wr => ∃ (k : Nat) (z : Int) (dj : Array E), v = .int .i64 z ∧ Aside0 (z = (k : Int) - 1) ∧ Aside0 (k ≤ b - a) ∧ So C wr dj ∧ Fr C w wr ∧ Blk wr w.heap.size (datC C) 162 ∧ Aside0 (heapPop beforeE a k dj = heapSort beforeE D a b)) (fun v _ => (intOf v + 1).toNat)
      case atStart => exact ⟨b - a, _, dk, rfl, ⟨by omega⟩, ⟨Nat.le_refl _⟩, j1, j2, j3, ⟨by rw [ho]; rfl⟩⟩
      case round =>
        clear j1 j2 j3 HZ HK ho hk
        obtain ⟨k, z, dj, rfl, HZ, HK, j1, j2, j3, HO⟩ := hrel
        have hz := HZ.out
        have hk := HK.out
        cases k with
        | succ m =>
          obtain rfl : z = (m : Int) := by omega
          have d1 : decide (0 ≤ (m : Int)) = true := decide_eq_true (by omega)
          have x1 : Ix (a : Int) C.n := ⟨by omega, by omega⟩
          have x2 : Ix ((a : Int) + (m : Int)) C.n := ⟨by omega, by omega⟩
          clear hz
          go_wp2_with (first | (go_at_call 170; refine (siftDown_at _ _ _ 0 m a rfl rfl rfl (by omega) (by omega)).mono ?_; rintro e w2 ⟨rfl, hs, hg⟩; have k1 := So.mk hs; have k2 := Gb.mk hg; clear hs hg))
          refine ⟨⟨m, _, _, rfl, ⟨rfl⟩, ⟨by omega⟩, ⟨so_cast (D' := siftDown beforeE m a 0 (swp dj a (a + m))) k1 (by first | rfl | (congr 2 <;> omega))⟩, inferInstance, inferInstance, ⟨HO.out⟩⟩, by simp [intOf]⟩
        | zero =>
          obtain rfl : z = -1 := by omega
          have ho : dj = heapSort beforeE D a b := HO.out
          clear hz
          go_wp2
          go_end0
          exact ⟨rfl, so_cast j1 ho, Fr.out⟩
class Fx (x : outParam Nat) (w0 W : World) : Prop where out : w0.grownBy W (some x)
class Gx (x : outParam Nat) (w : outParam World) (W : World) : Prop where out : w.grownBy W (some x)
section
variable {C : SoC} {w w0 W : World} {D : Array E} {o : Obj} {n x y i : Nat} {v : Value} {cs : Array Value} {t : TypeId}
instance [h : Fx x w W] : Fx x w (W.alloc o) := ⟨grownBy_trans h.out (grownBy_below (below_alloc (RowKit.Below.refl _ _) o))⟩
instance [h : Fx x w W] : Fx x w W.drew := ⟨grownBy_trans h.out (grownBy_below (below_drew1 (RowKit.Below.refl _ _)))⟩
instance [h : Fx x w W] : Fx x w (W.drewN n) := ⟨grownBy_trans h.out (grownBy_below (pw_below_drewN (RowKit.Below.refl _ _) n))⟩
instance [b : Bel w W] [h : Fx x w0 w] : Fx x w0 W := ⟨grownBy_trans h.out (grownBy_below b.out)⟩
instance [b : Gx x w W] [h : Fx x w0 w] : Fx x w0 W := ⟨grownBy_trans h.out b.out⟩
instance [h : Fx x w W] : Fx x w (W.setCell ⟨x, i, none⟩ v) := ⟨grownBy_trans h.out ⟨rfl, rfl, rfl, by simp, fun k _ hk => Below.heap_setCell W ⟨x, i, none⟩ v k (fun e => hk (by rw [e]))⟩⟩
instance [b : Gx x w W] [h : Blk w y cs t] [l : NeB y x] : Blk W y cs t := ⟨(b.out.block y (blk_lt h.out) (fun e => l.out (Option.some.inj e))).trans h.out⟩
instance [b : Gx x w W] [h : From w0 w] [l : Nw w0 x] : From w0 W := ⟨h.out.grown b.out h.out.size (fun k hk => by cases hk; exact l.out)⟩
end
set_option maxHeartbeats 8000000 in
set_option maxRecDepth 100000 in
set_option synthInstance.maxHeartbeats 400000 in
set_option synthInstance.maxSize 100000 in
theorem order2_calls (C : SoC) [SoG C] (w : World) (D : Array E) (h : SoAt C w D) (a b : Int) (ha : Ix a C.n) (hb : Ix b C.n) (x : Nat) (s : Int) (hs : 0 ≤ s) (hs2 : s ≤ 100) (hx : w.heap[x]? = some (.cells #[.int .i64 s] 3 (0, 0))) (hg : x ≠ C.g) (hbs : x ≠ C.bs) :
    Calls Tryz.prog 175 #[datV C, .int .i64 a, .int .i64 b, .pointer (some ⟨x, 0, none⟩)] w fun e w' => ∃ r1 r2 s' : Int, e = .returned (.tuple #[.int .i64 r1, .int .i64 r2]) ∧ ((r1 = a ∧ r2 = b) ∨ (r1 = b ∧ r2 = a)) ∧ 0 ≤ s' ∧ s' ≤ s + 1 ∧ SoAt C w' D ∧ w'.heap[x]? = some (.cells #[.int .i64 s'] 3 (0, 0)) ∧ w.grownBy w' (some x) := by
  have j0 := So.mk h
  have hxl : x < w.heap.size := blk_lt hx
  have jn : NeB w.heap.size x := ⟨by omega⟩
  have jn2 : NeB x w.heap.size := ⟨by omega⟩
  have jg : NeB x C.g := ⟨hg⟩
  have jb : NeB x C.bs := ⟨hbs⟩
  have jx := Blk.mk hx
  have jf : Fx x w w := ⟨grownBy_below (RowKit.Below.refl _ _)⟩
  have jy := fun o : Obj => blk_new w o
  clear h hx hg hbs hxl
  have hu := Tryz.underlying162
  cases l : beforeE D[b.toNat]! D[a.toNat]! with
  | true =>
    have y1 : Les D b a true := ⟨l⟩
    clear l
    go_enter Tryz.func175, Tryz.ntmps175
    go_wp2_with (first | (go_at_call 142; refine (less_is _ _).mono ?_; rintro e w2 ⟨rfl, hb⟩; have jb := Bel.mk hb; clear hb))
    go_ret2
    exact ⟨b, a, s + 1, rfl, .inr ⟨rfl, rfl⟩, by omega, by omega, So.out, Blk.out, Fx.out⟩
  | false =>
    have y1 : Les D b a false := ⟨l⟩
    clear l
    go_enter Tryz.func175, Tryz.ntmps175
    go_wp2_with (first | (go_at_call 142; refine (less_is _ _).mono ?_; rintro e w2 ⟨rfl, hb⟩; have jb := Bel.mk hb; clear hb))
    go_ret2
    exact ⟨a, b, s, rfl, .inl ⟨rfl, rfl⟩, by omega, by omega, So.out, Blk.out, Fx.out⟩
theorem ix_of {r1 r2 a b : Int} {n : Nat} (h : (r1 = a ∧ r2 = b) ∨ (r1 = b ∧ r2 = a)) (ha : Ix a n) (hb : Ix b n) : Ix r1 n ∧ Ix r2 n := by
  rcases h with ⟨rfl, rfl⟩ | ⟨rfl, rfl⟩
  · exact ⟨ha, hb⟩
  · exact ⟨hb, ha⟩
set_option maxHeartbeats 8000000 in
set_option maxRecDepth 100000 in
set_option synthInstance.maxHeartbeats 400000 in
set_option synthInstance.maxSize 100000 in
theorem median_calls (C : SoC) [SoG C] (w : World) (D : Array E) (h : SoAt C w D) (a b c : Int) (ha : Ix a C.n) (hb : Ix b C.n) (hc : Ix c C.n) (x : Nat) (s : Int) (hs : 0 ≤ s) (hs2 : s ≤ 90) (hx : w.heap[x]? = some (.cells #[.int .i64 s] 3 (0, 0))) (hg : x ≠ C.g) (hbs : x ≠ C.bs) :
    Calls Tryz.prog 174 #[datV C, .int .i64 a, .int .i64 b, .int .i64 c, .pointer (some ⟨x, 0, none⟩)] w fun e w' => ∃ r s' : Int, e = .returned (.int .i64 r) ∧ (r = a ∨ r = b ∨ r = c) ∧ SoAt C w' D ∧ w'.heap[x]? = some (.cells #[.int .i64 s'] 3 (0, 0)) ∧ w.grownBy w' (some x) := by
  have j0 := So.mk h
  have hxl : x < w.heap.size := blk_lt hx
  have jn2 : NeB w.heap.size x := ⟨by omega⟩
  have jx := Blk.mk hx
  have jf : Fx x w w := ⟨grownBy_below (RowKit.Below.refl _ _)⟩
  have jy := Blk.mk (blk_new w (.cells (datC C) 162))
  have jx2 : Blk (w.alloc (.cells (datC C) 162)) x #[.int .i64 s] 3 := ⟨blk_alloc hx _⟩
  clear h hx hxl
  have hu := Tryz.underlying162
  go_enter Tryz.func174, Tryz.ntmps174
  go_wp2_with (first | (go_at_call 175; refine (order2_calls C _ _ So.out _ _ inferInstance inferInstance x _ (by omega) (by omega) Blk.out hg hbs).mono ?_; rintro e w2 ⟨r1, r2, s2, rfl, hr, h1, h2, h3, h4, h5⟩; obtain ⟨i1, i2⟩ := ix_of (n := C.n) hr inferInstance inferInstance; have k1 := So.mk h3; have k2 := Blk.mk h4; have k3 := Gx.mk h5; clear h3 h4 h5))
  go_ret
  refine ⟨_, _, rfl, ?_, So.out, Blk.out, Fx.out⟩
  omega
set_option maxHeartbeats 8000000 in
set_option maxRecDepth 100000 in
set_option synthInstance.maxHeartbeats 400000 in
set_option synthInstance.maxSize 100000 in
theorem choosePivot_calls (C : SoC) [SoG C] (w : World) (D : Array E) (h : SoAt C w D) (a b : Nat) (hab : a < b) (hb : b ≤ C.n) :
    Calls Tryz.prog 165 #[datV C, .int .i64 a, .int .i64 b] w fun e w' => ∃ p k : Int, e = .returned (.tuple #[.int .i64 p, .int .i64 k]) ∧ a ≤ p ∧ p < b ∧ (k = 0 ∨ k = 1 ∨ k = 2) ∧ RowKit.Below w.heap.size w w' := by
  have j0 := So.mk h
  have hgl := h.lt
  have hbl := h.bs_lt
  have hsm := SoG.small (C := C)
  obtain ⟨q, hq⟩ : ∃ q : Int, Int.tdiv ((b : Int) - (a : Int)) 4 = q := ⟨_, rfl⟩
  have hq1 : 0 ≤ q ∧ 4 * q ≤ (b : Int) - a := by
    rw [← hq, show (b : Int) - (a : Int) = ((b - a : Nat) : Int) by omega]
    have : Int.tdiv (((b - a : Nat)) : Int) 4 = (((b - a) / 4 : Nat) : Int) := rfl
    rw [this]
    omega
  have jy := Blk.mk (blk_new w (.cells (datC C) 162))
  have jx : Blk ((w.alloc (.cells (datC C) 162)).alloc (.cells #[.int .i64 0] 3)) (w.heap.size + 1) #[.int .i64 0] 3 := ⟨by have := blk_new (w.alloc (.cells (datC C) 162)) (.cells #[.int .i64 0] 3); simpa using this⟩
  have jn : Nw w (w.heap.size + 1) := ⟨by omega⟩
  have hu := Tryz.underlying162
  have d2 : decide (50 ≤ (b : Int) - (a : Int)) = false := decide_eq_false (by omega)
  by_cases h8 : 8 ≤ (b : Int) - (a : Int)
  · have d1 : decide (8 ≤ (b : Int) - (a : Int)) = true := decide_eq_true h8
    have x1 : Ix ((a : Int) + q) C.n := ⟨by omega, by omega⟩
    have x2 : Ix ((a : Int) + q * 2) C.n := ⟨by omega, by omega⟩
    have x3 : Ix ((a : Int) + q * 3) C.n := ⟨by omega, by omega⟩
    go_enter Tryz.func165, Tryz.ntmps165
    go_wp2_with (first | (go_at_call 174; refine (median_calls C _ _ So.out _ _ _ inferInstance inferInstance inferInstance (w.heap.size + 1) _ (by omega) (by omega) Blk.out (by omega) (by omega)).mono ?_; rintro e w2 ⟨r, s2, rfl, hr, h3, h4, h5⟩; have k1 := So.mk h3; have k2 := Blk.mk h4; have k3 := Gx.mk h5; clear h3 h4 h5))
    all_goals go_ret2
    all_goals exact ⟨_, _, rfl, by omega, by omega, by omega, From.out⟩
  · have d1 : decide (8 ≤ (b : Int) - (a : Int)) = false := decide_eq_false h8
    go_enter Tryz.func165, Tryz.ntmps165
    go_wp2
    all_goals go_ret2
    all_goals exact ⟨_, _, rfl, by omega, by omega, by omega, From.out⟩
theorem partial_eq {lt : E → E → Bool} {a b : Nat} {D : Array E} (h : b - a < 50) : partialInsertionSort lt D a b = (D, decide (scanSorted lt D b (a + 1) = b)) := by
  unfold partialInsertionSort
  rw [partialIns]
  by_cases hb : scanSorted lt D b (a + 1) = b
  · simp [hb]
  · simp [hb, h]
set_option maxHeartbeats 8000000 in
set_option maxRecDepth 100000 in
set_option synthInstance.maxHeartbeats 400000 in
set_option synthInstance.maxSize 100000 in
theorem partial_calls (C : SoC) [SoG C] (w : World) (D : Array E) (h : SoAt C w D) (a b : Nat) (hab : a < b) (hb : b ≤ C.n) :
    Calls Tryz.prog 167 #[datV C, .int .i64 a, .int .i64 b] w fun e w' => ∃ r : Bool, e = .returned (.bool r) ∧ partialInsertionSort beforeE D a b = (D, r) ∧ RowKit.Below w.heap.size w w' := by
  have j0 := So.mk h
  have hsm := SoG.small (C := C)
  have HP := Aside0.mk (partial_eq (lt := beforeE) (D := D) (show b - a < 50 by omega))
  have hbx := blk_new w (.cells (datC C) 162)
  have d50 : decide ((b : Int) - (a : Int) < 50) = true := decide_eq_true (by omega)
  clear h
  have hu := Tryz.underlying162
  go_enter Tryz.func167, Tryz.ntmps167
  go_wp2
  go_loopw [7, 8] (fun v7 v8 wr => v7 = .int .i64 ((a : Int) + 1) ∧ v8 = .int .i64 0 ∧ So C wr D ∧ From w wr ∧ Blk wr w.heap.size (datC C) 162) (fun _ _ _ => 0)
  case atStart => exact ⟨rfl, rfl, inferInstance, inferInstance, ⟨hbx⟩⟩
  case round =>
    clear j0 hbx
    obtain ⟨rfl, rfl, j1, j2, j3⟩ := hrel
    go_wp2
    go_loopw [7] (fun v7 wr => ∃ i : Nat, v7 = .int .i64 i ∧ Aside0 (a < i) ∧ Aside0 (i ≤ b) ∧ So C wr D ∧ From w wr ∧ Blk wr w.heap.size (datC C) 162 ∧ Aside0 (scanSorted beforeE D b i = scanSorted beforeE D b (a + 1))) (fun v _ => b - (intOf v).toNat)
    case atStart => exact ⟨a + 1, by go_num, ⟨by omega⟩, ⟨by omega⟩, j1, j2, j3, ⟨rfl⟩⟩
    case round =>
      clear j1 j2 j3
      obtain ⟨i, rfl, HA, HB, j1, j2, j3, HO⟩ := hrel
      have hia := HA.out
      have hib := HB.out
      by_cases c1 : i < b
      · have d1 : decide ((i : Int) < (b : Int)) = true := decide_eq_true (by omega)
        have d3 : ((i : Int) == (b : Int)) = false := beq_eq_false_iff_ne.mpr (by omega)
        have x1 : Ix (i : Int) C.n := ⟨by omega, by omega⟩
        have x2 : Ix ((i : Int) - 1) C.n := ⟨by omega, by omega⟩
        cases l : beforeE D[i]! D[i - 1]! with
        | true =>
          have y1 : Les D (i : Int) ((i : Int) - 1) true := Les.of l rfl (by omega)
          have hs := Aside0.mk (scanSorted_stop (lt := beforeE) D b i (.inr l))
          clear l
          go_wp2_with (first | (go_at_call 142; refine (less_is _ _).mono ?_; rintro e w2 ⟨rfl, hb⟩; have jb := Bel.mk hb; clear hb))
          go_ret
          refine ⟨false, rfl, ?_, From.out⟩
          rw [HP.out, ← HO.out, hs.out, decide_eq_false (by omega)]
        | false =>
          have y1 : Les D (i : Int) ((i : Int) - 1) false := Les.of l rfl (by omega)
          have hs := Aside0.mk (scanSorted_go (lt := beforeE) D b i c1 l)
          clear l
          go_wp2_with (first | (go_at_call 142; refine (less_is _ _).mono ?_; rintro e w2 ⟨rfl, hb⟩; have jb := Bel.mk hb; clear hb))
          exact ⟨⟨i + 1, by go_num, ⟨by omega⟩, ⟨by omega⟩, inferInstance, inferInstance, inferInstance, ⟨by rw [← HO.out, hs.out]⟩⟩, by simp [intOf]; omega⟩
      · have d1 : decide ((i : Int) < (b : Int)) = false := decide_eq_false (by omega)
        obtain rfl : i = b := by omega
        have hs := Aside0.mk (scanSorted_stop (lt := beforeE) D i i (.inl (by omega)))
        go_wp2
        go_ret
        refine ⟨true, rfl, ?_, From.out⟩
        rw [HP.out, ← HO.out, hs.out, decide_eq_true rfl]
end Go.Proofs.YtanhnhkcpbdfmaaGreat.S
