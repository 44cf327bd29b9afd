/- What functions of the program come to (f), that their calls come to just this (calls), and the plain laws over lists and numbers, and the law FnExactMendAll: for every argument it answers true. No condition but those of the given row. -/
import Derived.Test.YtlhlmjklajdejaaRows
import Derived.Test.YtlhlmjklajdejaaC4
import Derived.Deep.Slices
import Derived.ChangeArms
import Derived.ChangeSame
import Derived.KernelRfl
import Derived.WalkKit
import Derived.ProofKit
import Derived.OpenShut
import Derived.ShutString
import Derived.ChangeOld
import Derived.Below
import Derived.SizedLaws
namespace Go.Proofs.Ytlhlmjklajdejaa.P
open Go.RowKit Go.Proofs.YtlhlmjklajdejaaW.PrintWords Go.Proofs.YtlhlmjklajdejaaW.PrintLast Go.Proofs.YtlhlmjklajdejaaW.PrintMore
attribute [local go_sem] max2_int min2_int max_two min_two max_three min_three max_four min_four
set_option linter.unusedVariables false
set_option linter.unusedSimpArgs false
mutual
def laws_FnExactMendAll.j0 : Nat → Int → Int → Bool → List (S70) → Int → List Int → List (S67) → Int → List Int → List (S67) → Int → List Int → List (S67) → Int → List Int → Option (Bool)
  | 0, _, _, _, _, _, _, _, _, _, _, _, _, _, _, _ => none
  | k + 1, x5, x8, x40, x995000, x995001, x995002, x1012000, x1012001, x1012002, x1020000, x1020001, x1020002, x1029000, x1029001, x1029002 => if x40 = true then (some false) else ((laws_toWork.f k x995000 x995001 x995002).bind fun bt1030 => ((laws_eqWork.f k x1020000 x1020001 x1020002 bt1030.1 bt1030.2.1 bt1030.2.2).bind fun t1037 => (if t1037 = true then ((laws_markWork.f k x1020000 x1020001 x1020002 1).bind fun bt1038 => (if bt1038.1 < 0 then (laws_FnExactMendAll.j1 k x5 true x995000 x995001 x995002 x1012000 x1012001 x1012002 x1029000 x1029001 x1029002) else ((laws_eqWork.f k x1029000 x1029001 x1029002 x1012000 x1012001 x1012002).bind fun t1041 => (if t1041 = true then (laws_FnExactMendAll.j1 k x5 (x8 != x5) x995000 x995001 x995002 x1012000 x1012001 x1012002 x1029000 x1029001 x1029002) else (laws_FnExactMendAll.j1 k x5 true x995000 x995001 x995002 x1012000 x1012001 x1012002 x1029000 x1029001 x1029002))))) else (some false))))
def laws_FnExactMendAll.j1 : Nat → Int → Bool → List (S70) → Int → List Int → List (S67) → Int → List Int → List (S67) → Int → List Int → Option (Bool)
  | 0, _, _, _, _, _, _, _, _, _, _, _ => none
  | k + 1, x5, x61, x995000, x995001, x995002, x1012000, x1012001, x1012002, x1029000, x1029001, x1029002 => if x61 = true then (some false) else ((laws_markWork.f k x1029000 x1029001 x1029002 1).bind fun bt1042 => ((laws_heldWork.f k bt1042.2.1 x1029001 bt1042.2.2 1).bind fun t1045 => (if t1045 < 0 then (some false) else (if t1045 = bt1042.1 then ((laws_toWork.f k x995000 x995001 x995002).bind fun bt1046 => ((impl_MendAll.f k bt1046.1 bt1046.2.1 bt1046.2.2).bind fun bt1053 => ((laws_eqWork.f k bt1053.1 bt1053.2.1 bt1053.2.2.1 x1012000 x1012001 x1012002).bind fun t1062 => (if t1062 = true then (laws_FnExactMendAll.j2 k bt1042.1 (bt1053.2.2.2 != x5) bt1042.2.1 x1029001 bt1042.2.2) else (laws_FnExactMendAll.j2 k bt1042.1 true bt1042.2.1 x1029001 bt1042.2.2))))) else (some false)))))
def laws_FnExactMendAll.j2 : Nat → Int → Bool → List (S67) → Int → List Int → Option (Bool)
  | 0, _, _, _, _, _ => none
  | k + 1, x10, x87, x1029000, x1029001, x1029002 => if x87 = true then (some false) else ((laws_heldWork.f k x1029000 x1029001 x1029002 1).bind fun t1063 => (if t1063 < 0 then (some false) else (if t1063 = x10 then (some true) else (some false))))
end
def laws_FnExactMendAll.f (k : Nat) (l0_0 : List (S70)) (a0_1 : Int) (l0_2 : List Int) : Option (Bool) := (laws_szWork.f l0_0 a0_1 l0_2 1048576).bind fun t995 => (if t995 < 0 then (some true) else ((laws_toWork.f k l0_0 a0_1 l0_2).bind fun bt996 => ((spec_MendAll.f k bt996.1 bt996.2.1 bt996.2.2).bind fun bt1003 => ((laws_toWork.f k l0_0 a0_1 l0_2).bind fun bt1012 => ((impl_MendAll.f k bt1012.1 bt1012.2.1 bt1012.2.2).bind fun bt1020 => ((laws_eqWork.f k bt1020.1 bt1020.2.1 bt1020.2.2.1 bt1003.1 bt1003.2.1 bt1003.2.2.1).bind fun t1029 => (if t1029 = true then (laws_FnExactMendAll.j0 k bt1003.2.2.2 bt1020.2.2.2 (bt1020.2.2.2 != bt1003.2.2.2) l0_0 a0_1 l0_2 bt1003.1 bt1003.2.1 bt1003.2.2.1 bt1012.1 bt1012.2.1 bt1012.2.2 bt1020.1 bt1020.2.1 bt1020.2.2.1) else (laws_FnExactMendAll.j0 k bt1003.2.2.2 bt1020.2.2.2 true l0_0 a0_1 l0_2 bt1003.1 bt1003.2.1 bt1003.2.2.1 bt1012.1 bt1012.2.1 bt1012.2.2 bt1020.1 bt1020.2.1 bt1020.2.2.1))))))))
set_option maxHeartbeats 8000000 in
set_option maxRecDepth 100000 in
theorem laws_FnExactMendAll.calls (k : Nat) (A0_0 : Option Addr) (c0_0 : Nat) (l0_0 : List (S70)) (a0_1 : Int) (A0_2 : Option Addr) (c0_2 : Nat) (l0_2 : List Int) (r : Bool) (w : World) (hr0_0 : Kd.C k70 w A0_0 l0_0.length l0_0) (hc0_0 : l0_0.length ≤ c0_0) (hr0_2 : Kd.C (Kd.int .i64) w A0_2 l0_2.length l0_2) (hc0_2 : l0_2.length ≤ c0_2) (h : laws_FnExactMendAll.f k l0_0 a0_1 l0_2 = some r) (hrt_ : Aside0 (r = true)) :
    Calls Try.prog 12 #[.agg #[.slice A0_0 l0_0.length c0_0, .int .i64 a0_1, .slice A0_2 l0_2.length c0_2]] w fun e w' => e = .returned (.bool r) ∧ Below w.heap.size w w' := by
  have hu25 := Try.underlying25
  have hu30 := Try.underlying30
  have HR0_0 := Aside0.mk hr0_0
  have HC0_0 := Aside0.mk hc0_0
  clear hr0_0 hc0_0
  have HR0_2 := Aside0.mk hr0_2
  have HC0_2 := Aside0.mk hc0_2
  clear hr0_2 hc0_2
  have HB := Aside0.mk (Below.refl w.heap.size w)
  have H : ((laws_szWork.f l0_0 a0_1 l0_2 1048576).bind fun t995 => (if t995 < 0 then (some true) else ((laws_toWork.f k l0_0 a0_1 l0_2).bind fun bt996 => ((spec_MendAll.f k bt996.1 bt996.2.1 bt996.2.2).bind fun bt1003 => ((laws_toWork.f k l0_0 a0_1 l0_2).bind fun bt1012 => ((impl_MendAll.f k bt1012.1 bt1012.2.1 bt1012.2.2).bind fun bt1020 => ((laws_eqWork.f k bt1020.1 bt1020.2.1 bt1020.2.2.1 bt1003.1 bt1003.2.1 bt1003.2.2.1).bind fun t1029 => (if t1029 = true then (laws_FnExactMendAll.j0 k bt1003.2.2.2 bt1020.2.2.2 (bt1020.2.2.2 != bt1003.2.2.2) l0_0 a0_1 l0_2 bt1003.1 bt1003.2.1 bt1003.2.2.1 bt1012.1 bt1012.2.1 bt1012.2.2 bt1020.1 bt1020.2.1 bt1020.2.2.1) else (laws_FnExactMendAll.j0 k bt1003.2.2.2 bt1020.2.2.2 true l0_0 a0_1 l0_2 bt1003.1 bt1003.2.1 bt1003.2.2.1 bt1012.1 bt1012.2.1 bt1012.2.2 bt1020.1 bt1020.2.1 bt1020.2.2.1))))))))) = some r := h
  clear h
  replace H := Option.bind_eq_some_iff.mp H
  obtain ⟨t995, A20, H⟩ := H
  (try dsimp only at H)
  have A2 := Aside0.mk A20
  clear A20
  by_cases c3 : t995 < 0
  · rw [if_pos c3] at H
    have c3b0 : decide (t995 < 0) = true := decide_eq_true c3
    clear c3
    obtain rfl := Option.some.inj H
    go_enter Try.func12, Try.ntmps12
    go_wp2_with (first | ((with_reducible refine gate_dst (N := 1) rfl ?_); refine box_event ?hg (N := 1) ?hd (cs := #[.slice A0_0 l0_0.length c0_0, .int .i64 a0_1, .slice A0_2 l0_2.length c0_2]) (t := 25) ?hr ?_; (case hd => rfl); (case hg => rfl); (case hr => first | (go_simp; done) | (go_simp; rfl)); intro gb994 hg w4 hbox hb; have n0_ := Aside0.mk (below_step (oB HB) hb); have n1_ := Aside0.mk (hbox); have n2_ := Aside0.mk ((by rw [hg]; exact (below_size (oB HB)) : w.heap.size ≤ gb994)); have n3_ := Aside0.mk ((by rw [hg]; exact (below_size (oB HB)) : w.heap.size ≤ gb994)); clear HB; have HB := n0_; have BK994 := n1_; have GW994 := n2_; have GE994 := n3_; clear n0_ n1_ n2_ n3_; clear hb hbox hg; have hcz5_0 : w4.cell? ⟨gb994, 0, none⟩ = some (.slice A0_0 l0_0.length c0_0) := (blk_cell BK994.out 0).trans rfl; have hcz5_1 : w4.cell? ⟨gb994, 1, none⟩ = some (.int .i64 a0_1) := (blk_cell BK994.out 1).trans rfl; have hcz5_2 : w4.cell? ⟨gb994, 2, none⟩ = some (.slice A0_2 l0_2.length c0_2) := (blk_cell BK994.out 2).trans rfl; have hfz5_0 := blk_frozen BK994.out 0; have hfz5_1 := blk_frozen BK994.out 1; have hfz5_2 := blk_frozen BK994.out 2) | ((with_reducible refine gate_callee (f := 15) rfl ?_); refine goesL_ (some 16) rfl rfl Try.func15 (by kernel_rfl) rfl #[.agg #[.slice A0_0 l0_0.length c0_0, .int .i64 a0_1, .slice A0_2 l0_2.length c0_2], .int .i64 1048576] rfl (by (try simp only [List.map_toArray, List.map_cons, List.map_nil]); first | done | rfl | (simp only [List.length_drop, List.length_take]; rfl)) ?_; (with_reducible refine (laws_szWork.calls _ _ l0_0 a0_1 _ _ l0_2 1048576 t995 _ ?side1 ?side2 ?side3 ?side4 A2.out).mono ?_); (case side1 => exact oc_ HR0_0.out); (case side2 => exact HC0_0.out); (case side3 => exact oc_ HR0_2.out); (case side4 => exact HC0_2.out); rintro e w6 ⟨rfl, hb⟩; refine ⟨_, rfl, ?_⟩; have n0_ := Aside0.mk (blk_below (g := gb994) (o := .cells #[.slice A0_0 l0_0.length c0_0, .int .i64 a0_1, .slice A0_2 l0_2.length c0_2] 25 (0, 0)) (oK BK994) hb); have n1_ := Aside0.mk (below_step (oB HB) hb); clear BK994; clear HB; have BK994 := n0_; have HB := n1_; clear n0_ n1_; (try clear hb); (try clear hb2); (try clear hk); (try clear hi)))
    go_ret
    exact ⟨by first | rfl | (simp [errW_none, errW_some] <;> rfl) | (simp [*, errW_none, errW_some] <;> rfl), oB HB⟩
  · rw [if_neg c3] at H
    have c3b0 : decide (t995 < 0) = false := decide_eq_false c3
    clear c3
    replace H := Option.bind_eq_some_iff.mp H
    obtain ⟨⟨t996, t999, t1000⟩, A70, H⟩ := H
    (try dsimp only at H)
    have A7 := Aside0.mk A70
    clear A70
    replace H := Option.bind_eq_some_iff.mp H
    obtain ⟨⟨t1003, t1006, t1007, t1010⟩, A80, H⟩ := H
    (try dsimp only at H)
    have A8 := Aside0.mk A80
    clear A80
    replace H := Option.bind_eq_some_iff.mp H
    obtain ⟨⟨t1012, t1015, t1016⟩, A90, H⟩ := H
    (try dsimp only at H)
    have A9 := Aside0.mk A90
    clear A90
    replace H := Option.bind_eq_some_iff.mp H
    obtain ⟨⟨t1020, t1023, t1024, t1027⟩, A100, H⟩ := H
    (try dsimp only at H)
    have A10 := Aside0.mk A100
    clear A100
    have HC11 := Aside0.mk H
    clear H
    go_enter Try.func12, Try.ntmps12
    go_upto_region 8 with (first | ((with_reducible refine gate_dst (N := 1) rfl ?_); refine box_event ?hg (N := 1) ?hd (cs := #[.slice A0_0 l0_0.length c0_0, .int .i64 a0_1, .slice A0_2 l0_2.length c0_2]) (t := 25) ?hr ?_; (case hd => rfl); (case hg => rfl); (case hr => first | (go_simp; done) | (go_simp; rfl)); intro gb994 hg w12 hbox hb; have n0_ := Aside0.mk (below_step (oB HB) hb); have n1_ := Aside0.mk (hbox); have n2_ := Aside0.mk ((by rw [hg]; exact (below_size (oB HB)) : w.heap.size ≤ gb994)); have n3_ := Aside0.mk ((by rw [hg]; exact (below_size (oB HB)) : w.heap.size ≤ gb994)); clear HB; have HB := n0_; have BK994 := n1_; have GW994 := n2_; have GE994 := n3_; clear n0_ n1_ n2_ n3_; clear hb hbox hg; have hcz13_0 : w12.cell? ⟨gb994, 0, none⟩ = some (.slice A0_0 l0_0.length c0_0) := (blk_cell BK994.out 0).trans rfl; have hcz13_1 : w12.cell? ⟨gb994, 1, none⟩ = some (.int .i64 a0_1) := (blk_cell BK994.out 1).trans rfl; have hcz13_2 : w12.cell? ⟨gb994, 2, none⟩ = some (.slice A0_2 l0_2.length c0_2) := (blk_cell BK994.out 2).trans rfl; have hfz13_0 := blk_frozen BK994.out 0; have hfz13_1 := blk_frozen BK994.out 1; have hfz13_2 := blk_frozen BK994.out 2) | ((with_reducible refine gate_callee (f := 15) rfl ?_); refine goesL_ (some 16) rfl rfl Try.func15 (by kernel_rfl) rfl #[.agg #[.slice A0_0 l0_0.length c0_0, .int .i64 a0_1, .slice A0_2 l0_2.length c0_2], .int .i64 1048576] rfl (by (try simp only [List.map_toArray, List.map_cons, List.map_nil]); first | done | rfl | (simp only [List.length_drop, List.length_take]; rfl)) ?_; (with_reducible refine (laws_szWork.calls _ _ l0_0 a0_1 _ _ l0_2 1048576 t995 _ ?side1 ?side2 ?side3 ?side4 A2.out).mono ?_); (case side1 => exact oc_ HR0_0.out); (case side2 => exact HC0_0.out); (case side3 => exact oc_ HR0_2.out); (case side4 => exact HC0_2.out); rintro e w14 ⟨rfl, hb⟩; refine ⟨_, rfl, ?_⟩; have n0_ := Aside0.mk (blk_below (g := gb994) (o := .cells #[.slice A0_0 l0_0.length c0_0, .int .i64 a0_1, .slice A0_2 l0_2.length c0_2] 25 (0, 0)) (oK BK994) hb); have n1_ := Aside0.mk (below_step (oB HB) hb); clear BK994; clear HB; have BK994 := n0_; have HB := n1_; clear n0_ n1_; (try clear hb); (try clear hb2); (try clear hk); (try clear hi); have hcz15_0 : w14.cell? ⟨gb994, 0, none⟩ = some (.slice A0_0 l0_0.length c0_0) := (blk_cell BK994.out 0).trans rfl; have hcz15_1 : w14.cell? ⟨gb994, 1, none⟩ = some (.int .i64 a0_1) := (blk_cell BK994.out 1).trans rfl; have hcz15_2 : w14.cell? ⟨gb994, 2, none⟩ = some (.slice A0_2 l0_2.length c0_2) := (blk_cell BK994.out 2).trans rfl; have hfz15_0 := blk_frozen BK994.out 0; have hfz15_1 := blk_frozen BK994.out 1; have hfz15_2 := blk_frozen BK994.out 2) | ((with_reducible refine gate_callee (f := 17) rfl ?_); refine goesL_ (some 21) rfl rfl Try.func17 (by kernel_rfl) rfl #[.agg #[.slice A0_0 l0_0.length c0_0, .int .i64 a0_1, .slice A0_2 l0_2.length c0_2]] rfl (by (try simp only [List.map_toArray, List.map_cons, List.map_nil]); first | done | rfl | (simp only [List.length_drop, List.length_take]; rfl)) ?_; (with_reducible refine (laws_toWork.calls k _ _ l0_0 a0_1 _ _ l0_2 t996 t999 t1000 _ ?side1 ?side2 ?side3 ?side4 A7.out).mono ?_); (case side1 => exact oc_ HR0_0.out); (case side2 => exact HC0_0.out); (case side3 => exact oc_ HR0_2.out); (case side4 => exact HC0_2.out); rintro e w16 ⟨v997, v1001, rfl, ho0, ho1, hb⟩; refine ⟨_, rfl, ?_⟩; have n0_ := Aside0.mk (Kd.R_lower ho0 (below_size (oB HB))); have n1_ := Aside0.mk (Kd.R_lower ho1 (below_size (oB HB))); have n2_ := Aside0.mk (blk_below (g := gb994) (o := .cells #[.slice A0_0 l0_0.length c0_0, .int .i64 a0_1, .slice A0_2 l0_2.length c0_2] 25 (0, 0)) (oK BK994) hb); have n3_ := Aside0.mk (below_step (oB HB) hb); clear BK994; clear HB; have HO998 := n0_; have HO1002 := n1_; have BK994 := n2_; have HB := n3_; clear n0_ n1_ n2_ n3_; (try clear hb); (try clear hb2); (try clear hk); (try clear hi); (try clear ho0); (try clear ho1); obtain ⟨Ao17, co17, eo17⟩ := Kd.R_slice HO998.out; subst eo17; obtain ⟨Ao18, co18, eo18⟩ := Kd.R_slice HO1002.out; subst eo18) | ((with_reducible refine gate_callee (f := 45) rfl ?_); refine goesL_ (some 22) rfl rfl Try.func45 (by kernel_rfl) rfl #[.agg #[.slice Ao17 t996.length co17, .int .i64 t999, .slice Ao18 t1000.length co18]] rfl (by (try simp only [List.map_toArray, List.map_cons, List.map_nil]); first | done | rfl | (simp only [List.length_drop, List.length_take]; rfl)) ?_; (with_reducible refine (spec_MendAll.calls k _ _ t996 t999 _ _ t1000 t1003 t1006 t1007 t1010 _ ?side1 ?side2 ?side3 ?side4 A8.out).mono ?_); (case side1 => repeat (first | exact (Kd.R_reads' HO998.out).2.2 | (with_reducible refine Kd.C_alloc ?_ _) | (with_reducible refine Kd.C_drewN ?_ _) | (with_reducible refine Kd.C_drew ?_))); (case side2 => exact (Kd.R_reads' HO998.out).2.1); (case side3 => repeat (first | exact (Kd.R_reads' HO1002.out).2.2 | (with_reducible refine Kd.C_alloc ?_ _) | (with_reducible refine Kd.C_drewN ?_ _) | (with_reducible refine Kd.C_drew ?_))); (case side4 => exact (Kd.R_reads' HO1002.out).2.1); rintro e w19 ⟨v1004, v1008, rfl, ho0, ho1, hb⟩; refine ⟨_, rfl, ?_⟩; have n0_ := Aside0.mk (Kd.R_elder' (oR HO998) (Kd.R_base ho0) hb); have n1_ := Aside0.mk (Kd.R_elder' (oR HO1002) (Kd.R_base ho1) hb); have n2_ := Aside0.mk (Kd.R_lower (Kd.R_new' ho0 (Kd.R_lt (oR HO998))) (below_size (oB HB))); have n3_ := Aside0.mk (Kd.R_lower (Kd.R_new' ho1 (Kd.R_lt (oR HO1002))) (below_size (oB HB))); have n4_ := Aside0.mk (blk_below (g := gb994) (o := .cells #[.slice A0_0 l0_0.length c0_0, .int .i64 a0_1, .slice A0_2 l0_2.length c0_2] 25 (0, 0)) (oK BK994) hb); have n5_ := Aside0.mk (below_step (oB HB) hb); clear HO998; clear HO1002; clear BK994; clear HB; have HO998 := n0_; have HO1002 := n1_; have HO1005 := n2_; have HO1009 := n3_; have BK994 := n4_; have HB := n5_; clear n0_ n1_ n2_ n3_ n4_ n5_; (try clear hb); (try clear hb2); (try clear hk); (try clear hi); (try clear ho0); (try clear ho1)) | ((with_reducible refine gate_dst (N := 4) rfl ?_); refine box_event ?hg (N := 4) ?hd (cs := #[.slice none 0 0, .int .i64 0, .slice none 0 0]) (t := 30) ?hr ?_; (case hd => rfl); (case hg => rfl); (case hr => first | (go_simp; done) | (go_simp; rfl)); intro gb1011 hg w20 hbox hb; have n0_ := Aside0.mk (Kd.R_below (oR HO998) hb); have n1_ := Aside0.mk (Kd.R_below (oR HO1002) hb); have n2_ := Aside0.mk (Kd.R_below (oR HO1005) hb); have n3_ := Aside0.mk (Kd.R_below (oR HO1009) hb); have n4_ := Aside0.mk (blk_below (g := gb994) (o := .cells #[.slice A0_0 l0_0.length c0_0, .int .i64 a0_1, .slice A0_2 l0_2.length c0_2] 25 (0, 0)) (oK BK994) hb); have n5_ := Aside0.mk (below_step (oB HB) hb); have n6_ := Aside0.mk (hbox); have n7_ := Aside0.mk ((by rw [hg]; exact (below_size (oB HB)) : w.heap.size ≤ gb1011)); have n8_ := Aside0.mk ((by rw [hg]; exact (below_size (oB HB)) : w.heap.size ≤ gb1011)); have n9_ := Aside0.mk ((by rw [hg]; exact Nat.ne_of_lt (blk_lt (g := gb994) (o := .cells #[.slice A0_0 l0_0.length c0_0, .int .i64 a0_1, .slice A0_2 l0_2.length c0_2] 25 (0, 0)) (oK BK994)) : gb994 ≠ gb1011)); have n10_ := Aside0.mk ((by rw [hg]; exact Nat.ne_of_gt (blk_lt (g := gb994) (o := .cells #[.slice A0_0 l0_0.length c0_0, .int .i64 a0_1, .slice A0_2 l0_2.length c0_2] 25 (0, 0)) (oK BK994)) : gb1011 ≠ gb994)); clear HO998; clear HO1002; clear HO1005; clear HO1009; clear BK994; clear HB; have HO998 := n0_; have HO1002 := n1_; have HO1005 := n2_; have HO1009 := n3_; have BK994 := n4_; have HB := n5_; have BK1011 := n6_; have GW1011 := n7_; have GE1011 := n8_; have NB994_1011 := n9_; have NB1011_994 := n10_; clear n0_ n1_ n2_ n3_ n4_ n5_ n6_ n7_ n8_ n9_ n10_; clear hb hbox hg; obtain ⟨Ao21, co21, eo21⟩ := Kd.R_slice HO1005.out; subst eo21; have hnb22 := NB1011_994.out; have hnc22 := NB994_1011.out; have hcz23_0 : w20.cell? ⟨gb1011, 0, none⟩ = some (.slice none 0 0) := (blk_cell BK1011.out 0).trans rfl; have hcz23_1 : w20.cell? ⟨gb1011, 1, none⟩ = some (.int .i64 0) := (blk_cell BK1011.out 1).trans rfl; have hcz23_2 : w20.cell? ⟨gb1011, 2, none⟩ = some (.slice none 0 0) := (blk_cell BK1011.out 2).trans rfl; have hfz23_0 := blk_frozen BK1011.out 0; have hfz23_1 := blk_frozen BK1011.out 1; have hfz23_2 := blk_frozen BK1011.out 2; obtain ⟨Ao24, co24, eo24⟩ := Kd.R_slice HO1009.out; subst eo24; have hcz25_0 : w20.cell? ⟨gb994, 0, none⟩ = some (.slice A0_0 l0_0.length c0_0) := (blk_cell BK994.out 0).trans rfl; have hcz25_1 : w20.cell? ⟨gb994, 1, none⟩ = some (.int .i64 a0_1) := (blk_cell BK994.out 1).trans rfl; have hcz25_2 : w20.cell? ⟨gb994, 2, none⟩ = some (.slice A0_2 l0_2.length c0_2) := (blk_cell BK994.out 2).trans rfl; have hfz25_0 := blk_frozen BK994.out 0; have hfz25_1 := blk_frozen BK994.out 1; have hfz25_2 := blk_frozen BK994.out 2) | ((with_reducible refine gate_callee (f := 17) rfl ?_); refine goesL_ (some 26) rfl rfl Try.func17 (by kernel_rfl) rfl #[.agg #[.slice A0_0 l0_0.length c0_0, .int .i64 a0_1, .slice A0_2 l0_2.length c0_2]] rfl (by (try simp only [List.map_toArray, List.map_cons, List.map_nil]); first | done | rfl | (simp only [List.length_drop, List.length_take]; rfl)) ?_; (with_reducible refine (laws_toWork.calls k _ _ l0_0 a0_1 _ _ l0_2 t1012 t1015 t1016 _ ?side1 ?side2 ?side3 ?side4 A9.out).mono ?_); (case side1 => exact Kd.C_below HR0_0.out (oB HB)); (case side2 => exact HC0_0.out); (case side3 => exact Kd.C_below HR0_2.out (oB HB)); (case side4 => exact HC0_2.out); rintro e w26 ⟨v1013, v1017, rfl, ho0, ho1, hb⟩; refine ⟨_, rfl, ?_⟩; have n0_ := Aside0.mk (Kd.R_elder' (by (with_reducible repeat (first | apply Kd.R_alloc | apply Kd.R_drewN | apply Kd.R_drew)); exact (Kd.R_mono (Kd.R_far (p := ⟨gb1011, 2, none⟩) (Kd.R_far (p := ⟨gb1011, 1, none⟩) (Kd.R_far (p := ⟨gb1011, 0, none⟩) (Kd.R_types HO998.out BK1011.out (by decide)) (fun _ hk => hk.2) (.slice Ao21 t1003.length co21)) (fun _ hk => hk.2) (.int .i64 t1006)) (fun _ hk => hk.2) (.slice Ao24 t1007.length co24)) (fun _ h_ => h_.1))) (Kd.R_base ho0) hb); have n1_ := Aside0.mk (Kd.R_elder' (by (with_reducible repeat (first | apply Kd.R_alloc | apply Kd.R_drewN | apply Kd.R_drew)); exact (Kd.R_mono (Kd.R_far (p := ⟨gb1011, 2, none⟩) (Kd.R_far (p := ⟨gb1011, 1, none⟩) (Kd.R_far (p := ⟨gb1011, 0, none⟩) (Kd.R_types HO1002.out BK1011.out (by decide)) (fun _ hk => hk.2) (.slice Ao21 t1003.length co21)) (fun _ hk => hk.2) (.int .i64 t1006)) (fun _ hk => hk.2) (.slice Ao24 t1007.length co24)) (fun _ h_ => h_.1))) (Kd.R_base ho1) hb); have n2_ := Aside0.mk (Kd.R_elder' (by (with_reducible repeat (first | apply Kd.R_alloc | apply Kd.R_drewN | apply Kd.R_drew)); exact (Kd.R_mono (Kd.R_far (p := ⟨gb1011, 2, none⟩) (Kd.R_far (p := ⟨gb1011, 1, none⟩) (Kd.R_far (p := ⟨gb1011, 0, none⟩) (Kd.R_types HO1005.out BK1011.out (by decide)) (fun _ hk => hk.2) (.slice Ao21 t1003.length co21)) (fun _ hk => hk.2) (.int .i64 t1006)) (fun _ hk => hk.2) (.slice Ao24 t1007.length co24)) (fun _ h_ => h_.1))) (Kd.R_base ho0) hb); have n3_ := Aside0.mk (Kd.R_elder' (by (with_reducible repeat (first | apply Kd.R_alloc | apply Kd.R_drewN | apply Kd.R_drew)); exact (Kd.R_mono (Kd.R_far (p := ⟨gb1011, 2, none⟩) (Kd.R_far (p := ⟨gb1011, 1, none⟩) (Kd.R_far (p := ⟨gb1011, 0, none⟩) (Kd.R_types HO1009.out BK1011.out (by decide)) (fun _ hk => hk.2) (.slice Ao21 t1003.length co21)) (fun _ hk => hk.2) (.int .i64 t1006)) (fun _ hk => hk.2) (.slice Ao24 t1007.length co24)) (fun _ h_ => h_.1))) (Kd.R_base ho1) hb); have n4_ := Aside0.mk (Kd.R_lower (Kd.R_new' (Kd.R_new' ho0 (Kd.R_lt (by (with_reducible repeat (first | apply Kd.R_alloc | apply Kd.R_drewN | apply Kd.R_drew)); exact (Kd.R_mono (Kd.R_far (p := ⟨gb1011, 2, none⟩) (Kd.R_far (p := ⟨gb1011, 1, none⟩) (Kd.R_far (p := ⟨gb1011, 0, none⟩) (Kd.R_types HO998.out BK1011.out (by decide)) (fun _ hk => hk.2) (.slice Ao21 t1003.length co21)) (fun _ hk => hk.2) (.int .i64 t1006)) (fun _ hk => hk.2) (.slice Ao24 t1007.length co24)) (fun _ h_ => h_.1))))) (Kd.R_lt (by (with_reducible repeat (first | apply Kd.R_alloc | apply Kd.R_drewN | apply Kd.R_drew)); exact (Kd.R_mono (Kd.R_far (p := ⟨gb1011, 2, none⟩) (Kd.R_far (p := ⟨gb1011, 1, none⟩) (Kd.R_far (p := ⟨gb1011, 0, none⟩) (Kd.R_types HO1005.out BK1011.out (by decide)) (fun _ hk => hk.2) (.slice Ao21 t1003.length co21)) (fun _ hk => hk.2) (.int .i64 t1006)) (fun _ hk => hk.2) (.slice Ao24 t1007.length co24)) (fun _ h_ => h_.1))))) (below_size (oB HB))); have n5_ := Aside0.mk (Kd.R_lower (Kd.R_new' (Kd.R_new' ho1 (Kd.R_lt (by (with_reducible repeat (first | apply Kd.R_alloc | apply Kd.R_drewN | apply Kd.R_drew)); exact (Kd.R_mono (Kd.R_far (p := ⟨gb1011, 2, none⟩) (Kd.R_far (p := ⟨gb1011, 1, none⟩) (Kd.R_far (p := ⟨gb1011, 0, none⟩) (Kd.R_types HO1002.out BK1011.out (by decide)) (fun _ hk => hk.2) (.slice Ao21 t1003.length co21)) (fun _ hk => hk.2) (.int .i64 t1006)) (fun _ hk => hk.2) (.slice Ao24 t1007.length co24)) (fun _ h_ => h_.1))))) (Kd.R_lt (by (with_reducible repeat (first | apply Kd.R_alloc | apply Kd.R_drewN | apply Kd.R_drew)); exact (Kd.R_mono (Kd.R_far (p := ⟨gb1011, 2, none⟩) (Kd.R_far (p := ⟨gb1011, 1, none⟩) (Kd.R_far (p := ⟨gb1011, 0, none⟩) (Kd.R_types HO1009.out BK1011.out (by decide)) (fun _ hk => hk.2) (.slice Ao21 t1003.length co21)) (fun _ hk => hk.2) (.int .i64 t1006)) (fun _ hk => hk.2) (.slice Ao24 t1007.length co24)) (fun _ h_ => h_.1))))) (below_size (oB HB))); have n6_ := Aside0.mk (blk_below (g := gb994) (o := .cells #[.slice A0_0 l0_0.length c0_0, .int .i64 a0_1, .slice A0_2 l0_2.length c0_2] 25 (0, 0)) (by (with_reducible repeat (first | refine blk_drewN ?_ _ | refine blk_drew ?_ | refine blk_alloc ?_ _)); refine blk_far ?_ NB994_1011.out _; (with_reducible repeat (first | refine blk_drewN ?_ _ | refine blk_drew ?_ | refine blk_alloc ?_ _)); refine blk_far ?_ NB994_1011.out _; (with_reducible repeat (first | refine blk_drewN ?_ _ | refine blk_drew ?_ | refine blk_alloc ?_ _)); refine blk_far ?_ NB994_1011.out _; (with_reducible repeat (first | refine blk_drewN ?_ _ | refine blk_drew ?_ | refine blk_alloc ?_ _)); exact BK994.out) hb); have n7_ := Aside0.mk (blk_below (g := gb1011) (o := .cells #[.slice Ao21 t1003.length co21, .int .i64 t1006, .slice Ao24 t1007.length co24] 30 (0, 0)) (by (with_reducible repeat (first | refine blk_drewN ?_ _ | refine blk_drew ?_ | refine blk_alloc ?_ _)); refine blk_put (cs := #[.slice Ao21 t1003.length co21, .int .i64 t1006, .slice none 0 0]) ?_ 2 _ rfl; (with_reducible repeat (first | refine blk_drewN ?_ _ | refine blk_drew ?_ | refine blk_alloc ?_ _)); refine blk_put (cs := #[.slice Ao21 t1003.length co21, .int .i64 0, .slice none 0 0]) ?_ 1 _ rfl; (with_reducible repeat (first | refine blk_drewN ?_ _ | refine blk_drew ?_ | refine blk_alloc ?_ _)); refine blk_put (cs := #[.slice none 0 0, .int .i64 0, .slice none 0 0]) ?_ 0 _ rfl; (with_reducible repeat (first | refine blk_drewN ?_ _ | refine blk_drew ?_ | refine blk_alloc ?_ _)); exact BK1011.out) hb); have n8_ := Aside0.mk (below_step (oB HB) hb); clear HO998; clear HO1002; clear HO1005; clear HO1009; clear BK994; clear BK1011; clear HB; have HO998 := n0_; have HO1002 := n1_; have HO1005 := n2_; have HO1009 := n3_; have HO1014 := n4_; have HO1018 := n5_; have BK994 := n6_; have BK1011 := n7_; have HB := n8_; clear n0_ n1_ n2_ n3_ n4_ n5_ n6_ n7_ n8_; (try clear hb); (try clear hb2); (try clear hk); (try clear hi); (try clear ho0); (try clear ho1)) | ((with_reducible refine gate_dst (N := 6) rfl ?_); refine box_event ?hg (N := 6) ?hd (cs := #[.slice none 0 0, .int .i64 0, .slice none 0 0]) (t := 30) ?hr ?_; (case hd => rfl); (case hg => rfl); (case hr => first | (go_simp; done) | (go_simp; rfl)); intro gb1019 hg w27 hbox hb; have n0_ := Aside0.mk (Kd.R_below (oR HO998) hb); have n1_ := Aside0.mk (Kd.R_below (oR HO1002) hb); have n2_ := Aside0.mk (Kd.R_below (oR HO1005) hb); have n3_ := Aside0.mk (Kd.R_below (oR HO1009) hb); have n4_ := Aside0.mk (Kd.R_below (oR HO1014) hb); have n5_ := Aside0.mk (Kd.R_below (oR HO1018) hb); have n6_ := Aside0.mk (blk_below (g := gb994) (o := .cells #[.slice A0_0 l0_0.length c0_0, .int .i64 a0_1, .slice A0_2 l0_2.length c0_2] 25 (0, 0)) (oK BK994) hb); have n7_ := Aside0.mk (blk_below (g := gb1011) (o := .cells #[.slice Ao21 t1003.length co21, .int .i64 t1006, .slice Ao24 t1007.length co24] 30 (0, 0)) (oK BK1011) hb); have n8_ := Aside0.mk (below_step (oB HB) hb); have n9_ := Aside0.mk (hbox); have n10_ := Aside0.mk ((by rw [hg]; exact (below_size (oB HB)) : w.heap.size ≤ gb1019)); have n11_ := Aside0.mk ((by rw [hg]; exact (below_size (oB HB)) : w.heap.size ≤ gb1019)); have n12_ := Aside0.mk ((by rw [hg]; exact Nat.ne_of_lt (blk_lt (g := gb994) (o := .cells #[.slice A0_0 l0_0.length c0_0, .int .i64 a0_1, .slice A0_2 l0_2.length c0_2] 25 (0, 0)) (oK BK994)) : gb994 ≠ gb1019)); have n13_ := Aside0.mk ((by rw [hg]; exact Nat.ne_of_gt (blk_lt (g := gb994) (o := .cells #[.slice A0_0 l0_0.length c0_0, .int .i64 a0_1, .slice A0_2 l0_2.length c0_2] 25 (0, 0)) (oK BK994)) : gb1019 ≠ gb994)); have n14_ := Aside0.mk ((by rw [hg]; exact Nat.ne_of_lt (blk_lt (g := gb1011) (o := .cells #[.slice Ao21 t1003.length co21, .int .i64 t1006, .slice Ao24 t1007.length co24] 30 (0, 0)) (oK BK1011)) : gb1011 ≠ gb1019)); have n15_ := Aside0.mk ((by rw [hg]; exact Nat.ne_of_gt (blk_lt (g := gb1011) (o := .cells #[.slice Ao21 t1003.length co21, .int .i64 t1006, .slice Ao24 t1007.length co24] 30 (0, 0)) (oK BK1011)) : gb1019 ≠ gb1011)); clear HO998; clear HO1002; clear HO1005; clear HO1009; clear HO1014; clear HO1018; clear BK994; clear BK1011; clear HB; have HO998 := n0_; have HO1002 := n1_; have HO1005 := n2_; have HO1009 := n3_; have HO1014 := n4_; have HO1018 := n5_; have BK994 := n6_; have BK1011 := n7_; have HB := n8_; have BK1019 := n9_; have GW1019 := n10_; have GE1019 := n11_; have NB994_1019 := n12_; have NB1019_994 := n13_; have NB1011_1019 := n14_; have NB1019_1011 := n15_; clear n0_ n1_ n2_ n3_ n4_ n5_ n6_ n7_ n8_ n9_ n10_ n11_ n12_ n13_ n14_ n15_; clear hb hbox hg; obtain ⟨Ao28, co28, eo28⟩ := Kd.R_slice HO1014.out; subst eo28; have hnb29 := NB1019_994.out; have hnc29 := NB994_1019.out; have hnb30 := NB1019_1011.out; have hnc30 := NB1011_1019.out; have hcz31_0 : w27.cell? ⟨gb1019, 0, none⟩ = some (.slice none 0 0) := (blk_cell BK1019.out 0).trans rfl; have hcz31_1 : w27.cell? ⟨gb1019, 1, none⟩ = some (.int .i64 0) := (blk_cell BK1019.out 1).trans rfl; have hcz31_2 : w27.cell? ⟨gb1019, 2, none⟩ = some (.slice none 0 0) := (blk_cell BK1019.out 2).trans rfl; have hfz31_0 := blk_frozen BK1019.out 0; have hfz31_1 := blk_frozen BK1019.out 1; have hfz31_2 := blk_frozen BK1019.out 2; obtain ⟨Ao32, co32, eo32⟩ := Kd.R_slice HO1018.out; subst eo32) | ((with_reducible refine gate_callee (f := 46) rfl ?_); refine goesL_ (some 29) rfl rfl Try.func46 (by kernel_rfl) rfl #[.agg #[.slice Ao28 t1012.length co28, .int .i64 t1015, .slice Ao32 t1016.length co32]] rfl (by (try simp only [List.map_toArray, List.map_cons, List.map_nil]); first | done | rfl | (simp only [List.length_drop, List.length_take]; rfl)) ?_; (with_reducible refine (impl_MendAll.calls k _ _ t1012 t1015 _ _ t1016 t1020 t1023 t1024 t1027 _ ?side1 ?side2 ?side3 ?side4 A10.out).mono ?_); (case side1 => refine (Kd.R_reads' (e := 67) (base := w.heap.size) (ok := fun k_ => ((True ∧ some k_ ≠ (.slice Ao17 t996.length co17 : Value).ownBlock) ∧ some k_ ≠ (.slice Ao21 t1003.length co21 : Value).ownBlock)) (n := t1012.length) (c := co28) ?_).2.2; exact (by (with_reducible repeat (first | apply Kd.R_alloc | apply Kd.R_drewN | apply Kd.R_drew)); exact (Kd.R_mono (Kd.R_far (p := ⟨gb1019, 2, none⟩) (Kd.R_far (p := ⟨gb1019, 1, none⟩) (Kd.R_far (p := ⟨gb1019, 0, none⟩) (Kd.R_types HO1014.out BK1019.out (by decide)) (fun _ hk => hk.2) (.slice Ao28 t1012.length co28)) (fun _ hk => hk.2) (.int .i64 t1015)) (fun _ hk => hk.2) (.slice Ao32 t1016.length co32)) (fun _ h_ => h_.1)))); (case side2 => exact (Kd.R_reads' HO1014.out).2.1); (case side3 => refine (Kd.R_reads' (e := 3) (base := w.heap.size) (ok := fun k_ => ((True ∧ some k_ ≠ (.slice Ao18 t1000.length co18 : Value).ownBlock) ∧ some k_ ≠ (.slice Ao24 t1007.length co24 : Value).ownBlock)) (n := t1016.length) (c := co32) ?_).2.2; exact (by (with_reducible repeat (first | apply Kd.R_alloc | apply Kd.R_drewN | apply Kd.R_drew)); exact (Kd.R_mono (Kd.R_far (p := ⟨gb1019, 2, none⟩) (Kd.R_far (p := ⟨gb1019, 1, none⟩) (Kd.R_far (p := ⟨gb1019, 0, none⟩) (Kd.R_types HO1018.out BK1019.out (by decide)) (fun _ hk => hk.2) (.slice Ao28 t1012.length co28)) (fun _ hk => hk.2) (.int .i64 t1015)) (fun _ hk => hk.2) (.slice Ao32 t1016.length co32)) (fun _ h_ => h_.1)))); (case side4 => exact (Kd.R_reads' HO1018.out).2.1); rintro e w33 ⟨v1021, v1025, rfl, ho0, ho1, hb⟩; refine ⟨_, rfl, ?_⟩; have n0_ := Aside0.mk (Kd.R_elder' (by (with_reducible repeat (first | apply Kd.R_alloc | apply Kd.R_drewN | apply Kd.R_drew)); exact (Kd.R_mono (Kd.R_far (p := ⟨gb1019, 2, none⟩) (Kd.R_far (p := ⟨gb1019, 1, none⟩) (Kd.R_far (p := ⟨gb1019, 0, none⟩) (Kd.R_types HO998.out BK1019.out (by decide)) (fun _ hk => hk.2) (.slice Ao28 t1012.length co28)) (fun _ hk => hk.2) (.int .i64 t1015)) (fun _ hk => hk.2) (.slice Ao32 t1016.length co32)) (fun _ h_ => h_.1))) (Kd.R_base ho0) hb); have n1_ := Aside0.mk (Kd.R_elder' (by (with_reducible repeat (first | apply Kd.R_alloc | apply Kd.R_drewN | apply Kd.R_drew)); exact (Kd.R_mono (Kd.R_far (p := ⟨gb1019, 2, none⟩) (Kd.R_far (p := ⟨gb1019, 1, none⟩) (Kd.R_far (p := ⟨gb1019, 0, none⟩) (Kd.R_types HO1002.out BK1019.out (by decide)) (fun _ hk => hk.2) (.slice Ao28 t1012.length co28)) (fun _ hk => hk.2) (.int .i64 t1015)) (fun _ hk => hk.2) (.slice Ao32 t1016.length co32)) (fun _ h_ => h_.1))) (Kd.R_base ho1) hb); have n2_ := Aside0.mk (Kd.R_elder' (by (with_reducible repeat (first | apply Kd.R_alloc | apply Kd.R_drewN | apply Kd.R_drew)); exact (Kd.R_mono (Kd.R_far (p := ⟨gb1019, 2, none⟩) (Kd.R_far (p := ⟨gb1019, 1, none⟩) (Kd.R_far (p := ⟨gb1019, 0, none⟩) (Kd.R_types HO1005.out BK1019.out (by decide)) (fun _ hk => hk.2) (.slice Ao28 t1012.length co28)) (fun _ hk => hk.2) (.int .i64 t1015)) (fun _ hk => hk.2) (.slice Ao32 t1016.length co32)) (fun _ h_ => h_.1))) (Kd.R_base ho0) hb); have n3_ := Aside0.mk (Kd.R_elder' (by (with_reducible repeat (first | apply Kd.R_alloc | apply Kd.R_drewN | apply Kd.R_drew)); exact (Kd.R_mono (Kd.R_far (p := ⟨gb1019, 2, none⟩) (Kd.R_far (p := ⟨gb1019, 1, none⟩) (Kd.R_far (p := ⟨gb1019, 0, none⟩) (Kd.R_types HO1009.out BK1019.out (by decide)) (fun _ hk => hk.2) (.slice Ao28 t1012.length co28)) (fun _ hk => hk.2) (.int .i64 t1015)) (fun _ hk => hk.2) (.slice Ao32 t1016.length co32)) (fun _ h_ => h_.1))) (Kd.R_base ho1) hb); have n4_ := Aside0.mk (Kd.R_elder' (by (with_reducible repeat (first | apply Kd.R_alloc | apply Kd.R_drewN | apply Kd.R_drew)); exact (Kd.R_mono (Kd.R_far (p := ⟨gb1019, 2, none⟩) (Kd.R_far (p := ⟨gb1019, 1, none⟩) (Kd.R_far (p := ⟨gb1019, 0, none⟩) (Kd.R_types HO1014.out BK1019.out (by decide)) (fun _ hk => hk.2) (.slice Ao28 t1012.length co28)) (fun _ hk => hk.2) (.int .i64 t1015)) (fun _ hk => hk.2) (.slice Ao32 t1016.length co32)) (fun _ h_ => h_.1))) (Kd.R_base ho0) hb); have n5_ := Aside0.mk (Kd.R_elder' (by (with_reducible repeat (first | apply Kd.R_alloc | apply Kd.R_drewN | apply Kd.R_drew)); exact (Kd.R_mono (Kd.R_far (p := ⟨gb1019, 2, none⟩) (Kd.R_far (p := ⟨gb1019, 1, none⟩) (Kd.R_far (p := ⟨gb1019, 0, none⟩) (Kd.R_types HO1018.out BK1019.out (by decide)) (fun _ hk => hk.2) (.slice Ao28 t1012.length co28)) (fun _ hk => hk.2) (.int .i64 t1015)) (fun _ hk => hk.2) (.slice Ao32 t1016.length co32)) (fun _ h_ => h_.1))) (Kd.R_base ho1) hb); have n6_ := Aside0.mk (Kd.R_lower (Kd.R_new' (Kd.R_new' (Kd.R_new' ho0 (Kd.R_lt (by (with_reducible repeat (first | apply Kd.R_alloc | apply Kd.R_drewN | apply Kd.R_drew)); exact (Kd.R_mono (Kd.R_far (p := ⟨gb1019, 2, none⟩) (Kd.R_far (p := ⟨gb1019, 1, none⟩) (Kd.R_far (p := ⟨gb1019, 0, none⟩) (Kd.R_types HO998.out BK1019.out (by decide)) (fun _ hk => hk.2) (.slice Ao28 t1012.length co28)) (fun _ hk => hk.2) (.int .i64 t1015)) (fun _ hk => hk.2) (.slice Ao32 t1016.length co32)) (fun _ h_ => h_.1))))) (Kd.R_lt (by (with_reducible repeat (first | apply Kd.R_alloc | apply Kd.R_drewN | apply Kd.R_drew)); exact (Kd.R_mono (Kd.R_far (p := ⟨gb1019, 2, none⟩) (Kd.R_far (p := ⟨gb1019, 1, none⟩) (Kd.R_far (p := ⟨gb1019, 0, none⟩) (Kd.R_types HO1005.out BK1019.out (by decide)) (fun _ hk => hk.2) (.slice Ao28 t1012.length co28)) (fun _ hk => hk.2) (.int .i64 t1015)) (fun _ hk => hk.2) (.slice Ao32 t1016.length co32)) (fun _ h_ => h_.1))))) (Kd.R_lt (by (with_reducible repeat (first | apply Kd.R_alloc | apply Kd.R_drewN | apply Kd.R_drew)); exact (Kd.R_mono (Kd.R_far (p := ⟨gb1019, 2, none⟩) (Kd.R_far (p := ⟨gb1019, 1, none⟩) (Kd.R_far (p := ⟨gb1019, 0, none⟩) (Kd.R_types HO1014.out BK1019.out (by decide)) (fun _ hk => hk.2) (.slice Ao28 t1012.length co28)) (fun _ hk => hk.2) (.int .i64 t1015)) (fun _ hk => hk.2) (.slice Ao32 t1016.length co32)) (fun _ h_ => h_.1))))) (below_size (oB HB))); have n7_ := Aside0.mk (Kd.R_lower (Kd.R_new' (Kd.R_new' (Kd.R_new' ho1 (Kd.R_lt (by (with_reducible repeat (first | apply Kd.R_alloc | apply Kd.R_drewN | apply Kd.R_drew)); exact (Kd.R_mono (Kd.R_far (p := ⟨gb1019, 2, none⟩) (Kd.R_far (p := ⟨gb1019, 1, none⟩) (Kd.R_far (p := ⟨gb1019, 0, none⟩) (Kd.R_types HO1002.out BK1019.out (by decide)) (fun _ hk => hk.2) (.slice Ao28 t1012.length co28)) (fun _ hk => hk.2) (.int .i64 t1015)) (fun _ hk => hk.2) (.slice Ao32 t1016.length co32)) (fun _ h_ => h_.1))))) (Kd.R_lt (by (with_reducible repeat (first | apply Kd.R_alloc | apply Kd.R_drewN | apply Kd.R_drew)); exact (Kd.R_mono (Kd.R_far (p := ⟨gb1019, 2, none⟩) (Kd.R_far (p := ⟨gb1019, 1, none⟩) (Kd.R_far (p := ⟨gb1019, 0, none⟩) (Kd.R_types HO1009.out BK1019.out (by decide)) (fun _ hk => hk.2) (.slice Ao28 t1012.length co28)) (fun _ hk => hk.2) (.int .i64 t1015)) (fun _ hk => hk.2) (.slice Ao32 t1016.length co32)) (fun _ h_ => h_.1))))) (Kd.R_lt (by (with_reducible repeat (first | apply Kd.R_alloc | apply Kd.R_drewN | apply Kd.R_drew)); exact (Kd.R_mono (Kd.R_far (p := ⟨gb1019, 2, none⟩) (Kd.R_far (p := ⟨gb1019, 1, none⟩) (Kd.R_far (p := ⟨gb1019, 0, none⟩) (Kd.R_types HO1018.out BK1019.out (by decide)) (fun _ hk => hk.2) (.slice Ao28 t1012.length co28)) (fun _ hk => hk.2) (.int .i64 t1015)) (fun _ hk => hk.2) (.slice Ao32 t1016.length co32)) (fun _ h_ => h_.1))))) (below_size (oB HB))); have n8_ := Aside0.mk (blk_below (g := gb994) (o := .cells #[.slice A0_0 l0_0.length c0_0, .int .i64 a0_1, .slice A0_2 l0_2.length c0_2] 25 (0, 0)) (by (with_reducible repeat (first | refine blk_drewN ?_ _ | refine blk_drew ?_ | refine blk_alloc ?_ _)); refine blk_far ?_ NB994_1019.out _; (with_reducible repeat (first | refine blk_drewN ?_ _ | refine blk_drew ?_ | refine blk_alloc ?_ _)); refine blk_far ?_ NB994_1019.out _; (with_reducible repeat (first | refine blk_drewN ?_ _ | refine blk_drew ?_ | refine blk_alloc ?_ _)); refine blk_far ?_ NB994_1019.out _; (with_reducible repeat (first | refine blk_drewN ?_ _ | refine blk_drew ?_ | refine blk_alloc ?_ _)); exact BK994.out) hb); have n9_ := Aside0.mk (blk_below (g := gb1011) (o := .cells #[.slice Ao21 t1003.length co21, .int .i64 t1006, .slice Ao24 t1007.length co24] 30 (0, 0)) (by (with_reducible repeat (first | refine blk_drewN ?_ _ | refine blk_drew ?_ | refine blk_alloc ?_ _)); refine blk_far ?_ NB1011_1019.out _; (with_reducible repeat (first | refine blk_drewN ?_ _ | refine blk_drew ?_ | refine blk_alloc ?_ _)); refine blk_far ?_ NB1011_1019.out _; (with_reducible repeat (first | refine blk_drewN ?_ _ | refine blk_drew ?_ | refine blk_alloc ?_ _)); refine blk_far ?_ NB1011_1019.out _; (with_reducible repeat (first | refine blk_drewN ?_ _ | refine blk_drew ?_ | refine blk_alloc ?_ _)); exact BK1011.out) hb); have n10_ := Aside0.mk (blk_below (g := gb1019) (o := .cells #[.slice Ao28 t1012.length co28, .int .i64 t1015, .slice Ao32 t1016.length co32] 30 (0, 0)) (by (with_reducible repeat (first | refine blk_drewN ?_ _ | refine blk_drew ?_ | refine blk_alloc ?_ _)); refine blk_put (cs := #[.slice Ao28 t1012.length co28, .int .i64 t1015, .slice none 0 0]) ?_ 2 _ rfl; (with_reducible repeat (first | refine blk_drewN ?_ _ | refine blk_drew ?_ | refine blk_alloc ?_ _)); refine blk_put (cs := #[.slice Ao28 t1012.length co28, .int .i64 0, .slice none 0 0]) ?_ 1 _ rfl; (with_reducible repeat (first | refine blk_drewN ?_ _ | refine blk_drew ?_ | refine blk_alloc ?_ _)); refine blk_put (cs := #[.slice none 0 0, .int .i64 0, .slice none 0 0]) ?_ 0 _ rfl; (with_reducible repeat (first | refine blk_drewN ?_ _ | refine blk_drew ?_ | refine blk_alloc ?_ _)); exact BK1019.out) hb); have n11_ := Aside0.mk (below_step (oB HB) hb); clear HO998; clear HO1002; clear HO1005; clear HO1009; clear HO1014; clear HO1018; clear BK994; clear BK1011; clear BK1019; clear HB; have HO998 := n0_; have HO1002 := n1_; have HO1005 := n2_; have HO1009 := n3_; have HO1014 := n4_; have HO1018 := n5_; have HO1022 := n6_; have HO1026 := n7_; have BK994 := n8_; have BK1011 := n9_; have BK1019 := n10_; have HB := n11_; clear n0_ n1_ n2_ n3_ n4_ n5_ n6_ n7_ n8_ n9_ n10_ n11_; (try clear hb); (try clear hb2); (try clear hk); (try clear hi); (try clear ho0); (try clear ho1)) | ((with_reducible refine gate_dst (N := 7) rfl ?_); refine box_event ?hg (N := 7) ?hd (cs := #[.slice none 0 0, .int .i64 0, .slice none 0 0]) (t := 30) ?hr ?_; (case hd => rfl); (case hg => rfl); (case hr => first | (go_simp; done) | (go_simp; rfl)); intro gb1028 hg w34 hbox hb; have n0_ := Aside0.mk (Kd.R_below (oR HO998) hb); have n1_ := Aside0.mk (Kd.R_below (oR HO1002) hb); have n2_ := Aside0.mk (Kd.R_below (oR HO1005) hb); have n3_ := Aside0.mk (Kd.R_below (oR HO1009) hb); have n4_ := Aside0.mk (Kd.R_below (oR HO1014) hb); have n5_ := Aside0.mk (Kd.R_below (oR HO1018) hb); have n6_ := Aside0.mk (Kd.R_below (oR HO1022) hb); have n7_ := Aside0.mk (Kd.R_below (oR HO1026) hb); have n8_ := Aside0.mk (blk_below (g := gb994) (o := .cells #[.slice A0_0 l0_0.length c0_0, .int .i64 a0_1, .slice A0_2 l0_2.length c0_2] 25 (0, 0)) (oK BK994) hb); have n9_ := Aside0.mk (blk_below (g := gb1011) (o := .cells #[.slice Ao21 t1003.length co21, .int .i64 t1006, .slice Ao24 t1007.length co24] 30 (0, 0)) (oK BK1011) hb); have n10_ := Aside0.mk (blk_below (g := gb1019) (o := .cells #[.slice Ao28 t1012.length co28, .int .i64 t1015, .slice Ao32 t1016.length co32] 30 (0, 0)) (oK BK1019) hb); have n11_ := Aside0.mk (below_step (oB HB) hb); have n12_ := Aside0.mk (hbox); have n13_ := Aside0.mk ((by rw [hg]; exact (below_size (oB HB)) : w.heap.size ≤ gb1028)); have n14_ := Aside0.mk ((by rw [hg]; exact (below_size (oB HB)) : w.heap.size ≤ gb1028)); have n15_ := Aside0.mk ((by rw [hg]; exact Nat.ne_of_lt (blk_lt (g := gb994) (o := .cells #[.slice A0_0 l0_0.length c0_0, .int .i64 a0_1, .slice A0_2 l0_2.length c0_2] 25 (0, 0)) (oK BK994)) : gb994 ≠ gb1028)); have n16_ := Aside0.mk ((by rw [hg]; exact Nat.ne_of_gt (blk_lt (g := gb994) (o := .cells #[.slice A0_0 l0_0.length c0_0, .int .i64 a0_1, .slice A0_2 l0_2.length c0_2] 25 (0, 0)) (oK BK994)) : gb1028 ≠ gb994)); have n17_ := Aside0.mk ((by rw [hg]; exact Nat.ne_of_lt (blk_lt (g := gb1011) (o := .cells #[.slice Ao21 t1003.length co21, .int .i64 t1006, .slice Ao24 t1007.length co24] 30 (0, 0)) (oK BK1011)) : gb1011 ≠ gb1028)); have n18_ := Aside0.mk ((by rw [hg]; exact Nat.ne_of_gt (blk_lt (g := gb1011) (o := .cells #[.slice Ao21 t1003.length co21, .int .i64 t1006, .slice Ao24 t1007.length co24] 30 (0, 0)) (oK BK1011)) : gb1028 ≠ gb1011)); have n19_ := Aside0.mk ((by rw [hg]; exact Nat.ne_of_lt (blk_lt (g := gb1019) (o := .cells #[.slice Ao28 t1012.length co28, .int .i64 t1015, .slice Ao32 t1016.length co32] 30 (0, 0)) (oK BK1019)) : gb1019 ≠ gb1028)); have n20_ := Aside0.mk ((by rw [hg]; exact Nat.ne_of_gt (blk_lt (g := gb1019) (o := .cells #[.slice Ao28 t1012.length co28, .int .i64 t1015, .slice Ao32 t1016.length co32] 30 (0, 0)) (oK BK1019)) : gb1028 ≠ gb1019)); clear HO998; clear HO1002; clear HO1005; clear HO1009; clear HO1014; clear HO1018; clear HO1022; clear HO1026; clear BK994; clear BK1011; clear BK1019; clear HB; have HO998 := n0_; have HO1002 := n1_; have HO1005 := n2_; have HO1009 := n3_; have HO1014 := n4_; have HO1018 := n5_; have HO1022 := n6_; have HO1026 := n7_; have BK994 := n8_; have BK1011 := n9_; have BK1019 := n10_; have HB := n11_; have BK1028 := n12_; have GW1028 := n13_; have GE1028 := n14_; have NB994_1028 := n15_; have NB1028_994 := n16_; have NB1011_1028 := n17_; have NB1028_1011 := n18_; have NB1019_1028 := n19_; have NB1028_1019 := n20_; clear n0_ n1_ n2_ n3_ n4_ n5_ n6_ n7_ n8_ n9_ n10_ n11_ n12_ n13_ n14_ n15_ n16_ n17_ n18_ n19_ n20_; clear hb hbox hg; obtain ⟨Ao35, co35, eo35⟩ := Kd.R_slice HO1022.out; subst eo35; have hnb36 := NB1028_994.out; have hnc36 := NB994_1028.out; have hnb37 := NB1028_1011.out; have hnc37 := NB1011_1028.out; have hnb38 := NB1028_1019.out; have hnc38 := NB1019_1028.out; have hcz39_0 : w34.cell? ⟨gb1028, 0, none⟩ = some (.slice none 0 0) := (blk_cell BK1028.out 0).trans rfl; have hcz39_1 : w34.cell? ⟨gb1028, 1, none⟩ = some (.int .i64 0) := (blk_cell BK1028.out 1).trans rfl; have hcz39_2 : w34.cell? ⟨gb1028, 2, none⟩ = some (.slice none 0 0) := (blk_cell BK1028.out 2).trans rfl; have hfz39_0 := blk_frozen BK1028.out 0; have hfz39_1 := blk_frozen BK1028.out 1; have hfz39_2 := blk_frozen BK1028.out 2; obtain ⟨Ao40, co40, eo40⟩ := Kd.R_slice HO1026.out; subst eo40))
    (try simp only [Act.put, List.setIfInBounds_toArray, List.set_cons_zero, List.set_cons_succ])
    go_cut [40] (fun v40 wc => ∃ (kq : Nat) (x40_10 : Bool), v40 = .bool x40_10 ∧ Aside0 (laws_FnExactMendAll.j0 kq t1010 t1027 x40_10 l0_0 a0_1 l0_2 t1003 t1006 t1007 t1012 t1015 t1016 t1020 t1023 t1024 = some r) ∧ Aside0 (kq ≤ k) ∧ Aside0 (Kd.R k67 67 wc w.heap.size (fun k_ => some k_ ≠ ((.slice Ao28 t1012.length co28) : Value).ownBlock ∧ some k_ ≠ ((.slice Ao35 t1020.length co35) : Value).ownBlock) (.slice Ao21 t1003.length co21) t1003) ∧ Aside0 (Kd.R (Kd.int .i64) 3 wc w.heap.size (fun k_ => some k_ ≠ ((.slice Ao32 t1016.length co32) : Value).ownBlock ∧ some k_ ≠ ((.slice Ao40 t1024.length co40) : Value).ownBlock) (.slice Ao24 t1007.length co24) t1007) ∧ Aside0 (Kd.R k67 67 wc w.heap.size (fun k_ => some k_ ≠ ((.slice Ao21 t1003.length co21) : Value).ownBlock ∧ some k_ ≠ ((.slice Ao35 t1020.length co35) : Value).ownBlock) (.slice Ao28 t1012.length co28) t1012) ∧ Aside0 (Kd.R (Kd.int .i64) 3 wc w.heap.size (fun k_ => some k_ ≠ ((.slice Ao24 t1007.length co24) : Value).ownBlock ∧ some k_ ≠ ((.slice Ao40 t1024.length co40) : Value).ownBlock) (.slice Ao32 t1016.length co32) t1016) ∧ Aside0 (Kd.R k67 67 wc w.heap.size (fun k_ => some k_ ≠ ((.slice Ao21 t1003.length co21) : Value).ownBlock ∧ some k_ ≠ ((.slice Ao28 t1012.length co28) : Value).ownBlock) (.slice Ao35 t1020.length co35) t1020) ∧ Aside0 (Kd.R (Kd.int .i64) 3 wc w.heap.size (fun k_ => some k_ ≠ ((.slice Ao24 t1007.length co24) : Value).ownBlock ∧ some k_ ≠ ((.slice Ao32 t1016.length co32) : Value).ownBlock) (.slice Ao40 t1024.length co40) t1024) ∧ Aside0 (wc.heap[gb994]? = some (.cells #[(.slice A0_0 l0_0.length c0_0), .int .i64 a0_1, (.slice A0_2 l0_2.length c0_2)] 25 (0, 0))) ∧ Aside0 (wc.heap[gb1011]? = some (.cells #[(.slice Ao21 t1003.length co21), .int .i64 t1006, (.slice Ao24 t1007.length co24)] 30 (0, 0))) ∧ Aside0 (wc.heap[gb1019]? = some (.cells #[(.slice Ao28 t1012.length co28), .int .i64 t1015, (.slice Ao32 t1016.length co32)] 30 (0, 0))) ∧ Aside0 (wc.heap[gb1028]? = some (.cells #[(.slice Ao35 t1020.length co35), .int .i64 t1023, (.slice Ao40 t1024.length co40)] 30 (0, 0))) ∧ Aside0 (Below w.heap.size w wc))
    case first =>
      have H := HC11.out
      clear HC11
      replace H := Option.bind_eq_some_iff.mp H
      obtain ⟨t1029, A410, H⟩ := H
      (try dsimp only at H)
      have A41 := Aside0.mk A410
      clear A410
      by_cases c42 : t1029 = true
      · subst c42
        rw [if_pos rfl] at H
        have H' := Aside0.mk H
        clear H
        have hnb43 := NB1028_994.out
        have hnc43 := NB994_1028.out
        have hnb44 := NB1028_1011.out
        have hnc44 := NB1011_1028.out
        have hnb45 := NB1028_1019.out
        have hnc45 := NB1019_1028.out
        have hcz46_0 : w34.cell? ⟨gb1028, 0, none⟩ = some (.slice none 0 0) := (blk_cell BK1028.out 0).trans rfl
        have hcz46_1 : w34.cell? ⟨gb1028, 1, none⟩ = some (.int .i64 0) := (blk_cell BK1028.out 1).trans rfl
        have hcz46_2 : w34.cell? ⟨gb1028, 2, none⟩ = some (.slice none 0 0) := (blk_cell BK1028.out 2).trans rfl
        have hfz46_0 := blk_frozen BK1028.out 0
        have hfz46_1 := blk_frozen BK1028.out 1
        have hfz46_2 := blk_frozen BK1028.out 2
        have hnb47 := NB1011_994.out
        have hnc47 := NB994_1011.out
        have hnb48 := NB1011_1019.out
        have hnc48 := NB1019_1011.out
        have hcz49_0 : w34.cell? ⟨gb1011, 0, none⟩ = some (.slice Ao21 t1003.length co21) := (blk_cell BK1011.out 0).trans rfl
        have hcz49_1 : w34.cell? ⟨gb1011, 1, none⟩ = some (.int .i64 t1006) := (blk_cell BK1011.out 1).trans rfl
        have hcz49_2 : w34.cell? ⟨gb1011, 2, none⟩ = some (.slice Ao24 t1007.length co24) := (blk_cell BK1011.out 2).trans rfl
        have hfz49_0 := blk_frozen BK1011.out 0
        have hfz49_1 := blk_frozen BK1011.out 1
        have hfz49_2 := blk_frozen BK1011.out 2
        go_wp2_with (first | ((with_reducible refine gate_callee (f := 19) rfl ?_); refine goesL_ (some 34) rfl rfl Try.func19 (by kernel_rfl) rfl #[.agg #[.slice Ao35 t1020.length co35, .int .i64 t1023, .slice Ao40 t1024.length co40], .agg #[.slice Ao21 t1003.length co21, .int .i64 t1006, .slice Ao24 t1007.length co24]] rfl (by (try simp only [List.map_toArray, List.map_cons, List.map_nil]); first | done | rfl | (simp only [List.length_drop, List.length_take]; rfl)) ?_; (with_reducible refine (laws_eqWork.calls k _ _ t1020 t1023 _ _ t1024 _ _ t1003 t1006 _ _ t1007 true _ ?side1 ?side2 ?side3 ?side4 ?side5 ?side6 ?side7 ?side8 A41.out).mono ?_); (case side1 => refine (Kd.R_reads' (e := 67) (base := w.heap.size) (ok := fun k_ => (((True ∧ some k_ ≠ (.slice Ao17 t996.length co17 : Value).ownBlock) ∧ some k_ ≠ (.slice Ao21 t1003.length co21 : Value).ownBlock) ∧ some k_ ≠ (.slice Ao28 t1012.length co28 : Value).ownBlock)) (n := t1020.length) (c := co35) ?_).2.2; exact (by (with_reducible repeat (first | apply Kd.R_alloc | apply Kd.R_drewN | apply Kd.R_drew)); exact (Kd.R_mono (Kd.R_far (p := ⟨gb1028, 2, none⟩) (Kd.R_far (p := ⟨gb1028, 1, none⟩) (Kd.R_far (p := ⟨gb1028, 0, none⟩) (Kd.R_types HO1022.out BK1028.out (by decide)) (fun _ hk => hk.2) (.slice Ao35 t1020.length co35)) (fun _ hk => hk.2) (.int .i64 t1023)) (fun _ hk => hk.2) (.slice Ao40 t1024.length co40)) (fun _ h_ => h_.1)))); (case side2 => exact (Kd.R_reads' HO1022.out).2.1); (case side3 => refine (Kd.R_reads' (e := 3) (base := w.heap.size) (ok := fun k_ => (((True ∧ some k_ ≠ (.slice Ao18 t1000.length co18 : Value).ownBlock) ∧ some k_ ≠ (.slice Ao24 t1007.length co24 : Value).ownBlock) ∧ some k_ ≠ (.slice Ao32 t1016.length co32 : Value).ownBlock)) (n := t1024.length) (c := co40) ?_).2.2; exact (by (with_reducible repeat (first | apply Kd.R_alloc | apply Kd.R_drewN | apply Kd.R_drew)); exact (Kd.R_mono (Kd.R_far (p := ⟨gb1028, 2, none⟩) (Kd.R_far (p := ⟨gb1028, 1, none⟩) (Kd.R_far (p := ⟨gb1028, 0, none⟩) (Kd.R_types HO1026.out BK1028.out (by decide)) (fun _ hk => hk.2) (.slice Ao35 t1020.length co35)) (fun _ hk => hk.2) (.int .i64 t1023)) (fun _ hk => hk.2) (.slice Ao40 t1024.length co40)) (fun _ h_ => h_.1)))); (case side4 => exact (Kd.R_reads' HO1026.out).2.1); (case side5 => refine (Kd.R_reads' (e := 67) (base := w.heap.size) (ok := fun k_ => (((True ∧ some k_ ≠ (.slice Ao17 t996.length co17 : Value).ownBlock) ∧ some k_ ≠ (.slice Ao28 t1012.length co28 : Value).ownBlock) ∧ some k_ ≠ (.slice Ao35 t1020.length co35 : Value).ownBlock)) (n := t1003.length) (c := co21) ?_).2.2; exact (by (with_reducible repeat (first | apply Kd.R_alloc | apply Kd.R_drewN | apply Kd.R_drew)); exact (Kd.R_mono (Kd.R_far (p := ⟨gb1028, 2, none⟩) (Kd.R_far (p := ⟨gb1028, 1, none⟩) (Kd.R_far (p := ⟨gb1028, 0, none⟩) (Kd.R_types HO1005.out BK1028.out (by decide)) (fun _ hk => hk.2) (.slice Ao35 t1020.length co35)) (fun _ hk => hk.2) (.int .i64 t1023)) (fun _ hk => hk.2) (.slice Ao40 t1024.length co40)) (fun _ h_ => h_.1)))); (case side6 => exact (Kd.R_reads' HO1005.out).2.1); (case side7 => refine (Kd.R_reads' (e := 3) (base := w.heap.size) (ok := fun k_ => (((True ∧ some k_ ≠ (.slice Ao18 t1000.length co18 : Value).ownBlock) ∧ some k_ ≠ (.slice Ao32 t1016.length co32 : Value).ownBlock) ∧ some k_ ≠ (.slice Ao40 t1024.length co40 : Value).ownBlock)) (n := t1007.length) (c := co24) ?_).2.2; exact (by (with_reducible repeat (first | apply Kd.R_alloc | apply Kd.R_drewN | apply Kd.R_drew)); exact (Kd.R_mono (Kd.R_far (p := ⟨gb1028, 2, none⟩) (Kd.R_far (p := ⟨gb1028, 1, none⟩) (Kd.R_far (p := ⟨gb1028, 0, none⟩) (Kd.R_types HO1009.out BK1028.out (by decide)) (fun _ hk => hk.2) (.slice Ao35 t1020.length co35)) (fun _ hk => hk.2) (.int .i64 t1023)) (fun _ hk => hk.2) (.slice Ao40 t1024.length co40)) (fun _ h_ => h_.1)))); (case side8 => exact (Kd.R_reads' HO1009.out).2.1); rintro e w50 ⟨rfl, hb⟩; refine ⟨_, rfl, ?_⟩; have n0_ := Aside0.mk (Kd.R_below (by (with_reducible repeat (first | apply Kd.R_alloc | apply Kd.R_drewN | apply Kd.R_drew)); exact (Kd.R_mono (Kd.R_far (p := ⟨gb1028, 2, none⟩) (Kd.R_far (p := ⟨gb1028, 1, none⟩) (Kd.R_far (p := ⟨gb1028, 0, none⟩) (Kd.R_types HO998.out BK1028.out (by decide)) (fun _ hk => hk.2) (.slice Ao35 t1020.length co35)) (fun _ hk => hk.2) (.int .i64 t1023)) (fun _ hk => hk.2) (.slice Ao40 t1024.length co40)) (fun _ h_ => h_.1))) hb); have n1_ := Aside0.mk (Kd.R_below (by (with_reducible repeat (first | apply Kd.R_alloc | apply Kd.R_drewN | apply Kd.R_drew)); exact (Kd.R_mono (Kd.R_far (p := ⟨gb1028, 2, none⟩) (Kd.R_far (p := ⟨gb1028, 1, none⟩) (Kd.R_far (p := ⟨gb1028, 0, none⟩) (Kd.R_types HO1002.out BK1028.out (by decide)) (fun _ hk => hk.2) (.slice Ao35 t1020.length co35)) (fun _ hk => hk.2) (.int .i64 t1023)) (fun _ hk => hk.2) (.slice Ao40 t1024.length co40)) (fun _ h_ => h_.1))) hb); have n2_ := Aside0.mk (Kd.R_below (by (with_reducible repeat (first | apply Kd.R_alloc | apply Kd.R_drewN | apply Kd.R_drew)); exact (Kd.R_mono (Kd.R_far (p := ⟨gb1028, 2, none⟩) (Kd.R_far (p := ⟨gb1028, 1, none⟩) (Kd.R_far (p := ⟨gb1028, 0, none⟩) (Kd.R_types HO1005.out BK1028.out (by decide)) (fun _ hk => hk.2) (.slice Ao35 t1020.length co35)) (fun _ hk => hk.2) (.int .i64 t1023)) (fun _ hk => hk.2) (.slice Ao40 t1024.length co40)) (fun _ h_ => h_.1))) hb); have n3_ := Aside0.mk (Kd.R_below (by (with_reducible repeat (first | apply Kd.R_alloc | apply Kd.R_drewN | apply Kd.R_drew)); exact (Kd.R_mono (Kd.R_far (p := ⟨gb1028, 2, none⟩) (Kd.R_far (p := ⟨gb1028, 1, none⟩) (Kd.R_far (p := ⟨gb1028, 0, none⟩) (Kd.R_types HO1009.out BK1028.out (by decide)) (fun _ hk => hk.2) (.slice Ao35 t1020.length co35)) (fun _ hk => hk.2) (.int .i64 t1023)) (fun _ hk => hk.2) (.slice Ao40 t1024.length co40)) (fun _ h_ => h_.1))) hb); have n4_ := Aside0.mk (Kd.R_below (by (with_reducible repeat (first | apply Kd.R_alloc | apply Kd.R_drewN | apply Kd.R_drew)); exact (Kd.R_mono (Kd.R_far (p := ⟨gb1028, 2, none⟩) (Kd.R_far (p := ⟨gb1028, 1, none⟩) (Kd.R_far (p := ⟨gb1028, 0, none⟩) (Kd.R_types HO1014.out BK1028.out (by decide)) (fun _ hk => hk.2) (.slice Ao35 t1020.length co35)) (fun _ hk => hk.2) (.int .i64 t1023)) (fun _ hk => hk.2) (.slice Ao40 t1024.length co40)) (fun _ h_ => h_.1))) hb); have n5_ := Aside0.mk (Kd.R_below (by (with_reducible repeat (first | apply Kd.R_alloc | apply Kd.R_drewN | apply Kd.R_drew)); exact (Kd.R_mono (Kd.R_far (p := ⟨gb1028, 2, none⟩) (Kd.R_far (p := ⟨gb1028, 1, none⟩) (Kd.R_far (p := ⟨gb1028, 0, none⟩) (Kd.R_types HO1018.out BK1028.out (by decide)) (fun _ hk => hk.2) (.slice Ao35 t1020.length co35)) (fun _ hk => hk.2) (.int .i64 t1023)) (fun _ hk => hk.2) (.slice Ao40 t1024.length co40)) (fun _ h_ => h_.1))) hb); have n6_ := Aside0.mk (Kd.R_below (by (with_reducible repeat (first | apply Kd.R_alloc | apply Kd.R_drewN | apply Kd.R_drew)); exact (Kd.R_mono (Kd.R_far (p := ⟨gb1028, 2, none⟩) (Kd.R_far (p := ⟨gb1028, 1, none⟩) (Kd.R_far (p := ⟨gb1028, 0, none⟩) (Kd.R_types HO1022.out BK1028.out (by decide)) (fun _ hk => hk.2) (.slice Ao35 t1020.length co35)) (fun _ hk => hk.2) (.int .i64 t1023)) (fun _ hk => hk.2) (.slice Ao40 t1024.length co40)) (fun _ h_ => h_.1))) hb); have n7_ := Aside0.mk (Kd.R_below (by (with_reducible repeat (first | apply Kd.R_alloc | apply Kd.R_drewN | apply Kd.R_drew)); exact (Kd.R_mono (Kd.R_far (p := ⟨gb1028, 2, none⟩) (Kd.R_far (p := ⟨gb1028, 1, none⟩) (Kd.R_far (p := ⟨gb1028, 0, none⟩) (Kd.R_types HO1026.out BK1028.out (by decide)) (fun _ hk => hk.2) (.slice Ao35 t1020.length co35)) (fun _ hk => hk.2) (.int .i64 t1023)) (fun _ hk => hk.2) (.slice Ao40 t1024.length co40)) (fun _ h_ => h_.1))) hb); have n8_ := Aside0.mk (blk_below (g := gb994) (o := .cells #[.slice A0_0 l0_0.length c0_0, .int .i64 a0_1, .slice A0_2 l0_2.length c0_2] 25 (0, 0)) (by (with_reducible repeat (first | refine blk_drewN ?_ _ | refine blk_drew ?_ | refine blk_alloc ?_ _)); refine blk_far ?_ NB994_1028.out _; (with_reducible repeat (first | refine blk_drewN ?_ _ | refine blk_drew ?_ | refine blk_alloc ?_ _)); refine blk_far ?_ NB994_1028.out _; (with_reducible repeat (first | refine blk_drewN ?_ _ | refine blk_drew ?_ | refine blk_alloc ?_ _)); refine blk_far ?_ NB994_1028.out _; (with_reducible repeat (first | refine blk_drewN ?_ _ | refine blk_drew ?_ | refine blk_alloc ?_ _)); exact BK994.out) hb); have n9_ := Aside0.mk (blk_below (g := gb1011) (o := .cells #[.slice Ao21 t1003.length co21, .int .i64 t1006, .slice Ao24 t1007.length co24] 30 (0, 0)) (by (with_reducible repeat (first | refine blk_drewN ?_ _ | refine blk_drew ?_ | refine blk_alloc ?_ _)); refine blk_far ?_ NB1011_1028.out _; (with_reducible repeat (first | refine blk_drewN ?_ _ | refine blk_drew ?_ | refine blk_alloc ?_ _)); refine blk_far ?_ NB1011_1028.out _; (with_reducible repeat (first | refine blk_drewN ?_ _ | refine blk_drew ?_ | refine blk_alloc ?_ _)); refine blk_far ?_ NB1011_1028.out _; (with_reducible repeat (first | refine blk_drewN ?_ _ | refine blk_drew ?_ | refine blk_alloc ?_ _)); exact BK1011.out) hb); have n10_ := Aside0.mk (blk_below (g := gb1019) (o := .cells #[.slice Ao28 t1012.length co28, .int .i64 t1015, .slice Ao32 t1016.length co32] 30 (0, 0)) (by (with_reducible repeat (first | refine blk_drewN ?_ _ | refine blk_drew ?_ | refine blk_alloc ?_ _)); refine blk_far ?_ NB1019_1028.out _; (with_reducible repeat (first | refine blk_drewN ?_ _ | refine blk_drew ?_ | refine blk_alloc ?_ _)); refine blk_far ?_ NB1019_1028.out _; (with_reducible repeat (first | refine blk_drewN ?_ _ | refine blk_drew ?_ | refine blk_alloc ?_ _)); refine blk_far ?_ NB1019_1028.out _; (with_reducible repeat (first | refine blk_drewN ?_ _ | refine blk_drew ?_ | refine blk_alloc ?_ _)); exact BK1019.out) hb); have n11_ := Aside0.mk (blk_below (g := gb1028) (o := .cells #[.slice Ao35 t1020.length co35, .int .i64 t1023, .slice Ao40 t1024.length co40] 30 (0, 0)) (by (with_reducible repeat (first | refine blk_drewN ?_ _ | refine blk_drew ?_ | refine blk_alloc ?_ _)); refine blk_put (cs := #[.slice Ao35 t1020.length co35, .int .i64 t1023, .slice none 0 0]) ?_ 2 _ rfl; (with_reducible repeat (first | refine blk_drewN ?_ _ | refine blk_drew ?_ | refine blk_alloc ?_ _)); refine blk_put (cs := #[.slice Ao35 t1020.length co35, .int .i64 0, .slice none 0 0]) ?_ 1 _ rfl; (with_reducible repeat (first | refine blk_drewN ?_ _ | refine blk_drew ?_ | refine blk_alloc ?_ _)); refine blk_put (cs := #[.slice none 0 0, .int .i64 0, .slice none 0 0]) ?_ 0 _ rfl; (with_reducible repeat (first | refine blk_drewN ?_ _ | refine blk_drew ?_ | refine blk_alloc ?_ _)); exact BK1028.out) hb); have n12_ := Aside0.mk (below_step (oB HB) hb); clear HO998; clear HO1002; clear HO1005; clear HO1009; clear HO1014; clear HO1018; clear HO1022; clear HO1026; clear BK994; clear BK1011; clear BK1019; clear BK1028; clear HB; have HO998 := n0_; have HO1002 := n1_; have HO1005 := n2_; have HO1009 := n3_; have HO1014 := n4_; have HO1018 := n5_; have HO1022 := n6_; have HO1026 := n7_; have BK994 := n8_; have BK1011 := n9_; have BK1019 := n10_; have BK1028 := n11_; have HB := n12_; clear n0_ n1_ n2_ n3_ n4_ n5_ n6_ n7_ n8_ n9_ n10_ n11_ n12_; (try clear hb); (try clear hb2); (try clear hk); (try clear hi)))
        go_meet
        case rel => exact ⟨_, ((t1027 != t1010)), (by first | rfl | (simp; done) | (simp [*]; done)), H', ⟨by first | omega | exact Nat.le_refl _⟩, ⟨by (with_reducible repeat (first | apply Kd.R_alloc | apply Kd.R_drewN | apply Kd.R_drew)); exact Kd.R_mono HO1005.out (fun _ hk => ⟨hk.1.2, hk.2⟩)⟩, ⟨by (with_reducible repeat (first | apply Kd.R_alloc | apply Kd.R_drewN | apply Kd.R_drew)); exact Kd.R_mono HO1009.out (fun _ hk => ⟨hk.1.2, hk.2⟩)⟩, ⟨by (with_reducible repeat (first | apply Kd.R_alloc | apply Kd.R_drewN | apply Kd.R_drew)); exact Kd.R_mono HO1014.out (fun _ hk => ⟨hk.1.2, hk.2⟩)⟩, ⟨by (with_reducible repeat (first | apply Kd.R_alloc | apply Kd.R_drewN | apply Kd.R_drew)); exact Kd.R_mono HO1018.out (fun _ hk => ⟨hk.1.2, hk.2⟩)⟩, ⟨by (with_reducible repeat (first | apply Kd.R_alloc | apply Kd.R_drewN | apply Kd.R_drew)); exact Kd.R_mono HO1022.out (fun _ hk => ⟨hk.1.2, hk.2⟩)⟩, ⟨by (with_reducible repeat (first | apply Kd.R_alloc | apply Kd.R_drewN | apply Kd.R_drew)); exact Kd.R_mono HO1026.out (fun _ hk => ⟨hk.1.2, hk.2⟩)⟩, ⟨oK BK994⟩, ⟨oK BK1011⟩, ⟨oK BK1019⟩, ⟨oK BK1028⟩, ⟨oB HB⟩⟩
      · replace c42 := Bool.eq_false_iff.mpr c42
        subst c42
        rw [if_neg (show ¬ (false = true) by decide)] at H
        have H' := Aside0.mk H
        clear H
        have hnb51 := NB1028_994.out
        have hnc51 := NB994_1028.out
        have hnb52 := NB1028_1011.out
        have hnc52 := NB1011_1028.out
        have hnb53 := NB1028_1019.out
        have hnc53 := NB1019_1028.out
        have hcz54_0 : w34.cell? ⟨gb1028, 0, none⟩ = some (.slice none 0 0) := (blk_cell BK1028.out 0).trans rfl
        have hcz54_1 : w34.cell? ⟨gb1028, 1, none⟩ = some (.int .i64 0) := (blk_cell BK1028.out 1).trans rfl
        have hcz54_2 : w34.cell? ⟨gb1028, 2, none⟩ = some (.slice none 0 0) := (blk_cell BK1028.out 2).trans rfl
        have hfz54_0 := blk_frozen BK1028.out 0
        have hfz54_1 := blk_frozen BK1028.out 1
        have hfz54_2 := blk_frozen BK1028.out 2
        have hnb55 := NB1011_994.out
        have hnc55 := NB994_1011.out
        have hnb56 := NB1011_1019.out
        have hnc56 := NB1019_1011.out
        have hcz57_0 : w34.cell? ⟨gb1011, 0, none⟩ = some (.slice Ao21 t1003.length co21) := (blk_cell BK1011.out 0).trans rfl
        have hcz57_1 : w34.cell? ⟨gb1011, 1, none⟩ = some (.int .i64 t1006) := (blk_cell BK1011.out 1).trans rfl
        have hcz57_2 : w34.cell? ⟨gb1011, 2, none⟩ = some (.slice Ao24 t1007.length co24) := (blk_cell BK1011.out 2).trans rfl
        have hfz57_0 := blk_frozen BK1011.out 0
        have hfz57_1 := blk_frozen BK1011.out 1
        have hfz57_2 := blk_frozen BK1011.out 2
        go_wp2_with (first | ((with_reducible refine gate_callee (f := 19) rfl ?_); refine goesL_ (some 34) rfl rfl Try.func19 (by kernel_rfl) rfl #[.agg #[.slice Ao35 t1020.length co35, .int .i64 t1023, .slice Ao40 t1024.length co40], .agg #[.slice Ao21 t1003.length co21, .int .i64 t1006, .slice Ao24 t1007.length co24]] rfl (by (try simp only [List.map_toArray, List.map_cons, List.map_nil]); first | done | rfl | (simp only [List.length_drop, List.length_take]; rfl)) ?_; (with_reducible refine (laws_eqWork.calls k _ _ t1020 t1023 _ _ t1024 _ _ t1003 t1006 _ _ t1007 false _ ?side1 ?side2 ?side3 ?side4 ?side5 ?side6 ?side7 ?side8 A41.out).mono ?_); (case side1 => refine (Kd.R_reads' (e := 67) (base := w.heap.size) (ok := fun k_ => (((True ∧ some k_ ≠ (.slice Ao17 t996.length co17 : Value).ownBlock) ∧ some k_ ≠ (.slice Ao21 t1003.length co21 : Value).ownBlock) ∧ some k_ ≠ (.slice Ao28 t1012.length co28 : Value).ownBlock)) (n := t1020.length) (c := co35) ?_).2.2; exact (by (with_reducible repeat (first | apply Kd.R_alloc | apply Kd.R_drewN | apply Kd.R_drew)); exact (Kd.R_mono (Kd.R_far (p := ⟨gb1028, 2, none⟩) (Kd.R_far (p := ⟨gb1028, 1, none⟩) (Kd.R_far (p := ⟨gb1028, 0, none⟩) (Kd.R_types HO1022.out BK1028.out (by decide)) (fun _ hk => hk.2) (.slice Ao35 t1020.length co35)) (fun _ hk => hk.2) (.int .i64 t1023)) (fun _ hk => hk.2) (.slice Ao40 t1024.length co40)) (fun _ h_ => h_.1)))); (case side2 => exact (Kd.R_reads' HO1022.out).2.1); (case side3 => refine (Kd.R_reads' (e := 3) (base := w.heap.size) (ok := fun k_ => (((True ∧ some k_ ≠ (.slice Ao18 t1000.length co18 : Value).ownBlock) ∧ some k_ ≠ (.slice Ao24 t1007.length co24 : Value).ownBlock) ∧ some k_ ≠ (.slice Ao32 t1016.length co32 : Value).ownBlock)) (n := t1024.length) (c := co40) ?_).2.2; exact (by (with_reducible repeat (first | apply Kd.R_alloc | apply Kd.R_drewN | apply Kd.R_drew)); exact (Kd.R_mono (Kd.R_far (p := ⟨gb1028, 2, none⟩) (Kd.R_far (p := ⟨gb1028, 1, none⟩) (Kd.R_far (p := ⟨gb1028, 0, none⟩) (Kd.R_types HO1026.out BK1028.out (by decide)) (fun _ hk => hk.2) (.slice Ao35 t1020.length co35)) (fun _ hk => hk.2) (.int .i64 t1023)) (fun _ hk => hk.2) (.slice Ao40 t1024.length co40)) (fun _ h_ => h_.1)))); (case side4 => exact (Kd.R_reads' HO1026.out).2.1); (case side5 => refine (Kd.R_reads' (e := 67) (base := w.heap.size) (ok := fun k_ => (((True ∧ some k_ ≠ (.slice Ao17 t996.length co17 : Value).ownBlock) ∧ some k_ ≠ (.slice Ao28 t1012.length co28 : Value).ownBlock) ∧ some k_ ≠ (.slice Ao35 t1020.length co35 : Value).ownBlock)) (n := t1003.length) (c := co21) ?_).2.2; exact (by (with_reducible repeat (first | apply Kd.R_alloc | apply Kd.R_drewN | apply Kd.R_drew)); exact (Kd.R_mono (Kd.R_far (p := ⟨gb1028, 2, none⟩) (Kd.R_far (p := ⟨gb1028, 1, none⟩) (Kd.R_far (p := ⟨gb1028, 0, none⟩) (Kd.R_types HO1005.out BK1028.out (by decide)) (fun _ hk => hk.2) (.slice Ao35 t1020.length co35)) (fun _ hk => hk.2) (.int .i64 t1023)) (fun _ hk => hk.2) (.slice Ao40 t1024.length co40)) (fun _ h_ => h_.1)))); (case side6 => exact (Kd.R_reads' HO1005.out).2.1); (case side7 => refine (Kd.R_reads' (e := 3) (base := w.heap.size) (ok := fun k_ => (((True ∧ some k_ ≠ (.slice Ao18 t1000.length co18 : Value).ownBlock) ∧ some k_ ≠ (.slice Ao32 t1016.length co32 : Value).ownBlock) ∧ some k_ ≠ (.slice Ao40 t1024.length co40 : Value).ownBlock)) (n := t1007.length) (c := co24) ?_).2.2; exact (by (with_reducible repeat (first | apply Kd.R_alloc | apply Kd.R_drewN | apply Kd.R_drew)); exact (Kd.R_mono (Kd.R_far (p := ⟨gb1028, 2, none⟩) (Kd.R_far (p := ⟨gb1028, 1, none⟩) (Kd.R_far (p := ⟨gb1028, 0, none⟩) (Kd.R_types HO1009.out BK1028.out (by decide)) (fun _ hk => hk.2) (.slice Ao35 t1020.length co35)) (fun _ hk => hk.2) (.int .i64 t1023)) (fun _ hk => hk.2) (.slice Ao40 t1024.length co40)) (fun _ h_ => h_.1)))); (case side8 => exact (Kd.R_reads' HO1009.out).2.1); rintro e w58 ⟨rfl, hb⟩; refine ⟨_, rfl, ?_⟩; have n0_ := Aside0.mk (Kd.R_below (by (with_reducible repeat (first | apply Kd.R_alloc | apply Kd.R_drewN | apply Kd.R_drew)); exact (Kd.R_mono (Kd.R_far (p := ⟨gb1028, 2, none⟩) (Kd.R_far (p := ⟨gb1028, 1, none⟩) (Kd.R_far (p := ⟨gb1028, 0, none⟩) (Kd.R_types HO998.out BK1028.out (by decide)) (fun _ hk => hk.2) (.slice Ao35 t1020.length co35)) (fun _ hk => hk.2) (.int .i64 t1023)) (fun _ hk => hk.2) (.slice Ao40 t1024.length co40)) (fun _ h_ => h_.1))) hb); have n1_ := Aside0.mk (Kd.R_below (by (with_reducible repeat (first | apply Kd.R_alloc | apply Kd.R_drewN | apply Kd.R_drew)); exact (Kd.R_mono (Kd.R_far (p := ⟨gb1028, 2, none⟩) (Kd.R_far (p := ⟨gb1028, 1, none⟩) (Kd.R_far (p := ⟨gb1028, 0, none⟩) (Kd.R_types HO1002.out BK1028.out (by decide)) (fun _ hk => hk.2) (.slice Ao35 t1020.length co35)) (fun _ hk => hk.2) (.int .i64 t1023)) (fun _ hk => hk.2) (.slice Ao40 t1024.length co40)) (fun _ h_ => h_.1))) hb); have n2_ := Aside0.mk (Kd.R_below (by (with_reducible repeat (first | apply Kd.R_alloc | apply Kd.R_drewN | apply Kd.R_drew)); exact (Kd.R_mono (Kd.R_far (p := ⟨gb1028, 2, none⟩) (Kd.R_far (p := ⟨gb1028, 1, none⟩) (Kd.R_far (p := ⟨gb1028, 0, none⟩) (Kd.R_types HO1005.out BK1028.out (by decide)) (fun _ hk => hk.2) (.slice Ao35 t1020.length co35)) (fun _ hk => hk.2) (.int .i64 t1023)) (fun _ hk => hk.2) (.slice Ao40 t1024.length co40)) (fun _ h_ => h_.1))) hb); have n3_ := Aside0.mk (Kd.R_below (by (with_reducible repeat (first | apply Kd.R_alloc | apply Kd.R_drewN | apply Kd.R_drew)); exact (Kd.R_mono (Kd.R_far (p := ⟨gb1028, 2, none⟩) (Kd.R_far (p := ⟨gb1028, 1, none⟩) (Kd.R_far (p := ⟨gb1028, 0, none⟩) (Kd.R_types HO1009.out BK1028.out (by decide)) (fun _ hk => hk.2) (.slice Ao35 t1020.length co35)) (fun _ hk => hk.2) (.int .i64 t1023)) (fun _ hk => hk.2) (.slice Ao40 t1024.length co40)) (fun _ h_ => h_.1))) hb); have n4_ := Aside0.mk (Kd.R_below (by (with_reducible repeat (first | apply Kd.R_alloc | apply Kd.R_drewN | apply Kd.R_drew)); exact (Kd.R_mono (Kd.R_far (p := ⟨gb1028, 2, none⟩) (Kd.R_far (p := ⟨gb1028, 1, none⟩) (Kd.R_far (p := ⟨gb1028, 0, none⟩) (Kd.R_types HO1014.out BK1028.out (by decide)) (fun _ hk => hk.2) (.slice Ao35 t1020.length co35)) (fun _ hk => hk.2) (.int .i64 t1023)) (fun _ hk => hk.2) (.slice Ao40 t1024.length co40)) (fun _ h_ => h_.1))) hb); have n5_ := Aside0.mk (Kd.R_below (by (with_reducible repeat (first | apply Kd.R_alloc | apply Kd.R_drewN | apply Kd.R_drew)); exact (Kd.R_mono (Kd.R_far (p := ⟨gb1028, 2, none⟩) (Kd.R_far (p := ⟨gb1028, 1, none⟩) (Kd.R_far (p := ⟨gb1028, 0, none⟩) (Kd.R_types HO1018.out BK1028.out (by decide)) (fun _ hk => hk.2) (.slice Ao35 t1020.length co35)) (fun _ hk => hk.2) (.int .i64 t1023)) (fun _ hk => hk.2) (.slice Ao40 t1024.length co40)) (fun _ h_ => h_.1))) hb); have n6_ := Aside0.mk (Kd.R_below (by (with_reducible repeat (first | apply Kd.R_alloc | apply Kd.R_drewN | apply Kd.R_drew)); exact (Kd.R_mono (Kd.R_far (p := ⟨gb1028, 2, none⟩) (Kd.R_far (p := ⟨gb1028, 1, none⟩) (Kd.R_far (p := ⟨gb1028, 0, none⟩) (Kd.R_types HO1022.out BK1028.out (by decide)) (fun _ hk => hk.2) (.slice Ao35 t1020.length co35)) (fun _ hk => hk.2) (.int .i64 t1023)) (fun _ hk => hk.2) (.slice Ao40 t1024.length co40)) (fun _ h_ => h_.1))) hb); have n7_ := Aside0.mk (Kd.R_below (by (with_reducible repeat (first | apply Kd.R_alloc | apply Kd.R_drewN | apply Kd.R_drew)); exact (Kd.R_mono (Kd.R_far (p := ⟨gb1028, 2, none⟩) (Kd.R_far (p := ⟨gb1028, 1, none⟩) (Kd.R_far (p := ⟨gb1028, 0, none⟩) (Kd.R_types HO1026.out BK1028.out (by decide)) (fun _ hk => hk.2) (.slice Ao35 t1020.length co35)) (fun _ hk => hk.2) (.int .i64 t1023)) (fun _ hk => hk.2) (.slice Ao40 t1024.length co40)) (fun _ h_ => h_.1))) hb); have n8_ := Aside0.mk (blk_below (g := gb994) (o := .cells #[.slice A0_0 l0_0.length c0_0, .int .i64 a0_1, .slice A0_2 l0_2.length c0_2] 25 (0, 0)) (by (with_reducible repeat (first | refine blk_drewN ?_ _ | refine blk_drew ?_ | refine blk_alloc ?_ _)); refine blk_far ?_ NB994_1028.out _; (with_reducible repeat (first | refine blk_drewN ?_ _ | refine blk_drew ?_ | refine blk_alloc ?_ _)); refine blk_far ?_ NB994_1028.out _; (with_reducible repeat (first | refine blk_drewN ?_ _ | refine blk_drew ?_ | refine blk_alloc ?_ _)); refine blk_far ?_ NB994_1028.out _; (with_reducible repeat (first | refine blk_drewN ?_ _ | refine blk_drew ?_ | refine blk_alloc ?_ _)); exact BK994.out) hb); have n9_ := Aside0.mk (blk_below (g := gb1011) (o := .cells #[.slice Ao21 t1003.length co21, .int .i64 t1006, .slice Ao24 t1007.length co24] 30 (0, 0)) (by (with_reducible repeat (first | refine blk_drewN ?_ _ | refine blk_drew ?_ | refine blk_alloc ?_ _)); refine blk_far ?_ NB1011_1028.out _; (with_reducible repeat (first | refine blk_drewN ?_ _ | refine blk_drew ?_ | refine blk_alloc ?_ _)); refine blk_far ?_ NB1011_1028.out _; (with_reducible repeat (first | refine blk_drewN ?_ _ | refine blk_drew ?_ | refine blk_alloc ?_ _)); refine blk_far ?_ NB1011_1028.out _; (with_reducible repeat (first | refine blk_drewN ?_ _ | refine blk_drew ?_ | refine blk_alloc ?_ _)); exact BK1011.out) hb); have n10_ := Aside0.mk (blk_below (g := gb1019) (o := .cells #[.slice Ao28 t1012.length co28, .int .i64 t1015, .slice Ao32 t1016.length co32] 30 (0, 0)) (by (with_reducible repeat (first | refine blk_drewN ?_ _ | refine blk_drew ?_ | refine blk_alloc ?_ _)); refine blk_far ?_ NB1019_1028.out _; (with_reducible repeat (first | refine blk_drewN ?_ _ | refine blk_drew ?_ | refine blk_alloc ?_ _)); refine blk_far ?_ NB1019_1028.out _; (with_reducible repeat (first | refine blk_drewN ?_ _ | refine blk_drew ?_ | refine blk_alloc ?_ _)); refine blk_far ?_ NB1019_1028.out _; (with_reducible repeat (first | refine blk_drewN ?_ _ | refine blk_drew ?_ | refine blk_alloc ?_ _)); exact BK1019.out) hb); have n11_ := Aside0.mk (blk_below (g := gb1028) (o := .cells #[.slice Ao35 t1020.length co35, .int .i64 t1023, .slice Ao40 t1024.length co40] 30 (0, 0)) (by (with_reducible repeat (first | refine blk_drewN ?_ _ | refine blk_drew ?_ | refine blk_alloc ?_ _)); refine blk_put (cs := #[.slice Ao35 t1020.length co35, .int .i64 t1023, .slice none 0 0]) ?_ 2 _ rfl; (with_reducible repeat (first | refine blk_drewN ?_ _ | refine blk_drew ?_ | refine blk_alloc ?_ _)); refine blk_put (cs := #[.slice Ao35 t1020.length co35, .int .i64 0, .slice none 0 0]) ?_ 1 _ rfl; (with_reducible repeat (first | refine blk_drewN ?_ _ | refine blk_drew ?_ | refine blk_alloc ?_ _)); refine blk_put (cs := #[.slice none 0 0, .int .i64 0, .slice none 0 0]) ?_ 0 _ rfl; (with_reducible repeat (first | refine blk_drewN ?_ _ | refine blk_drew ?_ | refine blk_alloc ?_ _)); exact BK1028.out) hb); have n12_ := Aside0.mk (below_step (oB HB) hb); clear HO998; clear HO1002; clear HO1005; clear HO1009; clear HO1014; clear HO1018; clear HO1022; clear HO1026; clear BK994; clear BK1011; clear BK1019; clear BK1028; clear HB; have HO998 := n0_; have HO1002 := n1_; have HO1005 := n2_; have HO1009 := n3_; have HO1014 := n4_; have HO1018 := n5_; have HO1022 := n6_; have HO1026 := n7_; have BK994 := n8_; have BK1011 := n9_; have BK1019 := n10_; have BK1028 := n11_; have HB := n12_; clear n0_ n1_ n2_ n3_ n4_ n5_ n6_ n7_ n8_ n9_ n10_ n11_ n12_; (try clear hb); (try clear hb2); (try clear hk); (try clear hi)))
        go_meet
        case rel => exact ⟨_, (true), (by first | rfl | (simp; done) | (simp [*]; done)), H', ⟨by first | omega | exact Nat.le_refl _⟩, ⟨by (with_reducible repeat (first | apply Kd.R_alloc | apply Kd.R_drewN | apply Kd.R_drew)); exact Kd.R_mono HO1005.out (fun _ hk => ⟨hk.1.2, hk.2⟩)⟩, ⟨by (with_reducible repeat (first | apply Kd.R_alloc | apply Kd.R_drewN | apply Kd.R_drew)); exact Kd.R_mono HO1009.out (fun _ hk => ⟨hk.1.2, hk.2⟩)⟩, ⟨by (with_reducible repeat (first | apply Kd.R_alloc | apply Kd.R_drewN | apply Kd.R_drew)); exact Kd.R_mono HO1014.out (fun _ hk => ⟨hk.1.2, hk.2⟩)⟩, ⟨by (with_reducible repeat (first | apply Kd.R_alloc | apply Kd.R_drewN | apply Kd.R_drew)); exact Kd.R_mono HO1018.out (fun _ hk => ⟨hk.1.2, hk.2⟩)⟩, ⟨by (with_reducible repeat (first | apply Kd.R_alloc | apply Kd.R_drewN | apply Kd.R_drew)); exact Kd.R_mono HO1022.out (fun _ hk => ⟨hk.1.2, hk.2⟩)⟩, ⟨by (with_reducible repeat (first | apply Kd.R_alloc | apply Kd.R_drewN | apply Kd.R_drew)); exact Kd.R_mono HO1026.out (fun _ hk => ⟨hk.1.2, hk.2⟩)⟩, ⟨oK BK994⟩, ⟨oK BK1011⟩, ⟨oK BK1019⟩, ⟨oK BK1028⟩, ⟨oB HB⟩⟩
    case rest =>
      clear HC11
      try clear c1
      try clear c2
      try clear p2
      try clear c3
      try clear c3b0
      try clear c4
      try clear c5
      try clear c12
      try clear c15
      try clear c17
      try clear c19
      try clear c22
      try clear c29
      try clear c30
      try clear c36
      try clear c37
      try clear c38
      try clear c42
      try clear c43
      try clear c44
      try clear c45
      try clear c46
      try clear c47
      try clear c48
      try clear c51
      try clear c52
      try clear c53
      try clear c55
      try clear c56
      try clear hcz13_0
      try clear hcz13_1
      try clear hcz13_2
      try clear hcz15_0
      try clear hcz15_1
      try clear hcz15_2
      try clear hcz23_0
      try clear hcz23_1
      try clear hcz23_2
      try clear hcz25_0
      try clear hcz25_1
      try clear hcz25_2
      try clear hcz31_0
      try clear hcz31_1
      try clear hcz31_2
      try clear hcz39_0
      try clear hcz39_1
      try clear hcz39_2
      try clear hcz46_0
      try clear hcz46_1
      try clear hcz46_2
      try clear hcz49_0
      try clear hcz49_1
      try clear hcz49_2
      try clear hcz54_0
      try clear hcz54_1
      try clear hcz54_2
      try clear hcz57_0
      try clear hcz57_1
      try clear hcz57_2
      try clear hcz5_0
      try clear hcz5_1
      try clear hcz5_2
      try clear hfz13_0
      try clear hfz13_1
      try clear hfz13_2
      try clear hfz15_0
      try clear hfz15_1
      try clear hfz15_2
      try clear hfz23_0
      try clear hfz23_1
      try clear hfz23_2
      try clear hfz25_0
      try clear hfz25_1
      try clear hfz25_2
      try clear hfz31_0
      try clear hfz31_1
      try clear hfz31_2
      try clear hfz39_0
      try clear hfz39_1
      try clear hfz39_2
      try clear hfz46_0
      try clear hfz46_1
      try clear hfz46_2
      try clear hfz49_0
      try clear hfz49_1
      try clear hfz49_2
      try clear hfz54_0
      try clear hfz54_1
      try clear hfz54_2
      try clear hfz57_0
      try clear hfz57_1
      try clear hfz57_2
      try clear hfz5_0
      try clear hfz5_1
      try clear hfz5_2
      obtain ⟨kq, x40_10, rfl, HA, HJ10, HO_1012000, HO_1012002, HO_1020000, HO_1020002, HO_1029000, HO_1029002, BK994, BK1011, BK1019, BK1028, HB⟩ := hcut
      cases kq with
      | zero => exact absurd HA.out (by simp [laws_FnExactMendAll.j0])
      | succ kj10 =>
        have H := HA.out
        clear HA
        simp only [laws_FnExactMendAll.j0] at H
        by_cases c59 : x40_10 = true
        · subst c59
          rw [if_pos rfl] at H
          exact absurd ((Option.some.inj H).trans hrt_.out) (by decide)
        · replace c59 := Bool.eq_false_iff.mpr c59
          subst c59
          rw [if_neg (show ¬ (false = true) by decide)] at H
          replace H := Option.bind_eq_some_iff.mp H
          obtain ⟨⟨t1030, t1033, t1034⟩, A600, H⟩ := H
          (try dsimp only at H)
          have A60 := Aside0.mk A600
          clear A600
          replace H := Option.bind_eq_some_iff.mp H
          obtain ⟨t1037, A610, H⟩ := H
          (try dsimp only at H)
          have A61 := Aside0.mk A610
          clear A610
          by_cases c62 : t1037 = true
          · subst c62
            rw [if_pos rfl] at H
            replace H := Option.bind_eq_some_iff.mp H
            obtain ⟨⟨t1038, t1039, t1040⟩, A630, H⟩ := H
            (try dsimp only at H)
            have A63 := Aside0.mk A630
            clear A630
            have HC64 := Aside0.mk H
            clear H
            try go_wp2
            have n0_ := Aside0.mk (Kd.R_drew HO_1012000.out)
            have n1_ := Aside0.mk (Kd.R_drew HO_1012002.out)
            have n2_ := Aside0.mk (Kd.R_drew HO_1020000.out)
            have n3_ := Aside0.mk (Kd.R_drew HO_1020002.out)
            have n4_ := Aside0.mk (Kd.R_drew HO_1029000.out)
            have n5_ := Aside0.mk (Kd.R_drew HO_1029002.out)
            have n6_ := Aside0.mk (blk_drew BK994.out)
            have n7_ := Aside0.mk (blk_drew BK1011.out)
            have n8_ := Aside0.mk (blk_drew BK1019.out)
            have n9_ := Aside0.mk (blk_drew BK1028.out)
            have n10_ := Aside0.mk (below_drew1 HB.out)
            clear HO_1012000
            clear HO_1012002
            clear HO_1020000
            clear HO_1020002
            clear HO_1029000
            clear HO_1029002
            clear BK994
            clear BK1011
            clear BK1019
            clear BK1028
            clear HB
            have HO_1012000 := n0_
            have HO_1012002 := n1_
            have HO_1020000 := n2_
            have HO_1020002 := n3_
            have HO_1029000 := n4_
            have HO_1029002 := n5_
            have BK994 := n6_
            have BK1011 := n7_
            have BK1019 := n8_
            have BK1028 := n9_
            have HB := n10_
            clear n0_ n1_ n2_ n3_ n4_ n5_ n6_ n7_ n8_ n9_ n10_
            refine start_ (n := 5) (S := fun w' => w'.cell? ⟨gb1019, 0, none⟩ = some (.slice Ao28 t1012.length co28) ∧ w'.cell? ⟨gb1019, 1, none⟩ = some (.int .i64 t1015) ∧ w'.cell? ⟨gb1019, 2, none⟩ = some (.slice Ao32 t1016.length co32) ∧ w'.cell? ⟨gb994, 0, none⟩ = some (.slice A0_0 l0_0.length c0_0) ∧ w'.cell? ⟨gb994, 1, none⟩ = some (.int .i64 a0_1) ∧ w'.cell? ⟨gb994, 2, none⟩ = some (.slice A0_2 l0_2.length c0_2)) (ds := []) #[false, false, false, false, false] (by kernel_rfl) rfl rfl ⟨(blk_cell BK1019.out 0).trans rfl, (blk_cell BK1019.out 1).trans rfl, (blk_cell BK1019.out 2).trans rfl, (blk_cell BK994.out 0).trans rfl, (blk_cell BK994.out 1).trans rfl, (blk_cell BK994.out 2).trans rfl⟩ (fun hHeld => ?_)
            generalize wc.drew = w65 at HO_1012000 HO_1012002 HO_1020000 HO_1020002 HO_1029000 HO_1029002 BK994 BK1011 BK1019 BK1028 HB hHeld ⊢
            refine take_ (i := 0) (N := some 41) (v := ?_) (a' := ?_) #[true, false, false, false, false] rfl rfl (by kernel_rfl) (fun _ _ _ h => h) (Or.inl ⟨by rfl, ?_⟩) hHeld ?_ ?_
            rotate_left
            · rintro w' ⟨s0, s1, s2, s3, s4, s5⟩
              go_simp
              with_reducible rfl
            rotate_left
            · simp only [Act.put, List.setIfInBounds_toArray, List.set_cons_zero, List.set_cons_succ, i64_w, i32_w]
              rfl
            refine take_ (i := 1) (N := some 42) (v := ?_) (a' := ?_) #[true, true, false, false, false] rfl rfl (by kernel_rfl) (fun _ _ _ h => h) (Or.inl ⟨by rfl, ?_⟩) hHeld ?_ ?_
            rotate_left
            · rintro w' ⟨s0, s1, s2, s3, s4, s5⟩
              go_simp
              with_reducible rfl
            rotate_left
            · simp only [Act.put, List.setIfInBounds_toArray, List.set_cons_zero, List.set_cons_succ, i64_w, i32_w]
              rfl
            refine one_ (i := 2) (N := some 43) #[true, true, true, false, false] rfl rfl (by kernel_rfl) (by decide) (fun K hK => ?_)
            refine goes_ Try.func17 (by kernel_rfl) rfl #[.agg #[.slice A0_0 l0_0.length c0_0, .int .i64 a0_1, .slice A0_2 l0_2.length c0_2]] (by rfl) rfl rfl (by (try simp only [List.map_toArray, List.map_cons, List.map_nil]); first | done | rfl | (simp only [List.length_drop, List.length_take]; rfl)) ?_
            with_reducible refine (laws_toWork.calls kj10 _ _ l0_0 a0_1 _ _ l0_2 t1030 t1033 t1034 _ ?side1 ?side2 ?side3 ?side4 A60.out).mono ?_
            (case side1 => exact oc_ HR0_0.out)
            (case side2 => exact HC0_0.out)
            (case side3 => exact oc_ HR0_2.out)
            (case side4 => exact HC0_2.out)
            rintro e w66 ⟨v1031, v1035, rfl, ho0, ho1, hb⟩
            refine ⟨_, rfl, ?_⟩
            have n0_ := Aside0.mk (Kd.R_elder' (oR HO_1012000) (Kd.R_base ho0) hb)
            have n1_ := Aside0.mk (Kd.R_elder' (oR HO_1012002) (Kd.R_base ho1) hb)
            have n2_ := Aside0.mk (Kd.R_elder' (oR HO_1020000) (Kd.R_base ho0) hb)
            have n3_ := Aside0.mk (Kd.R_elder' (oR HO_1020002) (Kd.R_base ho1) hb)
            have n4_ := Aside0.mk (Kd.R_elder' (oR HO_1029000) (Kd.R_base ho0) hb)
            have n5_ := Aside0.mk (Kd.R_elder' (oR HO_1029002) (Kd.R_base ho1) hb)
            have n6_ := Aside0.mk (Kd.R_lower (Kd.R_new' (Kd.R_new' (Kd.R_new' ho0 (Kd.R_lt (oR HO_1012000))) (Kd.R_lt (oR HO_1020000))) (Kd.R_lt (oR HO_1029000))) (below_size (oB HB)))
            have n7_ := Aside0.mk (Kd.R_lower (Kd.R_new' (Kd.R_new' (Kd.R_new' ho1 (Kd.R_lt (oR HO_1012002))) (Kd.R_lt (oR HO_1020002))) (Kd.R_lt (oR HO_1029002))) (below_size (oB HB)))
            have n8_ := Aside0.mk (blk_below (g := gb994) (o := .cells #[.slice A0_0 l0_0.length c0_0, .int .i64 a0_1, .slice A0_2 l0_2.length c0_2] 25 (0, 0)) (oK BK994) hb)
            have n9_ := Aside0.mk (blk_below (g := gb1011) (o := .cells #[.slice Ao21 t1003.length co21, .int .i64 t1006, .slice Ao24 t1007.length co24] 30 (0, 0)) (oK BK1011) hb)
            have n10_ := Aside0.mk (blk_below (g := gb1019) (o := .cells #[.slice Ao28 t1012.length co28, .int .i64 t1015, .slice Ao32 t1016.length co32] 30 (0, 0)) (oK BK1019) hb)
            have n11_ := Aside0.mk (blk_below (g := gb1028) (o := .cells #[.slice Ao35 t1020.length co35, .int .i64 t1023, .slice Ao40 t1024.length co40] 30 (0, 0)) (oK BK1028) hb)
            have n12_ := Aside0.mk (below_step (oB HB) hb)
            clear HO_1012000
            clear HO_1012002
            clear HO_1020000
            clear HO_1020002
            clear HO_1029000
            clear HO_1029002
            clear BK994
            clear BK1011
            clear BK1019
            clear BK1028
            clear HB
            have HO_1012000 := n0_
            have HO_1012002 := n1_
            have HO_1020000 := n2_
            have HO_1020002 := n3_
            have HO_1029000 := n4_
            have HO_1029002 := n5_
            have HO1032 := n6_
            have HO1036 := n7_
            have BK994 := n8_
            have BK1011 := n9_
            have BK1019 := n10_
            have BK1028 := n11_
            have HB := n12_
            clear n0_ n1_ n2_ n3_ n4_ n5_ n6_ n7_ n8_ n9_ n10_ n11_ n12_
            (try clear hb)
            (try clear hb2)
            (try clear hk)
            (try clear hi)
            (try clear ho0)
            (try clear ho1)
            obtain ⟨Ao67, co67, eo67⟩ := Kd.R_slice HO1032.out
            (first | subst eo67 | (injection eo67 with f1_ f2_ f3_; have f4_ := f1_.symm; have f5_ := f3_.symm; clear f1_ f2_ f3_; subst f4_; subst f5_))
            obtain ⟨Ao68, co68, eo68⟩ := Kd.R_slice HO1036.out
            (first | subst eo68 | (injection eo68 with f1_ f2_ f3_; have f4_ := f1_.symm; have f5_ := f3_.symm; clear f1_ f2_ f3_; subst f4_; subst f5_))
            refine hK.out _ _ ⟨(blk_cell BK1019.out 0).trans rfl, (blk_cell BK1019.out 1).trans rfl, (blk_cell BK1019.out 2).trans rfl, (blk_cell BK994.out 0).trans rfl, (blk_cell BK994.out 1).trans rfl, (blk_cell BK994.out 2).trans rfl⟩ (fun hHeld => ?_)
            clear hK K
            refine norm_ (a' := ?_) ?_ ?_
            rotate_left
            · show Act.put _ (some 43) _ = _
              simp only [Act.put, List.setIfInBounds_toArray, List.set_cons_zero, List.set_cons_succ, i64_w, i32_w]
              rfl
            refine one_ (i := 3) (N := some 44) #[true, true, true, true, false] rfl rfl (by kernel_rfl) (by decide) (fun K hK => ?_)
            refine goes_ Try.func19 (by kernel_rfl) rfl #[.agg #[.slice Ao28 t1012.length co28, .int .i64 t1015, .slice Ao32 t1016.length co32], .agg #[.slice Ao67 t1030.length co67, .int .i64 t1033, .slice Ao68 t1034.length co68]] (by rfl) rfl rfl (by (try simp only [List.map_toArray, List.map_cons, List.map_nil]); first | done | rfl | (simp only [List.length_drop, List.length_take]; rfl)) ?_
            with_reducible refine (laws_eqWork.calls kj10 _ _ t1012 t1015 _ _ t1016 _ _ t1030 t1033 _ _ t1034 true _ ?side1 ?side2 ?side3 ?side4 ?side5 ?side6 ?side7 ?side8 A61.out).mono ?_
            (case side1 => repeat (first | exact (Kd.R_reads' HO_1020000.out).2.2 | (with_reducible refine Kd.C_alloc ?_ _) | (with_reducible refine Kd.C_drewN ?_ _) | (with_reducible refine Kd.C_drew ?_)))
            (case side2 => exact (Kd.R_reads' HO_1020000.out).2.1)
            (case side3 => repeat (first | exact (Kd.R_reads' HO_1020002.out).2.2 | (with_reducible refine Kd.C_alloc ?_ _) | (with_reducible refine Kd.C_drewN ?_ _) | (with_reducible refine Kd.C_drew ?_)))
            (case side4 => exact (Kd.R_reads' HO_1020002.out).2.1)
            (case side5 => repeat (first | exact (Kd.R_reads' HO1032.out).2.2 | (with_reducible refine Kd.C_alloc ?_ _) | (with_reducible refine Kd.C_drewN ?_ _) | (with_reducible refine Kd.C_drew ?_)))
            (case side6 => exact (Kd.R_reads' HO1032.out).2.1)
            (case side7 => repeat (first | exact (Kd.R_reads' HO1036.out).2.2 | (with_reducible refine Kd.C_alloc ?_ _) | (with_reducible refine Kd.C_drewN ?_ _) | (with_reducible refine Kd.C_drew ?_)))
            (case side8 => exact (Kd.R_reads' HO1036.out).2.1)
            rintro e w69 ⟨rfl, hb⟩
            refine ⟨_, rfl, ?_⟩
            have n0_ := Aside0.mk (Kd.R_below (oR HO_1012000) hb)
            have n1_ := Aside0.mk (Kd.R_below (oR HO_1012002) hb)
            have n2_ := Aside0.mk (Kd.R_below (oR HO_1020000) hb)
            have n3_ := Aside0.mk (Kd.R_below (oR HO_1020002) hb)
            have n4_ := Aside0.mk (Kd.R_below (oR HO_1029000) hb)
            have n5_ := Aside0.mk (Kd.R_below (oR HO_1029002) hb)
            have n6_ := Aside0.mk (Kd.R_below (oR HO1032) hb)
            have n7_ := Aside0.mk (Kd.R_below (oR HO1036) hb)
            have n8_ := Aside0.mk (blk_below (g := gb994) (o := .cells #[.slice A0_0 l0_0.length c0_0, .int .i64 a0_1, .slice A0_2 l0_2.length c0_2] 25 (0, 0)) (oK BK994) hb)
            have n9_ := Aside0.mk (blk_below (g := gb1011) (o := .cells #[.slice Ao21 t1003.length co21, .int .i64 t1006, .slice Ao24 t1007.length co24] 30 (0, 0)) (oK BK1011) hb)
            have n10_ := Aside0.mk (blk_below (g := gb1019) (o := .cells #[.slice Ao28 t1012.length co28, .int .i64 t1015, .slice Ao32 t1016.length co32] 30 (0, 0)) (oK BK1019) hb)
            have n11_ := Aside0.mk (blk_below (g := gb1028) (o := .cells #[.slice Ao35 t1020.length co35, .int .i64 t1023, .slice Ao40 t1024.length co40] 30 (0, 0)) (oK BK1028) hb)
            have n12_ := Aside0.mk (below_step (oB HB) hb)
            clear HO_1012000
            clear HO_1012002
            clear HO_1020000
            clear HO_1020002
            clear HO_1029000
            clear HO_1029002
            clear HO1032
            clear HO1036
            clear BK994
            clear BK1011
            clear BK1019
            clear BK1028
            clear HB
            have HO_1012000 := n0_
            have HO_1012002 := n1_
            have HO_1020000 := n2_
            have HO_1020002 := n3_
            have HO_1029000 := n4_
            have HO_1029002 := n5_
            have HO1032 := n6_
            have HO1036 := n7_
            have BK994 := n8_
            have BK1011 := n9_
            have BK1019 := n10_
            have BK1028 := n11_
            have HB := n12_
            clear n0_ n1_ n2_ n3_ n4_ n5_ n6_ n7_ n8_ n9_ n10_ n11_ n12_
            (try clear hb)
            (try clear hb2)
            (try clear hk)
            (try clear hi)
            refine hK.out _ _ ⟨(blk_cell BK1019.out 0).trans rfl, (blk_cell BK1019.out 1).trans rfl, (blk_cell BK1019.out 2).trans rfl, (blk_cell BK994.out 0).trans rfl, (blk_cell BK994.out 1).trans rfl, (blk_cell BK994.out 2).trans rfl⟩ (fun hHeld => ?_)
            clear hK K
            refine norm_ (a' := ?_) ?_ ?_
            rotate_left
            · show Act.put _ (some 44) _ = _
              simp only [Act.put, List.setIfInBounds_toArray, List.set_cons_zero, List.set_cons_succ, i64_w, i32_w]
              rfl
            refine pure_ (i := 4) (N := some 45) (v := ?_) (a' := ?_) #[true, true, true, true, true] rfl rfl (by kernel_rfl) (fun _ _ _ h => h) (Or.inl ⟨by rfl, ?_⟩) ?_ ?_
            rotate_left
            · intro w'
              go_simp
              with_reducible rfl
            rotate_left
            · simp only [Act.put, List.setIfInBounds_toArray, List.set_cons_zero, List.set_cons_succ, i64_w, i32_w]
              rfl
            refine done_ (by kernel_rfl) ?_
            have hnb70 := NB1019_994.out
            have hnc70 := NB994_1019.out
            have hnb71 := NB1019_1011.out
            have hnc71 := NB1011_1019.out
            have hnb72 := NB1019_1028.out
            have hnc72 := NB1028_1019.out
            have hcz73_0 : w69.cell? ⟨gb1019, 0, none⟩ = some (.slice Ao28 t1012.length co28) := (blk_cell BK1019.out 0).trans rfl
            have hcz73_1 : w69.cell? ⟨gb1019, 1, none⟩ = some (.int .i64 t1015) := (blk_cell BK1019.out 1).trans rfl
            have hcz73_2 : w69.cell? ⟨gb1019, 2, none⟩ = some (.slice Ao32 t1016.length co32) := (blk_cell BK1019.out 2).trans rfl
            have hfz73_0 := blk_frozen BK1019.out 0
            have hfz73_1 := blk_frozen BK1019.out 1
            have hfz73_2 := blk_frozen BK1019.out 2
            go_upto_region 14 with (first | ((with_reducible refine gate_callee (f := 28) rfl ?_); refine goesL_ (some 48) rfl rfl Try.func28 (by kernel_rfl) rfl #[.agg #[.slice Ao28 t1012.length co28, .int .i64 t1015, .slice Ao32 t1016.length co32], .int .i64 1] rfl (by (try simp only [List.map_toArray, List.map_cons, List.map_nil]); first | done | rfl | (simp only [List.length_drop, List.length_take]; rfl)) ?_; (with_reducible refine (laws_markWork.calls kj10 (fun k_ => some k_ = (.slice Ao28 t1012.length co28 : Value).ownBlock) (.slice Ao28 t1012.length co28) t1012 t1015 (fun k_ => some k_ = (.slice Ao32 t1016.length co32 : Value).ownBlock) (.slice Ao32 t1016.length co32) t1016 1 t1038 t1039 t1040 w _ ?side1 ?side2 ?side3 A63.out).mono ?_); (case side1 => repeat (first | (with_reducible first | exact HB.out | apply below_alloc | apply pw_below_drewN | apply below_drew1 | refine below_set ?_ GE994.out | refine below_set ?_ GE1011.out | refine below_set ?_ GE1019.out | refine below_set ?_ GE1028.out) | exact HB.out)); (case side2 => exact Kd.R_tight rfl HO_1020000.out); (case side3 => exact Kd.R_tight rfl HO_1020002.out); rintro e w74 ⟨rfl, hy0, hy1, hb, hkp⟩; refine ⟨_, rfl, ?_⟩; have n0_ := Aside0.mk (Kd.R_mono (ok' := fun k_ => some k_ ≠ (.slice Ao28 t1012.length co28 : Value).ownBlock ∧ some k_ ≠ (.slice Ao35 t1020.length co35 : Value).ownBlock ∧ some k_ ≠ (.slice Ao67 t1030.length co67 : Value).ownBlock) (Kd.R_keptB ((Kd.R_apart' HO_1012000.out (Kd.R_typed HO_1020002.out) (by decide))) hkp (fun k_ hk_ hs_ => Or.elim hs_ (fun e_ => (hk_.1.1.1) e_) (fun e_ => (hk_.2) e_))) (fun k_ hk_ => ⟨hk_.1.1.1.1, hk_.1.1.1.2, hk_.1.1.2⟩)); have n1_ := Aside0.mk (Kd.R_mono (ok' := fun k_ => some k_ ≠ (.slice Ao32 t1016.length co32 : Value).ownBlock ∧ some k_ ≠ (.slice Ao40 t1024.length co40 : Value).ownBlock ∧ some k_ ≠ (.slice Ao68 t1034.length co68 : Value).ownBlock) (Kd.R_keptB ((Kd.R_apart' HO_1012002.out (Kd.R_typed HO_1020000.out) (by decide))) hkp (fun k_ hk_ hs_ => Or.elim hs_ (fun e_ => (hk_.2) e_) (fun e_ => (hk_.1.1.1) e_))) (fun k_ hk_ => ⟨hk_.1.1.1.1, hk_.1.1.1.2, hk_.1.1.2⟩)); have n2_ := Aside0.mk (Kd.R_reok rfl hy0 (fun k_ e_ => HO_1020000.out.1 k_ e_)); have n3_ := Aside0.mk (Kd.R_reok rfl hy1 (fun k_ e_ => HO_1020002.out.1 k_ e_)); have n4_ := Aside0.mk (Kd.R_mono (ok' := fun k_ => some k_ ≠ (.slice Ao21 t1003.length co21 : Value).ownBlock ∧ some k_ ≠ (.slice Ao28 t1012.length co28 : Value).ownBlock ∧ some k_ ≠ (.slice Ao67 t1030.length co67 : Value).ownBlock) (Kd.R_keptB ((Kd.R_apart' HO_1029000.out (Kd.R_typed HO_1020002.out) (by decide))) hkp (fun k_ hk_ hs_ => Or.elim hs_ (fun e_ => (hk_.1.1.2) e_) (fun e_ => (hk_.2) e_))) (fun k_ hk_ => ⟨hk_.1.1.1.1, hk_.1.1.1.2, hk_.1.1.2⟩)); have n5_ := Aside0.mk (Kd.R_mono (ok' := fun k_ => some k_ ≠ (.slice Ao24 t1007.length co24 : Value).ownBlock ∧ some k_ ≠ (.slice Ao32 t1016.length co32 : Value).ownBlock ∧ some k_ ≠ (.slice Ao68 t1034.length co68 : Value).ownBlock) (Kd.R_keptB ((Kd.R_apart' HO_1029002.out (Kd.R_typed HO_1020000.out) (by decide))) hkp (fun k_ hk_ hs_ => Or.elim hs_ (fun e_ => (hk_.2) e_) (fun e_ => (hk_.1.1.2) e_))) (fun k_ hk_ => ⟨hk_.1.1.1.1, hk_.1.1.1.2, hk_.1.1.2⟩)); have n6_ := Aside0.mk (blk_kept (oK BK994) hkp (fun hs_ => Or.elim hs_ (fun e_ => (fun e_ => (Kd.R_ne HO_1020000.out BK994.out (by decide)) e_) e_) (fun e_ => (fun e_ => (Kd.R_ne HO_1020002.out BK994.out (by decide)) e_) e_))); have n7_ := Aside0.mk (blk_kept (oK BK1011) hkp (fun hs_ => Or.elim hs_ (fun e_ => (fun e_ => (Kd.R_ne HO_1020000.out BK1011.out (by decide)) e_) e_) (fun e_ => (fun e_ => (Kd.R_ne HO_1020002.out BK1011.out (by decide)) e_) e_))); have n8_ := Aside0.mk (blk_kept (oK BK1019) hkp (fun hs_ => Or.elim hs_ (fun e_ => (fun e_ => (Kd.R_ne HO_1020000.out BK1019.out (by decide)) e_) e_) (fun e_ => (fun e_ => (Kd.R_ne HO_1020002.out BK1019.out (by decide)) e_) e_))); have n9_ := Aside0.mk (blk_kept (oK BK1028) hkp (fun hs_ => Or.elim hs_ (fun e_ => (fun e_ => (Kd.R_ne HO_1020000.out BK1028.out (by decide)) e_) e_) (fun e_ => (fun e_ => (Kd.R_ne HO_1020002.out BK1028.out (by decide)) e_) e_))); have n10_ := Aside0.mk (Kd.R_mono (ok' := fun k_ => some k_ ≠ (.slice Ao21 t1003.length co21 : Value).ownBlock ∧ some k_ ≠ (.slice Ao28 t1012.length co28 : Value).ownBlock ∧ some k_ ≠ (.slice Ao35 t1020.length co35 : Value).ownBlock) (Kd.R_keptB ((Kd.R_apart' HO1032.out (Kd.R_typed HO_1020002.out) (by decide))) hkp (fun k_ hk_ hs_ => Or.elim hs_ (fun e_ => (hk_.1.1.2) e_) (fun e_ => (hk_.2) e_))) (fun k_ hk_ => ⟨hk_.1.1.1.1.2, hk_.1.1.1.2, hk_.1.1.2⟩)); have n11_ := Aside0.mk (Kd.R_mono (ok' := fun k_ => some k_ ≠ (.slice Ao24 t1007.length co24 : Value).ownBlock ∧ some k_ ≠ (.slice Ao32 t1016.length co32 : Value).ownBlock ∧ some k_ ≠ (.slice Ao40 t1024.length co40 : Value).ownBlock) (Kd.R_keptB ((Kd.R_apart' HO1036.out (Kd.R_typed HO_1020000.out) (by decide))) hkp (fun k_ hk_ hs_ => Or.elim hs_ (fun e_ => (hk_.2) e_) (fun e_ => (hk_.1.1.2) e_))) (fun k_ hk_ => ⟨hk_.1.1.1.1.2, hk_.1.1.1.2, hk_.1.1.2⟩)); have n12_ := Aside0.mk (hb); clear HO_1012000; clear HO_1012002; clear HO_1020000; clear HO_1020002; clear HO_1029000; clear HO_1029002; clear BK994; clear BK1011; clear BK1019; clear BK1028; clear HO1032; clear HO1036; clear HB; have HO_1012000 := n0_; have HO_1012002 := n1_; have HO_1020000 := n2_; have HO_1020002 := n3_; have HO_1029000 := n4_; have HO_1029002 := n5_; have BK994 := n6_; have BK1011 := n7_; have BK1019 := n8_; have BK1028 := n9_; have HO1032 := n10_; have HO1036 := n11_; have HB := n12_; clear n0_ n1_ n2_ n3_ n4_ n5_ n6_ n7_ n8_ n9_ n10_ n11_ n12_; (try clear hb); (try clear hkp); (try clear hy0); (try clear hy1)))
            (try simp only [Act.put, List.setIfInBounds_toArray, List.set_cons_zero, List.set_cons_succ])
            go_cut [61] (fun v61 wc => ∃ (kq : Nat) (x61_63 : Bool), v61 = .bool x61_63 ∧ Aside0 (laws_FnExactMendAll.j1 kq t1010 x61_63 l0_0 a0_1 l0_2 t1003 t1006 t1007 t1020 t1023 t1024 = some r) ∧ Aside0 (kq ≤ kj10) ∧ Aside0 (Kd.R k67 67 wc w.heap.size (fun k_ => some k_ ≠ ((.slice Ao28 t1012.length co28) : Value).ownBlock ∧ some k_ ≠ ((.slice Ao35 t1020.length co35) : Value).ownBlock) (.slice Ao21 t1003.length co21) t1003) ∧ Aside0 (Kd.R (Kd.int .i64) 3 wc w.heap.size (fun k_ => some k_ ≠ ((.slice Ao32 t1016.length co32) : Value).ownBlock ∧ some k_ ≠ ((.slice Ao40 t1024.length co40) : Value).ownBlock) (.slice Ao24 t1007.length co24) t1007) ∧ Aside0 (Kd.R k67 67 wc w.heap.size (fun k_ => some k_ ≠ ((.slice Ao21 t1003.length co21) : Value).ownBlock ∧ some k_ ≠ ((.slice Ao35 t1020.length co35) : Value).ownBlock) (.slice Ao28 t1012.length co28) t1039) ∧ Aside0 (Kd.R (Kd.int .i64) 3 wc w.heap.size (fun k_ => some k_ ≠ ((.slice Ao24 t1007.length co24) : Value).ownBlock ∧ some k_ ≠ ((.slice Ao40 t1024.length co40) : Value).ownBlock) (.slice Ao32 t1016.length co32) t1040) ∧ Aside0 (Kd.R k67 67 wc w.heap.size (fun k_ => some k_ ≠ ((.slice Ao21 t1003.length co21) : Value).ownBlock ∧ some k_ ≠ ((.slice Ao28 t1012.length co28) : Value).ownBlock) (.slice Ao35 t1020.length co35) t1020) ∧ Aside0 (Kd.R (Kd.int .i64) 3 wc w.heap.size (fun k_ => some k_ ≠ ((.slice Ao24 t1007.length co24) : Value).ownBlock ∧ some k_ ≠ ((.slice Ao32 t1016.length co32) : Value).ownBlock) (.slice Ao40 t1024.length co40) t1024) ∧ Aside0 (wc.heap[gb994]? = some (.cells #[(.slice A0_0 l0_0.length c0_0), .int .i64 a0_1, (.slice A0_2 l0_2.length c0_2)] 25 (0, 0))) ∧ Aside0 (wc.heap[gb1011]? = some (.cells #[(.slice Ao21 t1003.length co21), .int .i64 t1006, (.slice Ao24 t1007.length co24)] 30 (0, 0))) ∧ Aside0 (wc.heap[gb1019]? = some (.cells #[(.slice Ao28 t1012.length co28), .int .i64 t1015, (.slice Ao32 t1016.length co32)] 30 (0, 0))) ∧ Aside0 (wc.heap[gb1028]? = some (.cells #[(.slice Ao35 t1020.length co35), .int .i64 t1023, (.slice Ao40 t1024.length co40)] 30 (0, 0))) ∧ Aside0 (Below w.heap.size w wc))
            case first =>
              have H := HC64.out
              clear HC64
              by_cases c75 : t1038 < 0
              · rw [if_pos c75] at H
                have c75b0 : decide (t1038 < 0) = true := decide_eq_true c75
                clear c75
                (first | rw [c75b0] | (simp only [i64_w, i32_w]; rw [c75b0]) | skip)
                have H' := Aside0.mk H
                clear H
                go_wp2
                go_meet
                case rel => exact ⟨_, (true), (by first | rfl | (simp; done) | (simp [*]; done)), H', ⟨by have := HJ10.out; first | omega | exact Nat.le_refl _⟩, ⟨by (with_reducible repeat (first | apply Kd.R_alloc | apply Kd.R_drewN | apply Kd.R_drew)); exact Kd.R_mono HO_1012000.out (fun _ hk => ⟨hk.1, hk.2.1⟩)⟩, ⟨by (with_reducible repeat (first | apply Kd.R_alloc | apply Kd.R_drewN | apply Kd.R_drew)); exact Kd.R_mono HO_1012002.out (fun _ hk => ⟨hk.1, hk.2.1⟩)⟩, ⟨by (with_reducible repeat (first | apply Kd.R_alloc | apply Kd.R_drewN | apply Kd.R_drew)); exact Kd.R_mono HO_1020000.out (fun _ hk => ⟨hk.1.1, hk.1.2⟩)⟩, ⟨by (with_reducible repeat (first | apply Kd.R_alloc | apply Kd.R_drewN | apply Kd.R_drew)); exact Kd.R_mono HO_1020002.out (fun _ hk => ⟨hk.1.1, hk.1.2⟩)⟩, ⟨by (with_reducible repeat (first | apply Kd.R_alloc | apply Kd.R_drewN | apply Kd.R_drew)); exact Kd.R_mono HO_1029000.out (fun _ hk => ⟨hk.1, hk.2.1⟩)⟩, ⟨by (with_reducible repeat (first | apply Kd.R_alloc | apply Kd.R_drewN | apply Kd.R_drew)); exact Kd.R_mono HO_1029002.out (fun _ hk => ⟨hk.1, hk.2.1⟩)⟩, ⟨oK BK994⟩, ⟨oK BK1011⟩, ⟨oK BK1019⟩, ⟨oK BK1028⟩, ⟨oB HB⟩⟩
              · rw [if_neg c75] at H
                have c75b0 : decide (t1038 < 0) = false := decide_eq_false c75
                clear c75
                (first | rw [c75b0] | (simp only [i64_w, i32_w]; rw [c75b0]) | skip)
                replace H := Option.bind_eq_some_iff.mp H
                obtain ⟨t1041, A760, H⟩ := H
                (try dsimp only at H)
                have A76 := Aside0.mk A760
                clear A760
                by_cases c77 : t1041 = true
                · subst c77
                  rw [if_pos rfl] at H
                  have H' := Aside0.mk H
                  clear H
                  have hnb78 := NB1028_994.out
                  have hnc78 := NB994_1028.out
                  have hnb79 := NB1028_1011.out
                  have hnc79 := NB1011_1028.out
                  have hnb80 := NB1028_1019.out
                  have hnc80 := NB1019_1028.out
                  have hcz81_0 : w74.cell? ⟨gb1028, 0, none⟩ = some (.slice Ao35 t1020.length co35) := (blk_cell BK1028.out 0).trans rfl
                  have hcz81_1 : w74.cell? ⟨gb1028, 1, none⟩ = some (.int .i64 t1023) := (blk_cell BK1028.out 1).trans rfl
                  have hcz81_2 : w74.cell? ⟨gb1028, 2, none⟩ = some (.slice Ao40 t1024.length co40) := (blk_cell BK1028.out 2).trans rfl
                  have hfz81_0 := blk_frozen BK1028.out 0
                  have hfz81_1 := blk_frozen BK1028.out 1
                  have hfz81_2 := blk_frozen BK1028.out 2
                  have hnb82 := NB1011_994.out
                  have hnc82 := NB994_1011.out
                  have hnb83 := NB1011_1019.out
                  have hnc83 := NB1019_1011.out
                  have hcz84_0 : w74.cell? ⟨gb1011, 0, none⟩ = some (.slice Ao21 t1003.length co21) := (blk_cell BK1011.out 0).trans rfl
                  have hcz84_1 : w74.cell? ⟨gb1011, 1, none⟩ = some (.int .i64 t1006) := (blk_cell BK1011.out 1).trans rfl
                  have hcz84_2 : w74.cell? ⟨gb1011, 2, none⟩ = some (.slice Ao24 t1007.length co24) := (blk_cell BK1011.out 2).trans rfl
                  have hfz84_0 := blk_frozen BK1011.out 0
                  have hfz84_1 := blk_frozen BK1011.out 1
                  have hfz84_2 := blk_frozen BK1011.out 2
                  go_wp2_with (first | (go_at_call 19; (with_reducible refine (laws_eqWork.calls kj10 _ _ t1020 t1023 _ _ t1024 _ _ t1003 t1006 _ _ t1007 true _ ?side1 ?side2 ?side3 ?side4 ?side5 ?side6 ?side7 ?side8 A76.out).mono ?_); (case side1 => repeat (first | exact (Kd.R_reads' HO_1029000.out).2.2 | (with_reducible refine Kd.C_alloc ?_ _) | (with_reducible refine Kd.C_drewN ?_ _) | (with_reducible refine Kd.C_drew ?_))); (case side2 => exact (Kd.R_reads' HO_1029000.out).2.1); (case side3 => repeat (first | exact (Kd.R_reads' HO_1029002.out).2.2 | (with_reducible refine Kd.C_alloc ?_ _) | (with_reducible refine Kd.C_drewN ?_ _) | (with_reducible refine Kd.C_drew ?_))); (case side4 => exact (Kd.R_reads' HO_1029002.out).2.1); (case side5 => repeat (first | exact (Kd.R_reads' HO_1012000.out).2.2 | (with_reducible refine Kd.C_alloc ?_ _) | (with_reducible refine Kd.C_drewN ?_ _) | (with_reducible refine Kd.C_drew ?_))); (case side6 => exact (Kd.R_reads' HO_1012000.out).2.1); (case side7 => repeat (first | exact (Kd.R_reads' HO_1012002.out).2.2 | (with_reducible refine Kd.C_alloc ?_ _) | (with_reducible refine Kd.C_drewN ?_ _) | (with_reducible refine Kd.C_drew ?_))); (case side8 => exact (Kd.R_reads' HO_1012002.out).2.1); rintro e w85 ⟨rfl, hb⟩; have n0_ := Aside0.mk (Kd.R_below (oR HO_1012000) hb); have n1_ := Aside0.mk (Kd.R_below (oR HO_1012002) hb); have n2_ := Aside0.mk (Kd.R_below (oR HO_1020000) hb); have n3_ := Aside0.mk (Kd.R_below (oR HO_1020002) hb); have n4_ := Aside0.mk (Kd.R_below (oR HO_1029000) hb); have n5_ := Aside0.mk (Kd.R_below (oR HO_1029002) hb); have n6_ := Aside0.mk (Kd.R_below (oR HO1032) hb); have n7_ := Aside0.mk (Kd.R_below (oR HO1036) hb); have n8_ := Aside0.mk (blk_below (g := gb994) (o := .cells #[.slice A0_0 l0_0.length c0_0, .int .i64 a0_1, .slice A0_2 l0_2.length c0_2] 25 (0, 0)) (oK BK994) hb); have n9_ := Aside0.mk (blk_below (g := gb1011) (o := .cells #[.slice Ao21 t1003.length co21, .int .i64 t1006, .slice Ao24 t1007.length co24] 30 (0, 0)) (oK BK1011) hb); have n10_ := Aside0.mk (blk_below (g := gb1019) (o := .cells #[.slice Ao28 t1012.length co28, .int .i64 t1015, .slice Ao32 t1016.length co32] 30 (0, 0)) (oK BK1019) hb); have n11_ := Aside0.mk (blk_below (g := gb1028) (o := .cells #[.slice Ao35 t1020.length co35, .int .i64 t1023, .slice Ao40 t1024.length co40] 30 (0, 0)) (oK BK1028) hb); have n12_ := Aside0.mk (below_step (oB HB) hb); clear HO_1012000; clear HO_1012002; clear HO_1020000; clear HO_1020002; clear HO_1029000; clear HO_1029002; clear HO1032; clear HO1036; clear BK994; clear BK1011; clear BK1019; clear BK1028; clear HB; have HO_1012000 := n0_; have HO_1012002 := n1_; have HO_1020000 := n2_; have HO_1020002 := n3_; have HO_1029000 := n4_; have HO_1029002 := n5_; have HO1032 := n6_; have HO1036 := n7_; have BK994 := n8_; have BK1011 := n9_; have BK1019 := n10_; have BK1028 := n11_; have HB := n12_; clear n0_ n1_ n2_ n3_ n4_ n5_ n6_ n7_ n8_ n9_ n10_ n11_ n12_; (try clear hb); (try clear hb2); (try clear hk); (try clear hi)))
                  go_meet
                  case rel => exact ⟨_, ((t1027 != t1010)), (by first | rfl | (simp; done) | (simp [*]; done)), H', ⟨by have := HJ10.out; first | omega | exact Nat.le_refl _⟩, ⟨by (with_reducible repeat (first | apply Kd.R_alloc | apply Kd.R_drewN | apply Kd.R_drew)); exact Kd.R_mono HO_1012000.out (fun _ hk => ⟨hk.1, hk.2.1⟩)⟩, ⟨by (with_reducible repeat (first | apply Kd.R_alloc | apply Kd.R_drewN | apply Kd.R_drew)); exact Kd.R_mono HO_1012002.out (fun _ hk => ⟨hk.1, hk.2.1⟩)⟩, ⟨by (with_reducible repeat (first | apply Kd.R_alloc | apply Kd.R_drewN | apply Kd.R_drew)); exact Kd.R_mono HO_1020000.out (fun _ hk => ⟨hk.1.1, hk.1.2⟩)⟩, ⟨by (with_reducible repeat (first | apply Kd.R_alloc | apply Kd.R_drewN | apply Kd.R_drew)); exact Kd.R_mono HO_1020002.out (fun _ hk => ⟨hk.1.1, hk.1.2⟩)⟩, ⟨by (with_reducible repeat (first | apply Kd.R_alloc | apply Kd.R_drewN | apply Kd.R_drew)); exact Kd.R_mono HO_1029000.out (fun _ hk => ⟨hk.1, hk.2.1⟩)⟩, ⟨by (with_reducible repeat (first | apply Kd.R_alloc | apply Kd.R_drewN | apply Kd.R_drew)); exact Kd.R_mono HO_1029002.out (fun _ hk => ⟨hk.1, hk.2.1⟩)⟩, ⟨oK BK994⟩, ⟨oK BK1011⟩, ⟨oK BK1019⟩, ⟨oK BK1028⟩, ⟨oB HB⟩⟩
                · replace c77 := Bool.eq_false_iff.mpr c77
                  subst c77
                  rw [if_neg (show ¬ (false = true) by decide)] at H
                  have H' := Aside0.mk H
                  clear H
                  have hnb86 := NB1028_994.out
                  have hnc86 := NB994_1028.out
                  have hnb87 := NB1028_1011.out
                  have hnc87 := NB1011_1028.out
                  have hnb88 := NB1028_1019.out
                  have hnc88 := NB1019_1028.out
                  have hcz89_0 : w74.cell? ⟨gb1028, 0, none⟩ = some (.slice Ao35 t1020.length co35) := (blk_cell BK1028.out 0).trans rfl
                  have hcz89_1 : w74.cell? ⟨gb1028, 1, none⟩ = some (.int .i64 t1023) := (blk_cell BK1028.out 1).trans rfl
                  have hcz89_2 : w74.cell? ⟨gb1028, 2, none⟩ = some (.slice Ao40 t1024.length co40) := (blk_cell BK1028.out 2).trans rfl
                  have hfz89_0 := blk_frozen BK1028.out 0
                  have hfz89_1 := blk_frozen BK1028.out 1
                  have hfz89_2 := blk_frozen BK1028.out 2
                  have hnb90 := NB1011_994.out
                  have hnc90 := NB994_1011.out
                  have hnb91 := NB1011_1019.out
                  have hnc91 := NB1019_1011.out
                  have hcz92_0 : w74.cell? ⟨gb1011, 0, none⟩ = some (.slice Ao21 t1003.length co21) := (blk_cell BK1011.out 0).trans rfl
                  have hcz92_1 : w74.cell? ⟨gb1011, 1, none⟩ = some (.int .i64 t1006) := (blk_cell BK1011.out 1).trans rfl
                  have hcz92_2 : w74.cell? ⟨gb1011, 2, none⟩ = some (.slice Ao24 t1007.length co24) := (blk_cell BK1011.out 2).trans rfl
                  have hfz92_0 := blk_frozen BK1011.out 0
                  have hfz92_1 := blk_frozen BK1011.out 1
                  have hfz92_2 := blk_frozen BK1011.out 2
                  go_wp2_with (first | (go_at_call 19; (with_reducible refine (laws_eqWork.calls kj10 _ _ t1020 t1023 _ _ t1024 _ _ t1003 t1006 _ _ t1007 false _ ?side1 ?side2 ?side3 ?side4 ?side5 ?side6 ?side7 ?side8 A76.out).mono ?_); (case side1 => repeat (first | exact (Kd.R_reads' HO_1029000.out).2.2 | (with_reducible refine Kd.C_alloc ?_ _) | (with_reducible refine Kd.C_drewN ?_ _) | (with_reducible refine Kd.C_drew ?_))); (case side2 => exact (Kd.R_reads' HO_1029000.out).2.1); (case side3 => repeat (first | exact (Kd.R_reads' HO_1029002.out).2.2 | (with_reducible refine Kd.C_alloc ?_ _) | (with_reducible refine Kd.C_drewN ?_ _) | (with_reducible refine Kd.C_drew ?_))); (case side4 => exact (Kd.R_reads' HO_1029002.out).2.1); (case side5 => repeat (first | exact (Kd.R_reads' HO_1012000.out).2.2 | (with_reducible refine Kd.C_alloc ?_ _) | (with_reducible refine Kd.C_drewN ?_ _) | (with_reducible refine Kd.C_drew ?_))); (case side6 => exact (Kd.R_reads' HO_1012000.out).2.1); (case side7 => repeat (first | exact (Kd.R_reads' HO_1012002.out).2.2 | (with_reducible refine Kd.C_alloc ?_ _) | (with_reducible refine Kd.C_drewN ?_ _) | (with_reducible refine Kd.C_drew ?_))); (case side8 => exact (Kd.R_reads' HO_1012002.out).2.1); rintro e w93 ⟨rfl, hb⟩; have n0_ := Aside0.mk (Kd.R_below (oR HO_1012000) hb); have n1_ := Aside0.mk (Kd.R_below (oR HO_1012002) hb); have n2_ := Aside0.mk (Kd.R_below (oR HO_1020000) hb); have n3_ := Aside0.mk (Kd.R_below (oR HO_1020002) hb); have n4_ := Aside0.mk (Kd.R_below (oR HO_1029000) hb); have n5_ := Aside0.mk (Kd.R_below (oR HO_1029002) hb); have n6_ := Aside0.mk (Kd.R_below (oR HO1032) hb); have n7_ := Aside0.mk (Kd.R_below (oR HO1036) hb); have n8_ := Aside0.mk (blk_below (g := gb994) (o := .cells #[.slice A0_0 l0_0.length c0_0, .int .i64 a0_1, .slice A0_2 l0_2.length c0_2] 25 (0, 0)) (oK BK994) hb); have n9_ := Aside0.mk (blk_below (g := gb1011) (o := .cells #[.slice Ao21 t1003.length co21, .int .i64 t1006, .slice Ao24 t1007.length co24] 30 (0, 0)) (oK BK1011) hb); have n10_ := Aside0.mk (blk_below (g := gb1019) (o := .cells #[.slice Ao28 t1012.length co28, .int .i64 t1015, .slice Ao32 t1016.length co32] 30 (0, 0)) (oK BK1019) hb); have n11_ := Aside0.mk (blk_below (g := gb1028) (o := .cells #[.slice Ao35 t1020.length co35, .int .i64 t1023, .slice Ao40 t1024.length co40] 30 (0, 0)) (oK BK1028) hb); have n12_ := Aside0.mk (below_step (oB HB) hb); clear HO_1012000; clear HO_1012002; clear HO_1020000; clear HO_1020002; clear HO_1029000; clear HO_1029002; clear HO1032; clear HO1036; clear BK994; clear BK1011; clear BK1019; clear BK1028; clear HB; have HO_1012000 := n0_; have HO_1012002 := n1_; have HO_1020000 := n2_; have HO_1020002 := n3_; have HO_1029000 := n4_; have HO_1029002 := n5_; have HO1032 := n6_; have HO1036 := n7_; have BK994 := n8_; have BK1011 := n9_; have BK1019 := n10_; have BK1028 := n11_; have HB := n12_; clear n0_ n1_ n2_ n3_ n4_ n5_ n6_ n7_ n8_ n9_ n10_ n11_ n12_; (try clear hb); (try clear hb2); (try clear hk); (try clear hi)))
                  go_meet
                  case rel => exact ⟨_, (true), (by first | rfl | (simp; done) | (simp [*]; done)), H', ⟨by have := HJ10.out; first | omega | exact Nat.le_refl _⟩, ⟨by (with_reducible repeat (first | apply Kd.R_alloc | apply Kd.R_drewN | apply Kd.R_drew)); exact Kd.R_mono HO_1012000.out (fun _ hk => ⟨hk.1, hk.2.1⟩)⟩, ⟨by (with_reducible repeat (first | apply Kd.R_alloc | apply Kd.R_drewN | apply Kd.R_drew)); exact Kd.R_mono HO_1012002.out (fun _ hk => ⟨hk.1, hk.2.1⟩)⟩, ⟨by (with_reducible repeat (first | apply Kd.R_alloc | apply Kd.R_drewN | apply Kd.R_drew)); exact Kd.R_mono HO_1020000.out (fun _ hk => ⟨hk.1.1, hk.1.2⟩)⟩, ⟨by (with_reducible repeat (first | apply Kd.R_alloc | apply Kd.R_drewN | apply Kd.R_drew)); exact Kd.R_mono HO_1020002.out (fun _ hk => ⟨hk.1.1, hk.1.2⟩)⟩, ⟨by (with_reducible repeat (first | apply Kd.R_alloc | apply Kd.R_drewN | apply Kd.R_drew)); exact Kd.R_mono HO_1029000.out (fun _ hk => ⟨hk.1, hk.2.1⟩)⟩, ⟨by (with_reducible repeat (first | apply Kd.R_alloc | apply Kd.R_drewN | apply Kd.R_drew)); exact Kd.R_mono HO_1029002.out (fun _ hk => ⟨hk.1, hk.2.1⟩)⟩, ⟨oK BK994⟩, ⟨oK BK1011⟩, ⟨oK BK1019⟩, ⟨oK BK1028⟩, ⟨oB HB⟩⟩
            case rest =>
              clear HC64
              try clear c1
              try clear c2
              try clear p2
              try clear c3
              try clear c3b0
              try clear c4
              try clear c5
              try clear c6
              try clear c7
              try clear c8
              try clear c9
              try clear c12
              try clear c15
              try clear c17
              try clear c19
              try clear c22
              try clear c28
              try clear c29
              try clear c30
              try clear c36
              try clear c37
              try clear c38
              try clear c42
              try clear c43
              try clear c44
              try clear c45
              try clear c46
              try clear c47
              try clear c48
              try clear c51
              try clear c52
              try clear c53
              try clear c55
              try clear c56
              try clear c59
              try clear c62
              try clear c70
              try clear c71
              try clear c72
              try clear c75
              try clear c75b0
              try clear c77
              try clear c78
              try clear c79
              try clear c80
              try clear c82
              try clear c83
              try clear c86
              try clear c87
              try clear c88
              try clear c90
              try clear c91
              try clear hcz13_0
              try clear hcz13_1
              try clear hcz13_2
              try clear hcz15_0
              try clear hcz15_1
              try clear hcz15_2
              try clear hcz23_0
              try clear hcz23_1
              try clear hcz23_2
              try clear hcz25_0
              try clear hcz25_1
              try clear hcz25_2
              try clear hcz31_0
              try clear hcz31_1
              try clear hcz31_2
              try clear hcz39_0
              try clear hcz39_1
              try clear hcz39_2
              try clear hcz46_0
              try clear hcz46_1
              try clear hcz46_2
              try clear hcz49_0
              try clear hcz49_1
              try clear hcz49_2
              try clear hcz54_0
              try clear hcz54_1
              try clear hcz54_2
              try clear hcz57_0
              try clear hcz57_1
              try clear hcz57_2
              try clear hcz5_0
              try clear hcz5_1
              try clear hcz5_2
              try clear hcz73_0
              try clear hcz73_1
              try clear hcz73_2
              try clear hcz81_0
              try clear hcz81_1
              try clear hcz81_2
              try clear hcz84_0
              try clear hcz84_1
              try clear hcz84_2
              try clear hcz89_0
              try clear hcz89_1
              try clear hcz89_2
              try clear hcz92_0
              try clear hcz92_1
              try clear hcz92_2
              try clear hfz13_0
              try clear hfz13_1
              try clear hfz13_2
              try clear hfz15_0
              try clear hfz15_1
              try clear hfz15_2
              try clear hfz23_0
              try clear hfz23_1
              try clear hfz23_2
              try clear hfz25_0
              try clear hfz25_1
              try clear hfz25_2
              try clear hfz31_0
              try clear hfz31_1
              try clear hfz31_2
              try clear hfz39_0
              try clear hfz39_1
              try clear hfz39_2
              try clear hfz46_0
              try clear hfz46_1
              try clear hfz46_2
              try clear hfz49_0
              try clear hfz49_1
              try clear hfz49_2
              try clear hfz54_0
              try clear hfz54_1
              try clear hfz54_2
              try clear hfz57_0
              try clear hfz57_1
              try clear hfz57_2
              try clear hfz5_0
              try clear hfz5_1
              try clear hfz5_2
              try clear hfz73_0
              try clear hfz73_1
              try clear hfz73_2
              try clear hfz81_0
              try clear hfz81_1
              try clear hfz81_2
              try clear hfz84_0
              try clear hfz84_1
              try clear hfz84_2
              try clear hfz89_0
              try clear hfz89_1
              try clear hfz89_2
              try clear hfz92_0
              try clear hfz92_1
              try clear hfz92_2
              try clear p2
              obtain ⟨kq, x61_63, rfl, HA, HJ63, HO_1012000, HO_1012002, HO_1020000, HO_1020002, HO_1029000, HO_1029002, BK994, BK1011, BK1019, BK1028, HB⟩ := hcut
              have hl1020000_63 := (Kd.R_reads' HO_1020000.out).1
              rw [hl1020000_63] at HO_1020000
              (try simp only [hl1020000_63])
              (try simp only [hl1020000_63] at BK994)
              (try simp only [hl1020000_63] at BK1011)
              (try simp only [hl1020000_63] at BK1019)
              (try simp only [hl1020000_63] at BK1028)
              (try simp only [hl1020000_63] at HO_1012000)
              (try simp only [hl1020000_63] at HO_1012002)
              (try simp only [hl1020000_63] at HO_1020002)
              (try simp only [hl1020000_63] at HO_1029000)
              (try simp only [hl1020000_63] at HO_1029002)
              have hl1020002_63 := (Kd.R_reads' HO_1020002.out).1
              rw [hl1020002_63] at HO_1020002
              (try simp only [hl1020002_63])
              (try simp only [hl1020002_63] at BK994)
              (try simp only [hl1020002_63] at BK1011)
              (try simp only [hl1020002_63] at BK1019)
              (try simp only [hl1020002_63] at BK1028)
              (try simp only [hl1020002_63] at HO_1012000)
              (try simp only [hl1020002_63] at HO_1012002)
              (try simp only [hl1020002_63] at HO_1020000)
              (try simp only [hl1020002_63] at HO_1029000)
              (try simp only [hl1020002_63] at HO_1029002)
              cases kq with
              | zero => exact absurd HA.out (by simp [laws_FnExactMendAll.j1])
              | succ kj63 =>
                have H := HA.out
                clear HA
                simp only [laws_FnExactMendAll.j1] at H
                by_cases c94 : x61_63 = true
                · subst c94
                  rw [if_pos rfl] at H
                  exact absurd ((Option.some.inj H).trans hrt_.out) (by decide)
                · replace c94 := Bool.eq_false_iff.mpr c94
                  subst c94
                  rw [if_neg (show ¬ (false = true) by decide)] at H
                  replace H := Option.bind_eq_some_iff.mp H
                  obtain ⟨⟨t1042, t1043, t1044⟩, A950, H⟩ := H
                  (try dsimp only at H)
                  have A95 := Aside0.mk A950
                  clear A950
                  replace H := Option.bind_eq_some_iff.mp H
                  obtain ⟨t1045, A960, H⟩ := H
                  (try dsimp only at H)
                  have A96 := Aside0.mk A960
                  clear A960
                  by_cases c97 : t1045 < 0
                  · rw [if_pos c97] at H
                    have c97b0 : decide (t1045 < 0) = true := decide_eq_true c97
                    clear c97
                    exact absurd ((Option.some.inj H).trans hrt_.out) (by decide)
                  · rw [if_neg c97] at H
                    have c97b0 : decide (t1045 < 0) = false := decide_eq_false c97
                    clear c97
                    by_cases c98 : t1045 = t1042
                    · rw [if_pos c98] at H
                      have c98b0 : (t1045 == t1042) = true := beq_iff_eq.mpr c98
                      have c98b1 : (t1045 != t1042) = false := bne_eq_false_iff_eq.mpr c98
                      clear c98
                      replace H := Option.bind_eq_some_iff.mp H
                      obtain ⟨⟨t1046, t1049, t1050⟩, A990, H⟩ := H
                      (try dsimp only at H)
                      have A99 := Aside0.mk A990
                      clear A990
                      replace H := Option.bind_eq_some_iff.mp H
                      obtain ⟨⟨t1053, t1056, t1057, t1060⟩, A1000, H⟩ := H
                      (try dsimp only at H)
                      have A100 := Aside0.mk A1000
                      clear A1000
                      have HC101 := Aside0.mk H
                      clear H
                      have hnb102 := NB1028_994.out
                      have hnc102 := NB994_1028.out
                      have hnb103 := NB1028_1011.out
                      have hnc103 := NB1011_1028.out
                      have hnb104 := NB1028_1019.out
                      have hnc104 := NB1019_1028.out
                      have hcz105_0 : wc.cell? ⟨gb1028, 0, none⟩ = some (.slice Ao35 t1020.length co35) := (blk_cell BK1028.out 0).trans rfl
                      have hcz105_1 : wc.cell? ⟨gb1028, 1, none⟩ = some (.int .i64 t1023) := (blk_cell BK1028.out 1).trans rfl
                      have hcz105_2 : wc.cell? ⟨gb1028, 2, none⟩ = some (.slice Ao40 t1024.length co40) := (blk_cell BK1028.out 2).trans rfl
                      have hfz105_0 := blk_frozen BK1028.out 0
                      have hfz105_1 := blk_frozen BK1028.out 1
                      have hfz105_2 := blk_frozen BK1028.out 2
                      go_upto_region 25 with (first | ((with_reducible refine gate_callee (f := 28) rfl ?_); refine goesL_ (some 64) rfl rfl Try.func28 (by kernel_rfl) rfl #[.agg #[.slice Ao35 t1020.length co35, .int .i64 t1023, .slice Ao40 t1024.length co40], .int .i64 1] rfl (by (try simp only [List.map_toArray, List.map_cons, List.map_nil]); first | done | rfl | (simp only [List.length_drop, List.length_take]; rfl)) ?_; (with_reducible refine (laws_markWork.calls kj63 (fun k_ => some k_ = (.slice Ao35 t1020.length co35 : Value).ownBlock) (.slice Ao35 t1020.length co35) t1020 t1023 (fun k_ => some k_ = (.slice Ao40 t1024.length co40 : Value).ownBlock) (.slice Ao40 t1024.length co40) t1024 1 t1042 t1043 t1044 w _ ?side1 ?side2 ?side3 A95.out).mono ?_); (case side1 => repeat (first | (with_reducible first | exact HB.out | apply below_alloc | apply pw_below_drewN | apply below_drew1 | refine below_set ?_ GE994.out | refine below_set ?_ GE1011.out | refine below_set ?_ GE1019.out | refine below_set ?_ GE1028.out) | exact HB.out)); (case side2 => exact Kd.R_tight rfl HO_1029000.out); (case side3 => exact Kd.R_tight rfl HO_1029002.out); rintro e w106 ⟨rfl, hy0, hy1, hb, hkp⟩; refine ⟨_, rfl, ?_⟩; have n0_ := Aside0.mk (Kd.R_mono (ok' := fun k_ => some k_ ≠ (.slice Ao28 t1039.length co28 : Value).ownBlock ∧ some k_ ≠ (.slice Ao35 t1020.length co35 : Value).ownBlock) (Kd.R_keptB ((Kd.R_apart' HO_1012000.out (Kd.R_typed HO_1029002.out) (by decide))) hkp (fun k_ hk_ hs_ => Or.elim hs_ (fun e_ => (hk_.1.2) e_) (fun e_ => (hk_.2) e_))) (fun k_ hk_ => ⟨hk_.1.1.1, hk_.1.1.2⟩)); have n1_ := Aside0.mk (Kd.R_mono (ok' := fun k_ => some k_ ≠ (.slice Ao32 t1040.length co32 : Value).ownBlock ∧ some k_ ≠ (.slice Ao40 t1024.length co40 : Value).ownBlock) (Kd.R_keptB ((Kd.R_apart' HO_1012002.out (Kd.R_typed HO_1029000.out) (by decide))) hkp (fun k_ hk_ hs_ => Or.elim hs_ (fun e_ => (hk_.2) e_) (fun e_ => (hk_.1.2) e_))) (fun k_ hk_ => ⟨hk_.1.1.1, hk_.1.1.2⟩)); have n2_ := Aside0.mk (Kd.R_mono (ok' := fun k_ => some k_ ≠ (.slice Ao21 t1003.length co21 : Value).ownBlock ∧ some k_ ≠ (.slice Ao35 t1020.length co35 : Value).ownBlock) (Kd.R_keptB ((Kd.R_apart' HO_1020000.out (Kd.R_typed HO_1029002.out) (by decide))) hkp (fun k_ hk_ hs_ => Or.elim hs_ (fun e_ => (hk_.1.2) e_) (fun e_ => (hk_.2) e_))) (fun k_ hk_ => ⟨hk_.1.1.1, hk_.1.1.2⟩)); have n3_ := Aside0.mk (Kd.R_mono (ok' := fun k_ => some k_ ≠ (.slice Ao24 t1007.length co24 : Value).ownBlock ∧ some k_ ≠ (.slice Ao40 t1024.length co40 : Value).ownBlock) (Kd.R_keptB ((Kd.R_apart' HO_1020002.out (Kd.R_typed HO_1029000.out) (by decide))) hkp (fun k_ hk_ hs_ => Or.elim hs_ (fun e_ => (hk_.2) e_) (fun e_ => (hk_.1.2) e_))) (fun k_ hk_ => ⟨hk_.1.1.1, hk_.1.1.2⟩)); have n4_ := Aside0.mk (Kd.R_reok rfl hy0 (fun k_ e_ => HO_1029000.out.1 k_ e_)); have n5_ := Aside0.mk (Kd.R_reok rfl hy1 (fun k_ e_ => HO_1029002.out.1 k_ e_)); have n6_ := Aside0.mk (blk_kept (oK BK994) hkp (fun hs_ => Or.elim hs_ (fun e_ => (fun e_ => (Kd.R_ne HO_1029000.out BK994.out (by decide)) e_) e_) (fun e_ => (fun e_ => (Kd.R_ne HO_1029002.out BK994.out (by decide)) e_) e_))); have n7_ := Aside0.mk (blk_kept (oK BK1011) hkp (fun hs_ => Or.elim hs_ (fun e_ => (fun e_ => (Kd.R_ne HO_1029000.out BK1011.out (by decide)) e_) e_) (fun e_ => (fun e_ => (Kd.R_ne HO_1029002.out BK1011.out (by decide)) e_) e_))); have n8_ := Aside0.mk (blk_kept (oK BK1019) hkp (fun hs_ => Or.elim hs_ (fun e_ => (fun e_ => (Kd.R_ne HO_1029000.out BK1019.out (by decide)) e_) e_) (fun e_ => (fun e_ => (Kd.R_ne HO_1029002.out BK1019.out (by decide)) e_) e_))); have n9_ := Aside0.mk (blk_kept (oK BK1028) hkp (fun hs_ => Or.elim hs_ (fun e_ => (fun e_ => (Kd.R_ne HO_1029000.out BK1028.out (by decide)) e_) e_) (fun e_ => (fun e_ => (Kd.R_ne HO_1029002.out BK1028.out (by decide)) e_) e_))); have n10_ := Aside0.mk (hb); clear HO_1012000; clear HO_1012002; clear HO_1020000; clear HO_1020002; clear HO_1029000; clear HO_1029002; clear BK994; clear BK1011; clear BK1019; clear BK1028; clear HB; have HO_1012000 := n0_; have HO_1012002 := n1_; have HO_1020000 := n2_; have HO_1020002 := n3_; have HO_1029000 := n4_; have HO_1029002 := n5_; have BK994 := n6_; have BK1011 := n7_; have BK1019 := n8_; have BK1028 := n9_; have HB := n10_; clear n0_ n1_ n2_ n3_ n4_ n5_ n6_ n7_ n8_ n9_ n10_; (try clear hb); (try clear hkp); (try clear hy0); (try clear hy1); have hcz107_0 : w106.cell? ⟨gb1028, 0, none⟩ = some (.slice Ao35 t1020.length co35) := (blk_cell BK1028.out 0).trans rfl; have hcz107_1 : w106.cell? ⟨gb1028, 1, none⟩ = some (.int .i64 t1023) := (blk_cell BK1028.out 1).trans rfl; have hcz107_2 : w106.cell? ⟨gb1028, 2, none⟩ = some (.slice Ao40 t1024.length co40) := (blk_cell BK1028.out 2).trans rfl; have hfz107_0 := blk_frozen BK1028.out 0; have hfz107_1 := blk_frozen BK1028.out 1; have hfz107_2 := blk_frozen BK1028.out 2) | ((with_reducible refine gate_callee (f := 29) rfl ?_); refine goesL_ (some 67) rfl rfl Try.func29 (by kernel_rfl) rfl #[.agg #[.slice Ao35 t1043.length co35, .int .i64 t1023, .slice Ao40 t1044.length co40], .int .i64 1] rfl (by (try simp only [List.map_toArray, List.map_cons, List.map_nil]); first | done | (rw [show t1043.length = t1020.length from (Kd.R_reads' HO_1029000.out).1.symm, show t1044.length = t1024.length from (Kd.R_reads' HO_1029002.out).1.symm] <;> rfl) | rfl | (simp only [List.length_drop, List.length_take]; rfl)) ?_; (with_reducible refine (laws_heldWork.calls kj63 _ _ t1043 t1023 _ _ t1044 1 t1045 _ ?side1 ?side2 ?side3 ?side4 A96.out).mono ?_); (case side1 => repeat (first | exact (Kd.R_reads' HO_1029000.out).2.2 | (with_reducible refine Kd.C_alloc ?_ _) | (with_reducible refine Kd.C_drewN ?_ _) | (with_reducible refine Kd.C_drew ?_))); (case side2 => rw [show t1043.length = t1020.length from (Kd.R_reads' HO_1029000.out).1.symm]; exact (Kd.R_reads' HO_1029000.out).2.1); (case side3 => repeat (first | exact (Kd.R_reads' HO_1029002.out).2.2 | (with_reducible refine Kd.C_alloc ?_ _) | (with_reducible refine Kd.C_drewN ?_ _) | (with_reducible refine Kd.C_drew ?_))); (case side4 => rw [show t1044.length = t1024.length from (Kd.R_reads' HO_1029002.out).1.symm]; exact (Kd.R_reads' HO_1029002.out).2.1); rintro e w108 ⟨rfl, hb⟩; refine ⟨_, rfl, ?_⟩; have n0_ := Aside0.mk (Kd.R_below (oR HO_1012000) hb); have n1_ := Aside0.mk (Kd.R_below (oR HO_1012002) hb); have n2_ := Aside0.mk (Kd.R_below (oR HO_1020000) hb); have n3_ := Aside0.mk (Kd.R_below (oR HO_1020002) hb); have n4_ := Aside0.mk (Kd.R_below (oR HO_1029000) hb); have n5_ := Aside0.mk (Kd.R_below (oR HO_1029002) hb); have n6_ := Aside0.mk (blk_below (g := gb994) (o := .cells #[.slice A0_0 l0_0.length c0_0, .int .i64 a0_1, .slice A0_2 l0_2.length c0_2] 25 (0, 0)) (oK BK994) hb); have n7_ := Aside0.mk (blk_below (g := gb1011) (o := .cells #[.slice Ao21 t1003.length co21, .int .i64 t1006, .slice Ao24 t1007.length co24] 30 (0, 0)) (oK BK1011) hb); have n8_ := Aside0.mk (blk_below (g := gb1019) (o := .cells #[.slice Ao28 t1039.length co28, .int .i64 t1015, .slice Ao32 t1040.length co32] 30 (0, 0)) (oK BK1019) hb); have n9_ := Aside0.mk (blk_below (g := gb1028) (o := .cells #[.slice Ao35 t1020.length co35, .int .i64 t1023, .slice Ao40 t1024.length co40] 30 (0, 0)) (oK BK1028) hb); have n10_ := Aside0.mk (below_step (oB HB) hb); clear HO_1012000; clear HO_1012002; clear HO_1020000; clear HO_1020002; clear HO_1029000; clear HO_1029002; clear BK994; clear BK1011; clear BK1019; clear BK1028; clear HB; have HO_1012000 := n0_; have HO_1012002 := n1_; have HO_1020000 := n2_; have HO_1020002 := n3_; have HO_1029000 := n4_; have HO_1029002 := n5_; have BK994 := n6_; have BK1011 := n7_; have BK1019 := n8_; have BK1028 := n9_; have HB := n10_; clear n0_ n1_ n2_ n3_ n4_ n5_ n6_ n7_ n8_ n9_ n10_; (try clear hb); (try clear hb2); (try clear hk); (try clear hi); have hnb109 := NB994_1011.out; have hnc109 := NB1011_994.out; have hnb110 := NB994_1019.out; have hnc110 := NB1019_994.out; have hcz111_0 : w108.cell? ⟨gb994, 0, none⟩ = some (.slice A0_0 l0_0.length c0_0) := (blk_cell BK994.out 0).trans rfl; have hcz111_1 : w108.cell? ⟨gb994, 1, none⟩ = some (.int .i64 a0_1) := (blk_cell BK994.out 1).trans rfl; have hcz111_2 : w108.cell? ⟨gb994, 2, none⟩ = some (.slice A0_2 l0_2.length c0_2) := (blk_cell BK994.out 2).trans rfl; have hfz111_0 := blk_frozen BK994.out 0; have hfz111_1 := blk_frozen BK994.out 1; have hfz111_2 := blk_frozen BK994.out 2) | ((with_reducible refine gate_callee (f := 17) rfl ?_); refine goesL_ (some 75) rfl rfl Try.func17 (by kernel_rfl) rfl #[.agg #[.slice A0_0 l0_0.length c0_0, .int .i64 a0_1, .slice A0_2 l0_2.length c0_2]] rfl (by (try simp only [List.map_toArray, List.map_cons, List.map_nil]); first | done | rfl | (simp only [List.length_drop, List.length_take]; rfl)) ?_; (with_reducible refine (laws_toWork.calls kj63 _ _ l0_0 a0_1 _ _ l0_2 t1046 t1049 t1050 _ ?side1 ?side2 ?side3 ?side4 A99.out).mono ?_); (case side1 => exact oc_ HR0_0.out); (case side2 => exact HC0_0.out); (case side3 => exact oc_ HR0_2.out); (case side4 => exact HC0_2.out); rintro e w112 ⟨v1047, v1051, rfl, ho0, ho1, hb⟩; refine ⟨_, rfl, ?_⟩; have n0_ := Aside0.mk (Kd.R_elder' (oR HO_1012000) (Kd.R_base ho0) hb); have n1_ := Aside0.mk (Kd.R_elder' (oR HO_1012002) (Kd.R_base ho1) hb); have n2_ := Aside0.mk (Kd.R_elder' (oR HO_1020000) (Kd.R_base ho0) hb); have n3_ := Aside0.mk (Kd.R_elder' (oR HO_1020002) (Kd.R_base ho1) hb); have n4_ := Aside0.mk (Kd.R_elder' (oR HO_1029000) (Kd.R_base ho0) hb); have n5_ := Aside0.mk (Kd.R_elder' (oR HO_1029002) (Kd.R_base ho1) hb); have n6_ := Aside0.mk (Kd.R_lower (Kd.R_new' (Kd.R_new' (Kd.R_new' ho0 (Kd.R_lt (oR HO_1012000))) (Kd.R_lt (oR HO_1020000))) (Kd.R_lt (oR HO_1029000))) (below_size (oB HB))); have n7_ := Aside0.mk (Kd.R_lower (Kd.R_new' (Kd.R_new' (Kd.R_new' ho1 (Kd.R_lt (oR HO_1012002))) (Kd.R_lt (oR HO_1020002))) (Kd.R_lt (oR HO_1029002))) (below_size (oB HB))); have n8_ := Aside0.mk (blk_below (g := gb994) (o := .cells #[.slice A0_0 l0_0.length c0_0, .int .i64 a0_1, .slice A0_2 l0_2.length c0_2] 25 (0, 0)) (oK BK994) hb); have n9_ := Aside0.mk (blk_below (g := gb1011) (o := .cells #[.slice Ao21 t1003.length co21, .int .i64 t1006, .slice Ao24 t1007.length co24] 30 (0, 0)) (oK BK1011) hb); have n10_ := Aside0.mk (blk_below (g := gb1019) (o := .cells #[.slice Ao28 t1039.length co28, .int .i64 t1015, .slice Ao32 t1040.length co32] 30 (0, 0)) (oK BK1019) hb); have n11_ := Aside0.mk (blk_below (g := gb1028) (o := .cells #[.slice Ao35 t1020.length co35, .int .i64 t1023, .slice Ao40 t1024.length co40] 30 (0, 0)) (oK BK1028) hb); have n12_ := Aside0.mk (below_step (oB HB) hb); clear HO_1012000; clear HO_1012002; clear HO_1020000; clear HO_1020002; clear HO_1029000; clear HO_1029002; clear BK994; clear BK1011; clear BK1019; clear BK1028; clear HB; have HO_1012000 := n0_; have HO_1012002 := n1_; have HO_1020000 := n2_; have HO_1020002 := n3_; have HO_1029000 := n4_; have HO_1029002 := n5_; have HO1048 := n6_; have HO1052 := n7_; have BK994 := n8_; have BK1011 := n9_; have BK1019 := n10_; have BK1028 := n11_; have HB := n12_; clear n0_ n1_ n2_ n3_ n4_ n5_ n6_ n7_ n8_ n9_ n10_ n11_ n12_; (try clear hb); (try clear hb2); (try clear hk); (try clear hi); (try clear ho0); (try clear ho1); obtain ⟨Ao113, co113, eo113⟩ := Kd.R_slice HO1048.out; subst eo113; obtain ⟨Ao114, co114, eo114⟩ := Kd.R_slice HO1052.out; subst eo114) | ((with_reducible refine gate_callee (f := 46) rfl ?_); refine goesL_ (some 76) rfl rfl Try.func46 (by kernel_rfl) rfl #[.agg #[.slice Ao113 t1046.length co113, .int .i64 t1049, .slice Ao114 t1050.length co114]] rfl (by (try simp only [List.map_toArray, List.map_cons, List.map_nil]); first | done | rfl | (simp only [List.length_drop, List.length_take]; rfl)) ?_; (with_reducible refine (impl_MendAll.calls kj63 _ _ t1046 t1049 _ _ t1050 t1053 t1056 t1057 t1060 _ ?side1 ?side2 ?side3 ?side4 A100.out).mono ?_); (case side1 => repeat (first | exact (Kd.R_reads' HO1048.out).2.2 | (with_reducible refine Kd.C_alloc ?_ _) | (with_reducible refine Kd.C_drewN ?_ _) | (with_reducible refine Kd.C_drew ?_))); (case side2 => exact (Kd.R_reads' HO1048.out).2.1); (case side3 => repeat (first | exact (Kd.R_reads' HO1052.out).2.2 | (with_reducible refine Kd.C_alloc ?_ _) | (with_reducible refine Kd.C_drewN ?_ _) | (with_reducible refine Kd.C_drew ?_))); (case side4 => exact (Kd.R_reads' HO1052.out).2.1); rintro e w115 ⟨v1054, v1058, rfl, ho0, ho1, hb⟩; refine ⟨_, rfl, ?_⟩; have n0_ := Aside0.mk (Kd.R_elder' (oR HO_1012000) (Kd.R_base ho0) hb); have n1_ := Aside0.mk (Kd.R_elder' (oR HO_1012002) (Kd.R_base ho1) hb); have n2_ := Aside0.mk (Kd.R_elder' (oR HO_1020000) (Kd.R_base ho0) hb); have n3_ := Aside0.mk (Kd.R_elder' (oR HO_1020002) (Kd.R_base ho1) hb); have n4_ := Aside0.mk (Kd.R_elder' (oR HO_1029000) (Kd.R_base ho0) hb); have n5_ := Aside0.mk (Kd.R_elder' (oR HO_1029002) (Kd.R_base ho1) hb); have n6_ := Aside0.mk (Kd.R_elder' (oR HO1048) (Kd.R_base ho0) hb); have n7_ := Aside0.mk (Kd.R_elder' (oR HO1052) (Kd.R_base ho1) hb); have n8_ := Aside0.mk (Kd.R_lower (Kd.R_new' (Kd.R_new' (Kd.R_new' (Kd.R_new' ho0 (Kd.R_lt (oR HO_1012000))) (Kd.R_lt (oR HO_1020000))) (Kd.R_lt (oR HO_1029000))) (Kd.R_lt (oR HO1048))) (below_size (oB HB))); have n9_ := Aside0.mk (Kd.R_lower (Kd.R_new' (Kd.R_new' (Kd.R_new' (Kd.R_new' ho1 (Kd.R_lt (oR HO_1012002))) (Kd.R_lt (oR HO_1020002))) (Kd.R_lt (oR HO_1029002))) (Kd.R_lt (oR HO1052))) (below_size (oB HB))); have n10_ := Aside0.mk (blk_below (g := gb994) (o := .cells #[.slice A0_0 l0_0.length c0_0, .int .i64 a0_1, .slice A0_2 l0_2.length c0_2] 25 (0, 0)) (oK BK994) hb); have n11_ := Aside0.mk (blk_below (g := gb1011) (o := .cells #[.slice Ao21 t1003.length co21, .int .i64 t1006, .slice Ao24 t1007.length co24] 30 (0, 0)) (oK BK1011) hb); have n12_ := Aside0.mk (blk_below (g := gb1019) (o := .cells #[.slice Ao28 t1039.length co28, .int .i64 t1015, .slice Ao32 t1040.length co32] 30 (0, 0)) (oK BK1019) hb); have n13_ := Aside0.mk (blk_below (g := gb1028) (o := .cells #[.slice Ao35 t1020.length co35, .int .i64 t1023, .slice Ao40 t1024.length co40] 30 (0, 0)) (oK BK1028) hb); have n14_ := Aside0.mk (below_step (oB HB) hb); clear HO_1012000; clear HO_1012002; clear HO_1020000; clear HO_1020002; clear HO_1029000; clear HO_1029002; clear HO1048; clear HO1052; clear BK994; clear BK1011; clear BK1019; clear BK1028; clear HB; have HO_1012000 := n0_; have HO_1012002 := n1_; have HO_1020000 := n2_; have HO_1020002 := n3_; have HO_1029000 := n4_; have HO_1029002 := n5_; have HO1048 := n6_; have HO1052 := n7_; have HO1055 := n8_; have HO1059 := n9_; have BK994 := n10_; have BK1011 := n11_; have BK1019 := n12_; have BK1028 := n13_; have HB := n14_; clear n0_ n1_ n2_ n3_ n4_ n5_ n6_ n7_ n8_ n9_ n10_ n11_ n12_ n13_ n14_; (try clear hb); (try clear hb2); (try clear hk); (try clear hi); (try clear ho0); (try clear ho1)) | ((with_reducible refine gate_dst (N := 12) rfl ?_); refine box_event ?hg (N := 12) ?hd (cs := #[.slice none 0 0, .int .i64 0, .slice none 0 0]) (t := 30) ?hr ?_; (case hd => rfl); (case hg => rfl); (case hr => first | (go_simp; done) | (go_simp; rfl)); intro gb1061 hg w116 hbox hb; have n0_ := Aside0.mk (Kd.R_below (oR HO_1012000) hb); have n1_ := Aside0.mk (Kd.R_below (oR HO_1012002) hb); have n2_ := Aside0.mk (Kd.R_below (oR HO_1020000) hb); have n3_ := Aside0.mk (Kd.R_below (oR HO_1020002) hb); have n4_ := Aside0.mk (Kd.R_below (oR HO_1029000) hb); have n5_ := Aside0.mk (Kd.R_below (oR HO_1029002) hb); have n6_ := Aside0.mk (Kd.R_below (oR HO1048) hb); have n7_ := Aside0.mk (Kd.R_below (oR HO1052) hb); have n8_ := Aside0.mk (Kd.R_below (oR HO1055) hb); have n9_ := Aside0.mk (Kd.R_below (oR HO1059) hb); have n10_ := Aside0.mk (blk_below (g := gb994) (o := .cells #[.slice A0_0 l0_0.length c0_0, .int .i64 a0_1, .slice A0_2 l0_2.length c0_2] 25 (0, 0)) (oK BK994) hb); have n11_ := Aside0.mk (blk_below (g := gb1011) (o := .cells #[.slice Ao21 t1003.length co21, .int .i64 t1006, .slice Ao24 t1007.length co24] 30 (0, 0)) (oK BK1011) hb); have n12_ := Aside0.mk (blk_below (g := gb1019) (o := .cells #[.slice Ao28 t1039.length co28, .int .i64 t1015, .slice Ao32 t1040.length co32] 30 (0, 0)) (oK BK1019) hb); have n13_ := Aside0.mk (blk_below (g := gb1028) (o := .cells #[.slice Ao35 t1020.length co35, .int .i64 t1023, .slice Ao40 t1024.length co40] 30 (0, 0)) (oK BK1028) hb); have n14_ := Aside0.mk (below_step (oB HB) hb); have n15_ := Aside0.mk (hbox); have n16_ := Aside0.mk ((by rw [hg]; exact (below_size (oB HB)) : w.heap.size ≤ gb1061)); have n17_ := Aside0.mk ((by rw [hg]; exact (below_size (oB HB)) : w.heap.size ≤ gb1061)); have n18_ := Aside0.mk ((by rw [hg]; exact Nat.ne_of_lt (blk_lt (g := gb994) (o := .cells #[.slice A0_0 l0_0.length c0_0, .int .i64 a0_1, .slice A0_2 l0_2.length c0_2] 25 (0, 0)) (oK BK994)) : gb994 ≠ gb1061)); have n19_ := Aside0.mk ((by rw [hg]; exact Nat.ne_of_gt (blk_lt (g := gb994) (o := .cells #[.slice A0_0 l0_0.length c0_0, .int .i64 a0_1, .slice A0_2 l0_2.length c0_2] 25 (0, 0)) (oK BK994)) : gb1061 ≠ gb994)); have n20_ := Aside0.mk ((by rw [hg]; exact Nat.ne_of_lt (blk_lt (g := gb1011) (o := .cells #[.slice Ao21 t1003.length co21, .int .i64 t1006, .slice Ao24 t1007.length co24] 30 (0, 0)) (oK BK1011)) : gb1011 ≠ gb1061)); have n21_ := Aside0.mk ((by rw [hg]; exact Nat.ne_of_gt (blk_lt (g := gb1011) (o := .cells #[.slice Ao21 t1003.length co21, .int .i64 t1006, .slice Ao24 t1007.length co24] 30 (0, 0)) (oK BK1011)) : gb1061 ≠ gb1011)); have n22_ := Aside0.mk ((by rw [hg]; exact Nat.ne_of_lt (blk_lt (g := gb1019) (o := .cells #[.slice Ao28 t1039.length co28, .int .i64 t1015, .slice Ao32 t1040.length co32] 30 (0, 0)) (oK BK1019)) : gb1019 ≠ gb1061)); have n23_ := Aside0.mk ((by rw [hg]; exact Nat.ne_of_gt (blk_lt (g := gb1019) (o := .cells #[.slice Ao28 t1039.length co28, .int .i64 t1015, .slice Ao32 t1040.length co32] 30 (0, 0)) (oK BK1019)) : gb1061 ≠ gb1019)); have n24_ := Aside0.mk ((by rw [hg]; exact Nat.ne_of_lt (blk_lt (g := gb1028) (o := .cells #[.slice Ao35 t1020.length co35, .int .i64 t1023, .slice Ao40 t1024.length co40] 30 (0, 0)) (oK BK1028)) : gb1028 ≠ gb1061)); have n25_ := Aside0.mk ((by rw [hg]; exact Nat.ne_of_gt (blk_lt (g := gb1028) (o := .cells #[.slice Ao35 t1020.length co35, .int .i64 t1023, .slice Ao40 t1024.length co40] 30 (0, 0)) (oK BK1028)) : gb1061 ≠ gb1028)); clear HO_1012000; clear HO_1012002; clear HO_1020000; clear HO_1020002; clear HO_1029000; clear HO_1029002; clear HO1048; clear HO1052; clear HO1055; clear HO1059; clear BK994; clear BK1011; clear BK1019; clear BK1028; clear HB; have HO_1012000 := n0_; have HO_1012002 := n1_; have HO_1020000 := n2_; have HO_1020002 := n3_; have HO_1029000 := n4_; have HO_1029002 := n5_; have HO1048 := n6_; have HO1052 := n7_; have HO1055 := n8_; have HO1059 := n9_; have BK994 := n10_; have BK1011 := n11_; have BK1019 := n12_; have BK1028 := n13_; have HB := n14_; have BK1061 := n15_; have GW1061 := n16_; have GE1061 := n17_; have NB994_1061 := n18_; have NB1061_994 := n19_; have NB1011_1061 := n20_; have NB1061_1011 := n21_; have NB1019_1061 := n22_; have NB1061_1019 := n23_; have NB1028_1061 := n24_; have NB1061_1028 := n25_; clear n0_ n1_ n2_ n3_ n4_ n5_ n6_ n7_ n8_ n9_ n10_ n11_ n12_ n13_ n14_ n15_ n16_ n17_ n18_ n19_ n20_ n21_ n22_ n23_ n24_ n25_; clear hb hbox hg; obtain ⟨Ao117, co117, eo117⟩ := Kd.R_slice HO1055.out; subst eo117; have hnb118 := NB1061_994.out; have hnc118 := NB994_1061.out; have hnb119 := NB1061_1011.out; have hnc119 := NB1011_1061.out; have hnb120 := NB1061_1019.out; have hnc120 := NB1019_1061.out; have hnb121 := NB1061_1028.out; have hnc121 := NB1028_1061.out; have hcz122_0 : w116.cell? ⟨gb1061, 0, none⟩ = some (.slice none 0 0) := (blk_cell BK1061.out 0).trans rfl; have hcz122_1 : w116.cell? ⟨gb1061, 1, none⟩ = some (.int .i64 0) := (blk_cell BK1061.out 1).trans rfl; have hcz122_2 : w116.cell? ⟨gb1061, 2, none⟩ = some (.slice none 0 0) := (blk_cell BK1061.out 2).trans rfl; have hfz122_0 := blk_frozen BK1061.out 0; have hfz122_1 := blk_frozen BK1061.out 1; have hfz122_2 := blk_frozen BK1061.out 2; obtain ⟨Ao123, co123, eo123⟩ := Kd.R_slice HO1059.out; subst eo123))
                      (try simp only [Act.put, List.setIfInBounds_toArray, List.set_cons_zero, List.set_cons_succ])
                      go_cut [87] (fun v87 wc => ∃ (kq : Nat) (x87_100 : Bool), v87 = .bool x87_100 ∧ Aside0 (laws_FnExactMendAll.j2 kq t1042 x87_100 t1043 t1023 t1044 = some r) ∧ Aside0 (kq ≤ kj63) ∧ Aside0 (Kd.R k67 67 wc w.heap.size (fun k_ => some k_ ≠ ((.slice Ao28 t1039.length co28) : Value).ownBlock ∧ some k_ ≠ ((.slice Ao35 t1020.length co35) : Value).ownBlock ∧ some k_ ≠ ((.slice Ao117 t1053.length co117) : Value).ownBlock) (.slice Ao21 t1003.length co21) t1003) ∧ Aside0 (Kd.R (Kd.int .i64) 3 wc w.heap.size (fun k_ => some k_ ≠ ((.slice Ao32 t1040.length co32) : Value).ownBlock ∧ some k_ ≠ ((.slice Ao40 t1024.length co40) : Value).ownBlock ∧ some k_ ≠ ((.slice Ao123 t1057.length co123) : Value).ownBlock) (.slice Ao24 t1007.length co24) t1007) ∧ Aside0 (Kd.R k67 67 wc w.heap.size (fun k_ => some k_ ≠ ((.slice Ao21 t1003.length co21) : Value).ownBlock ∧ some k_ ≠ ((.slice Ao35 t1020.length co35) : Value).ownBlock ∧ some k_ ≠ ((.slice Ao117 t1053.length co117) : Value).ownBlock) (.slice Ao28 t1039.length co28) t1039) ∧ Aside0 (Kd.R (Kd.int .i64) 3 wc w.heap.size (fun k_ => some k_ ≠ ((.slice Ao24 t1007.length co24) : Value).ownBlock ∧ some k_ ≠ ((.slice Ao40 t1024.length co40) : Value).ownBlock ∧ some k_ ≠ ((.slice Ao123 t1057.length co123) : Value).ownBlock) (.slice Ao32 t1040.length co32) t1040) ∧ Aside0 (Kd.R k67 67 wc w.heap.size (fun k_ => some k_ ≠ ((.slice Ao21 t1003.length co21) : Value).ownBlock ∧ some k_ ≠ ((.slice Ao28 t1039.length co28) : Value).ownBlock ∧ some k_ ≠ ((.slice Ao117 t1053.length co117) : Value).ownBlock) (.slice Ao35 t1020.length co35) t1043) ∧ Aside0 (Kd.R (Kd.int .i64) 3 wc w.heap.size (fun k_ => some k_ ≠ ((.slice Ao24 t1007.length co24) : Value).ownBlock ∧ some k_ ≠ ((.slice Ao32 t1040.length co32) : Value).ownBlock ∧ some k_ ≠ ((.slice Ao123 t1057.length co123) : Value).ownBlock) (.slice Ao40 t1024.length co40) t1044) ∧ Aside0 (Kd.R k67 67 wc w.heap.size (fun k_ => some k_ ≠ ((.slice Ao21 t1003.length co21) : Value).ownBlock ∧ some k_ ≠ ((.slice Ao28 t1039.length co28) : Value).ownBlock ∧ some k_ ≠ ((.slice Ao35 t1020.length co35) : Value).ownBlock) (.slice Ao117 t1053.length co117) t1053) ∧ Aside0 (Kd.R (Kd.int .i64) 3 wc w.heap.size (fun k_ => some k_ ≠ ((.slice Ao24 t1007.length co24) : Value).ownBlock ∧ some k_ ≠ ((.slice Ao32 t1040.length co32) : Value).ownBlock ∧ some k_ ≠ ((.slice Ao40 t1024.length co40) : Value).ownBlock) (.slice Ao123 t1057.length co123) t1057) ∧ Aside0 (wc.heap[gb994]? = some (.cells #[(.slice A0_0 l0_0.length c0_0), .int .i64 a0_1, (.slice A0_2 l0_2.length c0_2)] 25 (0, 0))) ∧ Aside0 (wc.heap[gb1011]? = some (.cells #[(.slice Ao21 t1003.length co21), .int .i64 t1006, (.slice Ao24 t1007.length co24)] 30 (0, 0))) ∧ Aside0 (wc.heap[gb1019]? = some (.cells #[(.slice Ao28 t1039.length co28), .int .i64 t1015, (.slice Ao32 t1040.length co32)] 30 (0, 0))) ∧ Aside0 (wc.heap[gb1028]? = some (.cells #[(.slice Ao35 t1020.length co35), .int .i64 t1023, (.slice Ao40 t1024.length co40)] 30 (0, 0))) ∧ Aside0 (wc.heap[gb1061]? = some (.cells #[(.slice Ao117 t1053.length co117), .int .i64 t1056, (.slice Ao123 t1057.length co123)] 30 (0, 0))) ∧ Aside0 (Below w.heap.size w wc))
                      case first =>
                        have H := HC101.out
                        clear HC101
                        replace H := Option.bind_eq_some_iff.mp H
                        obtain ⟨t1062, A1240, H⟩ := H
                        (try dsimp only at H)
                        have A124 := Aside0.mk A1240
                        clear A1240
                        by_cases c125 : t1062 = true
                        · subst c125
                          rw [if_pos rfl] at H
                          have H' := Aside0.mk H
                          clear H
                          have hnb126 := NB1061_994.out
                          have hnc126 := NB994_1061.out
                          have hnb127 := NB1061_1011.out
                          have hnc127 := NB1011_1061.out
                          have hnb128 := NB1061_1019.out
                          have hnc128 := NB1019_1061.out
                          have hnb129 := NB1061_1028.out
                          have hnc129 := NB1028_1061.out
                          have hcz130_0 : w116.cell? ⟨gb1061, 0, none⟩ = some (.slice none 0 0) := (blk_cell BK1061.out 0).trans rfl
                          have hcz130_1 : w116.cell? ⟨gb1061, 1, none⟩ = some (.int .i64 0) := (blk_cell BK1061.out 1).trans rfl
                          have hcz130_2 : w116.cell? ⟨gb1061, 2, none⟩ = some (.slice none 0 0) := (blk_cell BK1061.out 2).trans rfl
                          have hfz130_0 := blk_frozen BK1061.out 0
                          have hfz130_1 := blk_frozen BK1061.out 1
                          have hfz130_2 := blk_frozen BK1061.out 2
                          have hnb131 := NB1011_994.out
                          have hnc131 := NB994_1011.out
                          have hnb132 := NB1011_1019.out
                          have hnc132 := NB1019_1011.out
                          have hnb133 := NB1011_1028.out
                          have hnc133 := NB1028_1011.out
                          have hcz134_0 : w116.cell? ⟨gb1011, 0, none⟩ = some (.slice Ao21 t1003.length co21) := (blk_cell BK1011.out 0).trans rfl
                          have hcz134_1 : w116.cell? ⟨gb1011, 1, none⟩ = some (.int .i64 t1006) := (blk_cell BK1011.out 1).trans rfl
                          have hcz134_2 : w116.cell? ⟨gb1011, 2, none⟩ = some (.slice Ao24 t1007.length co24) := (blk_cell BK1011.out 2).trans rfl
                          have hfz134_0 := blk_frozen BK1011.out 0
                          have hfz134_1 := blk_frozen BK1011.out 1
                          have hfz134_2 := blk_frozen BK1011.out 2
                          go_wp2_with (first | ((with_reducible refine gate_callee (f := 19) rfl ?_); refine goesL_ (some 81) rfl rfl Try.func19 (by kernel_rfl) rfl #[.agg #[.slice Ao117 t1053.length co117, .int .i64 t1056, .slice Ao123 t1057.length co123], .agg #[.slice Ao21 t1003.length co21, .int .i64 t1006, .slice Ao24 t1007.length co24]] rfl (by (try simp only [List.map_toArray, List.map_cons, List.map_nil]); first | done | rfl | (simp only [List.length_drop, List.length_take]; rfl)) ?_; (with_reducible refine (laws_eqWork.calls kj63 _ _ t1053 t1056 _ _ t1057 _ _ t1003 t1006 _ _ t1007 true _ ?side1 ?side2 ?side3 ?side4 ?side5 ?side6 ?side7 ?side8 A124.out).mono ?_); (case side1 => refine (Kd.R_reads' (e := 67) (base := w.heap.size) (ok := fun k_ => ((((True ∧ some k_ ≠ (.slice Ao21 t1003.length co21 : Value).ownBlock) ∧ some k_ ≠ (.slice Ao28 t1039.length co28 : Value).ownBlock) ∧ some k_ ≠ (.slice Ao35 t1020.length co35 : Value).ownBlock) ∧ some k_ ≠ (.slice Ao113 t1046.length co113 : Value).ownBlock)) (n := t1053.length) (c := co117) ?_).2.2; exact (by (with_reducible repeat (first | apply Kd.R_alloc | apply Kd.R_drewN | apply Kd.R_drew)); exact (Kd.R_mono (Kd.R_far (p := ⟨gb1061, 2, none⟩) (Kd.R_far (p := ⟨gb1061, 1, none⟩) (Kd.R_far (p := ⟨gb1061, 0, none⟩) (Kd.R_types HO1055.out BK1061.out (by decide)) (fun _ hk => hk.2) (.slice Ao117 t1053.length co117)) (fun _ hk => hk.2) (.int .i64 t1056)) (fun _ hk => hk.2) (.slice Ao123 t1057.length co123)) (fun _ h_ => h_.1)))); (case side2 => exact (Kd.R_reads' HO1055.out).2.1); (case side3 => refine (Kd.R_reads' (e := 3) (base := w.heap.size) (ok := fun k_ => ((((True ∧ some k_ ≠ (.slice Ao24 t1007.length co24 : Value).ownBlock) ∧ some k_ ≠ (.slice Ao32 t1040.length co32 : Value).ownBlock) ∧ some k_ ≠ (.slice Ao40 t1024.length co40 : Value).ownBlock) ∧ some k_ ≠ (.slice Ao114 t1050.length co114 : Value).ownBlock)) (n := t1057.length) (c := co123) ?_).2.2; exact (by (with_reducible repeat (first | apply Kd.R_alloc | apply Kd.R_drewN | apply Kd.R_drew)); exact (Kd.R_mono (Kd.R_far (p := ⟨gb1061, 2, none⟩) (Kd.R_far (p := ⟨gb1061, 1, none⟩) (Kd.R_far (p := ⟨gb1061, 0, none⟩) (Kd.R_types HO1059.out BK1061.out (by decide)) (fun _ hk => hk.2) (.slice Ao117 t1053.length co117)) (fun _ hk => hk.2) (.int .i64 t1056)) (fun _ hk => hk.2) (.slice Ao123 t1057.length co123)) (fun _ h_ => h_.1)))); (case side4 => exact (Kd.R_reads' HO1059.out).2.1); (case side5 => refine (Kd.R_reads' (e := 67) (base := w.heap.size) (ok := fun k_ => (((some k_ ≠ (.slice Ao28 t1039.length co28 : Value).ownBlock ∧ some k_ ≠ (.slice Ao35 t1020.length co35 : Value).ownBlock) ∧ some k_ ≠ (.slice Ao113 t1046.length co113 : Value).ownBlock) ∧ some k_ ≠ (.slice Ao117 t1053.length co117 : Value).ownBlock)) (n := t1003.length) (c := co21) ?_).2.2; exact (by (with_reducible repeat (first | apply Kd.R_alloc | apply Kd.R_drewN | apply Kd.R_drew)); exact (Kd.R_mono (Kd.R_far (p := ⟨gb1061, 2, none⟩) (Kd.R_far (p := ⟨gb1061, 1, none⟩) (Kd.R_far (p := ⟨gb1061, 0, none⟩) (Kd.R_types HO_1012000.out BK1061.out (by decide)) (fun _ hk => hk.2) (.slice Ao117 t1053.length co117)) (fun _ hk => hk.2) (.int .i64 t1056)) (fun _ hk => hk.2) (.slice Ao123 t1057.length co123)) (fun _ h_ => h_.1)))); (case side6 => exact (Kd.R_reads' HO_1012000.out).2.1); (case side7 => refine (Kd.R_reads' (e := 3) (base := w.heap.size) (ok := fun k_ => (((some k_ ≠ (.slice Ao32 t1040.length co32 : Value).ownBlock ∧ some k_ ≠ (.slice Ao40 t1024.length co40 : Value).ownBlock) ∧ some k_ ≠ (.slice Ao114 t1050.length co114 : Value).ownBlock) ∧ some k_ ≠ (.slice Ao123 t1057.length co123 : Value).ownBlock)) (n := t1007.length) (c := co24) ?_).2.2; exact (by (with_reducible repeat (first | apply Kd.R_alloc | apply Kd.R_drewN | apply Kd.R_drew)); exact (Kd.R_mono (Kd.R_far (p := ⟨gb1061, 2, none⟩) (Kd.R_far (p := ⟨gb1061, 1, none⟩) (Kd.R_far (p := ⟨gb1061, 0, none⟩) (Kd.R_types HO_1012002.out BK1061.out (by decide)) (fun _ hk => hk.2) (.slice Ao117 t1053.length co117)) (fun _ hk => hk.2) (.int .i64 t1056)) (fun _ hk => hk.2) (.slice Ao123 t1057.length co123)) (fun _ h_ => h_.1)))); (case side8 => exact (Kd.R_reads' HO_1012002.out).2.1); rintro e w135 ⟨rfl, hb⟩; refine ⟨_, rfl, ?_⟩; have n0_ := Aside0.mk (Kd.R_below (by (with_reducible repeat (first | apply Kd.R_alloc | apply Kd.R_drewN | apply Kd.R_drew)); exact (Kd.R_mono (Kd.R_far (p := ⟨gb1061, 2, none⟩) (Kd.R_far (p := ⟨gb1061, 1, none⟩) (Kd.R_far (p := ⟨gb1061, 0, none⟩) (Kd.R_types HO_1012000.out BK1061.out (by decide)) (fun _ hk => hk.2) (.slice Ao117 t1053.length co117)) (fun _ hk => hk.2) (.int .i64 t1056)) (fun _ hk => hk.2) (.slice Ao123 t1057.length co123)) (fun _ h_ => h_.1))) hb); have n1_ := Aside0.mk (Kd.R_below (by (with_reducible repeat (first | apply Kd.R_alloc | apply Kd.R_drewN | apply Kd.R_drew)); exact (Kd.R_mono (Kd.R_far (p := ⟨gb1061, 2, none⟩) (Kd.R_far (p := ⟨gb1061, 1, none⟩) (Kd.R_far (p := ⟨gb1061, 0, none⟩) (Kd.R_types HO_1012002.out BK1061.out (by decide)) (fun _ hk => hk.2) (.slice Ao117 t1053.length co117)) (fun _ hk => hk.2) (.int .i64 t1056)) (fun _ hk => hk.2) (.slice Ao123 t1057.length co123)) (fun _ h_ => h_.1))) hb); have n2_ := Aside0.mk (Kd.R_below (by (with_reducible repeat (first | apply Kd.R_alloc | apply Kd.R_drewN | apply Kd.R_drew)); exact (Kd.R_mono (Kd.R_far (p := ⟨gb1061, 2, none⟩) (Kd.R_far (p := ⟨gb1061, 1, none⟩) (Kd.R_far (p := ⟨gb1061, 0, none⟩) (Kd.R_types HO_1020000.out BK1061.out (by decide)) (fun _ hk => hk.2) (.slice Ao117 t1053.length co117)) (fun _ hk => hk.2) (.int .i64 t1056)) (fun _ hk => hk.2) (.slice Ao123 t1057.length co123)) (fun _ h_ => h_.1))) hb); have n3_ := Aside0.mk (Kd.R_below (by (with_reducible repeat (first | apply Kd.R_alloc | apply Kd.R_drewN | apply Kd.R_drew)); exact (Kd.R_mono (Kd.R_far (p := ⟨gb1061, 2, none⟩) (Kd.R_far (p := ⟨gb1061, 1, none⟩) (Kd.R_far (p := ⟨gb1061, 0, none⟩) (Kd.R_types HO_1020002.out BK1061.out (by decide)) (fun _ hk => hk.2) (.slice Ao117 t1053.length co117)) (fun _ hk => hk.2) (.int .i64 t1056)) (fun _ hk => hk.2) (.slice Ao123 t1057.length co123)) (fun _ h_ => h_.1))) hb); have n4_ := Aside0.mk (Kd.R_below (by (with_reducible repeat (first | apply Kd.R_alloc | apply Kd.R_drewN | apply Kd.R_drew)); exact (Kd.R_mono (Kd.R_far (p := ⟨gb1061, 2, none⟩) (Kd.R_far (p := ⟨gb1061, 1, none⟩) (Kd.R_far (p := ⟨gb1061, 0, none⟩) (Kd.R_types HO_1029000.out BK1061.out (by decide)) (fun _ hk => hk.2) (.slice Ao117 t1053.length co117)) (fun _ hk => hk.2) (.int .i64 t1056)) (fun _ hk => hk.2) (.slice Ao123 t1057.length co123)) (fun _ h_ => h_.1))) hb); have n5_ := Aside0.mk (Kd.R_below (by (with_reducible repeat (first | apply Kd.R_alloc | apply Kd.R_drewN | apply Kd.R_drew)); exact (Kd.R_mono (Kd.R_far (p := ⟨gb1061, 2, none⟩) (Kd.R_far (p := ⟨gb1061, 1, none⟩) (Kd.R_far (p := ⟨gb1061, 0, none⟩) (Kd.R_types HO_1029002.out BK1061.out (by decide)) (fun _ hk => hk.2) (.slice Ao117 t1053.length co117)) (fun _ hk => hk.2) (.int .i64 t1056)) (fun _ hk => hk.2) (.slice Ao123 t1057.length co123)) (fun _ h_ => h_.1))) hb); have n6_ := Aside0.mk (Kd.R_below (by (with_reducible repeat (first | apply Kd.R_alloc | apply Kd.R_drewN | apply Kd.R_drew)); exact (Kd.R_mono (Kd.R_far (p := ⟨gb1061, 2, none⟩) (Kd.R_far (p := ⟨gb1061, 1, none⟩) (Kd.R_far (p := ⟨gb1061, 0, none⟩) (Kd.R_types HO1048.out BK1061.out (by decide)) (fun _ hk => hk.2) (.slice Ao117 t1053.length co117)) (fun _ hk => hk.2) (.int .i64 t1056)) (fun _ hk => hk.2) (.slice Ao123 t1057.length co123)) (fun _ h_ => h_.1))) hb); have n7_ := Aside0.mk (Kd.R_below (by (with_reducible repeat (first | apply Kd.R_alloc | apply Kd.R_drewN | apply Kd.R_drew)); exact (Kd.R_mono (Kd.R_far (p := ⟨gb1061, 2, none⟩) (Kd.R_far (p := ⟨gb1061, 1, none⟩) (Kd.R_far (p := ⟨gb1061, 0, none⟩) (Kd.R_types HO1052.out BK1061.out (by decide)) (fun _ hk => hk.2) (.slice Ao117 t1053.length co117)) (fun _ hk => hk.2) (.int .i64 t1056)) (fun _ hk => hk.2) (.slice Ao123 t1057.length co123)) (fun _ h_ => h_.1))) hb); have n8_ := Aside0.mk (Kd.R_below (by (with_reducible repeat (first | apply Kd.R_alloc | apply Kd.R_drewN | apply Kd.R_drew)); exact (Kd.R_mono (Kd.R_far (p := ⟨gb1061, 2, none⟩) (Kd.R_far (p := ⟨gb1061, 1, none⟩) (Kd.R_far (p := ⟨gb1061, 0, none⟩) (Kd.R_types HO1055.out BK1061.out (by decide)) (fun _ hk => hk.2) (.slice Ao117 t1053.length co117)) (fun _ hk => hk.2) (.int .i64 t1056)) (fun _ hk => hk.2) (.slice Ao123 t1057.length co123)) (fun _ h_ => h_.1))) hb); have n9_ := Aside0.mk (Kd.R_below (by (with_reducible repeat (first | apply Kd.R_alloc | apply Kd.R_drewN | apply Kd.R_drew)); exact (Kd.R_mono (Kd.R_far (p := ⟨gb1061, 2, none⟩) (Kd.R_far (p := ⟨gb1061, 1, none⟩) (Kd.R_far (p := ⟨gb1061, 0, none⟩) (Kd.R_types HO1059.out BK1061.out (by decide)) (fun _ hk => hk.2) (.slice Ao117 t1053.length co117)) (fun _ hk => hk.2) (.int .i64 t1056)) (fun _ hk => hk.2) (.slice Ao123 t1057.length co123)) (fun _ h_ => h_.1))) hb); have n10_ := Aside0.mk (blk_below (g := gb994) (o := .cells #[.slice A0_0 l0_0.length c0_0, .int .i64 a0_1, .slice A0_2 l0_2.length c0_2] 25 (0, 0)) (by (with_reducible repeat (first | refine blk_drewN ?_ _ | refine blk_drew ?_ | refine blk_alloc ?_ _)); refine blk_far ?_ NB994_1061.out _; (with_reducible repeat (first | refine blk_drewN ?_ _ | refine blk_drew ?_ | refine blk_alloc ?_ _)); refine blk_far ?_ NB994_1061.out _; (with_reducible repeat (first | refine blk_drewN ?_ _ | refine blk_drew ?_ | refine blk_alloc ?_ _)); refine blk_far ?_ NB994_1061.out _; (with_reducible repeat (first | refine blk_drewN ?_ _ | refine blk_drew ?_ | refine blk_alloc ?_ _)); exact BK994.out) hb); have n11_ := Aside0.mk (blk_below (g := gb1011) (o := .cells #[.slice Ao21 t1003.length co21, .int .i64 t1006, .slice Ao24 t1007.length co24] 30 (0, 0)) (by (with_reducible repeat (first | refine blk_drewN ?_ _ | refine blk_drew ?_ | refine blk_alloc ?_ _)); refine blk_far ?_ NB1011_1061.out _; (with_reducible repeat (first | refine blk_drewN ?_ _ | refine blk_drew ?_ | refine blk_alloc ?_ _)); refine blk_far ?_ NB1011_1061.out _; (with_reducible repeat (first | refine blk_drewN ?_ _ | refine blk_drew ?_ | refine blk_alloc ?_ _)); refine blk_far ?_ NB1011_1061.out _; (with_reducible repeat (first | refine blk_drewN ?_ _ | refine blk_drew ?_ | refine blk_alloc ?_ _)); exact BK1011.out) hb); have n12_ := Aside0.mk (blk_below (g := gb1019) (o := .cells #[.slice Ao28 t1039.length co28, .int .i64 t1015, .slice Ao32 t1040.length co32] 30 (0, 0)) (by (with_reducible repeat (first | refine blk_drewN ?_ _ | refine blk_drew ?_ | refine blk_alloc ?_ _)); refine blk_far ?_ NB1019_1061.out _; (with_reducible repeat (first | refine blk_drewN ?_ _ | refine blk_drew ?_ | refine blk_alloc ?_ _)); refine blk_far ?_ NB1019_1061.out _; (with_reducible repeat (first | refine blk_drewN ?_ _ | refine blk_drew ?_ | refine blk_alloc ?_ _)); refine blk_far ?_ NB1019_1061.out _; (with_reducible repeat (first | refine blk_drewN ?_ _ | refine blk_drew ?_ | refine blk_alloc ?_ _)); exact BK1019.out) hb); have n13_ := Aside0.mk (blk_below (g := gb1028) (o := .cells #[.slice Ao35 t1020.length co35, .int .i64 t1023, .slice Ao40 t1024.length co40] 30 (0, 0)) (by (with_reducible repeat (first | refine blk_drewN ?_ _ | refine blk_drew ?_ | refine blk_alloc ?_ _)); refine blk_far ?_ NB1028_1061.out _; (with_reducible repeat (first | refine blk_drewN ?_ _ | refine blk_drew ?_ | refine blk_alloc ?_ _)); refine blk_far ?_ NB1028_1061.out _; (with_reducible repeat (first | refine blk_drewN ?_ _ | refine blk_drew ?_ | refine blk_alloc ?_ _)); refine blk_far ?_ NB1028_1061.out _; (with_reducible repeat (first | refine blk_drewN ?_ _ | refine blk_drew ?_ | refine blk_alloc ?_ _)); exact BK1028.out) hb); have n14_ := Aside0.mk (blk_below (g := gb1061) (o := .cells #[.slice Ao117 t1053.length co117, .int .i64 t1056, .slice Ao123 t1057.length co123] 30 (0, 0)) (by (with_reducible repeat (first | refine blk_drewN ?_ _ | refine blk_drew ?_ | refine blk_alloc ?_ _)); refine blk_put (cs := #[.slice Ao117 t1053.length co117, .int .i64 t1056, .slice none 0 0]) ?_ 2 _ rfl; (with_reducible repeat (first | refine blk_drewN ?_ _ | refine blk_drew ?_ | refine blk_alloc ?_ _)); refine blk_put (cs := #[.slice Ao117 t1053.length co117, .int .i64 0, .slice none 0 0]) ?_ 1 _ rfl; (with_reducible repeat (first | refine blk_drewN ?_ _ | refine blk_drew ?_ | refine blk_alloc ?_ _)); refine blk_put (cs := #[.slice none 0 0, .int .i64 0, .slice none 0 0]) ?_ 0 _ rfl; (with_reducible repeat (first | refine blk_drewN ?_ _ | refine blk_drew ?_ | refine blk_alloc ?_ _)); exact BK1061.out) hb); have n15_ := Aside0.mk (below_step (oB HB) hb); clear HO_1012000; clear HO_1012002; clear HO_1020000; clear HO_1020002; clear HO_1029000; clear HO_1029002; clear HO1048; clear HO1052; clear HO1055; clear HO1059; clear BK994; clear BK1011; clear BK1019; clear BK1028; clear BK1061; clear HB; have HO_1012000 := n0_; have HO_1012002 := n1_; have HO_1020000 := n2_; have HO_1020002 := n3_; have HO_1029000 := n4_; have HO_1029002 := n5_; have HO1048 := n6_; have HO1052 := n7_; have HO1055 := n8_; have HO1059 := n9_; have BK994 := n10_; have BK1011 := n11_; have BK1019 := n12_; have BK1028 := n13_; have BK1061 := n14_; have HB := n15_; clear n0_ n1_ n2_ n3_ n4_ n5_ n6_ n7_ n8_ n9_ n10_ n11_ n12_ n13_ n14_ n15_; (try clear hb); (try clear hb2); (try clear hk); (try clear hi)))
                          go_meet
                          case rel => exact ⟨_, ((t1060 != t1010)), (by first | rfl | (simp; done) | (simp [*]; done)), H', ⟨by have := HJ10.out; have := HJ63.out; first | omega | exact Nat.le_refl _⟩, ⟨by (try simp only [hl1020000_63]); (try simp only [hl1020002_63]); (with_reducible repeat (first | apply Kd.R_alloc | apply Kd.R_drewN | apply Kd.R_drew)); exact Kd.R_mono HO_1012000.out (fun _ hk => ⟨hk.1.1.1, ⟨hk.1.1.2, hk.2⟩⟩)⟩, ⟨by (try simp only [hl1020000_63]); (try simp only [hl1020002_63]); (with_reducible repeat (first | apply Kd.R_alloc | apply Kd.R_drewN | apply Kd.R_drew)); exact Kd.R_mono HO_1012002.out (fun _ hk => ⟨hk.1.1.1, ⟨hk.1.1.2, hk.2⟩⟩)⟩, ⟨by (try simp only [hl1020000_63]); (try simp only [hl1020002_63]); (with_reducible repeat (first | apply Kd.R_alloc | apply Kd.R_drewN | apply Kd.R_drew)); exact Kd.R_mono HO_1020000.out (fun _ hk => ⟨hk.1.1.1, ⟨hk.1.1.2, hk.2⟩⟩)⟩, ⟨by (try simp only [hl1020000_63]); (try simp only [hl1020002_63]); (with_reducible repeat (first | apply Kd.R_alloc | apply Kd.R_drewN | apply Kd.R_drew)); exact Kd.R_mono HO_1020002.out (fun _ hk => ⟨hk.1.1.1, ⟨hk.1.1.2, hk.2⟩⟩)⟩, ⟨by (try simp only [hl1020000_63]); (try simp only [hl1020002_63]); (with_reducible repeat (first | apply Kd.R_alloc | apply Kd.R_drewN | apply Kd.R_drew)); exact Kd.R_mono HO_1029000.out (fun _ hk => ⟨hk.1.1.1, ⟨hk.1.1.2, hk.2⟩⟩)⟩, ⟨by (try simp only [hl1020000_63]); (try simp only [hl1020002_63]); (with_reducible repeat (first | apply Kd.R_alloc | apply Kd.R_drewN | apply Kd.R_drew)); exact Kd.R_mono HO_1029002.out (fun _ hk => ⟨hk.1.1.1, ⟨hk.1.1.2, hk.2⟩⟩)⟩, ⟨by (try simp only [hl1020000_63]); (try simp only [hl1020002_63]); (with_reducible repeat (first | apply Kd.R_alloc | apply Kd.R_drewN | apply Kd.R_drew)); exact Kd.R_mono HO1055.out (fun _ hk => ⟨hk.1.1.1.2, ⟨hk.1.1.2, hk.1.2⟩⟩)⟩, ⟨by (try simp only [hl1020000_63]); (try simp only [hl1020002_63]); (with_reducible repeat (first | apply Kd.R_alloc | apply Kd.R_drewN | apply Kd.R_drew)); exact Kd.R_mono HO1059.out (fun _ hk => ⟨hk.1.1.1.2, ⟨hk.1.1.2, hk.1.2⟩⟩)⟩, ⟨by (try simp only [hl1020000_63]); (try simp only [hl1020002_63]); (with_reducible repeat (first | refine blk_drewN ?_ _ | refine blk_drew ?_ | refine blk_alloc ?_ _)); exact BK994.out⟩, ⟨by (try simp only [hl1020000_63]); (try simp only [hl1020002_63]); (with_reducible repeat (first | refine blk_drewN ?_ _ | refine blk_drew ?_ | refine blk_alloc ?_ _)); exact BK1011.out⟩, ⟨by (try simp only [hl1020000_63]); (try simp only [hl1020002_63]); (with_reducible repeat (first | refine blk_drewN ?_ _ | refine blk_drew ?_ | refine blk_alloc ?_ _)); exact BK1019.out⟩, ⟨by (try simp only [hl1020000_63]); (try simp only [hl1020002_63]); (with_reducible repeat (first | refine blk_drewN ?_ _ | refine blk_drew ?_ | refine blk_alloc ?_ _)); exact BK1028.out⟩, ⟨by (try simp only [hl1020000_63]); (try simp only [hl1020002_63]); (with_reducible repeat (first | refine blk_drewN ?_ _ | refine blk_drew ?_ | refine blk_alloc ?_ _)); exact BK1061.out⟩, ⟨oB HB⟩⟩
                        · replace c125 := Bool.eq_false_iff.mpr c125
                          subst c125
                          rw [if_neg (show ¬ (false = true) by decide)] at H
                          have H' := Aside0.mk H
                          clear H
                          have hnb136 := NB1061_994.out
                          have hnc136 := NB994_1061.out
                          have hnb137 := NB1061_1011.out
                          have hnc137 := NB1011_1061.out
                          have hnb138 := NB1061_1019.out
                          have hnc138 := NB1019_1061.out
                          have hnb139 := NB1061_1028.out
                          have hnc139 := NB1028_1061.out
                          have hcz140_0 : w116.cell? ⟨gb1061, 0, none⟩ = some (.slice none 0 0) := (blk_cell BK1061.out 0).trans rfl
                          have hcz140_1 : w116.cell? ⟨gb1061, 1, none⟩ = some (.int .i64 0) := (blk_cell BK1061.out 1).trans rfl
                          have hcz140_2 : w116.cell? ⟨gb1061, 2, none⟩ = some (.slice none 0 0) := (blk_cell BK1061.out 2).trans rfl
                          have hfz140_0 := blk_frozen BK1061.out 0
                          have hfz140_1 := blk_frozen BK1061.out 1
                          have hfz140_2 := blk_frozen BK1061.out 2
                          have hnb141 := NB1011_994.out
                          have hnc141 := NB994_1011.out
                          have hnb142 := NB1011_1019.out
                          have hnc142 := NB1019_1011.out
                          have hnb143 := NB1011_1028.out
                          have hnc143 := NB1028_1011.out
                          have hcz144_0 : w116.cell? ⟨gb1011, 0, none⟩ = some (.slice Ao21 t1003.length co21) := (blk_cell BK1011.out 0).trans rfl
                          have hcz144_1 : w116.cell? ⟨gb1011, 1, none⟩ = some (.int .i64 t1006) := (blk_cell BK1011.out 1).trans rfl
                          have hcz144_2 : w116.cell? ⟨gb1011, 2, none⟩ = some (.slice Ao24 t1007.length co24) := (blk_cell BK1011.out 2).trans rfl
                          have hfz144_0 := blk_frozen BK1011.out 0
                          have hfz144_1 := blk_frozen BK1011.out 1
                          have hfz144_2 := blk_frozen BK1011.out 2
                          go_wp2_with (first | ((with_reducible refine gate_callee (f := 19) rfl ?_); refine goesL_ (some 81) rfl rfl Try.func19 (by kernel_rfl) rfl #[.agg #[.slice Ao117 t1053.length co117, .int .i64 t1056, .slice Ao123 t1057.length co123], .agg #[.slice Ao21 t1003.length co21, .int .i64 t1006, .slice Ao24 t1007.length co24]] rfl (by (try simp only [List.map_toArray, List.map_cons, List.map_nil]); first | done | rfl | (simp only [List.length_drop, List.length_take]; rfl)) ?_; (with_reducible refine (laws_eqWork.calls kj63 _ _ t1053 t1056 _ _ t1057 _ _ t1003 t1006 _ _ t1007 false _ ?side1 ?side2 ?side3 ?side4 ?side5 ?side6 ?side7 ?side8 A124.out).mono ?_); (case side1 => refine (Kd.R_reads' (e := 67) (base := w.heap.size) (ok := fun k_ => ((((True ∧ some k_ ≠ (.slice Ao21 t1003.length co21 : Value).ownBlock) ∧ some k_ ≠ (.slice Ao28 t1039.length co28 : Value).ownBlock) ∧ some k_ ≠ (.slice Ao35 t1020.length co35 : Value).ownBlock) ∧ some k_ ≠ (.slice Ao113 t1046.length co113 : Value).ownBlock)) (n := t1053.length) (c := co117) ?_).2.2; exact (by (with_reducible repeat (first | apply Kd.R_alloc | apply Kd.R_drewN | apply Kd.R_drew)); exact (Kd.R_mono (Kd.R_far (p := ⟨gb1061, 2, none⟩) (Kd.R_far (p := ⟨gb1061, 1, none⟩) (Kd.R_far (p := ⟨gb1061, 0, none⟩) (Kd.R_types HO1055.out BK1061.out (by decide)) (fun _ hk => hk.2) (.slice Ao117 t1053.length co117)) (fun _ hk => hk.2) (.int .i64 t1056)) (fun _ hk => hk.2) (.slice Ao123 t1057.length co123)) (fun _ h_ => h_.1)))); (case side2 => exact (Kd.R_reads' HO1055.out).2.1); (case side3 => refine (Kd.R_reads' (e := 3) (base := w.heap.size) (ok := fun k_ => ((((True ∧ some k_ ≠ (.slice Ao24 t1007.length co24 : Value).ownBlock) ∧ some k_ ≠ (.slice Ao32 t1040.length co32 : Value).ownBlock) ∧ some k_ ≠ (.slice Ao40 t1024.length co40 : Value).ownBlock) ∧ some k_ ≠ (.slice Ao114 t1050.length co114 : Value).ownBlock)) (n := t1057.length) (c := co123) ?_).2.2; exact (by (with_reducible repeat (first | apply Kd.R_alloc | apply Kd.R_drewN | apply Kd.R_drew)); exact (Kd.R_mono (Kd.R_far (p := ⟨gb1061, 2, none⟩) (Kd.R_far (p := ⟨gb1061, 1, none⟩) (Kd.R_far (p := ⟨gb1061, 0, none⟩) (Kd.R_types HO1059.out BK1061.out (by decide)) (fun _ hk => hk.2) (.slice Ao117 t1053.length co117)) (fun _ hk => hk.2) (.int .i64 t1056)) (fun _ hk => hk.2) (.slice Ao123 t1057.length co123)) (fun _ h_ => h_.1)))); (case side4 => exact (Kd.R_reads' HO1059.out).2.1); (case side5 => refine (Kd.R_reads' (e := 67) (base := w.heap.size) (ok := fun k_ => (((some k_ ≠ (.slice Ao28 t1039.length co28 : Value).ownBlock ∧ some k_ ≠ (.slice Ao35 t1020.length co35 : Value).ownBlock) ∧ some k_ ≠ (.slice Ao113 t1046.length co113 : Value).ownBlock) ∧ some k_ ≠ (.slice Ao117 t1053.length co117 : Value).ownBlock)) (n := t1003.length) (c := co21) ?_).2.2; exact (by (with_reducible repeat (first | apply Kd.R_alloc | apply Kd.R_drewN | apply Kd.R_drew)); exact (Kd.R_mono (Kd.R_far (p := ⟨gb1061, 2, none⟩) (Kd.R_far (p := ⟨gb1061, 1, none⟩) (Kd.R_far (p := ⟨gb1061, 0, none⟩) (Kd.R_types HO_1012000.out BK1061.out (by decide)) (fun _ hk => hk.2) (.slice Ao117 t1053.length co117)) (fun _ hk => hk.2) (.int .i64 t1056)) (fun _ hk => hk.2) (.slice Ao123 t1057.length co123)) (fun _ h_ => h_.1)))); (case side6 => exact (Kd.R_reads' HO_1012000.out).2.1); (case side7 => refine (Kd.R_reads' (e := 3) (base := w.heap.size) (ok := fun k_ => (((some k_ ≠ (.slice Ao32 t1040.length co32 : Value).ownBlock ∧ some k_ ≠ (.slice Ao40 t1024.length co40 : Value).ownBlock) ∧ some k_ ≠ (.slice Ao114 t1050.length co114 : Value).ownBlock) ∧ some k_ ≠ (.slice Ao123 t1057.length co123 : Value).ownBlock)) (n := t1007.length) (c := co24) ?_).2.2; exact (by (with_reducible repeat (first | apply Kd.R_alloc | apply Kd.R_drewN | apply Kd.R_drew)); exact (Kd.R_mono (Kd.R_far (p := ⟨gb1061, 2, none⟩) (Kd.R_far (p := ⟨gb1061, 1, none⟩) (Kd.R_far (p := ⟨gb1061, 0, none⟩) (Kd.R_types HO_1012002.out BK1061.out (by decide)) (fun _ hk => hk.2) (.slice Ao117 t1053.length co117)) (fun _ hk => hk.2) (.int .i64 t1056)) (fun _ hk => hk.2) (.slice Ao123 t1057.length co123)) (fun _ h_ => h_.1)))); (case side8 => exact (Kd.R_reads' HO_1012002.out).2.1); rintro e w145 ⟨rfl, hb⟩; refine ⟨_, rfl, ?_⟩; have n0_ := Aside0.mk (Kd.R_below (by (with_reducible repeat (first | apply Kd.R_alloc | apply Kd.R_drewN | apply Kd.R_drew)); exact (Kd.R_mono (Kd.R_far (p := ⟨gb1061, 2, none⟩) (Kd.R_far (p := ⟨gb1061, 1, none⟩) (Kd.R_far (p := ⟨gb1061, 0, none⟩) (Kd.R_types HO_1012000.out BK1061.out (by decide)) (fun _ hk => hk.2) (.slice Ao117 t1053.length co117)) (fun _ hk => hk.2) (.int .i64 t1056)) (fun _ hk => hk.2) (.slice Ao123 t1057.length co123)) (fun _ h_ => h_.1))) hb); have n1_ := Aside0.mk (Kd.R_below (by (with_reducible repeat (first | apply Kd.R_alloc | apply Kd.R_drewN | apply Kd.R_drew)); exact (Kd.R_mono (Kd.R_far (p := ⟨gb1061, 2, none⟩) (Kd.R_far (p := ⟨gb1061, 1, none⟩) (Kd.R_far (p := ⟨gb1061, 0, none⟩) (Kd.R_types HO_1012002.out BK1061.out (by decide)) (fun _ hk => hk.2) (.slice Ao117 t1053.length co117)) (fun _ hk => hk.2) (.int .i64 t1056)) (fun _ hk => hk.2) (.slice Ao123 t1057.length co123)) (fun _ h_ => h_.1))) hb); have n2_ := Aside0.mk (Kd.R_below (by (with_reducible repeat (first | apply Kd.R_alloc | apply Kd.R_drewN | apply Kd.R_drew)); exact (Kd.R_mono (Kd.R_far (p := ⟨gb1061, 2, none⟩) (Kd.R_far (p := ⟨gb1061, 1, none⟩) (Kd.R_far (p := ⟨gb1061, 0, none⟩) (Kd.R_types HO_1020000.out BK1061.out (by decide)) (fun _ hk => hk.2) (.slice Ao117 t1053.length co117)) (fun _ hk => hk.2) (.int .i64 t1056)) (fun _ hk => hk.2) (.slice Ao123 t1057.length co123)) (fun _ h_ => h_.1))) hb); have n3_ := Aside0.mk (Kd.R_below (by (with_reducible repeat (first | apply Kd.R_alloc | apply Kd.R_drewN | apply Kd.R_drew)); exact (Kd.R_mono (Kd.R_far (p := ⟨gb1061, 2, none⟩) (Kd.R_far (p := ⟨gb1061, 1, none⟩) (Kd.R_far (p := ⟨gb1061, 0, none⟩) (Kd.R_types HO_1020002.out BK1061.out (by decide)) (fun _ hk => hk.2) (.slice Ao117 t1053.length co117)) (fun _ hk => hk.2) (.int .i64 t1056)) (fun _ hk => hk.2) (.slice Ao123 t1057.length co123)) (fun _ h_ => h_.1))) hb); have n4_ := Aside0.mk (Kd.R_below (by (with_reducible repeat (first | apply Kd.R_alloc | apply Kd.R_drewN | apply Kd.R_drew)); exact (Kd.R_mono (Kd.R_far (p := ⟨gb1061, 2, none⟩) (Kd.R_far (p := ⟨gb1061, 1, none⟩) (Kd.R_far (p := ⟨gb1061, 0, none⟩) (Kd.R_types HO_1029000.out BK1061.out (by decide)) (fun _ hk => hk.2) (.slice Ao117 t1053.length co117)) (fun _ hk => hk.2) (.int .i64 t1056)) (fun _ hk => hk.2) (.slice Ao123 t1057.length co123)) (fun _ h_ => h_.1))) hb); have n5_ := Aside0.mk (Kd.R_below (by (with_reducible repeat (first | apply Kd.R_alloc | apply Kd.R_drewN | apply Kd.R_drew)); exact (Kd.R_mono (Kd.R_far (p := ⟨gb1061, 2, none⟩) (Kd.R_far (p := ⟨gb1061, 1, none⟩) (Kd.R_far (p := ⟨gb1061, 0, none⟩) (Kd.R_types HO_1029002.out BK1061.out (by decide)) (fun _ hk => hk.2) (.slice Ao117 t1053.length co117)) (fun _ hk => hk.2) (.int .i64 t1056)) (fun _ hk => hk.2) (.slice Ao123 t1057.length co123)) (fun _ h_ => h_.1))) hb); have n6_ := Aside0.mk (Kd.R_below (by (with_reducible repeat (first | apply Kd.R_alloc | apply Kd.R_drewN | apply Kd.R_drew)); exact (Kd.R_mono (Kd.R_far (p := ⟨gb1061, 2, none⟩) (Kd.R_far (p := ⟨gb1061, 1, none⟩) (Kd.R_far (p := ⟨gb1061, 0, none⟩) (Kd.R_types HO1048.out BK1061.out (by decide)) (fun _ hk => hk.2) (.slice Ao117 t1053.length co117)) (fun _ hk => hk.2) (.int .i64 t1056)) (fun _ hk => hk.2) (.slice Ao123 t1057.length co123)) (fun _ h_ => h_.1))) hb); have n7_ := Aside0.mk (Kd.R_below (by (with_reducible repeat (first | apply Kd.R_alloc | apply Kd.R_drewN | apply Kd.R_drew)); exact (Kd.R_mono (Kd.R_far (p := ⟨gb1061, 2, none⟩) (Kd.R_far (p := ⟨gb1061, 1, none⟩) (Kd.R_far (p := ⟨gb1061, 0, none⟩) (Kd.R_types HO1052.out BK1061.out (by decide)) (fun _ hk => hk.2) (.slice Ao117 t1053.length co117)) (fun _ hk => hk.2) (.int .i64 t1056)) (fun _ hk => hk.2) (.slice Ao123 t1057.length co123)) (fun _ h_ => h_.1))) hb); have n8_ := Aside0.mk (Kd.R_below (by (with_reducible repeat (first | apply Kd.R_alloc | apply Kd.R_drewN | apply Kd.R_drew)); exact (Kd.R_mono (Kd.R_far (p := ⟨gb1061, 2, none⟩) (Kd.R_far (p := ⟨gb1061, 1, none⟩) (Kd.R_far (p := ⟨gb1061, 0, none⟩) (Kd.R_types HO1055.out BK1061.out (by decide)) (fun _ hk => hk.2) (.slice Ao117 t1053.length co117)) (fun _ hk => hk.2) (.int .i64 t1056)) (fun _ hk => hk.2) (.slice Ao123 t1057.length co123)) (fun _ h_ => h_.1))) hb); have n9_ := Aside0.mk (Kd.R_below (by (with_reducible repeat (first | apply Kd.R_alloc | apply Kd.R_drewN | apply Kd.R_drew)); exact (Kd.R_mono (Kd.R_far (p := ⟨gb1061, 2, none⟩) (Kd.R_far (p := ⟨gb1061, 1, none⟩) (Kd.R_far (p := ⟨gb1061, 0, none⟩) (Kd.R_types HO1059.out BK1061.out (by decide)) (fun _ hk => hk.2) (.slice Ao117 t1053.length co117)) (fun _ hk => hk.2) (.int .i64 t1056)) (fun _ hk => hk.2) (.slice Ao123 t1057.length co123)) (fun _ h_ => h_.1))) hb); have n10_ := Aside0.mk (blk_below (g := gb994) (o := .cells #[.slice A0_0 l0_0.length c0_0, .int .i64 a0_1, .slice A0_2 l0_2.length c0_2] 25 (0, 0)) (by (with_reducible repeat (first | refine blk_drewN ?_ _ | refine blk_drew ?_ | refine blk_alloc ?_ _)); refine blk_far ?_ NB994_1061.out _; (with_reducible repeat (first | refine blk_drewN ?_ _ | refine blk_drew ?_ | refine blk_alloc ?_ _)); refine blk_far ?_ NB994_1061.out _; (with_reducible repeat (first | refine blk_drewN ?_ _ | refine blk_drew ?_ | refine blk_alloc ?_ _)); refine blk_far ?_ NB994_1061.out _; (with_reducible repeat (first | refine blk_drewN ?_ _ | refine blk_drew ?_ | refine blk_alloc ?_ _)); exact BK994.out) hb); have n11_ := Aside0.mk (blk_below (g := gb1011) (o := .cells #[.slice Ao21 t1003.length co21, .int .i64 t1006, .slice Ao24 t1007.length co24] 30 (0, 0)) (by (with_reducible repeat (first | refine blk_drewN ?_ _ | refine blk_drew ?_ | refine blk_alloc ?_ _)); refine blk_far ?_ NB1011_1061.out _; (with_reducible repeat (first | refine blk_drewN ?_ _ | refine blk_drew ?_ | refine blk_alloc ?_ _)); refine blk_far ?_ NB1011_1061.out _; (with_reducible repeat (first | refine blk_drewN ?_ _ | refine blk_drew ?_ | refine blk_alloc ?_ _)); refine blk_far ?_ NB1011_1061.out _; (with_reducible repeat (first | refine blk_drewN ?_ _ | refine blk_drew ?_ | refine blk_alloc ?_ _)); exact BK1011.out) hb); have n12_ := Aside0.mk (blk_below (g := gb1019) (o := .cells #[.slice Ao28 t1039.length co28, .int .i64 t1015, .slice Ao32 t1040.length co32] 30 (0, 0)) (by (with_reducible repeat (first | refine blk_drewN ?_ _ | refine blk_drew ?_ | refine blk_alloc ?_ _)); refine blk_far ?_ NB1019_1061.out _; (with_reducible repeat (first | refine blk_drewN ?_ _ | refine blk_drew ?_ | refine blk_alloc ?_ _)); refine blk_far ?_ NB1019_1061.out _; (with_reducible repeat (first | refine blk_drewN ?_ _ | refine blk_drew ?_ | refine blk_alloc ?_ _)); refine blk_far ?_ NB1019_1061.out _; (with_reducible repeat (first | refine blk_drewN ?_ _ | refine blk_drew ?_ | refine blk_alloc ?_ _)); exact BK1019.out) hb); have n13_ := Aside0.mk (blk_below (g := gb1028) (o := .cells #[.slice Ao35 t1020.length co35, .int .i64 t1023, .slice Ao40 t1024.length co40] 30 (0, 0)) (by (with_reducible repeat (first | refine blk_drewN ?_ _ | refine blk_drew ?_ | refine blk_alloc ?_ _)); refine blk_far ?_ NB1028_1061.out _; (with_reducible repeat (first | refine blk_drewN ?_ _ | refine blk_drew ?_ | refine blk_alloc ?_ _)); refine blk_far ?_ NB1028_1061.out _; (with_reducible repeat (first | refine blk_drewN ?_ _ | refine blk_drew ?_ | refine blk_alloc ?_ _)); refine blk_far ?_ NB1028_1061.out _; (with_reducible repeat (first | refine blk_drewN ?_ _ | refine blk_drew ?_ | refine blk_alloc ?_ _)); exact BK1028.out) hb); have n14_ := Aside0.mk (blk_below (g := gb1061) (o := .cells #[.slice Ao117 t1053.length co117, .int .i64 t1056, .slice Ao123 t1057.length co123] 30 (0, 0)) (by (with_reducible repeat (first | refine blk_drewN ?_ _ | refine blk_drew ?_ | refine blk_alloc ?_ _)); refine blk_put (cs := #[.slice Ao117 t1053.length co117, .int .i64 t1056, .slice none 0 0]) ?_ 2 _ rfl; (with_reducible repeat (first | refine blk_drewN ?_ _ | refine blk_drew ?_ | refine blk_alloc ?_ _)); refine blk_put (cs := #[.slice Ao117 t1053.length co117, .int .i64 0, .slice none 0 0]) ?_ 1 _ rfl; (with_reducible repeat (first | refine blk_drewN ?_ _ | refine blk_drew ?_ | refine blk_alloc ?_ _)); refine blk_put (cs := #[.slice none 0 0, .int .i64 0, .slice none 0 0]) ?_ 0 _ rfl; (with_reducible repeat (first | refine blk_drewN ?_ _ | refine blk_drew ?_ | refine blk_alloc ?_ _)); exact BK1061.out) hb); have n15_ := Aside0.mk (below_step (oB HB) hb); clear HO_1012000; clear HO_1012002; clear HO_1020000; clear HO_1020002; clear HO_1029000; clear HO_1029002; clear HO1048; clear HO1052; clear HO1055; clear HO1059; clear BK994; clear BK1011; clear BK1019; clear BK1028; clear BK1061; clear HB; have HO_1012000 := n0_; have HO_1012002 := n1_; have HO_1020000 := n2_; have HO_1020002 := n3_; have HO_1029000 := n4_; have HO_1029002 := n5_; have HO1048 := n6_; have HO1052 := n7_; have HO1055 := n8_; have HO1059 := n9_; have BK994 := n10_; have BK1011 := n11_; have BK1019 := n12_; have BK1028 := n13_; have BK1061 := n14_; have HB := n15_; clear n0_ n1_ n2_ n3_ n4_ n5_ n6_ n7_ n8_ n9_ n10_ n11_ n12_ n13_ n14_ n15_; (try clear hb); (try clear hb2); (try clear hk); (try clear hi)))
                          go_meet
                          case rel => exact ⟨_, (true), (by first | rfl | (simp; done) | (simp [*]; done)), H', ⟨by have := HJ10.out; have := HJ63.out; first | omega | exact Nat.le_refl _⟩, ⟨by (try simp only [hl1020000_63]); (try simp only [hl1020002_63]); (with_reducible repeat (first | apply Kd.R_alloc | apply Kd.R_drewN | apply Kd.R_drew)); exact Kd.R_mono HO_1012000.out (fun _ hk => ⟨hk.1.1.1, ⟨hk.1.1.2, hk.2⟩⟩)⟩, ⟨by (try simp only [hl1020000_63]); (try simp only [hl1020002_63]); (with_reducible repeat (first | apply Kd.R_alloc | apply Kd.R_drewN | apply Kd.R_drew)); exact Kd.R_mono HO_1012002.out (fun _ hk => ⟨hk.1.1.1, ⟨hk.1.1.2, hk.2⟩⟩)⟩, ⟨by (try simp only [hl1020000_63]); (try simp only [hl1020002_63]); (with_reducible repeat (first | apply Kd.R_alloc | apply Kd.R_drewN | apply Kd.R_drew)); exact Kd.R_mono HO_1020000.out (fun _ hk => ⟨hk.1.1.1, ⟨hk.1.1.2, hk.2⟩⟩)⟩, ⟨by (try simp only [hl1020000_63]); (try simp only [hl1020002_63]); (with_reducible repeat (first | apply Kd.R_alloc | apply Kd.R_drewN | apply Kd.R_drew)); exact Kd.R_mono HO_1020002.out (fun _ hk => ⟨hk.1.1.1, ⟨hk.1.1.2, hk.2⟩⟩)⟩, ⟨by (try simp only [hl1020000_63]); (try simp only [hl1020002_63]); (with_reducible repeat (first | apply Kd.R_alloc | apply Kd.R_drewN | apply Kd.R_drew)); exact Kd.R_mono HO_1029000.out (fun _ hk => ⟨hk.1.1.1, ⟨hk.1.1.2, hk.2⟩⟩)⟩, ⟨by (try simp only [hl1020000_63]); (try simp only [hl1020002_63]); (with_reducible repeat (first | apply Kd.R_alloc | apply Kd.R_drewN | apply Kd.R_drew)); exact Kd.R_mono HO_1029002.out (fun _ hk => ⟨hk.1.1.1, ⟨hk.1.1.2, hk.2⟩⟩)⟩, ⟨by (try simp only [hl1020000_63]); (try simp only [hl1020002_63]); (with_reducible repeat (first | apply Kd.R_alloc | apply Kd.R_drewN | apply Kd.R_drew)); exact Kd.R_mono HO1055.out (fun _ hk => ⟨hk.1.1.1.2, ⟨hk.1.1.2, hk.1.2⟩⟩)⟩, ⟨by (try simp only [hl1020000_63]); (try simp only [hl1020002_63]); (with_reducible repeat (first | apply Kd.R_alloc | apply Kd.R_drewN | apply Kd.R_drew)); exact Kd.R_mono HO1059.out (fun _ hk => ⟨hk.1.1.1.2, ⟨hk.1.1.2, hk.1.2⟩⟩)⟩, ⟨by (try simp only [hl1020000_63]); (try simp only [hl1020002_63]); (with_reducible repeat (first | refine blk_drewN ?_ _ | refine blk_drew ?_ | refine blk_alloc ?_ _)); exact BK994.out⟩, ⟨by (try simp only [hl1020000_63]); (try simp only [hl1020002_63]); (with_reducible repeat (first | refine blk_drewN ?_ _ | refine blk_drew ?_ | refine blk_alloc ?_ _)); exact BK1011.out⟩, ⟨by (try simp only [hl1020000_63]); (try simp only [hl1020002_63]); (with_reducible repeat (first | refine blk_drewN ?_ _ | refine blk_drew ?_ | refine blk_alloc ?_ _)); exact BK1019.out⟩, ⟨by (try simp only [hl1020000_63]); (try simp only [hl1020002_63]); (with_reducible repeat (first | refine blk_drewN ?_ _ | refine blk_drew ?_ | refine blk_alloc ?_ _)); exact BK1028.out⟩, ⟨by (try simp only [hl1020000_63]); (try simp only [hl1020002_63]); (with_reducible repeat (first | refine blk_drewN ?_ _ | refine blk_drew ?_ | refine blk_alloc ?_ _)); exact BK1061.out⟩, ⟨oB HB⟩⟩
                      case rest =>
                        clear HC101
                        try clear c1
                        try clear c2
                        try clear p2
                        try clear c3
                        try clear c3b0
                        try clear c4
                        try clear c5
                        try clear c6
                        try clear c7
                        try clear c8
                        try clear c9
                        try clear c10
                        try clear c11
                        try clear c12
                        try clear c13
                        try clear c14
                        try clear c15
                        try clear c17
                        try clear c19
                        try clear c22
                        try clear c28
                        try clear c29
                        try clear c30
                        try clear c36
                        try clear c37
                        try clear c38
                        try clear c42
                        try clear c43
                        try clear c44
                        try clear c45
                        try clear c46
                        try clear c47
                        try clear c48
                        try clear c51
                        try clear c52
                        try clear c53
                        try clear c55
                        try clear c56
                        try clear c59
                        try clear c62
                        try clear c70
                        try clear c71
                        try clear c72
                        try clear c75
                        try clear c75b0
                        try clear c77
                        try clear c78
                        try clear c79
                        try clear c80
                        try clear c82
                        try clear c83
                        try clear c86
                        try clear c87
                        try clear c88
                        try clear c90
                        try clear c91
                        try clear c94
                        try clear c97
                        try clear c97b0
                        try clear c98
                        try clear c98b0
                        try clear c98b1
                        try clear c102
                        try clear c103
                        try clear c104
                        try clear c109
                        try clear c110
                        try clear c118
                        try clear c119
                        try clear c120
                        try clear c121
                        try clear c125
                        try clear c126
                        try clear c127
                        try clear c128
                        try clear c129
                        try clear c131
                        try clear c132
                        try clear c133
                        try clear c136
                        try clear c137
                        try clear c138
                        try clear c139
                        try clear c141
                        try clear c142
                        try clear c143
                        try clear hcz105_0
                        try clear hcz105_1
                        try clear hcz105_2
                        try clear hcz107_0
                        try clear hcz107_1
                        try clear hcz107_2
                        try clear hcz111_0
                        try clear hcz111_1
                        try clear hcz111_2
                        try clear hcz122_0
                        try clear hcz122_1
                        try clear hcz122_2
                        try clear hcz130_0
                        try clear hcz130_1
                        try clear hcz130_2
                        try clear hcz134_0
                        try clear hcz134_1
                        try clear hcz134_2
                        try clear hcz13_0
                        try clear hcz13_1
                        try clear hcz13_2
                        try clear hcz140_0
                        try clear hcz140_1
                        try clear hcz140_2
                        try clear hcz144_0
                        try clear hcz144_1
                        try clear hcz144_2
                        try clear hcz15_0
                        try clear hcz15_1
                        try clear hcz15_2
                        try clear hcz23_0
                        try clear hcz23_1
                        try clear hcz23_2
                        try clear hcz25_0
                        try clear hcz25_1
                        try clear hcz25_2
                        try clear hcz31_0
                        try clear hcz31_1
                        try clear hcz31_2
                        try clear hcz39_0
                        try clear hcz39_1
                        try clear hcz39_2
                        try clear hcz46_0
                        try clear hcz46_1
                        try clear hcz46_2
                        try clear hcz49_0
                        try clear hcz49_1
                        try clear hcz49_2
                        try clear hcz54_0
                        try clear hcz54_1
                        try clear hcz54_2
                        try clear hcz57_0
                        try clear hcz57_1
                        try clear hcz57_2
                        try clear hcz5_0
                        try clear hcz5_1
                        try clear hcz5_2
                        try clear hcz73_0
                        try clear hcz73_1
                        try clear hcz73_2
                        try clear hcz81_0
                        try clear hcz81_1
                        try clear hcz81_2
                        try clear hcz84_0
                        try clear hcz84_1
                        try clear hcz84_2
                        try clear hcz89_0
                        try clear hcz89_1
                        try clear hcz89_2
                        try clear hcz92_0
                        try clear hcz92_1
                        try clear hcz92_2
                        try clear hfz105_0
                        try clear hfz105_1
                        try clear hfz105_2
                        try clear hfz107_0
                        try clear hfz107_1
                        try clear hfz107_2
                        try clear hfz111_0
                        try clear hfz111_1
                        try clear hfz111_2
                        try clear hfz122_0
                        try clear hfz122_1
                        try clear hfz122_2
                        try clear hfz130_0
                        try clear hfz130_1
                        try clear hfz130_2
                        try clear hfz134_0
                        try clear hfz134_1
                        try clear hfz134_2
                        try clear hfz13_0
                        try clear hfz13_1
                        try clear hfz13_2
                        try clear hfz140_0
                        try clear hfz140_1
                        try clear hfz140_2
                        try clear hfz144_0
                        try clear hfz144_1
                        try clear hfz144_2
                        try clear hfz15_0
                        try clear hfz15_1
                        try clear hfz15_2
                        try clear hfz23_0
                        try clear hfz23_1
                        try clear hfz23_2
                        try clear hfz25_0
                        try clear hfz25_1
                        try clear hfz25_2
                        try clear hfz31_0
                        try clear hfz31_1
                        try clear hfz31_2
                        try clear hfz39_0
                        try clear hfz39_1
                        try clear hfz39_2
                        try clear hfz46_0
                        try clear hfz46_1
                        try clear hfz46_2
                        try clear hfz49_0
                        try clear hfz49_1
                        try clear hfz49_2
                        try clear hfz54_0
                        try clear hfz54_1
                        try clear hfz54_2
                        try clear hfz57_0
                        try clear hfz57_1
                        try clear hfz57_2
                        try clear hfz5_0
                        try clear hfz5_1
                        try clear hfz5_2
                        try clear hfz73_0
                        try clear hfz73_1
                        try clear hfz73_2
                        try clear hfz81_0
                        try clear hfz81_1
                        try clear hfz81_2
                        try clear hfz84_0
                        try clear hfz84_1
                        try clear hfz84_2
                        try clear hfz89_0
                        try clear hfz89_1
                        try clear hfz89_2
                        try clear hfz92_0
                        try clear hfz92_1
                        try clear hfz92_2
                        try clear p2
                        obtain ⟨kq, x87_100, rfl, HA, HJ100, HO_1012000, HO_1012002, HO_1020000, HO_1020002, HO_1029000, HO_1029002, HO_1062000, HO_1062002, BK994, BK1011, BK1019, BK1028, BK1061, HB⟩ := hcut
                        have hl1029000_100 := (Kd.R_reads' HO_1029000.out).1
                        rw [hl1029000_100] at HO_1029000
                        (try simp only [hl1029000_100])
                        (try simp only [hl1029000_100] at BK994)
                        (try simp only [hl1029000_100] at BK1011)
                        (try simp only [hl1029000_100] at BK1019)
                        (try simp only [hl1029000_100] at BK1028)
                        (try simp only [hl1029000_100] at BK1061)
                        (try simp only [hl1029000_100] at HO_1012000)
                        (try simp only [hl1029000_100] at HO_1012002)
                        (try simp only [hl1029000_100] at HO_1020000)
                        (try simp only [hl1029000_100] at HO_1020002)
                        (try simp only [hl1029000_100] at HO_1029002)
                        (try simp only [hl1029000_100] at HO_1062000)
                        (try simp only [hl1029000_100] at HO_1062002)
                        have hl1029002_100 := (Kd.R_reads' HO_1029002.out).1
                        rw [hl1029002_100] at HO_1029002
                        (try simp only [hl1029002_100])
                        (try simp only [hl1029002_100] at BK994)
                        (try simp only [hl1029002_100] at BK1011)
                        (try simp only [hl1029002_100] at BK1019)
                        (try simp only [hl1029002_100] at BK1028)
                        (try simp only [hl1029002_100] at BK1061)
                        (try simp only [hl1029002_100] at HO_1012000)
                        (try simp only [hl1029002_100] at HO_1012002)
                        (try simp only [hl1029002_100] at HO_1020000)
                        (try simp only [hl1029002_100] at HO_1020002)
                        (try simp only [hl1029002_100] at HO_1029000)
                        (try simp only [hl1029002_100] at HO_1062000)
                        (try simp only [hl1029002_100] at HO_1062002)
                        cases kq with
                        | zero => exact absurd HA.out (by simp [laws_FnExactMendAll.j2])
                        | succ kj100 =>
                          have H := HA.out
                          clear HA
                          simp only [laws_FnExactMendAll.j2] at H
                          by_cases c146 : x87_100 = true
                          · subst c146
                            rw [if_pos rfl] at H
                            exact absurd ((Option.some.inj H).trans hrt_.out) (by decide)
                          · replace c146 := Bool.eq_false_iff.mpr c146
                            subst c146
                            rw [if_neg (show ¬ (false = true) by decide)] at H
                            replace H := Option.bind_eq_some_iff.mp H
                            obtain ⟨t1063, A1470, H⟩ := H
                            (try dsimp only at H)
                            have A147 := Aside0.mk A1470
                            clear A1470
                            by_cases c148 : t1063 < 0
                            · rw [if_pos c148] at H
                              have c148b0 : decide (t1063 < 0) = true := decide_eq_true c148
                              clear c148
                              exact absurd ((Option.some.inj H).trans hrt_.out) (by decide)
                            · rw [if_neg c148] at H
                              have c148b0 : decide (t1063 < 0) = false := decide_eq_false c148
                              clear c148
                              by_cases c149 : t1063 = t1042
                              · rw [if_pos c149] at H
                                have c149b0 : (t1063 == t1042) = true := beq_iff_eq.mpr c149
                                have c149b1 : (t1063 != t1042) = false := bne_eq_false_iff_eq.mpr c149
                                clear c149
                                obtain rfl := Option.some.inj H
                                have hnb150 := NB1028_994.out
                                have hnc150 := NB994_1028.out
                                have hnb151 := NB1028_1011.out
                                have hnc151 := NB1011_1028.out
                                have hnb152 := NB1028_1019.out
                                have hnc152 := NB1019_1028.out
                                have hnb153 := NB1028_1061.out
                                have hnc153 := NB1061_1028.out
                                have hcz154_0 : wc.cell? ⟨gb1028, 0, none⟩ = some (.slice Ao35 t1043.length co35) := (blk_cell BK1028.out 0).trans rfl
                                have hcz154_1 : wc.cell? ⟨gb1028, 1, none⟩ = some (.int .i64 t1023) := (blk_cell BK1028.out 1).trans rfl
                                have hcz154_2 : wc.cell? ⟨gb1028, 2, none⟩ = some (.slice Ao40 t1044.length co40) := (blk_cell BK1028.out 2).trans rfl
                                have hfz154_0 := blk_frozen BK1028.out 0
                                have hfz154_1 := blk_frozen BK1028.out 1
                                have hfz154_2 := blk_frozen BK1028.out 2
                                go_wp2_with (first | ((with_reducible refine gate_callee (f := 29) rfl ?_); refine goesL_ (some 90) rfl rfl Try.func29 (by kernel_rfl) rfl #[.agg #[.slice Ao35 t1043.length co35, .int .i64 t1023, .slice Ao40 t1044.length co40], .int .i64 1] rfl (by (try simp only [List.map_toArray, List.map_cons, List.map_nil]); first | done | rfl | (simp only [List.length_drop, List.length_take]; rfl)) ?_; (with_reducible refine (laws_heldWork.calls kj100 _ _ t1043 t1023 _ _ t1044 1 t1063 _ ?side1 ?side2 ?side3 ?side4 A147.out).mono ?_); (case side1 => repeat (first | exact (Kd.R_reads' HO_1029000.out).2.2 | (with_reducible refine Kd.C_alloc ?_ _) | (with_reducible refine Kd.C_drewN ?_ _) | (with_reducible refine Kd.C_drew ?_))); (case side2 => exact (Kd.R_reads' HO_1029000.out).2.1); (case side3 => repeat (first | exact (Kd.R_reads' HO_1029002.out).2.2 | (with_reducible refine Kd.C_alloc ?_ _) | (with_reducible refine Kd.C_drewN ?_ _) | (with_reducible refine Kd.C_drew ?_))); (case side4 => exact (Kd.R_reads' HO_1029002.out).2.1); rintro e w155 ⟨rfl, hb⟩; refine ⟨_, rfl, ?_⟩; have n0_ := Aside0.mk (Kd.R_below (oR HO_1012000) hb); have n1_ := Aside0.mk (Kd.R_below (oR HO_1012002) hb); have n2_ := Aside0.mk (Kd.R_below (oR HO_1020000) hb); have n3_ := Aside0.mk (Kd.R_below (oR HO_1020002) hb); have n4_ := Aside0.mk (Kd.R_below (oR HO_1029000) hb); have n5_ := Aside0.mk (Kd.R_below (oR HO_1029002) hb); have n6_ := Aside0.mk (Kd.R_below (oR HO_1062000) hb); have n7_ := Aside0.mk (Kd.R_below (oR HO_1062002) hb); have n8_ := Aside0.mk (blk_below (g := gb994) (o := .cells #[.slice A0_0 l0_0.length c0_0, .int .i64 a0_1, .slice A0_2 l0_2.length c0_2] 25 (0, 0)) (oK BK994) hb); have n9_ := Aside0.mk (blk_below (g := gb1011) (o := .cells #[.slice Ao21 t1003.length co21, .int .i64 t1006, .slice Ao24 t1007.length co24] 30 (0, 0)) (oK BK1011) hb); have n10_ := Aside0.mk (blk_below (g := gb1019) (o := .cells #[.slice Ao28 t1039.length co28, .int .i64 t1015, .slice Ao32 t1040.length co32] 30 (0, 0)) (oK BK1019) hb); have n11_ := Aside0.mk (blk_below (g := gb1028) (o := .cells #[.slice Ao35 t1043.length co35, .int .i64 t1023, .slice Ao40 t1044.length co40] 30 (0, 0)) (oK BK1028) hb); have n12_ := Aside0.mk (blk_below (g := gb1061) (o := .cells #[.slice Ao117 t1053.length co117, .int .i64 t1056, .slice Ao123 t1057.length co123] 30 (0, 0)) (oK BK1061) hb); have n13_ := Aside0.mk (below_step (oB HB) hb); clear HO_1012000; clear HO_1012002; clear HO_1020000; clear HO_1020002; clear HO_1029000; clear HO_1029002; clear HO_1062000; clear HO_1062002; clear BK994; clear BK1011; clear BK1019; clear BK1028; clear BK1061; clear HB; have HO_1012000 := n0_; have HO_1012002 := n1_; have HO_1020000 := n2_; have HO_1020002 := n3_; have HO_1029000 := n4_; have HO_1029002 := n5_; have HO_1062000 := n6_; have HO_1062002 := n7_; have BK994 := n8_; have BK1011 := n9_; have BK1019 := n10_; have BK1028 := n11_; have BK1061 := n12_; have HB := n13_; clear n0_ n1_ n2_ n3_ n4_ n5_ n6_ n7_ n8_ n9_ n10_ n11_ n12_ n13_; (try clear hb); (try clear hb2); (try clear hk); (try clear hi)))
                                go_ret
                                exact ⟨by first | rfl | (simp [errW_none, errW_some] <;> rfl) | (simp [*, errW_none, errW_some] <;> rfl), oB HB⟩
                              · rw [if_neg c149] at H
                                have c149b0 : (t1063 == t1042) = false := beq_eq_false_iff_ne.mpr c149
                                have c149b1 : (t1063 != t1042) = true := bne_iff_ne.mpr c149
                                exact absurd ((Option.some.inj H).trans hrt_.out) (by decide)
                    · rw [if_neg c98] at H
                      have c98b0 : (t1045 == t1042) = false := beq_eq_false_iff_ne.mpr c98
                      have c98b1 : (t1045 != t1042) = true := bne_iff_ne.mpr c98
                      exact absurd ((Option.some.inj H).trans hrt_.out) (by decide)
          · replace c62 := Bool.eq_false_iff.mpr c62
            subst c62
            rw [if_neg (show ¬ (false = true) by decide)] at H
            exact absurd ((Option.some.inj H).trans hrt_.out) (by decide)
end Go.Proofs.Ytlhlmjklajdejaa.P


namespace Go.Proofs.Ytlhlmjklajdejaa.Q
set_option linter.unusedVariables false
set_option linter.unusedSimpArgs false
open Go.RowKit Go.Proofs.YtlhlmjklajdejaaW.PrintWords
theorem evp {α : Type} {c : Prop} [Decidable c] (h : c) {f g : Nat → Option α} {r : α} (k : Ev f r) : Ev (fun n => if c then f n else g n) r := by
  simp only [if_pos h]; exact k
theorem evn {α : Type} {c : Prop} [Decidable c] (h : ¬ c) {f g : Nat → Option α} {r : α} (k : Ev g r) : Ev (fun n => if c then f n else g n) r := by
  simp only [if_neg h]; exact k
theorem evb {α β : Type} {x : Option α} {f : Nat → α → Option β} {a : α} {r : β} (h : x = some a) (k : Ev (fun n => f n a) r) : Ev (fun n => x.bind (f n)) r := by
  simp only [h, Option.bind_some]; exact k
theorem evs {α : Type} {a b : α} (h : a = b) : Ev (fun _ => some a) b := h ▸ Ev.now a
theorem rpos {α : Type} {c : Prop} [Decidable c] (h : c) {f : Nat → Option α} {r s : α} (k : Ev f r) : Ev f (if c then r else s) := by rw [if_pos h]; exact k
theorem rneg {α : Type} {c : Prop} [Decidable c] (h : ¬ c) {f : Nat → Option α} {r s : α} (k : Ev f s) : Ev f (if c then r else s) := by rw [if_neg h]; exact k
theorem down {P : Nat → Prop} {n : Nat} (he : P n) (hs : ∀ i, i < n → P (i + 1) → P i) (i : Nat) (h : i ≤ n) : P i := by
  obtain ⟨d, rfl⟩ : ∃ d, n = i + d := ⟨n - i, by omega⟩
  clear h
  induction d generalizing i with
  | zero => exact he
  | succ d ih =>
    refine hs i (by omega) (ih (i + 1) ?_ ?_)
    · rw [show i + 1 + d = i + (d + 1) by omega]; exact he
    · intro j hj; exact hs j (by omega)
theorem w64 {n : Int} (h1 : -9223372036854775808 ≤ n) (h2 : n ≤ 9223372036854775807) : wrap64 n = n := by unfold wrap64; omega
theorem rd_nat (l : List Int) (i : Nat) (h : i < l.length) : rd l (i : Int) = l[i] := by
  unfold rd; simp [List.getD_eq_getElem?_getD, h]
theorem drop_cons {α : Type} (l : List α) (i : Nat) (h : i < l.length) : l.drop i = l[i] :: l.drop (i + 1) := List.drop_eq_getElem_cons h
theorem drop_end {α : Type} (l : List α) : l.drop l.length = [] := List.drop_eq_nil_of_le (Nat.le_refl _)
theorem set_take {α : Type} (l : List α) (i : Nat) (v : α) (h : i < l.length) : (l.set i v).take (i + 1) = l.take i ++ [v] := by
  rw [List.take_set, List.take_succ_eq_append_getElem h, List.set_append_right _ _ (by simp; omega)]
  simp [Nat.min_eq_left (Nat.le_of_lt h)]
end Go.Proofs.Ytlhlmjklajdejaa.Q


namespace Go.Proofs.Ytlhlmjklajdejaa.Q
set_option linter.unusedVariables false
set_option linter.unusedSimpArgs false
open Go.RowKit Go.Proofs.Ytlhlmjklajdejaa.P Go.Proofs.YtlhlmjklajdejaaW.PrintWords
theorem within_eq (a b c : Int) : impl_within.f a b c = some (decide (b ≤ a ∧ a ≤ c)) := by
  unfold impl_within.f; by_cases h : b ≤ a <;> simp [h]
theorem l01In_eq (a b c : Int) : spec_l01In.f a b c = some (decide (b ≤ a ∧ a ≤ c)) := by
  unfold spec_l01In.f; by_cases h : a ≥ b
  · rw [if_pos h]; simp [show b ≤ a from h]
  · rw [if_neg h]; simp [show ¬ b ≤ a from h]
end Go.Proofs.Ytlhlmjklajdejaa.Q


namespace Go.Proofs.Ytlhlmjklajdejaa.Q
set_option linter.unusedVariables false
set_option linter.unusedSimpArgs false
open Go.RowKit Go.Proofs.Ytlhlmjklajdejaa.P Go.Proofs.YtlhlmjklajdejaaW.PrintWords Go.Proofs.YtlhlmjklajdejaaW.PrintMore
def fine (n : Int) : Bool := decide (1 ≤ n ∧ n ≤ 10000000)
theorem pitch_eq (n : Int) : spec_l18Pitch.f n = some (fine n) := by unfold spec_l18Pitch.f; rw [l01In_eq]; rfl
theorem isFine_eq (n : Int) : impl_isFine.f n = some (fine n) := by unfold impl_isFine.f; rw [within_eq]; rfl
def orZero (n : Int) : Int := if fine n = true then n else 0
def tunedPitch (a k b : Int) : Int :=
  if fine a = true then
    if 0 ≤ b ∧ b ≤ 100000 then
      if k = 1 then orZero (wrap64 (Int.tdiv (mx (wrap64 ((wrap64 (3 * a)) - b)) 0) 2))
      else if k = 2 then orZero (wrap64 (Int.tdiv (mx (wrap64 ((wrap64 (3 * a)) - b)) 0) 4))
      else if k = 3 then if b = 0 then orZero (wrap64 (2 * a)) else 0
      else if k = 4 then if b = 0 then orZero (wrap64 (Int.tdiv a 2)) else 0
      else 0
    else 0
  else 0
theorem mx_comm (a b : Int) : mx a b = mx b a := by unfold mx; split <;> split <;> omega
theorem evz {n : Int} {x : Option Bool} (h : x = some (fine n)) : Ev (fun _ => x.bind fun t => if t = true then some n else some 0) (orZero n) := by
  subst h; simp only [Option.bind_some]; unfold orZero; by_cases h : fine n = true
  · rw [if_pos h, if_pos h]; exact Ev.now _
  · rw [if_neg h, if_neg h]; exact Ev.now _
theorem tuned_impl (a k b : Int) : Ev (fun n => impl_TunedPitch.f n a k b) (tunedPitch a k b) := by
  have jt : Ev (fun n => impl_TunedPitch.j0 n a k b true) 0 := Ev.step (fun n => by rw [impl_TunedPitch.j0]) (evp rfl (Ev.now _))
  unfold impl_TunedPitch.f
  refine evb (isFine_eq a) ?_
  unfold tunedPitch
  by_cases ha : fine a = true
  rotate_left
  · exact rneg ha <| evn ha jt
  refine rpos ha <| evp ha (evb (within_eq _ _ _) ?_)
  by_cases hb : 0 ≤ b ∧ b ≤ 100000
  rotate_left
  · exact rneg hb <| evn (by simpa using hb) jt
  refine rpos hb <| evp (by simpa using hb) ?_
  have jf : (k = 3 ∨ k = 4 → b = 0) → Ev (fun n => impl_TunedPitch.j0 n a k b false) (if k = 1 then orZero (wrap64 (Int.tdiv (mx (wrap64 ((wrap64 (3 * a)) - b)) 0) 2))
      else if k = 2 then orZero (wrap64 (Int.tdiv (mx (wrap64 ((wrap64 (3 * a)) - b)) 0) 4))
      else if k = 3 then if b = 0 then orZero (wrap64 (2 * a)) else 0
      else if k = 4 then if b = 0 then orZero (wrap64 (Int.tdiv a 2)) else 0
      else 0) := by
    intro h0
    refine Ev.step (fun n => by rw [impl_TunedPitch.j0]) (evn (by decide) ?_)
    by_cases h1 : k = 1
    · exact rpos h1 <| evp h1 (evz (isFine_eq _))
    refine rneg h1 <| evn h1 ?_
    by_cases h2 : k = 2
    · exact rpos h2 <| evp h2 (evz (isFine_eq _))
    refine rneg h2 <| evn h2 ?_
    by_cases h3 : k = 3
    · exact rpos h3 <| rpos (h0 (.inl h3)) <| evp h3 (evz (isFine_eq _))
    refine rneg h3 <| evn h3 ?_
    by_cases h4 : k = 4
    · exact rpos h4 <| rpos (h0 (.inr h4)) <| evp h4 (evz (isFine_eq _))
    refine rneg h4 <| evn h4 ?_
    refine evb (isFine_eq _) (evn (by decide) (Ev.now _))
  by_cases b0 : b = 0
  · exact evp b0 (jf fun _ => b0)
  refine evn b0 ?_
  by_cases h3 : k = 3
  · refine evp h3 ?_
    exact rneg (by omega) <| rneg (by omega) <| rpos h3 <| rneg b0 jt
  refine evn h3 ?_
  by_cases h4 : k = 4
  · rw [show (k == 4) = true by simp [h4]]; exact rneg (by omega) <| rneg (by omega) <| rneg (by omega) <| rpos h4 <| rneg b0 jt
  · rw [show (k == 4) = false by simp [h4]]; exact jf (by omega)
theorem tuned_spec (a k b : Int) : Ev (fun n => spec_TunedPitch.f n a k b) (tunedPitch a k b) := by
  have jt : Ev (fun n => spec_TunedPitch.j0 n a k b true) 0 := Ev.step (fun n => by rw [spec_TunedPitch.j0]) (evp rfl (Ev.now _))
  unfold spec_TunedPitch.f
  refine evb (pitch_eq a) ?_
  unfold tunedPitch
  by_cases ha : fine a = true
  rotate_left
  · exact rneg ha <| evn ha jt
  refine rpos ha <| evp ha (evb (l01In_eq _ _ _) ?_)
  by_cases hb : 0 ≤ b ∧ b ≤ 100000
  rotate_left
  · rw [show (!decide (0 ≤ b ∧ b ≤ 100000)) = true by rw [decide_eq_false hb]; rfl]; exact rneg hb jt
  rw [show (!decide (0 ≤ b ∧ b ≤ 100000)) = false by rw [decide_eq_true hb]; rfl]
  refine rpos hb ?_
  have j2t : Ev (fun n => spec_TunedPitch.j2 n a 0 true) (orZero (wrap64 (Int.tdiv a 2))) := Ev.step (fun n => by rw [spec_TunedPitch.j2]) (evp rfl (evz (pitch_eq _)))
  have j2f : Ev (fun n => spec_TunedPitch.j2 n a 0 false) 0 := Ev.step (fun n => by rw [spec_TunedPitch.j2]) (evn (by decide) (evz (pitch_eq 0)))
  refine Ev.step (fun n => by rw [spec_TunedPitch.j0]) (evn (by decide) ?_)
  by_cases h1 : k = 1
  · rw [mx_comm 0]; exact rpos h1 <| evp h1 (evz (pitch_eq _))
  refine rneg h1 <| evn h1 ?_
  by_cases h2 : k = 2
  · rw [mx_comm 0]; exact rpos h2 <| evp h2 (evz (pitch_eq _))
  refine rneg h2 <| evn h2 ?_
  have j1f : Ev (fun n => spec_TunedPitch.j1 n a k b 0 false) (if k = 4 then if b = 0 then orZero (wrap64 (Int.tdiv a 2)) else 0 else 0) := by
    refine Ev.step (fun n => by rw [spec_TunedPitch.j1]) (evn (by decide) ?_)
    by_cases h4 : k = 4
    · refine rpos h4 <| evp h4 ?_
      by_cases b0 : b = 0
      · rw [show (b == 0) = true by simp [b0]]; exact rpos b0 j2t
      · rw [show (b == 0) = false by simp [b0]]; exact rneg b0 j2f
    · exact rneg h4 <| evn h4 j2f
  by_cases h3 : k = 3
  · refine rpos h3 <| evp h3 ?_
    by_cases b0 : b = 0
    · rw [show (b == 0) = true by simp [b0]]
      exact rpos b0 <| Ev.step (fun n => by rw [spec_TunedPitch.j1]) (evp rfl (evz (pitch_eq _)))
    · rw [show (b == 0) = false by simp [b0]]
      rw [if_neg (by omega)] at j1f
      exact rneg b0 j1f
  exact rneg h3 <| evn h3 j1f
end Go.Proofs.Ytlhlmjklajdejaa.Q


namespace Go.Proofs.Ytlhlmjklajdejaa.Q
set_option linter.unusedVariables false
set_option linter.unusedSimpArgs false
open Go.RowKit Go.Proofs.Ytlhlmjklajdejaa.P Go.Proofs.YtlhlmjklajdejaaW.PrintWords Go.Proofs.YtlhlmjklajdejaaW.PrintMore
def cStep (x : S70) : S67 := ⟨x.f0, x.f1, x.f2, x.f3⟩
theorem rdS (l : List S67) (i : Nat) (h : i < l.length) : rd_T67 l (i : Int) = l[i] := by
  unfold rd_T67; simp [List.getD_eq_getElem?_getD, h]
theorem rdLS (l : List S70) (i : Nat) (h : i < l.length) : rd_T70 l (i : Int) = l[i] := by
  unfold rd_T70; simp [List.getD_eq_getElem?_getD, h]
theorem toStepS_ev (l : List S70) (hl : l.length ≤ 1048576) : Ev (fun k => laws_toStepS.f k l) (l.map cStep) := by
  have key : ∀ i, i ≤ l.length → ∀ acc : List S67, acc.length = l.length → Ev (fun k => laws_toStepS.l0 k l acc (i : Int)) (acc.take i ++ (l.drop i).map cStep) := by
    refine down (n := l.length) ?_ ?_
    · intro acc ha
      refine Ev.step (fun k => by rw [laws_toStepS.l0]) (evn (by omega) (evs ?_))
      rw [drop_end, List.map_nil, List.append_nil, List.take_of_length_le (by omega)]
    · intro i hi ih acc ha
      refine Ev.step (fun k => by rw [laws_toStepS.l0]) (evp (by omega) (evp (by omega) ?_))
      rw [rdLS l i hi]
      refine evb (a := (l[i].f0, l[i].f1, l[i].f2, l[i].f3)) rfl (evp (by omega) ?_)
      rw [w64 (by omega) (by omega), Int.toNat_natCast]
      have := ih (acc.set i (cStep l[i])) (by simpa using ha)
      rw [set_take _ _ _ (by omega), List.append_assoc] at this
      rw [drop_cons l i hi, List.map_cons]
      exact this
  have := key 0 (Nat.zero_le _) (List.replicate l.length z67) (by simp)
  unfold laws_toStepS.f
  refine evp (by omega) (evp (by omega) ?_)
  simpa using this
theorem eqStep_self (a b c d : Int) : laws_eqStep.f a b c d a b c d = some true := by unfold laws_eqStep.f; simp
theorem eqStepS_ev (l : List S67) (hl : l.length ≤ 9000000000000000000) : Ev (fun k => laws_eqStepS.f k l l) true := by
  have key : ∀ i, i ≤ l.length → Ev (fun k => laws_eqStepS.l0 k l l (i : Int)) true := by
    refine down (n := l.length) ?_ ?_
    · refine Ev.step (fun k => by rw [laws_eqStepS.l0]) (evn (by omega) ?_)
      exact Ev.now _
    · intro i hi ih
      refine Ev.step (fun k => by rw [laws_eqStepS.l0]) (evp (by omega) (evp (by omega) (evp (by omega) ?_)))
      refine evb (eqStep_self _ _ _ _) (evp rfl ?_)
      rw [w64 (by omega) (by omega)]
      exact ih
  unfold laws_eqStepS.f
  refine evp rfl ?_
  exact key 0 (Nat.zero_le _)
theorem szStepS_eq (l : List S70) (m : Int) (h0 : 0 ≤ m) (hm : m ≤ 1048576) (hl : l.length ≤ 9223372036854775807) : laws_szStepS.f l m = some (if m < l.length then -1 else m - l.length) := by
  unfold laws_szStepS.f
  rw [w64 (by omega) (by omega)]
  by_cases h : m < l.length
  · rw [if_pos (by omega), if_pos h]
  · rw [if_neg (by omega), if_neg h]
def runsS (m : Int) (n : Nat) : List S67 := (List.range n).map (fun (j : Nat) => ⟨m + 4 * j, m + 4 * j + 1, m + 4 * j + 2, m + 4 * j + 3⟩)
theorem runsS_len (m : Int) (n : Nat) : (runsS m n).length = n := by simp [runsS]
theorem rd_set_self (l : List S67) (i : Nat) (v : S67) (h : i < l.length) : rd_T67 (l.set i v) (i : Int) = v := by
  rw [rdS _ _ (by simpa using h)]; simp
theorem markStepS_ev (l : List S67) (m : Int) (h0 : 0 ≤ m) (hm : m + 4 * l.length ≤ 4000000000000000000) : Ev (fun k => laws_markStepS.f k l m) (m + 4 * l.length, runsS m l.length) := by
  have key : ∀ i, i ≤ l.length → ∀ acc : List S67, acc.length = l.length → acc.take i = runsS m i → Ev (fun k => laws_markStepS.l0 k acc (m + 4 * i) (i : Int)) (m + 4 * l.length, runsS m l.length) := by
    refine down (n := l.length) ?_ ?_
    · intro acc ha ht
      refine Ev.step (fun k => by rw [laws_markStepS.l0]) (evn (by omega) (evs ?_))
      rw [← ht, List.take_of_length_le (by omega)]
    · intro i hi ih acc ha ht
      refine Ev.step (fun k => by rw [laws_markStepS.l0]) ?_
      refine evp (by omega) (evp (by omega) ?_)
      simp only [Option.bind_some]
      rw [w64 (n := m + 4 * i + 1) (by omega) (by omega), w64 (n := m + 4 * i + 1 + 1) (by omega) (by omega), w64 (n := m + 4 * i + 1 + 1 + 1) (by omega) (by omega), w64 (n := m + 4 * i + 1 + 1 + 1 + 1) (by omega) (by omega), w64 (n := (i : Int) + 1) (by omega) (by omega), Int.toNat_natCast]
      have := ih (acc.set i ⟨m + 4 * i, m + 4 * i + 1, m + 4 * i + 2, m + 4 * i + 3⟩) (by simpa using ha) (by
        rw [set_take _ _ _ (by omega), ht]
        simp [runsS, List.range_succ])
      have rs : ∀ (L : List S67) (v : S67), L.length = l.length → rd_T67 (L.set i v) (i : Int) = v := fun L v hL => rd_set_self L i v (by omega)
      simp only [rs _ _ ha, List.set_set]
      rw [show m + 4 * (i : Int) + 1 + 1 = m + 4 * i + 2 by omega, show m + 4 * (i : Int) + 2 + 1 = m + 4 * i + 3 by omega, show m + 4 * (i : Int) + 3 + 1 = m + 4 * ((i + 1 : Nat) : Int) by omega]
      exact this
  have := key 0 (Nat.zero_le _) l rfl (by simp [runsS])
  unfold laws_markStepS.f
  simpa using this
theorem heldStepS_ev (n : Nat) (m : Int) (h0 : 0 ≤ m) (hm : m + 4 * n ≤ 4000000000000000000) : Ev (fun k => laws_heldStepS.f k (runsS m n) m) (m + 4 * n) := by
  have key : ∀ i, i ≤ n → Ev (fun k => laws_heldStepS.l0 k (runsS m n) (m + 4 * i) (i : Int)) (m + 4 * n) := by
    refine down (n := n) ?_ ?_
    · exact Ev.step (fun k => by rw [laws_heldStepS.l0]) (evn (by rw [runsS_len]; omega) (evs rfl))
    · intro i hi ih
      refine Ev.step (fun k => by rw [laws_heldStepS.l0]) (evp (by rw [runsS_len]; omega) (evp (by omega) ?_))
      rw [rdS _ _ (by rw [runsS_len]; exact hi), show (runsS m n)[i]'(by rw [runsS_len]; exact hi) = ⟨m + 4 * i, m + 4 * i + 1, m + 4 * i + 2, m + 4 * i + 3⟩ by simp [runsS]]
      rw [w64 (n := m + 4 * i + 1) (by omega) (by omega), w64 (n := m + 4 * i + 1 + 1) (by omega) (by omega), w64 (n := m + 4 * i + 1 + 1 + 1) (by omega) (by omega), w64 (n := m + 4 * i + 1 + 1 + 1 + 1) (by omega) (by omega), w64 (n := (i : Int) + 1) (by omega) (by omega)]
      refine evp rfl (evp rfl (evp ?_ (evp ?_ ?_)))
      · show m + 4 * (i : Int) + 2 = _; omega
      · show m + 4 * (i : Int) + 3 = _; omega
      rw [show m + 4 * (i : Int) + 1 + 1 + 1 + 1 = m + 4 * ((i + 1 : Nat) : Int) by omega]
      exact ih
  have := key 0 (Nat.zero_le _)
  unfold laws_heldStepS.f
  simpa using this
end Go.Proofs.Ytlhlmjklajdejaa.Q


namespace Go.Proofs.Ytlhlmjklajdejaa.Q
set_option linter.unusedVariables false
set_option linter.unusedSimpArgs false
open Go.RowKit Go.Proofs.Ytlhlmjklajdejaa.P Go.Proofs.YtlhlmjklajdejaaW.PrintWords Go.Proofs.YtlhlmjklajdejaaW.PrintMore
theorem planGoS_eq (l : List S67) (t : List Bool) : planGoS l t = planGo l t := by
  induction l generalizing t with
  | nil => rfl
  | cons x r ih => simp only [planGoS, planGo, ih]; rfl
theorem planSpec_eq (l : List S67) : spec_PlanOk.f l = some (planOk l) := by
  show some (planOkS l) = some (planOk l)
  unfold planOkS planOk
  rw [planGoS_eq, Bool.and_comm]; rfl
def inKeys (x : S67) : Prop := 0 ≤ x.f0 ∧ x.f0 ≤ 11 ∧ 0 ≤ x.f1 ∧ x.f1 ≤ 11 ∧ x.f1 = (x.f0 + 1) % 12
theorem stepOk_in {x : S67} {t : List Bool} (h : stepOk x t = true) : inKeys x := by
  simp [stepOk] at h; unfold inKeys; omega
theorem planGo_in {l : List S67} {t : List Bool} (h : planGo l t = true) : ∀ x ∈ l, inKeys x := by
  induction l generalizing t with
  | nil => simp
  | cons y r ih =>
    simp only [planGo, Bool.and_eq_true] at h
    intro x hx
    rcases List.mem_cons.1 hx with rfl | hx
    · exact stepOk_in h.1
    · exact ih h.2 x hx
theorem planOk_in {l : List S67} (h : planOk l = true) : ∀ x ∈ l, inKeys x := by
  simp only [planOk, Bool.and_eq_true] at h; exact planGo_in h.2
theorem planOk_len {l : List S67} (h : planOk l = true) : l.length ≤ 11 := by
  simp only [planOk, Bool.and_eq_true, decide_eq_true_eq] at h; exact h.1
theorem rd_get (l : List Int) (i : Int) : rd l i = l.getD i.toNat 0 := rfl
end Go.Proofs.Ytlhlmjklajdejaa.Q


namespace Go.Proofs.Ytlhlmjklajdejaa.Q
set_option linter.unusedVariables false
set_option linter.unusedSimpArgs false
open Go.RowKit Go.Proofs.Ytlhlmjklajdejaa.P Go.Proofs.YtlhlmjklajdejaaW.PrintWords Go.Proofs.YtlhlmjklajdejaaW.PrintMore
def stepTo (c : Int) : List S67 → Nat → Int
  | [], _ => -1
  | x :: r, j => if x.f1 = c then (j : Int) else stepTo c r (j + 1)
theorem stepTo_ev (l : List S67) (c : Int) (hl : l.length ≤ 4000000) : Ev (fun n => spec_l20Step.f n l c) (stepTo c l 0) := by
  have key : ∀ i, i ≤ l.length → Ev (fun n => spec_l20Step.l0 n l c (i : Int)) (stepTo c (l.drop i) i) := by
    refine down (n := l.length) ?_ ?_
    · refine Ev.step (fun n => by rw [spec_l20Step.l0]) (evn (by omega) (evs ?_))
      rw [drop_end]; rfl
    · intro i hi ih
      refine Ev.step (fun n => by rw [spec_l20Step.l0]) ?_
      refine evp (by omega) (evp (by omega) ?_)
      rw [rdS l i hi, drop_cons l i hi, stepTo]
      by_cases h : l[i].f1 = c
      · exact rpos h <| evp h (Ev.now _)
      · refine rneg h <| evn h ?_
        rw [w64 (by omega) (by omega)]
        exact ih
  exact key 0 (Nat.zero_le _)
theorem stepTo_lt (c : Int) (l : List S67) (j d : Nat) : (0 ≤ stepTo c l j ∧ stepTo c l j < ((j + d : Nat) : Int)) ↔ ∃ x ∈ l.take d, x.f1 = c := by
  induction l generalizing j d with
  | nil => simp [stepTo]
  | cons x r ih =>
    unfold stepTo
    cases d with
    | zero =>
      simp only [List.take_zero, List.not_mem_nil, false_and, exists_false, iff_false]
      by_cases h : x.f1 = c
      · rw [if_pos h]; omega
      · rw [if_neg h]
        have := ih (j + 1) 0
        simp at this
        have h1 := this
        intro h2
        have : ∀ (l : List S67) (j : Nat), stepTo c l j = -1 ∨ (j : Int) ≤ stepTo c l j := by
          intro l
          induction l with
          | nil => intro j; exact .inl rfl
          | cons y s ih2 =>
            intro j; unfold stepTo; split
            · exact .inr (Int.le_refl _)
            · rcases ih2 (j + 1) with h | h
              · exact .inl h
              · exact .inr (by omega)
        rcases this r (j + 1) with h3 | h3 <;> omega
    | succ d =>
      rw [List.take_succ_cons]
      by_cases h : x.f1 = c
      · rw [if_pos h]
        exact ⟨fun _ => ⟨x, List.mem_cons_self, h⟩, fun _ => ⟨by omega, by omega⟩⟩
      · rw [if_neg h]
        have := ih (j + 1) d
        rw [show j + 1 + d = j + (d + 1) by omega] at this
        rw [this]
        constructor
        · rintro ⟨y, hy, e⟩; exact ⟨y, List.mem_cons_of_mem _ hy, e⟩
        · rintro ⟨y, hy, e⟩
          rcases List.mem_cons.1 hy with rfl | hy
          · exact absurd e h
          · exact ⟨y, hy, e⟩
theorem tunedBy_len (l : List S67) (t : List Bool) : (P.tunedBy l t).length = t.length := by
  unfold P.tunedBy
  induction l generalizing t with
  | nil => rfl
  | cons x r ih => rw [List.foldl_cons, ih, List.length_set]
theorem tunedBy_get (l : List S67) (t : List Bool) (hin : ∀ x ∈ l, 0 ≤ x.f1) (c : Nat) (hc : c < t.length) : (P.tunedBy l t)[c]? = some (t[c] || l.any (fun x => decide (x.f1 = (c : Int)))) := by
  unfold P.tunedBy
  induction l generalizing t with
  | nil => simp [hc]
  | cons x r ih =>
    rw [List.foldl_cons, ih _ (fun y hy => hin y (List.mem_cons_of_mem _ hy)) (by simpa using hc)]
    have := hin x List.mem_cons_self
    simp only [List.any_cons, List.getElem_set]
    by_cases h : x.f1 = (c : Int)
    · rw [if_pos (by omega)]; simp [h]
    · rw [if_neg (by omega)]; simp [h]
theorem workOk_spec (p : List S67) (d : Int) (q : List Int) : Ev (fun n => spec_WorkOk.f n p d q) (workOk p d q) := by
  have jt : Ev (fun n => spec_WorkOk.j0 n true p d q) false := Ev.step (fun n => by rw [spec_WorkOk.j0]) (evp rfl (Ev.now _))
  unfold spec_WorkOk.f workOk
  refine evb (planSpec_eq p) ?_
  by_cases hp : planOk p = true
  rotate_left
  · rw [show planOk p = false by simpa using hp, Bool.false_and]; exact evn (by simp) jt
  refine evp hp (evb (l01In_eq _ _ _) ?_)
  rw [hp, Bool.true_and]
  by_cases hd : 0 ≤ d ∧ d ≤ (p.length : Int)
  rotate_left
  · rw [decide_eq_false hd, Bool.false_and]; exact evn (by simp) jt
  rw [decide_eq_true hd, Bool.true_and]
  refine evp rfl ?_
  by_cases hq : q.length = 12
  rotate_left
  · rw [decide_eq_false hq, Bool.false_and, show ((q.length : Int) != 12) = true by simpa using (show ¬ (q.length : Int) = 12 by omega)]; exact jt
  rw [decide_eq_true hq, Bool.true_and, show ((q.length : Int) != 12) = false by simpa using (show (q.length : Int) = 12 by omega)]
  have hl := planOk_len hp
  have hin := planOk_in hp
  obtain ⟨T, hT⟩ : ∃ T, P.tunedBy (p.take d.toNat) tuned0 = T := ⟨_, rfl⟩
  have hTl : T.length = 12 := by rw [← hT, tunedBy_len]; rfl
  have hTi : ∀ c : Nat, (hc : c < T.length) → T[c] = (decide (c = 0) || decide (0 ≤ stepTo (c : Int) p 0 ∧ stepTo (c : Int) p 0 < d)) := by
    intro c hc
    have h1 := tunedBy_get (p.take d.toNat) tuned0 (fun x hx => (hin x (List.mem_of_mem_take hx)).2.2.1) c (show c < 12 by omega)
    rw [hT, List.getElem?_eq_getElem hc] at h1
    rw [Option.some.inj h1]
    congr 1
    · have : ∀ c, (h : c < tuned0.length) → tuned0[c] = decide (c = 0) := by decide
      exact this c _
    · have h2 := stepTo_lt (c : Int) p 0 d.toNat
      rw [Nat.zero_add, Int.toNat_of_nonneg hd.1] at h2
      rw [Bool.eq_iff_iff, decide_eq_true_iff, h2]
      simp
  rw [hT]
  have key : ∀ i : Nat, i ≤ 12 → Ev (fun n => spec_WorkOk.l0 n (i : Int) p d q) (keyGo (T.drop i) (q.drop i)) := by
    refine down (n := 12) ?_ ?_
    · refine Ev.step (fun n => by rw [spec_WorkOk.l0]) (evn (by omega) (evs ?_))
      rw [List.drop_eq_nil_of_le (by omega)]; rfl
    · intro i hi ih
      refine Ev.step (fun n => by rw [spec_WorkOk.l0]) ?_
      refine evp (by omega) (Ev.bind (stepTo_ev p _ (by omega)) ?_)
      rw [rd_nat q i (by omega), drop_cons T i (by omega), drop_cons q i (by omega), keyGo, hTi i (by omega), w64 (n := (i : Int) + 1) (by omega) (by omega)]
      have fin : ∀ v : Bool, Ev (fun n => (spec_l18Pitch.f q[i]).bind fun t => if t = true then spec_WorkOk.l0 n (((i + 1 : Nat)) : Int) p d q else some false) (decide (1 ≤ q[i] ∧ q[i] ≤ 10000000) && keyGo (T.drop (i + 1)) (q.drop (i + 1))) := by
        intro v
        refine evb (pitch_eq _) ?_
        by_cases hf : fine q[i] = true
        · rw [show decide (1 ≤ q[i] ∧ q[i] ≤ 10000000) = true from hf, Bool.true_and]; exact evp hf ih
        · rw [show decide (1 ≤ q[i] ∧ q[i] ≤ 10000000) = false by simpa [fine] using hf, Bool.false_and]; exact evn hf (Ev.now _)
      have zer : Ev (fun n => if 0 ≤ (i : Int) then (if (i : Int) < (q.length : Int) then (if q[i] = 0 then spec_WorkOk.l0 n (((i + 1 : Nat)) : Int) p d q else some false) else none) else none) (decide (q[i] = 0) && keyGo (T.drop (i + 1)) (q.drop (i + 1))) := by
        refine evp (by omega) (evp (by omega) ?_)
        by_cases hz : q[i] = 0
        · rw [decide_eq_true hz, Bool.true_and]; exact evp hz ih
        · rw [decide_eq_false hz, Bool.false_and]; exact evn hz (Ev.now _)
      by_cases h0 : i = 0
      · refine evp (by omega) (evp (by omega) (evp (by omega) ?_))
        rw [decide_eq_true h0, Bool.true_or, if_pos rfl]
        exact fin true
      refine evn (by omega) ?_
      rw [decide_eq_false h0, Bool.false_or]
      by_cases h1 : 0 ≤ stepTo (i : Int) p 0
      rotate_left
      · rw [decide_eq_false (fun h => h1 h.1), if_neg (by simp)]; exact evn (by omega) zer
      refine evp (by omega) ?_
      by_cases h2 : stepTo (i : Int) p 0 < d
      · rw [decide_eq_true ⟨h1, h2⟩, if_pos rfl]; exact evp h2 (evp (by omega) (evp (by omega) (fin true)))
      · rw [decide_eq_false (fun h => h2 h.2), if_neg (by simp)]; exact evn h2 zer
  refine Ev.step (fun n => by rw [spec_WorkOk.j0]) (evn (by decide) ?_)
  exact key 0 (by omega)
theorem workImpl_eq (p : List S67) (d : Int) (q : List Int) : impl_WorkOk.f p d q = some (workOk p d q) := rfl
theorem workOk_plan {p : List S67} {d : Int} {q : List Int} (h : workOk p d q = true) : planOk p = true := by
  simp only [workOk, Bool.and_eq_true] at h; exact h.1
theorem workOk_done {p : List S67} {d : Int} {q : List Int} (h : workOk p d q = true) : 0 ≤ d ∧ d ≤ p.length := by
  simp only [workOk, Bool.and_eq_true, decide_eq_true_eq] at h; exact h.2.1
theorem workOk_len {p : List S67} {d : Int} {q : List Int} (h : workOk p d q = true) : q.length = 12 := by
  simp only [workOk, Bool.and_eq_true, decide_eq_true_eq] at h; exact h.2.2.1
end Go.Proofs.Ytlhlmjklajdejaa.Q


namespace Go.Proofs.Ytlhlmjklajdejaa.Q
set_option linter.unusedVariables false
set_option linter.unusedSimpArgs false
open Go.RowKit Go.Proofs.Ytlhlmjklajdejaa.P Go.Proofs.YtlhlmjklajdejaaW.PrintWords Go.Proofs.YtlhlmjklajdejaaW.PrintMore
def tuneAt (p : List S67) (q : List Int) (i : Nat) : Int := tunedPitch (q.getD (p.getD i z67).f0.toNat 0) (p.getD i z67).f2 (p.getD i z67).f3
theorem getS (p : List S67) (i : Nat) (hi : i < p.length) : p.getD i z67 = p[i] := by simp [List.getD_eq_getElem?_getD, hi]
theorem tunedBy_ev (p : List S67) (d : Int) (q : List Int) (i : Nat) (hp : planOk p = true) (hq : q.length = 12) (hi : i < p.length) : Ev (fun n => impl_tunedBy.f n p d q (i : Int)) (tuneAt p q i) := by
  obtain ⟨k0, k1, k2, k3, k4⟩ := planOk_in hp p[i] (List.getElem_mem hi)
  unfold impl_tunedBy.f tuneAt
  rw [getS p i hi, rdS p i hi]
  refine evp (by omega) (evp (by omega) (evp k0 (evp (by omega) (Ev.bind (tuned_impl _ _ _) (Ev.now _)))))
end Go.Proofs.Ytlhlmjklajdejaa.Q


namespace Go.Proofs.Ytlhlmjklajdejaa.Q
set_option linter.unusedVariables false
set_option linter.unusedSimpArgs false
open Go.RowKit Go.Proofs.Ytlhlmjklajdejaa.P Go.Proofs.YtlhlmjklajdejaaW.PrintWords Go.Proofs.YtlhlmjklajdejaaW.PrintMore
def isBad (p : List S67) (q : List Int) (i : Nat) : Bool := decide (q.getD (p.getD i z67).f1.toNat 0 ≠ tuneAt p q i)
def wrongs (p : List S67) (q : List Int) (l : List Nat) : List Int := (l.filter (isBad p q)).map (fun (i : Nat) => (i : Int))
def wrongSteps (p : List S67) (d : Int) (q : List Int) : List Int := if workOk p d q = true then wrongs p q (List.range d.toNat) else []
theorem wrongs_cons (p : List S67) (q : List Int) (i : Nat) (l : List Nat) : wrongs p q (i :: l) = if isBad p q i = true then (i : Int) :: wrongs p q l else wrongs p q l := by
  unfold wrongs; rw [List.filter_cons]; split <;> rfl
theorem wrong_impl (p : List S67) (d : Int) (q : List Int) : Ev (fun n => impl_WrongSteps.f n p d q) (wrongSteps p d q) := by
  unfold impl_WrongSteps.f wrongSteps
  refine evb (workImpl_eq p d q) ?_
  by_cases h : workOk p d q = true
  rotate_left
  · exact rneg h <| evn h (Ev.now _)
  have hp := workOk_plan h; have hd := workOk_done h; have hq := workOk_len h; have hl := planOk_len hp
  obtain ⟨m, rfl⟩ := Int.eq_ofNat_of_zero_le hd.1
  refine rpos h <| evp h (evp hd.1 (evp hd.2 ?_))
  simp only [Option.bind_some, Int.toNat_natCast]
  have key : ∀ i, i ≤ m → ∀ acc : List Int, acc.length ≤ i → Ev (fun n => impl_WrongSteps.l0 n acc (p.take m) ((p.take m).length : Int) (i : Int) p m q) (acc ++ wrongs p q ((List.range m).drop i)) := by
    refine down (n := m) ?_ ?_
    · intro acc ha
      refine Ev.step (fun n => by rw [impl_WrongSteps.l0]) (evn (by rw [List.length_take]; omega) (evs ?_))
      rw [List.drop_eq_nil_of_le (by simp)]; simp [wrongs]
    · intro i hi ih acc ha
      obtain ⟨k0, k1, k2, k3, k4⟩ := planOk_in hp p[i] (List.getElem_mem (by omega))
      have e : (p.take m)[i]'(by rw [List.length_take]; omega) = p[i] := by simp
      refine Ev.step (fun n => by rw [impl_WrongSteps.l0]) ?_
      refine evp (by rw [List.length_take]; omega) (evp (by omega) (evp (by rw [List.length_take]; omega) ?_))
      rw [rdS (p.take m) i (by rw [List.length_take]; omega), e]
      refine evp k2 (evp (by omega) (Ev.bind (tunedBy_ev p _ q i hp hq (by omega)) ?_))
      rw [drop_cons _ i (by simpa using hi), List.getElem_range, rd_get, w64 (n := (i : Int) + 1) (by omega) (by omega)]
      have g := getS p i (by omega)
      have eb : isBad p q i = decide (q.getD p[i].f1.toNat 0 ≠ tuneAt p q i) := by unfold isBad; rw [g]
      by_cases hb : q.getD p[i].f1.toNat 0 = tuneAt p q i
      · rw [show wrongs p q (i :: (List.range m).drop (i + 1)) = wrongs p q ((List.range m).drop (i + 1)) by rw [wrongs_cons, eb, if_neg (by simp only [decide_eq_true_eq]; exact fun h => h hb)]]
        refine evp hb ?_
        exact ih acc (by omega)
      · rw [show wrongs p q (i :: (List.range m).drop (i + 1)) = (i : Int) :: wrongs p q ((List.range m).drop (i + 1)) by rw [wrongs_cons, eb, if_pos (by simp only [decide_eq_true_eq]; exact hb)]]
        refine evn hb (evp (by omega) ?_)
        have := ih (acc ++ [(i : Int)]) (by simp; omega)
        rw [List.append_assoc] at this
        exact this
  have := key 0 (Nat.zero_le _) [] (Nat.le_refl _)
  simpa using this
theorem wrong_spec (p : List S67) (d : Int) (q : List Int) : Ev (fun n => spec_WrongSteps.f n p d q) (wrongSteps p d q) := by
  unfold spec_WrongSteps.f wrongSteps
  simp only [Option.bind_some]
  refine Ev.bind (workOk_spec p d q) ?_
  by_cases h : workOk p d q = true
  rotate_left
  · exact rneg h <| evn h (Ev.now _)
  have hp := workOk_plan h; have hd := workOk_done h; have hq := workOk_len h; have hl := planOk_len hp
  obtain ⟨m, rfl⟩ := Int.eq_ofNat_of_zero_le hd.1
  refine rpos h <| evp h ?_
  simp only [Int.toNat_natCast]
  have key : ∀ i, i ≤ m → ∀ acc : List Int, acc.length ≤ i → Ev (fun n => spec_WrongSteps.l0 n acc (i : Int) p m q) (acc ++ wrongs p q ((List.range m).drop i)) := by
    refine down (n := m) ?_ ?_
    · intro acc ha
      refine Ev.step (fun n => by rw [spec_WrongSteps.l0]) (evn (by omega) (evs ?_))
      rw [List.drop_eq_nil_of_le (by simp)]; simp [wrongs]
    · intro i hi ih acc ha
      obtain ⟨k0, k1, k2, k3, k4⟩ := planOk_in hp p[i] (List.getElem_mem (by omega))
      refine Ev.step (fun n => by rw [spec_WrongSteps.l0]) ?_
      refine evp (by omega) (evp (by omega) (evp (by omega) ?_))
      rw [rdS p i (by omega)]
      refine evp k2 (evp (by omega) (evp k0 (evp (by omega) (Ev.bind (tuned_spec _ _ _) ?_))))
      rw [drop_cons _ i (by simpa using hi), List.getElem_range, rd_get, rd_get, w64 (n := (i : Int) + 1) (by omega) (by omega)]
      have g := getS p i (by omega)
      have eb : isBad p q i = decide (q.getD p[i].f1.toNat 0 ≠ tuneAt p q i) := by unfold isBad; rw [g]
      by_cases hb : q.getD p[i].f1.toNat 0 = tuneAt p q i
      · rw [show wrongs p q (i :: (List.range m).drop (i + 1)) = wrongs p q ((List.range m).drop (i + 1)) by rw [wrongs_cons, eb, if_neg (by simp only [decide_eq_true_eq]; exact fun h => h hb)]]
        refine evp (by rw [hb]; unfold tuneAt; rw [g]) ?_
        exact ih acc (by omega)
      · rw [show wrongs p q (i :: (List.range m).drop (i + 1)) = (i : Int) :: wrongs p q ((List.range m).drop (i + 1)) by rw [wrongs_cons, eb, if_pos (by simp only [decide_eq_true_eq]; exact hb)]]
        refine evn (by unfold tuneAt at hb; rw [g] at hb; exact hb) (evp (by omega) ?_)
        have := ih (acc ++ [(i : Int)]) (by simp; omega)
        rw [List.append_assoc] at this
        exact this
  have := key 0 (Nat.zero_le _) [] (Nat.le_refl _)
  simpa using this
end Go.Proofs.Ytlhlmjklajdejaa.Q


namespace Go.Proofs.Ytlhlmjklajdejaa.Q
set_option linter.unusedVariables false
set_option linter.unusedSimpArgs false
open Go.RowKit Go.Proofs.Ytlhlmjklajdejaa.P Go.Proofs.YtlhlmjklajdejaaW.PrintWords Go.Proofs.YtlhlmjklajdejaaW.PrintMore
theorem copyPlan_eq (p : List S67) (hp : p.length ≤ 4000000) : impl_copyPlan.f p = some p := by
  unfold impl_copyPlan.f; simp only [Option.bind_some]; rw [if_pos (by simp; omega)]; simp
theorem l19Copy_eq (p : List S67) (hp : p.length ≤ 4000000) : spec_l19Copy.f p = some p := by
  unfold spec_l19Copy.f; simp only [Option.bind_some]; rw [if_pos (by simp; omega)]; simp
theorem l02Copy_eq (p : List Int) (hp : p.length ≤ 4000000) : spec_l02Copy.f p = some p := by
  unfold spec_l02Copy.f; simp only [Option.bind_some]; rw [if_pos (by simp; omega)]; simp
theorem copyWork_eq (p : List S67) (d : Int) (q : List Int) (hp : p.length ≤ 4000000) (hq : q.length ≤ 4000000) : impl_copyWork.f p d q = some (p, d, q) := by
  unfold impl_copyWork.f; rw [copyPlan_eq p hp]; simp only [Option.bind_some]; rw [if_pos (by simp; omega)]; simp
theorem l36Copy_eq (p : List S67) (d : Int) (q : List Int) (hp : p.length ≤ 4000000) (hq : q.length ≤ 4000000) : spec_l36Copy.f p d q = some (p, d, q) := by
  unfold spec_l36Copy.f; rw [l19Copy_eq p hp]; simp only [Option.bind_some]; rw [l02Copy_eq q hq]; rfl
end Go.Proofs.Ytlhlmjklajdejaa.Q


namespace Go.Proofs.Ytlhlmjklajdejaa.Q
set_option linter.unusedVariables false
set_option linter.unusedSimpArgs false
open Go.RowKit Go.Proofs.Ytlhlmjklajdejaa.P Go.Proofs.YtlhlmjklajdejaaW.PrintWords Go.Proofs.YtlhlmjklajdejaaW.PrintMore
def mendStep (p : List S67) (d : Int) (q : List Int) : List S67 × Int × List Int × Bool :=
  match wrongSteps p d q with
  | [] => (p, d, q, false)
  | i :: _ => if tuneAt p q i.toNat = 0 then (p, d, q, false) else (p, d, q.set (p.getD i.toNat z67).f1.toNat (tuneAt p q i.toNat), true)
theorem wrongSteps_head {p : List S67} {d : Int} {q : List Int} {i : Int} {r : List Int} (h : wrongSteps p d q = i :: r) : workOk p d q = true ∧ ∃ j : Nat, i = j ∧ (j : Int) < d ∧ j < p.length := by
  unfold wrongSteps at h
  by_cases hw : workOk p d q = true
  rotate_left
  · rw [if_neg hw] at h; exact absurd h (by simp)
  rw [if_pos hw] at h
  refine ⟨hw, ?_⟩
  have hi : i ∈ wrongs p q (List.range d.toNat) := by rw [h]; exact List.mem_cons_self
  unfold wrongs at hi
  obtain ⟨j, hj, rfl⟩ := List.mem_map.1 hi
  have hd := workOk_done hw
  have := List.mem_range.1 (List.mem_filter.1 hj).1
  exact ⟨j, rfl, by omega, by omega⟩
theorem mend_impl (p : List S67) (d : Int) (q : List Int) (hp : p.length ≤ 4000000) (hq : q.length ≤ 4000000) : Ev (fun n => impl_MendStep.f n p d q) (mendStep p d q) := by
  unfold impl_MendStep.f mendStep
  refine evb (copyWork_eq p d q hp hq) (Ev.bind (wrong_impl p d q) ?_)
  cases h : wrongSteps p d q with
  | nil => exact evp rfl (Ev.now _)
  | cons i r =>
    obtain ⟨hw, j, rfl, hj, hj2⟩ := wrongSteps_head h
    have hp := workOk_plan hw; have hq := workOk_len hw
    obtain ⟨k0, k1, k2, k3, k4⟩ := planOk_in hp p[j] (List.getElem_mem hj2)
    refine evn (by simp; omega) (evp (by simp) ?_)
    rw [show rd ((j : Int) :: r) 0 = (j : Int) from rfl]
    refine Ev.bind (tunedBy_ev p d q j hp hq hj2) ?_
    simp only [Int.toNat_natCast]
    by_cases hz : tuneAt p q j = 0
    · exact rpos hz <| evp hz (Ev.now _)
    refine rneg hz <| evn hz (evp (by omega) (evp (by omega) ?_))
    rw [rdS p j hj2, getS p j hj2]
    exact evp k2 (evp (by omega) (Ev.now _))
theorem mend_spec (p : List S67) (d : Int) (q : List Int) (hp : p.length ≤ 4000000) (hq : q.length ≤ 4000000) : Ev (fun n => spec_MendStep.f n p d q) (mendStep p d q) := by
  unfold spec_MendStep.f mendStep
  refine evb (l36Copy_eq p d q hp hq) (Ev.bind (wrong_spec p d q) ?_)
  cases h : wrongSteps p d q with
  | nil => exact evp rfl (Ev.now _)
  | cons i r =>
    obtain ⟨hw, j, rfl, hj, hj2⟩ := wrongSteps_head h
    have hp := workOk_plan hw; have hq := workOk_len hw
    obtain ⟨k0, k1, k2, k3, k4⟩ := planOk_in hp p[j] (List.getElem_mem hj2)
    refine evn (by simp; omega) (evp (by simp) ?_)
    rw [show rd ((j : Int) :: r) 0 = (j : Int) from rfl]
    refine evp (by omega) (evp (by omega) ?_)
    rw [rdS p j hj2]
    refine evp k0 (evp (by omega) (Ev.bind (tuned_spec _ _ _) ?_))
    rw [rd_get]
    have et : tunedPitch (q.getD p[j].f0.toNat 0) p[j].f2 p[j].f3 = tuneAt p q j := by unfold tuneAt; rw [getS p j hj2]
    simp only [Int.toNat_natCast]
    rw [et, getS p j hj2]
    by_cases hz : tuneAt p q j = 0
    · exact rpos hz <| evp hz (Ev.now _)
    exact rneg hz <| evn hz (evp k2 (evp (by omega) (Ev.now _)))
theorem mendStep_len (p : List S67) (d : Int) (q : List Int) : (mendStep p d q).1 = p ∧ (mendStep p d q).2.1 = d ∧ (mendStep p d q).2.2.1.length = q.length := by
  unfold mendStep; split
  · exact ⟨rfl, rfl, rfl⟩
  · split
    · exact ⟨rfl, rfl, rfl⟩
    · exact ⟨rfl, rfl, by simp⟩
end Go.Proofs.Ytlhlmjklajdejaa.Q


namespace Go.Proofs.Ytlhlmjklajdejaa.Q
set_option linter.unusedVariables false
set_option linter.unusedSimpArgs false
open Go.RowKit Go.Proofs.Ytlhlmjklajdejaa.P Go.Proofs.YtlhlmjklajdejaaW.PrintWords Go.Proofs.YtlhlmjklajdejaaW.PrintMore
def mendGo (p : List S67) (d : Int) : Nat → List Int → Int → List S67 × Int × List Int × Int
  | 0, q, n => (p, d, q, n)
  | m + 1, q, n => if (mendStep p d q).2.2.2 = true then mendGo p d m (mendStep p d q).2.2.1 (n + 1) else (p, d, q, n)
def mendAll (p : List S67) (d : Int) (q : List Int) : List S67 × Int × List Int × Int := mendGo p d 100 q 0
theorem mendGo_len (p : List S67) (d : Int) (m : Nat) (q : List Int) (n : Int) : (mendGo p d m q n).1 = p ∧ (mendGo p d m q n).2.1 = d ∧ (mendGo p d m q n).2.2.1.length = q.length := by
  induction m generalizing q n with
  | zero => exact ⟨rfl, rfl, rfl⟩
  | succ m ih =>
    unfold mendGo; split
    · obtain ⟨h1, h2, h3⟩ := ih (mendStep p d q).2.2.1 (n + 1)
      exact ⟨h1, h2, h3.trans (mendStep_len p d q).2.2⟩
    · exact ⟨rfl, rfl, rfl⟩
theorem mendAll_len (p : List S67) (d : Int) (q : List Int) : (mendAll p d q).1 = p ∧ (mendAll p d q).2.1 = d ∧ (mendAll p d q).2.2.1.length = q.length := mendGo_len p d 100 q 0
theorem mendAll_impl (p : List S67) (d : Int) (q : List Int) (hp : p.length ≤ 4000000) (hq : q.length ≤ 4000000) : Ev (fun n => impl_MendAll.f n p d q) (mendAll p d q) := by
  have key : ∀ i : Nat, i ≤ 100 → ∀ q : List Int, q.length ≤ 4000000 → Ev (fun n => impl_MendAll.l0 n (i : Int) p d q) (mendGo p d (100 - i) q (i : Int)) := by
    refine down (P := fun i => ∀ q : List Int, q.length ≤ 4000000 → Ev (fun n => impl_MendAll.l0 n (i : Int) p d q) (mendGo p d (100 - i) q (i : Int))) (n := 100) ?_ ?_
    · intro q hq
      refine Ev.step (fun n => by rw [impl_MendAll.l0]) ?_
      exact evn (by omega) (evs rfl)
    · intro i hi ih q hq
      obtain ⟨e1, e2, e3⟩ := mendStep_len p d q
      refine Ev.step (fun n => by rw [impl_MendAll.l0]) ?_
      refine evp (by omega) (Ev.bind (mend_impl p d q hp hq) ?_)
      obtain ⟨j, hj⟩ : ∃ j, 100 - i = j + 1 := ⟨100 - i - 1, by omega⟩
      rw [hj]
      show Ev _ (if (mendStep p d q).2.2.2 = true then mendGo p d j (mendStep p d q).2.2.1 ((i : Int) + 1) else (p, d, q, (i : Int)))
      by_cases h : (mendStep p d q).2.2.2 = true
      rotate_left
      · exact rneg h <| evn h (Ev.now _)
      refine rpos h <| evp h ?_
      have := ih (mendStep p d q).2.2.1 (by omega)
      rw [show 100 - (i + 1) = j by omega] at this
      rw [e1, e2, w64 (n := (i : Int) + 1) (by omega) (by omega)]
      exact this
  unfold impl_MendAll.f
  refine evb (copyWork_eq p d q hp hq) ?_
  exact key 0 (Nat.zero_le _) q hq
theorem mendAll_spec (p : List S67) (d : Int) (q : List Int) (hp : p.length ≤ 4000000) (hq : q.length ≤ 4000000) : Ev (fun n => spec_MendAll.f n p d q) (mendAll p d q) := by
  have key : ∀ i : Nat, i ≤ 100 → ∀ q : List Int, q.length ≤ 4000000 → Ev (fun n => spec_MendAll.l0 n (i : Int) p d q) (mendGo p d (100 - i) q (i : Int)) := by
    refine down (P := fun i => ∀ q : List Int, q.length ≤ 4000000 → Ev (fun n => spec_MendAll.l0 n (i : Int) p d q) (mendGo p d (100 - i) q (i : Int))) (n := 100) ?_ ?_
    · intro q hq
      refine Ev.step (fun n => by rw [spec_MendAll.l0]) ?_
      exact evn (by omega) (evs rfl)
    · intro i hi ih q hq
      obtain ⟨e1, e2, e3⟩ := mendStep_len p d q
      refine Ev.step (fun n => by rw [spec_MendAll.l0]) ?_
      refine evp (by omega) (Ev.bind (mend_spec p d q hp hq) ?_)
      obtain ⟨j, hj⟩ : ∃ j, 100 - i = j + 1 := ⟨100 - i - 1, by omega⟩
      rw [hj]
      show Ev _ (if (mendStep p d q).2.2.2 = true then mendGo p d j (mendStep p d q).2.2.1 ((i : Int) + 1) else (p, d, q, (i : Int)))
      by_cases h : (mendStep p d q).2.2.2 = true
      rotate_left
      · exact rneg h <| evn h (Ev.now _)
      refine rpos h <| evp h ?_
      have := ih (mendStep p d q).2.2.1 (by omega)
      rw [show 100 - (i + 1) = j by omega] at this
      rw [e1, e2, w64 (n := (i : Int) + 1) (by omega) (by omega)]
      exact this
  unfold spec_MendAll.f
  refine evb (l36Copy_eq p d q hp hq) ?_
  exact key 0 (Nat.zero_le _) q hq
end Go.Proofs.Ytlhlmjklajdejaa.Q


namespace Go.Proofs.Ytlhlmjklajdejaa.Q
set_option linter.unusedVariables false
set_option linter.unusedSimpArgs false
open Go.RowKit Go.Proofs.Ytlhlmjklajdejaa.P Go.Proofs.YtlhlmjklajdejaaW.PrintWords Go.Proofs.YtlhlmjklajdejaaW.PrintMore
theorem toIntS_ev (l : List Int) (hl : l.length ≤ 1048576) : Ev (fun k => laws_toIntS.f k l) l := by
  have key : ∀ i, i ≤ l.length → ∀ acc : List Int, acc.length = l.length → Ev (fun k => laws_toIntS.l0 k l acc (i : Int)) (acc.take i ++ l.drop i) := by
    refine down (n := l.length) ?_ ?_
    · intro acc ha
      refine Ev.step (fun k => by rw [laws_toIntS.l0]) (evn (by omega) (evs ?_))
      rw [drop_end, List.append_nil, List.take_of_length_le (by omega)]
    · intro i hi ih acc ha
      refine Ev.step (fun k => by rw [laws_toIntS.l0]) (evp (by omega) (evp (by omega) (evp (by omega) ?_)))
      rw [w64 (by omega) (by omega), rd_nat l i hi, Int.toNat_natCast]
      have := ih (acc.set i l[i]) (by simpa using ha)
      rw [set_take _ _ _ (by omega), List.append_assoc] at this
      rw [drop_cons l i hi]
      exact this
  have := key 0 (Nat.zero_le _) (List.replicate l.length 0) (by simp)
  unfold laws_toIntS.f
  refine evp (by omega) (evp (by omega) ?_)
  simpa using this
theorem eqIntS_ev (l : List Int) (hl : l.length ≤ 9000000000000000000) : Ev (fun k => laws_eqIntS.f k l l) true := by
  have key : ∀ i, i ≤ l.length → Ev (fun k => laws_eqIntS.l0 k l l (i : Int)) true := by
    refine down (n := l.length) ?_ ?_
    · exact Ev.step (fun k => by rw [laws_eqIntS.l0]) (evn (by omega) (evs rfl))
    · intro i hi ih
      refine Ev.step (fun k => by rw [laws_eqIntS.l0]) (evp (by omega) (evp (by omega) (evp (by omega) (evp rfl ?_))))
      rw [w64 (by omega) (by omega)]
      exact ih
  unfold laws_eqIntS.f
  exact evp rfl (key 0 (Nat.zero_le _))
def runs (k : Int) (n : Nat) : List Int := (List.range n).map (fun (j : Nat) => k + j)
theorem runs_len (k : Int) (n : Nat) : (runs k n).length = n := by simp [runs]
theorem markIntS_ev (l : List Int) (m : Int) (h0 : 0 ≤ m) (hm : m + l.length ≤ 4000000000000000000) : Ev (fun k => laws_markIntS.f k l m) (m + l.length, runs m l.length) := by
  have key : ∀ i, i ≤ l.length → ∀ acc : List Int, acc.length = l.length → acc.take i = runs m i → Ev (fun k => laws_markIntS.l0 k acc (m + i) (i : Int)) (m + l.length, runs m l.length) := by
    refine down (n := l.length) ?_ ?_
    · intro acc ha ht
      refine Ev.step (fun k => by rw [laws_markIntS.l0]) (evn (by omega) (evs ?_))
      rw [← ht, List.take_of_length_le (by omega)]
    · intro i hi ih acc ha ht
      refine Ev.step (fun k => by rw [laws_markIntS.l0]) (evp (by omega) (evp (by omega) ?_))
      rw [w64 (by omega) (by omega), w64 (by omega) (by omega), Int.toNat_natCast]
      have := ih (acc.set i (m + i)) (by simpa using ha) (by
        rw [set_take _ _ _ (by omega), ht]
        simp [runs, List.range_succ])
      rw [Int.add_assoc]
      exact this
  have := key 0 (Nat.zero_le _) l rfl (by simp [runs])
  unfold laws_markIntS.f
  simpa using this
theorem heldIntS_ev (n : Nat) (m : Int) (h0 : 0 ≤ m) (hm : m + n ≤ 4000000000000000000) : Ev (fun k => laws_heldIntS.f k (runs m n) m) (m + n) := by
  have key : ∀ i, i ≤ n → Ev (fun k => laws_heldIntS.l0 k (runs m n) (m + i) (i : Int)) (m + n) := by
    refine down (n := n) ?_ ?_
    · exact Ev.step (fun k => by rw [laws_heldIntS.l0]) (evn (by rw [runs_len]; omega) (evs rfl))
    · intro i hi ih
      refine Ev.step (fun k => by rw [laws_heldIntS.l0]) (evp (by rw [runs_len]; omega) (evp (by omega) (evp ?_ ?_)))
      · rw [rd_nat _ _ (by rw [runs_len]; exact hi)]; simp [runs]
      · rw [w64 (by omega) (by omega), w64 (by omega) (by omega), Int.add_assoc]
        exact ih
  have := key 0 (Nat.zero_le _)
  unfold laws_heldIntS.f
  simpa using this
end Go.Proofs.Ytlhlmjklajdejaa.Q


namespace Go.Proofs.Ytlhlmjklajdejaa.Q
set_option linter.unusedVariables false
set_option linter.unusedSimpArgs false
open Go.RowKit Go.Proofs.Ytlhlmjklajdejaa.P Go.Proofs.YtlhlmjklajdejaaW.PrintWords Go.Proofs.YtlhlmjklajdejaaW.PrintMore
theorem szIntS_eq (l : List Int) (m : Int) (h0 : 0 ≤ m) (hm : m ≤ 1048576) (hl : l.length ≤ 9223372036854775807) : laws_szIntS.f l m = some (if m < l.length then -1 else m - l.length) := by
  unfold laws_szIntS.f
  rw [w64 (by omega) (by omega)]
  by_cases h : m < l.length
  · rw [if_pos (by omega), if_pos h]
  · rw [if_neg (by omega), if_neg h]
theorem szWork_eq (p : List S70) (d : Int) (q : List Int) (m : Int) (h0 : 0 ≤ m) (hm : m ≤ 1048576) (hp : p.length ≤ 9223372036854775807) (hq : q.length ≤ 9223372036854775807) :
    laws_szWork.f p d q m = some (if m < p.length + q.length then -1 else m - p.length - q.length) := by
  unfold laws_szWork.f
  rw [szStepS_eq p m h0 hm hp, Option.bind_some]
  by_cases h : m < p.length
  · rw [if_pos h, if_pos (by omega), if_pos (by omega)]
  rw [if_neg h, if_neg (by omega), szIntS_eq q _ (by omega) (by omega) hq, Option.bind_some]
  by_cases h2 : m - p.length < q.length
  · rw [if_pos h2, if_pos (by omega), if_pos (by omega)]
  · rw [if_neg h2, if_neg (by omega), if_neg (by omega)]
theorem toWork_ev (p : List S70) (d : Int) (q : List Int) (hp : p.length ≤ 1048576) (hq : q.length ≤ 1048576) : Ev (fun k => laws_toWork.f k p d q) (p.map cStep, d, q) := by
  unfold laws_toWork.f
  exact Ev.bind (toStepS_ev p hp) (Ev.bind (toIntS_ev q hq) (Ev.now _))
theorem eqWork_ev (p : List S67) (d : Int) (q : List Int) (hp : p.length ≤ 9000000000000000000) (hq : q.length ≤ 9000000000000000000) : Ev (fun k => laws_eqWork.f k p d q p d q) true := by
  unfold laws_eqWork.f
  exact Ev.bind (eqStepS_ev p hp) (evp rfl (evp rfl (Ev.bind (eqIntS_ev q hq) (evp rfl (Ev.now _)))))
end Go.Proofs.Ytlhlmjklajdejaa.Q


namespace Go.Proofs.Ytlhlmjklajdejaa.Q
set_option linter.unusedVariables false
set_option linter.unusedSimpArgs false
open Go.RowKit Go.Proofs.Ytlhlmjklajdejaa.P Go.Proofs.YtlhlmjklajdejaaW.PrintWords Go.Proofs.YtlhlmjklajdejaaW.PrintMore
theorem markWork_ev (p : List S67) (d : Int) (q : List Int) (m : Int) (h0 : 0 ≤ m) (hm : m + 4 * p.length + q.length ≤ 4000000000000000000) :
    Ev (fun k => laws_markWork.f k p d q m) (m + 4 * p.length + q.length, runsS m p.length, runs (m + 4 * p.length) q.length) := by
  unfold laws_markWork.f
  exact Ev.bind (markStepS_ev p m h0 (by omega)) (Ev.bind (markIntS_ev q _ (by omega) (by omega)) (Ev.now _))
theorem heldWork_ev (n : Nat) (d : Int) (j : Nat) (m : Int) (h0 : 0 ≤ m) (hm : m + 4 * n + j ≤ 4000000000000000000) :
    Ev (fun k => laws_heldWork.f k (runsS m n) d (runs (m + 4 * n) j) m) (m + 4 * n + j) := by
  unfold laws_heldWork.f
  exact Ev.bind (heldStepS_ev n m h0 (by omega)) (evn (by omega) (Ev.bind (heldIntS_ev j _ (by omega) (by omega)) (evn (by omega) (Ev.now _))))
end Go.Proofs.Ytlhlmjklajdejaa.Q


namespace Go.Proofs.Ytlhlmjklajdejaa.Q
set_option linter.unusedVariables false
set_option linter.unusedSimpArgs false
open Go.RowKit Go.Deep Go.ChangeShapes Go.WideShapes Go.Proofs.YtlhlmjklajdejaaW.PrintWords
def Opens {α : Type} (P : Program) (w : World) (d : Kd α) (T : TypeId) (G : α → Prop) : Prop :=
  ∀ (H : Type) (enc : TypeId × Value → H) (base : Nat) (spare : Nat → Bool) (held : Bool) (fuel : Nat) (cs : List Value) (x : DataW H × List MemPlace),
    DataW.trod enc P w base spare held fuel T cs = some x → ∃ v, d.K w v cs ∧ G v
def OpensFs {α : Type} (P : Program) (w : World) (d : Kd α) (off : Nat) (fs : Array Field) (i : Nat) (G : α → Prop) : Prop :=
  ∀ (H : Type) (enc : TypeId × Value → H) (base : Nat) (spare : Nat → Bool) (held : Bool) (fuel : Nat) (cs : List Value), cs.length = off + d.sz →
    (∀ j f, i ≤ j → fs[j]? = some f → ∃ y : DataW H × List MemPlace, DataW.trod enc P w base spare held fuel f.type ((cs.drop f.offset).take (P.cellsOf f.type)) = some y) → ∃ v, d.K w v (cs.drop off) ∧ G v
section
variable {P : Program} {w : World}
theorem Opens.int {k : IntKind} {T : TypeId} (ht : P.underlying T = some (.int k)) : Opens P w (Kd.int k) T (fun n => (Lit.int k n).wf = true) := by
  intro H enc base spare held fuel cs x hx
  obtain ⟨n, rfl, _, hw⟩ := DataW.trod_int ht hx
  exact ⟨n, rfl, hw⟩
theorem Opens.slice {α : Type} (z : α) {d : Kd α} {E T : TypeId} {G : α → Prop} (ht : P.underlying T = some (.slice E)) (hC : P.cellsOf E = d.sz) (h : Opens P w d E G) :
    Opens P w (Kd.slice E d) T (fun l => l.length ≤ 9223372036854775807 ∧ ∀ x ∈ l, G x) := by
  haveI : Inhabited α := ⟨z⟩
  intro H enc base spare held fuel cs x hx
  rcases open_slice ht hx with ⟨rfl, _⟩ | ⟨a, len, cap, m, n, D, Pl, rfl, hb, hl, hm, hmm, _, hi⟩
  · exact ⟨[], ⟨none, 0, rfl, Nat.le_refl _, rfl, by simp, fun h => absurd h (by simp)⟩, by simp, by simp⟩
  · have hlm : len ≤ m := by rw [hmm]; split <;> omega
    obtain ⟨V, hV⟩ := choose_lt (α := α) (n := len) (p := fun i v => G v ∧ ∃ c, c.length = d.sz ∧ d.K w v c ∧ ∀ j u, c[j]? = some u → w.cell? (a.add (i * d.sz + j)) = some u) (fun i hil => by
      obtain ⟨cs', h1, h2⟩ := hi i (by omega)
      obtain ⟨v, hv, g⟩ := h H enc base spare held n cs' _ h2
      obtain ⟨_, hcl, hat⟩ := World.cells?_some h1
      refine ⟨v, g, cs', by rw [hcl, hC], hv, fun j u hu => ?_⟩
      have hj : j < P.cellsOf E := by rw [← hcl]; exact (List.getElem?_eq_some_iff.1 hu).1
      have := hat j hj
      rw [hC, Go.Deep.add_add] at this
      rw [this, hu])
    refine ⟨(List.range len).map V, ⟨some a, cap, by simp, by simpa using hl, by simp, by have := hm; unfold maxLen at this; simp; omega, fun _ => ⟨a, rfl, fun j p hj => ?_⟩⟩, ?_⟩
    · have hj' : j < len := by have := (List.getElem?_eq_some_iff.1 hj).1; simpa using this
      obtain rfl : V j = p := by simpa [hj'] using hj
      exact (hV j hj').2
    · refine ⟨by have := hm; unfold maxLen at this; simp; omega, fun x hx => ?_⟩
      obtain ⟨i, hi, rfl⟩ := List.mem_map.1 hx
      exact (hV i (List.mem_range.1 hi)).1
theorem OpensFs.one {α : Type} {d : Kd α} {off i : Nat} {fs : Array Field} {f : Field} {G : α → Prop} (hf : fs[i]? = some f) (h : Opens P w d f.type G) (ho : f.offset = off) (hc : P.cellsOf f.type = d.sz) : OpensFs P w d off fs i G := by
  intro H enc base spare held fuel cs hlen hfs
  obtain ⟨y, hy⟩ := hfs i f (Nat.le_refl _) hf
  rw [ho, hc, List.take_of_length_le (by simp [hlen])] at hy
  exact h H enc base spare held fuel _ _ hy
theorem OpensFs.more {α β : Type} {d : Kd α} {d2 : Kd β} {off i : Nat} {fs : Array Field} {f : Field} {G : α → Prop} {G2 : β → Prop} (hf : fs[i]? = some f) (h : Opens P w d f.type G) (ho : f.offset = off) (hc : P.cellsOf f.type = d.sz)
    (h2 : OpensFs P w d2 (off + d.sz) fs (i + 1) G2) : OpensFs P w (Kd.pair d d2) off fs i (fun x => G x.1 ∧ G2 x.2) := by
  intro H enc base spare held fuel cs hlen hfs
  have hlen' : cs.length = off + (d.sz + d2.sz) := hlen
  obtain ⟨y, hy⟩ := hfs i f (Nat.le_refl _) hf
  rw [ho, hc] at hy
  obtain ⟨v, hv, g⟩ := h H enc base spare held fuel _ _ hy
  obtain ⟨v2, hv2, g2⟩ := h2 H enc base spare held fuel cs (by omega) (fun j f' hj hf' => hfs j f' (by omega) hf')
  refine ⟨(v, v2), ⟨_, _, ?_, hv, hv2⟩, g, g2⟩
  rw [← List.drop_drop, List.take_append_drop]
theorem Opens.pairs {α : Type} {d : Kd α} {T : TypeId} {fs : Array Field} {G : α → Prop} (ht : P.underlying T = some (.struct fs)) (hC : P.cellsOf T = d.sz) (h : OpensFs P w d 0 fs 0 G) : Opens P w d T G := by
  intro H enc base spare held fuel cs x hx
  obtain ⟨xs, n, _, _, hlen, hxl, hat⟩ := DataW.trod_struct ht hx
  exact h H enc base spare held n cs (by rw [hlen, hC, Nat.zero_add]) (fun j f' _ hf' => by
    have hi' : j < fs.size := (Array.getElem?_eq_some_iff.1 hf').1
    have e := hat j f' hf'
    rw [List.getElem?_eq_getElem (by omega)] at e
    exact ⟨_, e⟩)
theorem Opens.struct {α β : Type} {d : Kd α} {T : TypeId} {fs : Array Field} {f : β → α} {G0 : α → Prop} {G : β → Prop} (g : α → β) (ht : P.underlying T = some (.struct fs)) (hC : P.cellsOf T = d.sz) (hfg : ∀ x, f (g x) = x)
    (h : OpensFs P w d 0 fs 0 G0) (hg : ∀ x, G0 x → G (g x)) : Opens P w (Kd.iso d f) T G := by
  intro H enc base spare held fuel cs x hx
  obtain ⟨v, hv, g0⟩ := Opens.pairs ht hC h H enc base spare held fuel cs x hx
  refine ⟨g v, ?_, hg v g0⟩
  show d.K w (f (g v)) cs
  rw [hfg]
  exact hv
end
end Go.Proofs.Ytlhlmjklajdejaa.Q


namespace Go.Proofs.Ytlhlmjklajdejaa.Q
open Go.RowKit Go.Proofs.Ytlhlmjklajdejaa.P Go.Proofs.YtlhlmjklajdejaaW.PrintWords
def good70 (x : S70) : Prop := ((Lit.int .i64 x.f0).wf = true ∧ (Lit.int .i64 x.f1).wf = true ∧ (Lit.int .i64 x.f2).wf = true ∧ (Lit.int .i64 x.f3).wf = true)
theorem op70 {w : World} : Opens Try.prog w k70 70 good70 := (Opens.struct (fun x => (⟨x.1, x.2.1, x.2.2.1, x.2.2.2⟩ : S70)) (G := good70) Try.underlying70 (by kernel_rfl) (fun _ => rfl) (OpensFs.more rfl (Opens.int Try.underlying3) rfl (by kernel_rfl) (OpensFs.more rfl (Opens.int Try.underlying3) rfl (by kernel_rfl) (OpensFs.more rfl (Opens.int Try.underlying3) rfl (by kernel_rfl) (OpensFs.one rfl (Opens.int Try.underlying3) rfl (by kernel_rfl))))) (fun _ h => h))
def good3 (x : Int) : Prop := (Lit.int .i64 x).wf = true
theorem op3 {w : World} : Opens Try.prog w (Kd.int .i64) 3 good3 := (Opens.int Try.underlying3)
end Go.Proofs.Ytlhlmjklajdejaa.Q


namespace Go.Proofs.Ytlhlmjklajdejaa.Pure
set_option linter.unusedVariables false
set_option linter.unusedSimpArgs false
open Go.RowKit Go.Proofs.Ytlhlmjklajdejaa.P Go.Proofs.Ytlhlmjklajdejaa.Q Go.Proofs.YtlhlmjklajdejaaW.PrintWords Go.Proofs.YtlhlmjklajdejaaW.PrintLast
theorem FnExactMendAll (p : List S70) (d : Int) (q : List Int)  (h0 : (p.length ≤ 9223372036854775807 ∧ ∀ y ∈ p, good70 y) ∧ (Lit.int .i64 d).wf = true ∧ (q.length ≤ 9223372036854775807 ∧ ∀ y ∈ q, good3 y))  : ∃ k, laws_FnExactMendAll.f k p d q = some true := by
  refine Ev.rounds ?_
  unfold laws_FnExactMendAll.f
  refine evb (szWork_eq p d q 1048576 (by omega) (by omega) h0.1.1 h0.2.2.1) ?_
  by_cases h : (1048576 : Int) < p.length + q.length
  · rw [if_pos h]; exact evp (by omega) (Ev.now _)
  rw [if_neg h]
  refine evn (by omega) ?_
  have lp : (p.map cStep).length ≤ 1048576 := by simp; omega
  have T := toWork_ev p d q (by omega) (by omega)
  have E := eqWork_ev (p.map cStep) d q (by omega) (by omega)
  have M := markWork_ev (p.map cStep) d q 1 (by omega) (by omega)
  obtain ⟨R, hR⟩ : ∃ R, mendAll (p.map cStep) d q = R := ⟨_, rfl⟩
  have A := mendAll_spec (p.map cStep) d q (by omega) (by omega)
  have B := mendAll_impl (p.map cStep) d q (by omega) (by omega)
  rw [hR] at A B
  have L := mendAll_len (p.map cStep) d q
  rw [hR] at L
  have L1 : R.1.length ≤ 1048576 := by rw [L.1]; exact lp
  have L2 : R.2.2.1.length ≤ 1048576 := by rw [L.2.2]; omega
  have F := eqWork_ev R.1 R.2.1 R.2.2.1 (by omega) (by omega)
  have G := markWork_ev R.1 R.2.1 R.2.2.1 1 (by omega) (by omega)
  have H := heldWork_ev R.1.length R.2.1 R.2.2.1.length 1 (by omega) (by omega)
  repeat' first
    | exact Ev.now _
    | refine Ev.bind T ?_
    | refine Ev.bind E ?_
    | refine Ev.bind M ?_
    | refine Ev.bind A ?_
    | refine Ev.bind B ?_
    | refine Ev.bind F ?_
    | refine Ev.bind G ?_
    | refine Ev.bind H ?_
    | refine evp rfl ?_
    | refine evn (by first | decide | (dsimp only; omega) | simp) ?_
    | refine Ev.step (fun k => by rw [laws_FnExactMendAll.j0]) ?_
    | refine Ev.step (fun k => by rw [laws_FnExactMendAll.j1]) ?_
    | refine Ev.step (fun k => by rw [laws_FnExactMendAll.j2]) ?_
end Go.Proofs.Ytlhlmjklajdejaa.Pure


namespace Go.Proofs.Ytlhlmjklajdejaa.fnExactMendAll
open Go.ChangeShapes Go.WideShapes Go.ChangeAt Go.RowKit Go.Proofs.Ytlhlmjklajdejaa.P Go.Proofs.Ytlhlmjklajdejaa.Q Go.Proofs.YtlhlmjklajdejaaW.PrintWords
open Go.ChangeMaps (open_string shut_string)
set_option linter.unusedVariables false
set_option linter.unusedSimpArgs false
theorem own : ownKnob Try.prog.godebug = none := by kernel_rfl
theorem laidOut : laidOutB Try.prog = true := by kernel_rfl
set_option maxRecDepth 100000 in
theorem lifted (os : Os) (started : os.Started) (H : Type) (enc : TypeId × Value → H) :
    ReturnsInHanded {} Try.checked os 12 .any (Rows.fnExactMendAllSpec.pre6 enc Try.prog Try.f12 Rows.fnExactMendAllRow.domain false) (Rows.fnExactMendAllSpec.post enc Try.prog Try.f12 false true false false) := by
  refine returnsInHanded_of_change_sized (C := Try.checked) own started (by kernel_rfl) Try.func12
    (ChangeSpec.witness6 (enc := enc) (C := Try.checked) false ⟨#[], #[.agg #[.slice none 0 0, .int .i64 0, .slice none 0 0]], []⟩ 8 (by kernel_rfl) (by kernel_rfl) (by kernel_rfl) (by kernel_rfl)) ?_
  intro W base args ds gs before hval0 hW hcnd hsz0 _
  have hval : ∀ (j : Nat) t v, Try.f12.params[j]? = some t → args[j]? = some v → Value.okWide Try.prog W .any base t v := hval0
  have hW' := hW
  obtain ⟨p, q, hA0, hV, rfl, hfz, hnd⟩ := hW
  have hA : DataW.TrodAll enc Try.prog W 0 (fun _ => true) true Try.f12.params.toList args.toList ds p := hA0
  rw [Try.params12] at hA hval
  obtain ⟨v0, vs0, d0, ds0, p0, q0, hargs, rfl, rfl, h0, r0⟩ := trodAll_cons hA
  obtain ⟨rfl, rfl, rfl⟩ := trodAll_nil r0
  obtain rfl : args = #[v0] := by cases args; simp_all
  obtain ⟨rfl, rfl⟩ := trodVars_none hV
  have k0 := h0
  have lt0 : ∀ x ∈ p0, x.block < W.heap.size := by obtain ⟨m, hm⟩ := k0; exact DataW.trod_lt m _ _ _ hm
  obtain ⟨fuel0, f0⟩ := h0
  obtain ⟨x0, K0, G0⟩ := (show Opens Try.prog W (Kd.pair (Kd.slice 70 k70) (Kd.pair (Kd.int .i64) (Kd.slice 3 (Kd.int .i64)))) 25 _ from Opens.pairs Try.underlying25 (by kernel_rfl) (OpensFs.more rfl (Opens.slice z70 Try.underlying22 (by kernel_rfl) op70) rfl (by kernel_rfl) (OpensFs.more rfl (Opens.int Try.underlying3) rfl (by kernel_rfl) (OpensFs.one rfl (Opens.slice 0 Try.underlying23 (by kernel_rfl) op3) rfl (by kernel_rfl))))) H enc 0 _ _ fuel0 _ _ f0
  obtain ⟨cs0, rfl, _⟩ := okWide_struct Try.underlying25 (hval 0 25 v0 rfl rfl)
  obtain ⟨_, _, e0, ⟨A0_0, c0_0, rfl, hc0_0, hr0_0⟩, ⟨_, _, rfl, rfl, ⟨A0_1, c0_1, rfl, hc0_1, hr0_1⟩⟩⟩ := K0
  obtain rfl : cs0 = #[.slice A0_0 x0.1.length c0_0, .int .i64 x0.2.1, .slice A0_1 x0.2.2.length c0_1] := Array.ext' e0
  obtain ⟨k, hP⟩ := Pure.FnExactMendAll x0.1 x0.2.1 x0.2.2 G0
  refine (P.laws_FnExactMendAll.calls k _ _ x0.1 x0.2.1 _ _ x0.2.2 true W hr0_0 hc0_0 hr0_1 hc0_1 hP ⟨rfl⟩).mono fun e W' ⟨he, bel0⟩ => ?_
  have bel : Below W.heap.size W W' := bel0
  subst he
  exact ⟨_, rfl, _, _, _, [], _, [], hW', trodAll_mk1 (shut_bool Try.underlying4 _), (trodAll_cons_mk (Below.trod laidOut (by kernel_rfl) (of_decide_eq_true (by kernel_rfl)) k0 bel lt0) trodAll_mk0), rfl, bel.frame _, fun h => by cases h⟩
theorem over : Rows.fnExactMendAllRow.holds Try.pinned (OpenSpec.ofChange Rows.fnExactMendAllSpec) :=
  OpenClaim.holds_of_wide 12 Try.f12 rfl rfl rfl rfl rfl rfl rfl ⟨rfl, rfl, rfl, rfl, rfl⟩ rfl rfl rfl rfl rfl (by kernel_rfl) Try.func12 (by kernel_rfl)
    (of_decide_eq_true (by kernel_rfl)) (by unfold Func.isWrapper; first | (rw [if_pos (by decide +kernel)]; kernel_rfl) | (rw [if_neg (by decide +kernel)]; exact ⟨rfl, rfl⟩))
    (fun os started H enc _ => lifted os started H enc)
theorem proved : Rows.FnExactMendAllSaid := over
#print axioms proved
end Go.Proofs.Ytlhlmjklajdejaa.fnExactMendAll
namespace Go.Proofs.Ytlhlmjklajdejaa
theorem fnExactMendAll_holds : Rows.FnExactMendAllSaid := fnExactMendAll.proved
end Go.Proofs.Ytlhlmjklajdejaa

