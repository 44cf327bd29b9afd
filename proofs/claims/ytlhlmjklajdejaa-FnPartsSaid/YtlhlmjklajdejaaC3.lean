/- What functions of the program come to (f), that their calls come to just this (calls), and the plain laws over lists and numbers, and the law FnParts: for every argument it answers true. No condition but those of the given row. -/
import Derived.Test.YtlhlmjklajdejaaRows
import Derived.Test.YtlhlmjklajdejaaC2
import Derived.WalkKit
import Derived.ProofKit
import Derived.OpenShut
import Derived.ShutString
import Derived.ChangeOld
import Derived.Below
import Derived.SizedLaws
namespace Go.Proofs.Ytlhlmjklajdejaa.P
open Go.RowKit Go.Proofs.YtlhlmjklajdejaaW.PrintWords Go.Proofs.YtlhlmjklajdejaaW.PrintLast Go.Proofs.YtlhlmjklajdejaaW.PrintMore
attribute [local go_sem] max2_int min2_int max_two min_two max_three min_three max_four min_four
set_option linter.unusedVariables false
set_option linter.unusedSimpArgs false
def laws_FnParts.j0 : Nat → List Int → List (S67) → List Int → Bool → List (S67) → Int → List Int → Option (Bool)
  | 0, _, _, _, _, _, _, _ => none
  | k + 1, x0, x4, x7, x42, x1153000, x1153001, x1153002 => if x42 = true then (some false) else ((laws_at.f x0 0).bind fun t1158 => ((impl_WorkSteps.f k x1153000 x1153001 x1153002 (Int.tmod t1158 13)).bind fun bt1159 => ((impl_WorkSteps.f k bt1159.1 bt1159.2.1 bt1159.2.2 100).bind fun bt1167 => ((impl_WorkSteps.f k x1153000 x1153001 x1153002 100).bind fun bt1175 => (if bt1159.2.1 = (mn (Int.tmod t1158 13) (x4.length : Int)) then ((impl_IsFinished.f bt1167.1 bt1167.2.1 bt1167.2.2).bind fun t1183 => (if t1183 = true then ((laws_sameInts.f k bt1167.2.2 x7).bind fun t1184 => (if t1184 = true then ((laws_sameInts.f k bt1175.2.2 x7).bind fun t1185 => (if t1185 = true then ((impl_WorkOk.f bt1159.1 bt1159.2.1 bt1159.2.2).bind fun t1186 => (some t1186)) else (some false))) else (some false))) else (some false))) else (some false))))))
def laws_FnParts.f (k : Nat) (l0 : List Int) : Option (Bool) := (laws_big.f l0).bind fun t1139 => (if t1139 = true then (some true) else ((spec_DrawPlan.f k l0).bind fun bt1140 => ((impl_NewWork.f k bt1140.1 bt1140.2).bind fun bt1144 => ((impl_RunPlan.f k bt1140.1 bt1140.2).bind fun bt1153 => (if bt1144.2.2.2 = true then (if bt1153.2 = true then ((impl_WorkOk.f bt1144.1 bt1144.2.1 bt1144.2.2.1).bind fun t1157 => (laws_FnParts.j0 k l0 bt1140.2 bt1153.1 (!t1157) bt1144.1 bt1144.2.1 bt1144.2.2.1)) else (laws_FnParts.j0 k l0 bt1140.2 bt1153.1 true bt1144.1 bt1144.2.1 bt1144.2.2.1)) else (laws_FnParts.j0 k l0 bt1140.2 bt1153.1 true bt1144.1 bt1144.2.1 bt1144.2.2.1))))))
set_option maxHeartbeats 8000000 in
set_option maxRecDepth 100000 in
theorem laws_FnParts.calls (k : Nat) (A0 : Option Addr) (c0 : Nat) (l0 : List Int) (r : Bool) (w : World) (hr0 : Kd.C (Kd.int .u8) w A0 l0.length l0) (hc0 : l0.length ≤ c0) (h : laws_FnParts.f k l0 = some r) (hrt_ : Aside0 (r = true)) :
    Calls Try.prog 13 #[.slice A0 l0.length c0] w fun e w' => e = .returned (.bool r) ∧ Below w.heap.size w w' := by
  have hu30 := Try.underlying30
  have HR0 := Aside0.mk hr0
  have HC0 := Aside0.mk hc0
  clear hr0 hc0
  have HB := Aside0.mk (Below.refl w.heap.size w)
  have H : ((laws_big.f l0).bind fun t1139 => (if t1139 = true then (some true) else ((spec_DrawPlan.f k l0).bind fun bt1140 => ((impl_NewWork.f k bt1140.1 bt1140.2).bind fun bt1144 => ((impl_RunPlan.f k bt1140.1 bt1140.2).bind fun bt1153 => (if bt1144.2.2.2 = true then (if bt1153.2 = true then ((impl_WorkOk.f bt1144.1 bt1144.2.1 bt1144.2.2.1).bind fun t1157 => (laws_FnParts.j0 k l0 bt1140.2 bt1153.1 (!t1157) bt1144.1 bt1144.2.1 bt1144.2.2.1)) else (laws_FnParts.j0 k l0 bt1140.2 bt1153.1 true bt1144.1 bt1144.2.1 bt1144.2.2.1)) else (laws_FnParts.j0 k l0 bt1140.2 bt1153.1 true bt1144.1 bt1144.2.1 bt1144.2.2.1))))))) = some r := h
  clear h
  replace H := Option.bind_eq_some_iff.mp H
  obtain ⟨t1139, A20, H⟩ := H
  (try dsimp only at H)
  have A2 := Aside0.mk A20
  clear A20
  by_cases c3 : t1139 = true
  · subst c3
    rw [if_pos rfl] at H
    obtain rfl := Option.some.inj H
    go_enter Try.func13, Try.ntmps13
    go_wp2_with (first | ((with_reducible refine gate_callee (f := 47) rfl ?_); refine goesL_ (some 14) rfl rfl Try.func47 (by kernel_rfl) rfl #[.slice A0 l0.length c0] rfl (by (try simp only [List.map_toArray, List.map_cons, List.map_nil]); first | done | rfl | (simp only [List.length_drop, List.length_take]; rfl)) ?_; (with_reducible refine (laws_big.calls _ _ l0 true _ ?side1 ?side2 A2.out).mono ?_); (case side1 => repeat (first | exact HR0.out | (with_reducible refine Kd.C_alloc ?_ _) | (with_reducible refine Kd.C_drewN ?_ _) | (with_reducible refine Kd.C_drew ?_))); (case side2 => exact HC0.out); rintro e w' ⟨rfl, ⟨nd, rfl⟩⟩; refine ⟨_, rfl, ?_⟩))
    go_ret
    exact ⟨by first | rfl | (simp [errW_none, errW_some] <;> rfl) | (simp [*, errW_none, errW_some] <;> rfl), oB HB⟩
  · replace c3 := Bool.eq_false_iff.mpr c3
    subst c3
    rw [if_neg (show ¬ (false = true) by decide)] at H
    replace H := Option.bind_eq_some_iff.mp H
    obtain ⟨⟨t1140, t1141⟩, A40, H⟩ := H
    (try dsimp only at H)
    have A4 := Aside0.mk A40
    clear A40
    replace H := Option.bind_eq_some_iff.mp H
    obtain ⟨⟨t1144, t1147, t1148, t1151⟩, A50, H⟩ := H
    (try dsimp only at H)
    have A5 := Aside0.mk A50
    clear A50
    replace H := Option.bind_eq_some_iff.mp H
    obtain ⟨⟨t1153, t1154⟩, A60, H⟩ := H
    (try dsimp only at H)
    have A6 := Aside0.mk A60
    clear A60
    have HC7 := Aside0.mk H
    clear H
    go_enter Try.func13, Try.ntmps13
    go_upto_region 6 with (first | ((with_reducible refine gate_callee (f := 47) rfl ?_); refine goesL_ (some 14) rfl rfl Try.func47 (by kernel_rfl) rfl #[.slice A0 l0.length c0] rfl (by (try simp only [List.map_toArray, List.map_cons, List.map_nil]); first | done | rfl | (simp only [List.length_drop, List.length_take]; rfl)) ?_; (with_reducible refine (laws_big.calls _ _ l0 false _ ?side1 ?side2 A2.out).mono ?_); (case side1 => repeat (first | exact HR0.out | (with_reducible refine Kd.C_alloc ?_ _) | (with_reducible refine Kd.C_drewN ?_ _) | (with_reducible refine Kd.C_drew ?_))); (case side2 => exact HC0.out); rintro e w' ⟨rfl, ⟨nd, rfl⟩⟩; refine ⟨_, rfl, ?_⟩) | ((with_reducible refine gate_callee (f := 48) rfl ?_); refine goesL_ (some 17) rfl rfl Try.func48 (by kernel_rfl) rfl #[.slice A0 l0.length c0] rfl (by (try simp only [List.map_toArray, List.map_cons, List.map_nil]); first | done | rfl | (simp only [List.length_drop, List.length_take]; rfl)) ?_; (with_reducible refine (spec_DrawPlan.calls k _ _ l0 t1140 t1141 _ ?side1 ?side2 A4.out).mono ?_); (case side1 => repeat (first | exact HR0.out | (with_reducible refine Kd.C_alloc ?_ _) | (with_reducible refine Kd.C_drewN ?_ _) | (with_reducible refine Kd.C_drew ?_))); (case side2 => exact HC0.out); rintro e w8 ⟨v1142, rfl, ho0, hb⟩; refine ⟨_, rfl, ?_⟩; have n0_ := Aside0.mk (Kd.R_lower ho0 (below_size (oB HB))); have n1_ := Aside0.mk (below_step (oB HB) hb); clear HB; have HO1143 := n0_; have HB := n1_; clear n0_ n1_; (try clear hb); (try clear hb2); (try clear hk); (try clear hi); (try clear ho0); obtain ⟨Ao9, co9, eo9⟩ := Kd.R_slice HO1143.out; subst eo9) | ((with_reducible refine gate_callee (f := 25) rfl ?_); refine goesL_ (some 23) rfl rfl Try.func25 (by kernel_rfl) rfl #[.int .i64 t1140, .slice Ao9 t1141.length co9] rfl (by (try simp only [List.map_toArray, List.map_cons, List.map_nil]); first | done | rfl | (simp only [List.length_drop, List.length_take]; rfl)) ?_; (with_reducible refine (impl_NewWork.calls k t1140 _ _ t1141 t1144 t1147 t1148 t1151 _ ?side1 ?side2 A5.out).mono ?_); (case side1 => repeat (first | exact (Kd.R_reads' HO1143.out).2.2 | (with_reducible refine Kd.C_alloc ?_ _) | (with_reducible refine Kd.C_drewN ?_ _) | (with_reducible refine Kd.C_drew ?_))); (case side2 => exact (Kd.R_reads' HO1143.out).2.1); rintro e w10 ⟨v1145, v1149, rfl, ho0, ho1, hb⟩; refine ⟨_, rfl, ?_⟩; have n0_ := Aside0.mk (Kd.R_elder' (oR HO1143) (Kd.R_base ho0) hb); have n1_ := Aside0.mk (Kd.R_lower (Kd.R_new' ho0 (Kd.R_lt (oR HO1143))) (below_size (oB HB))); have n2_ := Aside0.mk (Kd.R_lower ho1 (below_size (oB HB))); have n3_ := Aside0.mk (below_step (oB HB) hb); clear HO1143; clear HB; have HO1143 := n0_; have HO1146 := n1_; have HO1150 := n2_; have HB := n3_; clear n0_ n1_ n2_ n3_; (try clear hb); (try clear hb2); (try clear hk); (try clear hi); (try clear ho0); (try clear ho1)) | ((with_reducible refine gate_dst (N := 5) rfl ?_); refine box_event ?hg (N := 5) ?hd (cs := #[.slice none 0 0, .int .i64 0, .slice none 0 0]) (t := 30) ?hr ?_; (case hd => rfl); (case hg => rfl); (case hr => first | (go_simp; done) | (go_simp; rfl)); intro gb1152 hg w11 hbox hb; have n0_ := Aside0.mk (Kd.R_below (oR HO1143) hb); have n1_ := Aside0.mk (Kd.R_below (oR HO1146) hb); have n2_ := Aside0.mk (Kd.R_below (oR HO1150) hb); have n3_ := Aside0.mk (below_step (oB HB) hb); have n4_ := Aside0.mk (hbox); have n5_ := Aside0.mk ((by rw [hg]; exact (below_size (oB HB)) : w.heap.size ≤ gb1152)); have n6_ := Aside0.mk ((by rw [hg]; exact (below_size (oB HB)) : w.heap.size ≤ gb1152)); clear HO1143; clear HO1146; clear HO1150; clear HB; have HO1143 := n0_; have HO1146 := n1_; have HO1150 := n2_; have HB := n3_; have BK1152 := n4_; have GW1152 := n5_; have GE1152 := n6_; clear n0_ n1_ n2_ n3_ n4_ n5_ n6_; clear hb hbox hg; obtain ⟨Ao12, co12, eo12⟩ := Kd.R_slice HO1146.out; subst eo12; have hcz13_0 : w11.cell? ⟨gb1152, 0, none⟩ = some (.slice none 0 0) := (blk_cell BK1152.out 0).trans rfl; have hcz13_1 : w11.cell? ⟨gb1152, 1, none⟩ = some (.int .i64 0) := (blk_cell BK1152.out 1).trans rfl; have hcz13_2 : w11.cell? ⟨gb1152, 2, none⟩ = some (.slice none 0 0) := (blk_cell BK1152.out 2).trans rfl; have hfz13_0 := blk_frozen BK1152.out 0; have hfz13_1 := blk_frozen BK1152.out 1; have hfz13_2 := blk_frozen BK1152.out 2; obtain ⟨Ao14, co14, eo14⟩ := Kd.R_slice HO1150.out; subst eo14) | ((with_reducible refine gate_callee (f := 49) rfl ?_); refine goesL_ (some 29) rfl rfl Try.func49 (by kernel_rfl) rfl #[.int .i64 t1140, .slice Ao9 t1141.length co9] rfl (by (try simp only [List.map_toArray, List.map_cons, List.map_nil]); first | done | rfl | (simp only [List.length_drop, List.length_take]; rfl)) ?_; (with_reducible refine (impl_RunPlan.calls k t1140 _ _ t1141 t1153 t1154 _ ?side1 ?side2 A6.out).mono ?_); (case side1 => refine (Kd.R_reads' (e := 67) (base := w.heap.size) (ok := fun k_ => (True ∧ some k_ ≠ (.slice Ao12 t1144.length co12 : Value).ownBlock)) (n := t1141.length) (c := co9) ?_).2.2; exact (by (with_reducible repeat (first | apply Kd.R_alloc | apply Kd.R_drewN | apply Kd.R_drew)); exact (Kd.R_mono (Kd.R_far (p := ⟨gb1152, 2, none⟩) (Kd.R_far (p := ⟨gb1152, 1, none⟩) (Kd.R_far (p := ⟨gb1152, 0, none⟩) (Kd.R_types HO1143.out BK1152.out (by decide)) (fun _ hk => hk.2) (.slice Ao12 t1144.length co12)) (fun _ hk => hk.2) (.int .i64 t1147)) (fun _ hk => hk.2) (.slice Ao14 t1148.length co14)) (fun _ h_ => h_.1)))); (case side2 => exact (Kd.R_reads' HO1143.out).2.1); rintro e w15 ⟨v1155, rfl, ho0, hb⟩; refine ⟨_, rfl, ?_⟩; have n0_ := Aside0.mk (Kd.R_below (by (with_reducible repeat (first | apply Kd.R_alloc | apply Kd.R_drewN | apply Kd.R_drew)); exact (Kd.R_mono (Kd.R_far (p := ⟨gb1152, 2, none⟩) (Kd.R_far (p := ⟨gb1152, 1, none⟩) (Kd.R_far (p := ⟨gb1152, 0, none⟩) (Kd.R_types HO1143.out BK1152.out (by decide)) (fun _ hk => hk.2) (.slice Ao12 t1144.length co12)) (fun _ hk => hk.2) (.int .i64 t1147)) (fun _ hk => hk.2) (.slice Ao14 t1148.length co14)) (fun _ h_ => h_.1))) hb); have n1_ := Aside0.mk (Kd.R_below (by (with_reducible repeat (first | apply Kd.R_alloc | apply Kd.R_drewN | apply Kd.R_drew)); exact (Kd.R_mono (Kd.R_far (p := ⟨gb1152, 2, none⟩) (Kd.R_far (p := ⟨gb1152, 1, none⟩) (Kd.R_far (p := ⟨gb1152, 0, none⟩) (Kd.R_types HO1146.out BK1152.out (by decide)) (fun _ hk => hk.2) (.slice Ao12 t1144.length co12)) (fun _ hk => hk.2) (.int .i64 t1147)) (fun _ hk => hk.2) (.slice Ao14 t1148.length co14)) (fun _ h_ => h_.1))) hb); have n2_ := Aside0.mk (Kd.R_elder' (by (with_reducible repeat (first | apply Kd.R_alloc | apply Kd.R_drewN | apply Kd.R_drew)); exact (Kd.R_mono (Kd.R_far (p := ⟨gb1152, 2, none⟩) (Kd.R_far (p := ⟨gb1152, 1, none⟩) (Kd.R_far (p := ⟨gb1152, 0, none⟩) (Kd.R_types HO1150.out BK1152.out (by decide)) (fun _ hk => hk.2) (.slice Ao12 t1144.length co12)) (fun _ hk => hk.2) (.int .i64 t1147)) (fun _ hk => hk.2) (.slice Ao14 t1148.length co14)) (fun _ h_ => h_.1))) (Kd.R_base ho0) hb); have n3_ := Aside0.mk (Kd.R_lower (Kd.R_new' ho0 (Kd.R_lt (by (with_reducible repeat (first | apply Kd.R_alloc | apply Kd.R_drewN | apply Kd.R_drew)); exact (Kd.R_mono (Kd.R_far (p := ⟨gb1152, 2, none⟩) (Kd.R_far (p := ⟨gb1152, 1, none⟩) (Kd.R_far (p := ⟨gb1152, 0, none⟩) (Kd.R_types HO1150.out BK1152.out (by decide)) (fun _ hk => hk.2) (.slice Ao12 t1144.length co12)) (fun _ hk => hk.2) (.int .i64 t1147)) (fun _ hk => hk.2) (.slice Ao14 t1148.length co14)) (fun _ h_ => h_.1))))) (below_size (oB HB))); have n4_ := Aside0.mk (blk_below (g := gb1152) (o := .cells #[.slice Ao12 t1144.length co12, .int .i64 t1147, .slice Ao14 t1148.length co14] 30 (0, 0)) (by (with_reducible repeat (first | refine blk_drewN ?_ _ | refine blk_drew ?_ | refine blk_alloc ?_ _)); refine blk_put (cs := #[.slice Ao12 t1144.length co12, .int .i64 t1147, .slice none 0 0]) ?_ 2 _ rfl; (with_reducible repeat (first | refine blk_drewN ?_ _ | refine blk_drew ?_ | refine blk_alloc ?_ _)); refine blk_put (cs := #[.slice Ao12 t1144.length co12, .int .i64 0, .slice none 0 0]) ?_ 1 _ rfl; (with_reducible repeat (first | refine blk_drewN ?_ _ | refine blk_drew ?_ | refine blk_alloc ?_ _)); refine blk_put (cs := #[.slice none 0 0, .int .i64 0, .slice none 0 0]) ?_ 0 _ rfl; (with_reducible repeat (first | refine blk_drewN ?_ _ | refine blk_drew ?_ | refine blk_alloc ?_ _)); exact BK1152.out) hb); have n5_ := Aside0.mk (below_step (oB HB) hb); clear HO1143; clear HO1146; clear HO1150; clear BK1152; clear HB; have HO1143 := n0_; have HO1146 := n1_; have HO1150 := n2_; have HO1156 := n3_; have BK1152 := n4_; have HB := n5_; clear n0_ n1_ n2_ n3_ n4_ n5_; (try clear hb); (try clear hb2); (try clear hk); (try clear hi); (try clear ho0)))
    (try simp only [Act.put, List.setIfInBounds_toArray, List.set_cons_zero, List.set_cons_succ])
    go_cut [42] (fun v42 wc => ∃ (kq : Nat) (x42_6 : Bool), v42 = .bool x42_6 ∧ Aside0 (laws_FnParts.j0 kq l0 t1141 t1153 x42_6 t1144 t1147 t1148 = some r) ∧ Aside0 (kq ≤ k) ∧ Aside0 (Kd.R k67 67 wc w.heap.size (fun k_ => some k_ ≠ ((.slice Ao12 t1144.length co12) : Value).ownBlock) (.slice Ao9 t1141.length co9) t1141) ∧ Aside0 (Kd.R (Kd.int .i64) 3 wc w.heap.size (fun k_ => some k_ ≠ ((.slice Ao14 t1148.length co14) : Value).ownBlock) v1155 t1153) ∧ Aside0 (Kd.R k67 67 wc w.heap.size (fun k_ => some k_ ≠ ((.slice Ao9 t1141.length co9) : Value).ownBlock) (.slice Ao12 t1144.length co12) t1144) ∧ Aside0 (Kd.R (Kd.int .i64) 3 wc w.heap.size (fun k_ => some k_ ≠ (v1155 : Value).ownBlock) (.slice Ao14 t1148.length co14) t1148) ∧ Aside0 (wc.heap[gb1152]? = some (.cells #[(.slice Ao12 t1144.length co12), .int .i64 t1147, (.slice Ao14 t1148.length co14)] 30 (0, 0))) ∧ Aside0 (Below w.heap.size w wc))
    case first =>
      have H := HC7.out
      clear HC7
      by_cases c16 : t1151 = true
      · subst c16
        rw [if_pos rfl] at H
        by_cases c17 : t1154 = true
        · subst c17
          rw [if_pos rfl] at H
          replace H := Option.bind_eq_some_iff.mp H
          obtain ⟨t1157, A180, H⟩ := H
          (try dsimp only at H)
          have A18 := Aside0.mk A180
          clear A180
          have H' := Aside0.mk H
          clear H
          have hcz19_0 : w15.cell? ⟨gb1152, 0, none⟩ = some (.slice Ao12 t1144.length co12) := (blk_cell BK1152.out 0).trans rfl
          have hcz19_1 : w15.cell? ⟨gb1152, 1, none⟩ = some (.int .i64 t1147) := (blk_cell BK1152.out 1).trans rfl
          have hcz19_2 : w15.cell? ⟨gb1152, 2, none⟩ = some (.slice Ao14 t1148.length co14) := (blk_cell BK1152.out 2).trans rfl
          have hfz19_0 := blk_frozen BK1152.out 0
          have hfz19_1 := blk_frozen BK1152.out 1
          have hfz19_2 := blk_frozen BK1152.out 2
          go_wp2_with (first | (go_at_call 18; (with_reducible refine (impl_WorkOk.calls _ _ t1144 t1147 _ _ t1148 t1157 _ ?side1 ?side2 ?side3 ?side4 A18.out).mono ?_); (case side1 => repeat (first | exact (Kd.R_reads' HO1146.out).2.2 | (with_reducible refine Kd.C_alloc ?_ _) | (with_reducible refine Kd.C_drewN ?_ _) | (with_reducible refine Kd.C_drew ?_))); (case side2 => exact (Kd.R_reads' HO1146.out).2.1); (case side3 => repeat (first | exact (Kd.R_reads' HO1150.out).2.2 | (with_reducible refine Kd.C_alloc ?_ _) | (with_reducible refine Kd.C_drewN ?_ _) | (with_reducible refine Kd.C_drew ?_))); (case side4 => exact (Kd.R_reads' HO1150.out).2.1); rintro e w20 ⟨rfl, hb⟩; have n0_ := Aside0.mk (Kd.R_below (oR HO1143) hb); have n1_ := Aside0.mk (Kd.R_below (oR HO1146) hb); have n2_ := Aside0.mk (Kd.R_below (oR HO1150) hb); have n3_ := Aside0.mk (Kd.R_below (oR HO1156) hb); have n4_ := Aside0.mk (blk_below (g := gb1152) (o := .cells #[.slice Ao12 t1144.length co12, .int .i64 t1147, .slice Ao14 t1148.length co14] 30 (0, 0)) (oK BK1152) hb); have n5_ := Aside0.mk (below_step (oB HB) hb); clear HO1143; clear HO1146; clear HO1150; clear HO1156; clear BK1152; clear HB; have HO1143 := n0_; have HO1146 := n1_; have HO1150 := n2_; have HO1156 := n3_; have BK1152 := n4_; have HB := n5_; clear n0_ n1_ n2_ n3_ n4_ n5_; (try clear hb); (try clear hb2); (try clear hk); (try clear hi)))
          go_meet
          case rel => exact ⟨_, (!t1157), (by first | rfl | (simp; done) | (simp [*]; done)), H', ⟨by first | omega | exact Nat.le_refl _⟩, ⟨by (with_reducible repeat (first | apply Kd.R_alloc | apply Kd.R_drewN | apply Kd.R_drew)); exact Kd.R_mono HO1143.out (fun _ hk => hk.2)⟩, ⟨by (with_reducible repeat (first | apply Kd.R_alloc | apply Kd.R_drewN | apply Kd.R_drew)); exact Kd.R_mono HO1156.out (fun _ hk => hk.2)⟩, ⟨by (with_reducible repeat (first | apply Kd.R_alloc | apply Kd.R_drewN | apply Kd.R_drew)); exact Kd.R_mono HO1146.out (fun _ hk => hk.2)⟩, ⟨by (with_reducible repeat (first | apply Kd.R_alloc | apply Kd.R_drewN | apply Kd.R_drew)); exact Kd.R_mono HO1150.out (fun _ hk => hk.2)⟩, ⟨oK BK1152⟩, ⟨oB HB⟩⟩
        · replace c17 := Bool.eq_false_iff.mpr c17
          subst c17
          rw [if_neg (show ¬ (false = true) by decide)] at H
          have H' := Aside0.mk H
          clear H
          go_wp2
          go_meet
          case rel => exact ⟨_, (true), (by first | rfl | (simp; done) | (simp [*]; done)), H', ⟨by first | omega | exact Nat.le_refl _⟩, ⟨by (with_reducible repeat (first | apply Kd.R_alloc | apply Kd.R_drewN | apply Kd.R_drew)); exact Kd.R_mono HO1143.out (fun _ hk => hk.2)⟩, ⟨by (with_reducible repeat (first | apply Kd.R_alloc | apply Kd.R_drewN | apply Kd.R_drew)); exact Kd.R_mono HO1156.out (fun _ hk => hk.2)⟩, ⟨by (with_reducible repeat (first | apply Kd.R_alloc | apply Kd.R_drewN | apply Kd.R_drew)); exact Kd.R_mono HO1146.out (fun _ hk => hk.2)⟩, ⟨by (with_reducible repeat (first | apply Kd.R_alloc | apply Kd.R_drewN | apply Kd.R_drew)); exact Kd.R_mono HO1150.out (fun _ hk => hk.2)⟩, ⟨oK BK1152⟩, ⟨oB HB⟩⟩
      · replace c16 := Bool.eq_false_iff.mpr c16
        subst c16
        rw [if_neg (show ¬ (false = true) by decide)] at H
        have H' := Aside0.mk H
        clear H
        go_wp2
        go_meet
        case rel => exact ⟨_, (true), (by first | rfl | (simp; done) | (simp [*]; done)), H', ⟨by first | omega | exact Nat.le_refl _⟩, ⟨by (with_reducible repeat (first | apply Kd.R_alloc | apply Kd.R_drewN | apply Kd.R_drew)); exact Kd.R_mono HO1143.out (fun _ hk => hk.2)⟩, ⟨by (with_reducible repeat (first | apply Kd.R_alloc | apply Kd.R_drewN | apply Kd.R_drew)); exact Kd.R_mono HO1156.out (fun _ hk => hk.2)⟩, ⟨by (with_reducible repeat (first | apply Kd.R_alloc | apply Kd.R_drewN | apply Kd.R_drew)); exact Kd.R_mono HO1146.out (fun _ hk => hk.2)⟩, ⟨by (with_reducible repeat (first | apply Kd.R_alloc | apply Kd.R_drewN | apply Kd.R_drew)); exact Kd.R_mono HO1150.out (fun _ hk => hk.2)⟩, ⟨oK BK1152⟩, ⟨oB HB⟩⟩
    case rest =>
      clear HC7
      try clear c1
      try clear c2
      try clear p2
      try clear c3
      try clear c4
      try clear c13
      try clear c16
      try clear c17
      try clear hcz13_0
      try clear hcz13_1
      try clear hcz13_2
      try clear hcz19_0
      try clear hcz19_1
      try clear hcz19_2
      try clear hfz13_0
      try clear hfz13_1
      try clear hfz13_2
      try clear hfz19_0
      try clear hfz19_1
      try clear hfz19_2
      obtain ⟨kq, x42_6, rfl, HA, HJ6, HO_4, HO_7, HO_1153000, HO_1153002, BK1152, HB⟩ := hcut
      cases kq with
      | zero => exact absurd HA.out (by simp [laws_FnParts.j0])
      | succ kj6 =>
        have H := HA.out
        clear HA
        simp only [laws_FnParts.j0] at H
        by_cases c21 : x42_6 = true
        · subst c21
          rw [if_pos rfl] at H
          exact absurd ((Option.some.inj H).trans hrt_.out) (by decide)
        · replace c21 := Bool.eq_false_iff.mpr c21
          subst c21
          rw [if_neg (show ¬ (false = true) by decide)] at H
          replace H := Option.bind_eq_some_iff.mp H
          obtain ⟨t1158, A220, H⟩ := H
          (try dsimp only at H)
          have A22 := Aside0.mk A220
          clear A220
          replace H := Option.bind_eq_some_iff.mp H
          obtain ⟨⟨t1159, t1162, t1163⟩, A230, H⟩ := H
          (try dsimp only at H)
          have A23 := Aside0.mk A230
          clear A230
          replace H := Option.bind_eq_some_iff.mp H
          obtain ⟨⟨t1167, t1170, t1171⟩, A240, H⟩ := H
          (try dsimp only at H)
          have A24 := Aside0.mk A240
          clear A240
          replace H := Option.bind_eq_some_iff.mp H
          obtain ⟨⟨t1175, t1178, t1179⟩, A250, H⟩ := H
          (try dsimp only at H)
          have A25 := Aside0.mk A250
          clear A250
          obtain ⟨ji26, hji26⟩ : ∃ j_ : Int, (mn (Int.tmod t1158 13) (t1141.length : Int)) = j_ := ⟨_, rfl⟩
          replace H : (if t1162 = (ji26) then ((impl_IsFinished.f t1167 t1170 t1171).bind fun t1183 => (if t1183 = true then ((laws_sameInts.f kj6 t1171 t1153).bind fun t1184 => (if t1184 = true then ((laws_sameInts.f kj6 t1179 t1153).bind fun t1185 => (if t1185 = true then ((impl_WorkOk.f t1159 t1162 t1163).bind fun t1186 => (some t1186)) else (some false))) else (some false))) else (some false))) else (some false)) = some r := by first | (rw [hji26] at H; exact H) | (simp only [hji26] at H ⊢; exact H)
          (try rw [hji26] at A22)
          (try rw [hji26] at A23)
          (try rw [hji26] at A24)
          (try rw [hji26] at A25)
          have hji26_ : (if (t1141.length : Int) < (Int.tmod t1158 13) then (t1141.length : Int) else (Int.tmod t1158 13)) = ji26 := hji26
          by_cases c27 : t1162 = (ji26)
          · rw [if_pos c27] at H
            have c27b0 : (t1162 == (ji26)) = true := beq_iff_eq.mpr c27
            have c27b1 : (t1162 != (ji26)) = false := bne_eq_false_iff_eq.mpr c27
            clear c27
            replace H := Option.bind_eq_some_iff.mp H
            obtain ⟨t1183, A280, H⟩ := H
            (try dsimp only at H)
            have A28 := Aside0.mk A280
            clear A280
            by_cases c29 : t1183 = true
            · subst c29
              rw [if_pos rfl] at H
              replace H := Option.bind_eq_some_iff.mp H
              obtain ⟨t1184, A300, H⟩ := H
              (try dsimp only at H)
              have A30 := Aside0.mk A300
              clear A300
              by_cases c31 : t1184 = true
              · subst c31
                rw [if_pos rfl] at H
                replace H := Option.bind_eq_some_iff.mp H
                obtain ⟨t1185, A320, H⟩ := H
                (try dsimp only at H)
                have A32 := Aside0.mk A320
                clear A320
                by_cases c33 : t1185 = true
                · subst c33
                  rw [if_pos rfl] at H
                  replace H := Option.bind_eq_some_iff.mp H
                  obtain ⟨t1186, A340, H⟩ := H
                  (try dsimp only at H)
                  have A34 := Aside0.mk A340
                  clear A340
                  obtain rfl := Option.some.inj H
                  go_wp2_with (first | ((with_reducible refine gate_callee (f := 50) rfl ?_); refine goesL_ (some 44) rfl rfl Try.func50 (by kernel_rfl) rfl #[.slice A0 l0.length c0, .int .i64 0] rfl (by (try simp only [List.map_toArray, List.map_cons, List.map_nil]); first | done | rfl | (simp only [List.length_drop, List.length_take]; rfl)) ?_; (with_reducible refine (laws_at.calls _ _ l0 0 t1158 _ ?side1 ?side2 A22.out).mono ?_); (case side1 => exact oc_ HR0.out); (case side2 => exact HC0.out); rintro e w' ⟨rfl, ⟨nd, rfl⟩⟩; refine ⟨_, rfl, ?_⟩; (try (rw [drewN_self wc]; generalize hq_ : World.drewN wc _ = wc; have n0_ : Aside0 (Kd.R k67 67 wc w.heap.size (fun k_ => some k_ ≠ (.slice Ao9 t1141.length co9 : Value).ownBlock) (.slice Ao12 t1144.length co12) t1144) := ⟨by rw [← hq_]; exact (oR HO_1153000)⟩; have n1_ : Aside0 (Kd.R (Kd.int .i64) 3 wc w.heap.size (fun k_ => some k_ ≠ (v1155 : Value).ownBlock) (.slice Ao14 t1148.length co14) t1148) := ⟨by rw [← hq_]; exact (oR HO_1153002)⟩; have n2_ : Aside0 (Kd.R k67 67 wc w.heap.size (fun k_ => some k_ ≠ (.slice Ao12 t1144.length co12 : Value).ownBlock) (.slice Ao9 t1141.length co9) t1141) := ⟨by rw [← hq_]; exact (oR HO_4)⟩; have n3_ : Aside0 (Kd.R (Kd.int .i64) 3 wc w.heap.size (fun k_ => some k_ ≠ (.slice Ao14 t1148.length co14 : Value).ownBlock) v1155 t1153) := ⟨by rw [← hq_]; exact (oR HO_7)⟩; have n4_ : Aside0 (wc.heap[gb1152]? = some (.cells #[.slice Ao12 t1144.length co12, .int .i64 t1147, .slice Ao14 t1148.length co14] 30 (0, 0))) := ⟨by rw [← hq_]; exact (oK BK1152)⟩; have n5_ : Aside0 (Below w.heap.size w wc) := ⟨by rw [← hq_]; exact (oB HB)⟩; clear HO_1153000 HO_1153002 HO_4 HO_7 BK1152 HB hq_; have HO_1153000 := n0_; have HO_1153002 := n1_; have HO_4 := n2_; have HO_7 := n3_; have BK1152 := n4_; have HB := n5_; clear n0_ n1_ n2_ n3_ n4_ n5_)); have hcz35_0 : wc.cell? ⟨gb1152, 0, none⟩ = some (.slice Ao12 t1144.length co12) := (blk_cell BK1152.out 0).trans rfl; have hcz35_1 : wc.cell? ⟨gb1152, 1, none⟩ = some (.int .i64 t1147) := (blk_cell BK1152.out 1).trans rfl; have hcz35_2 : wc.cell? ⟨gb1152, 2, none⟩ = some (.slice Ao14 t1148.length co14) := (blk_cell BK1152.out 2).trans rfl; have hfz35_0 := blk_frozen BK1152.out 0; have hfz35_1 := blk_frozen BK1152.out 1; have hfz35_2 := blk_frozen BK1152.out 2) | ((with_reducible refine gate_callee (f := 42) rfl ?_); refine goesL_ (some 48) rfl rfl Try.func42 (by kernel_rfl) rfl #[.agg #[.slice Ao12 t1144.length co12, .int .i64 t1147, .slice Ao14 t1148.length co14], .int .i64 (Int.tmod t1158 13)] rfl (by (try simp only [List.map_toArray, List.map_cons, List.map_nil]); first | done | rfl | (simp only [List.length_drop, List.length_take]; rfl)) ?_; (with_reducible refine (impl_WorkSteps.calls kj6 _ _ t1144 t1147 _ _ t1148 (Int.tmod t1158 13) t1159 t1162 t1163 _ ?side1 ?side2 ?side3 ?side4 A23.out).mono ?_); (case side1 => repeat (first | exact (Kd.R_reads' HO_1153000.out).2.2 | (with_reducible refine Kd.C_alloc ?_ _) | (with_reducible refine Kd.C_drewN ?_ _) | (with_reducible refine Kd.C_drew ?_))); (case side2 => exact (Kd.R_reads' HO_1153000.out).2.1); (case side3 => repeat (first | exact (Kd.R_reads' HO_1153002.out).2.2 | (with_reducible refine Kd.C_alloc ?_ _) | (with_reducible refine Kd.C_drewN ?_ _) | (with_reducible refine Kd.C_drew ?_))); (case side4 => exact (Kd.R_reads' HO_1153002.out).2.1); rintro e w36 ⟨v1160, v1164, rfl, ho0, ho1, hb⟩; refine ⟨_, rfl, ?_⟩; have n0_ := Aside0.mk (Kd.R_elder' (oR HO_4) (Kd.R_base ho0) hb); have n1_ := Aside0.mk (Kd.R_elder' (oR HO_7) (Kd.R_base ho1) hb); have n2_ := Aside0.mk (Kd.R_elder' (oR HO_1153000) (Kd.R_base ho0) hb); have n3_ := Aside0.mk (Kd.R_elder' (oR HO_1153002) (Kd.R_base ho1) hb); have n4_ := Aside0.mk (Kd.R_lower (Kd.R_new' (Kd.R_new' ho0 (Kd.R_lt (oR HO_4))) (Kd.R_lt (oR HO_1153000))) (below_size (oB HB))); have n5_ := Aside0.mk (Kd.R_lower (Kd.R_new' (Kd.R_new' ho1 (Kd.R_lt (oR HO_7))) (Kd.R_lt (oR HO_1153002))) (below_size (oB HB))); have n6_ := Aside0.mk (blk_below (g := gb1152) (o := .cells #[.slice Ao12 t1144.length co12, .int .i64 t1147, .slice Ao14 t1148.length co14] 30 (0, 0)) (oK BK1152) hb); have n7_ := Aside0.mk (below_step (oB HB) hb); clear HO_4; clear HO_7; clear HO_1153000; clear HO_1153002; clear BK1152; clear HB; have HO_4 := n0_; have HO_7 := n1_; have HO_1153000 := n2_; have HO_1153002 := n3_; have HO1161 := n4_; have HO1165 := n5_; have BK1152 := n6_; have HB := n7_; clear n0_ n1_ n2_ n3_ n4_ n5_ n6_ n7_; (try clear hb); (try clear hb2); (try clear hk); (try clear hi); (try clear ho0); (try clear ho1)) | ((with_reducible refine gate_dst (N := 10) rfl ?_); refine box_event ?hg (N := 10) ?hd (cs := #[.slice none 0 0, .int .i64 0, .slice none 0 0]) (t := 30) ?hr ?_; (case hd => rfl); (case hg => rfl); (case hr => first | (go_simp; done) | (go_simp; rfl)); intro gb1166 hg w37 hbox hb; have n0_ := Aside0.mk (Kd.R_below (oR HO_4) hb); have n1_ := Aside0.mk (Kd.R_below (oR HO_7) hb); have n2_ := Aside0.mk (Kd.R_below (oR HO_1153000) hb); have n3_ := Aside0.mk (Kd.R_below (oR HO_1153002) hb); have n4_ := Aside0.mk (Kd.R_below (oR HO1161) hb); have n5_ := Aside0.mk (Kd.R_below (oR HO1165) hb); have n6_ := Aside0.mk (blk_below (g := gb1152) (o := .cells #[.slice Ao12 t1144.length co12, .int .i64 t1147, .slice Ao14 t1148.length co14] 30 (0, 0)) (oK BK1152) hb); have n7_ := Aside0.mk (below_step (oB HB) hb); have n8_ := Aside0.mk (hbox); have n9_ := Aside0.mk ((by rw [hg]; exact (below_size (oB HB)) : w.heap.size ≤ gb1166)); have n10_ := Aside0.mk ((by rw [hg]; exact (below_size (oB HB)) : w.heap.size ≤ gb1166)); have n11_ := Aside0.mk ((by rw [hg]; exact Nat.ne_of_lt (blk_lt (g := gb1152) (o := .cells #[.slice Ao12 t1144.length co12, .int .i64 t1147, .slice Ao14 t1148.length co14] 30 (0, 0)) (oK BK1152)) : gb1152 ≠ gb1166)); have n12_ := Aside0.mk ((by rw [hg]; exact Nat.ne_of_gt (blk_lt (g := gb1152) (o := .cells #[.slice Ao12 t1144.length co12, .int .i64 t1147, .slice Ao14 t1148.length co14] 30 (0, 0)) (oK BK1152)) : gb1166 ≠ gb1152)); clear HO_4; clear HO_7; clear HO_1153000; clear HO_1153002; clear HO1161; clear HO1165; clear BK1152; clear HB; have HO_4 := n0_; have HO_7 := n1_; have HO_1153000 := n2_; have HO_1153002 := n3_; have HO1161 := n4_; have HO1165 := n5_; have BK1152 := n6_; have HB := n7_; have BK1166 := n8_; have GW1166 := n9_; have GE1166 := n10_; have NB1152_1166 := n11_; have NB1166_1152 := n12_; clear n0_ n1_ n2_ n3_ n4_ n5_ n6_ n7_ n8_ n9_ n10_ n11_ n12_; clear hb hbox hg; obtain ⟨Ao38, co38, eo38⟩ := Kd.R_slice HO1161.out; subst eo38; have hnb39 := NB1166_1152.out; have hnc39 := NB1152_1166.out; have hcz40_0 : w37.cell? ⟨gb1166, 0, none⟩ = some (.slice none 0 0) := (blk_cell BK1166.out 0).trans rfl; have hcz40_1 : w37.cell? ⟨gb1166, 1, none⟩ = some (.int .i64 0) := (blk_cell BK1166.out 1).trans rfl; have hcz40_2 : w37.cell? ⟨gb1166, 2, none⟩ = some (.slice none 0 0) := (blk_cell BK1166.out 2).trans rfl; have hfz40_0 := blk_frozen BK1166.out 0; have hfz40_1 := blk_frozen BK1166.out 1; have hfz40_2 := blk_frozen BK1166.out 2; obtain ⟨Ao41, co41, eo41⟩ := Kd.R_slice HO1165.out; subst eo41) | ((with_reducible refine gate_callee (f := 42) rfl ?_); refine goesL_ (some 50) rfl rfl Try.func42 (by kernel_rfl) rfl #[.agg #[.slice Ao38 t1159.length co38, .int .i64 t1162, .slice Ao41 t1163.length co41], .int .i64 100] rfl (by (try simp only [List.map_toArray, List.map_cons, List.map_nil]); first | done | rfl | (simp only [List.length_drop, List.length_take]; rfl)) ?_; (with_reducible refine (impl_WorkSteps.calls kj6 _ _ t1159 t1162 _ _ t1163 100 t1167 t1170 t1171 _ ?side1 ?side2 ?side3 ?side4 A24.out).mono ?_); (case side1 => refine (Kd.R_reads' (e := 67) (base := w.heap.size) (ok := fun k_ => ((True ∧ some k_ ≠ (.slice Ao9 t1141.length co9 : Value).ownBlock) ∧ some k_ ≠ (.slice Ao12 t1144.length co12 : Value).ownBlock)) (n := t1159.length) (c := co38) ?_).2.2; exact (by (with_reducible repeat (first | apply Kd.R_alloc | apply Kd.R_drewN | apply Kd.R_drew)); exact (Kd.R_mono (Kd.R_far (p := ⟨gb1166, 2, none⟩) (Kd.R_far (p := ⟨gb1166, 1, none⟩) (Kd.R_far (p := ⟨gb1166, 0, none⟩) (Kd.R_types HO1161.out BK1166.out (by decide)) (fun _ hk => hk.2) (.slice Ao38 t1159.length co38)) (fun _ hk => hk.2) (.int .i64 t1162)) (fun _ hk => hk.2) (.slice Ao41 t1163.length co41)) (fun _ h_ => h_.1)))); (case side2 => exact (Kd.R_reads' HO1161.out).2.1); (case side3 => refine (Kd.R_reads' (e := 3) (base := w.heap.size) (ok := fun k_ => ((True ∧ some k_ ≠ (v1155 : Value).ownBlock) ∧ some k_ ≠ (.slice Ao14 t1148.length co14 : Value).ownBlock)) (n := t1163.length) (c := co41) ?_).2.2; exact (by (with_reducible repeat (first | apply Kd.R_alloc | apply Kd.R_drewN | apply Kd.R_drew)); exact (Kd.R_mono (Kd.R_far (p := ⟨gb1166, 2, none⟩) (Kd.R_far (p := ⟨gb1166, 1, none⟩) (Kd.R_far (p := ⟨gb1166, 0, none⟩) (Kd.R_types HO1165.out BK1166.out (by decide)) (fun _ hk => hk.2) (.slice Ao38 t1159.length co38)) (fun _ hk => hk.2) (.int .i64 t1162)) (fun _ hk => hk.2) (.slice Ao41 t1163.length co41)) (fun _ h_ => h_.1)))); (case side4 => exact (Kd.R_reads' HO1165.out).2.1); rintro e w42 ⟨v1168, v1172, rfl, ho0, ho1, hb⟩; refine ⟨_, rfl, ?_⟩; have n0_ := Aside0.mk (Kd.R_elder' (by (with_reducible repeat (first | apply Kd.R_alloc | apply Kd.R_drewN | apply Kd.R_drew)); exact (Kd.R_mono (Kd.R_far (p := ⟨gb1166, 2, none⟩) (Kd.R_far (p := ⟨gb1166, 1, none⟩) (Kd.R_far (p := ⟨gb1166, 0, none⟩) (Kd.R_types HO_4.out BK1166.out (by decide)) (fun _ hk => hk.2) (.slice Ao38 t1159.length co38)) (fun _ hk => hk.2) (.int .i64 t1162)) (fun _ hk => hk.2) (.slice Ao41 t1163.length co41)) (fun _ h_ => h_.1))) (Kd.R_base ho0) hb); have n1_ := Aside0.mk (Kd.R_elder' (by (with_reducible repeat (first | apply Kd.R_alloc | apply Kd.R_drewN | apply Kd.R_drew)); exact (Kd.R_mono (Kd.R_far (p := ⟨gb1166, 2, none⟩) (Kd.R_far (p := ⟨gb1166, 1, none⟩) (Kd.R_far (p := ⟨gb1166, 0, none⟩) (Kd.R_types HO_7.out BK1166.out (by decide)) (fun _ hk => hk.2) (.slice Ao38 t1159.length co38)) (fun _ hk => hk.2) (.int .i64 t1162)) (fun _ hk => hk.2) (.slice Ao41 t1163.length co41)) (fun _ h_ => h_.1))) (Kd.R_base ho1) hb); have n2_ := Aside0.mk (Kd.R_elder' (by (with_reducible repeat (first | apply Kd.R_alloc | apply Kd.R_drewN | apply Kd.R_drew)); exact (Kd.R_mono (Kd.R_far (p := ⟨gb1166, 2, none⟩) (Kd.R_far (p := ⟨gb1166, 1, none⟩) (Kd.R_far (p := ⟨gb1166, 0, none⟩) (Kd.R_types HO_1153000.out BK1166.out (by decide)) (fun _ hk => hk.2) (.slice Ao38 t1159.length co38)) (fun _ hk => hk.2) (.int .i64 t1162)) (fun _ hk => hk.2) (.slice Ao41 t1163.length co41)) (fun _ h_ => h_.1))) (Kd.R_base ho0) hb); have n3_ := Aside0.mk (Kd.R_elder' (by (with_reducible repeat (first | apply Kd.R_alloc | apply Kd.R_drewN | apply Kd.R_drew)); exact (Kd.R_mono (Kd.R_far (p := ⟨gb1166, 2, none⟩) (Kd.R_far (p := ⟨gb1166, 1, none⟩) (Kd.R_far (p := ⟨gb1166, 0, none⟩) (Kd.R_types HO_1153002.out BK1166.out (by decide)) (fun _ hk => hk.2) (.slice Ao38 t1159.length co38)) (fun _ hk => hk.2) (.int .i64 t1162)) (fun _ hk => hk.2) (.slice Ao41 t1163.length co41)) (fun _ h_ => h_.1))) (Kd.R_base ho1) hb); have n4_ := Aside0.mk (Kd.R_elder' (by (with_reducible repeat (first | apply Kd.R_alloc | apply Kd.R_drewN | apply Kd.R_drew)); exact (Kd.R_mono (Kd.R_far (p := ⟨gb1166, 2, none⟩) (Kd.R_far (p := ⟨gb1166, 1, none⟩) (Kd.R_far (p := ⟨gb1166, 0, none⟩) (Kd.R_types HO1161.out BK1166.out (by decide)) (fun _ hk => hk.2) (.slice Ao38 t1159.length co38)) (fun _ hk => hk.2) (.int .i64 t1162)) (fun _ hk => hk.2) (.slice Ao41 t1163.length co41)) (fun _ h_ => h_.1))) (Kd.R_base ho0) hb); have n5_ := Aside0.mk (Kd.R_elder' (by (with_reducible repeat (first | apply Kd.R_alloc | apply Kd.R_drewN | apply Kd.R_drew)); exact (Kd.R_mono (Kd.R_far (p := ⟨gb1166, 2, none⟩) (Kd.R_far (p := ⟨gb1166, 1, none⟩) (Kd.R_far (p := ⟨gb1166, 0, none⟩) (Kd.R_types HO1165.out BK1166.out (by decide)) (fun _ hk => hk.2) (.slice Ao38 t1159.length co38)) (fun _ hk => hk.2) (.int .i64 t1162)) (fun _ hk => hk.2) (.slice Ao41 t1163.length co41)) (fun _ h_ => h_.1))) (Kd.R_base ho1) hb); have n6_ := Aside0.mk (Kd.R_lower (Kd.R_new' (Kd.R_new' (Kd.R_new' ho0 (Kd.R_lt (by (with_reducible repeat (first | apply Kd.R_alloc | apply Kd.R_drewN | apply Kd.R_drew)); exact (Kd.R_mono (Kd.R_far (p := ⟨gb1166, 2, none⟩) (Kd.R_far (p := ⟨gb1166, 1, none⟩) (Kd.R_far (p := ⟨gb1166, 0, none⟩) (Kd.R_types HO_4.out BK1166.out (by decide)) (fun _ hk => hk.2) (.slice Ao38 t1159.length co38)) (fun _ hk => hk.2) (.int .i64 t1162)) (fun _ hk => hk.2) (.slice Ao41 t1163.length co41)) (fun _ h_ => h_.1))))) (Kd.R_lt (by (with_reducible repeat (first | apply Kd.R_alloc | apply Kd.R_drewN | apply Kd.R_drew)); exact (Kd.R_mono (Kd.R_far (p := ⟨gb1166, 2, none⟩) (Kd.R_far (p := ⟨gb1166, 1, none⟩) (Kd.R_far (p := ⟨gb1166, 0, none⟩) (Kd.R_types HO_1153000.out BK1166.out (by decide)) (fun _ hk => hk.2) (.slice Ao38 t1159.length co38)) (fun _ hk => hk.2) (.int .i64 t1162)) (fun _ hk => hk.2) (.slice Ao41 t1163.length co41)) (fun _ h_ => h_.1))))) (Kd.R_lt (by (with_reducible repeat (first | apply Kd.R_alloc | apply Kd.R_drewN | apply Kd.R_drew)); exact (Kd.R_mono (Kd.R_far (p := ⟨gb1166, 2, none⟩) (Kd.R_far (p := ⟨gb1166, 1, none⟩) (Kd.R_far (p := ⟨gb1166, 0, none⟩) (Kd.R_types HO1161.out BK1166.out (by decide)) (fun _ hk => hk.2) (.slice Ao38 t1159.length co38)) (fun _ hk => hk.2) (.int .i64 t1162)) (fun _ hk => hk.2) (.slice Ao41 t1163.length co41)) (fun _ h_ => h_.1))))) (below_size (oB HB))); have n7_ := Aside0.mk (Kd.R_lower (Kd.R_new' (Kd.R_new' (Kd.R_new' ho1 (Kd.R_lt (by (with_reducible repeat (first | apply Kd.R_alloc | apply Kd.R_drewN | apply Kd.R_drew)); exact (Kd.R_mono (Kd.R_far (p := ⟨gb1166, 2, none⟩) (Kd.R_far (p := ⟨gb1166, 1, none⟩) (Kd.R_far (p := ⟨gb1166, 0, none⟩) (Kd.R_types HO_7.out BK1166.out (by decide)) (fun _ hk => hk.2) (.slice Ao38 t1159.length co38)) (fun _ hk => hk.2) (.int .i64 t1162)) (fun _ hk => hk.2) (.slice Ao41 t1163.length co41)) (fun _ h_ => h_.1))))) (Kd.R_lt (by (with_reducible repeat (first | apply Kd.R_alloc | apply Kd.R_drewN | apply Kd.R_drew)); exact (Kd.R_mono (Kd.R_far (p := ⟨gb1166, 2, none⟩) (Kd.R_far (p := ⟨gb1166, 1, none⟩) (Kd.R_far (p := ⟨gb1166, 0, none⟩) (Kd.R_types HO_1153002.out BK1166.out (by decide)) (fun _ hk => hk.2) (.slice Ao38 t1159.length co38)) (fun _ hk => hk.2) (.int .i64 t1162)) (fun _ hk => hk.2) (.slice Ao41 t1163.length co41)) (fun _ h_ => h_.1))))) (Kd.R_lt (by (with_reducible repeat (first | apply Kd.R_alloc | apply Kd.R_drewN | apply Kd.R_drew)); exact (Kd.R_mono (Kd.R_far (p := ⟨gb1166, 2, none⟩) (Kd.R_far (p := ⟨gb1166, 1, none⟩) (Kd.R_far (p := ⟨gb1166, 0, none⟩) (Kd.R_types HO1165.out BK1166.out (by decide)) (fun _ hk => hk.2) (.slice Ao38 t1159.length co38)) (fun _ hk => hk.2) (.int .i64 t1162)) (fun _ hk => hk.2) (.slice Ao41 t1163.length co41)) (fun _ h_ => h_.1))))) (below_size (oB HB))); have n8_ := Aside0.mk (blk_below (g := gb1152) (o := .cells #[.slice Ao12 t1144.length co12, .int .i64 t1147, .slice Ao14 t1148.length co14] 30 (0, 0)) (by (with_reducible repeat (first | refine blk_drewN ?_ _ | refine blk_drew ?_ | refine blk_alloc ?_ _)); refine blk_far ?_ NB1152_1166.out _; (with_reducible repeat (first | refine blk_drewN ?_ _ | refine blk_drew ?_ | refine blk_alloc ?_ _)); refine blk_far ?_ NB1152_1166.out _; (with_reducible repeat (first | refine blk_drewN ?_ _ | refine blk_drew ?_ | refine blk_alloc ?_ _)); refine blk_far ?_ NB1152_1166.out _; (with_reducible repeat (first | refine blk_drewN ?_ _ | refine blk_drew ?_ | refine blk_alloc ?_ _)); exact BK1152.out) hb); have n9_ := Aside0.mk (blk_below (g := gb1166) (o := .cells #[.slice Ao38 t1159.length co38, .int .i64 t1162, .slice Ao41 t1163.length co41] 30 (0, 0)) (by (with_reducible repeat (first | refine blk_drewN ?_ _ | refine blk_drew ?_ | refine blk_alloc ?_ _)); refine blk_put (cs := #[.slice Ao38 t1159.length co38, .int .i64 t1162, .slice none 0 0]) ?_ 2 _ rfl; (with_reducible repeat (first | refine blk_drewN ?_ _ | refine blk_drew ?_ | refine blk_alloc ?_ _)); refine blk_put (cs := #[.slice Ao38 t1159.length co38, .int .i64 0, .slice none 0 0]) ?_ 1 _ rfl; (with_reducible repeat (first | refine blk_drewN ?_ _ | refine blk_drew ?_ | refine blk_alloc ?_ _)); refine blk_put (cs := #[.slice none 0 0, .int .i64 0, .slice none 0 0]) ?_ 0 _ rfl; (with_reducible repeat (first | refine blk_drewN ?_ _ | refine blk_drew ?_ | refine blk_alloc ?_ _)); exact BK1166.out) hb); have n10_ := Aside0.mk (below_step (oB HB) hb); clear HO_4; clear HO_7; clear HO_1153000; clear HO_1153002; clear HO1161; clear HO1165; clear BK1152; clear BK1166; clear HB; have HO_4 := n0_; have HO_7 := n1_; have HO_1153000 := n2_; have HO_1153002 := n3_; have HO1161 := n4_; have HO1165 := n5_; have HO1169 := n6_; have HO1173 := n7_; have BK1152 := n8_; have BK1166 := n9_; have HB := n10_; clear n0_ n1_ n2_ n3_ n4_ n5_ n6_ n7_ n8_ n9_ n10_; (try clear hb); (try clear hb2); (try clear hk); (try clear hi); (try clear ho0); (try clear ho1)) | ((with_reducible refine gate_dst (N := 11) rfl ?_); refine box_event ?hg (N := 11) ?hd (cs := #[.slice none 0 0, .int .i64 0, .slice none 0 0]) (t := 30) ?hr ?_; (case hd => rfl); (case hg => rfl); (case hr => first | (go_simp; done) | (go_simp; rfl)); intro gb1174 hg w43 hbox hb; have n0_ := Aside0.mk (Kd.R_below (oR HO_4) hb); have n1_ := Aside0.mk (Kd.R_below (oR HO_7) hb); have n2_ := Aside0.mk (Kd.R_below (oR HO_1153000) hb); have n3_ := Aside0.mk (Kd.R_below (oR HO_1153002) hb); have n4_ := Aside0.mk (Kd.R_below (oR HO1161) hb); have n5_ := Aside0.mk (Kd.R_below (oR HO1165) hb); have n6_ := Aside0.mk (Kd.R_below (oR HO1169) hb); have n7_ := Aside0.mk (Kd.R_below (oR HO1173) hb); have n8_ := Aside0.mk (blk_below (g := gb1152) (o := .cells #[.slice Ao12 t1144.length co12, .int .i64 t1147, .slice Ao14 t1148.length co14] 30 (0, 0)) (oK BK1152) hb); have n9_ := Aside0.mk (blk_below (g := gb1166) (o := .cells #[.slice Ao38 t1159.length co38, .int .i64 t1162, .slice Ao41 t1163.length co41] 30 (0, 0)) (oK BK1166) hb); have n10_ := Aside0.mk (below_step (oB HB) hb); have n11_ := Aside0.mk (hbox); have n12_ := Aside0.mk ((by rw [hg]; exact (below_size (oB HB)) : w.heap.size ≤ gb1174)); have n13_ := Aside0.mk ((by rw [hg]; exact (below_size (oB HB)) : w.heap.size ≤ gb1174)); have n14_ := Aside0.mk ((by rw [hg]; exact Nat.ne_of_lt (blk_lt (g := gb1152) (o := .cells #[.slice Ao12 t1144.length co12, .int .i64 t1147, .slice Ao14 t1148.length co14] 30 (0, 0)) (oK BK1152)) : gb1152 ≠ gb1174)); have n15_ := Aside0.mk ((by rw [hg]; exact Nat.ne_of_gt (blk_lt (g := gb1152) (o := .cells #[.slice Ao12 t1144.length co12, .int .i64 t1147, .slice Ao14 t1148.length co14] 30 (0, 0)) (oK BK1152)) : gb1174 ≠ gb1152)); have n16_ := Aside0.mk ((by rw [hg]; exact Nat.ne_of_lt (blk_lt (g := gb1166) (o := .cells #[.slice Ao38 t1159.length co38, .int .i64 t1162, .slice Ao41 t1163.length co41] 30 (0, 0)) (oK BK1166)) : gb1166 ≠ gb1174)); have n17_ := Aside0.mk ((by rw [hg]; exact Nat.ne_of_gt (blk_lt (g := gb1166) (o := .cells #[.slice Ao38 t1159.length co38, .int .i64 t1162, .slice Ao41 t1163.length co41] 30 (0, 0)) (oK BK1166)) : gb1174 ≠ gb1166)); clear HO_4; clear HO_7; clear HO_1153000; clear HO_1153002; clear HO1161; clear HO1165; clear HO1169; clear HO1173; clear BK1152; clear BK1166; clear HB; have HO_4 := n0_; have HO_7 := n1_; have HO_1153000 := n2_; have HO_1153002 := n3_; have HO1161 := n4_; have HO1165 := n5_; have HO1169 := n6_; have HO1173 := n7_; have BK1152 := n8_; have BK1166 := n9_; have HB := n10_; have BK1174 := n11_; have GW1174 := n12_; have GE1174 := n13_; have NB1152_1174 := n14_; have NB1174_1152 := n15_; have NB1166_1174 := n16_; have NB1174_1166 := n17_; clear n0_ n1_ n2_ n3_ n4_ n5_ n6_ n7_ n8_ n9_ n10_ n11_ n12_ n13_ n14_ n15_ n16_ n17_; clear hb hbox hg; obtain ⟨Ao44, co44, eo44⟩ := Kd.R_slice HO1169.out; subst eo44; have hnb45 := NB1174_1152.out; have hnc45 := NB1152_1174.out; have hnb46 := NB1174_1166.out; have hnc46 := NB1166_1174.out; have hcz47_0 : w43.cell? ⟨gb1174, 0, none⟩ = some (.slice none 0 0) := (blk_cell BK1174.out 0).trans rfl; have hcz47_1 : w43.cell? ⟨gb1174, 1, none⟩ = some (.int .i64 0) := (blk_cell BK1174.out 1).trans rfl; have hcz47_2 : w43.cell? ⟨gb1174, 2, none⟩ = some (.slice none 0 0) := (blk_cell BK1174.out 2).trans rfl; have hfz47_0 := blk_frozen BK1174.out 0; have hfz47_1 := blk_frozen BK1174.out 1; have hfz47_2 := blk_frozen BK1174.out 2; obtain ⟨Ao48, co48, eo48⟩ := Kd.R_slice HO1173.out; subst eo48; have hcz49_0 : w43.cell? ⟨gb1152, 0, none⟩ = some (.slice Ao12 t1144.length co12) := (blk_cell BK1152.out 0).trans rfl; have hcz49_1 : w43.cell? ⟨gb1152, 1, none⟩ = some (.int .i64 t1147) := (blk_cell BK1152.out 1).trans rfl; have hcz49_2 : w43.cell? ⟨gb1152, 2, none⟩ = some (.slice Ao14 t1148.length co14) := (blk_cell BK1152.out 2).trans rfl; have hfz49_0 := blk_frozen BK1152.out 0; have hfz49_1 := blk_frozen BK1152.out 1; have hfz49_2 := blk_frozen BK1152.out 2) | ((with_reducible refine gate_callee (f := 42) rfl ?_); refine goesL_ (some 52) rfl rfl Try.func42 (by kernel_rfl) rfl #[.agg #[.slice Ao12 t1144.length co12, .int .i64 t1147, .slice Ao14 t1148.length co14], .int .i64 100] rfl (by (try simp only [List.map_toArray, List.map_cons, List.map_nil]); first | done | rfl | (simp only [List.length_drop, List.length_take]; rfl)) ?_; (with_reducible refine (impl_WorkSteps.calls kj6 _ _ t1144 t1147 _ _ t1148 100 t1175 t1178 t1179 _ ?side1 ?side2 ?side3 ?side4 A25.out).mono ?_); (case side1 => refine (Kd.R_reads' (e := 67) (base := w.heap.size) (ok := fun k_ => ((some k_ ≠ (.slice Ao9 t1141.length co9 : Value).ownBlock ∧ some k_ ≠ (.slice Ao38 t1159.length co38 : Value).ownBlock) ∧ some k_ ≠ (.slice Ao44 t1167.length co44 : Value).ownBlock)) (n := t1144.length) (c := co12) ?_).2.2; exact (by (with_reducible repeat (first | apply Kd.R_alloc | apply Kd.R_drewN | apply Kd.R_drew)); exact (Kd.R_mono (Kd.R_far (p := ⟨gb1174, 2, none⟩) (Kd.R_far (p := ⟨gb1174, 1, none⟩) (Kd.R_far (p := ⟨gb1174, 0, none⟩) (Kd.R_types HO_1153000.out BK1174.out (by decide)) (fun _ hk => hk.2) (.slice Ao44 t1167.length co44)) (fun _ hk => hk.2) (.int .i64 t1170)) (fun _ hk => hk.2) (.slice Ao48 t1171.length co48)) (fun _ h_ => h_.1)))); (case side2 => exact (Kd.R_reads' HO_1153000.out).2.1); (case side3 => refine (Kd.R_reads' (e := 3) (base := w.heap.size) (ok := fun k_ => ((some k_ ≠ (v1155 : Value).ownBlock ∧ some k_ ≠ (.slice Ao41 t1163.length co41 : Value).ownBlock) ∧ some k_ ≠ (.slice Ao48 t1171.length co48 : Value).ownBlock)) (n := t1148.length) (c := co14) ?_).2.2; exact (by (with_reducible repeat (first | apply Kd.R_alloc | apply Kd.R_drewN | apply Kd.R_drew)); exact (Kd.R_mono (Kd.R_far (p := ⟨gb1174, 2, none⟩) (Kd.R_far (p := ⟨gb1174, 1, none⟩) (Kd.R_far (p := ⟨gb1174, 0, none⟩) (Kd.R_types HO_1153002.out BK1174.out (by decide)) (fun _ hk => hk.2) (.slice Ao44 t1167.length co44)) (fun _ hk => hk.2) (.int .i64 t1170)) (fun _ hk => hk.2) (.slice Ao48 t1171.length co48)) (fun _ h_ => h_.1)))); (case side4 => exact (Kd.R_reads' HO_1153002.out).2.1); rintro e w50 ⟨v1176, v1180, rfl, ho0, ho1, hb⟩; refine ⟨_, rfl, ?_⟩; have n0_ := Aside0.mk (Kd.R_elder' (by (with_reducible repeat (first | apply Kd.R_alloc | apply Kd.R_drewN | apply Kd.R_drew)); exact (Kd.R_mono (Kd.R_far (p := ⟨gb1174, 2, none⟩) (Kd.R_far (p := ⟨gb1174, 1, none⟩) (Kd.R_far (p := ⟨gb1174, 0, none⟩) (Kd.R_types HO_4.out BK1174.out (by decide)) (fun _ hk => hk.2) (.slice Ao44 t1167.length co44)) (fun _ hk => hk.2) (.int .i64 t1170)) (fun _ hk => hk.2) (.slice Ao48 t1171.length co48)) (fun _ h_ => h_.1))) (Kd.R_base ho0) hb); have n1_ := Aside0.mk (Kd.R_elder' (by (with_reducible repeat (first | apply Kd.R_alloc | apply Kd.R_drewN | apply Kd.R_drew)); exact (Kd.R_mono (Kd.R_far (p := ⟨gb1174, 2, none⟩) (Kd.R_far (p := ⟨gb1174, 1, none⟩) (Kd.R_far (p := ⟨gb1174, 0, none⟩) (Kd.R_types HO_7.out BK1174.out (by decide)) (fun _ hk => hk.2) (.slice Ao44 t1167.length co44)) (fun _ hk => hk.2) (.int .i64 t1170)) (fun _ hk => hk.2) (.slice Ao48 t1171.length co48)) (fun _ h_ => h_.1))) (Kd.R_base ho1) hb); have n2_ := Aside0.mk (Kd.R_elder' (by (with_reducible repeat (first | apply Kd.R_alloc | apply Kd.R_drewN | apply Kd.R_drew)); exact (Kd.R_mono (Kd.R_far (p := ⟨gb1174, 2, none⟩) (Kd.R_far (p := ⟨gb1174, 1, none⟩) (Kd.R_far (p := ⟨gb1174, 0, none⟩) (Kd.R_types HO_1153000.out BK1174.out (by decide)) (fun _ hk => hk.2) (.slice Ao44 t1167.length co44)) (fun _ hk => hk.2) (.int .i64 t1170)) (fun _ hk => hk.2) (.slice Ao48 t1171.length co48)) (fun _ h_ => h_.1))) (Kd.R_base ho0) hb); have n3_ := Aside0.mk (Kd.R_elder' (by (with_reducible repeat (first | apply Kd.R_alloc | apply Kd.R_drewN | apply Kd.R_drew)); exact (Kd.R_mono (Kd.R_far (p := ⟨gb1174, 2, none⟩) (Kd.R_far (p := ⟨gb1174, 1, none⟩) (Kd.R_far (p := ⟨gb1174, 0, none⟩) (Kd.R_types HO_1153002.out BK1174.out (by decide)) (fun _ hk => hk.2) (.slice Ao44 t1167.length co44)) (fun _ hk => hk.2) (.int .i64 t1170)) (fun _ hk => hk.2) (.slice Ao48 t1171.length co48)) (fun _ h_ => h_.1))) (Kd.R_base ho1) hb); have n4_ := Aside0.mk (Kd.R_elder' (by (with_reducible repeat (first | apply Kd.R_alloc | apply Kd.R_drewN | apply Kd.R_drew)); exact (Kd.R_mono (Kd.R_far (p := ⟨gb1174, 2, none⟩) (Kd.R_far (p := ⟨gb1174, 1, none⟩) (Kd.R_far (p := ⟨gb1174, 0, none⟩) (Kd.R_types HO1161.out BK1174.out (by decide)) (fun _ hk => hk.2) (.slice Ao44 t1167.length co44)) (fun _ hk => hk.2) (.int .i64 t1170)) (fun _ hk => hk.2) (.slice Ao48 t1171.length co48)) (fun _ h_ => h_.1))) (Kd.R_base ho0) hb); have n5_ := Aside0.mk (Kd.R_elder' (by (with_reducible repeat (first | apply Kd.R_alloc | apply Kd.R_drewN | apply Kd.R_drew)); exact (Kd.R_mono (Kd.R_far (p := ⟨gb1174, 2, none⟩) (Kd.R_far (p := ⟨gb1174, 1, none⟩) (Kd.R_far (p := ⟨gb1174, 0, none⟩) (Kd.R_types HO1165.out BK1174.out (by decide)) (fun _ hk => hk.2) (.slice Ao44 t1167.length co44)) (fun _ hk => hk.2) (.int .i64 t1170)) (fun _ hk => hk.2) (.slice Ao48 t1171.length co48)) (fun _ h_ => h_.1))) (Kd.R_base ho1) hb); have n6_ := Aside0.mk (Kd.R_elder' (by (with_reducible repeat (first | apply Kd.R_alloc | apply Kd.R_drewN | apply Kd.R_drew)); exact (Kd.R_mono (Kd.R_far (p := ⟨gb1174, 2, none⟩) (Kd.R_far (p := ⟨gb1174, 1, none⟩) (Kd.R_far (p := ⟨gb1174, 0, none⟩) (Kd.R_types HO1169.out BK1174.out (by decide)) (fun _ hk => hk.2) (.slice Ao44 t1167.length co44)) (fun _ hk => hk.2) (.int .i64 t1170)) (fun _ hk => hk.2) (.slice Ao48 t1171.length co48)) (fun _ h_ => h_.1))) (Kd.R_base ho0) hb); have n7_ := Aside0.mk (Kd.R_elder' (by (with_reducible repeat (first | apply Kd.R_alloc | apply Kd.R_drewN | apply Kd.R_drew)); exact (Kd.R_mono (Kd.R_far (p := ⟨gb1174, 2, none⟩) (Kd.R_far (p := ⟨gb1174, 1, none⟩) (Kd.R_far (p := ⟨gb1174, 0, none⟩) (Kd.R_types HO1173.out BK1174.out (by decide)) (fun _ hk => hk.2) (.slice Ao44 t1167.length co44)) (fun _ hk => hk.2) (.int .i64 t1170)) (fun _ hk => hk.2) (.slice Ao48 t1171.length co48)) (fun _ h_ => h_.1))) (Kd.R_base ho1) hb); have n8_ := Aside0.mk (Kd.R_lower (Kd.R_new' (Kd.R_new' (Kd.R_new' (Kd.R_new' ho0 (Kd.R_lt (by (with_reducible repeat (first | apply Kd.R_alloc | apply Kd.R_drewN | apply Kd.R_drew)); exact (Kd.R_mono (Kd.R_far (p := ⟨gb1174, 2, none⟩) (Kd.R_far (p := ⟨gb1174, 1, none⟩) (Kd.R_far (p := ⟨gb1174, 0, none⟩) (Kd.R_types HO_4.out BK1174.out (by decide)) (fun _ hk => hk.2) (.slice Ao44 t1167.length co44)) (fun _ hk => hk.2) (.int .i64 t1170)) (fun _ hk => hk.2) (.slice Ao48 t1171.length co48)) (fun _ h_ => h_.1))))) (Kd.R_lt (by (with_reducible repeat (first | apply Kd.R_alloc | apply Kd.R_drewN | apply Kd.R_drew)); exact (Kd.R_mono (Kd.R_far (p := ⟨gb1174, 2, none⟩) (Kd.R_far (p := ⟨gb1174, 1, none⟩) (Kd.R_far (p := ⟨gb1174, 0, none⟩) (Kd.R_types HO_1153000.out BK1174.out (by decide)) (fun _ hk => hk.2) (.slice Ao44 t1167.length co44)) (fun _ hk => hk.2) (.int .i64 t1170)) (fun _ hk => hk.2) (.slice Ao48 t1171.length co48)) (fun _ h_ => h_.1))))) (Kd.R_lt (by (with_reducible repeat (first | apply Kd.R_alloc | apply Kd.R_drewN | apply Kd.R_drew)); exact (Kd.R_mono (Kd.R_far (p := ⟨gb1174, 2, none⟩) (Kd.R_far (p := ⟨gb1174, 1, none⟩) (Kd.R_far (p := ⟨gb1174, 0, none⟩) (Kd.R_types HO1161.out BK1174.out (by decide)) (fun _ hk => hk.2) (.slice Ao44 t1167.length co44)) (fun _ hk => hk.2) (.int .i64 t1170)) (fun _ hk => hk.2) (.slice Ao48 t1171.length co48)) (fun _ h_ => h_.1))))) (Kd.R_lt (by (with_reducible repeat (first | apply Kd.R_alloc | apply Kd.R_drewN | apply Kd.R_drew)); exact (Kd.R_mono (Kd.R_far (p := ⟨gb1174, 2, none⟩) (Kd.R_far (p := ⟨gb1174, 1, none⟩) (Kd.R_far (p := ⟨gb1174, 0, none⟩) (Kd.R_types HO1169.out BK1174.out (by decide)) (fun _ hk => hk.2) (.slice Ao44 t1167.length co44)) (fun _ hk => hk.2) (.int .i64 t1170)) (fun _ hk => hk.2) (.slice Ao48 t1171.length co48)) (fun _ h_ => h_.1))))) (below_size (oB HB))); have n9_ := Aside0.mk (Kd.R_lower (Kd.R_new' (Kd.R_new' (Kd.R_new' (Kd.R_new' ho1 (Kd.R_lt (by (with_reducible repeat (first | apply Kd.R_alloc | apply Kd.R_drewN | apply Kd.R_drew)); exact (Kd.R_mono (Kd.R_far (p := ⟨gb1174, 2, none⟩) (Kd.R_far (p := ⟨gb1174, 1, none⟩) (Kd.R_far (p := ⟨gb1174, 0, none⟩) (Kd.R_types HO_7.out BK1174.out (by decide)) (fun _ hk => hk.2) (.slice Ao44 t1167.length co44)) (fun _ hk => hk.2) (.int .i64 t1170)) (fun _ hk => hk.2) (.slice Ao48 t1171.length co48)) (fun _ h_ => h_.1))))) (Kd.R_lt (by (with_reducible repeat (first | apply Kd.R_alloc | apply Kd.R_drewN | apply Kd.R_drew)); exact (Kd.R_mono (Kd.R_far (p := ⟨gb1174, 2, none⟩) (Kd.R_far (p := ⟨gb1174, 1, none⟩) (Kd.R_far (p := ⟨gb1174, 0, none⟩) (Kd.R_types HO_1153002.out BK1174.out (by decide)) (fun _ hk => hk.2) (.slice Ao44 t1167.length co44)) (fun _ hk => hk.2) (.int .i64 t1170)) (fun _ hk => hk.2) (.slice Ao48 t1171.length co48)) (fun _ h_ => h_.1))))) (Kd.R_lt (by (with_reducible repeat (first | apply Kd.R_alloc | apply Kd.R_drewN | apply Kd.R_drew)); exact (Kd.R_mono (Kd.R_far (p := ⟨gb1174, 2, none⟩) (Kd.R_far (p := ⟨gb1174, 1, none⟩) (Kd.R_far (p := ⟨gb1174, 0, none⟩) (Kd.R_types HO1165.out BK1174.out (by decide)) (fun _ hk => hk.2) (.slice Ao44 t1167.length co44)) (fun _ hk => hk.2) (.int .i64 t1170)) (fun _ hk => hk.2) (.slice Ao48 t1171.length co48)) (fun _ h_ => h_.1))))) (Kd.R_lt (by (with_reducible repeat (first | apply Kd.R_alloc | apply Kd.R_drewN | apply Kd.R_drew)); exact (Kd.R_mono (Kd.R_far (p := ⟨gb1174, 2, none⟩) (Kd.R_far (p := ⟨gb1174, 1, none⟩) (Kd.R_far (p := ⟨gb1174, 0, none⟩) (Kd.R_types HO1173.out BK1174.out (by decide)) (fun _ hk => hk.2) (.slice Ao44 t1167.length co44)) (fun _ hk => hk.2) (.int .i64 t1170)) (fun _ hk => hk.2) (.slice Ao48 t1171.length co48)) (fun _ h_ => h_.1))))) (below_size (oB HB))); have n10_ := Aside0.mk (blk_below (g := gb1152) (o := .cells #[.slice Ao12 t1144.length co12, .int .i64 t1147, .slice Ao14 t1148.length co14] 30 (0, 0)) (by (with_reducible repeat (first | refine blk_drewN ?_ _ | refine blk_drew ?_ | refine blk_alloc ?_ _)); refine blk_far ?_ NB1152_1174.out _; (with_reducible repeat (first | refine blk_drewN ?_ _ | refine blk_drew ?_ | refine blk_alloc ?_ _)); refine blk_far ?_ NB1152_1174.out _; (with_reducible repeat (first | refine blk_drewN ?_ _ | refine blk_drew ?_ | refine blk_alloc ?_ _)); refine blk_far ?_ NB1152_1174.out _; (with_reducible repeat (first | refine blk_drewN ?_ _ | refine blk_drew ?_ | refine blk_alloc ?_ _)); exact BK1152.out) hb); have n11_ := Aside0.mk (blk_below (g := gb1166) (o := .cells #[.slice Ao38 t1159.length co38, .int .i64 t1162, .slice Ao41 t1163.length co41] 30 (0, 0)) (by (with_reducible repeat (first | refine blk_drewN ?_ _ | refine blk_drew ?_ | refine blk_alloc ?_ _)); refine blk_far ?_ NB1166_1174.out _; (with_reducible repeat (first | refine blk_drewN ?_ _ | refine blk_drew ?_ | refine blk_alloc ?_ _)); refine blk_far ?_ NB1166_1174.out _; (with_reducible repeat (first | refine blk_drewN ?_ _ | refine blk_drew ?_ | refine blk_alloc ?_ _)); refine blk_far ?_ NB1166_1174.out _; (with_reducible repeat (first | refine blk_drewN ?_ _ | refine blk_drew ?_ | refine blk_alloc ?_ _)); exact BK1166.out) hb); have n12_ := Aside0.mk (blk_below (g := gb1174) (o := .cells #[.slice Ao44 t1167.length co44, .int .i64 t1170, .slice Ao48 t1171.length co48] 30 (0, 0)) (by (with_reducible repeat (first | refine blk_drewN ?_ _ | refine blk_drew ?_ | refine blk_alloc ?_ _)); refine blk_put (cs := #[.slice Ao44 t1167.length co44, .int .i64 t1170, .slice none 0 0]) ?_ 2 _ rfl; (with_reducible repeat (first | refine blk_drewN ?_ _ | refine blk_drew ?_ | refine blk_alloc ?_ _)); refine blk_put (cs := #[.slice Ao44 t1167.length co44, .int .i64 0, .slice none 0 0]) ?_ 1 _ rfl; (with_reducible repeat (first | refine blk_drewN ?_ _ | refine blk_drew ?_ | refine blk_alloc ?_ _)); refine blk_put (cs := #[.slice none 0 0, .int .i64 0, .slice none 0 0]) ?_ 0 _ rfl; (with_reducible repeat (first | refine blk_drewN ?_ _ | refine blk_drew ?_ | refine blk_alloc ?_ _)); exact BK1174.out) hb); have n13_ := Aside0.mk (below_step (oB HB) hb); clear HO_4; clear HO_7; clear HO_1153000; clear HO_1153002; clear HO1161; clear HO1165; clear HO1169; clear HO1173; clear BK1152; clear BK1166; clear BK1174; clear HB; have HO_4 := n0_; have HO_7 := n1_; have HO_1153000 := n2_; have HO_1153002 := n3_; have HO1161 := n4_; have HO1165 := n5_; have HO1169 := n6_; have HO1173 := n7_; have HO1177 := n8_; have HO1181 := n9_; have BK1152 := n10_; have BK1166 := n11_; have BK1174 := n12_; have HB := n13_; clear n0_ n1_ n2_ n3_ n4_ n5_ n6_ n7_ n8_ n9_ n10_ n11_ n12_ n13_; (try clear hb); (try clear hb2); (try clear hk); (try clear hi); (try clear ho0); (try clear ho1)) | ((with_reducible refine gate_dst (N := 12) rfl ?_); refine box_event ?hg (N := 12) ?hd (cs := #[.slice none 0 0, .int .i64 0, .slice none 0 0]) (t := 30) ?hr ?_; (case hd => rfl); (case hg => rfl); (case hr => first | (go_simp; done) | (go_simp; rfl)); intro gb1182 hg w51 hbox hb; have n0_ := Aside0.mk (Kd.R_below (oR HO_4) hb); have n1_ := Aside0.mk (Kd.R_below (oR HO_7) hb); have n2_ := Aside0.mk (Kd.R_below (oR HO_1153000) hb); have n3_ := Aside0.mk (Kd.R_below (oR HO_1153002) hb); have n4_ := Aside0.mk (Kd.R_below (oR HO1161) hb); have n5_ := Aside0.mk (Kd.R_below (oR HO1165) hb); have n6_ := Aside0.mk (Kd.R_below (oR HO1169) hb); have n7_ := Aside0.mk (Kd.R_below (oR HO1173) hb); have n8_ := Aside0.mk (Kd.R_below (oR HO1177) hb); have n9_ := Aside0.mk (Kd.R_below (oR HO1181) hb); have n10_ := Aside0.mk (blk_below (g := gb1152) (o := .cells #[.slice Ao12 t1144.length co12, .int .i64 t1147, .slice Ao14 t1148.length co14] 30 (0, 0)) (oK BK1152) hb); have n11_ := Aside0.mk (blk_below (g := gb1166) (o := .cells #[.slice Ao38 t1159.length co38, .int .i64 t1162, .slice Ao41 t1163.length co41] 30 (0, 0)) (oK BK1166) hb); have n12_ := Aside0.mk (blk_below (g := gb1174) (o := .cells #[.slice Ao44 t1167.length co44, .int .i64 t1170, .slice Ao48 t1171.length co48] 30 (0, 0)) (oK BK1174) hb); have n13_ := Aside0.mk (below_step (oB HB) hb); have n14_ := Aside0.mk (hbox); have n15_ := Aside0.mk ((by rw [hg]; exact (below_size (oB HB)) : w.heap.size ≤ gb1182)); have n16_ := Aside0.mk ((by rw [hg]; exact (below_size (oB HB)) : w.heap.size ≤ gb1182)); have n17_ := Aside0.mk ((by rw [hg]; exact Nat.ne_of_lt (blk_lt (g := gb1152) (o := .cells #[.slice Ao12 t1144.length co12, .int .i64 t1147, .slice Ao14 t1148.length co14] 30 (0, 0)) (oK BK1152)) : gb1152 ≠ gb1182)); have n18_ := Aside0.mk ((by rw [hg]; exact Nat.ne_of_gt (blk_lt (g := gb1152) (o := .cells #[.slice Ao12 t1144.length co12, .int .i64 t1147, .slice Ao14 t1148.length co14] 30 (0, 0)) (oK BK1152)) : gb1182 ≠ gb1152)); have n19_ := Aside0.mk ((by rw [hg]; exact Nat.ne_of_lt (blk_lt (g := gb1166) (o := .cells #[.slice Ao38 t1159.length co38, .int .i64 t1162, .slice Ao41 t1163.length co41] 30 (0, 0)) (oK BK1166)) : gb1166 ≠ gb1182)); have n20_ := Aside0.mk ((by rw [hg]; exact Nat.ne_of_gt (blk_lt (g := gb1166) (o := .cells #[.slice Ao38 t1159.length co38, .int .i64 t1162, .slice Ao41 t1163.length co41] 30 (0, 0)) (oK BK1166)) : gb1182 ≠ gb1166)); have n21_ := Aside0.mk ((by rw [hg]; exact Nat.ne_of_lt (blk_lt (g := gb1174) (o := .cells #[.slice Ao44 t1167.length co44, .int .i64 t1170, .slice Ao48 t1171.length co48] 30 (0, 0)) (oK BK1174)) : gb1174 ≠ gb1182)); have n22_ := Aside0.mk ((by rw [hg]; exact Nat.ne_of_gt (blk_lt (g := gb1174) (o := .cells #[.slice Ao44 t1167.length co44, .int .i64 t1170, .slice Ao48 t1171.length co48] 30 (0, 0)) (oK BK1174)) : gb1182 ≠ gb1174)); clear HO_4; clear HO_7; clear HO_1153000; clear HO_1153002; clear HO1161; clear HO1165; clear HO1169; clear HO1173; clear HO1177; clear HO1181; clear BK1152; clear BK1166; clear BK1174; clear HB; have HO_4 := n0_; have HO_7 := n1_; have HO_1153000 := n2_; have HO_1153002 := n3_; have HO1161 := n4_; have HO1165 := n5_; have HO1169 := n6_; have HO1173 := n7_; have HO1177 := n8_; have HO1181 := n9_; have BK1152 := n10_; have BK1166 := n11_; have BK1174 := n12_; have HB := n13_; have BK1182 := n14_; have GW1182 := n15_; have GE1182 := n16_; have NB1152_1182 := n17_; have NB1182_1152 := n18_; have NB1166_1182 := n19_; have NB1182_1166 := n20_; have NB1174_1182 := n21_; have NB1182_1174 := n22_; clear n0_ n1_ n2_ n3_ n4_ n5_ n6_ n7_ n8_ n9_ n10_ n11_ n12_ n13_ n14_ n15_ n16_ n17_ n18_ n19_ n20_ n21_ n22_; clear hb hbox hg; obtain ⟨Ao52, co52, eo52⟩ := Kd.R_slice HO1177.out; subst eo52; have hnb53 := NB1182_1152.out; have hnc53 := NB1152_1182.out; have hnb54 := NB1182_1166.out; have hnc54 := NB1166_1182.out; have hnb55 := NB1182_1174.out; have hnc55 := NB1174_1182.out; have hcz56_0 : w51.cell? ⟨gb1182, 0, none⟩ = some (.slice none 0 0) := (blk_cell BK1182.out 0).trans rfl; have hcz56_1 : w51.cell? ⟨gb1182, 1, none⟩ = some (.int .i64 0) := (blk_cell BK1182.out 1).trans rfl; have hcz56_2 : w51.cell? ⟨gb1182, 2, none⟩ = some (.slice none 0 0) := (blk_cell BK1182.out 2).trans rfl; have hfz56_0 := blk_frozen BK1182.out 0; have hfz56_1 := blk_frozen BK1182.out 1; have hfz56_2 := blk_frozen BK1182.out 2; obtain ⟨Ao57, co57, eo57⟩ := Kd.R_slice HO1181.out; subst eo57; have hcz58_0 : w51.cell? ⟨gb1166, 0, none⟩ = some (.slice Ao38 t1159.length co38) := (blk_cell BK1166.out 0).trans rfl; have hcz58_1 : w51.cell? ⟨gb1166, 1, none⟩ = some (.int .i64 t1162) := (blk_cell BK1166.out 1).trans rfl; have hcz58_2 : w51.cell? ⟨gb1166, 2, none⟩ = some (.slice Ao41 t1163.length co41) := (blk_cell BK1166.out 2).trans rfl; have hfz58_0 := blk_frozen BK1166.out 0; have hfz58_1 := blk_frozen BK1166.out 1; have hfz58_2 := blk_frozen BK1166.out 2; have hcz59_0 : w51.cell? ⟨gb1174, 0, none⟩ = some (.slice Ao44 t1167.length co44) := (blk_cell BK1174.out 0).trans rfl; have hcz59_1 : w51.cell? ⟨gb1174, 1, none⟩ = some (.int .i64 t1170) := (blk_cell BK1174.out 1).trans rfl; have hcz59_2 : w51.cell? ⟨gb1174, 2, none⟩ = some (.slice Ao48 t1171.length co48) := (blk_cell BK1174.out 2).trans rfl; have hfz59_0 := blk_frozen BK1174.out 0; have hfz59_1 := blk_frozen BK1174.out 1; have hfz59_2 := blk_frozen BK1174.out 2) | (go_at_call 21; (with_reducible refine (impl_IsFinished.calls _ _ t1167 t1170 _ _ t1171 true _ ?side1 ?side2 ?side3 ?side4 A28.out).mono ?_); (case side1 => refine (Kd.R_reads' (e := 67) (base := w.heap.size) (ok := fun k_ => ((((True ∧ some k_ ≠ (.slice Ao9 t1141.length co9 : Value).ownBlock) ∧ some k_ ≠ (.slice Ao12 t1144.length co12 : Value).ownBlock) ∧ some k_ ≠ (.slice Ao38 t1159.length co38 : Value).ownBlock) ∧ some k_ ≠ (.slice Ao52 t1175.length co52 : Value).ownBlock)) (n := t1167.length) (c := co44) ?_).2.2; exact (by (with_reducible repeat (first | apply Kd.R_alloc | apply Kd.R_drewN | apply Kd.R_drew)); exact (Kd.R_mono (Kd.R_far (p := ⟨gb1182, 2, none⟩) (Kd.R_far (p := ⟨gb1182, 1, none⟩) (Kd.R_far (p := ⟨gb1182, 0, none⟩) (Kd.R_types HO1169.out BK1182.out (by decide)) (fun _ hk => hk.2) (.slice Ao52 t1175.length co52)) (fun _ hk => hk.2) (.int .i64 t1178)) (fun _ hk => hk.2) (.slice Ao57 t1179.length co57)) (fun _ h_ => h_.1)))); (case side2 => exact (Kd.R_reads' HO1169.out).2.1); (case side3 => refine (Kd.R_reads' (e := 3) (base := w.heap.size) (ok := fun k_ => ((((True ∧ some k_ ≠ (v1155 : Value).ownBlock) ∧ some k_ ≠ (.slice Ao14 t1148.length co14 : Value).ownBlock) ∧ some k_ ≠ (.slice Ao41 t1163.length co41 : Value).ownBlock) ∧ some k_ ≠ (.slice Ao57 t1179.length co57 : Value).ownBlock)) (n := t1171.length) (c := co48) ?_).2.2; exact (by (with_reducible repeat (first | apply Kd.R_alloc | apply Kd.R_drewN | apply Kd.R_drew)); exact (Kd.R_mono (Kd.R_far (p := ⟨gb1182, 2, none⟩) (Kd.R_far (p := ⟨gb1182, 1, none⟩) (Kd.R_far (p := ⟨gb1182, 0, none⟩) (Kd.R_types HO1173.out BK1182.out (by decide)) (fun _ hk => hk.2) (.slice Ao52 t1175.length co52)) (fun _ hk => hk.2) (.int .i64 t1178)) (fun _ hk => hk.2) (.slice Ao57 t1179.length co57)) (fun _ h_ => h_.1)))); (case side4 => exact (Kd.R_reads' HO1173.out).2.1); rintro e w60 ⟨rfl, hb⟩; have n0_ := Aside0.mk (Kd.R_below (by (with_reducible repeat (first | apply Kd.R_alloc | apply Kd.R_drewN | apply Kd.R_drew)); exact (Kd.R_mono (Kd.R_far (p := ⟨gb1182, 2, none⟩) (Kd.R_far (p := ⟨gb1182, 1, none⟩) (Kd.R_far (p := ⟨gb1182, 0, none⟩) (Kd.R_types HO_4.out BK1182.out (by decide)) (fun _ hk => hk.2) (.slice Ao52 t1175.length co52)) (fun _ hk => hk.2) (.int .i64 t1178)) (fun _ hk => hk.2) (.slice Ao57 t1179.length co57)) (fun _ h_ => h_.1))) hb); have n1_ := Aside0.mk (Kd.R_below (by (with_reducible repeat (first | apply Kd.R_alloc | apply Kd.R_drewN | apply Kd.R_drew)); exact (Kd.R_mono (Kd.R_far (p := ⟨gb1182, 2, none⟩) (Kd.R_far (p := ⟨gb1182, 1, none⟩) (Kd.R_far (p := ⟨gb1182, 0, none⟩) (Kd.R_types HO_7.out BK1182.out (by decide)) (fun _ hk => hk.2) (.slice Ao52 t1175.length co52)) (fun _ hk => hk.2) (.int .i64 t1178)) (fun _ hk => hk.2) (.slice Ao57 t1179.length co57)) (fun _ h_ => h_.1))) hb); have n2_ := Aside0.mk (Kd.R_below (by (with_reducible repeat (first | apply Kd.R_alloc | apply Kd.R_drewN | apply Kd.R_drew)); exact (Kd.R_mono (Kd.R_far (p := ⟨gb1182, 2, none⟩) (Kd.R_far (p := ⟨gb1182, 1, none⟩) (Kd.R_far (p := ⟨gb1182, 0, none⟩) (Kd.R_types HO_1153000.out BK1182.out (by decide)) (fun _ hk => hk.2) (.slice Ao52 t1175.length co52)) (fun _ hk => hk.2) (.int .i64 t1178)) (fun _ hk => hk.2) (.slice Ao57 t1179.length co57)) (fun _ h_ => h_.1))) hb); have n3_ := Aside0.mk (Kd.R_below (by (with_reducible repeat (first | apply Kd.R_alloc | apply Kd.R_drewN | apply Kd.R_drew)); exact (Kd.R_mono (Kd.R_far (p := ⟨gb1182, 2, none⟩) (Kd.R_far (p := ⟨gb1182, 1, none⟩) (Kd.R_far (p := ⟨gb1182, 0, none⟩) (Kd.R_types HO_1153002.out BK1182.out (by decide)) (fun _ hk => hk.2) (.slice Ao52 t1175.length co52)) (fun _ hk => hk.2) (.int .i64 t1178)) (fun _ hk => hk.2) (.slice Ao57 t1179.length co57)) (fun _ h_ => h_.1))) hb); have n4_ := Aside0.mk (Kd.R_below (by (with_reducible repeat (first | apply Kd.R_alloc | apply Kd.R_drewN | apply Kd.R_drew)); exact (Kd.R_mono (Kd.R_far (p := ⟨gb1182, 2, none⟩) (Kd.R_far (p := ⟨gb1182, 1, none⟩) (Kd.R_far (p := ⟨gb1182, 0, none⟩) (Kd.R_types HO1161.out BK1182.out (by decide)) (fun _ hk => hk.2) (.slice Ao52 t1175.length co52)) (fun _ hk => hk.2) (.int .i64 t1178)) (fun _ hk => hk.2) (.slice Ao57 t1179.length co57)) (fun _ h_ => h_.1))) hb); have n5_ := Aside0.mk (Kd.R_below (by (with_reducible repeat (first | apply Kd.R_alloc | apply Kd.R_drewN | apply Kd.R_drew)); exact (Kd.R_mono (Kd.R_far (p := ⟨gb1182, 2, none⟩) (Kd.R_far (p := ⟨gb1182, 1, none⟩) (Kd.R_far (p := ⟨gb1182, 0, none⟩) (Kd.R_types HO1165.out BK1182.out (by decide)) (fun _ hk => hk.2) (.slice Ao52 t1175.length co52)) (fun _ hk => hk.2) (.int .i64 t1178)) (fun _ hk => hk.2) (.slice Ao57 t1179.length co57)) (fun _ h_ => h_.1))) hb); have n6_ := Aside0.mk (Kd.R_below (by (with_reducible repeat (first | apply Kd.R_alloc | apply Kd.R_drewN | apply Kd.R_drew)); exact (Kd.R_mono (Kd.R_far (p := ⟨gb1182, 2, none⟩) (Kd.R_far (p := ⟨gb1182, 1, none⟩) (Kd.R_far (p := ⟨gb1182, 0, none⟩) (Kd.R_types HO1169.out BK1182.out (by decide)) (fun _ hk => hk.2) (.slice Ao52 t1175.length co52)) (fun _ hk => hk.2) (.int .i64 t1178)) (fun _ hk => hk.2) (.slice Ao57 t1179.length co57)) (fun _ h_ => h_.1))) hb); have n7_ := Aside0.mk (Kd.R_below (by (with_reducible repeat (first | apply Kd.R_alloc | apply Kd.R_drewN | apply Kd.R_drew)); exact (Kd.R_mono (Kd.R_far (p := ⟨gb1182, 2, none⟩) (Kd.R_far (p := ⟨gb1182, 1, none⟩) (Kd.R_far (p := ⟨gb1182, 0, none⟩) (Kd.R_types HO1173.out BK1182.out (by decide)) (fun _ hk => hk.2) (.slice Ao52 t1175.length co52)) (fun _ hk => hk.2) (.int .i64 t1178)) (fun _ hk => hk.2) (.slice Ao57 t1179.length co57)) (fun _ h_ => h_.1))) hb); have n8_ := Aside0.mk (Kd.R_below (by (with_reducible repeat (first | apply Kd.R_alloc | apply Kd.R_drewN | apply Kd.R_drew)); exact (Kd.R_mono (Kd.R_far (p := ⟨gb1182, 2, none⟩) (Kd.R_far (p := ⟨gb1182, 1, none⟩) (Kd.R_far (p := ⟨gb1182, 0, none⟩) (Kd.R_types HO1177.out BK1182.out (by decide)) (fun _ hk => hk.2) (.slice Ao52 t1175.length co52)) (fun _ hk => hk.2) (.int .i64 t1178)) (fun _ hk => hk.2) (.slice Ao57 t1179.length co57)) (fun _ h_ => h_.1))) hb); have n9_ := Aside0.mk (Kd.R_below (by (with_reducible repeat (first | apply Kd.R_alloc | apply Kd.R_drewN | apply Kd.R_drew)); exact (Kd.R_mono (Kd.R_far (p := ⟨gb1182, 2, none⟩) (Kd.R_far (p := ⟨gb1182, 1, none⟩) (Kd.R_far (p := ⟨gb1182, 0, none⟩) (Kd.R_types HO1181.out BK1182.out (by decide)) (fun _ hk => hk.2) (.slice Ao52 t1175.length co52)) (fun _ hk => hk.2) (.int .i64 t1178)) (fun _ hk => hk.2) (.slice Ao57 t1179.length co57)) (fun _ h_ => h_.1))) hb); have n10_ := Aside0.mk (blk_below (g := gb1152) (o := .cells #[.slice Ao12 t1144.length co12, .int .i64 t1147, .slice Ao14 t1148.length co14] 30 (0, 0)) (by (with_reducible repeat (first | refine blk_drewN ?_ _ | refine blk_drew ?_ | refine blk_alloc ?_ _)); refine blk_far ?_ NB1152_1182.out _; (with_reducible repeat (first | refine blk_drewN ?_ _ | refine blk_drew ?_ | refine blk_alloc ?_ _)); refine blk_far ?_ NB1152_1182.out _; (with_reducible repeat (first | refine blk_drewN ?_ _ | refine blk_drew ?_ | refine blk_alloc ?_ _)); refine blk_far ?_ NB1152_1182.out _; (with_reducible repeat (first | refine blk_drewN ?_ _ | refine blk_drew ?_ | refine blk_alloc ?_ _)); exact BK1152.out) hb); have n11_ := Aside0.mk (blk_below (g := gb1166) (o := .cells #[.slice Ao38 t1159.length co38, .int .i64 t1162, .slice Ao41 t1163.length co41] 30 (0, 0)) (by (with_reducible repeat (first | refine blk_drewN ?_ _ | refine blk_drew ?_ | refine blk_alloc ?_ _)); refine blk_far ?_ NB1166_1182.out _; (with_reducible repeat (first | refine blk_drewN ?_ _ | refine blk_drew ?_ | refine blk_alloc ?_ _)); refine blk_far ?_ NB1166_1182.out _; (with_reducible repeat (first | refine blk_drewN ?_ _ | refine blk_drew ?_ | refine blk_alloc ?_ _)); refine blk_far ?_ NB1166_1182.out _; (with_reducible repeat (first | refine blk_drewN ?_ _ | refine blk_drew ?_ | refine blk_alloc ?_ _)); exact BK1166.out) hb); have n12_ := Aside0.mk (blk_below (g := gb1174) (o := .cells #[.slice Ao44 t1167.length co44, .int .i64 t1170, .slice Ao48 t1171.length co48] 30 (0, 0)) (by (with_reducible repeat (first | refine blk_drewN ?_ _ | refine blk_drew ?_ | refine blk_alloc ?_ _)); refine blk_far ?_ NB1174_1182.out _; (with_reducible repeat (first | refine blk_drewN ?_ _ | refine blk_drew ?_ | refine blk_alloc ?_ _)); refine blk_far ?_ NB1174_1182.out _; (with_reducible repeat (first | refine blk_drewN ?_ _ | refine blk_drew ?_ | refine blk_alloc ?_ _)); refine blk_far ?_ NB1174_1182.out _; (with_reducible repeat (first | refine blk_drewN ?_ _ | refine blk_drew ?_ | refine blk_alloc ?_ _)); exact BK1174.out) hb); have n13_ := Aside0.mk (blk_below (g := gb1182) (o := .cells #[.slice Ao52 t1175.length co52, .int .i64 t1178, .slice Ao57 t1179.length co57] 30 (0, 0)) (by (with_reducible repeat (first | refine blk_drewN ?_ _ | refine blk_drew ?_ | refine blk_alloc ?_ _)); refine blk_put (cs := #[.slice Ao52 t1175.length co52, .int .i64 t1178, .slice none 0 0]) ?_ 2 _ rfl; (with_reducible repeat (first | refine blk_drewN ?_ _ | refine blk_drew ?_ | refine blk_alloc ?_ _)); refine blk_put (cs := #[.slice Ao52 t1175.length co52, .int .i64 0, .slice none 0 0]) ?_ 1 _ rfl; (with_reducible repeat (first | refine blk_drewN ?_ _ | refine blk_drew ?_ | refine blk_alloc ?_ _)); refine blk_put (cs := #[.slice none 0 0, .int .i64 0, .slice none 0 0]) ?_ 0 _ rfl; (with_reducible repeat (first | refine blk_drewN ?_ _ | refine blk_drew ?_ | refine blk_alloc ?_ _)); exact BK1182.out) hb); have n14_ := Aside0.mk (below_step (oB HB) hb); clear HO_4; clear HO_7; clear HO_1153000; clear HO_1153002; clear HO1161; clear HO1165; clear HO1169; clear HO1173; clear HO1177; clear HO1181; clear BK1152; clear BK1166; clear BK1174; clear BK1182; clear HB; have HO_4 := n0_; have HO_7 := n1_; have HO_1153000 := n2_; have HO_1153002 := n3_; have HO1161 := n4_; have HO1165 := n5_; have HO1169 := n6_; have HO1173 := n7_; have HO1177 := n8_; have HO1181 := n9_; have BK1152 := n10_; have BK1166 := n11_; have BK1174 := n12_; have BK1182 := n13_; have HB := n14_; clear n0_ n1_ n2_ n3_ n4_ n5_ n6_ n7_ n8_ n9_ n10_ n11_ n12_ n13_ n14_; (try clear hb); (try clear hb2); (try clear hk); (try clear hi); have hcz61_0 : w60.cell? ⟨gb1174, 0, none⟩ = some (.slice Ao44 t1167.length co44) := (blk_cell BK1174.out 0).trans rfl; have hcz61_1 : w60.cell? ⟨gb1174, 1, none⟩ = some (.int .i64 t1170) := (blk_cell BK1174.out 1).trans rfl; have hcz61_2 : w60.cell? ⟨gb1174, 2, none⟩ = some (.slice Ao48 t1171.length co48) := (blk_cell BK1174.out 2).trans rfl; have hfz61_0 := blk_frozen BK1174.out 0; have hfz61_1 := blk_frozen BK1174.out 1; have hfz61_2 := blk_frozen BK1174.out 2; obtain ⟨Ao62, co62, eo62⟩ := Kd.R_slice HO_7.out; subst eo62) | (go_at_call 51; (with_reducible refine (laws_sameInts.calls kj6 _ _ t1171 _ _ t1153 true _ ?side1 ?side2 ?side3 ?side4 A30.out).mono ?_); (case side1 => repeat (first | exact (Kd.R_reads' HO1173.out).2.2 | (with_reducible refine Kd.C_alloc ?_ _) | (with_reducible refine Kd.C_drewN ?_ _) | (with_reducible refine Kd.C_drew ?_))); (case side2 => exact (Kd.R_reads' HO1173.out).2.1); (case side3 => repeat (first | exact (Kd.R_reads' HO_7.out).2.2 | (with_reducible refine Kd.C_alloc ?_ _) | (with_reducible refine Kd.C_drewN ?_ _) | (with_reducible refine Kd.C_drew ?_))); (case side4 => exact (Kd.R_reads' HO_7.out).2.1); rintro e w' ⟨rfl, ⟨nd, rfl⟩⟩; have hcz63_0 : w60.cell? ⟨gb1182, 0, none⟩ = some (.slice Ao52 t1175.length co52) := (blk_cell BK1182.out 0).trans rfl; have hcz63_1 : w60.cell? ⟨gb1182, 1, none⟩ = some (.int .i64 t1178) := (blk_cell BK1182.out 1).trans rfl; have hcz63_2 : w60.cell? ⟨gb1182, 2, none⟩ = some (.slice Ao57 t1179.length co57) := (blk_cell BK1182.out 2).trans rfl; have hfz63_0 := blk_frozen BK1182.out 0; have hfz63_1 := blk_frozen BK1182.out 1; have hfz63_2 := blk_frozen BK1182.out 2) | (go_at_call 51; (with_reducible refine (laws_sameInts.calls kj6 _ _ t1179 _ _ t1153 true _ ?side1 ?side2 ?side3 ?side4 A32.out).mono ?_); (case side1 => repeat (first | exact (Kd.R_reads' HO1181.out).2.2 | (with_reducible refine Kd.C_alloc ?_ _) | (with_reducible refine Kd.C_drewN ?_ _) | (with_reducible refine Kd.C_drew ?_))); (case side2 => exact (Kd.R_reads' HO1181.out).2.1); (case side3 => repeat (first | exact (Kd.R_reads' HO_7.out).2.2 | (with_reducible refine Kd.C_alloc ?_ _) | (with_reducible refine Kd.C_drewN ?_ _) | (with_reducible refine Kd.C_drew ?_))); (case side4 => exact (Kd.R_reads' HO_7.out).2.1); rintro e w' ⟨rfl, ⟨nd, rfl⟩⟩; have hcz64_0 : w60.cell? ⟨gb1166, 0, none⟩ = some (.slice Ao38 t1159.length co38) := (blk_cell BK1166.out 0).trans rfl; have hcz64_1 : w60.cell? ⟨gb1166, 1, none⟩ = some (.int .i64 t1162) := (blk_cell BK1166.out 1).trans rfl; have hcz64_2 : w60.cell? ⟨gb1166, 2, none⟩ = some (.slice Ao41 t1163.length co41) := (blk_cell BK1166.out 2).trans rfl; have hfz64_0 := blk_frozen BK1166.out 0; have hfz64_1 := blk_frozen BK1166.out 1; have hfz64_2 := blk_frozen BK1166.out 2) | (go_at_call 18; (with_reducible refine (impl_WorkOk.calls _ _ t1159 t1162 _ _ t1163 t1186 _ ?side1 ?side2 ?side3 ?side4 A34.out).mono ?_); (case side1 => repeat (first | exact (Kd.R_reads' HO1161.out).2.2 | (with_reducible refine Kd.C_alloc ?_ _) | (with_reducible refine Kd.C_drewN ?_ _) | (with_reducible refine Kd.C_drew ?_))); (case side2 => exact (Kd.R_reads' HO1161.out).2.1); (case side3 => repeat (first | exact (Kd.R_reads' HO1165.out).2.2 | (with_reducible refine Kd.C_alloc ?_ _) | (with_reducible refine Kd.C_drewN ?_ _) | (with_reducible refine Kd.C_drew ?_))); (case side4 => exact (Kd.R_reads' HO1165.out).2.1); rintro e w65 ⟨rfl, hb⟩; have n0_ := Aside0.mk (Kd.R_below (oR HO_4) hb); have n1_ := Aside0.mk (Kd.R_below (oR HO_7) hb); have n2_ := Aside0.mk (Kd.R_below (oR HO_1153000) hb); have n3_ := Aside0.mk (Kd.R_below (oR HO_1153002) hb); have n4_ := Aside0.mk (Kd.R_below (oR HO1161) hb); have n5_ := Aside0.mk (Kd.R_below (oR HO1165) hb); have n6_ := Aside0.mk (Kd.R_below (oR HO1169) hb); have n7_ := Aside0.mk (Kd.R_below (oR HO1173) hb); have n8_ := Aside0.mk (Kd.R_below (oR HO1177) hb); have n9_ := Aside0.mk (Kd.R_below (oR HO1181) hb); have n10_ := Aside0.mk (blk_below (g := gb1152) (o := .cells #[.slice Ao12 t1144.length co12, .int .i64 t1147, .slice Ao14 t1148.length co14] 30 (0, 0)) (oK BK1152) hb); have n11_ := Aside0.mk (blk_below (g := gb1166) (o := .cells #[.slice Ao38 t1159.length co38, .int .i64 t1162, .slice Ao41 t1163.length co41] 30 (0, 0)) (oK BK1166) hb); have n12_ := Aside0.mk (blk_below (g := gb1174) (o := .cells #[.slice Ao44 t1167.length co44, .int .i64 t1170, .slice Ao48 t1171.length co48] 30 (0, 0)) (oK BK1174) hb); have n13_ := Aside0.mk (blk_below (g := gb1182) (o := .cells #[.slice Ao52 t1175.length co52, .int .i64 t1178, .slice Ao57 t1179.length co57] 30 (0, 0)) (oK BK1182) hb); have n14_ := Aside0.mk (below_step (oB HB) hb); clear HO_4; clear HO_7; clear HO_1153000; clear HO_1153002; clear HO1161; clear HO1165; clear HO1169; clear HO1173; clear HO1177; clear HO1181; clear BK1152; clear BK1166; clear BK1174; clear BK1182; clear HB; have HO_4 := n0_; have HO_7 := n1_; have HO_1153000 := n2_; have HO_1153002 := n3_; have HO1161 := n4_; have HO1165 := n5_; have HO1169 := n6_; have HO1173 := n7_; have HO1177 := n8_; have HO1181 := n9_; have BK1152 := n10_; have BK1166 := n11_; have BK1174 := n12_; have BK1182 := n13_; have HB := n14_; clear n0_ n1_ n2_ n3_ n4_ n5_ n6_ n7_ n8_ n9_ n10_ n11_ n12_ n13_ n14_; (try clear hb); (try clear hb2); (try clear hk); (try clear hi)))
                  go_ret
                  exact ⟨by first | rfl | (simp [errW_none, errW_some] <;> rfl) | (simp only [← hji26]; first | rfl | (simp [errW_none, errW_some] <;> rfl)) | (simp [*, errW_none, errW_some] <;> rfl), oB HB⟩
                · replace c33 := Bool.eq_false_iff.mpr c33
                  subst c33
                  rw [if_neg (show ¬ (false = true) by decide)] at H
                  exact absurd ((Option.some.inj H).trans hrt_.out) (by decide)
              · replace c31 := Bool.eq_false_iff.mpr c31
                subst c31
                rw [if_neg (show ¬ (false = true) by decide)] at H
                exact absurd ((Option.some.inj H).trans hrt_.out) (by decide)
            · replace c29 := Bool.eq_false_iff.mpr c29
              subst c29
              rw [if_neg (show ¬ (false = true) by decide)] at H
              exact absurd ((Option.some.inj H).trans hrt_.out) (by decide)
          · rw [if_neg c27] at H
            have c27b0 : (t1162 == (ji26)) = false := beq_eq_false_iff_ne.mpr c27
            have c27b1 : (t1162 != (ji26)) = true := bne_iff_ne.mpr c27
            exact absurd ((Option.some.inj H).trans hrt_.out) (by decide)
def laws_FnParts.Pure : Prop := ∀ (l0 : List Int), l0.length ≤ maxLen → l0.length * 1 ≤ 140737488351232 → (∀ x ∈ l0, (Lit.int .u8 x).wf = true) → ∃ k, laws_FnParts.f k l0 = some true
theorem laws_FnParts.walk (P : laws_FnParts.Pure) (a0 : Option Addr) (len0 cap0 : Nat) (z0 : List Int) (w : World) (w0 : (a0 = none ∧ len0 = 0 ∧ cap0 = 0 ∧ z0 = []) ∨ ∃ x, a0 = some x ∧ len0 ≤ cap0 ∧ cap0 ≤ maxLen ∧ z0.length = cap0 ∧ (∀ i, i < z0.length → w.cell? (x.add i) = some (.int .u8 (z0.getD i 0))) ∧ ∀ n ∈ z0, (Lit.int .u8 n).wf = true) (y0 : len0 * 1 ≤ 140737488351232) :
    Calls Try.prog 13 #[.slice a0 len0 cap0] w fun e w' => e = .returned (.bool true) ∧ Below w.heap.size w w' := by
  obtain ⟨l0, rfl, hr0, hm0, hw0, hc0⟩ := ReadsInt.ofRowC w0
  obtain ⟨k, h⟩ := P l0 hm0 y0 hw0
  refine (laws_FnParts.calls k _ _ l0 true w (Kd.C_of_reads (d := (0 : Int)) (h1 := fun _ => rfl) hr0) hc0 h ⟨rfl⟩).mono ?_
  rintro e w' ⟨rfl, hd⟩
  exact ⟨rfl, hd⟩
end Go.Proofs.Ytlhlmjklajdejaa.P


namespace Go.Proofs.Ytlhlmjklajdejaa.Q
set_option linter.unusedVariables false
set_option linter.unusedSimpArgs false
open Go.RowKit Go.Proofs.YtlhlmjklajdejaaW.PrintWords
theorem evp {α : Type} {c : Prop} [Decidable c] (h : c) {f g : Nat → Option α} {r : α} (k : Ev f r) : Ev (fun n => if c then f n else g n) r := by
  simp only [if_pos h]; exact k
theorem evn {α : Type} {c : Prop} [Decidable c] (h : ¬ c) {f g : Nat → Option α} {r : α} (k : Ev g r) : Ev (fun n => if c then f n else g n) r := by
  simp only [if_neg h]; exact k
theorem evb {α β : Type} {x : Option α} {f : Nat → α → Option β} {a : α} {r : β} (h : x = some a) (k : Ev (fun n => f n a) r) : Ev (fun n => x.bind (f n)) r := by
  simp only [h, Option.bind_some]; exact k
theorem evs {α : Type} {a b : α} (h : a = b) : Ev (fun _ => some a) b := h ▸ Ev.now a
theorem rpos {α : Type} {c : Prop} [Decidable c] (h : c) {f : Nat → Option α} {r s : α} (k : Ev f r) : Ev f (if c then r else s) := by rw [if_pos h]; exact k
theorem rneg {α : Type} {c : Prop} [Decidable c] (h : ¬ c) {f : Nat → Option α} {r s : α} (k : Ev f s) : Ev f (if c then r else s) := by rw [if_neg h]; exact k
theorem btrue {c : Prop} [Decidable c] (h : c) : decide c = true := decide_eq_true h
theorem bfalse {c : Prop} [Decidable c] (h : ¬ c) : ¬ decide c = true := by simpa using h
theorem down {P : Nat → Prop} {n : Nat} (he : P n) (hs : ∀ i, i < n → P (i + 1) → P i) (i : Nat) (h : i ≤ n) : P i := by
  obtain ⟨d, rfl⟩ : ∃ d, n = i + d := ⟨n - i, by omega⟩
  clear h
  induction d generalizing i with
  | zero => exact he
  | succ d ih =>
    refine hs i (by omega) (ih (i + 1) ?_ ?_)
    · rw [show i + 1 + d = i + (d + 1) by omega]; exact he
    · intro j hj; exact hs j (by omega)
theorem w64 {n : Int} (h1 : -9223372036854775808 ≤ n) (h2 : n ≤ 9223372036854775807) : wrap64 n = n := by unfold wrap64; omega
theorem rd_nat (l : List Int) (i : Nat) (h : i < l.length) : rd l (i : Int) = l[i] := by
  unfold rd; simp [List.getD_eq_getElem?_getD, h]
theorem drop_cons {α : Type} (l : List α) (i : Nat) (h : i < l.length) : l.drop i = l[i] :: l.drop (i + 1) := List.drop_eq_getElem_cons h
theorem drop_end {α : Type} (l : List α) : l.drop l.length = [] := List.drop_eq_nil_of_le (Nat.le_refl _)
end Go.Proofs.Ytlhlmjklajdejaa.Q


namespace Go.Proofs.Ytlhlmjklajdejaa.Q
set_option linter.unusedVariables false
set_option linter.unusedSimpArgs false
open Go.RowKit Go.Proofs.Ytlhlmjklajdejaa.P Go.Proofs.YtlhlmjklajdejaaW.PrintWords Go.Proofs.YtlhlmjklajdejaaW.PrintMore
theorem bits_and (x y : Int) : Go.bits .and .i64 x y = wrap64 (((BitVec.ofInt IntKind.i64.bits x &&& BitVec.ofInt IntKind.i64.bits y).toNat : Nat) : Int) := by
  unfold Go.bits
  rw [IntWalk.i64_left]
theorem bits255 (x : Int) : 0 ≤ Go.bits .and .i64 x 255 ∧ Go.bits .and .i64 x 255 ≤ 255 := by
  have h2 : (BitVec.ofInt IntKind.i64.bits 255).toNat ≤ 255 := by decide
  rw [bits_and]
  obtain ⟨y, hy⟩ : ∃ y, BitVec.ofInt IntKind.i64.bits 255 = y := ⟨_, rfl⟩
  rw [hy] at h2 ⊢
  have h : (BitVec.ofInt IntKind.i64.bits x &&& y).toNat ≤ 255 := by
    rw [BitVec.toNat_and]; exact Nat.le_trans Nat.and_le_right h2
  rw [w64 (by omega) (by omega)]
  omega
section
variable (b : List Int) (hb : b.length ≤ 1048576)
include hb
theorem byte_ev (i h : Int) (hi : 0 ≤ i) : ∃ v i' h', spec_l01Byte.f b i h = some (v, i', h') ∧ 0 ≤ v ∧ v ≤ 255 ∧ 0 ≤ i' := by
  unfold spec_l01Byte.f
  by_cases h1 : i < (b.length : Int)
  · rw [if_pos h1, if_pos hi]
    exact ⟨_, _, _, rfl, (bits255 _).1, (bits255 _).2, by rw [w64 (by omega) (by omega)]; omega⟩
  · rw [if_neg h1]
    exact ⟨_, _, _, rfl, (bits255 _).1, (bits255 _).2, hi⟩
theorem below_ev (i h n : Int) (hi : 0 ≤ i) : ∃ v i' h', spec_l01Below.f b i h n = some (v, i', h') ∧ 0 ≤ v ∧ (0 < n → v < n) ∧ (n ≤ 0 → v = 0) ∧ 0 ≤ i' := by
  unfold spec_l01Below.f
  by_cases h1 : n ≤ 0
  · rw [if_pos h1]
    exact ⟨_, _, _, rfl, by omega, by omega, fun _ => rfl, hi⟩
  rw [if_neg h1]
  have key : ∀ v : Int, 0 ≤ v → 0 ≤ Int.tmod v n ∧ (0 < n → Int.tmod v n < n) := fun v hv => ⟨Int.tmod_nonneg n hv, fun h2 => by rw [Int.tmod_eq_emod_of_nonneg hv]; exact Int.emod_lt_of_pos v h2⟩
  by_cases h2 : n ≤ 256
  · rw [if_pos h2]
    obtain ⟨v, i1, h1', e, v0, v1, i0⟩ := byte_ev b hb i h hi
    rw [e, Option.bind_some, if_neg (by omega)]
    exact ⟨_, _, _, rfl, (key v v0).1, (key v v0).2, by omega, i0⟩
  rw [if_neg h2]
  obtain ⟨x, i1, g1, e1, x0, x1, j1⟩ := byte_ev b hb i h hi
  obtain ⟨y, i2, g2, e2, y0, y1, j2⟩ := byte_ev b hb i1 g1 j1
  obtain ⟨z, i3, g3, e3, z0, z1, j3⟩ := byte_ev b hb i2 g2 j2
  obtain ⟨u, i4, g4, e4, u0, u1, j4⟩ := byte_ev b hb i3 g3 j3
  rw [e1, Option.bind_some]; dsimp only
  rw [e2, Option.bind_some]; dsimp only
  rw [e3, Option.bind_some]; dsimp only
  rw [e4, Option.bind_some, if_neg (by omega)]; dsimp only
  rw [w64 (n := x * 16777216) (by omega) (by omega), w64 (n := y * 65536) (by omega) (by omega), w64 (n := z * 256) (by omega) (by omega), w64 (n := x * 16777216 + y * 65536) (by omega) (by omega), w64 (n := x * 16777216 + y * 65536 + z * 256) (by omega) (by omega), w64 (by omega) (by omega)]
  exact ⟨_, _, _, rfl, (key _ (by omega)).1, (key _ (by omega)).2, by omega, j4⟩
theorem once_ev (i h n : Int) (hi : 0 ≤ i) : ∃ v i' h', spec_l01Once.f b i h n = some (v, i', h') ∧ 0 ≤ i' := by
  unfold spec_l01Once.f
  obtain ⟨v, i1, h1, e, _, _, _, j⟩ := below_ev b hb i h n hi
  rw [e, Option.bind_some]
  exact ⟨_, _, _, rfl, j⟩
theorem pick_ev (i h : Int) (l : List Int) (hi : 0 ≤ i) (hl : 0 < l.length) : ∃ v i' h', spec_l01PickInt.f b i h l = some (v, i', h') ∧ v ∈ l ∧ 0 ≤ i' := by
  unfold spec_l01PickInt.f
  obtain ⟨v, i1, h1, e, v0, v1, _, j⟩ := below_ev b hb i h (l.length : Int) hi
  rw [e, Option.bind_some, if_pos v0, if_pos (v1 (by omega))]
  obtain ⟨m, rfl⟩ := Int.eq_ofNat_of_zero_le v0
  have hm : m < l.length := by have := v1 (by omega); omega
  exact ⟨_, _, _, rfl, by dsimp only; rw [rd_nat l m hm]; exact List.getElem_mem hm, j⟩
omit hb in
theorem new_ev : ∃ h, Ev (fun k => spec_l01New.f k b) (b, 0, h) := by
  have key : ∀ i, i ≤ b.length → ∀ x : Int, ∃ h, Ev (fun k => spec_l01New.l0 k b x (i : Int)) (b, 0, h) := by
    refine down (n := b.length) ?_ ?_
    · intro x
      exact ⟨x, Ev.step (fun k => by rw [spec_l01New.l0]) (evn (by omega) (Ev.now _))⟩
    · intro i hi ih x
      by_cases h4 : (i : Int) < 4000
      · obtain ⟨h, he⟩ := ih (Go.bits .and .i64 (wrap64 ((wrap64 ((wrap64 (x * 131)) + (wrap64 (rd b (i : Int))))) + 7)) 1073741823)
        refine ⟨h, Ev.step (fun k => by rw [spec_l01New.l0]) (evp (by omega) (evp h4 (evp (by omega) ?_)))⟩
        rw [w64 (n := (i : Int) + 1) (by omega) (by omega)]
        exact he
      · exact ⟨x, Ev.step (fun k => by rw [spec_l01New.l0]) (evp (by omega) (evn h4 (Ev.now _)))⟩
  unfold spec_l01New.f
  exact key 0 (Nat.zero_le _) _
end
end Go.Proofs.Ytlhlmjklajdejaa.Q


namespace Go.Proofs.Ytlhlmjklajdejaa.Q
set_option linter.unusedVariables false
set_option linter.unusedSimpArgs false
open Go.RowKit Go.Proofs.Ytlhlmjklajdejaa.P Go.Proofs.YtlhlmjklajdejaaW.PrintWords
theorem within_eq (a b c : Int) : impl_within.f a b c = some (decide (b ≤ a ∧ a ≤ c)) := by
  unfold impl_within.f; by_cases h : b ≤ a <;> simp [h]
theorem l01In_eq (a b c : Int) : spec_l01In.f a b c = some (decide (b ≤ a ∧ a ≤ c)) := by
  unfold spec_l01In.f; by_cases h : a ≥ b
  · rw [if_pos h]; simp [show b ≤ a from h]
  · rw [if_neg h]; simp [show ¬ b ≤ a from h]
end Go.Proofs.Ytlhlmjklajdejaa.Q


namespace Go.Proofs.Ytlhlmjklajdejaa.Q
set_option linter.unusedVariables false
set_option linter.unusedSimpArgs false
open Go.RowKit Go.Proofs.Ytlhlmjklajdejaa.P Go.Proofs.YtlhlmjklajdejaaW.PrintWords Go.Proofs.YtlhlmjklajdejaaW.PrintMore
def usualKind (i : Nat) : Int := if i = 0 ∨ i = 2 ∨ i = 4 ∨ i = 7 ∨ i = 9 then 1 else 2
def usualPlan (b : Int) : List S67 := if 0 ≤ b ∧ b ≤ 5000 then (List.range 11).map (fun (i : Nat) => ⟨(i : Int), (i : Int) + 1, usualKind i, b⟩) else []
theorem usual_kinds : ∀ i : Nat, i < 11 → rd [1, 2, 1, 2, 1, 2, 2, 1, 2, 1, 2] (i : Int) = usualKind i := by decide
theorem usual_spec (b : Int) : Ev (fun k => spec_UsualPlan.f k b) (usualPlan b) := by
  unfold spec_UsualPlan.f usualPlan
  by_cases hb : 0 ≤ b ∧ b ≤ 5000
  rotate_left
  · refine rneg hb (Ev.step (fun k => by rw [spec_UsualPlan.l0]) (evp (by decide) (evb (l01In_eq _ _ _) (evn (bfalse hb) (Ev.now _)))))
  refine rpos hb ?_
  have key : ∀ i : Nat, i ≤ 11 → Ev (fun k => spec_UsualPlan.l0 k b ((List.range i).map (fun (i : Nat) => (⟨(i : Int), (i : Int) + 1, usualKind i, b⟩ : S67))) (i : Int)) ((List.range 11).map (fun (i : Nat) => ⟨(i : Int), (i : Int) + 1, usualKind i, b⟩)) := by
    refine down (n := 11) ?_ ?_
    · exact Ev.step (fun k => by rw [spec_UsualPlan.l0]) (evn (by decide) (Ev.now _))
    · intro i hi ih
      refine Ev.step (fun k => by rw [spec_UsualPlan.l0]) ?_
      refine evp (by omega) (evb (l01In_eq _ _ _) ?_)
      refine evp (btrue hb) (evb rfl ?_)
      refine evp (by omega) ?_
      refine evp (by simp; omega) ?_
      refine evp (by simp; omega) ?_
      rw [usual_kinds i hi, w64 (n := (i : Int) + 1) (by omega) (by omega)]
      rw [List.range_succ, List.map_append] at ih
      exact ih
  exact key 0 (by omega)
end Go.Proofs.Ytlhlmjklajdejaa.Q


namespace Go.Proofs.Ytlhlmjklajdejaa.Q
set_option linter.unusedVariables false
set_option linter.unusedSimpArgs false
open Go.RowKit Go.Proofs.Ytlhlmjklajdejaa.P Go.Proofs.YtlhlmjklajdejaaW.PrintWords Go.Proofs.YtlhlmjklajdejaaW.PrintMore
def gStep (i : Nat) (x : S67) : Prop := x.f0 = i ∧ x.f1 = (i : Int) + 1 ∧ (x.f2 = 2 ∨ x.f2 = usualKind i) ∧ 0 ≤ x.f3 ∧ x.f3 < 1500
def gPlan (p : List S67) : Prop := p.length ≤ 11 ∧ ∀ i (h : i < p.length), gStep i p[i]
theorem gPlan_usual (b : Int) (h : 0 ≤ b ∧ b < 1500) : gPlan (usualPlan b) ∧ (usualPlan b).length = 11 := by
  unfold usualPlan
  rw [if_pos (by omega)]
  refine ⟨⟨by simp, fun i hi => ?_⟩, by simp⟩
  simp only [List.getElem_map, List.getElem_range]
  exact ⟨rfl, rfl, .inr rfl, h.1, h.2⟩
theorem gPlan_take {p : List S67} (h : gPlan p) (n : Nat) : gPlan (p.take n) := by
  refine ⟨by have := h.1; simp; omega, fun i hi => ?_⟩
  rw [List.getElem_take]
  exact h.2 i _
end Go.Proofs.Ytlhlmjklajdejaa.Q


namespace Go.Proofs.Ytlhlmjklajdejaa.Q
set_option linter.unusedVariables false
set_option linter.unusedSimpArgs false
open Go.RowKit Go.Proofs.Ytlhlmjklajdejaa.P Go.Proofs.YtlhlmjklajdejaaW.PrintWords Go.Proofs.YtlhlmjklajdejaaW.PrintMore
def fine (n : Int) : Bool := decide (1 ≤ n ∧ n ≤ 10000000)
theorem isFine_eq (n : Int) : impl_isFine.f n = some (fine n) := by unfold impl_isFine.f; rw [within_eq]; rfl
def orZero (n : Int) : Int := if fine n = true then n else 0
def tunedPitch (a k b : Int) : Int :=
  if fine a = true then
    if 0 ≤ b ∧ b ≤ 100000 then
      if k = 1 then orZero (wrap64 (Int.tdiv (mx (wrap64 ((wrap64 (3 * a)) - b)) 0) 2))
      else if k = 2 then orZero (wrap64 (Int.tdiv (mx (wrap64 ((wrap64 (3 * a)) - b)) 0) 4))
      else if k = 3 then if b = 0 then orZero (wrap64 (2 * a)) else 0
      else if k = 4 then if b = 0 then orZero (wrap64 (Int.tdiv a 2)) else 0
      else 0
    else 0
  else 0
theorem evz {n : Int} {x : Option Bool} (h : x = some (fine n)) : Ev (fun _ => x.bind fun t => if t = true then some n else some 0) (orZero n) := by
  subst h; simp only [Option.bind_some]; unfold orZero; by_cases h : fine n = true
  · rw [if_pos h, if_pos h]; exact Ev.now _
  · rw [if_neg h, if_neg h]; exact Ev.now _
theorem tuned_impl (a k b : Int) : Ev (fun n => impl_TunedPitch.f n a k b) (tunedPitch a k b) := by
  have jt : Ev (fun n => impl_TunedPitch.j0 n a k b true) 0 := Ev.step (fun n => by rw [impl_TunedPitch.j0]) (evp rfl (Ev.now _))
  unfold impl_TunedPitch.f
  refine evb (isFine_eq a) ?_
  unfold tunedPitch
  by_cases ha : fine a = true
  rotate_left
  · exact rneg ha <| evn ha jt
  refine rpos ha <| evp ha (evb (within_eq _ _ _) ?_)
  by_cases hb : 0 ≤ b ∧ b ≤ 100000
  rotate_left
  · exact rneg hb <| evn (by simpa using hb) jt
  refine rpos hb <| evp (by simpa using hb) ?_
  have jf : (k = 3 ∨ k = 4 → b = 0) → Ev (fun n => impl_TunedPitch.j0 n a k b false) (if k = 1 then orZero (wrap64 (Int.tdiv (mx (wrap64 ((wrap64 (3 * a)) - b)) 0) 2))
      else if k = 2 then orZero (wrap64 (Int.tdiv (mx (wrap64 ((wrap64 (3 * a)) - b)) 0) 4))
      else if k = 3 then if b = 0 then orZero (wrap64 (2 * a)) else 0
      else if k = 4 then if b = 0 then orZero (wrap64 (Int.tdiv a 2)) else 0
      else 0) := by
    intro h0
    refine Ev.step (fun n => by rw [impl_TunedPitch.j0]) (evn (by decide) ?_)
    by_cases h1 : k = 1
    · exact rpos h1 <| evp h1 (evz (isFine_eq _))
    refine rneg h1 <| evn h1 ?_
    by_cases h2 : k = 2
    · exact rpos h2 <| evp h2 (evz (isFine_eq _))
    refine rneg h2 <| evn h2 ?_
    by_cases h3 : k = 3
    · exact rpos h3 <| rpos (h0 (.inl h3)) <| evp h3 (evz (isFine_eq _))
    refine rneg h3 <| evn h3 ?_
    by_cases h4 : k = 4
    · exact rpos h4 <| rpos (h0 (.inr h4)) <| evp h4 (evz (isFine_eq _))
    refine rneg h4 <| evn h4 ?_
    refine evb (isFine_eq _) (evn (by decide) (Ev.now _))
  by_cases b0 : b = 0
  · exact evp b0 (jf fun _ => b0)
  refine evn b0 ?_
  by_cases h3 : k = 3
  · refine evp h3 ?_
    exact rneg (by omega) <| rneg (by omega) <| rpos h3 <| rneg b0 jt
  refine evn h3 ?_
  by_cases h4 : k = 4
  · rw [show (k == 4) = true by simp [h4]]; exact rneg (by omega) <| rneg (by omega) <| rneg (by omega) <| rpos h4 <| rneg b0 jt
  · rw [show (k == 4) = false by simp [h4]]; exact jf (by omega)
end Go.Proofs.Ytlhlmjklajdejaa.Q


namespace Go.Proofs.Ytlhlmjklajdejaa.Q
set_option linter.unusedVariables false
set_option linter.unusedSimpArgs false
open Go.RowKit Go.Proofs.Ytlhlmjklajdejaa.P Go.Proofs.YtlhlmjklajdejaaW.PrintWords Go.Proofs.YtlhlmjklajdejaaW.PrintMore
theorem rdS (l : List S67) (i : Nat) (h : i < l.length) : rd_T67 l (i : Int) = l[i] := by
  unfold rd_T67; simp [List.getD_eq_getElem?_getD, h]
end Go.Proofs.Ytlhlmjklajdejaa.Q


namespace Go.Proofs.Ytlhlmjklajdejaa.Q
set_option linter.unusedVariables false
set_option linter.unusedSimpArgs false
open Go.RowKit Go.Proofs.Ytlhlmjklajdejaa.P Go.Proofs.YtlhlmjklajdejaaW.PrintWords Go.Proofs.YtlhlmjklajdejaaW.PrintMore
theorem planImpl_eq (l : List S67) : impl_PlanOk.f l = some (planOk l) := rfl
def inKeys (x : S67) : Prop := 0 ≤ x.f0 ∧ x.f0 ≤ 11 ∧ 0 ≤ x.f1 ∧ x.f1 ≤ 11 ∧ x.f1 = (x.f0 + 1) % 12
theorem stepOk_in {x : S67} {t : List Bool} (h : stepOk x t = true) : inKeys x := by
  simp [stepOk] at h; unfold inKeys; omega
theorem planGo_in {l : List S67} {t : List Bool} (h : planGo l t = true) : ∀ x ∈ l, inKeys x := by
  induction l generalizing t with
  | nil => simp
  | cons y r ih =>
    simp only [planGo, Bool.and_eq_true] at h
    intro x hx
    rcases List.mem_cons.1 hx with rfl | hx
    · exact stepOk_in h.1
    · exact ih h.2 x hx
theorem planOk_in {l : List S67} (h : planOk l = true) : ∀ x ∈ l, inKeys x := by
  simp only [planOk, Bool.and_eq_true] at h; exact planGo_in h.2
theorem planOk_len {l : List S67} (h : planOk l = true) : l.length ≤ 11 := by
  simp only [planOk, Bool.and_eq_true, decide_eq_true_eq] at h; exact h.1
def runGo : List S67 → List Int → List Int × Bool
  | [], o => (o, true)
  | x :: r, o => if tunedPitch (o.getD x.f0.toNat 0) x.f2 x.f3 = 0 then ([], false) else runGo r (o.set x.f1.toNat (tunedPitch (o.getD x.f0.toNat 0) x.f2 x.f3))
def begun (a : Int) : List Int := a :: List.replicate 11 0
def runPlan (a : Int) (l : List S67) : List Int × Bool := if planOk l = true ∧ fine a = true then runGo l (begun a) else ([], false)
theorem rd_get (l : List Int) (i : Int) : rd l i = l.getD i.toNat 0 := rfl
theorem runPlan_impl (a : Int) (l : List S67) : Ev (fun n => impl_RunPlan.f n a l) (runPlan a l) := by
  have jt : Ev (fun n => impl_RunPlan.j0 n a l true) ([], false) := Ev.step (fun n => by rw [impl_RunPlan.j0]) (evp rfl (Ev.now _))
  unfold impl_RunPlan.f runPlan
  refine evb (planImpl_eq l) ?_
  by_cases hp : planOk l = true
  rotate_left
  · exact rneg (fun h => hp h.1) <| evn hp jt
  refine evp hp (evb (isFine_eq a) ?_)
  by_cases ha : fine a = true
  rotate_left
  · rw [show (!fine a) = true by simpa using ha]; exact rneg (fun h => ha h.2) jt
  rw [show (!fine a) = false by simpa using ha]
  refine rpos ⟨hp, ha⟩ ?_
  have hl := planOk_len hp
  have hin := planOk_in hp
  have key : ∀ i, i ≤ l.length → ∀ o : List Int, o.length = 12 → Ev (fun n => impl_RunPlan.l0 n o l (l.length : Int) (i : Int)) (runGo (l.drop i) o) := by
    refine down (n := l.length) ?_ ?_
    · intro o ho
      refine Ev.step (fun n => by rw [impl_RunPlan.l0]) (evn (by omega) (evs ?_))
      rw [drop_end]; rfl
    · intro i hi ih o ho
      obtain ⟨k0, k1, k2, k3, k4⟩ := hin l[i] (List.getElem_mem hi)
      refine Ev.step (fun n => by rw [impl_RunPlan.l0]) ?_
      refine evp (by omega) (evp (by omega) (evp (by omega) ?_))
      rw [rdS l i hi, drop_cons l i hi, runGo]
      refine evp k0 (evp (by omega) (Ev.bind (tuned_impl _ _ _) (evp k2 (evp (by omega) ?_))))
      rw [rd_get]
      by_cases hz : tunedPitch (o.getD l[i].f0.toNat 0) l[i].f2 l[i].f3 = 0
      · exact rpos hz <| evp hz (Ev.now _)
      refine rneg hz <| evn hz ?_
      rw [w64 (by omega) (by omega)]
      exact ih _ (by simpa using ho)
  refine Ev.step (fun n => by rw [impl_RunPlan.j0]) ?_
  refine evn (by decide) (evp (by decide) ?_)
  simp only [Option.bind_some]
  refine evp (by simp) ?_
  exact key 0 (Nat.zero_le _) _ (by simp)
end Go.Proofs.Ytlhlmjklajdejaa.Q


namespace Go.Proofs.Ytlhlmjklajdejaa.Q
set_option linter.unusedVariables false
set_option linter.unusedSimpArgs false
open Go.RowKit Go.Proofs.Ytlhlmjklajdejaa.P Go.Proofs.YtlhlmjklajdejaaW.PrintWords Go.Proofs.YtlhlmjklajdejaaW.PrintMore
theorem plan_ev (b : List Int) (hb : b.length ≤ 1048576) (i h : Int) (hi : 0 ≤ i) : ∃ p i' h', Ev (fun k => spec_l19Plan.f k b i h) (p, i', h') ∧ gPlan p ∧ 0 ≤ i' := by
  have key : ∀ j : Nat, j ≤ 11 → ∀ L : List S67, L.length = 11 → gPlan L → ∀ i h : Int, 0 ≤ i → ∃ p i' h', Ev (fun k => spec_l19Plan.l0 k L (j : Int) b i h) (p, i', h') ∧ gPlan p ∧ 0 ≤ i' := by
    refine down (P := fun j => ∀ L : List S67, L.length = 11 → gPlan L → ∀ i h : Int, 0 ≤ i → ∃ p i' h', Ev (fun k => spec_l19Plan.l0 k L (j : Int) b i h) (p, i', h') ∧ gPlan p ∧ 0 ≤ i') (n := 11) ?_ ?_
    · intro L hL g i h hi
      obtain ⟨v, i1, h1, e1, v0, v1, _, j1⟩ := below_ev b hb i h 12 hi
      obtain ⟨u, i2, h2, e2, hu, j2⟩ := pick_ev b hb i1 h1 [11, 11, 11, v] j1 (by simp)
      have hu2 : 0 ≤ u ∧ u ≤ 11 := by simp at hu; have := v1 (by omega); omega
      refine ⟨L.take u.toNat, i2, h2, ?_, gPlan_take g _, j2⟩
      refine Ev.step (fun k => by rw [spec_l19Plan.l0]) ?_
      refine evn (by omega) (evb e1 ?_)
      dsimp only
      refine evb e2 ?_
      dsimp only
      refine evp hu2.1 ?_
      refine evp (by omega) ?_
      exact Ev.now _
    · intro j hj ih L hL g i h hi
      obtain ⟨v, i1, h1, e1, v0, v1, _, j1⟩ := below_ev b hb i h 1500 hi
      obtain ⟨o, i2, h2, e2, j2⟩ := once_ev b hb i1 h1 5 j1
      have hr : ∀ M : List S67, M.length = 11 → rd_T67 M (j : Int) = M.getD j z67 := fun M hM => by rw [rdS M j (by omega)]; simp [List.getD_eq_getElem?_getD, show j < M.length by omega]
      have gs : ∀ M : List S67, M.length = 11 → gPlan M → ∀ x, gStep j x → gPlan (M.set j x) := fun M hM gM x gx => by
        refine ⟨by simp; omega, fun i hi => ?_⟩
        rw [List.getElem_set]
        split
        · rename_i e; subst e; exact gx
        · exact gM.2 i _
      have gd : ∀ M : List S67, M.length = 11 → gPlan M → gStep j (M.getD j z67) := fun M hM gM => by
        have hj2 : j < M.length := by omega
        have := gM.2 j hj2
        simpa [List.getD_eq_getElem?_getD, hj2] using this
      have g1 := gd L hL g
      have gy := gs L hL g (⟨(L.getD j z67).f0, (L.getD j z67).f1, (L.getD j z67).f2, v⟩ : S67) ⟨g1.1, g1.2.1, g1.2.2.1, v0, v1 (by omega)⟩
      obtain ⟨Y, hY⟩ : ∃ Y, L.set j (⟨(L.getD j z67).f0, (L.getD j z67).f1, (L.getD j z67).f2, v⟩ : S67) = Y := ⟨_, rfl⟩
      rw [hY] at gy
      have hYl : Y.length = 11 := by rw [← hY]; simpa using hL
      have g2 := gd Y hYl gy
      have gz := gs Y hYl gy (⟨(Y.getD j z67).f0, (Y.getD j z67).f1, 2, (Y.getD j z67).f3⟩ : S67) ⟨g2.1, g2.2.1, .inl rfl, g2.2.2.2.1, g2.2.2.2.2⟩
      have w1 : wrap64 ((j : Int) + 1) = ((j + 1 : Nat) : Int) := w64 (by omega) (by omega)
      have e3 : (some (L.set (j : Int).toNat (⟨(rd_T67 L (j : Int)).f0, (rd_T67 L (j : Int)).f1, (rd_T67 L (j : Int)).f2, v⟩ : S67) : List S67)) = some Y := by rw [hr L hL, Int.toNat_natCast, hY]
      cases ho : o with
      | true =>
        obtain ⟨p, i', h', ep, gp, jp⟩ := ih _ (by simpa using hYl) gz i2 h2 j2
        refine ⟨p, i', h', ?_, gp, jp⟩
        refine Ev.step (fun k => by rw [spec_l19Plan.l0]) ?_
        refine evp (by omega) (evb e1 ?_)
        refine evp (by omega) (evb e3 ?_)
        refine evb e2 ?_
        refine evp ho ?_
        rw [hr Y hYl, Int.toNat_natCast, w1]
        exact ep
      | false =>
        obtain ⟨p, i', h', ep, gp, jp⟩ := ih Y hYl gy i2 h2 j2
        refine ⟨p, i', h', ?_, gp, jp⟩
        refine Ev.step (fun k => by rw [spec_l19Plan.l0]) ?_
        refine evp (by omega) (evb e1 ?_)
        refine evp (by omega) (evb e3 ?_)
        refine evb e2 ?_
        refine evn (by rw [ho]; simp) ?_
        rw [w1]
        exact ep
  unfold spec_l19Plan.f
  obtain ⟨g, hg⟩ := gPlan_usual 0 (by omega)
  obtain ⟨p, i', h', e, g', j⟩ := key 0 (Nat.zero_le _) (usualPlan 0) hg g i h hi
  exact ⟨p, i', h', Ev.bind (usual_spec 0) e, g', j⟩
end Go.Proofs.Ytlhlmjklajdejaa.Q


namespace Go.Proofs.Ytlhlmjklajdejaa.Q
set_option linter.unusedVariables false
set_option linter.unusedSimpArgs false
open Go.RowKit Go.Proofs.Ytlhlmjklajdejaa.P Go.Proofs.YtlhlmjklajdejaaW.PrintWords Go.Proofs.YtlhlmjklajdejaaW.PrintMore
theorem drawPlan_ev (b : List Int) (hb : b.length ≤ 1048576) : ∃ s p, Ev (fun k => spec_DrawPlan.f k b) (s, p) ∧ gPlan p ∧ 200000 ≤ s ∧ s ≤ 299999 := by
  unfold spec_DrawPlan.f
  obtain ⟨h, e0⟩ := new_ev b
  obtain ⟨v, i1, h1, e1, v0, v1, _, j1⟩ := below_ev b hb 0 h 100000 (Int.le_refl _)
  obtain ⟨p, i2, h2, e2, g, j2⟩ := plan_ev b hb i1 h1 j1
  have := v1 (by omega)
  exact ⟨_, _, Ev.bind e0 (evb e1 (Ev.bind e2 (Ev.now _))), g, by rw [w64 (by omega) (by omega)]; omega, by rw [w64 (by omega) (by omega)]; omega⟩
end Go.Proofs.Ytlhlmjklajdejaa.Q


namespace Go.Proofs.Ytlhlmjklajdejaa.Q
set_option linter.unusedVariables false
set_option linter.unusedSimpArgs false
open Go.RowKit Go.Proofs.Ytlhlmjklajdejaa.P Go.Proofs.YtlhlmjklajdejaaW.PrintWords Go.Proofs.YtlhlmjklajdejaaW.PrintMore
theorem tunedBy_len (l : List S67) (t : List Bool) : (P.tunedBy l t).length = t.length := by
  unfold P.tunedBy
  induction l generalizing t with
  | nil => rfl
  | cons x r ih => rw [List.foldl_cons, ih, List.length_set]
theorem workImpl_eq (p : List S67) (d : Int) (q : List Int) : impl_WorkOk.f p d q = some (workOk p d q) := rfl
theorem workOk_plan {p : List S67} {d : Int} {q : List Int} (h : workOk p d q = true) : planOk p = true := by
  simp only [workOk, Bool.and_eq_true] at h; exact h.1
theorem workOk_done {p : List S67} {d : Int} {q : List Int} (h : workOk p d q = true) : 0 ≤ d ∧ d ≤ p.length := by
  simp only [workOk, Bool.and_eq_true, decide_eq_true_eq] at h; exact h.2.1
theorem workOk_len {p : List S67} {d : Int} {q : List Int} (h : workOk p d q = true) : q.length = 12 := by
  simp only [workOk, Bool.and_eq_true, decide_eq_true_eq] at h; exact h.2.2.1
end Go.Proofs.Ytlhlmjklajdejaa.Q


namespace Go.Proofs.Ytlhlmjklajdejaa.Q
set_option linter.unusedVariables false
set_option linter.unusedSimpArgs false
open Go.RowKit Go.Proofs.Ytlhlmjklajdejaa.P Go.Proofs.YtlhlmjklajdejaaW.PrintWords Go.Proofs.YtlhlmjklajdejaaW.PrintMore
def tuneAt (p : List S67) (q : List Int) (i : Nat) : Int := tunedPitch (q.getD (p.getD i z67).f0.toNat 0) (p.getD i z67).f2 (p.getD i z67).f3
theorem getS (p : List S67) (i : Nat) (hi : i < p.length) : p.getD i z67 = p[i] := by simp [List.getD_eq_getElem?_getD, hi]
theorem tunedBy_ev (p : List S67) (d : Int) (q : List Int) (i : Nat) (hp : planOk p = true) (hq : q.length = 12) (hi : i < p.length) : Ev (fun n => impl_tunedBy.f n p d q (i : Int)) (tuneAt p q i) := by
  obtain ⟨k0, k1, k2, k3, k4⟩ := planOk_in hp p[i] (List.getElem_mem hi)
  unfold impl_tunedBy.f tuneAt
  rw [getS p i hi, rdS p i hi]
  refine evp (by omega) (evp (by omega) (evp k0 (evp (by omega) (Ev.bind (tuned_impl _ _ _) (Ev.now _)))))
end Go.Proofs.Ytlhlmjklajdejaa.Q


namespace Go.Proofs.Ytlhlmjklajdejaa.Q
set_option linter.unusedVariables false
set_option linter.unusedSimpArgs false
open Go.RowKit Go.Proofs.Ytlhlmjklajdejaa.P Go.Proofs.YtlhlmjklajdejaaW.PrintWords Go.Proofs.YtlhlmjklajdejaaW.PrintMore
theorem getD_set_self (q : List Int) (i : Nat) (v : Int) (h : i < q.length) : (q.set i v).getD i 0 = v := by simp [List.getD_eq_getElem?_getD, h]
def pit (p : List S67) (s : Int) : Nat → Int
  | 0 => s
  | k + 1 => tunedPitch (pit p s k) (p.getD k z67).f2 (p.getD k z67).f3
def lows : List Int := [155000, 115875, 86531, 64523, 48017, 35638, 26353, 19390, 14167, 10250, 7312, 5109]
def highs : List Int := [345000, 517500, 388125, 582187, 436640, 654960, 491220, 368415, 552622, 414466, 621699, 466274]
theorem fine_of {n : Int} (h1 : 1 ≤ n) (h2 : n ≤ 10000000) : fine n = true := decide_eq_true ⟨h1, h2⟩
theorem tuned_five (a b : Int) (h1 : 2000 ≤ a) (h2 : a ≤ 1000000) (h3 : 0 ≤ b) (h4 : b < 1500) : tunedPitch a 1 b = (3 * a - b) / 2 := by
  unfold tunedPitch orZero mx
  rw [if_pos (fine_of (by omega) (by omega)), if_pos (by omega), if_pos rfl, w64 (n := 3 * a) (by omega) (by omega), w64 (n := 3 * a - b) (by omega) (by omega)]
  have e : (if (3 * a - b) < 0 then (0 : Int) else 3 * a - b) = 3 * a - b := if_neg (by omega)
  rw [e]
  rw [Int.tdiv_eq_ediv_of_nonneg (by omega), w64 (by omega) (by omega), if_pos (fine_of (by omega) (by omega))]
theorem tuned_four (a b : Int) (h1 : 2000 ≤ a) (h2 : a ≤ 1000000) (h3 : 0 ≤ b) (h4 : b < 1500) : tunedPitch a 2 b = (3 * a - b) / 4 := by
  unfold tunedPitch orZero mx
  rw [if_pos (fine_of (by omega) (by omega)), if_pos (by omega), if_neg (by decide), if_pos rfl, w64 (n := 3 * a) (by omega) (by omega), w64 (n := 3 * a - b) (by omega) (by omega)]
  have e : (if (3 * a - b) < 0 then (0 : Int) else 3 * a - b) = 3 * a - b := if_neg (by omega)
  rw [e]
  rw [Int.tdiv_eq_ediv_of_nonneg (by omega), w64 (by omega) (by omega), if_pos (fine_of (by omega) (by omega))]
theorem bound_step (k : Nat) (hk : k < 11) (a b x : Int) (h1 : lows.getD k 0 ≤ a) (h2 : a ≤ highs.getD k 0) (h3 : 0 ≤ b) (h4 : b < 1500) (hx : x = 2 ∨ x = usualKind k) :
    lows.getD (k + 1) 0 ≤ tunedPitch a x b ∧ tunedPitch a x b ≤ highs.getD (k + 1) 0 := by
  have a1 : 2000 ≤ a ∧ a ≤ 1000000 := by
    have : ∀ k : Nat, k < 11 → 2000 ≤ lows.getD k 0 ∧ highs.getD k 0 ≤ 1000000 := by decide
    have := this k hk; omega
  have hx2 : x = 2 ∨ (x = 1 ∧ usualKind k = 1) := by
    rcases hx with h | h
    · exact .inl h
    · unfold usualKind at h ⊢
      by_cases h5 : k = 0 ∨ k = 2 ∨ k = 4 ∨ k = 7 ∨ k = 9
      · rw [if_pos h5] at h ⊢; exact .inr ⟨h, rfl⟩
      · rw [if_neg h5] at h; exact .inl h
  have hk2 : k = 0 ∨ k = 1 ∨ k = 2 ∨ k = 3 ∨ k = 4 ∨ k = 5 ∨ k = 6 ∨ k = 7 ∨ k = 8 ∨ k = 9 ∨ k = 10 := by omega
  rcases hx2 with rfl | ⟨rfl, hu⟩
  · rw [tuned_four a b a1.1 a1.2 h3 h4]
    rcases hk2 with rfl | rfl | rfl | rfl | rfl | rfl | rfl | rfl | rfl | rfl | rfl <;> simp only [lows, highs, List.getD_cons_zero, List.getD_cons_succ] at h1 h2 ⊢ <;> omega
  · rw [tuned_five a b a1.1 a1.2 h3 h4]
    rcases hk2 with rfl | rfl | rfl | rfl | rfl | rfl | rfl | rfl | rfl | rfl | rfl <;> first | (exact absurd hu (by decide)) | (simp only [lows, highs, List.getD_cons_zero, List.getD_cons_succ] at h1 h2 ⊢; omega)
section
variable {p : List S67} (g : gPlan p) {s : Int} (hs : 155000 ≤ s ∧ s ≤ 345000)
include g
theorem gAt (i : Nat) (h : i < p.length) : (p.getD i z67).f0 = i ∧ (p.getD i z67).f1 = (i : Int) + 1 ∧ ((p.getD i z67).f2 = 2 ∨ (p.getD i z67).f2 = usualKind i) ∧ 0 ≤ (p.getD i z67).f3 ∧ (p.getD i z67).f3 < 1500 := by
  rw [getS p i h]; exact g.2 i h
include hs
theorem pit_bounds (k : Nat) (hk : k ≤ p.length) : lows.getD k 0 ≤ pit p s k ∧ pit p s k ≤ highs.getD k 0 := by
  induction k with
  | zero => exact hs
  | succ k ih =>
    obtain ⟨h1, h2⟩ := ih (by omega)
    obtain ⟨g0, g1, g2, g3, g4⟩ := gAt g k (by omega)
    exact bound_step k (by have := g.1; omega) _ _ _ h1 h2 g3 g4 g2
theorem pit_fine (k : Nat) (hk : k ≤ p.length) : 2000 ≤ pit p s k ∧ pit p s k ≤ 1000000 := by
  have : ∀ k : Nat, k < 12 → 2000 ≤ lows.getD k 0 ∧ highs.getD k 0 ≤ 1000000 := by decide
  have h1 := this k (by have := g.1; omega)
  have h2 := pit_bounds g hs k hk
  omega
end
def pits (p : List S67) (s : Int) (n : Nat) : List Int := (List.range 12).map (fun k => if k ≤ n then pit p s k else 0)
theorem pits_len (p : List S67) (s : Int) (n : Nat) : (pits p s n).length = 12 := by simp [pits]
theorem pits_get (p : List S67) (s : Int) (n k : Nat) (hk : k < 12) : (pits p s n).getD k 0 = if k ≤ n then pit p s k else 0 := by
  simp [pits, List.getD_eq_getElem?_getD, hk]
theorem list_ext12 {a b : List Int} (ha : a.length = 12) (hb : b.length = 12) (h : ∀ k : Nat, k < 12 → a.getD k 0 = b.getD k 0) : a = b := by
  apply List.ext_getElem (by omega)
  intro k h1 h2
  have := h k (by omega)
  simpa [List.getD_eq_getElem?_getD, h1, h2] using this
theorem pits_zero (p : List S67) (s : Int) : pits p s 0 = begun s := by
  refine list_ext12 (pits_len p s 0) (by simp [begun]) (fun k hk => ?_)
  rw [pits_get p s 0 k hk]
  cases k with
  | zero => rfl
  | succ k =>
    rw [if_neg (by omega)]
    have : ∀ k : Nat, k < 11 → (List.replicate 11 (0 : Int)).getD k 0 = 0 := by decide
    exact (this k (by omega)).symm
theorem pits_succ (p : List S67) (s : Int) (n : Nat) (hn : n < 11) : (pits p s n).set (n + 1) (pit p s (n + 1)) = pits p s (n + 1) := by
  refine list_ext12 (by simp [pits_len]) (pits_len _ _ _) (fun k hk => ?_)
  have h1 := pits_get p s n k hk
  rw [pits_get p s (n + 1) k hk]
  by_cases e : k = n + 1
  · subst e
    rw [if_pos (Nat.le_refl _)]
    exact getD_set_self _ _ _ (by rw [pits_len]; omega)
  · have : ((pits p s n).set (n + 1) (pit p s (n + 1))).getD k 0 = (pits p s n).getD k 0 := by
      simp only [List.getD_eq_getElem?_getD]
      rw [List.getElem?_set_ne (by omega)]
    rw [this, h1]
    by_cases h2 : k ≤ n
    · rw [if_pos h2, if_pos (by omega)]
    · rw [if_neg h2, if_neg (by omega)]
def tunedN (n : Nat) : List Bool := (List.range 12).map (fun k => decide (k ≤ n))
theorem tunedN_zero : tunedN 0 = tuned0 := by decide
theorem tunedN_succ (n : Nat) (hn : n < 11) : (tunedN n).set (n + 1) true = tunedN (n + 1) := by
  have : ∀ n : Nat, n < 11 → (tunedN n).set (n + 1) true = tunedN (n + 1) := by decide
  exact this n hn
theorem tunedN_get (n k : Nat) (hk : k < 12) : (tunedN n).getD k false = decide (k ≤ n) := by simp [tunedN, List.getD_eq_getElem?_getD, hk]
theorem usualKind_le (i : Nat) : usualKind i = 1 ∨ usualKind i = 2 := by unfold usualKind; split <;> simp
theorem planGo_good {p : List S67} (g : gPlan p) (j : Nat) (hj : j ≤ p.length) : planGo (p.drop j) (tunedN j) = true := by
  refine down (P := fun j => planGo (p.drop j) (tunedN j) = true) (n := p.length) ?_ ?_ j hj
  · rw [drop_end]; rfl
  · intro i hi ih
    have hl := g.1
    obtain ⟨g0, g1, g2, g3, g4⟩ := g.2 i hi
    rw [drop_cons p i hi, planGo, Bool.and_eq_true]
    constructor
    · have t1 := tunedN_get i i (by omega)
      have t2 := tunedN_get i (i + 1) (by omega)
      have e1 : (p[i].f0).toNat = i := by omega
      have e2 : (p[i].f1).toNat = i + 1 := by omega
      unfold stepOk
      rw [e1, e2, t1, t2]
      have hk : p[i].f2 = 1 ∨ p[i].f2 = 2 := by
        rcases g2 with h | h
        · exact .inr h
        · rw [h]; exact usualKind_le i
      simp only [Bool.and_eq_true, Bool.or_eq_true, decide_eq_true_eq]
      refine ⟨hk, ⟨g3, by omega⟩, by omega, by omega, by omega, Nat.le_refl _, ?_⟩
      simp
    · rw [g1, show ((i : Int) + 1).toNat = i + 1 by omega, tunedN_succ i (by omega)]
      exact ih
theorem planOk_good {p : List S67} (g : gPlan p) : planOk p = true := by
  unfold planOk
  rw [Bool.and_eq_true, decide_eq_true_eq]
  refine ⟨g.1, ?_⟩
  have := planGo_good g 0 (Nat.zero_le _)
  rwa [tunedN_zero] at this
theorem tunedBy_good {p : List S67} (g : gPlan p) (n : Nat) (hn : n ≤ p.length) : P.tunedBy (p.take n) tuned0 = tunedN n := by
  induction n with
  | zero => rw [tunedN_zero]; rfl
  | succ n ih =>
    rw [List.take_succ_eq_append_getElem (by omega), P.tunedBy_snoc, ih (by omega)]
    obtain ⟨g0, g1, _⟩ := g.2 n (by omega)
    rw [g1, show ((n : Int) + 1).toNat = n + 1 by omega]
    exact tunedN_succ n (by have := g.1; omega)
theorem keyGo_iff : ∀ (t : List Bool) (q : List Int), t.length = q.length → (keyGo t q = true ↔ ∀ k : Nat, k < q.length → if t.getD k false = true then 1 ≤ q.getD k 0 ∧ q.getD k 0 ≤ 10000000 else q.getD k 0 = 0)
  | [], [], _ => by simp [keyGo]
  | b :: t, x :: q, h => by
    have ih := keyGo_iff t q (by simpa using h)
    rw [keyGo, Bool.and_eq_true, ih]
    constructor
    · rintro ⟨h1, h2⟩ k hk
      cases k with
      | zero => simpa [apply_ite] using h1
      | succ k => simpa using h2 k (by simpa using hk)
    · intro h2
      refine ⟨?_, fun k hk => by simpa using h2 (k + 1) (by simpa using hk)⟩
      have := h2 0 (by simp)
      cases b <;> simpa using this
theorem workOk_good {p : List S67} (g : gPlan p) (n : Nat) (hn : n ≤ p.length) (q : List Int) :
    workOk p (n : Int) q = true ↔ q.length = 12 ∧ (∀ k : Nat, k ≤ n → 1 ≤ q.getD k 0 ∧ q.getD k 0 ≤ 10000000) ∧ (∀ k : Nat, n < k → k < 12 → q.getD k 0 = 0) := by
  unfold workOk
  rw [planOk_good g, Bool.true_and, decide_eq_true (show 0 ≤ (n : Int) ∧ (n : Int) ≤ p.length by omega), Bool.true_and, Int.toNat_natCast, tunedBy_good g n hn, Bool.and_eq_true, decide_eq_true_eq]
  have hl := g.1
  constructor
  · rintro ⟨h1, h2⟩
    rw [keyGo_iff _ _ (by simp [tunedN, h1])] at h2
    refine ⟨h1, fun k hk => ?_, fun k hk hk2 => ?_⟩
    · have := h2 k (by omega)
      rw [tunedN_get n k (by omega), decide_eq_true hk, if_pos rfl] at this
      exact this
    · have := h2 k (by omega)
      rw [tunedN_get n k (by omega), decide_eq_false (by omega), if_neg (by simp)] at this
      exact this
  · rintro ⟨h1, h2, h3⟩
    refine ⟨h1, (keyGo_iff _ _ (by simp [tunedN, h1])).2 fun k hk => ?_⟩
    rw [tunedN_get n k (by omega)]
    by_cases h : k ≤ n
    · rw [decide_eq_true h, if_pos rfl]; exact h2 k h
    · rw [decide_eq_false h, if_neg (by simp)]; exact h3 k (by omega) (by omega)
theorem workOk_pits {p : List S67} (g : gPlan p) {s : Int} (hs : 155000 ≤ s ∧ s ≤ 345000) (n : Nat) (hn : n ≤ p.length) : workOk p (n : Int) (pits p s n) = true := by
  have hl := g.1
  refine (workOk_good g n hn _).2 ⟨pits_len _ _ _, fun k hk => ?_, fun k hk hk2 => ?_⟩
  · rw [pits_get p s n k (by omega), if_pos hk]
    have := pit_fine g hs k (by omega)
    omega
  · rw [pits_get p s n k hk2, if_neg (by omega)]
theorem runGo_good {p : List S67} (g : gPlan p) {s : Int} (hs : 155000 ≤ s ∧ s ≤ 345000) (j : Nat) (hj : j ≤ p.length) : runGo (p.drop j) (pits p s j) = (pits p s p.length, true) := by
  refine down (P := fun j => runGo (p.drop j) (pits p s j) = (pits p s p.length, true)) (n := p.length) ?_ ?_ j hj
  · rw [drop_end]; rfl
  · intro i hi ih
    have hl := g.1
    obtain ⟨g0, g1, _⟩ := g.2 i hi
    rw [drop_cons p i hi, runGo]
    have e1 : (p[i].f0).toNat = i := by omega
    have e2 : (p[i].f1).toNat = i + 1 := by omega
    have e3 : tunedPitch ((pits p s i).getD i 0) p[i].f2 p[i].f3 = pit p s (i + 1) := by
      rw [pits_get p s i i (by omega), if_pos (Nat.le_refl _)]
      show _ = tunedPitch _ (p.getD i z67).f2 (p.getD i z67).f3
      rw [getS p i hi]
    have hf := pit_fine g hs (i + 1) hi
    rw [e1, e2, e3, if_neg (by omega), pits_succ p s i (by omega)]
    exact ih
theorem runPlan_good {p : List S67} (g : gPlan p) {s : Int} (hs : 155000 ≤ s ∧ s ≤ 345000) : runPlan s p = (pits p s p.length, true) := by
  unfold runPlan
  rw [if_pos ⟨planOk_good g, fine_of (by omega) (by omega)⟩, ← pits_zero p s]
  exact runGo_good g hs 0 (Nat.zero_le _)
end Go.Proofs.Ytlhlmjklajdejaa.Q


namespace Go.Proofs.Ytlhlmjklajdejaa.Q
set_option linter.unusedVariables false
set_option linter.unusedSimpArgs false
open Go.RowKit Go.Proofs.Ytlhlmjklajdejaa.P Go.Proofs.YtlhlmjklajdejaaW.PrintWords Go.Proofs.YtlhlmjklajdejaaW.PrintMore
theorem copyPlan_eq (p : List S67) (hp : p.length ≤ 4000000) : impl_copyPlan.f p = some p := by
  unfold impl_copyPlan.f; simp only [Option.bind_some]; rw [if_pos (by simp; omega)]; simp
theorem copyWork_eq (p : List S67) (d : Int) (q : List Int) (hp : p.length ≤ 4000000) (hq : q.length ≤ 4000000) : impl_copyWork.f p d q = some (p, d, q) := by
  unfold impl_copyWork.f; rw [copyPlan_eq p hp]; simp only [Option.bind_some]; rw [if_pos (by simp; omega)]; simp
end Go.Proofs.Ytlhlmjklajdejaa.Q


namespace Go.Proofs.Ytlhlmjklajdejaa.Q
set_option linter.unusedVariables false
set_option linter.unusedSimpArgs false
open Go.RowKit Go.Proofs.Ytlhlmjklajdejaa.P Go.Proofs.YtlhlmjklajdejaaW.PrintWords Go.Proofs.YtlhlmjklajdejaaW.PrintMore
def workStep (p : List S67) (d : Int) (q : List Int) : List S67 × Int × List Int × Bool :=
  if workOk p d q = true then
    if d = (p.length : Int) then (p, d, q, false)
    else if tuneAt p q d.toNat = 0 then (p, d, q, false)
    else (p, d + 1, q.set (p.getD d.toNat z67).f1.toNat (tuneAt p q d.toNat), true)
  else (p, d, q, false)
theorem step_impl (p : List S67) (d : Int) (q : List Int) (hp : p.length ≤ 4000000) (hq : q.length ≤ 4000000) : Ev (fun n => impl_WorkStep.f n p d q) (workStep p d q) := by
  have jt : Ev (fun n => impl_WorkStep.j0 n true p d q p d q) (p, d, q, false) := Ev.step (fun n => by rw [impl_WorkStep.j0]) (evp rfl (Ev.now _))
  unfold impl_WorkStep.f workStep
  refine evb (copyWork_eq p d q hp hq) (evb (workImpl_eq p d q) ?_)
  by_cases h : workOk p d q = true
  rotate_left
  · exact rneg h <| evn h jt
  refine rpos h <| evp h ?_
  have hp := workOk_plan h; have hd := workOk_done h; have hq := workOk_len h; have hl := planOk_len hp
  obtain ⟨m, rfl⟩ := Int.eq_ofNat_of_zero_le hd.1
  by_cases he : (m : Int) = (p.length : Int)
  · rw [show ((m : Int) == (p.length : Int)) = true by simpa using he]; exact rpos he jt
  rw [show ((m : Int) == (p.length : Int)) = false by simpa using he]
  refine rneg he ?_
  have hm : m < p.length := by omega
  obtain ⟨k0, k1, k2, k3, k4⟩ := planOk_in hp p[m] (List.getElem_mem hm)
  refine Ev.step (fun n => by rw [impl_WorkStep.j0]) ?_
  refine evn (by decide) (Ev.bind (tunedBy_ev p m q m hp hq hm) ?_)
  simp only [Int.toNat_natCast]
  by_cases hz : tuneAt p q m = 0
  · exact rpos hz <| evp hz (Ev.now _)
  refine rneg hz <| evn hz (evp (by omega) (evp (by omega) ?_))
  rw [rdS p m hm, getS p m hm, w64 (n := (m : Int) + 1) (by omega) (by omega)]
  exact evp k2 (evp (by omega) (Ev.now _))
theorem workStep_len (p : List S67) (d : Int) (q : List Int) : (workStep p d q).1 = p ∧ (workStep p d q).2.2.1.length = q.length := by
  unfold workStep; split
  · split
    · exact ⟨rfl, rfl⟩
    · split
      · exact ⟨rfl, rfl⟩
      · exact ⟨rfl, by simp⟩
  · exact ⟨rfl, rfl⟩
end Go.Proofs.Ytlhlmjklajdejaa.Q


namespace Go.Proofs.Ytlhlmjklajdejaa.Q
set_option linter.unusedVariables false
set_option linter.unusedSimpArgs false
open Go.RowKit Go.Proofs.Ytlhlmjklajdejaa.P Go.Proofs.YtlhlmjklajdejaaW.PrintWords Go.Proofs.YtlhlmjklajdejaaW.PrintMore
def stepsGo : Nat → List S67 × Int × List Int → List S67 × Int × List Int
  | 0, w => w
  | m + 1, w => if (workStep w.1 w.2.1 w.2.2).2.2.2 = true then stepsGo m ((workStep w.1 w.2.1 w.2.2).1, (workStep w.1 w.2.1 w.2.2).2.1, (workStep w.1 w.2.1 w.2.2).2.2.1) else w
def workSteps (w : List S67 × Int × List Int) (n : Int) : List S67 × Int × List Int := stepsGo (min n 100).toNat w
theorem mn_min (a b : Int) : mn a b = min a b := by unfold mn; split <;> omega
theorem steps_impl (p : List S67) (d : Int) (q : List Int) (m : Int) (hp : p.length ≤ 4000000) (hq : q.length ≤ 4000000) : Ev (fun n => impl_WorkSteps.f n p d q m) (workSteps (p, d, q) m) := by
  have key : ∀ i, i ≤ (min m 100).toNat → ∀ (d : Int) (q : List Int), q.length ≤ 4000000 → Ev (fun n => impl_WorkSteps.l0 n m (i : Int) p d q) (stepsGo ((min m 100).toNat - i) (p, d, q)) := by
    refine down (n := (min m 100).toNat) ?_ ?_
    · intro d q hq
      refine Ev.step (fun n => by rw [impl_WorkSteps.l0]) (evn (by rw [mn_min]; omega) (evs ?_))
      rw [Nat.sub_self]; rfl
    · intro i hi ih d q hq
      obtain ⟨e1, e2⟩ := workStep_len p d q
      refine Ev.step (fun n => by rw [impl_WorkSteps.l0]) ?_
      refine evp (by rw [mn_min]; omega) (Ev.bind (step_impl p d q hp hq) ?_)
      obtain ⟨j, hj⟩ : ∃ j, (min m 100).toNat - i = j + 1 := ⟨(min m 100).toNat - i - 1, by omega⟩
      rw [hj]
      show Ev _ (if (workStep p d q).2.2.2 = true then stepsGo j ((workStep p d q).1, (workStep p d q).2.1, (workStep p d q).2.2.1) else (p, d, q))
      by_cases h : (workStep p d q).2.2.2 = true
      rotate_left
      · exact rneg h <| evn h (Ev.now _)
      refine rpos h <| evp h ?_
      have := ih (workStep p d q).2.1 (workStep p d q).2.2.1 (by omega)
      rw [show (min m 100).toNat - (i + 1) = j by omega] at this
      rw [e1, w64 (n := (i : Int) + 1) (by omega) (by omega)]
      exact this
  unfold impl_WorkSteps.f
  refine evb (copyWork_eq p d q hp hq) ?_
  exact key 0 (Nat.zero_le _) d q hq
end Go.Proofs.Ytlhlmjklajdejaa.Q


namespace Go.Proofs.Ytlhlmjklajdejaa.Q
set_option linter.unusedVariables false
set_option linter.unusedSimpArgs false
open Go.RowKit Go.Proofs.Ytlhlmjklajdejaa.P Go.Proofs.YtlhlmjklajdejaaW.PrintWords Go.Proofs.YtlhlmjklajdejaaW.PrintMore
def newWork (a : Int) (p : List S67) : List S67 × Int × List Int × Bool := if (runPlan a p).2 = true then (p, 0, begun a, true) else ([], 0, [], false)
theorem runPlan_plan {a : Int} {p : List S67} (h : (runPlan a p).2 = true) : planOk p = true ∧ fine a = true := by
  unfold runPlan at h
  by_cases h2 : planOk p = true ∧ fine a = true
  · exact h2
  · rw [if_neg h2] at h; exact absurd h (by simp)
theorem newWork_impl (a : Int) (p : List S67) : Ev (fun n => impl_NewWork.f n a p) (newWork a p) := by
  unfold impl_NewWork.f newWork
  refine Ev.bind (runPlan_impl a p) ?_
  by_cases h : (runPlan a p).2 = true
  rotate_left
  · exact rneg h <| evn h (Ev.now _)
  refine rpos h <| evp h (evb (copyPlan_eq p (by have := planOk_len (runPlan_plan h).1; omega)) (evp (by decide) ?_))
  simp only [Option.bind_some]
  exact evp (by simp) (Ev.now _)
end Go.Proofs.Ytlhlmjklajdejaa.Q


namespace Go.Proofs.Ytlhlmjklajdejaa.Q
set_option linter.unusedVariables false
set_option linter.unusedSimpArgs false
open Go.RowKit Go.Proofs.Ytlhlmjklajdejaa.P Go.Proofs.YtlhlmjklajdejaaW.PrintWords Go.Proofs.YtlhlmjklajdejaaW.PrintMore
def rightTo (p : List S67) (q : List Int) (i : Nat) : Prop := ∀ k : Nat, k ≤ i → q.getD k 0 = pit p (q.getD 0 0) k
theorem rightTo_pits (p : List S67) (s : Int) (n : Nat) (hn : n < 12) : rightTo p (pits p s n) n := fun k hk => by
  rw [pits_get p s n k (by omega), if_pos hk, pits_get p s n 0 (by omega), if_pos (Nat.zero_le _)]; rfl
section
variable {p : List S67} (g : gPlan p)
include g
theorem tuneAt_right {q : List Int} {i : Nat} (hi : i < p.length) (h : q.getD i 0 = pit p (q.getD 0 0) i) : tuneAt p q i = pit p (q.getD 0 0) (i + 1) := by
  unfold tuneAt
  rw [(gAt g i hi).1, Int.toNat_natCast, h]; rfl
theorem workStep_good {s : Int} (hs : 155000 ≤ s ∧ s ≤ 345000) {n : Nat} (hn : n < p.length) : workStep p (n : Int) (pits p s n) = (p, ((n + 1 : Nat) : Int), pits p s (n + 1), true) := by
  have hl := g.1
  have hf := pit_fine g hs (n + 1) hn
  have e0 : (pits p s n).getD 0 0 = s := by rw [pits_get p s n 0 (by omega), if_pos (Nat.zero_le _)]; rfl
  have e1 : tuneAt p (pits p s n) n = pit p s (n + 1) := by
    have := tuneAt_right g hn (q := pits p s n) (rightTo_pits p s n (by omega) n (Nat.le_refl _))
    rwa [e0] at this
  unfold workStep
  rw [if_pos (workOk_pits g hs n (by omega)), if_neg (by omega), Int.toNat_natCast, e1, if_neg (by omega), (gAt g n hn).2.1, show ((n : Int) + 1).toNat = n + 1 by omega, pits_succ p s n (by omega)]
  rfl
theorem workStep_end {s : Int} (hs : 155000 ≤ s ∧ s ≤ 345000) : workStep p (p.length : Int) (pits p s p.length) = (p, (p.length : Int), pits p s p.length, false) := by
  unfold workStep
  rw [if_pos (workOk_pits g hs p.length (Nat.le_refl _)), if_pos rfl]
theorem stepsGo_good {s : Int} (hs : 155000 ≤ s ∧ s ≤ 345000) (m : Nat) : ∀ n : Nat, n ≤ p.length → stepsGo m (p, (n : Int), pits p s n) = (p, ((min (n + m) p.length : Nat) : Int), pits p s (min (n + m) p.length)) := by
  induction m with
  | zero => intro n hn; rw [stepsGo, Nat.add_zero, Nat.min_eq_left hn]
  | succ m ih =>
    intro n hn
    by_cases h : n < p.length
    · rw [stepsGo, workStep_good g hs h, if_pos rfl]
      dsimp only
      rw [ih (n + 1) h, show n + 1 + m = n + (m + 1) by omega]
    · obtain rfl : n = p.length := by omega
      rw [stepsGo, workStep_end g hs, if_neg (by simp), Nat.min_eq_right (by omega)]
theorem workSteps_good {s : Int} (hs : 155000 ≤ s ∧ s ≤ 345000) (x : Int) (n : Nat) (hn : n ≤ p.length) :
    workSteps (p, (n : Int), pits p s n) x = (p, ((min (n + (min x 100).toNat) p.length : Nat) : Int), pits p s (min (n + (min x 100).toNat) p.length)) := by
  unfold workSteps
  exact stepsGo_good g hs _ n hn
theorem newWork_good {s : Int} (hs : 155000 ≤ s ∧ s ≤ 345000) : newWork s p = (p, ((0 : Nat) : Int), pits p s 0, true) := by
  unfold newWork
  rw [runPlan_good g hs, if_pos rfl, pits_zero]; rfl
end
end Go.Proofs.Ytlhlmjklajdejaa.Q


namespace Go.Proofs.Ytlhlmjklajdejaa.Q
set_option linter.unusedVariables false
set_option linter.unusedSimpArgs false
open Go.RowKit Go.Proofs.Ytlhlmjklajdejaa.P Go.Proofs.YtlhlmjklajdejaaW.PrintWords Go.Proofs.YtlhlmjklajdejaaW.PrintMore
def finished (p : List S67) (d : Int) (q : List Int) : Bool := if workOk p d q = true then d == (p.length : Int) else false
theorem finishedImpl_eq (p : List S67) (d : Int) (q : List Int) : impl_IsFinished.f p d q = some (finished p d q) := by
  unfold impl_IsFinished.f finished; rw [workImpl_eq, Option.bind_some]; split <;> rfl
end Go.Proofs.Ytlhlmjklajdejaa.Q


namespace Go.Proofs.Ytlhlmjklajdejaa.Q
set_option linter.unusedVariables false
set_option linter.unusedSimpArgs false
open Go.RowKit Go.Proofs.Ytlhlmjklajdejaa.P Go.Proofs.YtlhlmjklajdejaaW.PrintWords Go.Proofs.YtlhlmjklajdejaaW.PrintMore
theorem at_ev (b : List Int) (hb : b.length ≤ 1048576) (hw : ∀ x ∈ b, (Lit.int .u8 x).wf = true) (a : Int) (h0 : 0 ≤ a) (h1 : a ≤ 100000) : ∃ v, laws_at.f b a = some v ∧ 0 ≤ v ∧ v ≤ 255 := by
  unfold laws_at.f
  by_cases h : (b.length : Int) = 0
  · rw [if_pos h]; exact ⟨0, rfl, by omega, by omega⟩
  rw [if_neg h, w64 (n := a * 5) (by omega) (by omega), w64 (n := a * 5 + 1) (by omega) (by omega)]
  have e0 : 0 ≤ Int.tmod (a * 5 + 1) (b.length : Int) := Int.tmod_nonneg _ (by omega)
  have e1 : Int.tmod (a * 5 + 1) (b.length : Int) < (b.length : Int) := by rw [Int.tmod_eq_emod_of_nonneg (by omega)]; exact Int.emod_lt_of_pos _ (by omega)
  rw [if_pos e0, if_pos e1]
  obtain ⟨m, hm⟩ := Int.eq_ofNat_of_zero_le e0
  rw [hm, rd_nat b m (by omega)]
  have h2 := hw b[m] (List.getElem_mem _)
  have h3 : 0 ≤ b[m] ∧ b[m] ≤ 255 := by
    simp [Lit.wf, IntKind.min, IntKind.max, IntKind.signed, IntKind.bits] at h2
    omega
  exact ⟨_, rfl, by rw [w64 (by omega) (by omega)]; omega, by rw [w64 (by omega) (by omega)]; omega⟩
theorem sameInts_ev (l : List Int) (hl : l.length ≤ 9000000000000000000) : Ev (fun k => laws_sameInts.f k l l) true := by
  have key : ∀ i, i ≤ l.length → Ev (fun k => laws_sameInts.l0 k l l (i : Int)) true := by
    refine down (n := l.length) ?_ ?_
    · exact Ev.step (fun k => by rw [laws_sameInts.l0]) (evn (by omega) (evs rfl))
    · intro i hi ih
      refine Ev.step (fun k => by rw [laws_sameInts.l0]) (evp (by omega) (evp (by omega) (evp (by omega) (evp rfl ?_))))
      rw [w64 (by omega) (by omega)]
      exact ih
  unfold laws_sameInts.f
  exact evp rfl (key 0 (Nat.zero_le _))
end Go.Proofs.Ytlhlmjklajdejaa.Q


namespace Go.Proofs.Ytlhlmjklajdejaa.Pure
set_option linter.unusedVariables false
set_option linter.unusedSimpArgs false
open Go.RowKit Go.Proofs.Ytlhlmjklajdejaa.P Go.Proofs.Ytlhlmjklajdejaa.Q Go.Proofs.YtlhlmjklajdejaaW.PrintWords Go.Proofs.YtlhlmjklajdejaaW.PrintLast
theorem FnParts : laws_FnParts.Pure := by
  intro b hb1 hb2 hb3
  refine Ev.rounds ?_
  unfold laws_FnParts.f
  refine evb rfl ?_
  by_cases h : (b.length : Int) > 1048576
  · exact evp (decide_eq_true h) (Ev.now _)
  refine evn (by simpa using h) ?_
  have hb : b.length ≤ 1048576 := by omega
  obtain ⟨s, p, D, g, s0, s1⟩ := drawPlan_ev b hb
  have hs : 155000 ≤ s ∧ s ≤ 345000 := by omega
  have hl := g.1
  have A := newWork_impl s p
  rw [newWork_good g hs] at A
  have B := runPlan_impl s p
  rw [runPlan_good g hs] at B
  have W0 : impl_WorkOk.f p ((0 : Nat) : Int) (pits p s 0) = some true := by rw [workImpl_eq, workOk_pits g hs 0 (Nat.zero_le _)]
  refine Ev.bind D (Ev.bind A (Ev.bind B (evp rfl (evp rfl (evb W0 ?_)))))
  refine Ev.step (fun k => by rw [laws_FnParts.j0]) (evn (by decide) ?_)
  obtain ⟨v, ev, v0, v1⟩ := at_ev b hb hb3 0 (Int.le_refl _) (by omega)
  refine evb ev ?_
  have t0 : 0 ≤ Int.tmod v 13 := Int.tmod_nonneg _ v0
  have t1 : Int.tmod v 13 < 13 := by rw [Int.tmod_eq_emod_of_nonneg v0]; exact Int.emod_lt_of_pos _ (by omega)
  obtain ⟨n, hn⟩ : ∃ n, Int.tmod v 13 = n := ⟨_, rfl⟩
  rw [hn] at t0 t1 ⊢
  have X := steps_impl p ((0 : Nat) : Int) (pits p s 0) n (by omega) (by rw [pits_len]; omega)
  rw [workSteps_good g hs n 0 (Nat.zero_le _)] at X
  obtain ⟨m, hm⟩ : ∃ m, min (0 + (min n 100).toNat) p.length = m := ⟨_, rfl⟩
  rw [hm] at X
  have hmle : m ≤ p.length := by omega
  have Y := steps_impl p (m : Int) (pits p s m) 100 (by omega) (by rw [pits_len]; omega)
  rw [workSteps_good g hs 100 m hmle, show min (m + (min (100 : Int) 100).toNat) p.length = p.length by omega] at Y
  have Z := steps_impl p ((0 : Nat) : Int) (pits p s 0) 100 (by omega) (by rw [pits_len]; omega)
  rw [workSteps_good g hs 100 0 (Nat.zero_le _), show min (0 + (min (100 : Int) 100).toNat) p.length = p.length by omega] at Z
  refine Ev.bind X (Ev.bind Y (Ev.bind Z (evp ?_ ?_)))
  · show (m : Int) = mn n (p.length : Int)
    unfold mn; split <;> omega
  have F : impl_IsFinished.f p (p.length : Int) (pits p s p.length) = some true := by
    rw [finishedImpl_eq]; unfold finished; rw [workOk_pits g hs _ (Nat.le_refl _), if_pos rfl]; simp
  have S := sameInts_ev (pits p s p.length) (by rw [pits_len]; omega)
  have W1 : impl_WorkOk.f p (m : Int) (pits p s m) = some true := by rw [workImpl_eq, workOk_pits g hs m hmle]
  exact evb F (evp rfl (Ev.bind S (evp rfl (Ev.bind S (evp rfl (evb W1 (Ev.now _)))))))
end Go.Proofs.Ytlhlmjklajdejaa.Pure


namespace Go.Proofs.Ytlhlmjklajdejaa.fnParts
open Go.ChangeShapes Go.WideShapes Go.ChangeAt Go.RowKit
open Go.ChangeMaps (open_string shut_string)
set_option linter.unusedVariables false
theorem own : ownKnob Try.prog.godebug = none := by kernel_rfl
theorem laidOut : laidOutB Try.prog = true := by kernel_rfl
def IsRow (k : IntKind) (w : World) (a : Option Addr) (len cap : Nat) (zs : List Int) : Prop :=
  (a = none ∧ len = 0 ∧ cap = 0 ∧ zs = []) ∨
  ∃ x, a = some x ∧ len ≤ cap ∧ cap ≤ maxLen ∧ zs.length = cap ∧ (∀ i, i < zs.length → w.cell? (x.add i) = some (.int k (zs.getD i 0))) ∧ ∀ n ∈ zs, (Lit.int k n).wf = true
set_option maxRecDepth 100000 in
theorem lifted (os : Os) (started : os.Started) (H : Type) (enc : TypeId × Value → H) :
    ReturnsInHanded {} Try.checked os 13 .any (Rows.fnPartsSpec.pre6 enc Try.prog Try.f13 Rows.fnPartsRow.domain false) (Rows.fnPartsSpec.post enc Try.prog Try.f13 false true false false) := by
  refine returnsInHanded_of_change_sized (C := Try.checked) own started (by kernel_rfl) Try.func13
    (ChangeSpec.witness6 (enc := enc) (C := Try.checked) false ⟨#[], #[.slice none 0 0], []⟩ 8 (by kernel_rfl) (by kernel_rfl) (by kernel_rfl) (by kernel_rfl)) ?_
  intro W base args ds gs before hval0 hW hcnd hsz0 _
  have hsz : (DataW.weightsEach Try.prog (Try.f13.params.toList ++ Rows.fnPartsSpec.plain.varTypes Try.prog) (ds ++ gs)).all (· ≤ reachBytes) = true := hsz0
  have hval : ∀ (j : Nat) t v, Try.f13.params[j]? = some t → args[j]? = some v → Value.okWide Try.prog W .any base t v := hval0
  have hW' := hW
  obtain ⟨p, q, hA0, hV, rfl, hfz, hnd⟩ := hW
  have hA : DataW.TrodAll enc Try.prog W 0 (fun _ => true) true Try.f13.params.toList args.toList ds p := hA0
  rw [Try.params13] at hA hval hsz
  obtain ⟨v0, vs0, d0, ds0, p0, q0, hargs, rfl, rfl, h0, r0⟩ := trodAll_cons hA
  obtain ⟨rfl, rfl, rfl⟩ := trodAll_nil r0
  obtain rfl : args = #[v0] := by cases args; simp_all
  obtain ⟨rfl, rfl⟩ := trodVars_none hV
  obtain ⟨a0, len0, cap0, rfl⟩ := okWide_slice Try.underlying53 (hval 0 53 v0 rfl rfl)
  have k0 := h0
  have lt0 : ∀ x ∈ p0, x.block < W.heap.size := by obtain ⟨m, hm⟩ := k0; exact DataW.trod_lt m _ _ _ hm
  obtain ⟨z0, w0⟩ : ∃ zs, IsRow .u8 W a0 len0 cap0 zs := by
    obtain ⟨fuel, hf⟩ := h0
    rcases open_ints Try.underlying53 Try.underlying5 (by kernel_rfl) hf with ⟨hcs, _⟩ | ⟨x, l, c, zs, hcs, _, hl, hm, hz, _, hcell, hwz⟩
    · simp [Value.cells] at hcs
      obtain ⟨rfl, rfl, rfl⟩ := hcs
      exact ⟨[], .inl ⟨rfl, rfl, rfl, rfl⟩⟩
    · simp [Value.cells] at hcs
      obtain ⟨rfl, rfl, rfl⟩ := hcs
      exact ⟨zs, .inr ⟨_, rfl, hl, hm, by simpa using hz, hcell, hwz⟩⟩
  have y0 : len0 * 1 ≤ 140737488351232 := Go.Proofs.YtlhlmjklajdejaaW.PrintWords.sized_ints hsz (j := 0) (t := 53) rfl rfl Try.underlying53 Try.underlying5 (by kernel_rfl) (by kernel_rfl) h0
  clear hA0 hval0 hsz0 hsz
  refine (P.laws_FnParts.walk Pure.FnParts a0 len0 cap0 z0 W w0 y0).mono fun e W' ⟨he, bel⟩ => ?_
  subst he
  exact ⟨_, rfl, _, _, _, [], _, [], hW', trodAll_mk1 (shut_bool Try.underlying4 _), (trodAll_cons_mk (Below.trod laidOut (by kernel_rfl) (of_decide_eq_true (by kernel_rfl)) k0 bel lt0) trodAll_mk0), rfl, bel.frame _, fun h => by cases h⟩
theorem over : Rows.fnPartsRow.holds Try.pinned (OpenSpec.ofChange Rows.fnPartsSpec) :=
  OpenClaim.holds_of_wide 13 Try.f13 rfl rfl rfl rfl rfl rfl rfl ⟨rfl, rfl, rfl, rfl, rfl⟩ rfl rfl rfl rfl rfl (by kernel_rfl) Try.func13 (by kernel_rfl)
    (of_decide_eq_true (by kernel_rfl)) (by unfold Func.isWrapper; first | (rw [if_pos (by decide +kernel)]; kernel_rfl) | (rw [if_neg (by decide +kernel)]; exact ⟨rfl, rfl⟩))
    (fun os started H enc _ => lifted os started H enc)
theorem proved : Rows.FnPartsSaid := over
#print axioms proved
end Go.Proofs.Ytlhlmjklajdejaa.fnParts
namespace Go.Proofs.Ytlhlmjklajdejaa
theorem fnParts_holds : Rows.FnPartsSaid := fnParts.proved
end Go.Proofs.Ytlhlmjklajdejaa

