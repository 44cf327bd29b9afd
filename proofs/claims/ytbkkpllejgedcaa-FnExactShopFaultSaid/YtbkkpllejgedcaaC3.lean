/- What functions of the program come to (f), that their calls come to just this (calls), and the plain laws over lists and numbers. No condition but those of the given row. -/
import Derived.Test.YtbkkpllejgedcaaC2
namespace Go.Proofs.Ytbkkpllejgedcaa.P
open Go.RowKit Go.Proofs.YtbkkpllejgedcaaW.PrintWords Go.Proofs.YtbkkpllejgedcaaW.PrintLast Go.Proofs.YtbkkpllejgedcaaW.PrintMore Go.Proofs.Ytbkkpllejgedcaa.V
attribute [local go_sem] cell_b frozen_b
attribute [local go_sem] max2_int min2_int max_two min_two max_three min_three max_four min_four
set_option linter.unusedVariables false
set_option linter.unusedSimpArgs false
def spec_ShopFault.f (k : Nat) (l0_0 : List (S96)) (a0_1 : Int) (l0_2 : List Int) (a0_3 : Int) (a0_4 : Int) (l0_5 : List (S74)) (a1_0 : Int) (a1_1 : Int) (a2 : Int) : Option ((List (S96)) × Int × List Int × Int × Int × (List (S74)) × Bool) := (spec_l38Copy.f l0_0 a0_1 l0_2 a0_3 a0_4 l0_5).bind fun bt995 => ((spec_AddEntry.f k l0_5 a1_0 a1_1 a2 a0_4).bind fun bt1008 => ((spec_ShopOk.f k l0_0 a0_1 l0_2 a0_3 a0_4 l0_5).bind fun t1012 => (if t1012 = true then (if bt1008.2 = true then (some (bt995.1, bt995.2.1, bt995.2.2.1, bt995.2.2.2.1, bt995.2.2.2.2.1, bt1008.1, true)) else (some (bt995.1, bt995.2.1, bt995.2.2.1, bt995.2.2.2.1, bt995.2.2.2.2.1, bt995.2.2.2.2.2, false))) else (some (bt995.1, bt995.2.1, bt995.2.2.1, bt995.2.2.2.1, bt995.2.2.2.2.1, bt995.2.2.2.2.2, false)))))
set_option maxHeartbeats 8000000 in
set_option maxRecDepth 100000 in
set_option synthInstance.maxHeartbeats 400000 in
set_option synthInstance.maxSize 100000 in
theorem spec_ShopFault.calls (k : Nat) (A0_0 : Option Addr) (c0_0 : Nat) (l0_0 : List (S96)) (a0_1 : Int) (A0_2 : Option Addr) (c0_2 : Nat) (l0_2 : List Int) (a0_3 : Int) (a0_4 : Int) (A0_5 : Option Addr) (c0_5 : Nat) (l0_5 : List (S74)) (a1_0 : Int) (a1_1 : Int) (a2 : Int) (r1 : List (S96)) (r2 : Int) (r3 : List Int) (r4 : Int) (r5 : Int) (r6 : List (S74)) (r7 : Bool) (w : World) (hr0_0 : Kd.C k96 w A0_0 l0_0.length l0_0) (hc0_0 : l0_0.length ≤ c0_0) (hr0_2 : Kd.C (Kd.int .i64) w A0_2 l0_2.length l0_2) (hc0_2 : l0_2.length ≤ c0_2) (hr0_5 : Kd.C k74 w A0_5 l0_5.length l0_5) (hc0_5 : l0_5.length ≤ c0_5) (h : spec_ShopFault.f k l0_0 a0_1 l0_2 a0_3 a0_4 l0_5 a1_0 a1_1 a2 = some (r1, r2, r3, r4, r5, r6, r7)) :
    Calls Try.prog 36 #[.agg #[.slice A0_0 l0_0.length c0_0, .int .i64 a0_1, .slice A0_2 l0_2.length c0_2, .int .i64 a0_3, .int .i64 a0_4, .slice A0_5 l0_5.length c0_5], .agg #[.int .i64 a1_0, .int .i64 a1_1], .int .i64 a2] w fun e w' => ∃ v0_ v2_ v5_ : Value, e = .returned (.tuple #[.agg #[v0_, .int .i64 r2, v2_, .int .i64 r4, .int .i64 r5, v5_], .bool r7]) ∧ Kd.R k96 96 w' w.heap.size (fun _ => True) v0_ r1 ∧ Kd.R (Kd.int .i64) 3 w' w.heap.size (fun _ => True) v2_ r3 ∧ Kd.R k74 74 w' w.heap.size (fun _ => True) v5_ r6 ∧ Below w.heap.size w w' := by
  have ihr0_0 := RdE.mk hr0_0
  have ihc0_0 := LeI.mk hc0_0
  have ihr0_2 := RdE.mk hr0_2
  have ihc0_2 := LeI.mk hc0_2
  have ihr0_5 := RdE.mk hr0_5
  have ihc0_5 := LeI.mk hc0_5
  clear hr0_0 hc0_0 hr0_2 hc0_2 hr0_5 hc0_5
  unfold spec_ShopFault.f at h
  have hu36 := Try.underlying36
  have hu56 := Try.underlying56
  (repeat' first | ((with_reducible replace h := ite_some h); rcases h with ⟨hc, h⟩ | ⟨hc, h⟩ <;> first | exact (none_some h).elim | exact absurd hc (by decide) | subst hc | (replace hc := Bool.eq_false_iff.mpr hc; subst hc) | (have hd := beq_iff_eq.mpr hc; have he := bne_eq_false_iff_eq.mpr hc; clear hc) | (have hd := beq_eq_false_iff_ne.mpr hc; have he := bne_iff_ne.mpr hc) | (have hd := decide_eq_false hc) | (have hd := decide_eq_true hc) | skip))
  all_goals go_enter Try.func36, Try.ntmps36
  all_goals go_wp2_with (first
    | ((with_reducible refine gate_dst (N := 3) rfl ?_); refine box_event rfl (N := 3) rfl (cs := #[.slice A0_0 l0_0.length c0_0, .int .i64 a0_1, .slice A0_2 l0_2.length c0_2, .int .i64 a0_3, .int .i64 a0_4, .slice A0_5 l0_5.length c0_5]) (t := 36) (by first | (go_simp; done) | (go_simp; rfl)) ?_; intro g hg w1 hk hb; have j1 := Born.mk hg; have j2 := Bel.mk hb; have j3 := Blk.mk hk; clear hg hb hk)
    | ((with_reducible refine gate_dst (N := 4) rfl ?_); refine box_event rfl (N := 4) rfl (cs := #[.int .i64 a1_0, .int .i64 a1_1]) (t := 56) (by first | (go_simp; done) | (go_simp; rfl)) ?_; intro g hg w1 hk hb; have j1 := Born.mk hg; have j2 := Bel.mk hb; have j3 := Blk.mk hk; clear hg hb hk)
    | ((with_reducible refine gate_dst (N := 6) rfl ?_); refine box_event rfl (N := 6) rfl (cs := #[.slice none 0 0, .int .i64 0, .slice none 0 0, .int .i64 0, .int .i64 0, .slice none 0 0]) (t := 36) (by first | (go_simp; done) | (go_simp; rfl)) ?_; intro g hg w1 hk hb; have j1 := Born.mk hg; have j2 := Bel.mk hb; have j3 := Blk.mk hk; clear hg hb hk)
    | ((with_reducible refine gate_dst (N := 8) rfl ?_); refine box_event rfl (N := 8) rfl (cs := #[.slice none 0 0, .int .i64 0, .slice none 0 0, .int .i64 0, .int .i64 0, .slice none 0 0]) (t := 36) (by first | (go_simp; done) | (go_simp; rfl)) ?_; intro g hg w1 hk hb; have j1 := Born.mk hg; have j2 := Bel.mk hb; have j3 := Blk.mk hk; clear hg hb hk)
    | (go_at_call 83; replace h := Option.bind_eq_some_iff.mp h; obtain ⟨⟨t1, t2, t3, t4, t5, t6⟩, A, h⟩ := h; (try dsimp only at h); refine (spec_l38Copy.calls _ _ _ _ _ _ _ _ _ _ _ _ _ _ _ _ _ _ _ Rd.out LeI.out Rd.out LeI.out Rd.out LeI.out A).mono ?_; rintro e w2 ⟨v0, v1, v2, rfl, ho0, ho1, ho2, hb⟩; obtain ⟨B0, b0, rfl⟩ := Kd.R_slice ho0; have j0 := RowE.mk ho0; have q0 := LeI.mk (rowLe j0); obtain ⟨B1, b1, rfl⟩ := Kd.R_slice ho1; have j1 := RowE.mk ho1; have q1 := LeI.mk (rowLe j1); obtain ⟨B2, b2, rfl⟩ := Kd.R_slice ho2; have j2 := RowE.mk ho2; have q2 := LeI.mk (rowLe j2); have jb := Bel.mk hb; clear A ho0 ho1 ho2 hb; (repeat' first | ((with_reducible replace h := ite_some h); rcases h with ⟨hc, h⟩ | ⟨hc, h⟩ <;> first | exact (none_some h).elim | exact absurd hc (by decide) | subst hc | (replace hc := Bool.eq_false_iff.mpr hc; subst hc) | (have hd := beq_iff_eq.mpr hc; have he := bne_eq_false_iff_eq.mpr hc; clear hc) | (have hd := beq_eq_false_iff_ne.mpr hc; have he := bne_iff_ne.mpr hc) | (have hd := decide_eq_false hc) | (have hd := decide_eq_true hc) | skip)))
    | (go_at_call 48; replace h := Option.bind_eq_some_iff.mp h; obtain ⟨⟨t1, t2⟩, A, h⟩ := h; (try dsimp only at h); refine (spec_AddEntry.calls _ _ _ _ _ _ _ _ _ _ _ Rd.out LeI.out A).mono ?_; rintro e w2 ⟨v0, rfl, ho0, hb⟩; obtain ⟨B0, b0, rfl⟩ := Kd.R_slice ho0; have j0 := RowE.mk ho0; have q0 := LeI.mk (rowLe j0); have jb := Bel.mk hb; clear A ho0 hb; (repeat' first | ((with_reducible replace h := ite_some h); rcases h with ⟨hc, h⟩ | ⟨hc, h⟩ <;> first | exact (none_some h).elim | exact absurd hc (by decide) | subst hc | (replace hc := Bool.eq_false_iff.mpr hc; subst hc) | (have hd := beq_iff_eq.mpr hc; have he := bne_eq_false_iff_eq.mpr hc; clear hc) | (have hd := beq_eq_false_iff_ne.mpr hc; have he := bne_iff_ne.mpr hc) | (have hd := decide_eq_false hc) | (have hd := decide_eq_true hc) | skip)))
    | (go_at_call 16; replace h := Option.bind_eq_some_iff.mp h; obtain ⟨t, A, h⟩ := h; (try dsimp only at h); refine (spec_ShopOk.calls _ _ _ _ _ _ _ _ _ _ _ _ _ _ _ Rd.out LeI.out Rd.out LeI.out Rd.out LeI.out A).mono ?_; rintro e w2 ⟨rfl, hb⟩; have jb := Bel.mk hb; clear A hb; (repeat' first | ((with_reducible replace h := ite_some h); rcases h with ⟨hc, h⟩ | ⟨hc, h⟩ <;> first | exact (none_some h).elim | exact absurd hc (by decide) | subst hc | (replace hc := Bool.eq_false_iff.mpr hc; subst hc) | (have hd := beq_iff_eq.mpr hc; have he := bne_eq_false_iff_eq.mpr hc; clear hc) | (have hd := beq_eq_false_iff_ne.mpr hc; have he := bne_iff_ne.mpr hc) | (have hd := decide_eq_false hc) | (have hd := decide_eq_true hc) | skip))))
  all_goals (repeat' first | ((with_reducible replace h := ite_some h); rcases h with ⟨hc, h⟩ | ⟨hc, h⟩ <;> first | exact (none_some h).elim | exact absurd hc (by decide) | subst hc | (replace hc := Bool.eq_false_iff.mpr hc; subst hc) | (have hd := beq_iff_eq.mpr hc; have he := bne_eq_false_iff_eq.mpr hc; clear hc) | (have hd := beq_eq_false_iff_ne.mpr hc; have he := bne_iff_ne.mpr hc) | (have hd := decide_eq_false hc) | (have hd := decide_eq_true hc) | skip))
  all_goals simp only [Option.some.injEq, Prod.mk.injEq] at h
  all_goals obtain ⟨rfl, rfl, rfl, rfl, rfl, rfl, rfl⟩ := h
  all_goals refine bodyPost_ret (results_ct rfl _ _ _ _ _ (0, 0) _ rfl Blk.out Try.underlying36 rfl (by kernel_rfl)) rfl ?_
  all_goals exact ⟨_, _, _, rfl, (by first | exact rowFin | exact Kd.R_nil _ _ _ _ _), (by first | exact rowFin | exact Kd.R_nil _ _ _ _ _), (by first | exact rowFin | exact Kd.R_nil _ _ _ _ _), From.out⟩
end Go.Proofs.Ytbkkpllejgedcaa.P


namespace Go.Proofs.Ytbkkpllejgedcaa.P
open Go.RowKit Go.Proofs.YtbkkpllejgedcaaW.PrintWords Go.Proofs.YtbkkpllejgedcaaW.PrintLast Go.Proofs.YtbkkpllejgedcaaW.PrintMore Go.Proofs.Ytbkkpllejgedcaa.V
attribute [local go_sem] cell_b frozen_b
attribute [local go_sem] max2_int min2_int max_two min_two max_three min_three max_four min_four
set_option linter.unusedVariables false
set_option linter.unusedSimpArgs false
def impl_LogOk.f (k : Nat) (l0 : List (S74)) : Option (Bool) := some (Q.logOk l0)
attribute [local go_sem] cellR_c
set_option maxHeartbeats 8000000 in
set_option maxRecDepth 100000 in
set_option synthInstance.maxHeartbeats 400000 in
set_option synthInstance.maxSize 100000 in
theorem impl_LogOk.calls (k : Nat) (A0 : Option Addr) (c0 : Nat) (l0 : List (S74)) (r : Bool) (w : World) (hr0 : Kd.C k74 w A0 l0.length l0) (hc0 : l0.length ≤ c0) (h : impl_LogOk.f k l0 = some r) :
    Calls Try.prog 65 #[.slice A0 l0.length c0] w fun e w' => e = .returned (.bool r) ∧ Below w.heap.size w w' := by
  have win : ∀ (a b c : Int) (d : Bool), decide (b ≤ a ∧ a ≤ c) = d → Aside0 (∀ W : World, Calls Try.prog 67 #[.int .i64 a, .int .i64 b, .int .i64 c] W fun e w' => e = .returned (.bool d) ∧ Drawn0 W w') := fun a b c d hd =>
    ⟨fun W => impl_within.calls a b c d W (by rw [← hd]; unfold impl_within.f; by_cases hh : b ≤ a <;> simp [hh])⟩
  have hm : l0.length ≤ 9223372036854775807 := Kd.C_max hr0
  have HQ : Aside0 ((Q.logGo (Q.prevM l0 0) (l0.drop 0) && decide (l0.length ≤ 30)) = r) := ⟨Option.some.inj h⟩
  have HR0 := Aside0.mk hr0
  have WIN := Aside0.mk win
  clear hr0 h win
  have hu := Try.underlying74
  go_enter Try.func65, Try.ntmps65
  go_wp2
  go_loopg [7] (l0.length + 1) (fun kq v7 w' => ∃ (i : Nat), v7 = .int .i64 (i : Int) ∧ Aside0 (i + kq = l0.length + 1) ∧ Aside0 (i ≤ l0.length) ∧ Aside0 ((Q.logGo (Q.prevM l0 i) (l0.drop i) && decide (l0.length ≤ 30)) = r) ∧ Aside0 (Below w.heap.size w w'))
  case atStart => exact ⟨0, rfl, ⟨by omega⟩, ⟨by omega⟩, HQ, ⟨by repeat (first | exact Below.refl _ _ | apply below_alloc | apply pw_below_drewN | apply below_drew1)⟩⟩
  case round =>
    clear HQ
    obtain ⟨i, rfl, HI1, HI2, HQ, HB⟩ := hrel
    have jf : From w wr := ⟨HB.out⟩
    have js : Sz w wr := ⟨HB.out.size⟩
    by_cases hlt : i < l0.length
    rotate_left
    · have hb3 : decide ((i : Int) < (l0.length : Int)) = false := decide_eq_false (by omega)
      have hb4 : decide (i < l0.length) = false := decide_eq_false (by omega)
      obtain rfl : i = l0.length := by have := HI2.out; omega
      have HX : Aside0 (decide (l0.length ≤ 30) = r) := ⟨by rw [← HQ.out, List.drop_eq_nil_of_le (Nat.le_refl _)]; simp [Q.logGo]⟩
      have hx1 : decide ((l0.length : Int) ≤ 30) = r := by rw [← HX.out]; exact decide_eq_decide.mpr (by omega)
      clear HQ HR0 WIN
      go_wp2
      go_ret
      exact ⟨by first | rfl | (simp [hx1]; done), HB.out⟩
    · have hb3 : decide ((i : Int) < (l0.length : Int)) = true := decide_eq_true (by omega)
      have hb4 : decide (i < l0.length) = true := decide_eq_true hlt
      obtain ⟨ad, e, hx0, hx1, hx2, hx3⟩ := at_T74 HR0.out (i : Int) (by omega) (by omega)
      cases e
      obtain ⟨x, hx⟩ : ∃ x, rd_T74 l0 (i : Int) = x := ⟨_, rfl⟩
      rw [hx] at hx0 hx1 hx2 hx3
      simp only [Int.toNat_natCast] at hx0 hx1 hx2 hx3
      have j0 : CelR wr _ _ := ⟨(HB.out.cell (World.block_lt_of_cell? w _ hx0)).trans hx0⟩
      have j1 : CelR wr _ _ := ⟨(HB.out.cell (World.block_lt_of_cell? w _ hx1)).trans hx1⟩
      have j2 : CelR wr _ _ := ⟨(HB.out.cell (World.block_lt_of_cell? w _ hx2)).trans hx2⟩
      have j3 : CelR wr _ _ := ⟨(HB.out.cell (World.block_lt_of_cell? w _ hx3)).trans hx3⟩
      have e0 : l0[i] = x := by rw [← hx]; simp [rd_T74, List.getD_eq_getElem?_getD, hlt]
      have HD := Aside0.mk (Q.logGo_at l0 i hlt)
      rw [e0] at HD
      obtain ⟨b1, hb1⟩ : ∃ b, decide (0 ≤ x.f0.f0 ∧ x.f0.f0 ≤ 3) = b := ⟨_, rfl⟩
      obtain ⟨b2, hb2⟩ : ∃ b, decide (0 ≤ x.f0.f1 ∧ x.f0.f1 ≤ 39) = b := ⟨_, rfl⟩
      obtain ⟨b3, hb3'⟩ : ∃ b, decide (0 ≤ x.f1 ∧ x.f1 ≤ 2) = b := ⟨_, rfl⟩
      obtain ⟨b4, hb4'⟩ : ∃ b, decide (0 ≤ x.f2 ∧ x.f2 ≤ 100000) = b := ⟨_, rfl⟩
      have W1 := WIN.out _ _ _ _ hb1
      have W2 := WIN.out _ _ _ _ hb2
      have W3 := WIN.out _ _ _ _ hb3'
      have W4 := WIN.out _ _ _ _ hb4'
      have HE : Aside0 (Q.entOk x = (b1 && (b2 && (b3 && b4)))) := ⟨by rw [← hb1, ← hb2, ← hb3', ← hb4']; rfl⟩
      have HP : Aside0 (0 < i → Q.prevM l0 i = (rd_T74 l0 ((i - 1 : Nat) : Int)).f2) := ⟨fun h0 => by rw [Q.prevM_pos l0 i h0 hlt]; simp [rd_T74, List.getD_eq_getElem?_getD, show i - 1 < l0.length by omega]⟩
      have HZ : Aside0 (b4 = true → i = 0 → Q.prevM l0 i ≤ x.f2) := ⟨fun h4 h0 => by subst h0; rw [h4, decide_eq_true_eq] at hb4'; exact hb4'.1⟩
      clear hx hx0 hx1 hx2 hx3 e0 WIN hb1 hb2 hb3' hb4'
      cases b1 with
      | false =>
        obtain rfl : false = r := by rw [← HQ.out, HD.out, HE.out]; rfl
        clear HR0 HQ HD HE HP HZ
        go_wp2_with (first         | ((with_reducible refine gate_dst (N := 4) rfl ?_); refine box_event rfl (N := 4) rfl (cs := #[.int .i64 0, .int .i64 0, .int .i64 0, .int .i64 0]) (t := 74) (by first | (go_simp; done) | (go_simp; rfl)) ?_; intro g hg w1 hk hb; have j1 := Born.mk hg; have j2 := Bel.mk hb; have j3 := Blk.mk hk; clear hg hb hk)         | (go_at_call 67; (first | (with_reducible refine (W1.out _).mono ?_) | (with_reducible refine (W2.out _).mono ?_) | (with_reducible refine (W3.out _).mono ?_) | (with_reducible refine (W4.out _).mono ?_)); rintro e w' ⟨rfl, ⟨nd, rfl⟩⟩))
        repeat (go_quiet (first | (go_at_call 67; (first | (with_reducible refine (W1.out _).mono ?_) | (with_reducible refine (W2.out _).mono ?_) | (with_reducible refine (W3.out _).mono ?_) | (with_reducible refine (W4.out _).mono ?_)); rintro e w' ⟨rfl, ⟨nd, rfl⟩⟩; exact ⟨rfl, _, World.drewN_drewN _ _ _⟩)); try go_wp2)
        go_ret
        exact ⟨rfl, From.out⟩
      | true =>
        cases b2 with
        | false =>
          obtain rfl : false = r := by rw [← HQ.out, HD.out, HE.out]; rfl
          clear HR0 HQ HD HE HP HZ
          go_wp2_with (first         | ((with_reducible refine gate_dst (N := 4) rfl ?_); refine box_event rfl (N := 4) rfl (cs := #[.int .i64 0, .int .i64 0, .int .i64 0, .int .i64 0]) (t := 74) (by first | (go_simp; done) | (go_simp; rfl)) ?_; intro g hg w1 hk hb; have j1 := Born.mk hg; have j2 := Bel.mk hb; have j3 := Blk.mk hk; clear hg hb hk)         | (go_at_call 67; (first | (with_reducible refine (W1.out _).mono ?_) | (with_reducible refine (W2.out _).mono ?_) | (with_reducible refine (W3.out _).mono ?_) | (with_reducible refine (W4.out _).mono ?_)); rintro e w' ⟨rfl, ⟨nd, rfl⟩⟩))
          repeat (go_quiet (first | (go_at_call 67; (first | (with_reducible refine (W1.out _).mono ?_) | (with_reducible refine (W2.out _).mono ?_) | (with_reducible refine (W3.out _).mono ?_) | (with_reducible refine (W4.out _).mono ?_)); rintro e w' ⟨rfl, ⟨nd, rfl⟩⟩; exact ⟨rfl, _, World.drewN_drewN _ _ _⟩)); try go_wp2)
          go_ret
          exact ⟨rfl, From.out⟩
        | true =>
          cases b3 with
          | false =>
            obtain rfl : false = r := by rw [← HQ.out, HD.out, HE.out]; rfl
            clear HR0 HQ HD HE HP HZ
            go_wp2_with (first         | ((with_reducible refine gate_dst (N := 4) rfl ?_); refine box_event rfl (N := 4) rfl (cs := #[.int .i64 0, .int .i64 0, .int .i64 0, .int .i64 0]) (t := 74) (by first | (go_simp; done) | (go_simp; rfl)) ?_; intro g hg w1 hk hb; have j1 := Born.mk hg; have j2 := Bel.mk hb; have j3 := Blk.mk hk; clear hg hb hk)         | (go_at_call 67; (first | (with_reducible refine (W1.out _).mono ?_) | (with_reducible refine (W2.out _).mono ?_) | (with_reducible refine (W3.out _).mono ?_) | (with_reducible refine (W4.out _).mono ?_)); rintro e w' ⟨rfl, ⟨nd, rfl⟩⟩))
            repeat (go_quiet (first | (go_at_call 67; (first | (with_reducible refine (W1.out _).mono ?_) | (with_reducible refine (W2.out _).mono ?_) | (with_reducible refine (W3.out _).mono ?_) | (with_reducible refine (W4.out _).mono ?_)); rintro e w' ⟨rfl, ⟨nd, rfl⟩⟩; exact ⟨rfl, _, World.drewN_drewN _ _ _⟩)); try go_wp2)
            go_ret
            exact ⟨rfl, From.out⟩
          | true =>
            cases b4 with
            | false =>
              obtain rfl : false = r := by rw [← HQ.out, HD.out, HE.out]; rfl
              clear HR0 HQ HD HE HP HZ
              go_wp2_with (first         | ((with_reducible refine gate_dst (N := 4) rfl ?_); refine box_event rfl (N := 4) rfl (cs := #[.int .i64 0, .int .i64 0, .int .i64 0, .int .i64 0]) (t := 74) (by first | (go_simp; done) | (go_simp; rfl)) ?_; intro g hg w1 hk hb; have j1 := Born.mk hg; have j2 := Bel.mk hb; have j3 := Blk.mk hk; clear hg hb hk)         | (go_at_call 67; (first | (with_reducible refine (W1.out _).mono ?_) | (with_reducible refine (W2.out _).mono ?_) | (with_reducible refine (W3.out _).mono ?_) | (with_reducible refine (W4.out _).mono ?_)); rintro e w' ⟨rfl, ⟨nd, rfl⟩⟩))
              repeat (go_quiet (first | (go_at_call 67; (first | (with_reducible refine (W1.out _).mono ?_) | (with_reducible refine (W2.out _).mono ?_) | (with_reducible refine (W3.out _).mono ?_) | (with_reducible refine (W4.out _).mono ?_)); rintro e w' ⟨rfl, ⟨nd, rfl⟩⟩; exact ⟨rfl, _, World.drewN_drewN _ _ _⟩)); try go_wp2)
              go_ret
              exact ⟨rfl, From.out⟩
            | true =>
              have hs : (i : Int) + 1 ≤ 9223372036854775807 := by omega
              by_cases hz : i = 0
              · have hz1 : decide ((i : Int) > 0) = false := decide_eq_false (by omega)
                have hz2 : decide ((0 : Int) < (i : Int)) = false := decide_eq_false (by omega)
                have hz3 : decide (0 < i) = false := decide_eq_false (by omega)
                have HN : Aside0 ((Q.logGo (Q.prevM l0 (i + 1)) (l0.drop (i + 1)) && decide (l0.length ≤ 30)) = r) := ⟨by rw [← HQ.out, HD.out, HE.out, show decide (Q.prevM l0 i ≤ x.f2) = true from decide_eq_true (HZ.out rfl hz)]; rfl⟩
                clear HQ HD HE HP HZ hz
                go_wp2_with (first         | ((with_reducible refine gate_dst (N := 4) rfl ?_); refine box_event rfl (N := 4) rfl (cs := #[.int .i64 0, .int .i64 0, .int .i64 0, .int .i64 0]) (t := 74) (by first | (go_simp; done) | (go_simp; rfl)) ?_; intro g hg w1 hk hb; have j1 := Born.mk hg; have j2 := Bel.mk hb; have j3 := Blk.mk hk; clear hg hb hk)         | (go_at_call 67; (first | (with_reducible refine (W1.out _).mono ?_) | (with_reducible refine (W2.out _).mono ?_) | (with_reducible refine (W3.out _).mono ?_) | (with_reducible refine (W4.out _).mono ?_)); rintro e w' ⟨rfl, ⟨nd, rfl⟩⟩))
                repeat (go_quiet (first | (go_at_call 67; (first | (with_reducible refine (W1.out _).mono ?_) | (with_reducible refine (W2.out _).mono ?_) | (with_reducible refine (W3.out _).mono ?_) | (with_reducible refine (W4.out _).mono ?_)); rintro e w' ⟨rfl, ⟨nd, rfl⟩⟩; exact ⟨rfl, _, World.drewN_drewN _ _ _⟩)); try go_wp2)
                go_roundg (l0.length - i)
                case measure => have := HI1.out; omega
                case rel => exact ⟨i + 1, by go_num, ⟨by omega⟩, ⟨by omega⟩, HN, ⟨From.out⟩⟩
              · obtain ⟨j, hj⟩ : ∃ j, j = i - 1 := ⟨_, rfl⟩
                have hz1 : decide ((i : Int) > 0) = true := decide_eq_true (by omega)
                have hz2 : decide ((0 : Int) < (i : Int)) = true := decide_eq_true (by omega)
                have hz3 : decide (0 < i) = true := decide_eq_true (by omega)
                have hw1 : wrap64 ((i : Int) - 1) = (j : Int) := by unfold wrap64; omega
                have hw2 : IntKind.i64.wrap ((i : Int) - 1) = (j : Int) := by rw [i64_w]; exact hw1
                have hj1 : (j : Int) < (l0.length : Int) := by omega
                have hj2 : j < l0.length := by omega
                have hl1 : decide ((j : Int) < (l0.length : Int)) = true := decide_eq_true (by omega)
                have hl2 : decide (j < l0.length) = true := decide_eq_true (by omega)
                obtain ⟨ad2, e2, _, _, _, hy3⟩ := at_T74 HR0.out (j : Int) (by omega) (by omega)
                cases e2
                obtain ⟨y, hy⟩ : ∃ y, rd_T74 l0 (j : Int) = y := ⟨_, rfl⟩
                have HP2 := Aside0.mk (HP.out (by omega))
                rw [← hj, hy] at HP2
                rw [hy] at hy3
                simp only [Int.toNat_natCast] at hy3
                have j4 : CelR wr _ _ := ⟨(HB.out.cell (World.block_lt_of_cell? w _ hy3)).trans hy3⟩
                clear hy hy3 HP hj
                by_cases h5 : y.f2 ≤ x.f2
                · have h51 : decide (y.f2 > x.f2) = false := decide_eq_false (by omega)
                  have h52 : decide (x.f2 < y.f2) = false := decide_eq_false (by omega)
                  have HN : Aside0 ((Q.logGo (Q.prevM l0 (i + 1)) (l0.drop (i + 1)) && decide (l0.length ≤ 30)) = r) := ⟨by rw [← HQ.out, HD.out, HE.out, show decide (Q.prevM l0 i ≤ x.f2) = true from decide_eq_true (by rw [HP2.out]; exact h5)]; rfl⟩
                  clear HQ HD HE HP2 HZ HR0
                  go_wp2_with (first         | ((with_reducible refine gate_dst (N := 4) rfl ?_); refine box_event rfl (N := 4) rfl (cs := #[.int .i64 0, .int .i64 0, .int .i64 0, .int .i64 0]) (t := 74) (by first | (go_simp; done) | (go_simp; rfl)) ?_; intro g hg w1 hk hb; have j1 := Born.mk hg; have j2 := Bel.mk hb; have j3 := Blk.mk hk; clear hg hb hk)         | (go_at_call 67; (first | (with_reducible refine (W1.out _).mono ?_) | (with_reducible refine (W2.out _).mono ?_) | (with_reducible refine (W3.out _).mono ?_) | (with_reducible refine (W4.out _).mono ?_)); rintro e w' ⟨rfl, ⟨nd, rfl⟩⟩))
                  repeat (go_quiet (first | (go_at_call 67; (first | (with_reducible refine (W1.out _).mono ?_) | (with_reducible refine (W2.out _).mono ?_) | (with_reducible refine (W3.out _).mono ?_) | (with_reducible refine (W4.out _).mono ?_)); rintro e w' ⟨rfl, ⟨nd, rfl⟩⟩; exact ⟨rfl, _, World.drewN_drewN _ _ _⟩)); try go_wp2)
                  go_roundg (l0.length - i)
                  case measure => have := HI1.out; omega
                  case rel => exact ⟨i + 1, by go_num, ⟨by omega⟩, ⟨by omega⟩, HN, ⟨From.out⟩⟩
                · have h51 : decide (y.f2 > x.f2) = true := decide_eq_true (by omega)
                  have h52 : decide (x.f2 < y.f2) = true := decide_eq_true (by omega)
                  obtain rfl : false = r := by rw [← HQ.out, HD.out, HE.out, show decide (Q.prevM l0 i ≤ x.f2) = false from decide_eq_false (by rw [HP2.out]; exact h5)]; rfl
                  clear HQ HD HE HP2 HZ HR0
                  go_wp2_with (first         | ((with_reducible refine gate_dst (N := 4) rfl ?_); refine box_event rfl (N := 4) rfl (cs := #[.int .i64 0, .int .i64 0, .int .i64 0, .int .i64 0]) (t := 74) (by first | (go_simp; done) | (go_simp; rfl)) ?_; intro g hg w1 hk hb; have j1 := Born.mk hg; have j2 := Bel.mk hb; have j3 := Blk.mk hk; clear hg hb hk)         | (go_at_call 67; (first | (with_reducible refine (W1.out _).mono ?_) | (with_reducible refine (W2.out _).mono ?_) | (with_reducible refine (W3.out _).mono ?_) | (with_reducible refine (W4.out _).mono ?_)); rintro e w' ⟨rfl, ⟨nd, rfl⟩⟩))
                  repeat (go_quiet (first | (go_at_call 67; (first | (with_reducible refine (W1.out _).mono ?_) | (with_reducible refine (W2.out _).mono ?_) | (with_reducible refine (W3.out _).mono ?_) | (with_reducible refine (W4.out _).mono ?_)); rintro e w' ⟨rfl, ⟨nd, rfl⟩⟩; exact ⟨rfl, _, World.drewN_drewN _ _ _⟩)); try go_wp2)
                  go_ret
                  exact ⟨rfl, From.out⟩
end Go.Proofs.Ytbkkpllejgedcaa.P


namespace Go.Proofs.Ytbkkpllejgedcaa.P
open Go.RowKit Go.Proofs.YtbkkpllejgedcaaW.PrintWords Go.Proofs.YtbkkpllejgedcaaW.PrintLast Go.Proofs.YtbkkpllejgedcaaW.PrintMore
attribute [local go_sem] max2_int min2_int max_two min_two max_three min_three max_four min_four
set_option linter.unusedVariables false
set_option linter.unusedSimpArgs false
def impl_isWarmth.f (a0 : Int) : Option (Bool) := (impl_within.f a0 (-10) 40).bind fun t176 => (some t176)
set_option maxHeartbeats 8000000 in
set_option maxRecDepth 100000 in
theorem impl_isWarmth.calls (a0 : Int) (r : Bool) (w : World) (h : impl_isWarmth.f a0 = some r) :
    Calls Try.prog 66 #[.int .i64 a0] w fun e w' => e = .returned (.bool r) ∧ Drawn0 w w' := by
  have H : ((impl_within.f a0 (-10) 40).bind fun t176 => (some t176)) = some r := h
  clear h
  replace H := Option.bind_eq_some_iff.mp H
  obtain ⟨t176, A20, H⟩ := H
  (try dsimp only at H)
  have A2 := Aside0.mk A20
  clear A20
  obtain rfl := Option.some.inj H
  go_enter Try.func66, Try.ntmps66
  go_wp2_with (first | ((with_reducible refine gate_callee (f := 67) rfl ?_); refine goesL_ (some 4) rfl rfl Try.func67 (by kernel_rfl) rfl #[.int .i64 a0, .int .i64 (-10), .int .i64 40] rfl (by (try simp only [List.map_toArray, List.map_cons, List.map_nil]); first | done | rfl | (simp only [List.length_drop, List.length_take]; rfl)) ?_; (with_reducible refine (impl_within.calls a0 (-10) 40 t176 _ A2.out).mono ?_); rintro e w' ⟨rfl, ⟨nd, rfl⟩⟩; refine ⟨_, rfl, ?_⟩))
  go_ret
  exact ⟨by first | rfl | (simp; done) | (simp [*]; done), by repeat (first | exact Drawn0.refl _ | apply Drawn0.step)⟩
end Go.Proofs.Ytbkkpllejgedcaa.P


namespace Go.Proofs.Ytbkkpllejgedcaa.P
open Go.RowKit Go.Proofs.YtbkkpllejgedcaaW.PrintWords Go.Proofs.YtbkkpllejgedcaaW.PrintLast Go.Proofs.YtbkkpllejgedcaaW.PrintMore Go.Proofs.Ytbkkpllejgedcaa.V
attribute [local go_sem] cell_b frozen_b
attribute [local go_sem] max2_int min2_int max_two min_two max_three min_three max_four min_four
set_option linter.unusedVariables false
set_option linter.unusedSimpArgs false
def impl_ShopOk.f (k : Nat) (l0_0 : List (S96)) (a0_1 : Int) (l0_2 : List Int) (a0_3 : Int) (a0_4 : Int) (l0_5 : List (S74)) : Option (Bool) := some (Q.shopOk l0_0 a0_1 l0_2 a0_3 a0_4 l0_5)
attribute [local go_sem] cellR_c
set_option maxHeartbeats 2000000 in
set_option maxRecDepth 100000 in
set_option synthInstance.maxHeartbeats 400000 in
set_option synthInstance.maxSize 100000 in
theorem impl_ShopOk.calls (k : Nat) (A0_0 : Option Addr) (c0_0 : Nat) (l0_0 : List (S96)) (a0_1 : Int) (A0_2 : Option Addr) (c0_2 : Nat) (l0_2 : List Int) (a0_3 : Int) (a0_4 : Int) (A0_5 : Option Addr) (c0_5 : Nat) (l0_5 : List (S74)) (r : Bool) (w : World) (hr0_0 : Kd.C k96 w A0_0 l0_0.length l0_0) (hc0_0 : l0_0.length ≤ c0_0) (hr0_2 : Kd.C (Kd.int .i64) w A0_2 l0_2.length l0_2) (hc0_2 : l0_2.length ≤ c0_2) (hr0_5 : Kd.C k74 w A0_5 l0_5.length l0_5) (hc0_5 : l0_5.length ≤ c0_5) (h : impl_ShopOk.f k l0_0 a0_1 l0_2 a0_3 a0_4 l0_5 = some r) :
    Calls Try.prog 18 #[.agg #[.slice A0_0 l0_0.length c0_0, .int .i64 a0_1, .slice A0_2 l0_2.length c0_2, .int .i64 a0_3, .int .i64 a0_4, .slice A0_5 l0_5.length c0_5]] w fun e w' => e = .returned (.bool r) ∧ Below w.heap.size w w' := by
  obtain ⟨b1, hb1⟩ : ∃ b, workOk l0_0 a0_1 l0_2 = b := ⟨_, rfl⟩
  obtain ⟨b2, hb2⟩ : ∃ b, Q.logOk l0_5 = b := ⟨_, rfl⟩
  obtain ⟨b3, hb3⟩ : ∃ b, decide (-10 ≤ a0_3 ∧ a0_3 ≤ 40) = b := ⟨_, rfl⟩
  obtain ⟨b4, hb4⟩ : ∃ b, decide (0 ≤ a0_4 ∧ a0_4 ≤ 100000) = b := ⟨_, rfl⟩
  obtain ⟨b5, hb5⟩ : ∃ b, decide (Q.lastOk l0_5 a0_4) = b := ⟨_, rfl⟩
  have HQ : Aside0 ((b1 && (b2 && (b3 && (b4 && b5)))) = r) := ⟨by rw [← hb1, ← hb2, ← hb3, ← hb4, ← hb5]; exact Option.some.inj h⟩
  have A1 : Aside0 (impl_WorkOk.f l0_0 a0_1 l0_2 = some b1) := ⟨by rw [← hb1]; rfl⟩
  have A2 : Aside0 (impl_LogOk.f k l0_5 = some b2) := ⟨by rw [← hb2]; rfl⟩
  have A4 : Aside0 (impl_within.f a0_4 0 100000 = some b4) := ⟨by rw [← hb4]; unfold impl_within.f; by_cases hh : 0 ≤ a0_4 <;> simp [hh]⟩
  have A3 : Aside0 (impl_isWarmth.f a0_3 = some b3) := ⟨by rw [← hb3]; unfold impl_isWarmth.f impl_within.f; by_cases hh : -10 ≤ a0_3 <;> simp [hh]⟩
  have H5 := Aside0.mk hb5
  have HR := Aside0.mk hr0_5
  have HM := Aside0.mk (Kd.C_max hr0_5)
  have i0 := RdE.mk hr0_0
  have i1 := LeI.mk hc0_0
  have i2 := RdE.mk hr0_2
  have i3 := LeI.mk hc0_2
  have i4 := RdE.mk hr0_5
  have i5 := LeI.mk hc0_5
  have hu := Try.underlying36
  clear hr0_0 hc0_0 hr0_2 hc0_2 hr0_5 hc0_5 h hb1 hb2 hb3 hb4 hb5
  cases b1 with
  | false =>
    obtain rfl : false = r := HQ.out
    clear HQ H5 HR HM
    go_enter Try.func18, Try.ntmps18
    go_wp2_with (first | ((with_reducible refine gate_dst (N := 1) rfl ?_); (try (refine gate_guard (by rfl) ?_; dsimp only)); refine box_event rfl (N := 1) rfl (cs := #[.slice A0_0 l0_0.length c0_0, .int .i64 a0_1, .slice A0_2 l0_2.length c0_2, .int .i64 a0_3, .int .i64 a0_4, .slice A0_5 l0_5.length c0_5]) (t := 36) (by first | (go_simp; done) | (go_simp; rfl)) ?_; intro g hg w1 hk hb; have j1 := Born.mk hg; have j2 := Bel.mk hb; have j3 := Blk.mk hk; clear hg hb hk) | (go_at_call 64; refine (impl_WorkOk.calls _ _ _ _ _ _ _ _ _ Rd.out LeI.out Rd.out LeI.out A1.out).mono ?_; rintro e w2 ⟨rfl, hb⟩; have jb := Bel.mk hb; clear hb) | (go_at_call 65; refine (impl_LogOk.calls k _ _ _ _ _ Rd.out LeI.out A2.out).mono ?_; rintro e w2 ⟨rfl, hb⟩; have jb := Bel.mk hb; clear hb) | (go_at_call 66; refine (impl_isWarmth.calls _ _ _ A3.out).mono ?_; rintro e w2 ⟨rfl, n, rfl⟩) | (go_at_call 67; refine (impl_within.calls _ _ _ _ _ A4.out).mono ?_; rintro e w2 ⟨rfl, n, rfl⟩))
    repeat (go_quiet (fail); try go_wp2)
    go_ret
    exact ⟨rfl, From.out⟩
  | true =>
    cases b2 with
    | false =>
      obtain rfl : false = r := HQ.out
      clear HQ H5 HR HM
      go_enter Try.func18, Try.ntmps18
      go_wp2_with (first | ((with_reducible refine gate_dst (N := 1) rfl ?_); (try (refine gate_guard (by rfl) ?_; dsimp only)); refine box_event rfl (N := 1) rfl (cs := #[.slice A0_0 l0_0.length c0_0, .int .i64 a0_1, .slice A0_2 l0_2.length c0_2, .int .i64 a0_3, .int .i64 a0_4, .slice A0_5 l0_5.length c0_5]) (t := 36) (by first | (go_simp; done) | (go_simp; rfl)) ?_; intro g hg w1 hk hb; have j1 := Born.mk hg; have j2 := Bel.mk hb; have j3 := Blk.mk hk; clear hg hb hk) | (go_at_call 64; refine (impl_WorkOk.calls _ _ _ _ _ _ _ _ _ Rd.out LeI.out Rd.out LeI.out A1.out).mono ?_; rintro e w2 ⟨rfl, hb⟩; have jb := Bel.mk hb; clear hb) | (go_at_call 65; refine (impl_LogOk.calls k _ _ _ _ _ Rd.out LeI.out A2.out).mono ?_; rintro e w2 ⟨rfl, hb⟩; have jb := Bel.mk hb; clear hb) | (go_at_call 66; refine (impl_isWarmth.calls _ _ _ A3.out).mono ?_; rintro e w2 ⟨rfl, n, rfl⟩) | (go_at_call 67; refine (impl_within.calls _ _ _ _ _ A4.out).mono ?_; rintro e w2 ⟨rfl, n, rfl⟩))
      repeat (go_quiet (fail); try go_wp2)
      go_ret
      exact ⟨rfl, From.out⟩
    | true =>
      cases b3 with
      | false =>
        obtain rfl : false = r := HQ.out
        clear HQ H5 HR HM
        go_enter Try.func18, Try.ntmps18
        go_wp2_with (first | ((with_reducible refine gate_dst (N := 1) rfl ?_); (try (refine gate_guard (by rfl) ?_; dsimp only)); refine box_event rfl (N := 1) rfl (cs := #[.slice A0_0 l0_0.length c0_0, .int .i64 a0_1, .slice A0_2 l0_2.length c0_2, .int .i64 a0_3, .int .i64 a0_4, .slice A0_5 l0_5.length c0_5]) (t := 36) (by first | (go_simp; done) | (go_simp; rfl)) ?_; intro g hg w1 hk hb; have j1 := Born.mk hg; have j2 := Bel.mk hb; have j3 := Blk.mk hk; clear hg hb hk) | (go_at_call 64; refine (impl_WorkOk.calls _ _ _ _ _ _ _ _ _ Rd.out LeI.out Rd.out LeI.out A1.out).mono ?_; rintro e w2 ⟨rfl, hb⟩; have jb := Bel.mk hb; clear hb) | (go_at_call 65; refine (impl_LogOk.calls k _ _ _ _ _ Rd.out LeI.out A2.out).mono ?_; rintro e w2 ⟨rfl, hb⟩; have jb := Bel.mk hb; clear hb) | (go_at_call 66; refine (impl_isWarmth.calls _ _ _ A3.out).mono ?_; rintro e w2 ⟨rfl, n, rfl⟩) | (go_at_call 67; refine (impl_within.calls _ _ _ _ _ A4.out).mono ?_; rintro e w2 ⟨rfl, n, rfl⟩))
        repeat (go_quiet (fail); try go_wp2)
        go_ret
        exact ⟨rfl, From.out⟩
      | true =>
        cases b4 with
        | false =>
          obtain rfl : false = r := HQ.out
          clear HQ H5 HR HM
          go_enter Try.func18, Try.ntmps18
          go_wp2_with (first | ((with_reducible refine gate_dst (N := 1) rfl ?_); (try (refine gate_guard (by rfl) ?_; dsimp only)); refine box_event rfl (N := 1) rfl (cs := #[.slice A0_0 l0_0.length c0_0, .int .i64 a0_1, .slice A0_2 l0_2.length c0_2, .int .i64 a0_3, .int .i64 a0_4, .slice A0_5 l0_5.length c0_5]) (t := 36) (by first | (go_simp; done) | (go_simp; rfl)) ?_; intro g hg w1 hk hb; have j1 := Born.mk hg; have j2 := Bel.mk hb; have j3 := Blk.mk hk; clear hg hb hk) | (go_at_call 64; refine (impl_WorkOk.calls _ _ _ _ _ _ _ _ _ Rd.out LeI.out Rd.out LeI.out A1.out).mono ?_; rintro e w2 ⟨rfl, hb⟩; have jb := Bel.mk hb; clear hb) | (go_at_call 65; refine (impl_LogOk.calls k _ _ _ _ _ Rd.out LeI.out A2.out).mono ?_; rintro e w2 ⟨rfl, hb⟩; have jb := Bel.mk hb; clear hb) | (go_at_call 66; refine (impl_isWarmth.calls _ _ _ A3.out).mono ?_; rintro e w2 ⟨rfl, n, rfl⟩) | (go_at_call 67; refine (impl_within.calls _ _ _ _ _ A4.out).mono ?_; rintro e w2 ⟨rfl, n, rfl⟩))
          repeat (go_quiet (fail); try go_wp2)
          go_ret
          exact ⟨rfl, From.out⟩
        | true =>
          obtain rfl : b5 = r := HQ.out
          by_cases hz : l0_5.length = 0
          · have z1 : ((l0_5.length : Int) == 0) = true := beq_iff_eq.mpr (by omega)
            have z2 : ((l0_5.length : Int) != 0) = false := bne_eq_false_iff_eq.mpr (by omega)
            have z3 : decide ((l0_5.length : Int) = 0) = true := decide_eq_true (by omega)
            obtain rfl : true = b5 := by rw [← H5.out]; exact (decide_eq_true (.inl hz)).symm
            clear HQ H5 HR HM hz
            go_enter Try.func18, Try.ntmps18
            go_wp2_with (first | ((with_reducible refine gate_dst (N := 1) rfl ?_); (try (refine gate_guard (by rfl) ?_; dsimp only)); refine box_event rfl (N := 1) rfl (cs := #[.slice A0_0 l0_0.length c0_0, .int .i64 a0_1, .slice A0_2 l0_2.length c0_2, .int .i64 a0_3, .int .i64 a0_4, .slice A0_5 l0_5.length c0_5]) (t := 36) (by first | (go_simp; done) | (go_simp; rfl)) ?_; intro g hg w1 hk hb; have j1 := Born.mk hg; have j2 := Bel.mk hb; have j3 := Blk.mk hk; clear hg hb hk) | (go_at_call 64; refine (impl_WorkOk.calls _ _ _ _ _ _ _ _ _ Rd.out LeI.out Rd.out LeI.out A1.out).mono ?_; rintro e w2 ⟨rfl, hb⟩; have jb := Bel.mk hb; clear hb) | (go_at_call 65; refine (impl_LogOk.calls k _ _ _ _ _ Rd.out LeI.out A2.out).mono ?_; rintro e w2 ⟨rfl, hb⟩; have jb := Bel.mk hb; clear hb) | (go_at_call 66; refine (impl_isWarmth.calls _ _ _ A3.out).mono ?_; rintro e w2 ⟨rfl, n, rfl⟩) | (go_at_call 67; refine (impl_within.calls _ _ _ _ _ A4.out).mono ?_; rintro e w2 ⟨rfl, n, rfl⟩))
            repeat (go_quiet (fail); try go_wp2)
            go_ret
            exact ⟨rfl, From.out⟩
          · obtain ⟨j, hj⟩ : ∃ j, j + 1 = l0_5.length := ⟨l0_5.length - 1, by omega⟩
            have z1 : ((l0_5.length : Int) == 0) = false := beq_eq_false_iff_ne.mpr (by omega)
            have z2 : ((l0_5.length : Int) != 0) = true := bne_iff_ne.mpr (by omega)
            have z3 : decide ((l0_5.length : Int) = 0) = false := decide_eq_false (by omega)
            have hM := HM.out
            have hw1 : wrap64 ((l0_5.length : Int) - 1) = (j : Int) := by unfold wrap64; omega
            have hw2 : IntKind.i64.wrap ((l0_5.length : Int) - 1) = (j : Int) := by rw [i64_w]; exact hw1
            have hj1 : (j : Int) < (l0_5.length : Int) := by omega
            have hj2 : j < l0_5.length := by omega
            obtain ⟨ad2, e2, _, _, _, hy3⟩ := at_T74 HR.out (j : Int) (by omega) (by omega)
            subst e2
            obtain ⟨y, hy⟩ : ∃ y, rd_T74 l0_5 (j : Int) = y := ⟨_, rfl⟩
            rw [hy] at hy3
            simp only [Int.toNat_natCast] at hy3
            have j4 : CelR w _ _ := ⟨hy3⟩
            have h6 : decide (y.f2 ≤ a0_4) = b5 := by
              rw [← H5.out, ← hy]
              refine decide_eq_decide.mpr ?_
              unfold Q.lastOk
              rw [show l0_5.length - 1 = j by omega]
              simp [rd_T74, hz]
            have h7 : decide (a0_4 ≥ y.f2) = b5 := h6
            clear HQ H5 HR HM hM hy hy3 hz hj
            go_enter Try.func18, Try.ntmps18
            go_wp2_with (first | ((with_reducible refine gate_dst (N := 1) rfl ?_); (try (refine gate_guard (by rfl) ?_; dsimp only)); refine box_event rfl (N := 1) rfl (cs := #[.slice A0_0 l0_0.length c0_0, .int .i64 a0_1, .slice A0_2 l0_2.length c0_2, .int .i64 a0_3, .int .i64 a0_4, .slice (some ad2) l0_5.length c0_5]) (t := 36) (by first | (go_simp; done) | (go_simp; rfl)) ?_; intro g hg w1 hk hb; have j1 := Born.mk hg; have j2 := Bel.mk hb; have j3 := Blk.mk hk; clear hg hb hk) | (go_at_call 64; refine (impl_WorkOk.calls _ _ _ _ _ _ _ _ _ Rd.out LeI.out Rd.out LeI.out A1.out).mono ?_; rintro e w2 ⟨rfl, hb⟩; have jb := Bel.mk hb; clear hb) | (go_at_call 65; refine (impl_LogOk.calls k _ _ _ _ _ Rd.out LeI.out A2.out).mono ?_; rintro e w2 ⟨rfl, hb⟩; have jb := Bel.mk hb; clear hb) | (go_at_call 66; refine (impl_isWarmth.calls _ _ _ A3.out).mono ?_; rintro e w2 ⟨rfl, n, rfl⟩) | (go_at_call 67; refine (impl_within.calls _ _ _ _ _ A4.out).mono ?_; rintro e w2 ⟨rfl, n, rfl⟩))
            repeat (go_quiet (fail); try go_wp2)
            go_ret
            exact ⟨by first | rfl | (simp [h6]; done), From.out⟩
end Go.Proofs.Ytbkkpllejgedcaa.P


namespace Go.Proofs.Ytbkkpllejgedcaa.P
open Go.RowKit Go.Proofs.YtbkkpllejgedcaaW.PrintWords Go.Proofs.YtbkkpllejgedcaaW.PrintLast Go.Proofs.YtbkkpllejgedcaaW.PrintMore
attribute [local go_sem] max2_int min2_int max_two min_two max_three min_three max_four min_four
set_option linter.unusedVariables false
set_option linter.unusedSimpArgs false
def impl_copyLog.f (l0 : List (S74)) : Option ((List (S74))) := (some (([] : List (S74)) : List (S74))).bind fun y797 => (if y797.length + l0.length < 4398046511104 then (some (y797 ++ l0)) else (none))
set_option maxHeartbeats 8000000 in
set_option maxRecDepth 100000 in
theorem impl_copyLog.calls (A0 : Option Addr) (c0 : Nat) (l0 : List (S74)) (r : List (S74)) (w : World) (hr0 : Kd.C k74 w A0 l0.length l0) (hc0 : l0.length ≤ c0) (h : impl_copyLog.f l0 = some r) :
    Calls Try.prog 94 #[.slice A0 l0.length c0] w fun e w' => ∃ v0_ : Value, e = .returned (v0_) ∧ Kd.R k74 74 w' w.heap.size (fun _ => True) v0_ r ∧ Below w.heap.size w w' := by
  have HR0 := Aside0.mk hr0
  have HC0 := Aside0.mk hc0
  clear hr0 hc0
  have HB := Aside0.mk (Below.refl w.heap.size w)
  have H : ((some (([] : List (S74)) : List (S74))).bind fun y797 => (if y797.length + l0.length < 4398046511104 then (some (y797 ++ l0)) else (none))) = some r := h
  clear h
  obtain ⟨y797, hy797⟩ : ∃ y_ : List (S74), y_ = (([] : List (S74))) := ⟨_, rfl⟩
  replace H : (if y797.length + l0.length < 4398046511104 then (some (y797 ++ l0)) else (none)) = some r := by first | (rw [hy797]; with_reducible exact H) | (have H2_ := (Option.bind_some _ _).symm.trans H; rw [hy797]; with_reducible exact H2_) | (have H2_ := (Option.bind_some _ _).symm.trans H; with_reducible exact H2_) | with_reducible exact H | (rw [hy797]; exact H) | exact H
  have Ny797 := Aside0.mk hy797
  clear hy797
  by_cases c2 : y797.length + l0.length < 4398046511104
  · rw [if_pos c2] at H
    have LMc2 := Aside0.mk c2
    clear c2
    obtain ⟨y800, hy800⟩ : ∃ y_ : List (S74), y_ = (y797 ++ l0) := ⟨_, rfl⟩
    replace H : (some y800) = some r := by first | (rw [hy800]; with_reducible exact H) | (have H2_ := (Option.bind_some _ _).symm.trans H; rw [hy800]; with_reducible exact H2_) | (have H2_ := (Option.bind_some _ _).symm.trans H; with_reducible exact H2_) | with_reducible exact H | (rw [hy800]; exact H) | exact H
    have Ny800 := Aside0.mk hy800
    clear hy800
    obtain rfl := Option.some.inj H
    go_enter Try.func94, Try.ntmps94
    go_wp2_with (first | ((with_reducible refine gate_dst (N := 3) rfl ?_); refine Kd.R_lit k74 _ 74 ?hg (N := 3) ?hd (xs := ([] : List (S74))) (inner := []) (ok := fun _ => True) (okp := fun _ => True) ?hr ?hp (fun _ hk => hk) trivial (Below.refl _ _) (Nat.le_refl _) (by simp) ?_; (case hd => rfl); (case hg => rfl); (case hr => first | (go_simp; done) | (go_simp; rfl)); (case hp => exact (Reps.none _ _)); intro v798 w3 ho4 hb hg_ hnew_; clear hg_ hnew_; (first | rw [← Ny797.out] at ho4 | (simp only [Int.reduceToNat] at ho4; rw [← Ny797.out] at ho4)); have n0_ := Aside0.mk (Kd.R_lower ho4 (below_size (oB HB))); have n1_ := Aside0.mk (below_step (oB HB) hb); clear HB; have HO799 := n0_; have HB := n1_; clear n0_ n1_; clear hb ho4) | ((with_reducible refine gate_builtin (b := .append) (xs := #[.tmp 3, .tmp 4]) rfl ?_); at_builtin; refine Kd.R_append_rows k74 (w0 := w) w.heap.size rfl (.tmp 3) (.tmp 4) 34 74 (.agg #[(.int .i64 0), (.int .i64 0), (.int .i64 0), (.int .i64 0)]) 32 rfl Try.underlying34 info74 rfl (by decide) (by omega) v798 y797 l0 _ _ _ (fun _ => True) (fun _ => False) rfl rfl ?aO ?aR (fun _ _ h => h) (fun _ h => h.elim) ?aF ?aB ?aS ?aL ?_; (case aR => exact oc_ HR0.out); (case aB => exact (oB HB)); (case aF => exact (fun _ _ => trivial)); (case aO => exact (oR HO799)); (case aS => exact (below_size (oB HB))); (case aL => have := LMc2.out; omega); intro v801 w5 ho hb hg hat; rw [← Ny800.out] at ho; have n0_ := Aside0.mk (hb); have n1_ := Aside0.mk (ho); clear HB; clear HO799; have HB := n0_; have HO802 := n1_; clear n0_ n1_; clear ho hb hg hat))
    go_ret
    exact ⟨_, by first | rfl | (simp [errW_none, errW_some] <;> rfl) | (simp [*, errW_none, errW_some] <;> rfl), oR HO802, oB HB⟩
  · rw [if_neg c2] at H
    exact absurd H (by simp)
end Go.Proofs.Ytbkkpllejgedcaa.P


namespace Go.Proofs.Ytbkkpllejgedcaa.P
open Go.RowKit Go.Proofs.YtbkkpllejgedcaaW.PrintWords Go.Proofs.YtbkkpllejgedcaaW.PrintLast Go.Proofs.YtbkkpllejgedcaaW.PrintMore
attribute [local go_sem] max2_int min2_int max_two min_two max_three min_three max_four min_four
set_option linter.unusedVariables false
set_option linter.unusedSimpArgs false
def impl_copyPlan.f (l0 : List (S96)) : Option ((List (S96))) := (some (([] : List (S96)) : List (S96))).bind fun y379 => (if y379.length + l0.length < 4398046511104 then (some (y379 ++ l0)) else (none))
set_option maxHeartbeats 8000000 in
set_option maxRecDepth 100000 in
theorem impl_copyPlan.calls (A0 : Option Addr) (c0 : Nat) (l0 : List (S96)) (r : List (S96)) (w : World) (hr0 : Kd.C k96 w A0 l0.length l0) (hc0 : l0.length ≤ c0) (h : impl_copyPlan.f l0 = some r) :
    Calls Try.prog 112 #[.slice A0 l0.length c0] w fun e w' => ∃ v0_ : Value, e = .returned (v0_) ∧ Kd.R k96 96 w' w.heap.size (fun _ => True) v0_ r ∧ Below w.heap.size w w' := by
  have HR0 := Aside0.mk hr0
  have HC0 := Aside0.mk hc0
  clear hr0 hc0
  have HB := Aside0.mk (Below.refl w.heap.size w)
  have H : ((some (([] : List (S96)) : List (S96))).bind fun y379 => (if y379.length + l0.length < 4398046511104 then (some (y379 ++ l0)) else (none))) = some r := h
  clear h
  obtain ⟨y379, hy379⟩ : ∃ y_ : List (S96), y_ = (([] : List (S96))) := ⟨_, rfl⟩
  replace H : (if y379.length + l0.length < 4398046511104 then (some (y379 ++ l0)) else (none)) = some r := by first | (rw [hy379]; with_reducible exact H) | (have H2_ := (Option.bind_some _ _).symm.trans H; rw [hy379]; with_reducible exact H2_) | (have H2_ := (Option.bind_some _ _).symm.trans H; with_reducible exact H2_) | with_reducible exact H | (rw [hy379]; exact H) | exact H
  have Ny379 := Aside0.mk hy379
  clear hy379
  by_cases c2 : y379.length + l0.length < 4398046511104
  · rw [if_pos c2] at H
    have LMc2 := Aside0.mk c2
    clear c2
    obtain ⟨y382, hy382⟩ : ∃ y_ : List (S96), y_ = (y379 ++ l0) := ⟨_, rfl⟩
    replace H : (some y382) = some r := by first | (rw [hy382]; with_reducible exact H) | (have H2_ := (Option.bind_some _ _).symm.trans H; rw [hy382]; with_reducible exact H2_) | (have H2_ := (Option.bind_some _ _).symm.trans H; with_reducible exact H2_) | with_reducible exact H | (rw [hy382]; exact H) | exact H
    have Ny382 := Aside0.mk hy382
    clear hy382
    obtain rfl := Option.some.inj H
    go_enter Try.func112, Try.ntmps112
    go_wp2_with (first | ((with_reducible refine gate_dst (N := 3) rfl ?_); refine Kd.R_lit k96 _ 96 ?hg (N := 3) ?hd (xs := ([] : List (S96))) (inner := []) (ok := fun _ => True) (okp := fun _ => True) ?hr ?hp (fun _ hk => hk) trivial (Below.refl _ _) (Nat.le_refl _) (by simp) ?_; (case hd => rfl); (case hg => rfl); (case hr => first | (go_simp; done) | (go_simp; rfl)); (case hp => exact (Reps.none _ _)); intro v380 w3 ho4 hb hg_ hnew_; clear hg_ hnew_; (first | rw [← Ny379.out] at ho4 | (simp only [Int.reduceToNat] at ho4; rw [← Ny379.out] at ho4)); have n0_ := Aside0.mk (Kd.R_lower ho4 (below_size (oB HB))); have n1_ := Aside0.mk (below_step (oB HB) hb); clear HB; have HO381 := n0_; have HB := n1_; clear n0_ n1_; clear hb ho4) | ((with_reducible refine gate_builtin (b := .append) (xs := #[.tmp 3, .tmp 4]) rfl ?_); at_builtin; refine Kd.R_append_rows k96 (w0 := w) w.heap.size rfl (.tmp 3) (.tmp 4) 31 96 (.agg #[(.int .i64 0), (.int .i64 0), (.int .i64 0), (.int .i64 0)]) 32 rfl Try.underlying31 info96 rfl (by decide) (by omega) v380 y379 l0 _ _ _ (fun _ => True) (fun _ => False) rfl rfl ?aO ?aR (fun _ _ h => h) (fun _ h => h.elim) ?aF ?aB ?aS ?aL ?_; (case aR => exact oc_ HR0.out); (case aB => exact (oB HB)); (case aF => exact (fun _ _ => trivial)); (case aO => exact (oR HO381)); (case aS => exact (below_size (oB HB))); (case aL => have := LMc2.out; omega); intro v383 w5 ho hb hg hat; rw [← Ny382.out] at ho; have n0_ := Aside0.mk (hb); have n1_ := Aside0.mk (ho); clear HB; clear HO381; have HB := n0_; have HO384 := n1_; clear n0_ n1_; clear ho hb hg hat))
    go_ret
    exact ⟨_, by first | rfl | (simp [errW_none, errW_some] <;> rfl) | (simp [*, errW_none, errW_some] <;> rfl), oR HO384, oB HB⟩
  · rw [if_neg c2] at H
    exact absurd H (by simp)
end Go.Proofs.Ytbkkpllejgedcaa.P


namespace Go.Proofs.Ytbkkpllejgedcaa.P
open Go.RowKit Go.Proofs.YtbkkpllejgedcaaW.PrintWords Go.Proofs.YtbkkpllejgedcaaW.PrintLast Go.Proofs.YtbkkpllejgedcaaW.PrintMore
attribute [local go_sem] max2_int min2_int max_two min_two max_three min_three max_four min_four
set_option linter.unusedVariables false
set_option linter.unusedSimpArgs false
def impl_copyWork.f (l0_0 : List (S96)) (a0_1 : Int) (l0_2 : List Int) : Option ((List (S96)) × Int × List Int) := (impl_copyPlan.f l0_0).bind fun t805 => ((some (([] : List Int) : List Int)).bind fun y808 => (if y808.length + l0_2.length < 17592186044416 then (some (t805, a0_1, (y808 ++ l0_2))) else (none)))
def impl_copyWork.T1 : Bool × List (List Nat × List Nat) := (true, [([], []), ([0], [0]), ([1], [1]), ([], []), ([3], [3]), ([], []), ([], []), ([6], [6]), ([5, 7, 2], [5, 7]), ([2, 4, 8], [2, 4, 8]), ([9, 8, 0, 1, 2, 3, 4, 5, 6, 7, 8, 9], [9])])
def impl_copyWork.B1 : List Nat := [0, 1, 3, 0, 8, 0, 0, 64, 231, 511, 1023]
theorem impl_copyWork.tab1 : rtab .any (opsOf Try.f119 1) = impl_copyWork.T1 := by kernel_rfl
theorem impl_copyWork.bits1 : waitsOk impl_copyWork.T1.2 impl_copyWork.B1 = true := by kernel_rfl
set_option maxHeartbeats 8000000 in
set_option maxRecDepth 100000 in
theorem impl_copyWork.calls (A0_0 : Option Addr) (c0_0 : Nat) (l0_0 : List (S96)) (a0_1 : Int) (A0_2 : Option Addr) (c0_2 : Nat) (l0_2 : List Int) (r1 : List (S96)) (r2 : Int) (r3 : List Int) (w : World) (hr0_0 : Kd.C k96 w A0_0 l0_0.length l0_0) (hc0_0 : l0_0.length ≤ c0_0) (hr0_2 : Kd.C (Kd.int .i64) w A0_2 l0_2.length l0_2) (hc0_2 : l0_2.length ≤ c0_2) (h : impl_copyWork.f l0_0 a0_1 l0_2 = some (r1, r2, r3)) :
    Calls Try.prog 119 #[.agg #[.slice A0_0 l0_0.length c0_0, .int .i64 a0_1, .slice A0_2 l0_2.length c0_2]] w fun e w' => ∃ v0_ v2_ : Value, e = .returned (.agg #[v0_, .int .i64 r2, v2_]) ∧ Kd.R k96 96 w' w.heap.size (fun _ => True) v0_ r1 ∧ Kd.R (Kd.int .i64) 3 w' w.heap.size (fun _ => True) v2_ r3 ∧ Below w.heap.size w w' := by
  have hu33 := Try.underlying33
  have HR0_0 := Aside0.mk hr0_0
  have HC0_0 := Aside0.mk hc0_0
  clear hr0_0 hc0_0
  have HR0_2 := Aside0.mk hr0_2
  have HC0_2 := Aside0.mk hc0_2
  clear hr0_2 hc0_2
  have HB := Aside0.mk (Below.refl w.heap.size w)
  have H : ((impl_copyPlan.f l0_0).bind fun t805 => ((some (([] : List Int) : List Int)).bind fun y808 => (if y808.length + l0_2.length < 17592186044416 then (some (t805, a0_1, (y808 ++ l0_2))) else (none)))) = some (r1, r2, r3) := h
  clear h
  replace H := Option.bind_eq_some_iff.mp H
  obtain ⟨t805, A20, H⟩ := H
  (try dsimp only at H)
  have A2 := Aside0.mk A20
  clear A20
  obtain ⟨y808, hy808⟩ : ∃ y_ : List Int, y_ = (([] : List Int)) := ⟨_, rfl⟩
  replace H : (if y808.length + l0_2.length < 17592186044416 then (some (t805, a0_1, (y808 ++ l0_2))) else (none)) = some (r1, r2, r3) := by first | (rw [hy808]; with_reducible exact H) | (have H2_ := (Option.bind_some _ _).symm.trans H; rw [hy808]; with_reducible exact H2_) | (have H2_ := (Option.bind_some _ _).symm.trans H; with_reducible exact H2_) | with_reducible exact H | (rw [hy808]; exact H) | exact H
  have Ny808 := Aside0.mk hy808
  clear hy808
  by_cases c3 : y808.length + l0_2.length < 17592186044416
  · rw [if_pos c3] at H
    have LMc3 := Aside0.mk c3
    clear c3
    obtain ⟨y811, hy811⟩ : ∃ y_ : List Int, y_ = (y808 ++ l0_2) := ⟨_, rfl⟩
    replace H : (some (t805, a0_1, y811)) = some (r1, r2, r3) := by first | (rw [hy811]; with_reducible exact H) | (have H2_ := (Option.bind_some _ _).symm.trans H; rw [hy811]; with_reducible exact H2_) | (have H2_ := (Option.bind_some _ _).symm.trans H; with_reducible exact H2_) | with_reducible exact H | (rw [hy811]; exact H) | exact H
    have Ny811 := Aside0.mk hy811
    clear hy811
    simp only [Option.some.injEq, Prod.mk.injEq] at H
    obtain ⟨rfl, rfl, rfl⟩ := H
    go_enter Try.func119, Try.ntmps119
    try go_wp2_with (first | ((with_reducible refine gate_dst (N := 1) rfl ?_); refine box_event ?hg (N := 1) ?hd (cs := #[.slice A0_0 l0_0.length c0_0, .int .i64 a0_1, .slice A0_2 l0_2.length c0_2]) (t := 33) ?hr ?_; (case hd => rfl); (case hg => rfl); (case hr => first | (go_simp; done) | (go_simp; rfl)); intro gb803 hg w4 hbox hb; have n0_ := Aside0.mk (below_step (oB HB) hb); have n1_ := Aside0.mk (hbox); have n2_ := Aside0.mk ((by rw [hg]; exact (below_size (oB HB)) : w.heap.size ≤ gb803)); have n3_ := Aside0.mk ((by rw [hg]; exact (below_size (oB HB)) : w.heap.size ≤ gb803)); clear HB; have HB := n0_; have BK803 := n1_; have GW803 := n2_; have GE803 := n3_; clear n0_ n1_ n2_ n3_; clear hb hbox hg) | ((with_reducible refine gate_dst (N := 2) rfl ?_); refine box_event ?hg (N := 2) ?hd (cs := #[.slice none 0 0, .int .i64 0, .slice none 0 0]) (t := 33) ?hr ?_; (case hd => rfl); (case hg => rfl); (case hr => first | (go_simp; done) | (go_simp; rfl)); intro gb804 hg w5 hbox hb; have n0_ := Aside0.mk (blk_below (g := gb803) (o := .cells #[.slice A0_0 l0_0.length c0_0, .int .i64 a0_1, .slice A0_2 l0_2.length c0_2] 33 (0, 0)) (oK BK803) hb); have n1_ := Aside0.mk (below_step (oB HB) hb); have n2_ := Aside0.mk (hbox); have n3_ := Aside0.mk ((by rw [hg]; exact (below_size (oB HB)) : w.heap.size ≤ gb804)); have n4_ := Aside0.mk ((by rw [hg]; exact (below_size (oB HB)) : w.heap.size ≤ gb804)); have n5_ := Aside0.mk ((by rw [hg]; exact Nat.ne_of_lt (blk_lt (g := gb803) (o := .cells #[.slice A0_0 l0_0.length c0_0, .int .i64 a0_1, .slice A0_2 l0_2.length c0_2] 33 (0, 0)) (oK BK803)) : gb803 ≠ gb804)); have n6_ := Aside0.mk ((by rw [hg]; exact Nat.ne_of_gt (blk_lt (g := gb803) (o := .cells #[.slice A0_0 l0_0.length c0_0, .int .i64 a0_1, .slice A0_2 l0_2.length c0_2] 33 (0, 0)) (oK BK803)) : gb804 ≠ gb803)); clear BK803; clear HB; have BK803 := n0_; have HB := n1_; have BK804 := n2_; have GW804 := n3_; have GE804 := n4_; have NB803_804 := n5_; have NB804_803 := n6_; clear n0_ n1_ n2_ n3_ n4_ n5_ n6_; clear hb hbox hg))
    have n0_ := Aside0.mk (blk_drew BK803.out)
    have n1_ := Aside0.mk (blk_drew BK804.out)
    have n2_ := Aside0.mk (below_drew1 HB.out)
    clear BK803
    clear BK804
    clear HB
    have BK803 := n0_
    have BK804 := n1_
    have HB := n2_
    clear n0_ n1_ n2_
    refine start_ (n := 11) (S := fun w' => w'.cell? ⟨gb803, 0, none⟩ = some (.slice A0_0 l0_0.length c0_0) ∧ w'.cell? ⟨gb803, 1, none⟩ = some (.int .i64 a0_1) ∧ w'.cell? ⟨gb803, 2, none⟩ = some (.slice A0_2 l0_2.length c0_2)) (ds := []) #[false, false, false, false, false, false, false, false, false, false, false] (by kernel_rfl) rfl rfl ⟨(blk_cell BK803.out 0).trans rfl, (blk_cell BK803.out 1).trans rfl, (blk_cell BK803.out 2).trans rfl⟩ (fun hHeld => ?_); refine with_tabW impl_copyWork.tab1 impl_copyWork.bits1 (fun HT_ HW_ => ?_)
    generalize w5.drew = w6 at BK803 BK804 HB hHeld ⊢
    refine pure_ (i := 0) (N := some 3) (v := ?_) (a' := ?_) #[true, false, false, false, false, false, false, false, false, false, false] rfl rfl (any_of HT_.out (by kernel_rfl)) (fun _ _ _ h => h) (Or.inl ⟨by rfl, ?_⟩) ?_ ?_
    rotate_left
    · intro w'
      go_simp
      with_reducible rfl
    rotate_left
    · simp only [Act.put, List.setIfInBounds_toArray, List.set_cons_zero, List.set_cons_succ, i64_w, i32_w]
      rfl
    refine pure_ (i := 3) (N := some 6) (v := ?_) (a' := ?_) #[true, false, false, true, false, false, false, false, false, false, false] rfl rfl (any_of HT_.out (by kernel_rfl)) (fun _ _ _ h => h) (Or.inl ⟨by rfl, ?_⟩) ?_ ?_
    rotate_left
    · intro w'
      go_simp
      with_reducible rfl
    rotate_left
    · simp only [Act.put, List.setIfInBounds_toArray, List.set_cons_zero, List.set_cons_succ, i64_w, i32_w]
      rfl
    refine pure_ (i := 6) (N := some 9) (v := ?_) (a' := ?_) #[true, false, false, true, false, false, true, false, false, false, false] rfl rfl (any_of HT_.out (by kernel_rfl)) (fun _ _ _ h => h) (Or.inl ⟨by rfl, ?_⟩) ?_ ?_
    rotate_left
    · intro w'
      go_simp
      with_reducible rfl
    rotate_left
    · simp only [Act.put, List.setIfInBounds_toArray, List.set_cons_zero, List.set_cons_succ, i64_w, i32_w]
      rfl
    refine take_ (i := 1) (N := some 4) (v := ?_) (a' := ?_) #[true, true, false, true, false, false, true, false, false, false, false] rfl rfl (take_ofW HT_.out HW_.out (by kernel_rfl)) (fun _ _ _ h => h) (Or.inl ⟨by rfl, ?_⟩) hHeld ?_ ?_
    rotate_left
    · rintro w' ⟨s0, s1, s2⟩
      go_simp
      with_reducible rfl
    rotate_left
    · simp only [Act.put, List.setIfInBounds_toArray, List.set_cons_zero, List.set_cons_succ, i64_w, i32_w]
      rfl
    refine take_ (i := 4) (N := some 7) (v := ?_) (a' := ?_) #[true, true, false, true, true, false, true, false, false, false, false] rfl rfl (take_ofW HT_.out HW_.out (by kernel_rfl)) (fun _ _ _ h => h) (Or.inl ⟨by rfl, ?_⟩) hHeld ?_ ?_
    rotate_left
    · rintro w' ⟨s0, s1, s2⟩
      go_simp
      with_reducible rfl
    rotate_left
    · simp only [Act.put, List.setIfInBounds_toArray, List.set_cons_zero, List.set_cons_succ, i64_w, i32_w]
      rfl
    refine take_ (i := 7) (N := some 10) (v := ?_) (a' := ?_) #[true, true, false, true, true, false, true, true, false, false, false] rfl rfl (take_ofW HT_.out HW_.out (by kernel_rfl)) (fun _ _ _ h => h) (Or.inl ⟨by rfl, ?_⟩) hHeld ?_ ?_
    rotate_left
    · rintro w' ⟨s0, s1, s2⟩
      go_simp
      with_reducible rfl
    rotate_left
    · simp only [Act.put, List.setIfInBounds_toArray, List.set_cons_zero, List.set_cons_succ, i64_w, i32_w]
      rfl
    refine join_ (σ := Value × Value) 3 #[true, true, true, true, true, true, true, true, false, false, false] (fun s_ => [(5, s_.1), (8, s_.2)]) (fun s_ w' => (w'.cell? ⟨gb803, 0, none⟩ = some (.slice A0_0 l0_0.length c0_0) ∧ w'.cell? ⟨gb803, 1, none⟩ = some (.int .i64 a0_1) ∧ w'.cell? ⟨gb803, 2, none⟩ = some (.slice A0_2 l0_2.length c0_2)) ∧ (Kd.R k96 96 w' w.heap.size (fun _ => True) s_.1 t805) ∧ (Kd.R (Kd.int .i64) 3 w' w.heap.size (fun _ => True) s_.2 y808) ∧ (w'.heap[gb803]? = some (.cells #[.slice A0_0 l0_0.length c0_0, .int .i64 a0_1, .slice A0_2 l0_2.length c0_2] 33 (0, 0))) ∧ (w'.heap[gb804]? = some (.cells #[.slice none 0 0, .int .i64 0, .slice none 0 0] 33 (0, 0))) ∧ (Below w.heap.size w w')) ?_ ?_
    rotate_left
    · intro hCont
      refine two_ (i := 2) (j := 5) (Ni := some 5) (Nj := some 8) #[true, true, true, true, true, false, true, true, false, false, false] #[true, true, false, true, true, true, true, true, false, false, false] rfl rfl rfl rfl (two_of HT_.out (by kernel_rfl)) (by decide) (by decide) (fun K hK => ?_) (fun K hK => ?_)
      · skip
        refine goes_ Try.func112 (by kernel_rfl) rfl #[.slice A0_0 l0_0.length c0_0] (by rfl) rfl rfl (by (try simp only [List.map_toArray, List.map_cons, List.map_nil]); first | done | rfl | (simp only [List.length_drop, List.length_take]; rfl)) ?_
        with_reducible refine (impl_copyPlan.calls _ _ l0_0 t805 _ ?side1 ?side2 A2.out).mono ?_
        (case side1 => exact oc_ HR0_0.out)
        (case side2 => exact HC0_0.out)
        rintro e w7 ⟨v806, rfl, ho0, hb⟩
        refine ⟨_, rfl, ?_⟩
        have n0_ := Aside0.mk (Kd.R_lower ho0 (below_size (oB HB)))
        have n1_ := Aside0.mk (blk_below (g := gb803) (o := .cells #[.slice A0_0 l0_0.length c0_0, .int .i64 a0_1, .slice A0_2 l0_2.length c0_2] 33 (0, 0)) (oK BK803) hb)
        have n2_ := Aside0.mk (blk_below (g := gb804) (o := .cells #[.slice none 0 0, .int .i64 0, .slice none 0 0] 33 (0, 0)) (oK BK804) hb)
        have n3_ := Aside0.mk (below_step (oB HB) hb)
        clear BK803
        clear BK804
        clear HB
        have HO807 := n0_
        have BK803 := n1_
        have BK804 := n2_
        have HB := n3_
        clear n0_ n1_ n2_ n3_
        (try clear hb)
        (try clear hb2)
        (try clear hk)
        (try clear hi)
        (try clear ho0)
        refine hK.out _ _ ⟨(blk_cell BK803.out 0).trans rfl, (blk_cell BK803.out 1).trans rfl, (blk_cell BK803.out 2).trans rfl⟩ (fun hHeld => ?_)
        clear hK K
        refine norm_ (a' := ?_) ?_ ?_
        rotate_left
        · show Act.put _ (some 5) _ = _
          simp only [Act.put, List.setIfInBounds_toArray, List.set_cons_zero, List.set_cons_succ, i64_w, i32_w]
          rfl
        refine one_ (i := 5) (N := some 8) #[true, true, true, true, true, true, true, true, false, false, false] rfl rfl (one_of HT_.out (by kernel_rfl)) (by decide) (fun K hK => ?_)
        refine Kd.R_lit_step (Kd.int .i64) _ 3 ?hg (N := 8) ?hd (xs := ([] : List Int)) (inner := []) (ok := fun _ => True) (okp := fun _ => True) ?hr ?hp (fun _ hk => hk) trivial (Below.refl _ _) (Nat.le_refl _) (by simp) ?_; (case hd => rfl); (case hg => rfl); (case hr => first | (go_simp; done) | (go_simp; rfl)); (case hp => exact (Reps.none _ _))
        intro v809 w8 ho9 hb hg_ hnew_
        clear hg_ hnew_
        (first | rw [← Ny808.out] at ho9 | (simp only [Int.reduceToNat] at ho9; rw [← Ny808.out] at ho9))
        have n0_ := Aside0.mk (Kd.R_below (oR HO807) hb)
        have n1_ := Aside0.mk (Kd.R_lower ho9 (below_size (oB HB)))
        have n2_ := Aside0.mk (blk_below (g := gb803) (o := .cells #[.slice A0_0 l0_0.length c0_0, .int .i64 a0_1, .slice A0_2 l0_2.length c0_2] 33 (0, 0)) (oK BK803) hb)
        have n3_ := Aside0.mk (blk_below (g := gb804) (o := .cells #[.slice none 0 0, .int .i64 0, .slice none 0 0] 33 (0, 0)) (oK BK804) hb)
        have n4_ := Aside0.mk (below_step (oB HB) hb)
        clear HO807
        clear BK803
        clear BK804
        clear HB
        have HO807 := n0_
        have HO810 := n1_
        have BK803 := n2_
        have BK804 := n3_
        have HB := n4_
        clear n0_ n1_ n2_ n3_ n4_
        clear hb ho9
        refine hK.out _ _ ⟨(blk_cell BK803.out 0).trans rfl, (blk_cell BK803.out 1).trans rfl, (blk_cell BK803.out 2).trans rfl⟩ (fun hHeld => ?_)
        clear hK K
        refine norm_ (a' := ?_) ?_ ?_
        rotate_left
        · show Act.put _ (some 8) _ = _
          simp only [Act.put, List.setIfInBounds_toArray, List.set_cons_zero, List.set_cons_succ, i64_w, i32_w]
          rfl
        exact norm_ (by simp only [putAll, Act.put, List.setIfInBounds_toArray, List.set_cons_zero, List.set_cons_succ]) (hCont (v806, v809) _ ⟨hHeld, (oR HO807), (oR HO810), (oK BK803), (oK BK804), (oB HB)⟩)
      · skip
        refine Kd.R_lit_step (Kd.int .i64) _ 3 ?hg (N := 8) ?hd (xs := ([] : List Int)) (inner := []) (ok := fun _ => True) (okp := fun _ => True) ?hr ?hp (fun _ hk => hk) trivial (Below.refl _ _) (Nat.le_refl _) (by simp) ?_; (case hd => rfl); (case hg => rfl); (case hr => first | (go_simp; done) | (go_simp; rfl)); (case hp => exact (Reps.none _ _))
        intro v809 w7 ho8 hb hg_ hnew_
        clear hg_ hnew_
        (first | rw [← Ny808.out] at ho8 | (simp only [Int.reduceToNat] at ho8; rw [← Ny808.out] at ho8))
        have n0_ := Aside0.mk (Kd.R_lower ho8 (below_size (oB HB)))
        have n1_ := Aside0.mk (blk_below (g := gb803) (o := .cells #[.slice A0_0 l0_0.length c0_0, .int .i64 a0_1, .slice A0_2 l0_2.length c0_2] 33 (0, 0)) (oK BK803) hb)
        have n2_ := Aside0.mk (blk_below (g := gb804) (o := .cells #[.slice none 0 0, .int .i64 0, .slice none 0 0] 33 (0, 0)) (oK BK804) hb)
        have n3_ := Aside0.mk (below_step (oB HB) hb)
        clear BK803
        clear BK804
        clear HB
        have HO810 := n0_
        have BK803 := n1_
        have BK804 := n2_
        have HB := n3_
        clear n0_ n1_ n2_ n3_
        clear hb ho8
        refine hK.out _ _ ⟨(blk_cell BK803.out 0).trans rfl, (blk_cell BK803.out 1).trans rfl, (blk_cell BK803.out 2).trans rfl⟩ (fun hHeld => ?_)
        clear hK K
        refine norm_ (a' := ?_) ?_ ?_
        rotate_left
        · show Act.put _ (some 8) _ = _
          simp only [Act.put, List.setIfInBounds_toArray, List.set_cons_zero, List.set_cons_succ, i64_w, i32_w]
          rfl
        refine one_ (i := 2) (N := some 5) #[true, true, true, true, true, true, true, true, false, false, false] rfl rfl (one_of HT_.out (by kernel_rfl)) (by decide) (fun K hK => ?_)
        refine goes_ Try.func112 (by kernel_rfl) rfl #[.slice A0_0 l0_0.length c0_0] (by rfl) rfl rfl (by (try simp only [List.map_toArray, List.map_cons, List.map_nil]); first | done | rfl | (simp only [List.length_drop, List.length_take]; rfl)) ?_
        with_reducible refine (impl_copyPlan.calls _ _ l0_0 t805 _ ?side1 ?side2 A2.out).mono ?_
        (case side1 => exact oc_ HR0_0.out)
        (case side2 => exact HC0_0.out)
        rintro e w9 ⟨v806, rfl, ho0, hb⟩
        refine ⟨_, rfl, ?_⟩
        have n0_ := Aside0.mk (Kd.R_below (oR HO810) hb)
        have n1_ := Aside0.mk (Kd.R_lower ho0 (below_size (oB HB)))
        have n2_ := Aside0.mk (blk_below (g := gb803) (o := .cells #[.slice A0_0 l0_0.length c0_0, .int .i64 a0_1, .slice A0_2 l0_2.length c0_2] 33 (0, 0)) (oK BK803) hb)
        have n3_ := Aside0.mk (blk_below (g := gb804) (o := .cells #[.slice none 0 0, .int .i64 0, .slice none 0 0] 33 (0, 0)) (oK BK804) hb)
        have n4_ := Aside0.mk (below_step (oB HB) hb)
        clear HO810
        clear BK803
        clear BK804
        clear HB
        have HO810 := n0_
        have HO807 := n1_
        have BK803 := n2_
        have BK804 := n3_
        have HB := n4_
        clear n0_ n1_ n2_ n3_ n4_
        (try clear hb)
        (try clear hb2)
        (try clear hk)
        (try clear hi)
        (try clear ho0)
        refine hK.out _ _ ⟨(blk_cell BK803.out 0).trans rfl, (blk_cell BK803.out 1).trans rfl, (blk_cell BK803.out 2).trans rfl⟩ (fun hHeld => ?_)
        clear hK K
        refine norm_ (a' := ?_) ?_ ?_
        rotate_left
        · show Act.put _ (some 5) _ = _
          simp only [Act.put, List.setIfInBounds_toArray, List.set_cons_zero, List.set_cons_succ, i64_w, i32_w]
          rfl
        exact norm_ (by simp only [putAll, Act.put, List.setIfInBounds_toArray, List.set_cons_zero, List.set_cons_succ]) (hCont (v806, v809) _ ⟨hHeld, (oR HO807), (oR HO810), (oK BK803), (oK BK804), (oB HB)⟩)
    rintro ⟨v806, v809⟩ w10 ⟨hS_, h0_, h1_, h2_, h3_, h4_⟩
    have n0_ : Aside0 (Kd.R k96 96 w10 w.heap.size (fun _ => True) v806 t805) := ⟨h0_⟩
    have n1_ : Aside0 (Kd.R (Kd.int .i64) 3 w10 w.heap.size (fun _ => True) v809 y808) := ⟨h1_⟩
    have n2_ : Aside0 (w10.heap[gb803]? = some (.cells #[.slice A0_0 l0_0.length c0_0, .int .i64 a0_1, .slice A0_2 l0_2.length c0_2] 33 (0, 0))) := ⟨h2_⟩
    have n3_ : Aside0 (w10.heap[gb804]? = some (.cells #[.slice none 0 0, .int .i64 0, .slice none 0 0] 33 (0, 0))) := ⟨h3_⟩
    have n4_ : Aside0 (Below w.heap.size w w10) := ⟨h4_⟩
    clear BK803
    clear BK804
    clear HB
    clear h0_ h1_ h2_ h3_ h4_
    have HO807 := n0_
    have HO810 := n1_
    have BK803 := n2_
    have BK804 := n3_
    have HB := n4_
    clear n0_ n1_ n2_ n3_ n4_
    have hHeld : w10.cell? ⟨gb803, 0, none⟩ = some (.slice A0_0 l0_0.length c0_0) ∧ w10.cell? ⟨gb803, 1, none⟩ = some (.int .i64 a0_1) ∧ w10.cell? ⟨gb803, 2, none⟩ = some (.slice A0_2 l0_2.length c0_2) := hS_
    refine norm_ (a' := ?_) ?_ ?_
    rotate_left
    · simp only [putAll, Act.put, List.setIfInBounds_toArray, List.set_cons_zero, List.set_cons_succ]
      rfl
    refine one_ (i := 8) (N := some 11) #[true, true, true, true, true, true, true, true, true, false, false] rfl rfl (one_of HT_.out (by kernel_rfl)) (by decide) (fun K hK => ?_)
    refine Kd.R_append_rows_step (Kd.int .i64) (w0 := w) w.heap.size (by rfl) (.tmp 8) (.tmp 10) 23 3 (.int .i64 0) 8 rfl Try.underlying23 info3 rfl (by decide) (by omega) v809 y808 l0_2 _ _ _ (fun _ => True) (fun _ => False) rfl rfl ?aO ?aR (fun _ _ h => h) (fun _ h => h.elim) ?aF ?aB ?aS ?aL ?_
    (case aR => exact oc_ HR0_2.out)
    (case aB => exact (oB HB))
    (case aF => exact (fun _ _ => trivial))
    (case aO => exact (oR HO810))
    (case aS => exact (below_size (oB HB)))
    (case aL => have := LMc3.out; omega)
    intro v812 w11 ho hb hg hat
    rw [← Ny811.out] at ho
    have n0_ := Aside0.mk (blk_grown (g := gb803) (o := .cells #[.slice A0_0 l0_0.length c0_0, .int .i64 a0_1, .slice A0_2 l0_2.length c0_2] 33 (0, 0)) (oK BK803) hg (Kd.R_ne HO810.out BK803.out (by decide)))
    have n1_ := Aside0.mk (blk_grown (g := gb804) (o := .cells #[.slice none 0 0, .int .i64 0, .slice none 0 0] 33 (0, 0)) (oK BK804) hg (Kd.R_ne HO810.out BK804.out (by decide)))
    have n2_ := Aside0.mk (Kd.R_over' (oR HO807) (Kd.R_typed (oR HO810)) (by decide) hg)
    have n3_ := Aside0.mk (hb)
    have n4_ := Aside0.mk (ho)
    clear BK803
    clear BK804
    clear HO807
    clear HB
    clear HO810
    have BK803 := n0_
    have BK804 := n1_
    have HO807 := n2_
    have HB := n3_
    have HO813 := n4_
    clear n0_ n1_ n2_ n3_ n4_
    clear ho hb hg hat
    obtain ⟨Ao12, co12, eo12⟩ := Kd.R_slice HO813.out
    (first | subst eo12 | (injection eo12 with f1_ f2_ f3_; have f4_ := f1_.symm; have f5_ := f3_.symm; clear f1_ f2_ f3_; subst f4_; subst f5_))
    obtain ⟨Ao13, co13, eo13⟩ := Kd.R_slice HO807.out
    (first | subst eo13 | (injection eo13 with f1_ f2_ f3_; have f4_ := f1_.symm; have f5_ := f3_.symm; clear f1_ f2_ f3_; subst f4_; subst f5_))
    refine hK.out _ _ ⟨(blk_cell BK803.out 0).trans rfl, (blk_cell BK803.out 1).trans rfl, (blk_cell BK803.out 2).trans rfl⟩ (fun hHeld => ?_)
    clear hK K
    refine norm_ (a' := ?_) ?_ ?_
    rotate_left
    · show Act.put _ (some 11) _ = _
      simp only [Act.put, List.setIfInBounds_toArray, List.set_cons_zero, List.set_cons_succ, i64_w, i32_w]
      rfl
    refine pure_ (i := 9) (N := some 12) (v := ?_) (a' := ?_) #[true, true, true, true, true, true, true, true, true, true, false] rfl rfl (any_of HT_.out (by kernel_rfl)) (fun _ _ _ h => h) (Or.inl ⟨by rfl, ?_⟩) ?_ ?_
    rotate_left
    · intro w'
      go_simp
      with_reducible rfl
    rotate_left
    · simp only [Act.put, List.setIfInBounds_toArray, List.set_cons_zero, List.set_cons_succ, i64_w, i32_w]
      rfl
    refine one_ (i := 10) (N := none) #[true, true, true, true, true, true, true, true, true, true, true] rfl rfl (one_of HT_.out (by kernel_rfl)) (by decide) (fun K hK => ?_)
    have hs14 : w11.cell? ⟨gb804, 0, none⟩ = some (.slice none 0 0) := (blk_cell BK804.out 0).trans rfl
    have hfs14 := blk_frozen BK804.out 0
    have hns14_0 := NB803_804.out
    have hms14_0 := NB804_803.out
    have hs15 : w11.cell? ⟨gb804, 1, none⟩ = some (.int .i64 0) := (blk_cell BK804.out 1).trans rfl
    have hfs15 := blk_frozen BK804.out 1
    have hns15_0 := NB803_804.out
    have hms15_0 := NB804_803.out
    have hs16 : w11.cell? ⟨gb804, 2, none⟩ = some (.slice none 0 0) := (blk_cell BK804.out 2).trans rfl
    have hfs16 := blk_frozen BK804.out 2
    have hns16_0 := NB803_804.out
    have hms16_0 := NB804_803.out
    refine skip_ (w1 := ?_) (by rfl) rfl ?_ ?_
    rotate_left
    · go_simp
      rfl
    refine hK.out _ _ ⟨((cell_far (p := ⟨gb804, _, none⟩) NB803_804.out _).trans (((cell_far (p := ⟨gb804, _, none⟩) NB803_804.out _).trans (((cell_far (p := ⟨gb804, _, none⟩) NB803_804.out _).trans (hHeld.1)))))), ((cell_far (p := ⟨gb804, _, none⟩) NB803_804.out _).trans (((cell_far (p := ⟨gb804, _, none⟩) NB803_804.out _).trans (((cell_far (p := ⟨gb804, _, none⟩) NB803_804.out _).trans (hHeld.2.1)))))), ((cell_far (p := ⟨gb804, _, none⟩) NB803_804.out _).trans (((cell_far (p := ⟨gb804, _, none⟩) NB803_804.out _).trans (((cell_far (p := ⟨gb804, _, none⟩) NB803_804.out _).trans (hHeld.2.2))))))⟩ (fun hHeld => ?_)
    clear hK K
    refine done_ (done_of HT_.out (by kernel_rfl)) ?_
    try go_wp2
    refine bodyPost_ret (results_cell_row rfl _ _ gb804 33 #[.slice Ao13 t805.length co13, .int .i64 a0_1, .slice Ao12 y811.length co12] (0, 0) _ rfl (by (with_reducible repeat (first | refine blk_drewN ?_ _ | refine blk_drew ?_ | refine blk_alloc ?_ _)); refine blk_put (cs := #[.slice Ao13 t805.length co13, .int .i64 a0_1, .slice none 0 0]) ?_ 2 _ rfl; (with_reducible repeat (first | refine blk_drewN ?_ _ | refine blk_drew ?_ | refine blk_alloc ?_ _)); refine blk_put (cs := #[.slice Ao13 t805.length co13, .int .i64 0, .slice none 0 0]) ?_ 1 _ rfl; (with_reducible repeat (first | refine blk_drewN ?_ _ | refine blk_drew ?_ | refine blk_alloc ?_ _)); refine blk_put (cs := #[.slice none 0 0, .int .i64 0, .slice none 0 0]) ?_ 0 _ rfl; (with_reducible repeat (first | refine blk_drewN ?_ _ | refine blk_drew ?_ | refine blk_alloc ?_ _)); exact BK804.out) Try.underlying33 rfl (by kernel_rfl)) rfl ?_
    exact ⟨_, _, by first | rfl | (simp [errW_none, errW_some] <;> rfl) | (simp [*, errW_none, errW_some] <;> rfl), by (with_reducible repeat (first | apply Kd.R_alloc | apply Kd.R_drewN | apply Kd.R_drew)); exact Kd.R_mono (Kd.R_far (p := ⟨gb804, 2, none⟩) (Kd.R_far (p := ⟨gb804, 1, none⟩) (Kd.R_far (p := ⟨gb804, 0, none⟩) (Kd.R_types HO807.out BK804.out (by decide)) (fun _ hk => hk.2) (.slice Ao13 t805.length co13)) (fun _ hk => hk.2) (.int .i64 a0_1)) (fun _ hk => hk.2) (.slice Ao12 y811.length co12)) (fun _ hk => trivial), by (with_reducible repeat (first | apply Kd.R_alloc | apply Kd.R_drewN | apply Kd.R_drew)); exact Kd.R_mono (Kd.R_far (p := ⟨gb804, 2, none⟩) (Kd.R_far (p := ⟨gb804, 1, none⟩) (Kd.R_far (p := ⟨gb804, 0, none⟩) (Kd.R_types HO813.out BK804.out (by decide)) (fun _ hk => hk.2) (.slice Ao13 t805.length co13)) (fun _ hk => hk.2) (.int .i64 a0_1)) (fun _ hk => hk.2) (.slice Ao12 y811.length co12)) (fun _ hk => trivial), oB HB⟩
  · rw [if_neg c3] at H
    exact absurd H (by simp)
end Go.Proofs.Ytbkkpllejgedcaa.P


namespace Go.Proofs.Ytbkkpllejgedcaa.P
open Go.RowKit Go.Proofs.YtbkkpllejgedcaaW.PrintWords Go.Proofs.YtbkkpllejgedcaaW.PrintLast Go.Proofs.YtbkkpllejgedcaaW.PrintMore Go.Proofs.Ytbkkpllejgedcaa.V
attribute [local go_sem] cell_b frozen_b
attribute [local go_sem] max2_int min2_int max_two min_two max_three min_three max_four min_four
set_option linter.unusedVariables false
set_option linter.unusedSimpArgs false
def impl_copyShop.f (l0_0 : List (S96)) (a0_1 : Int) (l0_2 : List Int) (a0_3 : Int) (a0_4 : Int) (l0_5 : List (S74)) : Option ((List (S96)) × Int × List Int × Int × Int × (List (S74))) := (impl_copyWork.f l0_0 a0_1 l0_2).bind fun bt816 => ((impl_copyLog.f l0_5).bind fun t823 => (some (bt816.1, bt816.2.1, bt816.2.2, a0_3, a0_4, t823)))
set_option maxHeartbeats 8000000 in
set_option maxRecDepth 100000 in
set_option synthInstance.maxHeartbeats 400000 in
set_option synthInstance.maxSize 100000 in
theorem impl_copyShop.calls (A0_0 : Option Addr) (c0_0 : Nat) (l0_0 : List (S96)) (a0_1 : Int) (A0_2 : Option Addr) (c0_2 : Nat) (l0_2 : List Int) (a0_3 : Int) (a0_4 : Int) (A0_5 : Option Addr) (c0_5 : Nat) (l0_5 : List (S74)) (r1 : List (S96)) (r2 : Int) (r3 : List Int) (r4 : Int) (r5 : Int) (r6 : List (S74)) (w : World) (hr0_0 : Kd.C k96 w A0_0 l0_0.length l0_0) (hc0_0 : l0_0.length ≤ c0_0) (hr0_2 : Kd.C (Kd.int .i64) w A0_2 l0_2.length l0_2) (hc0_2 : l0_2.length ≤ c0_2) (hr0_5 : Kd.C k74 w A0_5 l0_5.length l0_5) (hc0_5 : l0_5.length ≤ c0_5) (h : impl_copyShop.f l0_0 a0_1 l0_2 a0_3 a0_4 l0_5 = some (r1, r2, r3, r4, r5, r6)) :
    Calls Try.prog 84 #[.agg #[.slice A0_0 l0_0.length c0_0, .int .i64 a0_1, .slice A0_2 l0_2.length c0_2, .int .i64 a0_3, .int .i64 a0_4, .slice A0_5 l0_5.length c0_5]] w fun e w' => ∃ v0_ v2_ v5_ : Value, e = .returned (.agg #[v0_, .int .i64 r2, v2_, .int .i64 r4, .int .i64 r5, v5_]) ∧ Kd.R k96 96 w' w.heap.size (fun _ => True) v0_ r1 ∧ Kd.R (Kd.int .i64) 3 w' w.heap.size (fun _ => True) v2_ r3 ∧ Kd.R k74 74 w' w.heap.size (fun _ => True) v5_ r6 ∧ Below w.heap.size w w' := by
  have ihr0_0 := RdE.mk hr0_0
  have ihc0_0 := LeI.mk hc0_0
  have ihr0_2 := RdE.mk hr0_2
  have ihc0_2 := LeI.mk hc0_2
  have ihr0_5 := RdE.mk hr0_5
  have ihc0_5 := LeI.mk hc0_5
  clear hr0_0 hc0_0 hr0_2 hc0_2 hr0_5 hc0_5
  unfold impl_copyShop.f at h
  have hu36 := Try.underlying36
  (repeat' first | ((with_reducible replace h := ite_some h); rcases h with ⟨hc, h⟩ | ⟨hc, h⟩ <;> first | exact (none_some h).elim | exact absurd hc (by decide) | subst hc | (replace hc := Bool.eq_false_iff.mpr hc; subst hc) | (have hd := beq_iff_eq.mpr hc; have he := bne_eq_false_iff_eq.mpr hc; clear hc) | (have hd := beq_eq_false_iff_ne.mpr hc; have he := bne_iff_ne.mpr hc) | (have hd := decide_eq_false hc) | (have hd := decide_eq_true hc) | skip))
  all_goals go_enter Try.func84, Try.ntmps84
  all_goals go_wp2_with (first
    | ((with_reducible refine gate_dst (N := 1) rfl ?_); refine box_event rfl (N := 1) rfl (cs := #[.slice A0_0 l0_0.length c0_0, .int .i64 a0_1, .slice A0_2 l0_2.length c0_2, .int .i64 a0_3, .int .i64 a0_4, .slice A0_5 l0_5.length c0_5]) (t := 36) (by first | (go_simp; done) | (go_simp; rfl)) ?_; intro g hg w1 hk hb; have j1 := Born.mk hg; have j2 := Bel.mk hb; have j3 := Blk.mk hk; clear hg hb hk)
    | ((with_reducible refine gate_dst (N := 2) rfl ?_); refine box_event rfl (N := 2) rfl (cs := #[.slice none 0 0, .int .i64 0, .slice none 0 0, .int .i64 0, .int .i64 0, .slice none 0 0]) (t := 36) (by first | (go_simp; done) | (go_simp; rfl)) ?_; intro g hg w1 hk hb; have j1 := Born.mk hg; have j2 := Bel.mk hb; have j3 := Blk.mk hk; clear hg hb hk)
    | (go_at_call 119; replace h := Option.bind_eq_some_iff.mp h; obtain ⟨⟨t1, t2, t3⟩, A, h⟩ := h; (try dsimp only at h); refine (impl_copyWork.calls _ _ _ _ _ _ _ _ _ _ _ Rd.out LeI.out Rd.out LeI.out A).mono ?_; rintro e w2 ⟨v0, v1, rfl, ho0, ho1, hb⟩; obtain ⟨B0, b0, rfl⟩ := Kd.R_slice ho0; have j0 := RowE.mk ho0; have q0 := LeI.mk (rowLe j0); obtain ⟨B1, b1, rfl⟩ := Kd.R_slice ho1; have j1 := RowE.mk ho1; have q1 := LeI.mk (rowLe j1); have jb := Bel.mk hb; clear A ho0 ho1 hb; (repeat' first | ((with_reducible replace h := ite_some h); rcases h with ⟨hc, h⟩ | ⟨hc, h⟩ <;> first | exact (none_some h).elim | exact absurd hc (by decide) | subst hc | (replace hc := Bool.eq_false_iff.mpr hc; subst hc) | (have hd := beq_iff_eq.mpr hc; have he := bne_eq_false_iff_eq.mpr hc; clear hc) | (have hd := beq_eq_false_iff_ne.mpr hc; have he := bne_iff_ne.mpr hc) | (have hd := decide_eq_false hc) | (have hd := decide_eq_true hc) | skip)))
    | (go_at_call 94; replace h := Option.bind_eq_some_iff.mp h; obtain ⟨t, A, h⟩ := h; (try dsimp only at h); refine (impl_copyLog.calls _ _ _ _ _ Rd.out LeI.out A).mono ?_; rintro e w2 ⟨v0, rfl, ho0, hb⟩; obtain ⟨B0, b0, rfl⟩ := Kd.R_slice ho0; have j0 := RowE.mk ho0; have q0 := LeI.mk (rowLe j0); have jb := Bel.mk hb; clear A ho0 hb; (repeat' first | ((with_reducible replace h := ite_some h); rcases h with ⟨hc, h⟩ | ⟨hc, h⟩ <;> first | exact (none_some h).elim | exact absurd hc (by decide) | subst hc | (replace hc := Bool.eq_false_iff.mpr hc; subst hc) | (have hd := beq_iff_eq.mpr hc; have he := bne_eq_false_iff_eq.mpr hc; clear hc) | (have hd := beq_eq_false_iff_ne.mpr hc; have he := bne_iff_ne.mpr hc) | (have hd := decide_eq_false hc) | (have hd := decide_eq_true hc) | skip)); (try have hn : decide (0 < t.length) = true := decide_eq_true (by omega)); (try have hn : decide (0 < t.length) = false := decide_eq_false (by omega)))
    | ((with_reducible refine region_at ?_); intro w3 jw; refine region_st 2 (by rfl) ?_; intro g hg w4 jv; subst hg; go_region_held3 (fun w' => SinB g w4 w') (first | exact ⟨FromB.out⟩ | skip) (first | (go_at_call 119; replace h := Option.bind_eq_some_iff.mp h; obtain ⟨⟨t1, t2, t3⟩, A, h⟩ := h; (try dsimp only at h); refine (impl_copyWork.calls _ _ _ _ _ _ _ _ _ _ _ Rd.out LeI.out Rd.out LeI.out A).mono ?_; rintro e w2 ⟨v0, v1, rfl, ho0, ho1, hb⟩; obtain ⟨B0, b0, rfl⟩ := Kd.R_slice ho0; have j0 := RowE.mk ho0; have q0 := LeI.mk (rowLe j0); obtain ⟨B1, b1, rfl⟩ := Kd.R_slice ho1; have j1 := RowE.mk ho1; have q1 := LeI.mk (rowLe j1); have jb := Bel.mk hb; clear A ho0 ho1 hb; (repeat' first | ((with_reducible replace h := ite_some h); rcases h with ⟨hc, h⟩ | ⟨hc, h⟩ <;> first | exact (none_some h).elim | exact absurd hc (by decide) | subst hc | (replace hc := Bool.eq_false_iff.mpr hc; subst hc) | (have hd := beq_iff_eq.mpr hc; have he := bne_eq_false_iff_eq.mpr hc; clear hc) | (have hd := beq_eq_false_iff_ne.mpr hc; have he := bne_iff_ne.mpr hc) | (have hd := decide_eq_false hc) | (have hd := decide_eq_true hc) | skip))) | (go_at_call 94; replace h := Option.bind_eq_some_iff.mp h; obtain ⟨t, A, h⟩ := h; (try dsimp only at h); refine (impl_copyLog.calls _ _ _ _ _ Rd.out LeI.out A).mono ?_; rintro e w2 ⟨v0, rfl, ho0, hb⟩; obtain ⟨B0, b0, rfl⟩ := Kd.R_slice ho0; have j0 := RowE.mk ho0; have q0 := LeI.mk (rowLe j0); have jb := Bel.mk hb; clear A ho0 hb; (repeat' first | ((with_reducible replace h := ite_some h); rcases h with ⟨hc, h⟩ | ⟨hc, h⟩ <;> first | exact (none_some h).elim | exact absurd hc (by decide) | subst hc | (replace hc := Bool.eq_false_iff.mpr hc; subst hc) | (have hd := beq_iff_eq.mpr hc; have he := bne_eq_false_iff_eq.mpr hc; clear hc) | (have hd := beq_eq_false_iff_ne.mpr hc; have he := bne_iff_ne.mpr hc) | (have hd := decide_eq_false hc) | (have hd := decide_eq_true hc) | skip)); (try have hn : decide (0 < t.length) = true := decide_eq_true (by omega)); (try have hn : decide (0 < t.length) = false := decide_eq_false (by omega)))))
    | ((with_reducible refine region_at ?_); intro w3 jw; go_region_held3 (fun w' => Sin w3 w') (first | exact ⟨From.out⟩ | skip) (first | (go_at_call 119; replace h := Option.bind_eq_some_iff.mp h; obtain ⟨⟨t1, t2, t3⟩, A, h⟩ := h; (try dsimp only at h); refine (impl_copyWork.calls _ _ _ _ _ _ _ _ _ _ _ Rd.out LeI.out Rd.out LeI.out A).mono ?_; rintro e w2 ⟨v0, v1, rfl, ho0, ho1, hb⟩; obtain ⟨B0, b0, rfl⟩ := Kd.R_slice ho0; have j0 := RowE.mk ho0; have q0 := LeI.mk (rowLe j0); obtain ⟨B1, b1, rfl⟩ := Kd.R_slice ho1; have j1 := RowE.mk ho1; have q1 := LeI.mk (rowLe j1); have jb := Bel.mk hb; clear A ho0 ho1 hb; (repeat' first | ((with_reducible replace h := ite_some h); rcases h with ⟨hc, h⟩ | ⟨hc, h⟩ <;> first | exact (none_some h).elim | exact absurd hc (by decide) | subst hc | (replace hc := Bool.eq_false_iff.mpr hc; subst hc) | (have hd := beq_iff_eq.mpr hc; have he := bne_eq_false_iff_eq.mpr hc; clear hc) | (have hd := beq_eq_false_iff_ne.mpr hc; have he := bne_iff_ne.mpr hc) | (have hd := decide_eq_false hc) | (have hd := decide_eq_true hc) | skip))) | (go_at_call 94; replace h := Option.bind_eq_some_iff.mp h; obtain ⟨t, A, h⟩ := h; (try dsimp only at h); refine (impl_copyLog.calls _ _ _ _ _ Rd.out LeI.out A).mono ?_; rintro e w2 ⟨v0, rfl, ho0, hb⟩; obtain ⟨B0, b0, rfl⟩ := Kd.R_slice ho0; have j0 := RowE.mk ho0; have q0 := LeI.mk (rowLe j0); have jb := Bel.mk hb; clear A ho0 hb; (repeat' first | ((with_reducible replace h := ite_some h); rcases h with ⟨hc, h⟩ | ⟨hc, h⟩ <;> first | exact (none_some h).elim | exact absurd hc (by decide) | subst hc | (replace hc := Bool.eq_false_iff.mpr hc; subst hc) | (have hd := beq_iff_eq.mpr hc; have he := bne_eq_false_iff_eq.mpr hc; clear hc) | (have hd := beq_eq_false_iff_ne.mpr hc; have he := bne_iff_ne.mpr hc) | (have hd := decide_eq_false hc) | (have hd := decide_eq_true hc) | skip)); (try have hn : decide (0 < t.length) = true := decide_eq_true (by omega)); (try have hn : decide (0 < t.length) = false := decide_eq_false (by omega))))))
  all_goals (repeat' first | ((with_reducible replace h := ite_some h); rcases h with ⟨hc, h⟩ | ⟨hc, h⟩ <;> first | exact (none_some h).elim | exact absurd hc (by decide) | subst hc | (replace hc := Bool.eq_false_iff.mpr hc; subst hc) | (have hd := beq_iff_eq.mpr hc; have he := bne_eq_false_iff_eq.mpr hc; clear hc) | (have hd := beq_eq_false_iff_ne.mpr hc; have he := bne_iff_ne.mpr hc) | (have hd := decide_eq_false hc) | (have hd := decide_eq_true hc) | skip))
  all_goals simp only [Option.some.injEq, Prod.mk.injEq] at h
  all_goals obtain ⟨rfl, rfl, rfl, rfl, rfl, rfl⟩ := h
  all_goals refine bodyPost_ret (results_cell_row rfl _ _ _ _ _ (0, 0) _ rfl Blk.out Try.underlying36 rfl (by kernel_rfl)) rfl ?_
  all_goals exact ⟨_, _, _, rfl, (by first | exact rowFin | exact Kd.R_nil _ _ _ _ _), (by first | exact rowFin | exact Kd.R_nil _ _ _ _ _), (by first | exact rowFin | exact Kd.R_nil _ _ _ _ _), From.out⟩
end Go.Proofs.Ytbkkpllejgedcaa.P


namespace Go.Proofs.Ytbkkpllejgedcaa.P
open Go.RowKit Go.Proofs.YtbkkpllejgedcaaW.PrintWords Go.Proofs.YtbkkpllejgedcaaW.PrintLast Go.Proofs.YtbkkpllejgedcaaW.PrintMore
attribute [local go_sem] max2_int min2_int max_two min_two max_three min_three max_four min_four
set_option linter.unusedVariables false
set_option linter.unusedSimpArgs false
def impl_AddEntry.f (k : Nat) (l0 : List (S74)) (a1_0 : Int) (a1_1 : Int) (a1_2 : Int) (a1_3 : Int) : Option ((List (S74)) × Bool) := (impl_copyLog.f l0).bind fun t1014 => ((some (([(⟨(⟨a1_0, a1_1⟩ : S56), a1_2, a1_3⟩ : S74)] : List (S74)) : List (S74))).bind fun y1017 => (if t1014.length + y1017.length < 4398046511104 then ((some (t1014 ++ y1017 : List (S74))).bind fun y1020 => ((impl_LogOk.f k l0).bind fun t1023 => (if t1023 = true then ((impl_LogOk.f k y1020).bind fun t1024 => (if t1024 = true then (some (y1020, true)) else ((impl_copyLog.f l0).bind fun t1025 => (some (t1025, false))))) else ((impl_copyLog.f l0).bind fun t1028 => (some (t1028, false)))))) else (none)))
set_option maxHeartbeats 8000000 in
set_option maxRecDepth 100000 in
theorem impl_AddEntry.calls (k : Nat) (A0 : Option Addr) (c0 : Nat) (l0 : List (S74)) (a1_0 : Int) (a1_1 : Int) (a1_2 : Int) (a1_3 : Int) (r1 : List (S74)) (r2 : Bool) (w : World) (hr0 : Kd.C k74 w A0 l0.length l0) (hc0 : l0.length ≤ c0) (h : impl_AddEntry.f k l0 a1_0 a1_1 a1_2 a1_3 = some (r1, r2)) :
    Calls Try.prog 51 #[.slice A0 l0.length c0, .agg #[.int .i64 a1_0, .int .i64 a1_1, .int .i64 a1_2, .int .i64 a1_3]] w fun e w' => ∃ v0_ : Value, e = .returned (.tuple #[v0_, .bool r2]) ∧ Kd.R k74 74 w' w.heap.size (fun _ => True) v0_ r1 ∧ Below w.heap.size w w' := by
  have hu74 := Try.underlying74
  have HR0 := Aside0.mk hr0
  have HC0 := Aside0.mk hc0
  clear hr0 hc0
  have HB := Aside0.mk (Below.refl w.heap.size w)
  have H : ((impl_copyLog.f l0).bind fun t1014 => ((some (([(⟨(⟨a1_0, a1_1⟩ : S56), a1_2, a1_3⟩ : S74)] : List (S74)) : List (S74))).bind fun y1017 => (if t1014.length + y1017.length < 4398046511104 then ((some (t1014 ++ y1017 : List (S74))).bind fun y1020 => ((impl_LogOk.f k l0).bind fun t1023 => (if t1023 = true then ((impl_LogOk.f k y1020).bind fun t1024 => (if t1024 = true then (some (y1020, true)) else ((impl_copyLog.f l0).bind fun t1025 => (some (t1025, false))))) else ((impl_copyLog.f l0).bind fun t1028 => (some (t1028, false)))))) else (none)))) = some (r1, r2) := h
  clear h
  replace H := Option.bind_eq_some_iff.mp H
  obtain ⟨t1014, A30, H⟩ := H
  (try dsimp only at H)
  have A3 := Aside0.mk A30
  clear A30
  obtain ⟨y1017, hy1017⟩ : ∃ y_ : List (S74), y_ = (([(⟨(⟨a1_0, a1_1⟩ : S56), a1_2, a1_3⟩ : S74)] : List (S74))) := ⟨_, rfl⟩
  replace H : (if t1014.length + y1017.length < 4398046511104 then ((some (t1014 ++ y1017 : List (S74))).bind fun y1020 => ((impl_LogOk.f k l0).bind fun t1023 => (if t1023 = true then ((impl_LogOk.f k y1020).bind fun t1024 => (if t1024 = true then (some (y1020, true)) else ((impl_copyLog.f l0).bind fun t1025 => (some (t1025, false))))) else ((impl_copyLog.f l0).bind fun t1028 => (some (t1028, false)))))) else (none)) = some (r1, r2) := by first | (rw [hy1017]; with_reducible exact H) | (have H2_ := (Option.bind_some _ _).symm.trans H; rw [hy1017]; with_reducible exact H2_) | (have H2_ := (Option.bind_some _ _).symm.trans H; with_reducible exact H2_) | with_reducible exact H | (rw [hy1017]; exact H) | exact H
  have Ny1017 := Aside0.mk hy1017
  clear hy1017
  by_cases c4 : t1014.length + y1017.length < 4398046511104
  · rw [if_pos c4] at H
    have LMc4 := Aside0.mk c4
    clear c4
    obtain ⟨y1020, hy1020⟩ : ∃ y_ : List (S74), y_ = (t1014 ++ y1017) := ⟨_, rfl⟩
    replace H : ((impl_LogOk.f k l0).bind fun t1023 => (if t1023 = true then ((impl_LogOk.f k y1020).bind fun t1024 => (if t1024 = true then (some (y1020, true)) else ((impl_copyLog.f l0).bind fun t1025 => (some (t1025, false))))) else ((impl_copyLog.f l0).bind fun t1028 => (some (t1028, false))))) = some (r1, r2) := by first | (rw [hy1020]; with_reducible exact H) | (have H2_ := (Option.bind_some _ _).symm.trans H; rw [hy1020]; with_reducible exact H2_) | (have H2_ := (Option.bind_some _ _).symm.trans H; with_reducible exact H2_) | with_reducible exact H | (rw [hy1020]; exact H) | exact H
    have Ny1020 := Aside0.mk hy1020
    clear hy1020
    replace H := Option.bind_eq_some_iff.mp H
    obtain ⟨t1023, A50, H⟩ := H
    (try dsimp only at H)
    have A5 := Aside0.mk A50
    clear A50
    by_cases c6 : t1023 = true
    · subst c6
      rw [if_pos rfl] at H
      replace H := Option.bind_eq_some_iff.mp H
      obtain ⟨t1024, A70, H⟩ := H
      (try dsimp only at H)
      have A7 := Aside0.mk A70
      clear A70
      by_cases c8 : t1024 = true
      · subst c8
        rw [if_pos rfl] at H
        simp only [Option.some.injEq, Prod.mk.injEq] at H
        obtain ⟨rfl, rfl⟩ := H
        go_enter Try.func51, Try.ntmps51
        try go_wp2_with (first | ((with_reducible refine gate_dst (N := 3) rfl ?_); refine box_event ?hg (N := 3) ?hd (cs := #[.int .i64 a1_0, .int .i64 a1_1, .int .i64 a1_2, .int .i64 a1_3]) (t := 74) ?hr ?_; (case hd => rfl); (case hg => rfl); (case hr => first | (go_simp; done) | (go_simp; rfl)); intro gb1013 hg w9 hbox hb; have n0_ := Aside0.mk (below_step (oB HB) hb); have n1_ := Aside0.mk (hbox); have n2_ := Aside0.mk ((by rw [hg]; exact (below_size (oB HB)) : w.heap.size ≤ gb1013)); have n3_ := Aside0.mk ((by rw [hg]; exact (below_size (oB HB)) : w.heap.size ≤ gb1013)); clear HB; have HB := n0_; have BK1013 := n1_; have GW1013 := n2_; have GE1013 := n3_; clear n0_ n1_ n2_ n3_; clear hb hbox hg))
        have n0_ := Aside0.mk (blk_drew BK1013.out)
        have n1_ := Aside0.mk (below_drew1 HB.out)
        clear BK1013
        clear HB
        have BK1013 := n0_
        have HB := n1_
        clear n0_ n1_
        refine start_ (n := 6) (S := fun w' => w'.cell? ⟨gb1013, 0, none⟩ = some (.int .i64 a1_0) ∧ w'.cell? ⟨gb1013, 1, none⟩ = some (.int .i64 a1_1) ∧ w'.cell? ⟨gb1013, 2, none⟩ = some (.int .i64 a1_2) ∧ w'.cell? ⟨gb1013, 3, none⟩ = some (.int .i64 a1_3)) (ds := []) #[false, false, false, false, false, false] (by kernel_rfl) rfl rfl ⟨(blk_cell BK1013.out 0).trans rfl, (blk_cell BK1013.out 1).trans rfl, (blk_cell BK1013.out 2).trans rfl, (blk_cell BK1013.out 3).trans rfl⟩ (fun hHeld => ?_)
        generalize w9.drew = w10 at BK1013 HB hHeld ⊢
        refine pure_ (i := 0) (N := some 7) (v := ?_) (a' := ?_) #[true, false, false, false, false, false] rfl rfl (by kernel_rfl) (fun _ _ _ h => h) (Or.inl ⟨by rfl, ?_⟩) ?_ ?_
        rotate_left
        · intro w'
          go_simp
          with_reducible rfl
        rotate_left
        · simp only [Act.put, List.setIfInBounds_toArray, List.set_cons_zero, List.set_cons_succ, i64_w, i32_w]
          rfl
        refine take_ (i := 2) (N := some 9) (v := ?_) (a' := ?_) #[true, false, true, false, false, false] rfl rfl (by kernel_rfl) (fun _ _ _ h => h) (Or.inl ⟨by rfl, ?_⟩) hHeld ?_ ?_
        rotate_left
        · rintro w' ⟨s0, s1, s2, s3⟩
          go_simp
          with_reducible rfl
        rotate_left
        · simp only [Act.put, List.setIfInBounds_toArray, List.set_cons_zero, List.set_cons_succ, i64_w, i32_w]
          rfl
        refine join_ (σ := Value × Value) 2 #[true, true, true, true, false, false] (fun s_ => [(8, s_.1), (10, s_.2)]) (fun s_ w' => (w'.cell? ⟨gb1013, 0, none⟩ = some (.int .i64 a1_0) ∧ w'.cell? ⟨gb1013, 1, none⟩ = some (.int .i64 a1_1) ∧ w'.cell? ⟨gb1013, 2, none⟩ = some (.int .i64 a1_2) ∧ w'.cell? ⟨gb1013, 3, none⟩ = some (.int .i64 a1_3)) ∧ (Kd.R k74 74 w' w.heap.size (fun k_ => some k_ ≠ (s_.2 : Value).ownBlock ∧ k_ ≠ gb1013) s_.1 t1014) ∧ (Kd.R k74 74 w' w.heap.size (fun k_ => some k_ ≠ (s_.1 : Value).ownBlock ∧ k_ ≠ gb1013) s_.2 y1017) ∧ (w'.heap[gb1013]? = some (.cells #[.int .i64 a1_0, .int .i64 a1_1, .int .i64 a1_2, .int .i64 a1_3] 74 (0, 0))) ∧ (Below w.heap.size w w')) ?_ ?_
        rotate_left
        · intro hCont
          refine two_ (i := 1) (j := 3) (Ni := some 8) (Nj := some 10) #[true, true, true, false, false, false] #[true, false, true, true, false, false] rfl rfl rfl rfl (by kernel_rfl) (by decide) (by decide) (fun K hK => ?_) (fun K hK => ?_)
          · skip
            refine goes_ Try.func94 (by kernel_rfl) rfl #[.slice A0 l0.length c0] (by rfl) rfl rfl (by (try simp only [List.map_toArray, List.map_cons, List.map_nil]); first | done | rfl | (simp only [List.length_drop, List.length_take]; rfl)) ?_
            with_reducible refine (impl_copyLog.calls _ _ l0 t1014 _ ?side1 ?side2 A3.out).mono ?_
            (case side1 => exact oc_ HR0.out)
            (case side2 => exact HC0.out)
            rintro e w11 ⟨v1015, rfl, ho0, hb⟩
            refine ⟨_, rfl, ?_⟩
            have n0_ := Aside0.mk (Kd.R_lower (Kd.R_newB ho0 (g := gb1013) (o := .cells #[.int .i64 a1_0, .int .i64 a1_1, .int .i64 a1_2, .int .i64 a1_3] 74 (0, 0)) (oK BK1013)) (below_size (oB HB)))
            have n1_ := Aside0.mk (blk_below (g := gb1013) (o := .cells #[.int .i64 a1_0, .int .i64 a1_1, .int .i64 a1_2, .int .i64 a1_3] 74 (0, 0)) (oK BK1013) hb)
            have n2_ := Aside0.mk (below_step (oB HB) hb)
            clear BK1013
            clear HB
            have HO1016 := n0_
            have BK1013 := n1_
            have HB := n2_
            clear n0_ n1_ n2_
            (try clear hb)
            (try clear hb2)
            (try clear hk)
            (try clear hi)
            (try clear ho0)
            refine hK.out _ _ ⟨(blk_cell BK1013.out 0).trans rfl, (blk_cell BK1013.out 1).trans rfl, (blk_cell BK1013.out 2).trans rfl, (blk_cell BK1013.out 3).trans rfl⟩ (fun hHeld => ?_)
            clear hK K
            refine norm_ (a' := ?_) ?_ ?_
            rotate_left
            · show Act.put _ (some 8) _ = _
              simp only [Act.put, List.setIfInBounds_toArray, List.set_cons_zero, List.set_cons_succ, i64_w, i32_w]
              rfl
            refine one_ (i := 3) (N := some 10) #[true, true, true, true, false, false] rfl rfl (by kernel_rfl) (by decide) (fun K hK => ?_)
            refine Kd.R_lit_step k74 _ 74 ?hg (N := 10) ?hd (xs := ([(⟨(⟨a1_0, a1_1⟩ : S56), a1_2, a1_3⟩ : S74)] : List (S74))) (inner := [.int .i64 a1_0, .int .i64 a1_1, .int .i64 a1_2, .int .i64 a1_3]) (ok := fun _ => True) (okp := fun _ => True) ?hr ?hp (fun _ hk => hk) trivial (Below.refl _ _) (Nat.le_refl _) (by simp) ?_; (case hd => rfl); (case hg => rfl); (case hr => first | (go_simp; done) | (go_simp; rfl)); (case hp => exact (Reps.c4 (show Kd.M k74 _ _ _ (⟨(⟨a1_0, a1_1⟩ : S56), a1_2, a1_3⟩ : S74) [.int .i64 a1_0, .int .i64 a1_1, .int .i64 a1_2, .int .i64 a1_3] from (k74_mkM _ _ _ (⟨(⟨a1_0, a1_1⟩ : S56), a1_2, a1_3⟩ : S74) )) (Reps.none _ _)))
            intro v1018 w12 ho13 hb hg_ hnew_
            clear hg_ hnew_
            (first | rw [← Ny1017.out] at ho13 | (simp only [Int.reduceToNat] at ho13; rw [← Ny1017.out] at ho13))
            have n0_ := Aside0.mk (Kd.R_elder' (oR HO1016) (Kd.R_base ho13) hb)
            have n1_ := Aside0.mk (Kd.R_lower (Kd.R_newB (Kd.R_new' ho13 (Kd.R_lt (oR HO1016))) (g := gb1013) (o := .cells #[.int .i64 a1_0, .int .i64 a1_1, .int .i64 a1_2, .int .i64 a1_3] 74 (0, 0)) (oK BK1013)) (below_size (oB HB)))
            have n2_ := Aside0.mk (blk_below (g := gb1013) (o := .cells #[.int .i64 a1_0, .int .i64 a1_1, .int .i64 a1_2, .int .i64 a1_3] 74 (0, 0)) (oK BK1013) hb)
            have n3_ := Aside0.mk (below_step (oB HB) hb)
            clear HO1016
            clear BK1013
            clear HB
            have HO1016 := n0_
            have HO1019 := n1_
            have BK1013 := n2_
            have HB := n3_
            clear n0_ n1_ n2_ n3_
            clear hb ho13
            refine hK.out _ _ ⟨(blk_cell BK1013.out 0).trans rfl, (blk_cell BK1013.out 1).trans rfl, (blk_cell BK1013.out 2).trans rfl, (blk_cell BK1013.out 3).trans rfl⟩ (fun hHeld => ?_)
            clear hK K
            refine norm_ (a' := ?_) ?_ ?_
            rotate_left
            · show Act.put _ (some 10) _ = _
              simp only [Act.put, List.setIfInBounds_toArray, List.set_cons_zero, List.set_cons_succ, i64_w, i32_w]
              rfl
            exact norm_ (by simp only [putAll, Act.put, List.setIfInBounds_toArray, List.set_cons_zero, List.set_cons_succ]) (hCont (v1015, v1018) _ ⟨hHeld, (by (with_reducible repeat (first | apply Kd.R_alloc | apply Kd.R_drewN | apply Kd.R_drew)); exact Kd.R_mono HO1016.out (fun _ hk => ⟨hk.2, hk.1.2⟩)), (by (with_reducible repeat (first | apply Kd.R_alloc | apply Kd.R_drewN | apply Kd.R_drew)); exact Kd.R_mono HO1019.out (fun _ hk => ⟨hk.1.2, hk.2⟩)), (oK BK1013), (oB HB)⟩)
          · skip
            refine Kd.R_lit_step k74 _ 74 ?hg (N := 10) ?hd (xs := ([(⟨(⟨a1_0, a1_1⟩ : S56), a1_2, a1_3⟩ : S74)] : List (S74))) (inner := [.int .i64 a1_0, .int .i64 a1_1, .int .i64 a1_2, .int .i64 a1_3]) (ok := fun _ => True) (okp := fun _ => True) ?hr ?hp (fun _ hk => hk) trivial (Below.refl _ _) (Nat.le_refl _) (by simp) ?_; (case hd => rfl); (case hg => rfl); (case hr => first | (go_simp; done) | (go_simp; rfl)); (case hp => exact (Reps.c4 (show Kd.M k74 _ _ _ (⟨(⟨a1_0, a1_1⟩ : S56), a1_2, a1_3⟩ : S74) [.int .i64 a1_0, .int .i64 a1_1, .int .i64 a1_2, .int .i64 a1_3] from (k74_mkM _ _ _ (⟨(⟨a1_0, a1_1⟩ : S56), a1_2, a1_3⟩ : S74) )) (Reps.none _ _)))
            intro v1018 w11 ho12 hb hg_ hnew_
            clear hg_ hnew_
            (first | rw [← Ny1017.out] at ho12 | (simp only [Int.reduceToNat] at ho12; rw [← Ny1017.out] at ho12))
            have n0_ := Aside0.mk (Kd.R_lower (Kd.R_newB ho12 (g := gb1013) (o := .cells #[.int .i64 a1_0, .int .i64 a1_1, .int .i64 a1_2, .int .i64 a1_3] 74 (0, 0)) (oK BK1013)) (below_size (oB HB)))
            have n1_ := Aside0.mk (blk_below (g := gb1013) (o := .cells #[.int .i64 a1_0, .int .i64 a1_1, .int .i64 a1_2, .int .i64 a1_3] 74 (0, 0)) (oK BK1013) hb)
            have n2_ := Aside0.mk (below_step (oB HB) hb)
            clear BK1013
            clear HB
            have HO1019 := n0_
            have BK1013 := n1_
            have HB := n2_
            clear n0_ n1_ n2_
            clear hb ho12
            refine hK.out _ _ ⟨(blk_cell BK1013.out 0).trans rfl, (blk_cell BK1013.out 1).trans rfl, (blk_cell BK1013.out 2).trans rfl, (blk_cell BK1013.out 3).trans rfl⟩ (fun hHeld => ?_)
            clear hK K
            refine norm_ (a' := ?_) ?_ ?_
            rotate_left
            · show Act.put _ (some 10) _ = _
              simp only [Act.put, List.setIfInBounds_toArray, List.set_cons_zero, List.set_cons_succ, i64_w, i32_w]
              rfl
            refine one_ (i := 1) (N := some 8) #[true, true, true, true, false, false] rfl rfl (by kernel_rfl) (by decide) (fun K hK => ?_)
            refine goes_ Try.func94 (by kernel_rfl) rfl #[.slice A0 l0.length c0] (by rfl) rfl rfl (by (try simp only [List.map_toArray, List.map_cons, List.map_nil]); first | done | rfl | (simp only [List.length_drop, List.length_take]; rfl)) ?_
            with_reducible refine (impl_copyLog.calls _ _ l0 t1014 _ ?side1 ?side2 A3.out).mono ?_
            (case side1 => exact oc_ HR0.out)
            (case side2 => exact HC0.out)
            rintro e w13 ⟨v1015, rfl, ho0, hb⟩
            refine ⟨_, rfl, ?_⟩
            have n0_ := Aside0.mk (Kd.R_elder' (oR HO1019) (Kd.R_base ho0) hb)
            have n1_ := Aside0.mk (Kd.R_lower (Kd.R_newB (Kd.R_new' ho0 (Kd.R_lt (oR HO1019))) (g := gb1013) (o := .cells #[.int .i64 a1_0, .int .i64 a1_1, .int .i64 a1_2, .int .i64 a1_3] 74 (0, 0)) (oK BK1013)) (below_size (oB HB)))
            have n2_ := Aside0.mk (blk_below (g := gb1013) (o := .cells #[.int .i64 a1_0, .int .i64 a1_1, .int .i64 a1_2, .int .i64 a1_3] 74 (0, 0)) (oK BK1013) hb)
            have n3_ := Aside0.mk (below_step (oB HB) hb)
            clear HO1019
            clear BK1013
            clear HB
            have HO1019 := n0_
            have HO1016 := n1_
            have BK1013 := n2_
            have HB := n3_
            clear n0_ n1_ n2_ n3_
            (try clear hb)
            (try clear hb2)
            (try clear hk)
            (try clear hi)
            (try clear ho0)
            refine hK.out _ _ ⟨(blk_cell BK1013.out 0).trans rfl, (blk_cell BK1013.out 1).trans rfl, (blk_cell BK1013.out 2).trans rfl, (blk_cell BK1013.out 3).trans rfl⟩ (fun hHeld => ?_)
            clear hK K
            refine norm_ (a' := ?_) ?_ ?_
            rotate_left
            · show Act.put _ (some 8) _ = _
              simp only [Act.put, List.setIfInBounds_toArray, List.set_cons_zero, List.set_cons_succ, i64_w, i32_w]
              rfl
            exact norm_ (by simp only [putAll, Act.put, List.setIfInBounds_toArray, List.set_cons_zero, List.set_cons_succ]) (hCont (v1015, v1018) _ ⟨hHeld, (by (with_reducible repeat (first | apply Kd.R_alloc | apply Kd.R_drewN | apply Kd.R_drew)); exact Kd.R_mono HO1016.out (fun _ hk => ⟨hk.1.2, hk.2⟩)), (by (with_reducible repeat (first | apply Kd.R_alloc | apply Kd.R_drewN | apply Kd.R_drew)); exact Kd.R_mono HO1019.out (fun _ hk => ⟨hk.2, hk.1.2⟩)), (oK BK1013), (oB HB)⟩)
        rintro ⟨v1015, v1018⟩ w14 ⟨hS_, h0_, h1_, h2_, h3_⟩
        have n0_ : Aside0 (Kd.R k74 74 w14 w.heap.size (fun k_ => some k_ ≠ (v1018 : Value).ownBlock ∧ k_ ≠ gb1013) v1015 t1014) := ⟨h0_⟩
        have n1_ : Aside0 (Kd.R k74 74 w14 w.heap.size (fun k_ => some k_ ≠ (v1015 : Value).ownBlock ∧ k_ ≠ gb1013) v1018 y1017) := ⟨h1_⟩
        have n2_ : Aside0 (w14.heap[gb1013]? = some (.cells #[.int .i64 a1_0, .int .i64 a1_1, .int .i64 a1_2, .int .i64 a1_3] 74 (0, 0))) := ⟨h2_⟩
        have n3_ : Aside0 (Below w.heap.size w w14) := ⟨h3_⟩
        clear BK1013
        clear HB
        clear h0_ h1_ h2_ h3_
        have HO1016 := n0_
        have HO1019 := n1_
        have BK1013 := n2_
        have HB := n3_
        clear n0_ n1_ n2_ n3_
        have hHeld : w14.cell? ⟨gb1013, 0, none⟩ = some (.int .i64 a1_0) ∧ w14.cell? ⟨gb1013, 1, none⟩ = some (.int .i64 a1_1) ∧ w14.cell? ⟨gb1013, 2, none⟩ = some (.int .i64 a1_2) ∧ w14.cell? ⟨gb1013, 3, none⟩ = some (.int .i64 a1_3) := hS_
        obtain ⟨Ao16, co16, eo16⟩ := Kd.R_slice HO1019.out
        (first | subst eo16 | (injection eo16 with f1_ f2_ f3_; have f4_ := f1_.symm; have f5_ := f3_.symm; clear f1_ f2_ f3_; subst f4_; subst f5_))
        refine norm_ (a' := ?_) ?_ ?_
        rotate_left
        · simp only [putAll, Act.put, List.setIfInBounds_toArray, List.set_cons_zero, List.set_cons_succ]
          rfl
        refine one_ (i := 4) (N := some 11) #[true, true, true, true, true, false] rfl rfl (by kernel_rfl) (by decide) (fun K hK => ?_)
        refine Kd.R_append_rows_step k74 (w0 := w) w.heap.size (by rfl) (.tmp 8) (.tmp 10) 34 74 (.agg #[(.int .i64 0), (.int .i64 0), (.int .i64 0), (.int .i64 0)]) 32 rfl Try.underlying34 info74 rfl (by decide) (by omega) v1015 t1014 y1017 _ _ _ (fun k_ => some k_ ≠ (.slice Ao16 y1017.length co16 : Value).ownBlock ∧ k_ ≠ gb1013) (fun _ => False) rfl rfl ?aO ?aR (fun _ _ h => h) (fun _ h => h.elim) ?aF ?aB ?aS ?aL ?_
        (case aR => repeat (first | exact (Kd.R_reads' HO1019.out).2.2 | (with_reducible refine Kd.C_alloc ?_ _) | (with_reducible refine Kd.C_drewN ?_ _) | (with_reducible refine Kd.C_drew ?_)))
        (case aB => exact (oB HB))
        (case aF => exact (fun k_ hk => ⟨Kd.fresh' (Kd.R_lt (oR HO1019)) k_ hk, Kd.freshB (g := gb1013) (o := .cells #[.int .i64 a1_0, .int .i64 a1_1, .int .i64 a1_2, .int .i64 a1_3] 74 (0, 0)) (oK BK1013) k_ hk⟩))
        (case aO => exact (oR HO1016))
        (case aS => exact (below_size (oB HB)))
        (case aL => have := LMc4.out; omega)
        intro v1021 w15 ho hb hg hat
        rw [← Ny1020.out] at ho
        have n0_ := Aside0.mk (blk_grown (g := gb1013) (o := .cells #[.int .i64 a1_0, .int .i64 a1_1, .int .i64 a1_2, .int .i64 a1_3] 74 (0, 0)) (oK BK1013) hg (Kd.R_away HO1016.out (fun _ hk => hk.2)))
        have n1_ := Aside0.mk (Kd.R_after (ok := (fun k_ => k_ ≠ gb1013)) (by (with_reducible repeat (first | apply Kd.R_alloc | apply Kd.R_drewN | apply Kd.R_drew)); exact Kd.R_mono HO1019.out (fun _ hk => ⟨hk.2, hk.1⟩)) hg hat)
        have n2_ := Aside0.mk (hb)
        have n3_ := Aside0.mk (ho)
        clear BK1013
        clear HO1019
        clear HB
        clear HO1016
        have BK1013 := n0_
        have HO1019 := n1_
        have HB := n2_
        have HO1022 := n3_
        clear n0_ n1_ n2_ n3_
        clear ho hb hg hat
        refine hK.out _ _ ⟨(blk_cell BK1013.out 0).trans rfl, (blk_cell BK1013.out 1).trans rfl, (blk_cell BK1013.out 2).trans rfl, (blk_cell BK1013.out 3).trans rfl⟩ (fun hHeld => ?_)
        clear hK K
        refine norm_ (a' := ?_) ?_ ?_
        rotate_left
        · show Act.put _ (some 11) _ = _
          simp only [Act.put, List.setIfInBounds_toArray, List.set_cons_zero, List.set_cons_succ, i64_w, i32_w]
          rfl
        refine pure_ (i := 5) (N := some 6) (v := ?_) (a' := ?_) #[true, true, true, true, true, true] rfl rfl (by kernel_rfl) (fun _ _ _ h => h) (Or.inl ⟨by rfl, ?_⟩) ?_ ?_
        rotate_left
        · intro w'
          go_simp
          with_reducible rfl
        rotate_left
        · simp only [Act.put, List.setIfInBounds_toArray, List.set_cons_zero, List.set_cons_succ, i64_w, i32_w]
          rfl
        refine done_ (by kernel_rfl) ?_
        try go_wp2_with (first | ((with_reducible refine gate_callee (f := 65) rfl ?_); refine goesL_ (some 13) rfl rfl Try.func65 (by kernel_rfl) rfl #[.slice A0 l0.length c0] rfl (by (try simp only [List.map_toArray, List.map_cons, List.map_nil]); first | done | rfl | (simp only [List.length_drop, List.length_take]; rfl)) ?_; (with_reducible refine (impl_LogOk.calls k _ _ l0 true _ ?side1 ?side2 A5.out).mono ?_); (case side1 => exact oc_ HR0.out); (case side2 => exact HC0.out); rintro e w17 ⟨rfl, hb⟩; refine ⟨_, rfl, ?_⟩; have n0_ := Aside0.mk (Kd.R_below (oR HO1019) hb); have n1_ := Aside0.mk (Kd.R_below (oR HO1022) hb); have n2_ := Aside0.mk (blk_below (g := gb1013) (o := .cells #[.int .i64 a1_0, .int .i64 a1_1, .int .i64 a1_2, .int .i64 a1_3] 74 (0, 0)) (oK BK1013) hb); have n3_ := Aside0.mk (below_step (oB HB) hb); clear HO1019; clear HO1022; clear BK1013; clear HB; have HO1019 := n0_; have HO1022 := n1_; have BK1013 := n2_; have HB := n3_; clear n0_ n1_ n2_ n3_; (try clear hb); (try clear hb2); (try clear hk); (try clear hi); obtain ⟨Ao18, co18, eo18⟩ := Kd.R_slice HO1022.out; subst eo18) | (go_at_call 65; (with_reducible refine (impl_LogOk.calls k _ _ y1020 true _ ?side1 ?side2 A7.out).mono ?_); (case side1 => repeat (first | exact (Kd.R_reads' HO1022.out).2.2 | (with_reducible refine Kd.C_alloc ?_ _) | (with_reducible refine Kd.C_drewN ?_ _) | (with_reducible refine Kd.C_drew ?_))); (case side2 => exact (Kd.R_reads' HO1022.out).2.1); rintro e w19 ⟨rfl, hb⟩; have n0_ := Aside0.mk (Kd.R_below (oR HO1019) hb); have n1_ := Aside0.mk (Kd.R_below (oR HO1022) hb); have n2_ := Aside0.mk (blk_below (g := gb1013) (o := .cells #[.int .i64 a1_0, .int .i64 a1_1, .int .i64 a1_2, .int .i64 a1_3] 74 (0, 0)) (oK BK1013) hb); have n3_ := Aside0.mk (below_step (oB HB) hb); clear HO1019; clear HO1022; clear BK1013; clear HB; have HO1019 := n0_; have HO1022 := n1_; have BK1013 := n2_; have HB := n3_; clear n0_ n1_ n2_ n3_; (try clear hb); (try clear hb2); (try clear hk); (try clear hi)))
        go_ret2
        exact ⟨_, by first | rfl | (simp [errW_none, errW_some] <;> rfl) | (simp [*, errW_none, errW_some] <;> rfl), by (with_reducible repeat (first | apply Kd.R_alloc | apply Kd.R_drewN | apply Kd.R_drew)); exact Kd.R_mono HO1022.out (fun _ hk => trivial), oB HB⟩
      · replace c8 := Bool.eq_false_iff.mpr c8
        subst c8
        rw [if_neg (show ¬ (false = true) by decide)] at H
        replace H := Option.bind_eq_some_iff.mp H
        obtain ⟨t1025, A200, H⟩ := H
        (try dsimp only at H)
        have A20 := Aside0.mk A200
        clear A200
        simp only [Option.some.injEq, Prod.mk.injEq] at H
        obtain ⟨rfl, rfl⟩ := H
        go_enter Try.func51, Try.ntmps51
        try go_wp2_with (first | ((with_reducible refine gate_dst (N := 3) rfl ?_); refine box_event ?hg (N := 3) ?hd (cs := #[.int .i64 a1_0, .int .i64 a1_1, .int .i64 a1_2, .int .i64 a1_3]) (t := 74) ?hr ?_; (case hd => rfl); (case hg => rfl); (case hr => first | (go_simp; done) | (go_simp; rfl)); intro gb1013 hg w21 hbox hb; have n0_ := Aside0.mk (below_step (oB HB) hb); have n1_ := Aside0.mk (hbox); have n2_ := Aside0.mk ((by rw [hg]; exact (below_size (oB HB)) : w.heap.size ≤ gb1013)); have n3_ := Aside0.mk ((by rw [hg]; exact (below_size (oB HB)) : w.heap.size ≤ gb1013)); clear HB; have HB := n0_; have BK1013 := n1_; have GW1013 := n2_; have GE1013 := n3_; clear n0_ n1_ n2_ n3_; clear hb hbox hg))
        have n0_ := Aside0.mk (blk_drew BK1013.out)
        have n1_ := Aside0.mk (below_drew1 HB.out)
        clear BK1013
        clear HB
        have BK1013 := n0_
        have HB := n1_
        clear n0_ n1_
        refine start_ (n := 6) (S := fun w' => w'.cell? ⟨gb1013, 0, none⟩ = some (.int .i64 a1_0) ∧ w'.cell? ⟨gb1013, 1, none⟩ = some (.int .i64 a1_1) ∧ w'.cell? ⟨gb1013, 2, none⟩ = some (.int .i64 a1_2) ∧ w'.cell? ⟨gb1013, 3, none⟩ = some (.int .i64 a1_3)) (ds := []) #[false, false, false, false, false, false] (by kernel_rfl) rfl rfl ⟨(blk_cell BK1013.out 0).trans rfl, (blk_cell BK1013.out 1).trans rfl, (blk_cell BK1013.out 2).trans rfl, (blk_cell BK1013.out 3).trans rfl⟩ (fun hHeld => ?_)
        generalize w21.drew = w22 at BK1013 HB hHeld ⊢
        refine pure_ (i := 0) (N := some 7) (v := ?_) (a' := ?_) #[true, false, false, false, false, false] rfl rfl (by kernel_rfl) (fun _ _ _ h => h) (Or.inl ⟨by rfl, ?_⟩) ?_ ?_
        rotate_left
        · intro w'
          go_simp
          with_reducible rfl
        rotate_left
        · simp only [Act.put, List.setIfInBounds_toArray, List.set_cons_zero, List.set_cons_succ, i64_w, i32_w]
          rfl
        refine take_ (i := 2) (N := some 9) (v := ?_) (a' := ?_) #[true, false, true, false, false, false] rfl rfl (by kernel_rfl) (fun _ _ _ h => h) (Or.inl ⟨by rfl, ?_⟩) hHeld ?_ ?_
        rotate_left
        · rintro w' ⟨s0, s1, s2, s3⟩
          go_simp
          with_reducible rfl
        rotate_left
        · simp only [Act.put, List.setIfInBounds_toArray, List.set_cons_zero, List.set_cons_succ, i64_w, i32_w]
          rfl
        refine join_ (σ := Value × Value) 2 #[true, true, true, true, false, false] (fun s_ => [(8, s_.1), (10, s_.2)]) (fun s_ w' => (w'.cell? ⟨gb1013, 0, none⟩ = some (.int .i64 a1_0) ∧ w'.cell? ⟨gb1013, 1, none⟩ = some (.int .i64 a1_1) ∧ w'.cell? ⟨gb1013, 2, none⟩ = some (.int .i64 a1_2) ∧ w'.cell? ⟨gb1013, 3, none⟩ = some (.int .i64 a1_3)) ∧ (Kd.R k74 74 w' w.heap.size (fun k_ => some k_ ≠ (s_.2 : Value).ownBlock ∧ k_ ≠ gb1013) s_.1 t1014) ∧ (Kd.R k74 74 w' w.heap.size (fun k_ => some k_ ≠ (s_.1 : Value).ownBlock ∧ k_ ≠ gb1013) s_.2 y1017) ∧ (w'.heap[gb1013]? = some (.cells #[.int .i64 a1_0, .int .i64 a1_1, .int .i64 a1_2, .int .i64 a1_3] 74 (0, 0))) ∧ (Below w.heap.size w w')) ?_ ?_
        rotate_left
        · intro hCont
          refine two_ (i := 1) (j := 3) (Ni := some 8) (Nj := some 10) #[true, true, true, false, false, false] #[true, false, true, true, false, false] rfl rfl rfl rfl (by kernel_rfl) (by decide) (by decide) (fun K hK => ?_) (fun K hK => ?_)
          · skip
            refine goes_ Try.func94 (by kernel_rfl) rfl #[.slice A0 l0.length c0] (by rfl) rfl rfl (by (try simp only [List.map_toArray, List.map_cons, List.map_nil]); first | done | rfl | (simp only [List.length_drop, List.length_take]; rfl)) ?_
            with_reducible refine (impl_copyLog.calls _ _ l0 t1014 _ ?side1 ?side2 A3.out).mono ?_
            (case side1 => exact oc_ HR0.out)
            (case side2 => exact HC0.out)
            rintro e w23 ⟨v1015, rfl, ho0, hb⟩
            refine ⟨_, rfl, ?_⟩
            have n0_ := Aside0.mk (Kd.R_lower (Kd.R_newB ho0 (g := gb1013) (o := .cells #[.int .i64 a1_0, .int .i64 a1_1, .int .i64 a1_2, .int .i64 a1_3] 74 (0, 0)) (oK BK1013)) (below_size (oB HB)))
            have n1_ := Aside0.mk (blk_below (g := gb1013) (o := .cells #[.int .i64 a1_0, .int .i64 a1_1, .int .i64 a1_2, .int .i64 a1_3] 74 (0, 0)) (oK BK1013) hb)
            have n2_ := Aside0.mk (below_step (oB HB) hb)
            clear BK1013
            clear HB
            have HO1016 := n0_
            have BK1013 := n1_
            have HB := n2_
            clear n0_ n1_ n2_
            (try clear hb)
            (try clear hb2)
            (try clear hk)
            (try clear hi)
            (try clear ho0)
            refine hK.out _ _ ⟨(blk_cell BK1013.out 0).trans rfl, (blk_cell BK1013.out 1).trans rfl, (blk_cell BK1013.out 2).trans rfl, (blk_cell BK1013.out 3).trans rfl⟩ (fun hHeld => ?_)
            clear hK K
            refine norm_ (a' := ?_) ?_ ?_
            rotate_left
            · show Act.put _ (some 8) _ = _
              simp only [Act.put, List.setIfInBounds_toArray, List.set_cons_zero, List.set_cons_succ, i64_w, i32_w]
              rfl
            refine one_ (i := 3) (N := some 10) #[true, true, true, true, false, false] rfl rfl (by kernel_rfl) (by decide) (fun K hK => ?_)
            refine Kd.R_lit_step k74 _ 74 ?hg (N := 10) ?hd (xs := ([(⟨(⟨a1_0, a1_1⟩ : S56), a1_2, a1_3⟩ : S74)] : List (S74))) (inner := [.int .i64 a1_0, .int .i64 a1_1, .int .i64 a1_2, .int .i64 a1_3]) (ok := fun _ => True) (okp := fun _ => True) ?hr ?hp (fun _ hk => hk) trivial (Below.refl _ _) (Nat.le_refl _) (by simp) ?_; (case hd => rfl); (case hg => rfl); (case hr => first | (go_simp; done) | (go_simp; rfl)); (case hp => exact (Reps.c4 (show Kd.M k74 _ _ _ (⟨(⟨a1_0, a1_1⟩ : S56), a1_2, a1_3⟩ : S74) [.int .i64 a1_0, .int .i64 a1_1, .int .i64 a1_2, .int .i64 a1_3] from (k74_mkM _ _ _ (⟨(⟨a1_0, a1_1⟩ : S56), a1_2, a1_3⟩ : S74) )) (Reps.none _ _)))
            intro v1018 w24 ho25 hb hg_ hnew_
            clear hg_ hnew_
            (first | rw [← Ny1017.out] at ho25 | (simp only [Int.reduceToNat] at ho25; rw [← Ny1017.out] at ho25))
            have n0_ := Aside0.mk (Kd.R_elder' (oR HO1016) (Kd.R_base ho25) hb)
            have n1_ := Aside0.mk (Kd.R_lower (Kd.R_newB (Kd.R_new' ho25 (Kd.R_lt (oR HO1016))) (g := gb1013) (o := .cells #[.int .i64 a1_0, .int .i64 a1_1, .int .i64 a1_2, .int .i64 a1_3] 74 (0, 0)) (oK BK1013)) (below_size (oB HB)))
            have n2_ := Aside0.mk (blk_below (g := gb1013) (o := .cells #[.int .i64 a1_0, .int .i64 a1_1, .int .i64 a1_2, .int .i64 a1_3] 74 (0, 0)) (oK BK1013) hb)
            have n3_ := Aside0.mk (below_step (oB HB) hb)
            clear HO1016
            clear BK1013
            clear HB
            have HO1016 := n0_
            have HO1019 := n1_
            have BK1013 := n2_
            have HB := n3_
            clear n0_ n1_ n2_ n3_
            clear hb ho25
            refine hK.out _ _ ⟨(blk_cell BK1013.out 0).trans rfl, (blk_cell BK1013.out 1).trans rfl, (blk_cell BK1013.out 2).trans rfl, (blk_cell BK1013.out 3).trans rfl⟩ (fun hHeld => ?_)
            clear hK K
            refine norm_ (a' := ?_) ?_ ?_
            rotate_left
            · show Act.put _ (some 10) _ = _
              simp only [Act.put, List.setIfInBounds_toArray, List.set_cons_zero, List.set_cons_succ, i64_w, i32_w]
              rfl
            exact norm_ (by simp only [putAll, Act.put, List.setIfInBounds_toArray, List.set_cons_zero, List.set_cons_succ]) (hCont (v1015, v1018) _ ⟨hHeld, (by (with_reducible repeat (first | apply Kd.R_alloc | apply Kd.R_drewN | apply Kd.R_drew)); exact Kd.R_mono HO1016.out (fun _ hk => ⟨hk.2, hk.1.2⟩)), (by (with_reducible repeat (first | apply Kd.R_alloc | apply Kd.R_drewN | apply Kd.R_drew)); exact Kd.R_mono HO1019.out (fun _ hk => ⟨hk.1.2, hk.2⟩)), (oK BK1013), (oB HB)⟩)
          · skip
            refine Kd.R_lit_step k74 _ 74 ?hg (N := 10) ?hd (xs := ([(⟨(⟨a1_0, a1_1⟩ : S56), a1_2, a1_3⟩ : S74)] : List (S74))) (inner := [.int .i64 a1_0, .int .i64 a1_1, .int .i64 a1_2, .int .i64 a1_3]) (ok := fun _ => True) (okp := fun _ => True) ?hr ?hp (fun _ hk => hk) trivial (Below.refl _ _) (Nat.le_refl _) (by simp) ?_; (case hd => rfl); (case hg => rfl); (case hr => first | (go_simp; done) | (go_simp; rfl)); (case hp => exact (Reps.c4 (show Kd.M k74 _ _ _ (⟨(⟨a1_0, a1_1⟩ : S56), a1_2, a1_3⟩ : S74) [.int .i64 a1_0, .int .i64 a1_1, .int .i64 a1_2, .int .i64 a1_3] from (k74_mkM _ _ _ (⟨(⟨a1_0, a1_1⟩ : S56), a1_2, a1_3⟩ : S74) )) (Reps.none _ _)))
            intro v1018 w23 ho24 hb hg_ hnew_
            clear hg_ hnew_
            (first | rw [← Ny1017.out] at ho24 | (simp only [Int.reduceToNat] at ho24; rw [← Ny1017.out] at ho24))
            have n0_ := Aside0.mk (Kd.R_lower (Kd.R_newB ho24 (g := gb1013) (o := .cells #[.int .i64 a1_0, .int .i64 a1_1, .int .i64 a1_2, .int .i64 a1_3] 74 (0, 0)) (oK BK1013)) (below_size (oB HB)))
            have n1_ := Aside0.mk (blk_below (g := gb1013) (o := .cells #[.int .i64 a1_0, .int .i64 a1_1, .int .i64 a1_2, .int .i64 a1_3] 74 (0, 0)) (oK BK1013) hb)
            have n2_ := Aside0.mk (below_step (oB HB) hb)
            clear BK1013
            clear HB
            have HO1019 := n0_
            have BK1013 := n1_
            have HB := n2_
            clear n0_ n1_ n2_
            clear hb ho24
            refine hK.out _ _ ⟨(blk_cell BK1013.out 0).trans rfl, (blk_cell BK1013.out 1).trans rfl, (blk_cell BK1013.out 2).trans rfl, (blk_cell BK1013.out 3).trans rfl⟩ (fun hHeld => ?_)
            clear hK K
            refine norm_ (a' := ?_) ?_ ?_
            rotate_left
            · show Act.put _ (some 10) _ = _
              simp only [Act.put, List.setIfInBounds_toArray, List.set_cons_zero, List.set_cons_succ, i64_w, i32_w]
              rfl
            refine one_ (i := 1) (N := some 8) #[true, true, true, true, false, false] rfl rfl (by kernel_rfl) (by decide) (fun K hK => ?_)
            refine goes_ Try.func94 (by kernel_rfl) rfl #[.slice A0 l0.length c0] (by rfl) rfl rfl (by (try simp only [List.map_toArray, List.map_cons, List.map_nil]); first | done | rfl | (simp only [List.length_drop, List.length_take]; rfl)) ?_
            with_reducible refine (impl_copyLog.calls _ _ l0 t1014 _ ?side1 ?side2 A3.out).mono ?_
            (case side1 => exact oc_ HR0.out)
            (case side2 => exact HC0.out)
            rintro e w25 ⟨v1015, rfl, ho0, hb⟩
            refine ⟨_, rfl, ?_⟩
            have n0_ := Aside0.mk (Kd.R_elder' (oR HO1019) (Kd.R_base ho0) hb)
            have n1_ := Aside0.mk (Kd.R_lower (Kd.R_newB (Kd.R_new' ho0 (Kd.R_lt (oR HO1019))) (g := gb1013) (o := .cells #[.int .i64 a1_0, .int .i64 a1_1, .int .i64 a1_2, .int .i64 a1_3] 74 (0, 0)) (oK BK1013)) (below_size (oB HB)))
            have n2_ := Aside0.mk (blk_below (g := gb1013) (o := .cells #[.int .i64 a1_0, .int .i64 a1_1, .int .i64 a1_2, .int .i64 a1_3] 74 (0, 0)) (oK BK1013) hb)
            have n3_ := Aside0.mk (below_step (oB HB) hb)
            clear HO1019
            clear BK1013
            clear HB
            have HO1019 := n0_
            have HO1016 := n1_
            have BK1013 := n2_
            have HB := n3_
            clear n0_ n1_ n2_ n3_
            (try clear hb)
            (try clear hb2)
            (try clear hk)
            (try clear hi)
            (try clear ho0)
            refine hK.out _ _ ⟨(blk_cell BK1013.out 0).trans rfl, (blk_cell BK1013.out 1).trans rfl, (blk_cell BK1013.out 2).trans rfl, (blk_cell BK1013.out 3).trans rfl⟩ (fun hHeld => ?_)
            clear hK K
            refine norm_ (a' := ?_) ?_ ?_
            rotate_left
            · show Act.put _ (some 8) _ = _
              simp only [Act.put, List.setIfInBounds_toArray, List.set_cons_zero, List.set_cons_succ, i64_w, i32_w]
              rfl
            exact norm_ (by simp only [putAll, Act.put, List.setIfInBounds_toArray, List.set_cons_zero, List.set_cons_succ]) (hCont (v1015, v1018) _ ⟨hHeld, (by (with_reducible repeat (first | apply Kd.R_alloc | apply Kd.R_drewN | apply Kd.R_drew)); exact Kd.R_mono HO1016.out (fun _ hk => ⟨hk.1.2, hk.2⟩)), (by (with_reducible repeat (first | apply Kd.R_alloc | apply Kd.R_drewN | apply Kd.R_drew)); exact Kd.R_mono HO1019.out (fun _ hk => ⟨hk.2, hk.1.2⟩)), (oK BK1013), (oB HB)⟩)
        rintro ⟨v1015, v1018⟩ w26 ⟨hS_, h0_, h1_, h2_, h3_⟩
        have n0_ : Aside0 (Kd.R k74 74 w26 w.heap.size (fun k_ => some k_ ≠ (v1018 : Value).ownBlock ∧ k_ ≠ gb1013) v1015 t1014) := ⟨h0_⟩
        have n1_ : Aside0 (Kd.R k74 74 w26 w.heap.size (fun k_ => some k_ ≠ (v1015 : Value).ownBlock ∧ k_ ≠ gb1013) v1018 y1017) := ⟨h1_⟩
        have n2_ : Aside0 (w26.heap[gb1013]? = some (.cells #[.int .i64 a1_0, .int .i64 a1_1, .int .i64 a1_2, .int .i64 a1_3] 74 (0, 0))) := ⟨h2_⟩
        have n3_ : Aside0 (Below w.heap.size w w26) := ⟨h3_⟩
        clear BK1013
        clear HB
        clear h0_ h1_ h2_ h3_
        have HO1016 := n0_
        have HO1019 := n1_
        have BK1013 := n2_
        have HB := n3_
        clear n0_ n1_ n2_ n3_
        have hHeld : w26.cell? ⟨gb1013, 0, none⟩ = some (.int .i64 a1_0) ∧ w26.cell? ⟨gb1013, 1, none⟩ = some (.int .i64 a1_1) ∧ w26.cell? ⟨gb1013, 2, none⟩ = some (.int .i64 a1_2) ∧ w26.cell? ⟨gb1013, 3, none⟩ = some (.int .i64 a1_3) := hS_
        obtain ⟨Ao28, co28, eo28⟩ := Kd.R_slice HO1019.out
        (first | subst eo28 | (injection eo28 with f1_ f2_ f3_; have f4_ := f1_.symm; have f5_ := f3_.symm; clear f1_ f2_ f3_; subst f4_; subst f5_))
        refine norm_ (a' := ?_) ?_ ?_
        rotate_left
        · simp only [putAll, Act.put, List.setIfInBounds_toArray, List.set_cons_zero, List.set_cons_succ]
          rfl
        refine one_ (i := 4) (N := some 11) #[true, true, true, true, true, false] rfl rfl (by kernel_rfl) (by decide) (fun K hK => ?_)
        refine Kd.R_append_rows_step k74 (w0 := w) w.heap.size (by rfl) (.tmp 8) (.tmp 10) 34 74 (.agg #[(.int .i64 0), (.int .i64 0), (.int .i64 0), (.int .i64 0)]) 32 rfl Try.underlying34 info74 rfl (by decide) (by omega) v1015 t1014 y1017 _ _ _ (fun k_ => some k_ ≠ (.slice Ao28 y1017.length co28 : Value).ownBlock ∧ k_ ≠ gb1013) (fun _ => False) rfl rfl ?aO ?aR (fun _ _ h => h) (fun _ h => h.elim) ?aF ?aB ?aS ?aL ?_
        (case aR => repeat (first | exact (Kd.R_reads' HO1019.out).2.2 | (with_reducible refine Kd.C_alloc ?_ _) | (with_reducible refine Kd.C_drewN ?_ _) | (with_reducible refine Kd.C_drew ?_)))
        (case aB => exact (oB HB))
        (case aF => exact (fun k_ hk => ⟨Kd.fresh' (Kd.R_lt (oR HO1019)) k_ hk, Kd.freshB (g := gb1013) (o := .cells #[.int .i64 a1_0, .int .i64 a1_1, .int .i64 a1_2, .int .i64 a1_3] 74 (0, 0)) (oK BK1013) k_ hk⟩))
        (case aO => exact (oR HO1016))
        (case aS => exact (below_size (oB HB)))
        (case aL => have := LMc4.out; omega)
        intro v1021 w27 ho hb hg hat
        rw [← Ny1020.out] at ho
        have n0_ := Aside0.mk (blk_grown (g := gb1013) (o := .cells #[.int .i64 a1_0, .int .i64 a1_1, .int .i64 a1_2, .int .i64 a1_3] 74 (0, 0)) (oK BK1013) hg (Kd.R_away HO1016.out (fun _ hk => hk.2)))
        have n1_ := Aside0.mk (Kd.R_after (ok := (fun k_ => k_ ≠ gb1013)) (by (with_reducible repeat (first | apply Kd.R_alloc | apply Kd.R_drewN | apply Kd.R_drew)); exact Kd.R_mono HO1019.out (fun _ hk => ⟨hk.2, hk.1⟩)) hg hat)
        have n2_ := Aside0.mk (hb)
        have n3_ := Aside0.mk (ho)
        clear BK1013
        clear HO1019
        clear HB
        clear HO1016
        have BK1013 := n0_
        have HO1019 := n1_
        have HB := n2_
        have HO1022 := n3_
        clear n0_ n1_ n2_ n3_
        clear ho hb hg hat
        refine hK.out _ _ ⟨(blk_cell BK1013.out 0).trans rfl, (blk_cell BK1013.out 1).trans rfl, (blk_cell BK1013.out 2).trans rfl, (blk_cell BK1013.out 3).trans rfl⟩ (fun hHeld => ?_)
        clear hK K
        refine norm_ (a' := ?_) ?_ ?_
        rotate_left
        · show Act.put _ (some 11) _ = _
          simp only [Act.put, List.setIfInBounds_toArray, List.set_cons_zero, List.set_cons_succ, i64_w, i32_w]
          rfl
        refine pure_ (i := 5) (N := some 6) (v := ?_) (a' := ?_) #[true, true, true, true, true, true] rfl rfl (by kernel_rfl) (fun _ _ _ h => h) (Or.inl ⟨by rfl, ?_⟩) ?_ ?_
        rotate_left
        · intro w'
          go_simp
          with_reducible rfl
        rotate_left
        · simp only [Act.put, List.setIfInBounds_toArray, List.set_cons_zero, List.set_cons_succ, i64_w, i32_w]
          rfl
        refine done_ (by kernel_rfl) ?_
        try go_wp2_with (first | ((with_reducible refine gate_callee (f := 65) rfl ?_); refine goesL_ (some 13) rfl rfl Try.func65 (by kernel_rfl) rfl #[.slice A0 l0.length c0] rfl (by (try simp only [List.map_toArray, List.map_cons, List.map_nil]); first | done | rfl | (simp only [List.length_drop, List.length_take]; rfl)) ?_; (with_reducible refine (impl_LogOk.calls k _ _ l0 true _ ?side1 ?side2 A5.out).mono ?_); (case side1 => exact oc_ HR0.out); (case side2 => exact HC0.out); rintro e w29 ⟨rfl, hb⟩; refine ⟨_, rfl, ?_⟩; have n0_ := Aside0.mk (Kd.R_below (oR HO1019) hb); have n1_ := Aside0.mk (Kd.R_below (oR HO1022) hb); have n2_ := Aside0.mk (blk_below (g := gb1013) (o := .cells #[.int .i64 a1_0, .int .i64 a1_1, .int .i64 a1_2, .int .i64 a1_3] 74 (0, 0)) (oK BK1013) hb); have n3_ := Aside0.mk (below_step (oB HB) hb); clear HO1019; clear HO1022; clear BK1013; clear HB; have HO1019 := n0_; have HO1022 := n1_; have BK1013 := n2_; have HB := n3_; clear n0_ n1_ n2_ n3_; (try clear hb); (try clear hb2); (try clear hk); (try clear hi); obtain ⟨Ao30, co30, eo30⟩ := Kd.R_slice HO1022.out; subst eo30) | (go_at_call 65; (with_reducible refine (impl_LogOk.calls k _ _ y1020 false _ ?side1 ?side2 A7.out).mono ?_); (case side1 => repeat (first | exact (Kd.R_reads' HO1022.out).2.2 | (with_reducible refine Kd.C_alloc ?_ _) | (with_reducible refine Kd.C_drewN ?_ _) | (with_reducible refine Kd.C_drew ?_))); (case side2 => exact (Kd.R_reads' HO1022.out).2.1); rintro e w31 ⟨rfl, hb⟩; have n0_ := Aside0.mk (Kd.R_below (oR HO1019) hb); have n1_ := Aside0.mk (Kd.R_below (oR HO1022) hb); have n2_ := Aside0.mk (blk_below (g := gb1013) (o := .cells #[.int .i64 a1_0, .int .i64 a1_1, .int .i64 a1_2, .int .i64 a1_3] 74 (0, 0)) (oK BK1013) hb); have n3_ := Aside0.mk (below_step (oB HB) hb); clear HO1019; clear HO1022; clear BK1013; clear HB; have HO1019 := n0_; have HO1022 := n1_; have BK1013 := n2_; have HB := n3_; clear n0_ n1_ n2_ n3_; (try clear hb); (try clear hb2); (try clear hk); (try clear hi)) | ((with_reducible refine gate_callee (f := 94) rfl ?_); refine goesL_ (some 21) rfl rfl Try.func94 (by kernel_rfl) rfl #[.slice A0 l0.length c0] rfl (by (try simp only [List.map_toArray, List.map_cons, List.map_nil]); first | done | rfl | (simp only [List.length_drop, List.length_take]; rfl)) ?_; (with_reducible refine (impl_copyLog.calls _ _ l0 t1025 _ ?side1 ?side2 A20.out).mono ?_); (case side1 => exact oc_ HR0.out); (case side2 => exact HC0.out); rintro e w32 ⟨v1026, rfl, ho0, hb⟩; refine ⟨_, rfl, ?_⟩; have n0_ := Aside0.mk (Kd.R_elder' (oR HO1019) (Kd.R_base ho0) hb); have n1_ := Aside0.mk (Kd.R_elder' (oR HO1022) (Kd.R_base ho0) hb); have n2_ := Aside0.mk (Kd.R_lower (Kd.R_newB (Kd.R_new' (Kd.R_new' ho0 (Kd.R_lt (oR HO1019))) (Kd.R_lt (oR HO1022))) (g := gb1013) (o := .cells #[.int .i64 a1_0, .int .i64 a1_1, .int .i64 a1_2, .int .i64 a1_3] 74 (0, 0)) (oK BK1013)) (below_size (oB HB))); have n3_ := Aside0.mk (blk_below (g := gb1013) (o := .cells #[.int .i64 a1_0, .int .i64 a1_1, .int .i64 a1_2, .int .i64 a1_3] 74 (0, 0)) (oK BK1013) hb); have n4_ := Aside0.mk (below_step (oB HB) hb); clear HO1019; clear HO1022; clear BK1013; clear HB; have HO1019 := n0_; have HO1022 := n1_; have HO1027 := n2_; have BK1013 := n3_; have HB := n4_; clear n0_ n1_ n2_ n3_ n4_; (try clear hb); (try clear hb2); (try clear hk); (try clear hi); (try clear ho0)))
        go_ret2
        exact ⟨_, by first | rfl | (simp [errW_none, errW_some] <;> rfl) | (simp [*, errW_none, errW_some] <;> rfl), by (with_reducible repeat (first | apply Kd.R_alloc | apply Kd.R_drewN | apply Kd.R_drew)); exact Kd.R_mono HO1027.out (fun _ hk => trivial), oB HB⟩
    · replace c6 := Bool.eq_false_iff.mpr c6
      subst c6
      rw [if_neg (show ¬ (false = true) by decide)] at H
      replace H := Option.bind_eq_some_iff.mp H
      obtain ⟨t1028, A330, H⟩ := H
      (try dsimp only at H)
      have A33 := Aside0.mk A330
      clear A330
      simp only [Option.some.injEq, Prod.mk.injEq] at H
      obtain ⟨rfl, rfl⟩ := H
      go_enter Try.func51, Try.ntmps51
      try go_wp2_with (first | ((with_reducible refine gate_dst (N := 3) rfl ?_); refine box_event ?hg (N := 3) ?hd (cs := #[.int .i64 a1_0, .int .i64 a1_1, .int .i64 a1_2, .int .i64 a1_3]) (t := 74) ?hr ?_; (case hd => rfl); (case hg => rfl); (case hr => first | (go_simp; done) | (go_simp; rfl)); intro gb1013 hg w34 hbox hb; have n0_ := Aside0.mk (below_step (oB HB) hb); have n1_ := Aside0.mk (hbox); have n2_ := Aside0.mk ((by rw [hg]; exact (below_size (oB HB)) : w.heap.size ≤ gb1013)); have n3_ := Aside0.mk ((by rw [hg]; exact (below_size (oB HB)) : w.heap.size ≤ gb1013)); clear HB; have HB := n0_; have BK1013 := n1_; have GW1013 := n2_; have GE1013 := n3_; clear n0_ n1_ n2_ n3_; clear hb hbox hg))
      have n0_ := Aside0.mk (blk_drew BK1013.out)
      have n1_ := Aside0.mk (below_drew1 HB.out)
      clear BK1013
      clear HB
      have BK1013 := n0_
      have HB := n1_
      clear n0_ n1_
      refine start_ (n := 6) (S := fun w' => w'.cell? ⟨gb1013, 0, none⟩ = some (.int .i64 a1_0) ∧ w'.cell? ⟨gb1013, 1, none⟩ = some (.int .i64 a1_1) ∧ w'.cell? ⟨gb1013, 2, none⟩ = some (.int .i64 a1_2) ∧ w'.cell? ⟨gb1013, 3, none⟩ = some (.int .i64 a1_3)) (ds := []) #[false, false, false, false, false, false] (by kernel_rfl) rfl rfl ⟨(blk_cell BK1013.out 0).trans rfl, (blk_cell BK1013.out 1).trans rfl, (blk_cell BK1013.out 2).trans rfl, (blk_cell BK1013.out 3).trans rfl⟩ (fun hHeld => ?_)
      generalize w34.drew = w35 at BK1013 HB hHeld ⊢
      refine pure_ (i := 0) (N := some 7) (v := ?_) (a' := ?_) #[true, false, false, false, false, false] rfl rfl (by kernel_rfl) (fun _ _ _ h => h) (Or.inl ⟨by rfl, ?_⟩) ?_ ?_
      rotate_left
      · intro w'
        go_simp
        with_reducible rfl
      rotate_left
      · simp only [Act.put, List.setIfInBounds_toArray, List.set_cons_zero, List.set_cons_succ, i64_w, i32_w]
        rfl
      refine take_ (i := 2) (N := some 9) (v := ?_) (a' := ?_) #[true, false, true, false, false, false] rfl rfl (by kernel_rfl) (fun _ _ _ h => h) (Or.inl ⟨by rfl, ?_⟩) hHeld ?_ ?_
      rotate_left
      · rintro w' ⟨s0, s1, s2, s3⟩
        go_simp
        with_reducible rfl
      rotate_left
      · simp only [Act.put, List.setIfInBounds_toArray, List.set_cons_zero, List.set_cons_succ, i64_w, i32_w]
        rfl
      refine join_ (σ := Value × Value) 2 #[true, true, true, true, false, false] (fun s_ => [(8, s_.1), (10, s_.2)]) (fun s_ w' => (w'.cell? ⟨gb1013, 0, none⟩ = some (.int .i64 a1_0) ∧ w'.cell? ⟨gb1013, 1, none⟩ = some (.int .i64 a1_1) ∧ w'.cell? ⟨gb1013, 2, none⟩ = some (.int .i64 a1_2) ∧ w'.cell? ⟨gb1013, 3, none⟩ = some (.int .i64 a1_3)) ∧ (Kd.R k74 74 w' w.heap.size (fun k_ => some k_ ≠ (s_.2 : Value).ownBlock ∧ k_ ≠ gb1013) s_.1 t1014) ∧ (Kd.R k74 74 w' w.heap.size (fun k_ => some k_ ≠ (s_.1 : Value).ownBlock ∧ k_ ≠ gb1013) s_.2 y1017) ∧ (w'.heap[gb1013]? = some (.cells #[.int .i64 a1_0, .int .i64 a1_1, .int .i64 a1_2, .int .i64 a1_3] 74 (0, 0))) ∧ (Below w.heap.size w w')) ?_ ?_
      rotate_left
      · intro hCont
        refine two_ (i := 1) (j := 3) (Ni := some 8) (Nj := some 10) #[true, true, true, false, false, false] #[true, false, true, true, false, false] rfl rfl rfl rfl (by kernel_rfl) (by decide) (by decide) (fun K hK => ?_) (fun K hK => ?_)
        · skip
          refine goes_ Try.func94 (by kernel_rfl) rfl #[.slice A0 l0.length c0] (by rfl) rfl rfl (by (try simp only [List.map_toArray, List.map_cons, List.map_nil]); first | done | rfl | (simp only [List.length_drop, List.length_take]; rfl)) ?_
          with_reducible refine (impl_copyLog.calls _ _ l0 t1014 _ ?side1 ?side2 A3.out).mono ?_
          (case side1 => exact oc_ HR0.out)
          (case side2 => exact HC0.out)
          rintro e w36 ⟨v1015, rfl, ho0, hb⟩
          refine ⟨_, rfl, ?_⟩
          have n0_ := Aside0.mk (Kd.R_lower (Kd.R_newB ho0 (g := gb1013) (o := .cells #[.int .i64 a1_0, .int .i64 a1_1, .int .i64 a1_2, .int .i64 a1_3] 74 (0, 0)) (oK BK1013)) (below_size (oB HB)))
          have n1_ := Aside0.mk (blk_below (g := gb1013) (o := .cells #[.int .i64 a1_0, .int .i64 a1_1, .int .i64 a1_2, .int .i64 a1_3] 74 (0, 0)) (oK BK1013) hb)
          have n2_ := Aside0.mk (below_step (oB HB) hb)
          clear BK1013
          clear HB
          have HO1016 := n0_
          have BK1013 := n1_
          have HB := n2_
          clear n0_ n1_ n2_
          (try clear hb)
          (try clear hb2)
          (try clear hk)
          (try clear hi)
          (try clear ho0)
          refine hK.out _ _ ⟨(blk_cell BK1013.out 0).trans rfl, (blk_cell BK1013.out 1).trans rfl, (blk_cell BK1013.out 2).trans rfl, (blk_cell BK1013.out 3).trans rfl⟩ (fun hHeld => ?_)
          clear hK K
          refine norm_ (a' := ?_) ?_ ?_
          rotate_left
          · show Act.put _ (some 8) _ = _
            simp only [Act.put, List.setIfInBounds_toArray, List.set_cons_zero, List.set_cons_succ, i64_w, i32_w]
            rfl
          refine one_ (i := 3) (N := some 10) #[true, true, true, true, false, false] rfl rfl (by kernel_rfl) (by decide) (fun K hK => ?_)
          refine Kd.R_lit_step k74 _ 74 ?hg (N := 10) ?hd (xs := ([(⟨(⟨a1_0, a1_1⟩ : S56), a1_2, a1_3⟩ : S74)] : List (S74))) (inner := [.int .i64 a1_0, .int .i64 a1_1, .int .i64 a1_2, .int .i64 a1_3]) (ok := fun _ => True) (okp := fun _ => True) ?hr ?hp (fun _ hk => hk) trivial (Below.refl _ _) (Nat.le_refl _) (by simp) ?_; (case hd => rfl); (case hg => rfl); (case hr => first | (go_simp; done) | (go_simp; rfl)); (case hp => exact (Reps.c4 (show Kd.M k74 _ _ _ (⟨(⟨a1_0, a1_1⟩ : S56), a1_2, a1_3⟩ : S74) [.int .i64 a1_0, .int .i64 a1_1, .int .i64 a1_2, .int .i64 a1_3] from (k74_mkM _ _ _ (⟨(⟨a1_0, a1_1⟩ : S56), a1_2, a1_3⟩ : S74) )) (Reps.none _ _)))
          intro v1018 w37 ho38 hb hg_ hnew_
          clear hg_ hnew_
          (first | rw [← Ny1017.out] at ho38 | (simp only [Int.reduceToNat] at ho38; rw [← Ny1017.out] at ho38))
          have n0_ := Aside0.mk (Kd.R_elder' (oR HO1016) (Kd.R_base ho38) hb)
          have n1_ := Aside0.mk (Kd.R_lower (Kd.R_newB (Kd.R_new' ho38 (Kd.R_lt (oR HO1016))) (g := gb1013) (o := .cells #[.int .i64 a1_0, .int .i64 a1_1, .int .i64 a1_2, .int .i64 a1_3] 74 (0, 0)) (oK BK1013)) (below_size (oB HB)))
          have n2_ := Aside0.mk (blk_below (g := gb1013) (o := .cells #[.int .i64 a1_0, .int .i64 a1_1, .int .i64 a1_2, .int .i64 a1_3] 74 (0, 0)) (oK BK1013) hb)
          have n3_ := Aside0.mk (below_step (oB HB) hb)
          clear HO1016
          clear BK1013
          clear HB
          have HO1016 := n0_
          have HO1019 := n1_
          have BK1013 := n2_
          have HB := n3_
          clear n0_ n1_ n2_ n3_
          clear hb ho38
          refine hK.out _ _ ⟨(blk_cell BK1013.out 0).trans rfl, (blk_cell BK1013.out 1).trans rfl, (blk_cell BK1013.out 2).trans rfl, (blk_cell BK1013.out 3).trans rfl⟩ (fun hHeld => ?_)
          clear hK K
          refine norm_ (a' := ?_) ?_ ?_
          rotate_left
          · show Act.put _ (some 10) _ = _
            simp only [Act.put, List.setIfInBounds_toArray, List.set_cons_zero, List.set_cons_succ, i64_w, i32_w]
            rfl
          exact norm_ (by simp only [putAll, Act.put, List.setIfInBounds_toArray, List.set_cons_zero, List.set_cons_succ]) (hCont (v1015, v1018) _ ⟨hHeld, (by (with_reducible repeat (first | apply Kd.R_alloc | apply Kd.R_drewN | apply Kd.R_drew)); exact Kd.R_mono HO1016.out (fun _ hk => ⟨hk.2, hk.1.2⟩)), (by (with_reducible repeat (first | apply Kd.R_alloc | apply Kd.R_drewN | apply Kd.R_drew)); exact Kd.R_mono HO1019.out (fun _ hk => ⟨hk.1.2, hk.2⟩)), (oK BK1013), (oB HB)⟩)
        · skip
          refine Kd.R_lit_step k74 _ 74 ?hg (N := 10) ?hd (xs := ([(⟨(⟨a1_0, a1_1⟩ : S56), a1_2, a1_3⟩ : S74)] : List (S74))) (inner := [.int .i64 a1_0, .int .i64 a1_1, .int .i64 a1_2, .int .i64 a1_3]) (ok := fun _ => True) (okp := fun _ => True) ?hr ?hp (fun _ hk => hk) trivial (Below.refl _ _) (Nat.le_refl _) (by simp) ?_; (case hd => rfl); (case hg => rfl); (case hr => first | (go_simp; done) | (go_simp; rfl)); (case hp => exact (Reps.c4 (show Kd.M k74 _ _ _ (⟨(⟨a1_0, a1_1⟩ : S56), a1_2, a1_3⟩ : S74) [.int .i64 a1_0, .int .i64 a1_1, .int .i64 a1_2, .int .i64 a1_3] from (k74_mkM _ _ _ (⟨(⟨a1_0, a1_1⟩ : S56), a1_2, a1_3⟩ : S74) )) (Reps.none _ _)))
          intro v1018 w36 ho37 hb hg_ hnew_
          clear hg_ hnew_
          (first | rw [← Ny1017.out] at ho37 | (simp only [Int.reduceToNat] at ho37; rw [← Ny1017.out] at ho37))
          have n0_ := Aside0.mk (Kd.R_lower (Kd.R_newB ho37 (g := gb1013) (o := .cells #[.int .i64 a1_0, .int .i64 a1_1, .int .i64 a1_2, .int .i64 a1_3] 74 (0, 0)) (oK BK1013)) (below_size (oB HB)))
          have n1_ := Aside0.mk (blk_below (g := gb1013) (o := .cells #[.int .i64 a1_0, .int .i64 a1_1, .int .i64 a1_2, .int .i64 a1_3] 74 (0, 0)) (oK BK1013) hb)
          have n2_ := Aside0.mk (below_step (oB HB) hb)
          clear BK1013
          clear HB
          have HO1019 := n0_
          have BK1013 := n1_
          have HB := n2_
          clear n0_ n1_ n2_
          clear hb ho37
          refine hK.out _ _ ⟨(blk_cell BK1013.out 0).trans rfl, (blk_cell BK1013.out 1).trans rfl, (blk_cell BK1013.out 2).trans rfl, (blk_cell BK1013.out 3).trans rfl⟩ (fun hHeld => ?_)
          clear hK K
          refine norm_ (a' := ?_) ?_ ?_
          rotate_left
          · show Act.put _ (some 10) _ = _
            simp only [Act.put, List.setIfInBounds_toArray, List.set_cons_zero, List.set_cons_succ, i64_w, i32_w]
            rfl
          refine one_ (i := 1) (N := some 8) #[true, true, true, true, false, false] rfl rfl (by kernel_rfl) (by decide) (fun K hK => ?_)
          refine goes_ Try.func94 (by kernel_rfl) rfl #[.slice A0 l0.length c0] (by rfl) rfl rfl (by (try simp only [List.map_toArray, List.map_cons, List.map_nil]); first | done | rfl | (simp only [List.length_drop, List.length_take]; rfl)) ?_
          with_reducible refine (impl_copyLog.calls _ _ l0 t1014 _ ?side1 ?side2 A3.out).mono ?_
          (case side1 => exact oc_ HR0.out)
          (case side2 => exact HC0.out)
          rintro e w38 ⟨v1015, rfl, ho0, hb⟩
          refine ⟨_, rfl, ?_⟩
          have n0_ := Aside0.mk (Kd.R_elder' (oR HO1019) (Kd.R_base ho0) hb)
          have n1_ := Aside0.mk (Kd.R_lower (Kd.R_newB (Kd.R_new' ho0 (Kd.R_lt (oR HO1019))) (g := gb1013) (o := .cells #[.int .i64 a1_0, .int .i64 a1_1, .int .i64 a1_2, .int .i64 a1_3] 74 (0, 0)) (oK BK1013)) (below_size (oB HB)))
          have n2_ := Aside0.mk (blk_below (g := gb1013) (o := .cells #[.int .i64 a1_0, .int .i64 a1_1, .int .i64 a1_2, .int .i64 a1_3] 74 (0, 0)) (oK BK1013) hb)
          have n3_ := Aside0.mk (below_step (oB HB) hb)
          clear HO1019
          clear BK1013
          clear HB
          have HO1019 := n0_
          have HO1016 := n1_
          have BK1013 := n2_
          have HB := n3_
          clear n0_ n1_ n2_ n3_
          (try clear hb)
          (try clear hb2)
          (try clear hk)
          (try clear hi)
          (try clear ho0)
          refine hK.out _ _ ⟨(blk_cell BK1013.out 0).trans rfl, (blk_cell BK1013.out 1).trans rfl, (blk_cell BK1013.out 2).trans rfl, (blk_cell BK1013.out 3).trans rfl⟩ (fun hHeld => ?_)
          clear hK K
          refine norm_ (a' := ?_) ?_ ?_
          rotate_left
          · show Act.put _ (some 8) _ = _
            simp only [Act.put, List.setIfInBounds_toArray, List.set_cons_zero, List.set_cons_succ, i64_w, i32_w]
            rfl
          exact norm_ (by simp only [putAll, Act.put, List.setIfInBounds_toArray, List.set_cons_zero, List.set_cons_succ]) (hCont (v1015, v1018) _ ⟨hHeld, (by (with_reducible repeat (first | apply Kd.R_alloc | apply Kd.R_drewN | apply Kd.R_drew)); exact Kd.R_mono HO1016.out (fun _ hk => ⟨hk.1.2, hk.2⟩)), (by (with_reducible repeat (first | apply Kd.R_alloc | apply Kd.R_drewN | apply Kd.R_drew)); exact Kd.R_mono HO1019.out (fun _ hk => ⟨hk.2, hk.1.2⟩)), (oK BK1013), (oB HB)⟩)
      rintro ⟨v1015, v1018⟩ w39 ⟨hS_, h0_, h1_, h2_, h3_⟩
      have n0_ : Aside0 (Kd.R k74 74 w39 w.heap.size (fun k_ => some k_ ≠ (v1018 : Value).ownBlock ∧ k_ ≠ gb1013) v1015 t1014) := ⟨h0_⟩
      have n1_ : Aside0 (Kd.R k74 74 w39 w.heap.size (fun k_ => some k_ ≠ (v1015 : Value).ownBlock ∧ k_ ≠ gb1013) v1018 y1017) := ⟨h1_⟩
      have n2_ : Aside0 (w39.heap[gb1013]? = some (.cells #[.int .i64 a1_0, .int .i64 a1_1, .int .i64 a1_2, .int .i64 a1_3] 74 (0, 0))) := ⟨h2_⟩
      have n3_ : Aside0 (Below w.heap.size w w39) := ⟨h3_⟩
      clear BK1013
      clear HB
      clear h0_ h1_ h2_ h3_
      have HO1016 := n0_
      have HO1019 := n1_
      have BK1013 := n2_
      have HB := n3_
      clear n0_ n1_ n2_ n3_
      have hHeld : w39.cell? ⟨gb1013, 0, none⟩ = some (.int .i64 a1_0) ∧ w39.cell? ⟨gb1013, 1, none⟩ = some (.int .i64 a1_1) ∧ w39.cell? ⟨gb1013, 2, none⟩ = some (.int .i64 a1_2) ∧ w39.cell? ⟨gb1013, 3, none⟩ = some (.int .i64 a1_3) := hS_
      obtain ⟨Ao41, co41, eo41⟩ := Kd.R_slice HO1019.out
      (first | subst eo41 | (injection eo41 with f1_ f2_ f3_; have f4_ := f1_.symm; have f5_ := f3_.symm; clear f1_ f2_ f3_; subst f4_; subst f5_))
      refine norm_ (a' := ?_) ?_ ?_
      rotate_left
      · simp only [putAll, Act.put, List.setIfInBounds_toArray, List.set_cons_zero, List.set_cons_succ]
        rfl
      refine one_ (i := 4) (N := some 11) #[true, true, true, true, true, false] rfl rfl (by kernel_rfl) (by decide) (fun K hK => ?_)
      refine Kd.R_append_rows_step k74 (w0 := w) w.heap.size (by rfl) (.tmp 8) (.tmp 10) 34 74 (.agg #[(.int .i64 0), (.int .i64 0), (.int .i64 0), (.int .i64 0)]) 32 rfl Try.underlying34 info74 rfl (by decide) (by omega) v1015 t1014 y1017 _ _ _ (fun k_ => some k_ ≠ (.slice Ao41 y1017.length co41 : Value).ownBlock ∧ k_ ≠ gb1013) (fun _ => False) rfl rfl ?aO ?aR (fun _ _ h => h) (fun _ h => h.elim) ?aF ?aB ?aS ?aL ?_
      (case aR => repeat (first | exact (Kd.R_reads' HO1019.out).2.2 | (with_reducible refine Kd.C_alloc ?_ _) | (with_reducible refine Kd.C_drewN ?_ _) | (with_reducible refine Kd.C_drew ?_)))
      (case aB => exact (oB HB))
      (case aF => exact (fun k_ hk => ⟨Kd.fresh' (Kd.R_lt (oR HO1019)) k_ hk, Kd.freshB (g := gb1013) (o := .cells #[.int .i64 a1_0, .int .i64 a1_1, .int .i64 a1_2, .int .i64 a1_3] 74 (0, 0)) (oK BK1013) k_ hk⟩))
      (case aO => exact (oR HO1016))
      (case aS => exact (below_size (oB HB)))
      (case aL => have := LMc4.out; omega)
      intro v1021 w40 ho hb hg hat
      rw [← Ny1020.out] at ho
      have n0_ := Aside0.mk (blk_grown (g := gb1013) (o := .cells #[.int .i64 a1_0, .int .i64 a1_1, .int .i64 a1_2, .int .i64 a1_3] 74 (0, 0)) (oK BK1013) hg (Kd.R_away HO1016.out (fun _ hk => hk.2)))
      have n1_ := Aside0.mk (Kd.R_after (ok := (fun k_ => k_ ≠ gb1013)) (by (with_reducible repeat (first | apply Kd.R_alloc | apply Kd.R_drewN | apply Kd.R_drew)); exact Kd.R_mono HO1019.out (fun _ hk => ⟨hk.2, hk.1⟩)) hg hat)
      have n2_ := Aside0.mk (hb)
      have n3_ := Aside0.mk (ho)
      clear BK1013
      clear HO1019
      clear HB
      clear HO1016
      have BK1013 := n0_
      have HO1019 := n1_
      have HB := n2_
      have HO1022 := n3_
      clear n0_ n1_ n2_ n3_
      clear ho hb hg hat
      refine hK.out _ _ ⟨(blk_cell BK1013.out 0).trans rfl, (blk_cell BK1013.out 1).trans rfl, (blk_cell BK1013.out 2).trans rfl, (blk_cell BK1013.out 3).trans rfl⟩ (fun hHeld => ?_)
      clear hK K
      refine norm_ (a' := ?_) ?_ ?_
      rotate_left
      · show Act.put _ (some 11) _ = _
        simp only [Act.put, List.setIfInBounds_toArray, List.set_cons_zero, List.set_cons_succ, i64_w, i32_w]
        rfl
      refine pure_ (i := 5) (N := some 6) (v := ?_) (a' := ?_) #[true, true, true, true, true, true] rfl rfl (by kernel_rfl) (fun _ _ _ h => h) (Or.inl ⟨by rfl, ?_⟩) ?_ ?_
      rotate_left
      · intro w'
        go_simp
        with_reducible rfl
      rotate_left
      · simp only [Act.put, List.setIfInBounds_toArray, List.set_cons_zero, List.set_cons_succ, i64_w, i32_w]
        rfl
      refine done_ (by kernel_rfl) ?_
      try go_wp2_with (first | ((with_reducible refine gate_callee (f := 65) rfl ?_); refine goesL_ (some 13) rfl rfl Try.func65 (by kernel_rfl) rfl #[.slice A0 l0.length c0] rfl (by (try simp only [List.map_toArray, List.map_cons, List.map_nil]); first | done | rfl | (simp only [List.length_drop, List.length_take]; rfl)) ?_; (with_reducible refine (impl_LogOk.calls k _ _ l0 false _ ?side1 ?side2 A5.out).mono ?_); (case side1 => exact oc_ HR0.out); (case side2 => exact HC0.out); rintro e w42 ⟨rfl, hb⟩; refine ⟨_, rfl, ?_⟩; have n0_ := Aside0.mk (Kd.R_below (oR HO1019) hb); have n1_ := Aside0.mk (Kd.R_below (oR HO1022) hb); have n2_ := Aside0.mk (blk_below (g := gb1013) (o := .cells #[.int .i64 a1_0, .int .i64 a1_1, .int .i64 a1_2, .int .i64 a1_3] 74 (0, 0)) (oK BK1013) hb); have n3_ := Aside0.mk (below_step (oB HB) hb); clear HO1019; clear HO1022; clear BK1013; clear HB; have HO1019 := n0_; have HO1022 := n1_; have BK1013 := n2_; have HB := n3_; clear n0_ n1_ n2_ n3_; (try clear hb); (try clear hb2); (try clear hk); (try clear hi)) | ((with_reducible refine gate_callee (f := 94) rfl ?_); refine goesL_ (some 21) rfl rfl Try.func94 (by kernel_rfl) rfl #[.slice A0 l0.length c0] rfl (by (try simp only [List.map_toArray, List.map_cons, List.map_nil]); first | done | rfl | (simp only [List.length_drop, List.length_take]; rfl)) ?_; (with_reducible refine (impl_copyLog.calls _ _ l0 t1028 _ ?side1 ?side2 A33.out).mono ?_); (case side1 => exact oc_ HR0.out); (case side2 => exact HC0.out); rintro e w43 ⟨v1029, rfl, ho0, hb⟩; refine ⟨_, rfl, ?_⟩; have n0_ := Aside0.mk (Kd.R_elder' (oR HO1019) (Kd.R_base ho0) hb); have n1_ := Aside0.mk (Kd.R_elder' (oR HO1022) (Kd.R_base ho0) hb); have n2_ := Aside0.mk (Kd.R_lower (Kd.R_newB (Kd.R_new' (Kd.R_new' ho0 (Kd.R_lt (oR HO1019))) (Kd.R_lt (oR HO1022))) (g := gb1013) (o := .cells #[.int .i64 a1_0, .int .i64 a1_1, .int .i64 a1_2, .int .i64 a1_3] 74 (0, 0)) (oK BK1013)) (below_size (oB HB))); have n3_ := Aside0.mk (blk_below (g := gb1013) (o := .cells #[.int .i64 a1_0, .int .i64 a1_1, .int .i64 a1_2, .int .i64 a1_3] 74 (0, 0)) (oK BK1013) hb); have n4_ := Aside0.mk (below_step (oB HB) hb); clear HO1019; clear HO1022; clear BK1013; clear HB; have HO1019 := n0_; have HO1022 := n1_; have HO1030 := n2_; have BK1013 := n3_; have HB := n4_; clear n0_ n1_ n2_ n3_ n4_; (try clear hb); (try clear hb2); (try clear hk); (try clear hi); (try clear ho0)))
      go_ret2
      exact ⟨_, by first | rfl | (simp [errW_none, errW_some] <;> rfl) | (simp [*, errW_none, errW_some] <;> rfl), by (with_reducible repeat (first | apply Kd.R_alloc | apply Kd.R_drewN | apply Kd.R_drew)); exact Kd.R_mono HO1030.out (fun _ hk => trivial), oB HB⟩
  · rw [if_neg c4] at H
    exact absurd H (by simp)
end Go.Proofs.Ytbkkpllejgedcaa.P


namespace Go.Proofs.Ytbkkpllejgedcaa.P
open Go.RowKit Go.Proofs.YtbkkpllejgedcaaW.PrintWords Go.Proofs.YtbkkpllejgedcaaW.PrintLast Go.Proofs.YtbkkpllejgedcaaW.PrintMore Go.Proofs.Ytbkkpllejgedcaa.V
attribute [local go_sem] cell_b frozen_b
attribute [local go_sem] max2_int min2_int max_two min_two max_three min_three max_four min_four
set_option linter.unusedVariables false
set_option linter.unusedSimpArgs false
def impl_ShopFault.f (k : Nat) (l0_0 : List (S96)) (a0_1 : Int) (l0_2 : List Int) (a0_3 : Int) (a0_4 : Int) (l0_5 : List (S74)) (a1_0 : Int) (a1_1 : Int) (a2 : Int) : Option ((List (S96)) × Int × List Int × Int × Int × (List (S74)) × Bool) := (impl_copyShop.f l0_0 a0_1 l0_2 a0_3 a0_4 l0_5).bind fun bt1034 => ((impl_ShopOk.f k l0_0 a0_1 l0_2 a0_3 a0_4 l0_5).bind fun t1047 => (if t1047 = true then ((impl_AddEntry.f k l0_5 a1_0 a1_1 a2 a0_4).bind fun bt1048 => (if bt1048.2 = true then (some (bt1034.1, bt1034.2.1, bt1034.2.2.1, bt1034.2.2.2.1, bt1034.2.2.2.2.1, bt1048.1, true)) else (some (bt1034.1, bt1034.2.1, bt1034.2.2.1, bt1034.2.2.2.1, bt1034.2.2.2.2.1, bt1034.2.2.2.2.2, false)))) else (some (bt1034.1, bt1034.2.1, bt1034.2.2.1, bt1034.2.2.2.1, bt1034.2.2.2.2.1, bt1034.2.2.2.2.2, false))))
set_option maxHeartbeats 8000000 in
set_option maxRecDepth 100000 in
set_option synthInstance.maxHeartbeats 400000 in
set_option synthInstance.maxSize 100000 in
theorem impl_ShopFault.calls (k : Nat) (A0_0 : Option Addr) (c0_0 : Nat) (l0_0 : List (S96)) (a0_1 : Int) (A0_2 : Option Addr) (c0_2 : Nat) (l0_2 : List Int) (a0_3 : Int) (a0_4 : Int) (A0_5 : Option Addr) (c0_5 : Nat) (l0_5 : List (S74)) (a1_0 : Int) (a1_1 : Int) (a2 : Int) (r1 : List (S96)) (r2 : Int) (r3 : List Int) (r4 : Int) (r5 : Int) (r6 : List (S74)) (r7 : Bool) (w : World) (hr0_0 : Kd.C k96 w A0_0 l0_0.length l0_0) (hc0_0 : l0_0.length ≤ c0_0) (hr0_2 : Kd.C (Kd.int .i64) w A0_2 l0_2.length l0_2) (hc0_2 : l0_2.length ≤ c0_2) (hr0_5 : Kd.C k74 w A0_5 l0_5.length l0_5) (hc0_5 : l0_5.length ≤ c0_5) (h : impl_ShopFault.f k l0_0 a0_1 l0_2 a0_3 a0_4 l0_5 a1_0 a1_1 a2 = some (r1, r2, r3, r4, r5, r6, r7)) :
    Calls Try.prog 38 #[.agg #[.slice A0_0 l0_0.length c0_0, .int .i64 a0_1, .slice A0_2 l0_2.length c0_2, .int .i64 a0_3, .int .i64 a0_4, .slice A0_5 l0_5.length c0_5], .agg #[.int .i64 a1_0, .int .i64 a1_1], .int .i64 a2] w fun e w' => ∃ v0_ v2_ v5_ : Value, e = .returned (.tuple #[.agg #[v0_, .int .i64 r2, v2_, .int .i64 r4, .int .i64 r5, v5_], .bool r7]) ∧ Kd.R k96 96 w' w.heap.size (fun _ => True) v0_ r1 ∧ Kd.R (Kd.int .i64) 3 w' w.heap.size (fun _ => True) v2_ r3 ∧ Kd.R k74 74 w' w.heap.size (fun _ => True) v5_ r6 ∧ Below w.heap.size w w' := by
  have ihr0_0 := RdE.mk hr0_0
  have ihc0_0 := LeI.mk hc0_0
  have ihr0_2 := RdE.mk hr0_2
  have ihc0_2 := LeI.mk hc0_2
  have ihr0_5 := RdE.mk hr0_5
  have ihc0_5 := LeI.mk hc0_5
  clear hr0_0 hc0_0 hr0_2 hc0_2 hr0_5 hc0_5
  unfold impl_ShopFault.f at h
  have hu36 := Try.underlying36
  have hu56 := Try.underlying56
  (repeat' first | ((with_reducible replace h := ite_some h); rcases h with ⟨hc, h⟩ | ⟨hc, h⟩ <;> first | exact (none_some h).elim | exact absurd hc (by decide) | subst hc | (replace hc := Bool.eq_false_iff.mpr hc; subst hc) | (have hd := beq_iff_eq.mpr hc; have he := bne_eq_false_iff_eq.mpr hc; clear hc) | (have hd := beq_eq_false_iff_ne.mpr hc; have he := bne_iff_ne.mpr hc) | (have hd := decide_eq_false hc) | (have hd := decide_eq_true hc) | skip))
  all_goals go_enter Try.func38, Try.ntmps38
  all_goals go_wp2_with (first
    | ((with_reducible refine gate_dst (N := 3) rfl ?_); refine box_event rfl (N := 3) rfl (cs := #[.slice A0_0 l0_0.length c0_0, .int .i64 a0_1, .slice A0_2 l0_2.length c0_2, .int .i64 a0_3, .int .i64 a0_4, .slice A0_5 l0_5.length c0_5]) (t := 36) (by first | (go_simp; done) | (go_simp; rfl)) ?_; intro g hg w1 hk hb; have j1 := Born.mk hg; have j2 := Bel.mk hb; have j3 := Blk.mk hk; clear hg hb hk)
    | ((with_reducible refine gate_dst (N := 4) rfl ?_); refine box_event rfl (N := 4) rfl (cs := #[.int .i64 a1_0, .int .i64 a1_1]) (t := 56) (by first | (go_simp; done) | (go_simp; rfl)) ?_; intro g hg w1 hk hb; have j1 := Born.mk hg; have j2 := Bel.mk hb; have j3 := Blk.mk hk; clear hg hb hk)
    | ((with_reducible refine gate_dst (N := 6) rfl ?_); refine box_event rfl (N := 6) rfl (cs := #[.slice none 0 0, .int .i64 0, .slice none 0 0, .int .i64 0, .int .i64 0, .slice none 0 0]) (t := 36) (by first | (go_simp; done) | (go_simp; rfl)) ?_; intro g hg w1 hk hb; have j1 := Born.mk hg; have j2 := Bel.mk hb; have j3 := Blk.mk hk; clear hg hb hk)
    | ((with_reducible refine gate_dst (N := 8) rfl ?_); refine box_event rfl (N := 8) rfl (cs := #[.slice none 0 0, .int .i64 0, .slice none 0 0, .int .i64 0, .int .i64 0, .slice none 0 0]) (t := 36) (by first | (go_simp; done) | (go_simp; rfl)) ?_; intro g hg w1 hk hb; have j1 := Born.mk hg; have j2 := Bel.mk hb; have j3 := Blk.mk hk; clear hg hb hk)
    | (go_at_call 84; replace h := Option.bind_eq_some_iff.mp h; obtain ⟨⟨t1, t2, t3, t4, t5, t6⟩, A, h⟩ := h; (try dsimp only at h); refine (impl_copyShop.calls _ _ _ _ _ _ _ _ _ _ _ _ _ _ _ _ _ _ _ Rd.out LeI.out Rd.out LeI.out Rd.out LeI.out A).mono ?_; rintro e w2 ⟨v0, v1, v2, rfl, ho0, ho1, ho2, hb⟩; obtain ⟨B0, b0, rfl⟩ := Kd.R_slice ho0; have j0 := RowE.mk ho0; have q0 := LeI.mk (rowLe j0); obtain ⟨B1, b1, rfl⟩ := Kd.R_slice ho1; have j1 := RowE.mk ho1; have q1 := LeI.mk (rowLe j1); obtain ⟨B2, b2, rfl⟩ := Kd.R_slice ho2; have j2 := RowE.mk ho2; have q2 := LeI.mk (rowLe j2); have jb := Bel.mk hb; clear A ho0 ho1 ho2 hb; (repeat' first | ((with_reducible replace h := ite_some h); rcases h with ⟨hc, h⟩ | ⟨hc, h⟩ <;> first | exact (none_some h).elim | exact absurd hc (by decide) | subst hc | (replace hc := Bool.eq_false_iff.mpr hc; subst hc) | (have hd := beq_iff_eq.mpr hc; have he := bne_eq_false_iff_eq.mpr hc; clear hc) | (have hd := beq_eq_false_iff_ne.mpr hc; have he := bne_iff_ne.mpr hc) | (have hd := decide_eq_false hc) | (have hd := decide_eq_true hc) | skip)))
    | (go_at_call 18; replace h := Option.bind_eq_some_iff.mp h; obtain ⟨t, A, h⟩ := h; (try dsimp only at h); refine (impl_ShopOk.calls _ _ _ _ _ _ _ _ _ _ _ _ _ _ _ Rd.out LeI.out Rd.out LeI.out Rd.out LeI.out A).mono ?_; rintro e w2 ⟨rfl, hb⟩; have jb := Bel.mk hb; clear A hb; (repeat' first | ((with_reducible replace h := ite_some h); rcases h with ⟨hc, h⟩ | ⟨hc, h⟩ <;> first | exact (none_some h).elim | exact absurd hc (by decide) | subst hc | (replace hc := Bool.eq_false_iff.mpr hc; subst hc) | (have hd := beq_iff_eq.mpr hc; have he := bne_eq_false_iff_eq.mpr hc; clear hc) | (have hd := beq_eq_false_iff_ne.mpr hc; have he := bne_iff_ne.mpr hc) | (have hd := decide_eq_false hc) | (have hd := decide_eq_true hc) | skip)))
    | (go_at_call 51; replace h := Option.bind_eq_some_iff.mp h; obtain ⟨⟨t1, t2⟩, A, h⟩ := h; (try dsimp only at h); refine (impl_AddEntry.calls _ _ _ _ _ _ _ _ _ _ _ Rd.out LeI.out A).mono ?_; rintro e w2 ⟨v0, rfl, ho0, hb⟩; obtain ⟨B0, b0, rfl⟩ := Kd.R_slice ho0; have j0 := RowE.mk ho0; have q0 := LeI.mk (rowLe j0); have jb := Bel.mk hb; clear A ho0 hb; (repeat' first | ((with_reducible replace h := ite_some h); rcases h with ⟨hc, h⟩ | ⟨hc, h⟩ <;> first | exact (none_some h).elim | exact absurd hc (by decide) | subst hc | (replace hc := Bool.eq_false_iff.mpr hc; subst hc) | (have hd := beq_iff_eq.mpr hc; have he := bne_eq_false_iff_eq.mpr hc; clear hc) | (have hd := beq_eq_false_iff_ne.mpr hc; have he := bne_iff_ne.mpr hc) | (have hd := decide_eq_false hc) | (have hd := decide_eq_true hc) | skip))))
  all_goals (repeat' first | ((with_reducible replace h := ite_some h); rcases h with ⟨hc, h⟩ | ⟨hc, h⟩ <;> first | exact (none_some h).elim | exact absurd hc (by decide) | subst hc | (replace hc := Bool.eq_false_iff.mpr hc; subst hc) | (have hd := beq_iff_eq.mpr hc; have he := bne_eq_false_iff_eq.mpr hc; clear hc) | (have hd := beq_eq_false_iff_ne.mpr hc; have he := bne_iff_ne.mpr hc) | (have hd := decide_eq_false hc) | (have hd := decide_eq_true hc) | skip))
  all_goals simp only [Option.some.injEq, Prod.mk.injEq] at h
  all_goals obtain ⟨rfl, rfl, rfl, rfl, rfl, rfl, rfl⟩ := h
  all_goals refine bodyPost_ret (results_ct rfl _ _ _ _ _ (0, 0) _ rfl Blk.out Try.underlying36 rfl (by kernel_rfl)) rfl ?_
  all_goals exact ⟨_, _, _, rfl, (by first | exact rowFin | exact Kd.R_nil _ _ _ _ _), (by first | exact rowFin | exact Kd.R_nil _ _ _ _ _), (by first | exact rowFin | exact Kd.R_nil _ _ _ _ _), From.out⟩
end Go.Proofs.Ytbkkpllejgedcaa.P


namespace Go.Proofs.Ytbkkpllejgedcaa.P
open Go.RowKit Go.Proofs.YtbkkpllejgedcaaW.PrintWords Go.Proofs.YtbkkpllejgedcaaW.PrintLast Go.Proofs.YtbkkpllejgedcaaW.PrintMore Go.Proofs.Ytbkkpllejgedcaa.V
attribute [local go_sem] cell_b frozen_b
attribute [local go_sem] max2_int min2_int max_two min_two max_three min_three max_four min_four
set_option linter.unusedVariables false
set_option linter.unusedSimpArgs false
mutual
def laws_FnExactShopFault.j0 : Nat → Int → Bool → Bool → Bool → List (S98) → Int → List Int → Int → Int → List (S68) → Int → Int → List (S96) → Int → List Int → Int → Int → List (S74) → List (S96) → Int → List Int → Int → Int → List (S74) → List (S96) → Int → List Int → Int → Int → List (S74) → Option (Bool)
  | 0, _, _, _, _, _, _, _, _, _, _, _, _, _, _, _, _, _, _, _, _, _, _, _, _, _, _, _, _, _, _ => none
  | k + 1, x2, x9, x12, x50, x1053000, x1053001, x1053002, x1053003, x1053004, x1053005, x1054000, x1054001, x1083000, x1083001, x1083002, x1083003, x1083004, x1083005, x1096000, x1096001, x1096002, x1096003, x1096004, x1096005, x1112000, x1112001, x1112002, x1112003, x1112004, x1112005 => if x50 = true then (some false) else ((laws_toShop.f k x1053000 x1053001 x1053002 x1053003 x1053004 x1053005).bind fun bt1113 => ((laws_eqShop.f k x1096000 x1096001 x1096002 x1096003 x1096004 x1096005 bt1113.1 bt1113.2.1 bt1113.2.2.1 bt1113.2.2.2.1 bt1113.2.2.2.2.1 bt1113.2.2.2.2.2).bind fun t1125 => (if t1125 = true then ((laws_markShop.f k x1096000 x1096001 x1096002 x1096003 x1096004 x1096005 1).bind fun bt1126 => (if bt1126.1 < 0 then (laws_FnExactShopFault.j1 k x2 x9 true x1053000 x1053001 x1053002 x1053003 x1053004 x1053005 x1054000 x1054001 x1083000 x1083001 x1083002 x1083003 x1083004 x1083005 x1112000 x1112001 x1112002 x1112003 x1112004 x1112005) else ((laws_eqShop.f k x1112000 x1112001 x1112002 x1112003 x1112004 x1112005 x1083000 x1083001 x1083002 x1083003 x1083004 x1083005).bind fun t1130 => (if t1130 = true then (laws_FnExactShopFault.j1 k x2 x9 (x12 != x9) x1053000 x1053001 x1053002 x1053003 x1053004 x1053005 x1054000 x1054001 x1083000 x1083001 x1083002 x1083003 x1083004 x1083005 x1112000 x1112001 x1112002 x1112003 x1112004 x1112005) else (laws_FnExactShopFault.j1 k x2 x9 true x1053000 x1053001 x1053002 x1053003 x1053004 x1053005 x1054000 x1054001 x1083000 x1083001 x1083002 x1083003 x1083004 x1083005 x1112000 x1112001 x1112002 x1112003 x1112004 x1112005))))) else (some false))))
def laws_FnExactShopFault.j1 : Nat → Int → Bool → Bool → List (S98) → Int → List Int → Int → Int → List (S68) → Int → Int → List (S96) → Int → List Int → Int → Int → List (S74) → List (S96) → Int → List Int → Int → Int → List (S74) → Option (Bool)
  | 0, _, _, _, _, _, _, _, _, _, _, _, _, _, _, _, _, _, _, _, _, _, _, _ => none
  | k + 1, x2, x9, x71, x1053000, x1053001, x1053002, x1053003, x1053004, x1053005, x1054000, x1054001, x1083000, x1083001, x1083002, x1083003, x1083004, x1083005, x1112000, x1112001, x1112002, x1112003, x1112004, x1112005 => if x71 = true then (some false) else ((laws_markShop.f k x1112000 x1112001 x1112002 x1112003 x1112004 x1112005 1).bind fun bt1131 => ((laws_heldShop.f k bt1131.2.1 x1112001 bt1131.2.2.1 x1112003 x1112004 bt1131.2.2.2 1).bind fun t1135 => (if t1135 < 0 then (some false) else (if t1135 = bt1131.1 then ((laws_toShop.f k x1053000 x1053001 x1053002 x1053003 x1053004 x1053005).bind fun bt1136 => ((laws_toPipe.f x1054000 x1054001).bind fun bt1148 => ((impl_ShopFault.f k bt1136.1 bt1136.2.1 bt1136.2.2.1 bt1136.2.2.2.1 bt1136.2.2.2.2.1 bt1136.2.2.2.2.2 bt1148.1 bt1148.2 x2).bind fun bt1150 => ((laws_eqShop.f k bt1150.1 bt1150.2.1 bt1150.2.2.1 bt1150.2.2.2.1 bt1150.2.2.2.2.1 bt1150.2.2.2.2.2.1 x1083000 x1083001 x1083002 x1083003 x1083004 x1083005).bind fun t1164 => (if t1164 = true then (laws_FnExactShopFault.j2 k bt1131.1 (bt1150.2.2.2.2.2.2 != x9) bt1131.2.1 x1112001 bt1131.2.2.1 x1112003 x1112004 bt1131.2.2.2) else (laws_FnExactShopFault.j2 k bt1131.1 true bt1131.2.1 x1112001 bt1131.2.2.1 x1112003 x1112004 bt1131.2.2.2)))))) else (some false)))))
def laws_FnExactShopFault.j2 : Nat → Int → Bool → List (S96) → Int → List Int → Int → Int → List (S74) → Option (Bool)
  | 0, _, _, _, _, _, _, _, _ => none
  | k + 1, x14, x100, x1112000, x1112001, x1112002, x1112003, x1112004, x1112005 => if x100 = true then (some false) else ((laws_heldShop.f k x1112000 x1112001 x1112002 x1112003 x1112004 x1112005 1).bind fun t1165 => (if t1165 < 0 then (some false) else (if t1165 = x14 then (some true) else (some false))))
end
def laws_FnExactShopFault.f (k : Nat) (l0_0 : List (S98)) (a0_1 : Int) (l0_2 : List Int) (a0_3 : Int) (a0_4 : Int) (l0_5 : List (S68)) (a1_0 : Int) (a1_1 : Int) (a2 : Int) : Option (Bool) := (laws_szShop.f l0_0 a0_1 l0_2 a0_3 a0_4 l0_5 1048576).bind fun t1054 => (if t1054 < 0 then (some true) else ((laws_toShop.f k l0_0 a0_1 l0_2 a0_3 a0_4 l0_5).bind fun bt1055 => ((laws_toPipe.f a1_0 a1_1).bind fun bt1067 => ((spec_ShopFault.f k bt1055.1 bt1055.2.1 bt1055.2.2.1 bt1055.2.2.2.1 bt1055.2.2.2.2.1 bt1055.2.2.2.2.2 bt1067.1 bt1067.2 a2).bind fun bt1069 => ((laws_toShop.f k l0_0 a0_1 l0_2 a0_3 a0_4 l0_5).bind fun bt1083 => ((laws_toPipe.f a1_0 a1_1).bind fun bt1096 => ((impl_ShopFault.f k bt1083.1 bt1083.2.1 bt1083.2.2.1 bt1083.2.2.2.1 bt1083.2.2.2.2.1 bt1083.2.2.2.2.2 bt1096.1 bt1096.2 a2).bind fun bt1098 => ((laws_eqShop.f k bt1098.1 bt1098.2.1 bt1098.2.2.1 bt1098.2.2.2.1 bt1098.2.2.2.2.1 bt1098.2.2.2.2.2.1 bt1069.1 bt1069.2.1 bt1069.2.2.1 bt1069.2.2.2.1 bt1069.2.2.2.2.1 bt1069.2.2.2.2.2.1).bind fun t1112 => (if t1112 = true then (laws_FnExactShopFault.j0 k a2 bt1069.2.2.2.2.2.2 bt1098.2.2.2.2.2.2 (bt1098.2.2.2.2.2.2 != bt1069.2.2.2.2.2.2) l0_0 a0_1 l0_2 a0_3 a0_4 l0_5 a1_0 a1_1 bt1069.1 bt1069.2.1 bt1069.2.2.1 bt1069.2.2.2.1 bt1069.2.2.2.2.1 bt1069.2.2.2.2.2.1 bt1083.1 bt1083.2.1 bt1083.2.2.1 bt1083.2.2.2.1 bt1083.2.2.2.2.1 bt1083.2.2.2.2.2 bt1098.1 bt1098.2.1 bt1098.2.2.1 bt1098.2.2.2.1 bt1098.2.2.2.2.1 bt1098.2.2.2.2.2.1) else (laws_FnExactShopFault.j0 k a2 bt1069.2.2.2.2.2.2 bt1098.2.2.2.2.2.2 true l0_0 a0_1 l0_2 a0_3 a0_4 l0_5 a1_0 a1_1 bt1069.1 bt1069.2.1 bt1069.2.2.1 bt1069.2.2.2.1 bt1069.2.2.2.2.1 bt1069.2.2.2.2.2.1 bt1083.1 bt1083.2.1 bt1083.2.2.1 bt1083.2.2.2.1 bt1083.2.2.2.2.1 bt1083.2.2.2.2.2 bt1098.1 bt1098.2.1 bt1098.2.2.1 bt1098.2.2.2.1 bt1098.2.2.2.2.1 bt1098.2.2.2.2.2.1))))))))))
def laws_FnExactShopFault.T5 : Bool × List (List Nat × List Nat) := (true, [([], []), ([0], [0]), ([], []), ([2, 1], [2]), ([], []), ([1, 3, 4, 3], [1, 3, 4]), ([5], [5]), ([6], [6]), ([6], [6]), ([], []), ([9, 7, 5, 0, 1, 2, 3, 4, 5, 6, 7, 9], [7, 9]), ([8, 10, 0, 1, 2, 3, 4, 5, 6, 7, 8, 9, 10], [8])])
def laws_FnExactShopFault.B5 : List Nat := [0, 1, 0, 7, 0, 31, 63, 127, 127, 0, 767, 2047]
theorem laws_FnExactShopFault.tab5 : rtab .any (opsOf Try.f9 5) = laws_FnExactShopFault.T5 := by kernel_rfl
theorem laws_FnExactShopFault.bits5 : waitsOk laws_FnExactShopFault.T5.2 laws_FnExactShopFault.B5 = true := by kernel_rfl
def laws_FnExactShopFault.T7 : Bool × List (List Nat × List Nat) := (true, [([], []), ([], []), ([1], [1]), ([], []), ([0, 2, 3, 2], [0, 2, 3]), ([4], [4]), ([5], [5]), ([5], [5]), ([], []), ([8, 6, 4, 0, 1, 2, 3, 4, 5, 6, 8], [6, 8]), ([7, 9, 0, 1, 2, 3, 4, 5, 6, 7, 8, 9], [7])])
def laws_FnExactShopFault.B7 : List Nat := [0, 0, 2, 0, 15, 31, 63, 63, 0, 383, 1023]
theorem laws_FnExactShopFault.tab7 : rtab .any (opsOf Try.f9 7) = laws_FnExactShopFault.T7 := by kernel_rfl
theorem laws_FnExactShopFault.bits7 : waitsOk laws_FnExactShopFault.T7.2 laws_FnExactShopFault.B7 = true := by kernel_rfl
def laws_FnExactShopFault.T24 : Bool × List (List Nat × List Nat) := (true, [([], []), ([0], [0]), ([], []), ([2, 1], [2]), ([], []), ([1, 3, 4, 3], [1, 3, 4]), ([5], [5]), ([6], [6]), ([6], [6]), ([], []), ([9, 7, 5, 0, 1, 2, 3, 4, 5, 6, 7, 9], [7, 9]), ([8, 10, 0, 1, 2, 3, 4, 5, 6, 7, 8, 9, 10], [8])])
def laws_FnExactShopFault.B24 : List Nat := [0, 1, 0, 7, 0, 31, 63, 127, 127, 0, 767, 2047]
theorem laws_FnExactShopFault.tab24 : rtab .any (opsOf Try.f9 24) = laws_FnExactShopFault.T24 := by kernel_rfl
theorem laws_FnExactShopFault.bits24 : waitsOk laws_FnExactShopFault.T24.2 laws_FnExactShopFault.B24 = true := by kernel_rfl
structure laws_FnExactShopFault.J5 where
  xB0 : Option Addr
  xB1 : Option Addr
  xB2 : Option Addr
  zB0 : Option Addr
  zB1 : Option Addr
  zB2 : Option Addr
  xb0 : Nat
  xb1 : Nat
  xb2 : Nat
  zb0 : Nat
  zb1 : Nat
  zb2 : Nat
  xwa : World
  xwb : World
  zwa : World
  zwb : World
  wx : World
  g : Nat
def laws_FnExactShopFault.M5 (l : List Nat) : Array Bool := ((List.range 12).map (fun j => l.contains j)).toArray
structure laws_FnExactShopFault.J24 where
  xB0 : Option Addr
  xB1 : Option Addr
  xB2 : Option Addr
  zB0 : Option Addr
  zB1 : Option Addr
  zB2 : Option Addr
  xb0 : Nat
  xb1 : Nat
  xb2 : Nat
  zb0 : Nat
  zb1 : Nat
  zb2 : Nat
  xwa : World
  xwb : World
  zwa : World
  zwb : World
  wx : World
  g : Nat
def laws_FnExactShopFault.M24 (l : List Nat) : Array Bool := ((List.range 12).map (fun j => l.contains j)).toArray
structure laws_FnExactShopFault.J7 where
  zB0 : Option Addr
  zB1 : Option Addr
  zB2 : Option Addr
  zb0 : Nat
  zb1 : Nat
  zb2 : Nat
  zwa : World
  zwb : World
  wx : World
  g : Nat
def laws_FnExactShopFault.M7 (l : List Nat) : Array Bool := ((List.range 11).map (fun j => l.contains j)).toArray
set_option maxHeartbeats 8000000 in
set_option maxRecDepth 100000 in
set_option synthInstance.maxHeartbeats 400000 in
set_option synthInstance.maxSize 100000 in
theorem laws_FnExactShopFault.calls (k : Nat) (A0_0 : Option Addr) (c0_0 : Nat) (l0_0 : List (S98)) (a0_1 : Int) (A0_2 : Option Addr) (c0_2 : Nat) (l0_2 : List Int) (a0_3 : Int) (a0_4 : Int) (A0_5 : Option Addr) (c0_5 : Nat) (l0_5 : List (S68)) (a1_0 : Int) (a1_1 : Int) (a2 : Int) (r : Bool) (w : World) (hr0_0 : Kd.C k98 w A0_0 l0_0.length l0_0) (hc0_0 : l0_0.length ≤ c0_0) (hr0_2 : Kd.C (Kd.int .i64) w A0_2 l0_2.length l0_2) (hc0_2 : l0_2.length ≤ c0_2) (hr0_5 : Kd.C k68 w A0_5 l0_5.length l0_5) (hc0_5 : l0_5.length ≤ c0_5) (h : laws_FnExactShopFault.f k l0_0 a0_1 l0_2 a0_3 a0_4 l0_5 a1_0 a1_1 a2 = some r) (hrt_ : Aside0 (r = true)) :
    Calls Try.prog 9 #[.agg #[.slice A0_0 l0_0.length c0_0, .int .i64 a0_1, .slice A0_2 l0_2.length c0_2, .int .i64 a0_3, .int .i64 a0_4, .slice A0_5 l0_5.length c0_5], .agg #[.int .i64 a1_0, .int .i64 a1_1], .int .i64 a2] w fun e w' => e = .returned (.bool r) ∧ Below w.heap.size w w' := by
  have ihr0_0 := RdE.mk hr0_0
  have ihc0_0 := LeI.mk hc0_0
  have ihr0_2 := RdE.mk hr0_2
  have ihc0_2 := LeI.mk hc0_2
  have ihr0_5 := RdE.mk hr0_5
  have ihc0_5 := LeI.mk hc0_5
  clear hr0_0 hc0_0 hr0_2 hc0_2 hr0_5 hc0_5
  obtain rfl := hrt_.out
  clear hrt_
  unfold laws_FnExactShopFault.f at h
  have hu28 := Try.underlying28
  have hu36 := Try.underlying36
  have hu54 := Try.underlying54
  (repeat' first | ((with_reducible replace h := ite_some h); rcases h with ⟨hc, h⟩ | ⟨hc, h⟩ <;> first | exact (none_some h).elim | exact absurd (Option.some.inj h) (by decide) | exact absurd hc (by decide) | subst hc | (replace hc := Bool.eq_false_iff.mpr hc; subst hc) | (have hd := Bool.eq_false_iff.mpr hc) | (have hd := beq_iff_eq.mpr hc; have he := bne_eq_false_iff_eq.mpr hc; clear hc) | (have hd := beq_eq_false_iff_ne.mpr hc; have he := bne_iff_ne.mpr hc) | (have hd := decide_eq_false hc) | (have hd := decide_eq_true hc) | skip) | ((have hj : laws_FnExactShopFault.j0 k _ _ _ _ _ _ _ _ _ _ _ _ _ _ _ _ _ _ _ _ _ _ _ _ _ _ _ _ _ _ = _ := h); clear hj; rcases k with _ | k <;> rw [laws_FnExactShopFault.j0] at h <;> first | exact (none_some h).elim | skip) | ((have hj : laws_FnExactShopFault.j1 k _ _ _ _ _ _ _ _ _ _ _ _ _ _ _ _ _ _ _ _ _ _ _ = _ := h); clear hj; rcases k with _ | k <;> rw [laws_FnExactShopFault.j1] at h <;> first | exact (none_some h).elim | skip) | ((have hj : laws_FnExactShopFault.j2 k _ _ _ _ _ _ _ _ = _ := h); clear hj; rcases k with _ | k <;> rw [laws_FnExactShopFault.j2] at h <;> first | exact (none_some h).elim | skip))
  all_goals go_enter Try.func9, Try.ntmps9
  all_goals go_wp2_with (first
    | ((with_reducible refine gate_dst (N := 3) rfl ?_); refine box_event rfl (N := 3) rfl (cs := #[.slice A0_0 l0_0.length c0_0, .int .i64 a0_1, .slice A0_2 l0_2.length c0_2, .int .i64 a0_3, .int .i64 a0_4, .slice A0_5 l0_5.length c0_5]) (t := 28) (by first | (go_simp; done) | (go_simp; rfl)) ?_; intro g hg w1 hk hb; have j1 := Born.mk hg; have j2 := Bel.mk hb; have j3 := Blk.mk hk; clear hg hb hk)
    | ((with_reducible refine gate_dst (N := 4) rfl ?_); refine box_event rfl (N := 4) rfl (cs := #[.int .i64 a1_0, .int .i64 a1_1]) (t := 54) (by first | (go_simp; done) | (go_simp; rfl)) ?_; intro g hg w1 hk hb; have j1 := Born.mk hg; have j2 := Bel.mk hb; have j3 := Blk.mk hk; clear hg hb hk)
    | ((with_reducible refine gate_dst (N := 10) rfl ?_); refine box_event rfl (N := 10) rfl (cs := #[.slice none 0 0, .int .i64 0, .slice none 0 0, .int .i64 0, .int .i64 0, .slice none 0 0]) (t := 36) (by first | (go_simp; done) | (go_simp; rfl)) ?_; intro g hg w1 hk hb; have j1 := Born.mk hg; have j2 := Bel.mk hb; have j3 := Blk.mk hk; clear hg hb hk)
    | (go_at_call 15; replace h := Option.bind_eq_some_iff.mp h; obtain ⟨t, A, h⟩ := h; (try dsimp only at h); refine (laws_szShop.calls _ _ _ _ _ _ _ _ _ _ _ _ _ _ _ Rd.out LeI.out Rd.out LeI.out Rd.out LeI.out A).mono ?_; rintro e w2 ⟨rfl, hb⟩; have jb := Bel.mk hb; clear A hb; (repeat' first | ((with_reducible replace h := ite_some h); rcases h with ⟨hc, h⟩ | ⟨hc, h⟩ <;> first | exact (none_some h).elim | exact absurd (Option.some.inj h) (by decide) | exact absurd hc (by decide) | subst hc | (replace hc := Bool.eq_false_iff.mpr hc; subst hc) | (have hd := Bool.eq_false_iff.mpr hc) | (have hd := beq_iff_eq.mpr hc; have he := bne_eq_false_iff_eq.mpr hc; clear hc) | (have hd := beq_eq_false_iff_ne.mpr hc; have he := bne_iff_ne.mpr hc) | (have hd := decide_eq_false hc) | (have hd := decide_eq_true hc) | skip) | ((have hj : laws_FnExactShopFault.j0 k _ _ _ _ _ _ _ _ _ _ _ _ _ _ _ _ _ _ _ _ _ _ _ _ _ _ _ _ _ _ = _ := h); clear hj; rcases k with _ | k <;> rw [laws_FnExactShopFault.j0] at h <;> first | exact (none_some h).elim | skip) | ((have hj : laws_FnExactShopFault.j1 k _ _ _ _ _ _ _ _ _ _ _ _ _ _ _ _ _ _ _ _ _ _ _ = _ := h); clear hj; rcases k with _ | k <;> rw [laws_FnExactShopFault.j1] at h <;> first | exact (none_some h).elim | skip) | ((have hj : laws_FnExactShopFault.j2 k _ _ _ _ _ _ _ _ = _ := h); clear hj; rcases k with _ | k <;> rw [laws_FnExactShopFault.j2] at h <;> first | exact (none_some h).elim | skip)))
    | (go_at_call 17; replace h := Option.bind_eq_some_iff.mp h; obtain ⟨⟨t1, t2, t3, t4, t5, t6⟩, A, h⟩ := h; (try dsimp only at h); refine (laws_toShop.calls _ _ _ _ _ _ _ _ _ _ _ _ _ _ _ _ _ _ _ _ Rd.out LeI.out Rd.out LeI.out Rd.out LeI.out A).mono ?_; rintro e w2 ⟨v0, v1, v2, rfl, ho0, ho1, ho2, hb⟩; obtain ⟨B0, b0, rfl⟩ := Kd.R_slice ho0; have j0 := RowE.mk ho0; have q0 := LeI.mk (rowLe j0); obtain ⟨B1, b1, rfl⟩ := Kd.R_slice ho1; have j1 := RowE.mk ho1; have q1 := LeI.mk (rowLe j1); obtain ⟨B2, b2, rfl⟩ := Kd.R_slice ho2; have j2 := RowE.mk ho2; have q2 := LeI.mk (rowLe j2); have jb := Bel.mk hb; clear A ho0 ho1 ho2 hb; (repeat' first | ((with_reducible replace h := ite_some h); rcases h with ⟨hc, h⟩ | ⟨hc, h⟩ <;> first | exact (none_some h).elim | exact absurd (Option.some.inj h) (by decide) | exact absurd hc (by decide) | subst hc | (replace hc := Bool.eq_false_iff.mpr hc; subst hc) | (have hd := Bool.eq_false_iff.mpr hc) | (have hd := beq_iff_eq.mpr hc; have he := bne_eq_false_iff_eq.mpr hc; clear hc) | (have hd := beq_eq_false_iff_ne.mpr hc; have he := bne_iff_ne.mpr hc) | (have hd := decide_eq_false hc) | (have hd := decide_eq_true hc) | skip) | ((have hj : laws_FnExactShopFault.j0 k _ _ _ _ _ _ _ _ _ _ _ _ _ _ _ _ _ _ _ _ _ _ _ _ _ _ _ _ _ _ = _ := h); clear hj; rcases k with _ | k <;> rw [laws_FnExactShopFault.j0] at h <;> first | exact (none_some h).elim | skip) | ((have hj : laws_FnExactShopFault.j1 k _ _ _ _ _ _ _ _ _ _ _ _ _ _ _ _ _ _ _ _ _ _ _ = _ := h); clear hj; rcases k with _ | k <;> rw [laws_FnExactShopFault.j1] at h <;> first | exact (none_some h).elim | skip) | ((have hj : laws_FnExactShopFault.j2 k _ _ _ _ _ _ _ _ = _ := h); clear hj; rcases k with _ | k <;> rw [laws_FnExactShopFault.j2] at h <;> first | exact (none_some h).elim | skip)))
    | (go_at_call 37; replace h := Option.bind_eq_some_iff.mp h; obtain ⟨⟨t1, t2⟩, A, h⟩ := h; (try dsimp only at h); refine (laws_toPipe.calls _ _ _ _ _ A).mono ?_; rintro e w2 ⟨rfl, hb⟩; have jb := Bel.mk hb; clear A hb; (repeat' first | ((with_reducible replace h := ite_some h); rcases h with ⟨hc, h⟩ | ⟨hc, h⟩ <;> first | exact (none_some h).elim | exact absurd (Option.some.inj h) (by decide) | exact absurd hc (by decide) | subst hc | (replace hc := Bool.eq_false_iff.mpr hc; subst hc) | (have hd := Bool.eq_false_iff.mpr hc) | (have hd := beq_iff_eq.mpr hc; have he := bne_eq_false_iff_eq.mpr hc; clear hc) | (have hd := beq_eq_false_iff_ne.mpr hc; have he := bne_iff_ne.mpr hc) | (have hd := decide_eq_false hc) | (have hd := decide_eq_true hc) | skip) | ((have hj : laws_FnExactShopFault.j0 k _ _ _ _ _ _ _ _ _ _ _ _ _ _ _ _ _ _ _ _ _ _ _ _ _ _ _ _ _ _ = _ := h); clear hj; rcases k with _ | k <;> rw [laws_FnExactShopFault.j0] at h <;> first | exact (none_some h).elim | skip) | ((have hj : laws_FnExactShopFault.j1 k _ _ _ _ _ _ _ _ _ _ _ _ _ _ _ _ _ _ _ _ _ _ _ = _ := h); clear hj; rcases k with _ | k <;> rw [laws_FnExactShopFault.j1] at h <;> first | exact (none_some h).elim | skip) | ((have hj : laws_FnExactShopFault.j2 k _ _ _ _ _ _ _ _ = _ := h); clear hj; rcases k with _ | k <;> rw [laws_FnExactShopFault.j2] at h <;> first | exact (none_some h).elim | skip)))
    | (go_at_call 36; replace h := Option.bind_eq_some_iff.mp h; obtain ⟨⟨t1, t2, t3, t4, t5, t6, t7⟩, A, h⟩ := h; (try dsimp only at h); refine (spec_ShopFault.calls _ _ _ _ _ _ _ _ _ _ _ _ _ _ _ _ _ _ _ _ _ _ _ _ Rd.out LeI.out Rd.out LeI.out Rd.out LeI.out A).mono ?_; rintro e w2 ⟨v0, v1, v2, rfl, ho0, ho1, ho2, hb⟩; obtain ⟨B0, b0, rfl⟩ := Kd.R_slice ho0; have j0 := RowE.mk ho0; have q0 := LeI.mk (rowLe j0); obtain ⟨B1, b1, rfl⟩ := Kd.R_slice ho1; have j1 := RowE.mk ho1; have q1 := LeI.mk (rowLe j1); obtain ⟨B2, b2, rfl⟩ := Kd.R_slice ho2; have j2 := RowE.mk ho2; have q2 := LeI.mk (rowLe j2); have jb := Bel.mk hb; clear A ho0 ho1 ho2 hb; (repeat' first | ((with_reducible replace h := ite_some h); rcases h with ⟨hc, h⟩ | ⟨hc, h⟩ <;> first | exact (none_some h).elim | exact absurd (Option.some.inj h) (by decide) | exact absurd hc (by decide) | subst hc | (replace hc := Bool.eq_false_iff.mpr hc; subst hc) | (have hd := Bool.eq_false_iff.mpr hc) | (have hd := beq_iff_eq.mpr hc; have he := bne_eq_false_iff_eq.mpr hc; clear hc) | (have hd := beq_eq_false_iff_ne.mpr hc; have he := bne_iff_ne.mpr hc) | (have hd := decide_eq_false hc) | (have hd := decide_eq_true hc) | skip) | ((have hj : laws_FnExactShopFault.j0 k _ _ _ _ _ _ _ _ _ _ _ _ _ _ _ _ _ _ _ _ _ _ _ _ _ _ _ _ _ _ = _ := h); clear hj; rcases k with _ | k <;> rw [laws_FnExactShopFault.j0] at h <;> first | exact (none_some h).elim | skip) | ((have hj : laws_FnExactShopFault.j1 k _ _ _ _ _ _ _ _ _ _ _ _ _ _ _ _ _ _ _ _ _ _ _ = _ := h); clear hj; rcases k with _ | k <;> rw [laws_FnExactShopFault.j1] at h <;> first | exact (none_some h).elim | skip) | ((have hj : laws_FnExactShopFault.j2 k _ _ _ _ _ _ _ _ = _ := h); clear hj; rcases k with _ | k <;> rw [laws_FnExactShopFault.j2] at h <;> first | exact (none_some h).elim | skip)))
    | (go_at_call 38; replace h := Option.bind_eq_some_iff.mp h; obtain ⟨⟨t1, t2, t3, t4, t5, t6, t7⟩, A, h⟩ := h; (try dsimp only at h); refine (impl_ShopFault.calls _ _ _ _ _ _ _ _ _ _ _ _ _ _ _ _ _ _ _ _ _ _ _ _ Rd.out LeI.out Rd.out LeI.out Rd.out LeI.out A).mono ?_; rintro e w2 ⟨v0, v1, v2, rfl, ho0, ho1, ho2, hb⟩; obtain ⟨B0, b0, rfl⟩ := Kd.R_slice ho0; have j0 := RowE.mk ho0; have q0 := LeI.mk (rowLe j0); obtain ⟨B1, b1, rfl⟩ := Kd.R_slice ho1; have j1 := RowE.mk ho1; have q1 := LeI.mk (rowLe j1); obtain ⟨B2, b2, rfl⟩ := Kd.R_slice ho2; have j2 := RowE.mk ho2; have q2 := LeI.mk (rowLe j2); have jb := Bel.mk hb; clear A ho0 ho1 ho2 hb; (repeat' first | ((with_reducible replace h := ite_some h); rcases h with ⟨hc, h⟩ | ⟨hc, h⟩ <;> first | exact (none_some h).elim | exact absurd (Option.some.inj h) (by decide) | exact absurd hc (by decide) | subst hc | (replace hc := Bool.eq_false_iff.mpr hc; subst hc) | (have hd := Bool.eq_false_iff.mpr hc) | (have hd := beq_iff_eq.mpr hc; have he := bne_eq_false_iff_eq.mpr hc; clear hc) | (have hd := beq_eq_false_iff_ne.mpr hc; have he := bne_iff_ne.mpr hc) | (have hd := decide_eq_false hc) | (have hd := decide_eq_true hc) | skip) | ((have hj : laws_FnExactShopFault.j0 k _ _ _ _ _ _ _ _ _ _ _ _ _ _ _ _ _ _ _ _ _ _ _ _ _ _ _ _ _ _ = _ := h); clear hj; rcases k with _ | k <;> rw [laws_FnExactShopFault.j0] at h <;> first | exact (none_some h).elim | skip) | ((have hj : laws_FnExactShopFault.j1 k _ _ _ _ _ _ _ _ _ _ _ _ _ _ _ _ _ _ _ _ _ _ _ = _ := h); clear hj; rcases k with _ | k <;> rw [laws_FnExactShopFault.j1] at h <;> first | exact (none_some h).elim | skip) | ((have hj : laws_FnExactShopFault.j2 k _ _ _ _ _ _ _ _ = _ := h); clear hj; rcases k with _ | k <;> rw [laws_FnExactShopFault.j2] at h <;> first | exact (none_some h).elim | skip)))
    | (go_at_call 19; replace h := Option.bind_eq_some_iff.mp h; obtain ⟨t, A, h⟩ := h; (try dsimp only at h); refine (laws_eqShop.calls _ _ _ _ _ _ _ _ _ _ _ _ _ _ _ _ _ _ _ _ _ _ _ _ _ _ _ Rd.out LeI.out Rd.out LeI.out Rd.out LeI.out Rd.out LeI.out Rd.out LeI.out Rd.out LeI.out A).mono ?_; rintro e w2 ⟨rfl, hb⟩; have jb := Bel.mk hb; clear A hb; (repeat' first | ((with_reducible replace h := ite_some h); rcases h with ⟨hc, h⟩ | ⟨hc, h⟩ <;> first | exact (none_some h).elim | exact absurd (Option.some.inj h) (by decide) | exact absurd hc (by decide) | subst hc | (replace hc := Bool.eq_false_iff.mpr hc; subst hc) | (have hd := Bool.eq_false_iff.mpr hc) | (have hd := beq_iff_eq.mpr hc; have he := bne_eq_false_iff_eq.mpr hc; clear hc) | (have hd := beq_eq_false_iff_ne.mpr hc; have he := bne_iff_ne.mpr hc) | (have hd := decide_eq_false hc) | (have hd := decide_eq_true hc) | skip) | ((have hj : laws_FnExactShopFault.j0 k _ _ _ _ _ _ _ _ _ _ _ _ _ _ _ _ _ _ _ _ _ _ _ _ _ _ _ _ _ _ = _ := h); clear hj; rcases k with _ | k <;> rw [laws_FnExactShopFault.j0] at h <;> first | exact (none_some h).elim | skip) | ((have hj : laws_FnExactShopFault.j1 k _ _ _ _ _ _ _ _ _ _ _ _ _ _ _ _ _ _ _ _ _ _ _ = _ := h); clear hj; rcases k with _ | k <;> rw [laws_FnExactShopFault.j1] at h <;> first | exact (none_some h).elim | skip) | ((have hj : laws_FnExactShopFault.j2 k _ _ _ _ _ _ _ _ = _ := h); clear hj; rcases k with _ | k <;> rw [laws_FnExactShopFault.j2] at h <;> first | exact (none_some h).elim | skip)))
    | (go_at_call 28; replace h := Option.bind_eq_some_iff.mp h; obtain ⟨⟨t1, t2, t3, t4⟩, A, h⟩ := h; (try dsimp only at h); refine (laws_markShop.calls _ _ _ _ _ _ _ _ _ _ _ _ _ _ _ _ _ _ w _ From.out rowP rowP rowP A).mono ?_; rintro e w2 ⟨rfl, m0, m1, m2, hb, hk⟩; obtain ⟨e0, q0, c0⟩ := Kd.R_reads' m0; replace q0 := LeI.mk (e0 ▸ q0); have j0 := RdE.mk c0; (try simp only [e0] at *); clear e0 c0 m0; obtain ⟨e1, q1, c1⟩ := Kd.R_reads' m1; replace q1 := LeI.mk (e1 ▸ q1); have j1 := RdE.mk c1; (try simp only [e1] at *); clear e1 c1 m1; obtain ⟨e2, q2, c2⟩ := Kd.R_reads' m2; replace q2 := LeI.mk (e2 ▸ q2); have j2 := RdE.mk c2; (try simp only [e2] at *); clear e2 c2 m2; have jf : From w w2 := ⟨hb⟩; clear hb; have jm := mk3 hk; clear hk; clear A; (repeat' first | ((with_reducible replace h := ite_some h); rcases h with ⟨hc, h⟩ | ⟨hc, h⟩ <;> first | exact (none_some h).elim | exact absurd (Option.some.inj h) (by decide) | exact absurd hc (by decide) | subst hc | (replace hc := Bool.eq_false_iff.mpr hc; subst hc) | (have hd := Bool.eq_false_iff.mpr hc) | (have hd := beq_iff_eq.mpr hc; have he := bne_eq_false_iff_eq.mpr hc; clear hc) | (have hd := beq_eq_false_iff_ne.mpr hc; have he := bne_iff_ne.mpr hc) | (have hd := decide_eq_false hc) | (have hd := decide_eq_true hc) | skip) | ((have hj : laws_FnExactShopFault.j0 k _ _ _ _ _ _ _ _ _ _ _ _ _ _ _ _ _ _ _ _ _ _ _ _ _ _ _ _ _ _ = _ := h); clear hj; rcases k with _ | k <;> rw [laws_FnExactShopFault.j0] at h <;> first | exact (none_some h).elim | skip) | ((have hj : laws_FnExactShopFault.j1 k _ _ _ _ _ _ _ _ _ _ _ _ _ _ _ _ _ _ _ _ _ _ _ = _ := h); clear hj; rcases k with _ | k <;> rw [laws_FnExactShopFault.j1] at h <;> first | exact (none_some h).elim | skip) | ((have hj : laws_FnExactShopFault.j2 k _ _ _ _ _ _ _ _ = _ := h); clear hj; rcases k with _ | k <;> rw [laws_FnExactShopFault.j2] at h <;> first | exact (none_some h).elim | skip)))
    | (go_at_call 29; replace h := Option.bind_eq_some_iff.mp h; obtain ⟨t, A, h⟩ := h; (try dsimp only at h); refine (laws_heldShop.calls _ _ _ _ _ _ _ _ _ _ _ _ _ _ _ _ Rd.out LeI.out Rd.out LeI.out Rd.out LeI.out A).mono ?_; rintro e w2 ⟨rfl, hb⟩; have jb := Bel.mk hb; clear A hb; (repeat' first | ((with_reducible replace h := ite_some h); rcases h with ⟨hc, h⟩ | ⟨hc, h⟩ <;> first | exact (none_some h).elim | exact absurd (Option.some.inj h) (by decide) | exact absurd hc (by decide) | subst hc | (replace hc := Bool.eq_false_iff.mpr hc; subst hc) | (have hd := Bool.eq_false_iff.mpr hc) | (have hd := beq_iff_eq.mpr hc; have he := bne_eq_false_iff_eq.mpr hc; clear hc) | (have hd := beq_eq_false_iff_ne.mpr hc; have he := bne_iff_ne.mpr hc) | (have hd := decide_eq_false hc) | (have hd := decide_eq_true hc) | skip) | ((have hj : laws_FnExactShopFault.j0 k _ _ _ _ _ _ _ _ _ _ _ _ _ _ _ _ _ _ _ _ _ _ _ _ _ _ _ _ _ _ = _ := h); clear hj; rcases k with _ | k <;> rw [laws_FnExactShopFault.j0] at h <;> first | exact (none_some h).elim | skip) | ((have hj : laws_FnExactShopFault.j1 k _ _ _ _ _ _ _ _ _ _ _ _ _ _ _ _ _ _ _ _ _ _ _ = _ := h); clear hj; rcases k with _ | k <;> rw [laws_FnExactShopFault.j1] at h <;> first | exact (none_some h).elim | skip) | ((have hj : laws_FnExactShopFault.j2 k _ _ _ _ _ _ _ _ = _ := h); clear hj; rcases k with _ | k <;> rw [laws_FnExactShopFault.j2] at h <;> first | exact (none_some h).elim | skip)))
    | ((with_reducible refine region_at (id := 5) ?_); intro w3 jw; replace h := Option.bind_eq_some_iff.mp h; obtain ⟨⟨x1, x2, x3, x4, x5, x6⟩, xA, h⟩ := h; (try dsimp only at h); replace xA := Aside0.mk xA; replace h := Option.bind_eq_some_iff.mp h; obtain ⟨⟨y1, y2⟩, yA, h⟩ := h; (try dsimp only at h); replace yA := Aside0.mk yA; replace h := Option.bind_eq_some_iff.mp h; obtain ⟨⟨z1, z2, z3, z4, z5, z6, z7⟩, zA, h⟩ := h; (try dsimp only at h); replace zA := Aside0.mk zA; refine start_ (n := 12) (S := fun w' => Below w3.heap.size w3 w') (ds := []) (laws_FnExactShopFault.M5 []) (by kernel_rfl) rfl (by kernel_rfl) From.out (fun hHeld => ?_); refine with_tabW laws_FnExactShopFault.tab5 laws_FnExactShopFault.bits5 (fun HT_ HW_ => ?_); obtain ⟨u0, hu0⟩ : ∃ u, w3.drew = u := ⟨_, rfl⟩; rw [hu0] at hHeld ⊢; have iu : Bel w3 u0 := ⟨hHeld⟩; clear hu0; refine pure_ (i := 4) (N := some 28) (v := ?_) (a' := ?_) (laws_FnExactShopFault.M5 [4]) rfl rfl (any_of HT_.out (by kernel_rfl)) (fun _ _ _ h => h) (Or.inl ⟨by rfl, ?_⟩) ?_ ?_; rotate_left; (focus (intro w'; go_simp; with_reducible rfl)); rotate_left; (focus (simp only [Act.put, List.setIfInBounds_toArray, List.set_cons_zero, List.set_cons_succ, i64_w, i32_w]; rfl)); refine take_ (i := 0) (N := some 24) (v := ?_) (a' := ?_) (laws_FnExactShopFault.M5 [0, 4]) rfl rfl (take_ofW HT_.out HW_.out (by kernel_rfl)) (fun _ _ _ h => h) (Or.inl ⟨by rfl, ?_⟩) hHeld ?_ ?_; rotate_left; (focus (intro w' hS; have jS : Sin w3 w' := ⟨hS⟩; go_simp; with_reducible rfl)); rotate_left; (focus (simp only [Act.put, List.setIfInBounds_toArray, List.set_cons_zero, List.set_cons_succ, i64_w, i32_w]; rfl)); refine take_ (i := 2) (N := some 26) (v := ?_) (a' := ?_) (laws_FnExactShopFault.M5 [0, 2, 4]) rfl rfl (take_ofW HT_.out HW_.out (by kernel_rfl)) (fun _ _ _ h => h) (Or.inl ⟨by rfl, ?_⟩) hHeld ?_ ?_; rotate_left; (focus (intro w' hS; have jS : Sin w3 w' := ⟨hS⟩; go_simp; with_reducible rfl)); rotate_left; (focus (simp only [Act.put, List.setIfInBounds_toArray, List.set_cons_zero, List.set_cons_succ, i64_w, i32_w]; rfl)); refine join_ (σ := laws_FnExactShopFault.J5) 2 (laws_FnExactShopFault.M5 [0, 1, 2, 3, 4, 5, 6, 7, 8, 9]) (fun s => [(25, .agg #[.slice s.xB0 x1.length s.xb0, .int .i64 x2, .slice s.xB1 x3.length s.xb1, .int .i64 x4, .int .i64 x5, .slice s.xB2 x6.length s.xb2]), (27, .agg #[.int .i64 y1, .int .i64 y2]), (29, .tuple #[.agg #[.slice s.zB0 z1.length s.zb0, .int .i64 z2, .slice s.zB1 z3.length s.zb1, .int .i64 z4, .int .i64 z5, .slice s.zB2 z6.length s.zb2], .bool z7]), (8, .pointer (some ⟨s.g, 0, none⟩)), (23, .tuple #[.agg #[.slice s.zB0 z1.length s.zb0, .int .i64 z2, .slice s.zB1 z3.length s.zb1, .int .i64 z4, .int .i64 z5, .slice s.zB2 z6.length s.zb2], .bool z7]), (30, .agg #[.slice s.zB0 z1.length s.zb0, .int .i64 z2, .slice s.zB1 z3.length s.zb1, .int .i64 z4, .int .i64 z5, .slice s.zB2 z6.length s.zb2]), (31, .bool z7)]) (fun s w' => RowE k96 96 s.xwa s.xwb s.xB0 s.xb0 x1 ∧ RowE (Kd.int .i64) 3 s.xwa s.xwb s.xB1 s.xb1 x3 ∧ RowE k74 74 s.xwa s.xwb s.xB2 s.xb2 x6 ∧ RowE k96 96 s.zwa s.zwb s.zB0 s.zb0 z1 ∧ RowE (Kd.int .i64) 3 s.zwa s.zwb s.zB1 s.zb1 z3 ∧ RowE k74 74 s.zwa s.zwb s.zB2 s.zb2 z6 ∧ Bel w3 w' ∧ Bel w3 s.wx ∧ Born s.wx s.g ∧ Blk w' s.g #[.slice none 0 0, .int .i64 0, .slice none 0 0, .int .i64 0, .int .i64 0, .slice none 0 0] 36 ∧ Bel w3 s.xwa ∧ Bel s.xwa s.xwb ∧ Keep s.xwa s.xwb w' ∧ Off s.xwa s.xwb s.g ∧ Sz s.xwb w' ∧ Bel w3 s.zwa ∧ Bel s.zwa s.zwb ∧ Keep s.zwa s.zwb w' ∧ Off s.zwa s.zwb s.g ∧ Sz s.zwb w' ∧ Sz s.xwb s.zwa) ?_ ?_; rotate_left; (focus (intro hCont; refine two_ (i := 1) (j := 9) (Ni := some 25) (Nj := some 8) (laws_FnExactShopFault.M5 [0, 1, 2, 4]) (laws_FnExactShopFault.M5 [0, 2, 4, 9]) rfl rfl rfl rfl (two_of HT_.out (by kernel_rfl)) (by decide) (by decide) (fun K hK => ?_) (fun K hK => ?_); (focus (refine goes_ Try.func17 (by kernel_rfl) rfl _ (by rfl) rfl rfl (by (try simp only [List.map_toArray, List.map_cons, List.map_nil]); rfl) ?_; refine (laws_toShop.calls _ _ _ _ _ _ _ _ _ _ _ _ _ _ _ _ _ _ _ _ Rd.out LeI.out Rd.out LeI.out Rd.out LeI.out xA.out).mono ?_; rintro e u1 ⟨xv0, xv1, xv2, rfl, xh0, xh1, xh2, hb⟩; obtain ⟨xB0, xb0, rfl⟩ := Kd.R_slice xh0; have xj0 := RowE.mk xh0; have xq0 := LeI.mk (rowLe xj0); clear xh0; obtain ⟨xB1, xb1, rfl⟩ := Kd.R_slice xh1; have xj1 := RowE.mk xh1; have xq1 := LeI.mk (rowLe xj1); clear xh1; obtain ⟨xB2, xb2, rfl⟩ := Kd.R_slice xh2; have xj2 := RowE.mk xh2; have xq2 := LeI.mk (rowLe xj2); clear xh2; have jb := Bel.mk hb; clear hb; refine ⟨_, rfl, ?_⟩; refine hK.out _ _ From.out (fun hHeld => ?_); clear hK K; refine norm_ (a' := ?_) ?_ ?_; rotate_left; (focus (show Act.put _ (some 25) _ = _; simp only [Act.put, List.setIfInBounds_toArray, List.set_cons_zero, List.set_cons_succ, i64_w, i32_w]; rfl)); refine two_ (i := 3) (j := 9) (Ni := some 27) (Nj := some 8) (laws_FnExactShopFault.M5 [0, 1, 2, 3, 4]) (laws_FnExactShopFault.M5 [0, 1, 2, 4, 9]) rfl rfl rfl rfl (two_of HT_.out (by kernel_rfl)) (by decide) (by decide) (fun K hK => ?_) (fun K hK => ?_); (focus (refine goes_ Try.func37 (by kernel_rfl) rfl _ (by rfl) rfl rfl (by (try simp only [List.map_toArray, List.map_cons, List.map_nil]); rfl) ?_; refine (laws_toPipe.calls _ _ _ _ _ yA.out).mono ?_; rintro e u2 ⟨rfl, hb⟩; have jb := Bel.mk hb; clear hb; refine ⟨_, rfl, ?_⟩; refine hK.out _ _ From.out (fun hHeld => ?_); clear hK K; refine norm_ (a' := ?_) ?_ ?_; rotate_left; (focus (show Act.put _ (some 27) _ = _; simp only [Act.put, List.setIfInBounds_toArray, List.set_cons_zero, List.set_cons_succ, i64_w, i32_w]; rfl)); refine two_ (i := 5) (j := 9) (Ni := some 29) (Nj := some 8) (laws_FnExactShopFault.M5 [0, 1, 2, 3, 4, 5]) (laws_FnExactShopFault.M5 [0, 1, 2, 3, 4, 9]) rfl rfl rfl rfl (two_of HT_.out (by kernel_rfl)) (by decide) (by decide) (fun K hK => ?_) (fun K hK => ?_); (focus (refine goes_ Try.func36 (by kernel_rfl) rfl _ (by rfl) rfl rfl (by (try simp only [List.map_toArray, List.map_cons, List.map_nil]); rfl) ?_; refine (spec_ShopFault.calls _ _ _ _ _ _ _ _ _ _ _ _ _ _ _ _ _ _ _ _ _ _ _ _ Rd.out LeI.out Rd.out LeI.out Rd.out LeI.out zA.out).mono ?_; rintro e u3 ⟨zv0, zv1, zv2, rfl, zh0, zh1, zh2, hb⟩; obtain ⟨zB0, zb0, rfl⟩ := Kd.R_slice zh0; have zj0 := RowE.mk zh0; have zq0 := LeI.mk (rowLe zj0); clear zh0; obtain ⟨zB1, zb1, rfl⟩ := Kd.R_slice zh1; have zj1 := RowE.mk zh1; have zq1 := LeI.mk (rowLe zj1); clear zh1; obtain ⟨zB2, zb2, rfl⟩ := Kd.R_slice zh2; have zj2 := RowE.mk zh2; have zq2 := LeI.mk (rowLe zj2); clear zh2; have jb := Bel.mk hb; clear hb; refine ⟨_, rfl, ?_⟩; refine hK.out _ _ From.out (fun hHeld => ?_); clear hK K; refine norm_ (a' := ?_) ?_ ?_; rotate_left; (focus (show Act.put _ (some 29) _ = _; simp only [Act.put, List.setIfInBounds_toArray, List.set_cons_zero, List.set_cons_succ, i64_w, i32_w]; rfl)); refine pure_ (i := 6) (N := some 23) (v := ?_) (a' := ?_) (laws_FnExactShopFault.M5 [0, 1, 2, 3, 4, 5, 6]) rfl rfl (any_of HT_.out (by kernel_rfl)) (fun _ _ _ h => h) (Or.inl ⟨by rfl, ?_⟩) ?_ ?_; rotate_left; (focus (intro w'; go_simp; with_reducible rfl)); rotate_left; (focus (simp only [Act.put, List.setIfInBounds_toArray, List.set_cons_zero, List.set_cons_succ, i64_w, i32_w]; rfl)); refine pure_ (i := 7) (N := some 30) (v := ?_) (a' := ?_) (laws_FnExactShopFault.M5 [0, 1, 2, 3, 4, 5, 6, 7]) rfl rfl (any_of HT_.out (by kernel_rfl)) (fun _ _ _ h => h) (Or.inl ⟨by rfl, ?_⟩) ?_ ?_; rotate_left; (focus (intro w'; go_simp; with_reducible rfl)); rotate_left; (focus (simp only [Act.put, List.setIfInBounds_toArray, List.set_cons_zero, List.set_cons_succ, i64_w, i32_w]; rfl)); refine pure_ (i := 8) (N := some 31) (v := ?_) (a' := ?_) (laws_FnExactShopFault.M5 [0, 1, 2, 3, 4, 5, 6, 7, 8]) rfl rfl (any_of HT_.out (by kernel_rfl)) (fun _ _ _ h => h) (Or.inl ⟨by rfl, ?_⟩) ?_ ?_; rotate_left; (focus (intro w'; go_simp; with_reducible rfl)); rotate_left; (focus (simp only [Act.put, List.setIfInBounds_toArray, List.set_cons_zero, List.set_cons_succ, i64_w, i32_w]; rfl)); refine one_ (i := 9) (N := some 8) (laws_FnExactShopFault.M5 [0, 1, 2, 3, 4, 5, 6, 7, 8, 9]) rfl rfl (one_of HT_.out (by kernel_rfl)) (by decide) (fun K hK => ?_); refine box_step ?hg (N := 8) ?hd (cs := #[.slice none 0 0, .int .i64 0, .slice none 0 0, .int .i64 0, .int .i64 0, .slice none 0 0]) (t := 36) ?hr ?_; (case hd => rfl); (case hg => rfl); (case hr => first | (go_simp; done) | (go_simp; rfl)); intro g4 hg u4 hbox hb; have jb1 := Born.mk hg; have jb2 := Bel.mk hb; have jb3 := Blk.mk hbox; clear hg hb hbox; refine hK.out _ _ From.out (fun hHeld => ?_); clear hK K; refine norm_ (a' := ?_) ?_ ?_; rotate_left; (focus (show Act.put _ (some 8) _ = _; simp only [Act.put, List.setIfInBounds_toArray, List.set_cons_zero, List.set_cons_succ, i64_w, i32_w]; rfl)); exact norm_ (by simp only [putAll, Act.put, List.setIfInBounds_toArray, List.set_cons_zero, List.set_cons_succ]) (hCont ⟨xB0, xB1, xB2, zB0, zB1, zB2, xb0, xb1, xb2, zb0, zb1, zb2, u0, u1, u2, u3, u3, g4⟩ _ ⟨inferInstance, inferInstance, inferInstance, inferInstance, inferInstance, inferInstance, ⟨From.out⟩, ⟨From.out⟩, inferInstance, inferInstance, ⟨From.out⟩, ⟨From.out⟩, inferInstance, inferInstance, inferInstance, ⟨From.out⟩, ⟨From.out⟩, inferInstance, inferInstance, inferInstance, inferInstance⟩))); refine box_step ?hg (N := 8) ?hd (cs := #[.slice none 0 0, .int .i64 0, .slice none 0 0, .int .i64 0, .int .i64 0, .slice none 0 0]) (t := 36) ?hr ?_; (case hd => rfl); (case hg => rfl); (case hr => first | (go_simp; done) | (go_simp; rfl)); intro g5 hg u5 hbox hb; have jb1 := Born.mk hg; have jb2 := Bel.mk hb; have jb3 := Blk.mk hbox; clear hg hb hbox; refine hK.out _ _ From.out (fun hHeld => ?_); clear hK K; refine norm_ (a' := ?_) ?_ ?_; rotate_left; (focus (show Act.put _ (some 8) _ = _; simp only [Act.put, List.setIfInBounds_toArray, List.set_cons_zero, List.set_cons_succ, i64_w, i32_w]; rfl)); refine one_ (i := 5) (N := some 29) (laws_FnExactShopFault.M5 [0, 1, 2, 3, 4, 5, 9]) rfl rfl (one_of HT_.out (by kernel_rfl)) (by decide) (fun K hK => ?_); refine goes_ Try.func36 (by kernel_rfl) rfl _ (by rfl) rfl rfl (by (try simp only [List.map_toArray, List.map_cons, List.map_nil]); rfl) ?_; refine (spec_ShopFault.calls _ _ _ _ _ _ _ _ _ _ _ _ _ _ _ _ _ _ _ _ _ _ _ _ Rd.out LeI.out Rd.out LeI.out Rd.out LeI.out zA.out).mono ?_; rintro e u6 ⟨zv0, zv1, zv2, rfl, zh0, zh1, zh2, hb⟩; obtain ⟨zB0, zb0, rfl⟩ := Kd.R_slice zh0; have zj0 := RowE.mk zh0; have zq0 := LeI.mk (rowLe zj0); clear zh0; obtain ⟨zB1, zb1, rfl⟩ := Kd.R_slice zh1; have zj1 := RowE.mk zh1; have zq1 := LeI.mk (rowLe zj1); clear zh1; obtain ⟨zB2, zb2, rfl⟩ := Kd.R_slice zh2; have zj2 := RowE.mk zh2; have zq2 := LeI.mk (rowLe zj2); clear zh2; have jb := Bel.mk hb; clear hb; refine ⟨_, rfl, ?_⟩; refine hK.out _ _ From.out (fun hHeld => ?_); clear hK K; refine norm_ (a' := ?_) ?_ ?_; rotate_left; (focus (show Act.put _ (some 29) _ = _; simp only [Act.put, List.setIfInBounds_toArray, List.set_cons_zero, List.set_cons_succ, i64_w, i32_w]; rfl)); refine pure_ (i := 6) (N := some 23) (v := ?_) (a' := ?_) (laws_FnExactShopFault.M5 [0, 1, 2, 3, 4, 5, 6, 9]) rfl rfl (any_of HT_.out (by kernel_rfl)) (fun _ _ _ h => h) (Or.inl ⟨by rfl, ?_⟩) ?_ ?_; rotate_left; (focus (intro w'; go_simp; with_reducible rfl)); rotate_left; (focus (simp only [Act.put, List.setIfInBounds_toArray, List.set_cons_zero, List.set_cons_succ, i64_w, i32_w]; rfl)); refine pure_ (i := 7) (N := some 30) (v := ?_) (a' := ?_) (laws_FnExactShopFault.M5 [0, 1, 2, 3, 4, 5, 6, 7, 9]) rfl rfl (any_of HT_.out (by kernel_rfl)) (fun _ _ _ h => h) (Or.inl ⟨by rfl, ?_⟩) ?_ ?_; rotate_left; (focus (intro w'; go_simp; with_reducible rfl)); rotate_left; (focus (simp only [Act.put, List.setIfInBounds_toArray, List.set_cons_zero, List.set_cons_succ, i64_w, i32_w]; rfl)); refine pure_ (i := 8) (N := some 31) (v := ?_) (a' := ?_) (laws_FnExactShopFault.M5 [0, 1, 2, 3, 4, 5, 6, 7, 8, 9]) rfl rfl (any_of HT_.out (by kernel_rfl)) (fun _ _ _ h => h) (Or.inl ⟨by rfl, ?_⟩) ?_ ?_; rotate_left; (focus (intro w'; go_simp; with_reducible rfl)); rotate_left; (focus (simp only [Act.put, List.setIfInBounds_toArray, List.set_cons_zero, List.set_cons_succ, i64_w, i32_w]; rfl)); exact norm_ (by simp only [putAll, Act.put, List.setIfInBounds_toArray, List.set_cons_zero, List.set_cons_succ]) (hCont ⟨xB0, xB1, xB2, zB0, zB1, zB2, xb0, xb1, xb2, zb0, zb1, zb2, u0, u1, u5, u6, u2, g5⟩ _ ⟨inferInstance, inferInstance, inferInstance, inferInstance, inferInstance, inferInstance, ⟨From.out⟩, ⟨From.out⟩, inferInstance, inferInstance, ⟨From.out⟩, ⟨From.out⟩, inferInstance, inferInstance, inferInstance, ⟨From.out⟩, ⟨From.out⟩, inferInstance, inferInstance, inferInstance, inferInstance⟩))); refine box_step ?hg (N := 8) ?hd (cs := #[.slice none 0 0, .int .i64 0, .slice none 0 0, .int .i64 0, .int .i64 0, .slice none 0 0]) (t := 36) ?hr ?_; (case hd => rfl); (case hg => rfl); (case hr => first | (go_simp; done) | (go_simp; rfl)); intro g7 hg u7 hbox hb; have jb1 := Born.mk hg; have jb2 := Bel.mk hb; have jb3 := Blk.mk hbox; clear hg hb hbox; refine hK.out _ _ From.out (fun hHeld => ?_); clear hK K; refine norm_ (a' := ?_) ?_ ?_; rotate_left; (focus (show Act.put _ (some 8) _ = _; simp only [Act.put, List.setIfInBounds_toArray, List.set_cons_zero, List.set_cons_succ, i64_w, i32_w]; rfl)); refine one_ (i := 3) (N := some 27) (laws_FnExactShopFault.M5 [0, 1, 2, 3, 4, 9]) rfl rfl (one_of HT_.out (by kernel_rfl)) (by decide) (fun K hK => ?_); refine goes_ Try.func37 (by kernel_rfl) rfl _ (by rfl) rfl rfl (by (try simp only [List.map_toArray, List.map_cons, List.map_nil]); rfl) ?_; refine (laws_toPipe.calls _ _ _ _ _ yA.out).mono ?_; rintro e u8 ⟨rfl, hb⟩; have jb := Bel.mk hb; clear hb; refine ⟨_, rfl, ?_⟩; refine hK.out _ _ From.out (fun hHeld => ?_); clear hK K; refine norm_ (a' := ?_) ?_ ?_; rotate_left; (focus (show Act.put _ (some 27) _ = _; simp only [Act.put, List.setIfInBounds_toArray, List.set_cons_zero, List.set_cons_succ, i64_w, i32_w]; rfl)); refine one_ (i := 5) (N := some 29) (laws_FnExactShopFault.M5 [0, 1, 2, 3, 4, 5, 9]) rfl rfl (one_of HT_.out (by kernel_rfl)) (by decide) (fun K hK => ?_); refine goes_ Try.func36 (by kernel_rfl) rfl _ (by rfl) rfl rfl (by (try simp only [List.map_toArray, List.map_cons, List.map_nil]); rfl) ?_; refine (spec_ShopFault.calls _ _ _ _ _ _ _ _ _ _ _ _ _ _ _ _ _ _ _ _ _ _ _ _ Rd.out LeI.out Rd.out LeI.out Rd.out LeI.out zA.out).mono ?_; rintro e u9 ⟨zv0, zv1, zv2, rfl, zh0, zh1, zh2, hb⟩; obtain ⟨zB0, zb0, rfl⟩ := Kd.R_slice zh0; have zj0 := RowE.mk zh0; have zq0 := LeI.mk (rowLe zj0); clear zh0; obtain ⟨zB1, zb1, rfl⟩ := Kd.R_slice zh1; have zj1 := RowE.mk zh1; have zq1 := LeI.mk (rowLe zj1); clear zh1; obtain ⟨zB2, zb2, rfl⟩ := Kd.R_slice zh2; have zj2 := RowE.mk zh2; have zq2 := LeI.mk (rowLe zj2); clear zh2; have jb := Bel.mk hb; clear hb; refine ⟨_, rfl, ?_⟩; refine hK.out _ _ From.out (fun hHeld => ?_); clear hK K; refine norm_ (a' := ?_) ?_ ?_; rotate_left; (focus (show Act.put _ (some 29) _ = _; simp only [Act.put, List.setIfInBounds_toArray, List.set_cons_zero, List.set_cons_succ, i64_w, i32_w]; rfl)); refine pure_ (i := 6) (N := some 23) (v := ?_) (a' := ?_) (laws_FnExactShopFault.M5 [0, 1, 2, 3, 4, 5, 6, 9]) rfl rfl (any_of HT_.out (by kernel_rfl)) (fun _ _ _ h => h) (Or.inl ⟨by rfl, ?_⟩) ?_ ?_; rotate_left; (focus (intro w'; go_simp; with_reducible rfl)); rotate_left; (focus (simp only [Act.put, List.setIfInBounds_toArray, List.set_cons_zero, List.set_cons_succ, i64_w, i32_w]; rfl)); refine pure_ (i := 7) (N := some 30) (v := ?_) (a' := ?_) (laws_FnExactShopFault.M5 [0, 1, 2, 3, 4, 5, 6, 7, 9]) rfl rfl (any_of HT_.out (by kernel_rfl)) (fun _ _ _ h => h) (Or.inl ⟨by rfl, ?_⟩) ?_ ?_; rotate_left; (focus (intro w'; go_simp; with_reducible rfl)); rotate_left; (focus (simp only [Act.put, List.setIfInBounds_toArray, List.set_cons_zero, List.set_cons_succ, i64_w, i32_w]; rfl)); refine pure_ (i := 8) (N := some 31) (v := ?_) (a' := ?_) (laws_FnExactShopFault.M5 [0, 1, 2, 3, 4, 5, 6, 7, 8, 9]) rfl rfl (any_of HT_.out (by kernel_rfl)) (fun _ _ _ h => h) (Or.inl ⟨by rfl, ?_⟩) ?_ ?_; rotate_left; (focus (intro w'; go_simp; with_reducible rfl)); rotate_left; (focus (simp only [Act.put, List.setIfInBounds_toArray, List.set_cons_zero, List.set_cons_succ, i64_w, i32_w]; rfl)); exact norm_ (by simp only [putAll, Act.put, List.setIfInBounds_toArray, List.set_cons_zero, List.set_cons_succ]) (hCont ⟨xB0, xB1, xB2, zB0, zB1, zB2, xb0, xb1, xb2, zb0, zb1, zb2, u0, u1, u8, u9, u1, g7⟩ _ ⟨inferInstance, inferInstance, inferInstance, inferInstance, inferInstance, inferInstance, ⟨From.out⟩, ⟨From.out⟩, inferInstance, inferInstance, ⟨From.out⟩, ⟨From.out⟩, inferInstance, inferInstance, inferInstance, ⟨From.out⟩, ⟨From.out⟩, inferInstance, inferInstance, inferInstance, inferInstance⟩))); refine box_step ?hg (N := 8) ?hd (cs := #[.slice none 0 0, .int .i64 0, .slice none 0 0, .int .i64 0, .int .i64 0, .slice none 0 0]) (t := 36) ?hr ?_; (case hd => rfl); (case hg => rfl); (case hr => first | (go_simp; done) | (go_simp; rfl)); intro g10 hg u10 hbox hb; have jb1 := Born.mk hg; have jb2 := Bel.mk hb; have jb3 := Blk.mk hbox; clear hg hb hbox; refine hK.out _ _ From.out (fun hHeld => ?_); clear hK K; refine norm_ (a' := ?_) ?_ ?_; rotate_left; (focus (show Act.put _ (some 8) _ = _; simp only [Act.put, List.setIfInBounds_toArray, List.set_cons_zero, List.set_cons_succ, i64_w, i32_w]; rfl)); refine one_ (i := 1) (N := some 25) (laws_FnExactShopFault.M5 [0, 1, 2, 4, 9]) rfl rfl (one_of HT_.out (by kernel_rfl)) (by decide) (fun K hK => ?_); refine goes_ Try.func17 (by kernel_rfl) rfl _ (by rfl) rfl rfl (by (try simp only [List.map_toArray, List.map_cons, List.map_nil]); rfl) ?_; refine (laws_toShop.calls _ _ _ _ _ _ _ _ _ _ _ _ _ _ _ _ _ _ _ _ Rd.out LeI.out Rd.out LeI.out Rd.out LeI.out xA.out).mono ?_; rintro e u11 ⟨xv0, xv1, xv2, rfl, xh0, xh1, xh2, hb⟩; obtain ⟨xB0, xb0, rfl⟩ := Kd.R_slice xh0; have xj0 := RowE.mk xh0; have xq0 := LeI.mk (rowLe xj0); clear xh0; obtain ⟨xB1, xb1, rfl⟩ := Kd.R_slice xh1; have xj1 := RowE.mk xh1; have xq1 := LeI.mk (rowLe xj1); clear xh1; obtain ⟨xB2, xb2, rfl⟩ := Kd.R_slice xh2; have xj2 := RowE.mk xh2; have xq2 := LeI.mk (rowLe xj2); clear xh2; have jb := Bel.mk hb; clear hb; refine ⟨_, rfl, ?_⟩; refine hK.out _ _ From.out (fun hHeld => ?_); clear hK K; refine norm_ (a' := ?_) ?_ ?_; rotate_left; (focus (show Act.put _ (some 25) _ = _; simp only [Act.put, List.setIfInBounds_toArray, List.set_cons_zero, List.set_cons_succ, i64_w, i32_w]; rfl)); refine one_ (i := 3) (N := some 27) (laws_FnExactShopFault.M5 [0, 1, 2, 3, 4, 9]) rfl rfl (one_of HT_.out (by kernel_rfl)) (by decide) (fun K hK => ?_); refine goes_ Try.func37 (by kernel_rfl) rfl _ (by rfl) rfl rfl (by (try simp only [List.map_toArray, List.map_cons, List.map_nil]); rfl) ?_; refine (laws_toPipe.calls _ _ _ _ _ yA.out).mono ?_; rintro e u12 ⟨rfl, hb⟩; have jb := Bel.mk hb; clear hb; refine ⟨_, rfl, ?_⟩; refine hK.out _ _ From.out (fun hHeld => ?_); clear hK K; refine norm_ (a' := ?_) ?_ ?_; rotate_left; (focus (show Act.put _ (some 27) _ = _; simp only [Act.put, List.setIfInBounds_toArray, List.set_cons_zero, List.set_cons_succ, i64_w, i32_w]; rfl)); refine one_ (i := 5) (N := some 29) (laws_FnExactShopFault.M5 [0, 1, 2, 3, 4, 5, 9]) rfl rfl (one_of HT_.out (by kernel_rfl)) (by decide) (fun K hK => ?_); refine goes_ Try.func36 (by kernel_rfl) rfl _ (by rfl) rfl rfl (by (try simp only [List.map_toArray, List.map_cons, List.map_nil]); rfl) ?_; refine (spec_ShopFault.calls _ _ _ _ _ _ _ _ _ _ _ _ _ _ _ _ _ _ _ _ _ _ _ _ Rd.out LeI.out Rd.out LeI.out Rd.out LeI.out zA.out).mono ?_; rintro e u13 ⟨zv0, zv1, zv2, rfl, zh0, zh1, zh2, hb⟩; obtain ⟨zB0, zb0, rfl⟩ := Kd.R_slice zh0; have zj0 := RowE.mk zh0; have zq0 := LeI.mk (rowLe zj0); clear zh0; obtain ⟨zB1, zb1, rfl⟩ := Kd.R_slice zh1; have zj1 := RowE.mk zh1; have zq1 := LeI.mk (rowLe zj1); clear zh1; obtain ⟨zB2, zb2, rfl⟩ := Kd.R_slice zh2; have zj2 := RowE.mk zh2; have zq2 := LeI.mk (rowLe zj2); clear zh2; have jb := Bel.mk hb; clear hb; refine ⟨_, rfl, ?_⟩; refine hK.out _ _ From.out (fun hHeld => ?_); clear hK K; refine norm_ (a' := ?_) ?_ ?_; rotate_left; (focus (show Act.put _ (some 29) _ = _; simp only [Act.put, List.setIfInBounds_toArray, List.set_cons_zero, List.set_cons_succ, i64_w, i32_w]; rfl)); refine pure_ (i := 6) (N := some 23) (v := ?_) (a' := ?_) (laws_FnExactShopFault.M5 [0, 1, 2, 3, 4, 5, 6, 9]) rfl rfl (any_of HT_.out (by kernel_rfl)) (fun _ _ _ h => h) (Or.inl ⟨by rfl, ?_⟩) ?_ ?_; rotate_left; (focus (intro w'; go_simp; with_reducible rfl)); rotate_left; (focus (simp only [Act.put, List.setIfInBounds_toArray, List.set_cons_zero, List.set_cons_succ, i64_w, i32_w]; rfl)); refine pure_ (i := 7) (N := some 30) (v := ?_) (a' := ?_) (laws_FnExactShopFault.M5 [0, 1, 2, 3, 4, 5, 6, 7, 9]) rfl rfl (any_of HT_.out (by kernel_rfl)) (fun _ _ _ h => h) (Or.inl ⟨by rfl, ?_⟩) ?_ ?_; rotate_left; (focus (intro w'; go_simp; with_reducible rfl)); rotate_left; (focus (simp only [Act.put, List.setIfInBounds_toArray, List.set_cons_zero, List.set_cons_succ, i64_w, i32_w]; rfl)); refine pure_ (i := 8) (N := some 31) (v := ?_) (a' := ?_) (laws_FnExactShopFault.M5 [0, 1, 2, 3, 4, 5, 6, 7, 8, 9]) rfl rfl (any_of HT_.out (by kernel_rfl)) (fun _ _ _ h => h) (Or.inl ⟨by rfl, ?_⟩) ?_ ?_; rotate_left; (focus (intro w'; go_simp; with_reducible rfl)); rotate_left; (focus (simp only [Act.put, List.setIfInBounds_toArray, List.set_cons_zero, List.set_cons_succ, i64_w, i32_w]; rfl)); exact norm_ (by simp only [putAll, Act.put, List.setIfInBounds_toArray, List.set_cons_zero, List.set_cons_succ]) (hCont ⟨xB0, xB1, xB2, zB0, zB1, zB2, xb0, xb1, xb2, zb0, zb1, zb2, u10, u11, u12, u13, u0, g10⟩ _ ⟨inferInstance, inferInstance, inferInstance, inferInstance, inferInstance, inferInstance, ⟨From.out⟩, ⟨From.out⟩, inferInstance, inferInstance, ⟨From.out⟩, ⟨From.out⟩, inferInstance, inferInstance, inferInstance, ⟨From.out⟩, ⟨From.out⟩, inferInstance, inferInstance, inferInstance, inferInstance⟩))); rintro ⟨xB0, xB1, xB2, zB0, zB1, zB2, xb0, xb1, xb2, zb0, zb1, zb2, xwa, xwb, zwa, zwb, wx, g⟩ w' ⟨xj0, xj1, xj2, zj0, zj1, zj2, jw1, jw2, jw3, jw4, xk1, xk2, xk3, xk4, xk5, zk1, zk2, zk3, zk4, zk5, kk⟩; dsimp only at xj0 xj1 xj2 zj0 zj1 zj2 jw1 jw2 jw3 jw4 xk1 xk2 xk3 xk4 xk5 zk1 zk2 zk3 zk4 zk5 kk ⊢; have xj0q := LeI.mk (rowLe xj0); have xj1q := LeI.mk (rowLe xj1); have xj2q := LeI.mk (rowLe xj2); have zj0q := LeI.mk (rowLe zj0); have zj1q := LeI.mk (rowLe zj1); have zj2q := LeI.mk (rowLe zj2); refine norm_ (a' := ?_) ?_ ?_; rotate_left; (focus (simp only [putAll, Act.put, List.setIfInBounds_toArray, List.set_cons_zero, List.set_cons_succ]; rfl)); refine one_ (i := 10) (N := none) (laws_FnExactShopFault.M5 [0, 1, 2, 3, 4, 5, 6, 7, 8, 9, 10]) rfl rfl (one_of HT_.out (by kernel_rfl)) (by decide) (fun K hK => ?_); refine skip_ (w1 := ?_) (by rfl) rfl ?_ ?_; rotate_left; (focus (go_simp; rfl)); refine hK.out _ _ From.out (fun hHeld => ?_); clear hK K; refine pure_ (i := 11) (N := some 9) (v := ?_) (a' := ?_) (laws_FnExactShopFault.M5 [0, 1, 2, 3, 4, 5, 6, 7, 8, 9, 10, 11]) rfl rfl (any_of HT_.out (by kernel_rfl)) (fun _ _ _ h => h) (Or.inl ⟨by rfl, ?_⟩) ?_ ?_; rotate_left; (focus (intro w'; go_simp; with_reducible rfl)); rotate_left; (focus (simp only [Act.put, List.setIfInBounds_toArray, List.set_cons_zero, List.set_cons_succ, i64_w, i32_w]; rfl)); refine done_ (done_of HT_.out (by kernel_rfl)) ?_)
    | ((with_reducible refine region_at (id := 7) ?_); intro w3 jw; replace h := Option.bind_eq_some_iff.mp h; obtain ⟨⟨y1, y2⟩, yA, h⟩ := h; (try dsimp only at h); replace yA := Aside0.mk yA; replace h := Option.bind_eq_some_iff.mp h; obtain ⟨⟨z1, z2, z3, z4, z5, z6, z7⟩, zA, h⟩ := h; (try dsimp only at h); replace zA := Aside0.mk zA; refine start_ (n := 11) (S := fun w' => Below w3.heap.size w3 w') (ds := []) (laws_FnExactShopFault.M7 []) (by kernel_rfl) rfl (by kernel_rfl) From.out (fun hHeld => ?_); refine with_tabW laws_FnExactShopFault.tab7 laws_FnExactShopFault.bits7 (fun HT_ HW_ => ?_); obtain ⟨u0, hu0⟩ : ∃ u, w3.drew = u := ⟨_, rfl⟩; rw [hu0] at hHeld ⊢; have iu : Bel w3 u0 := ⟨hHeld⟩; clear hu0; refine pure_ (i := 3) (N := some 38) (v := ?_) (a' := ?_) (laws_FnExactShopFault.M7 [3]) rfl rfl (any_of HT_.out (by kernel_rfl)) (fun _ _ _ h => h) (Or.inl ⟨by rfl, ?_⟩) ?_ ?_; rotate_left; (focus (intro w'; go_simp; with_reducible rfl)); rotate_left; (focus (simp only [Act.put, List.setIfInBounds_toArray, List.set_cons_zero, List.set_cons_succ, i64_w, i32_w]; rfl)); refine take_ (i := 0) (N := some 35) (v := ?_) (a' := ?_) (laws_FnExactShopFault.M7 [0, 3]) rfl rfl (take_ofW HT_.out HW_.out (by kernel_rfl)) (fun _ _ _ h => h) (Or.inl ⟨by rfl, ?_⟩) hHeld ?_ ?_; rotate_left; (focus (intro w' hS; have jS : Sin w3 w' := ⟨hS⟩; go_simp; with_reducible rfl)); rotate_left; (focus (simp only [Act.put, List.setIfInBounds_toArray, List.set_cons_zero, List.set_cons_succ, i64_w, i32_w]; rfl)); refine take_ (i := 1) (N := some 36) (v := ?_) (a' := ?_) (laws_FnExactShopFault.M7 [0, 1, 3]) rfl rfl (take_ofW HT_.out HW_.out (by kernel_rfl)) (fun _ _ _ h => h) (Or.inl ⟨by rfl, ?_⟩) hHeld ?_ ?_; rotate_left; (focus (intro w' hS; have jS : Sin w3 w' := ⟨hS⟩; go_simp; with_reducible rfl)); rotate_left; (focus (simp only [Act.put, List.setIfInBounds_toArray, List.set_cons_zero, List.set_cons_succ, i64_w, i32_w]; rfl)); refine join_ (σ := laws_FnExactShopFault.J7) 2 (laws_FnExactShopFault.M7 [0, 1, 2, 3, 4, 5, 6, 7, 8]) (fun s => [(37, .agg #[.int .i64 y1, .int .i64 y2]), (39, .tuple #[.agg #[.slice s.zB0 z1.length s.zb0, .int .i64 z2, .slice s.zB1 z3.length s.zb1, .int .i64 z4, .int .i64 z5, .slice s.zB2 z6.length s.zb2], .bool z7]), (11, .pointer (some ⟨s.g, 0, none⟩)), (34, .tuple #[.agg #[.slice s.zB0 z1.length s.zb0, .int .i64 z2, .slice s.zB1 z3.length s.zb1, .int .i64 z4, .int .i64 z5, .slice s.zB2 z6.length s.zb2], .bool z7]), (40, .agg #[.slice s.zB0 z1.length s.zb0, .int .i64 z2, .slice s.zB1 z3.length s.zb1, .int .i64 z4, .int .i64 z5, .slice s.zB2 z6.length s.zb2]), (41, .bool z7)]) (fun s w' => RowE k96 96 s.zwa s.zwb s.zB0 s.zb0 z1 ∧ RowE (Kd.int .i64) 3 s.zwa s.zwb s.zB1 s.zb1 z3 ∧ RowE k74 74 s.zwa s.zwb s.zB2 s.zb2 z6 ∧ Bel w3 w' ∧ Bel w3 s.wx ∧ Born s.wx s.g ∧ Blk w' s.g #[.slice none 0 0, .int .i64 0, .slice none 0 0, .int .i64 0, .int .i64 0, .slice none 0 0] 36 ∧ Bel w3 s.zwa ∧ Bel s.zwa s.zwb ∧ Keep s.zwa s.zwb w' ∧ Off s.zwa s.zwb s.g ∧ Sz s.zwb w') ?_ ?_; rotate_left; (focus (intro hCont; refine two_ (i := 2) (j := 8) (Ni := some 37) (Nj := some 11) (laws_FnExactShopFault.M7 [0, 1, 2, 3]) (laws_FnExactShopFault.M7 [0, 1, 3, 8]) rfl rfl rfl rfl (two_of HT_.out (by kernel_rfl)) (by decide) (by decide) (fun K hK => ?_) (fun K hK => ?_); (focus (refine goes_ Try.func37 (by kernel_rfl) rfl _ (by rfl) rfl rfl (by (try simp only [List.map_toArray, List.map_cons, List.map_nil]); rfl) ?_; refine (laws_toPipe.calls _ _ _ _ _ yA.out).mono ?_; rintro e u1 ⟨rfl, hb⟩; have jb := Bel.mk hb; clear hb; refine ⟨_, rfl, ?_⟩; refine hK.out _ _ From.out (fun hHeld => ?_); clear hK K; refine norm_ (a' := ?_) ?_ ?_; rotate_left; (focus (show Act.put _ (some 37) _ = _; simp only [Act.put, List.setIfInBounds_toArray, List.set_cons_zero, List.set_cons_succ, i64_w, i32_w]; rfl)); refine two_ (i := 4) (j := 8) (Ni := some 39) (Nj := some 11) (laws_FnExactShopFault.M7 [0, 1, 2, 3, 4]) (laws_FnExactShopFault.M7 [0, 1, 2, 3, 8]) rfl rfl rfl rfl (two_of HT_.out (by kernel_rfl)) (by decide) (by decide) (fun K hK => ?_) (fun K hK => ?_); (focus (refine goes_ Try.func38 (by kernel_rfl) rfl _ (by rfl) rfl rfl (by (try simp only [List.map_toArray, List.map_cons, List.map_nil]); rfl) ?_; refine (impl_ShopFault.calls _ _ _ _ _ _ _ _ _ _ _ _ _ _ _ _ _ _ _ _ _ _ _ _ Rd.out LeI.out Rd.out LeI.out Rd.out LeI.out zA.out).mono ?_; rintro e u2 ⟨zv0, zv1, zv2, rfl, zh0, zh1, zh2, hb⟩; obtain ⟨zB0, zb0, rfl⟩ := Kd.R_slice zh0; have zj0 := RowE.mk zh0; have zq0 := LeI.mk (rowLe zj0); clear zh0; obtain ⟨zB1, zb1, rfl⟩ := Kd.R_slice zh1; have zj1 := RowE.mk zh1; have zq1 := LeI.mk (rowLe zj1); clear zh1; obtain ⟨zB2, zb2, rfl⟩ := Kd.R_slice zh2; have zj2 := RowE.mk zh2; have zq2 := LeI.mk (rowLe zj2); clear zh2; have jb := Bel.mk hb; clear hb; refine ⟨_, rfl, ?_⟩; refine hK.out _ _ From.out (fun hHeld => ?_); clear hK K; refine norm_ (a' := ?_) ?_ ?_; rotate_left; (focus (show Act.put _ (some 39) _ = _; simp only [Act.put, List.setIfInBounds_toArray, List.set_cons_zero, List.set_cons_succ, i64_w, i32_w]; rfl)); refine pure_ (i := 5) (N := some 34) (v := ?_) (a' := ?_) (laws_FnExactShopFault.M7 [0, 1, 2, 3, 4, 5]) rfl rfl (any_of HT_.out (by kernel_rfl)) (fun _ _ _ h => h) (Or.inl ⟨by rfl, ?_⟩) ?_ ?_; rotate_left; (focus (intro w'; go_simp; with_reducible rfl)); rotate_left; (focus (simp only [Act.put, List.setIfInBounds_toArray, List.set_cons_zero, List.set_cons_succ, i64_w, i32_w]; rfl)); refine pure_ (i := 6) (N := some 40) (v := ?_) (a' := ?_) (laws_FnExactShopFault.M7 [0, 1, 2, 3, 4, 5, 6]) rfl rfl (any_of HT_.out (by kernel_rfl)) (fun _ _ _ h => h) (Or.inl ⟨by rfl, ?_⟩) ?_ ?_; rotate_left; (focus (intro w'; go_simp; with_reducible rfl)); rotate_left; (focus (simp only [Act.put, List.setIfInBounds_toArray, List.set_cons_zero, List.set_cons_succ, i64_w, i32_w]; rfl)); refine pure_ (i := 7) (N := some 41) (v := ?_) (a' := ?_) (laws_FnExactShopFault.M7 [0, 1, 2, 3, 4, 5, 6, 7]) rfl rfl (any_of HT_.out (by kernel_rfl)) (fun _ _ _ h => h) (Or.inl ⟨by rfl, ?_⟩) ?_ ?_; rotate_left; (focus (intro w'; go_simp; with_reducible rfl)); rotate_left; (focus (simp only [Act.put, List.setIfInBounds_toArray, List.set_cons_zero, List.set_cons_succ, i64_w, i32_w]; rfl)); refine one_ (i := 8) (N := some 11) (laws_FnExactShopFault.M7 [0, 1, 2, 3, 4, 5, 6, 7, 8]) rfl rfl (one_of HT_.out (by kernel_rfl)) (by decide) (fun K hK => ?_); refine box_step ?hg (N := 11) ?hd (cs := #[.slice none 0 0, .int .i64 0, .slice none 0 0, .int .i64 0, .int .i64 0, .slice none 0 0]) (t := 36) ?hr ?_; (case hd => rfl); (case hg => rfl); (case hr => first | (go_simp; done) | (go_simp; rfl)); intro g3 hg u3 hbox hb; have jb1 := Born.mk hg; have jb2 := Bel.mk hb; have jb3 := Blk.mk hbox; clear hg hb hbox; refine hK.out _ _ From.out (fun hHeld => ?_); clear hK K; refine norm_ (a' := ?_) ?_ ?_; rotate_left; (focus (show Act.put _ (some 11) _ = _; simp only [Act.put, List.setIfInBounds_toArray, List.set_cons_zero, List.set_cons_succ, i64_w, i32_w]; rfl)); exact norm_ (by simp only [putAll, Act.put, List.setIfInBounds_toArray, List.set_cons_zero, List.set_cons_succ]) (hCont ⟨zB0, zB1, zB2, zb0, zb1, zb2, u1, u2, u2, g3⟩ _ ⟨inferInstance, inferInstance, inferInstance, ⟨From.out⟩, ⟨From.out⟩, inferInstance, inferInstance, ⟨From.out⟩, ⟨From.out⟩, inferInstance, inferInstance, inferInstance⟩))); refine box_step ?hg (N := 11) ?hd (cs := #[.slice none 0 0, .int .i64 0, .slice none 0 0, .int .i64 0, .int .i64 0, .slice none 0 0]) (t := 36) ?hr ?_; (case hd => rfl); (case hg => rfl); (case hr => first | (go_simp; done) | (go_simp; rfl)); intro g4 hg u4 hbox hb; have jb1 := Born.mk hg; have jb2 := Bel.mk hb; have jb3 := Blk.mk hbox; clear hg hb hbox; refine hK.out _ _ From.out (fun hHeld => ?_); clear hK K; refine norm_ (a' := ?_) ?_ ?_; rotate_left; (focus (show Act.put _ (some 11) _ = _; simp only [Act.put, List.setIfInBounds_toArray, List.set_cons_zero, List.set_cons_succ, i64_w, i32_w]; rfl)); refine one_ (i := 4) (N := some 39) (laws_FnExactShopFault.M7 [0, 1, 2, 3, 4, 8]) rfl rfl (one_of HT_.out (by kernel_rfl)) (by decide) (fun K hK => ?_); refine goes_ Try.func38 (by kernel_rfl) rfl _ (by rfl) rfl rfl (by (try simp only [List.map_toArray, List.map_cons, List.map_nil]); rfl) ?_; refine (impl_ShopFault.calls _ _ _ _ _ _ _ _ _ _ _ _ _ _ _ _ _ _ _ _ _ _ _ _ Rd.out LeI.out Rd.out LeI.out Rd.out LeI.out zA.out).mono ?_; rintro e u5 ⟨zv0, zv1, zv2, rfl, zh0, zh1, zh2, hb⟩; obtain ⟨zB0, zb0, rfl⟩ := Kd.R_slice zh0; have zj0 := RowE.mk zh0; have zq0 := LeI.mk (rowLe zj0); clear zh0; obtain ⟨zB1, zb1, rfl⟩ := Kd.R_slice zh1; have zj1 := RowE.mk zh1; have zq1 := LeI.mk (rowLe zj1); clear zh1; obtain ⟨zB2, zb2, rfl⟩ := Kd.R_slice zh2; have zj2 := RowE.mk zh2; have zq2 := LeI.mk (rowLe zj2); clear zh2; have jb := Bel.mk hb; clear hb; refine ⟨_, rfl, ?_⟩; refine hK.out _ _ From.out (fun hHeld => ?_); clear hK K; refine norm_ (a' := ?_) ?_ ?_; rotate_left; (focus (show Act.put _ (some 39) _ = _; simp only [Act.put, List.setIfInBounds_toArray, List.set_cons_zero, List.set_cons_succ, i64_w, i32_w]; rfl)); refine pure_ (i := 5) (N := some 34) (v := ?_) (a' := ?_) (laws_FnExactShopFault.M7 [0, 1, 2, 3, 4, 5, 8]) rfl rfl (any_of HT_.out (by kernel_rfl)) (fun _ _ _ h => h) (Or.inl ⟨by rfl, ?_⟩) ?_ ?_; rotate_left; (focus (intro w'; go_simp; with_reducible rfl)); rotate_left; (focus (simp only [Act.put, List.setIfInBounds_toArray, List.set_cons_zero, List.set_cons_succ, i64_w, i32_w]; rfl)); refine pure_ (i := 6) (N := some 40) (v := ?_) (a' := ?_) (laws_FnExactShopFault.M7 [0, 1, 2, 3, 4, 5, 6, 8]) rfl rfl (any_of HT_.out (by kernel_rfl)) (fun _ _ _ h => h) (Or.inl ⟨by rfl, ?_⟩) ?_ ?_; rotate_left; (focus (intro w'; go_simp; with_reducible rfl)); rotate_left; (focus (simp only [Act.put, List.setIfInBounds_toArray, List.set_cons_zero, List.set_cons_succ, i64_w, i32_w]; rfl)); refine pure_ (i := 7) (N := some 41) (v := ?_) (a' := ?_) (laws_FnExactShopFault.M7 [0, 1, 2, 3, 4, 5, 6, 7, 8]) rfl rfl (any_of HT_.out (by kernel_rfl)) (fun _ _ _ h => h) (Or.inl ⟨by rfl, ?_⟩) ?_ ?_; rotate_left; (focus (intro w'; go_simp; with_reducible rfl)); rotate_left; (focus (simp only [Act.put, List.setIfInBounds_toArray, List.set_cons_zero, List.set_cons_succ, i64_w, i32_w]; rfl)); exact norm_ (by simp only [putAll, Act.put, List.setIfInBounds_toArray, List.set_cons_zero, List.set_cons_succ]) (hCont ⟨zB0, zB1, zB2, zb0, zb1, zb2, u4, u5, u1, g4⟩ _ ⟨inferInstance, inferInstance, inferInstance, ⟨From.out⟩, ⟨From.out⟩, inferInstance, inferInstance, ⟨From.out⟩, ⟨From.out⟩, inferInstance, inferInstance, inferInstance⟩))); refine box_step ?hg (N := 11) ?hd (cs := #[.slice none 0 0, .int .i64 0, .slice none 0 0, .int .i64 0, .int .i64 0, .slice none 0 0]) (t := 36) ?hr ?_; (case hd => rfl); (case hg => rfl); (case hr => first | (go_simp; done) | (go_simp; rfl)); intro g6 hg u6 hbox hb; have jb1 := Born.mk hg; have jb2 := Bel.mk hb; have jb3 := Blk.mk hbox; clear hg hb hbox; refine hK.out _ _ From.out (fun hHeld => ?_); clear hK K; refine norm_ (a' := ?_) ?_ ?_; rotate_left; (focus (show Act.put _ (some 11) _ = _; simp only [Act.put, List.setIfInBounds_toArray, List.set_cons_zero, List.set_cons_succ, i64_w, i32_w]; rfl)); refine one_ (i := 2) (N := some 37) (laws_FnExactShopFault.M7 [0, 1, 2, 3, 8]) rfl rfl (one_of HT_.out (by kernel_rfl)) (by decide) (fun K hK => ?_); refine goes_ Try.func37 (by kernel_rfl) rfl _ (by rfl) rfl rfl (by (try simp only [List.map_toArray, List.map_cons, List.map_nil]); rfl) ?_; refine (laws_toPipe.calls _ _ _ _ _ yA.out).mono ?_; rintro e u7 ⟨rfl, hb⟩; have jb := Bel.mk hb; clear hb; refine ⟨_, rfl, ?_⟩; refine hK.out _ _ From.out (fun hHeld => ?_); clear hK K; refine norm_ (a' := ?_) ?_ ?_; rotate_left; (focus (show Act.put _ (some 37) _ = _; simp only [Act.put, List.setIfInBounds_toArray, List.set_cons_zero, List.set_cons_succ, i64_w, i32_w]; rfl)); refine one_ (i := 4) (N := some 39) (laws_FnExactShopFault.M7 [0, 1, 2, 3, 4, 8]) rfl rfl (one_of HT_.out (by kernel_rfl)) (by decide) (fun K hK => ?_); refine goes_ Try.func38 (by kernel_rfl) rfl _ (by rfl) rfl rfl (by (try simp only [List.map_toArray, List.map_cons, List.map_nil]); rfl) ?_; refine (impl_ShopFault.calls _ _ _ _ _ _ _ _ _ _ _ _ _ _ _ _ _ _ _ _ _ _ _ _ Rd.out LeI.out Rd.out LeI.out Rd.out LeI.out zA.out).mono ?_; rintro e u8 ⟨zv0, zv1, zv2, rfl, zh0, zh1, zh2, hb⟩; obtain ⟨zB0, zb0, rfl⟩ := Kd.R_slice zh0; have zj0 := RowE.mk zh0; have zq0 := LeI.mk (rowLe zj0); clear zh0; obtain ⟨zB1, zb1, rfl⟩ := Kd.R_slice zh1; have zj1 := RowE.mk zh1; have zq1 := LeI.mk (rowLe zj1); clear zh1; obtain ⟨zB2, zb2, rfl⟩ := Kd.R_slice zh2; have zj2 := RowE.mk zh2; have zq2 := LeI.mk (rowLe zj2); clear zh2; have jb := Bel.mk hb; clear hb; refine ⟨_, rfl, ?_⟩; refine hK.out _ _ From.out (fun hHeld => ?_); clear hK K; refine norm_ (a' := ?_) ?_ ?_; rotate_left; (focus (show Act.put _ (some 39) _ = _; simp only [Act.put, List.setIfInBounds_toArray, List.set_cons_zero, List.set_cons_succ, i64_w, i32_w]; rfl)); refine pure_ (i := 5) (N := some 34) (v := ?_) (a' := ?_) (laws_FnExactShopFault.M7 [0, 1, 2, 3, 4, 5, 8]) rfl rfl (any_of HT_.out (by kernel_rfl)) (fun _ _ _ h => h) (Or.inl ⟨by rfl, ?_⟩) ?_ ?_; rotate_left; (focus (intro w'; go_simp; with_reducible rfl)); rotate_left; (focus (simp only [Act.put, List.setIfInBounds_toArray, List.set_cons_zero, List.set_cons_succ, i64_w, i32_w]; rfl)); refine pure_ (i := 6) (N := some 40) (v := ?_) (a' := ?_) (laws_FnExactShopFault.M7 [0, 1, 2, 3, 4, 5, 6, 8]) rfl rfl (any_of HT_.out (by kernel_rfl)) (fun _ _ _ h => h) (Or.inl ⟨by rfl, ?_⟩) ?_ ?_; rotate_left; (focus (intro w'; go_simp; with_reducible rfl)); rotate_left; (focus (simp only [Act.put, List.setIfInBounds_toArray, List.set_cons_zero, List.set_cons_succ, i64_w, i32_w]; rfl)); refine pure_ (i := 7) (N := some 41) (v := ?_) (a' := ?_) (laws_FnExactShopFault.M7 [0, 1, 2, 3, 4, 5, 6, 7, 8]) rfl rfl (any_of HT_.out (by kernel_rfl)) (fun _ _ _ h => h) (Or.inl ⟨by rfl, ?_⟩) ?_ ?_; rotate_left; (focus (intro w'; go_simp; with_reducible rfl)); rotate_left; (focus (simp only [Act.put, List.setIfInBounds_toArray, List.set_cons_zero, List.set_cons_succ, i64_w, i32_w]; rfl)); exact norm_ (by simp only [putAll, Act.put, List.setIfInBounds_toArray, List.set_cons_zero, List.set_cons_succ]) (hCont ⟨zB0, zB1, zB2, zb0, zb1, zb2, u7, u8, u0, g6⟩ _ ⟨inferInstance, inferInstance, inferInstance, ⟨From.out⟩, ⟨From.out⟩, inferInstance, inferInstance, ⟨From.out⟩, ⟨From.out⟩, inferInstance, inferInstance, inferInstance⟩))); rintro ⟨zB0, zB1, zB2, zb0, zb1, zb2, zwa, zwb, wx, g⟩ w' ⟨zj0, zj1, zj2, jw1, jw2, jw3, jw4, zk1, zk2, zk3, zk4, zk5⟩; dsimp only at zj0 zj1 zj2 jw1 jw2 jw3 jw4 zk1 zk2 zk3 zk4 zk5 ⊢; have zj0q := LeI.mk (rowLe zj0); have zj1q := LeI.mk (rowLe zj1); have zj2q := LeI.mk (rowLe zj2); refine norm_ (a' := ?_) ?_ ?_; rotate_left; (focus (simp only [putAll, Act.put, List.setIfInBounds_toArray, List.set_cons_zero, List.set_cons_succ]; rfl)); refine one_ (i := 9) (N := none) (laws_FnExactShopFault.M7 [0, 1, 2, 3, 4, 5, 6, 7, 8, 9]) rfl rfl (one_of HT_.out (by kernel_rfl)) (by decide) (fun K hK => ?_); refine skip_ (w1 := ?_) (by rfl) rfl ?_ ?_; rotate_left; (focus (go_simp; rfl)); refine hK.out _ _ From.out (fun hHeld => ?_); clear hK K; refine pure_ (i := 10) (N := some 12) (v := ?_) (a' := ?_) (laws_FnExactShopFault.M7 [0, 1, 2, 3, 4, 5, 6, 7, 8, 9, 10]) rfl rfl (any_of HT_.out (by kernel_rfl)) (fun _ _ _ h => h) (Or.inl ⟨by rfl, ?_⟩) ?_ ?_; rotate_left; (focus (intro w'; go_simp; with_reducible rfl)); rotate_left; (focus (simp only [Act.put, List.setIfInBounds_toArray, List.set_cons_zero, List.set_cons_succ, i64_w, i32_w]; rfl)); refine done_ (done_of HT_.out (by kernel_rfl)) ?_)
    | ((with_reducible refine region_at (id := 24) ?_); intro w3 jw; replace h := Option.bind_eq_some_iff.mp h; obtain ⟨⟨x1, x2, x3, x4, x5, x6⟩, xA, h⟩ := h; (try dsimp only at h); replace xA := Aside0.mk xA; replace h := Option.bind_eq_some_iff.mp h; obtain ⟨⟨y1, y2⟩, yA, h⟩ := h; (try dsimp only at h); replace yA := Aside0.mk yA; replace h := Option.bind_eq_some_iff.mp h; obtain ⟨⟨z1, z2, z3, z4, z5, z6, z7⟩, zA, h⟩ := h; (try dsimp only at h); replace zA := Aside0.mk zA; refine start_ (n := 12) (S := fun w' => Below w3.heap.size w3 w') (ds := []) (laws_FnExactShopFault.M24 []) (by kernel_rfl) rfl (by kernel_rfl) From.out (fun hHeld => ?_); refine with_tabW laws_FnExactShopFault.tab24 laws_FnExactShopFault.bits24 (fun HT_ HW_ => ?_); obtain ⟨u0, hu0⟩ : ∃ u, w3.drew = u := ⟨_, rfl⟩; rw [hu0] at hHeld ⊢; have iu : Bel w3 u0 := ⟨hHeld⟩; clear hu0; refine pure_ (i := 4) (N := some 88) (v := ?_) (a' := ?_) (laws_FnExactShopFault.M24 [4]) rfl rfl (any_of HT_.out (by kernel_rfl)) (fun _ _ _ h => h) (Or.inl ⟨by rfl, ?_⟩) ?_ ?_; rotate_left; (focus (intro w'; go_simp; with_reducible rfl)); rotate_left; (focus (simp only [Act.put, List.setIfInBounds_toArray, List.set_cons_zero, List.set_cons_succ, i64_w, i32_w]; rfl)); refine take_ (i := 0) (N := some 84) (v := ?_) (a' := ?_) (laws_FnExactShopFault.M24 [0, 4]) rfl rfl (take_ofW HT_.out HW_.out (by kernel_rfl)) (fun _ _ _ h => h) (Or.inl ⟨by rfl, ?_⟩) hHeld ?_ ?_; rotate_left; (focus (intro w' hS; have jS : Sin w3 w' := ⟨hS⟩; go_simp; with_reducible rfl)); rotate_left; (focus (simp only [Act.put, List.setIfInBounds_toArray, List.set_cons_zero, List.set_cons_succ, i64_w, i32_w]; rfl)); refine take_ (i := 2) (N := some 86) (v := ?_) (a' := ?_) (laws_FnExactShopFault.M24 [0, 2, 4]) rfl rfl (take_ofW HT_.out HW_.out (by kernel_rfl)) (fun _ _ _ h => h) (Or.inl ⟨by rfl, ?_⟩) hHeld ?_ ?_; rotate_left; (focus (intro w' hS; have jS : Sin w3 w' := ⟨hS⟩; go_simp; with_reducible rfl)); rotate_left; (focus (simp only [Act.put, List.setIfInBounds_toArray, List.set_cons_zero, List.set_cons_succ, i64_w, i32_w]; rfl)); refine join_ (σ := laws_FnExactShopFault.J24) 2 (laws_FnExactShopFault.M24 [0, 1, 2, 3, 4, 5, 6, 7, 8, 9]) (fun s => [(85, .agg #[.slice s.xB0 x1.length s.xb0, .int .i64 x2, .slice s.xB1 x3.length s.xb1, .int .i64 x4, .int .i64 x5, .slice s.xB2 x6.length s.xb2]), (87, .agg #[.int .i64 y1, .int .i64 y2]), (89, .tuple #[.agg #[.slice s.zB0 z1.length s.zb0, .int .i64 z2, .slice s.zB1 z3.length s.zb1, .int .i64 z4, .int .i64 z5, .slice s.zB2 z6.length s.zb2], .bool z7]), (16, .pointer (some ⟨s.g, 0, none⟩)), (83, .tuple #[.agg #[.slice s.zB0 z1.length s.zb0, .int .i64 z2, .slice s.zB1 z3.length s.zb1, .int .i64 z4, .int .i64 z5, .slice s.zB2 z6.length s.zb2], .bool z7]), (90, .agg #[.slice s.zB0 z1.length s.zb0, .int .i64 z2, .slice s.zB1 z3.length s.zb1, .int .i64 z4, .int .i64 z5, .slice s.zB2 z6.length s.zb2]), (91, .bool z7)]) (fun s w' => RowE k96 96 s.xwa s.xwb s.xB0 s.xb0 x1 ∧ RowE (Kd.int .i64) 3 s.xwa s.xwb s.xB1 s.xb1 x3 ∧ RowE k74 74 s.xwa s.xwb s.xB2 s.xb2 x6 ∧ RowE k96 96 s.zwa s.zwb s.zB0 s.zb0 z1 ∧ RowE (Kd.int .i64) 3 s.zwa s.zwb s.zB1 s.zb1 z3 ∧ RowE k74 74 s.zwa s.zwb s.zB2 s.zb2 z6 ∧ Bel w3 w' ∧ Bel w3 s.wx ∧ Born s.wx s.g ∧ Blk w' s.g #[.slice none 0 0, .int .i64 0, .slice none 0 0, .int .i64 0, .int .i64 0, .slice none 0 0] 36 ∧ Bel w3 s.xwa ∧ Bel s.xwa s.xwb ∧ Keep s.xwa s.xwb w' ∧ Off s.xwa s.xwb s.g ∧ Sz s.xwb w' ∧ Bel w3 s.zwa ∧ Bel s.zwa s.zwb ∧ Keep s.zwa s.zwb w' ∧ Off s.zwa s.zwb s.g ∧ Sz s.zwb w' ∧ Sz s.xwb s.zwa) ?_ ?_; rotate_left; (focus (intro hCont; refine two_ (i := 1) (j := 9) (Ni := some 85) (Nj := some 16) (laws_FnExactShopFault.M24 [0, 1, 2, 4]) (laws_FnExactShopFault.M24 [0, 2, 4, 9]) rfl rfl rfl rfl (two_of HT_.out (by kernel_rfl)) (by decide) (by decide) (fun K hK => ?_) (fun K hK => ?_); (focus (refine goes_ Try.func17 (by kernel_rfl) rfl _ (by rfl) rfl rfl (by (try simp only [List.map_toArray, List.map_cons, List.map_nil]); rfl) ?_; refine (laws_toShop.calls _ _ _ _ _ _ _ _ _ _ _ _ _ _ _ _ _ _ _ _ Rd.out LeI.out Rd.out LeI.out Rd.out LeI.out xA.out).mono ?_; rintro e u1 ⟨xv0, xv1, xv2, rfl, xh0, xh1, xh2, hb⟩; obtain ⟨xB0, xb0, rfl⟩ := Kd.R_slice xh0; have xj0 := RowE.mk xh0; have xq0 := LeI.mk (rowLe xj0); clear xh0; obtain ⟨xB1, xb1, rfl⟩ := Kd.R_slice xh1; have xj1 := RowE.mk xh1; have xq1 := LeI.mk (rowLe xj1); clear xh1; obtain ⟨xB2, xb2, rfl⟩ := Kd.R_slice xh2; have xj2 := RowE.mk xh2; have xq2 := LeI.mk (rowLe xj2); clear xh2; have jb := Bel.mk hb; clear hb; refine ⟨_, rfl, ?_⟩; refine hK.out _ _ From.out (fun hHeld => ?_); clear hK K; refine norm_ (a' := ?_) ?_ ?_; rotate_left; (focus (show Act.put _ (some 85) _ = _; simp only [Act.put, List.setIfInBounds_toArray, List.set_cons_zero, List.set_cons_succ, i64_w, i32_w]; rfl)); refine two_ (i := 3) (j := 9) (Ni := some 87) (Nj := some 16) (laws_FnExactShopFault.M24 [0, 1, 2, 3, 4]) (laws_FnExactShopFault.M24 [0, 1, 2, 4, 9]) rfl rfl rfl rfl (two_of HT_.out (by kernel_rfl)) (by decide) (by decide) (fun K hK => ?_) (fun K hK => ?_); (focus (refine goes_ Try.func37 (by kernel_rfl) rfl _ (by rfl) rfl rfl (by (try simp only [List.map_toArray, List.map_cons, List.map_nil]); rfl) ?_; refine (laws_toPipe.calls _ _ _ _ _ yA.out).mono ?_; rintro e u2 ⟨rfl, hb⟩; have jb := Bel.mk hb; clear hb; refine ⟨_, rfl, ?_⟩; refine hK.out _ _ From.out (fun hHeld => ?_); clear hK K; refine norm_ (a' := ?_) ?_ ?_; rotate_left; (focus (show Act.put _ (some 87) _ = _; simp only [Act.put, List.setIfInBounds_toArray, List.set_cons_zero, List.set_cons_succ, i64_w, i32_w]; rfl)); refine two_ (i := 5) (j := 9) (Ni := some 89) (Nj := some 16) (laws_FnExactShopFault.M24 [0, 1, 2, 3, 4, 5]) (laws_FnExactShopFault.M24 [0, 1, 2, 3, 4, 9]) rfl rfl rfl rfl (two_of HT_.out (by kernel_rfl)) (by decide) (by decide) (fun K hK => ?_) (fun K hK => ?_); (focus (refine goes_ Try.func38 (by kernel_rfl) rfl _ (by rfl) rfl rfl (by (try simp only [List.map_toArray, List.map_cons, List.map_nil]); rfl) ?_; refine (impl_ShopFault.calls _ _ _ _ _ _ _ _ _ _ _ _ _ _ _ _ _ _ _ _ _ _ _ _ Rd.out LeI.out Rd.out LeI.out Rd.out LeI.out zA.out).mono ?_; rintro e u3 ⟨zv0, zv1, zv2, rfl, zh0, zh1, zh2, hb⟩; obtain ⟨zB0, zb0, rfl⟩ := Kd.R_slice zh0; have zj0 := RowE.mk zh0; have zq0 := LeI.mk (rowLe zj0); clear zh0; obtain ⟨zB1, zb1, rfl⟩ := Kd.R_slice zh1; have zj1 := RowE.mk zh1; have zq1 := LeI.mk (rowLe zj1); clear zh1; obtain ⟨zB2, zb2, rfl⟩ := Kd.R_slice zh2; have zj2 := RowE.mk zh2; have zq2 := LeI.mk (rowLe zj2); clear zh2; have jb := Bel.mk hb; clear hb; refine ⟨_, rfl, ?_⟩; refine hK.out _ _ From.out (fun hHeld => ?_); clear hK K; refine norm_ (a' := ?_) ?_ ?_; rotate_left; (focus (show Act.put _ (some 89) _ = _; simp only [Act.put, List.setIfInBounds_toArray, List.set_cons_zero, List.set_cons_succ, i64_w, i32_w]; rfl)); refine pure_ (i := 6) (N := some 83) (v := ?_) (a' := ?_) (laws_FnExactShopFault.M24 [0, 1, 2, 3, 4, 5, 6]) rfl rfl (any_of HT_.out (by kernel_rfl)) (fun _ _ _ h => h) (Or.inl ⟨by rfl, ?_⟩) ?_ ?_; rotate_left; (focus (intro w'; go_simp; with_reducible rfl)); rotate_left; (focus (simp only [Act.put, List.setIfInBounds_toArray, List.set_cons_zero, List.set_cons_succ, i64_w, i32_w]; rfl)); refine pure_ (i := 7) (N := some 90) (v := ?_) (a' := ?_) (laws_FnExactShopFault.M24 [0, 1, 2, 3, 4, 5, 6, 7]) rfl rfl (any_of HT_.out (by kernel_rfl)) (fun _ _ _ h => h) (Or.inl ⟨by rfl, ?_⟩) ?_ ?_; rotate_left; (focus (intro w'; go_simp; with_reducible rfl)); rotate_left; (focus (simp only [Act.put, List.setIfInBounds_toArray, List.set_cons_zero, List.set_cons_succ, i64_w, i32_w]; rfl)); refine pure_ (i := 8) (N := some 91) (v := ?_) (a' := ?_) (laws_FnExactShopFault.M24 [0, 1, 2, 3, 4, 5, 6, 7, 8]) rfl rfl (any_of HT_.out (by kernel_rfl)) (fun _ _ _ h => h) (Or.inl ⟨by rfl, ?_⟩) ?_ ?_; rotate_left; (focus (intro w'; go_simp; with_reducible rfl)); rotate_left; (focus (simp only [Act.put, List.setIfInBounds_toArray, List.set_cons_zero, List.set_cons_succ, i64_w, i32_w]; rfl)); refine one_ (i := 9) (N := some 16) (laws_FnExactShopFault.M24 [0, 1, 2, 3, 4, 5, 6, 7, 8, 9]) rfl rfl (one_of HT_.out (by kernel_rfl)) (by decide) (fun K hK => ?_); refine box_step ?hg (N := 16) ?hd (cs := #[.slice none 0 0, .int .i64 0, .slice none 0 0, .int .i64 0, .int .i64 0, .slice none 0 0]) (t := 36) ?hr ?_; (case hd => rfl); (case hg => rfl); (case hr => first | (go_simp; done) | (go_simp; rfl)); intro g4 hg u4 hbox hb; have jb1 := Born.mk hg; have jb2 := Bel.mk hb; have jb3 := Blk.mk hbox; clear hg hb hbox; refine hK.out _ _ From.out (fun hHeld => ?_); clear hK K; refine norm_ (a' := ?_) ?_ ?_; rotate_left; (focus (show Act.put _ (some 16) _ = _; simp only [Act.put, List.setIfInBounds_toArray, List.set_cons_zero, List.set_cons_succ, i64_w, i32_w]; rfl)); exact norm_ (by simp only [putAll, Act.put, List.setIfInBounds_toArray, List.set_cons_zero, List.set_cons_succ]) (hCont ⟨xB0, xB1, xB2, zB0, zB1, zB2, xb0, xb1, xb2, zb0, zb1, zb2, u0, u1, u2, u3, u3, g4⟩ _ ⟨inferInstance, inferInstance, inferInstance, inferInstance, inferInstance, inferInstance, ⟨From.out⟩, ⟨From.out⟩, inferInstance, inferInstance, ⟨From.out⟩, ⟨From.out⟩, inferInstance, inferInstance, inferInstance, ⟨From.out⟩, ⟨From.out⟩, inferInstance, inferInstance, inferInstance, inferInstance⟩))); refine box_step ?hg (N := 16) ?hd (cs := #[.slice none 0 0, .int .i64 0, .slice none 0 0, .int .i64 0, .int .i64 0, .slice none 0 0]) (t := 36) ?hr ?_; (case hd => rfl); (case hg => rfl); (case hr => first | (go_simp; done) | (go_simp; rfl)); intro g5 hg u5 hbox hb; have jb1 := Born.mk hg; have jb2 := Bel.mk hb; have jb3 := Blk.mk hbox; clear hg hb hbox; refine hK.out _ _ From.out (fun hHeld => ?_); clear hK K; refine norm_ (a' := ?_) ?_ ?_; rotate_left; (focus (show Act.put _ (some 16) _ = _; simp only [Act.put, List.setIfInBounds_toArray, List.set_cons_zero, List.set_cons_succ, i64_w, i32_w]; rfl)); refine one_ (i := 5) (N := some 89) (laws_FnExactShopFault.M24 [0, 1, 2, 3, 4, 5, 9]) rfl rfl (one_of HT_.out (by kernel_rfl)) (by decide) (fun K hK => ?_); refine goes_ Try.func38 (by kernel_rfl) rfl _ (by rfl) rfl rfl (by (try simp only [List.map_toArray, List.map_cons, List.map_nil]); rfl) ?_; refine (impl_ShopFault.calls _ _ _ _ _ _ _ _ _ _ _ _ _ _ _ _ _ _ _ _ _ _ _ _ Rd.out LeI.out Rd.out LeI.out Rd.out LeI.out zA.out).mono ?_; rintro e u6 ⟨zv0, zv1, zv2, rfl, zh0, zh1, zh2, hb⟩; obtain ⟨zB0, zb0, rfl⟩ := Kd.R_slice zh0; have zj0 := RowE.mk zh0; have zq0 := LeI.mk (rowLe zj0); clear zh0; obtain ⟨zB1, zb1, rfl⟩ := Kd.R_slice zh1; have zj1 := RowE.mk zh1; have zq1 := LeI.mk (rowLe zj1); clear zh1; obtain ⟨zB2, zb2, rfl⟩ := Kd.R_slice zh2; have zj2 := RowE.mk zh2; have zq2 := LeI.mk (rowLe zj2); clear zh2; have jb := Bel.mk hb; clear hb; refine ⟨_, rfl, ?_⟩; refine hK.out _ _ From.out (fun hHeld => ?_); clear hK K; refine norm_ (a' := ?_) ?_ ?_; rotate_left; (focus (show Act.put _ (some 89) _ = _; simp only [Act.put, List.setIfInBounds_toArray, List.set_cons_zero, List.set_cons_succ, i64_w, i32_w]; rfl)); refine pure_ (i := 6) (N := some 83) (v := ?_) (a' := ?_) (laws_FnExactShopFault.M24 [0, 1, 2, 3, 4, 5, 6, 9]) rfl rfl (any_of HT_.out (by kernel_rfl)) (fun _ _ _ h => h) (Or.inl ⟨by rfl, ?_⟩) ?_ ?_; rotate_left; (focus (intro w'; go_simp; with_reducible rfl)); rotate_left; (focus (simp only [Act.put, List.setIfInBounds_toArray, List.set_cons_zero, List.set_cons_succ, i64_w, i32_w]; rfl)); refine pure_ (i := 7) (N := some 90) (v := ?_) (a' := ?_) (laws_FnExactShopFault.M24 [0, 1, 2, 3, 4, 5, 6, 7, 9]) rfl rfl (any_of HT_.out (by kernel_rfl)) (fun _ _ _ h => h) (Or.inl ⟨by rfl, ?_⟩) ?_ ?_; rotate_left; (focus (intro w'; go_simp; with_reducible rfl)); rotate_left; (focus (simp only [Act.put, List.setIfInBounds_toArray, List.set_cons_zero, List.set_cons_succ, i64_w, i32_w]; rfl)); refine pure_ (i := 8) (N := some 91) (v := ?_) (a' := ?_) (laws_FnExactShopFault.M24 [0, 1, 2, 3, 4, 5, 6, 7, 8, 9]) rfl rfl (any_of HT_.out (by kernel_rfl)) (fun _ _ _ h => h) (Or.inl ⟨by rfl, ?_⟩) ?_ ?_; rotate_left; (focus (intro w'; go_simp; with_reducible rfl)); rotate_left; (focus (simp only [Act.put, List.setIfInBounds_toArray, List.set_cons_zero, List.set_cons_succ, i64_w, i32_w]; rfl)); exact norm_ (by simp only [putAll, Act.put, List.setIfInBounds_toArray, List.set_cons_zero, List.set_cons_succ]) (hCont ⟨xB0, xB1, xB2, zB0, zB1, zB2, xb0, xb1, xb2, zb0, zb1, zb2, u0, u1, u5, u6, u2, g5⟩ _ ⟨inferInstance, inferInstance, inferInstance, inferInstance, inferInstance, inferInstance, ⟨From.out⟩, ⟨From.out⟩, inferInstance, inferInstance, ⟨From.out⟩, ⟨From.out⟩, inferInstance, inferInstance, inferInstance, ⟨From.out⟩, ⟨From.out⟩, inferInstance, inferInstance, inferInstance, inferInstance⟩))); refine box_step ?hg (N := 16) ?hd (cs := #[.slice none 0 0, .int .i64 0, .slice none 0 0, .int .i64 0, .int .i64 0, .slice none 0 0]) (t := 36) ?hr ?_; (case hd => rfl); (case hg => rfl); (case hr => first | (go_simp; done) | (go_simp; rfl)); intro g7 hg u7 hbox hb; have jb1 := Born.mk hg; have jb2 := Bel.mk hb; have jb3 := Blk.mk hbox; clear hg hb hbox; refine hK.out _ _ From.out (fun hHeld => ?_); clear hK K; refine norm_ (a' := ?_) ?_ ?_; rotate_left; (focus (show Act.put _ (some 16) _ = _; simp only [Act.put, List.setIfInBounds_toArray, List.set_cons_zero, List.set_cons_succ, i64_w, i32_w]; rfl)); refine one_ (i := 3) (N := some 87) (laws_FnExactShopFault.M24 [0, 1, 2, 3, 4, 9]) rfl rfl (one_of HT_.out (by kernel_rfl)) (by decide) (fun K hK => ?_); refine goes_ Try.func37 (by kernel_rfl) rfl _ (by rfl) rfl rfl (by (try simp only [List.map_toArray, List.map_cons, List.map_nil]); rfl) ?_; refine (laws_toPipe.calls _ _ _ _ _ yA.out).mono ?_; rintro e u8 ⟨rfl, hb⟩; have jb := Bel.mk hb; clear hb; refine ⟨_, rfl, ?_⟩; refine hK.out _ _ From.out (fun hHeld => ?_); clear hK K; refine norm_ (a' := ?_) ?_ ?_; rotate_left; (focus (show Act.put _ (some 87) _ = _; simp only [Act.put, List.setIfInBounds_toArray, List.set_cons_zero, List.set_cons_succ, i64_w, i32_w]; rfl)); refine one_ (i := 5) (N := some 89) (laws_FnExactShopFault.M24 [0, 1, 2, 3, 4, 5, 9]) rfl rfl (one_of HT_.out (by kernel_rfl)) (by decide) (fun K hK => ?_); refine goes_ Try.func38 (by kernel_rfl) rfl _ (by rfl) rfl rfl (by (try simp only [List.map_toArray, List.map_cons, List.map_nil]); rfl) ?_; refine (impl_ShopFault.calls _ _ _ _ _ _ _ _ _ _ _ _ _ _ _ _ _ _ _ _ _ _ _ _ Rd.out LeI.out Rd.out LeI.out Rd.out LeI.out zA.out).mono ?_; rintro e u9 ⟨zv0, zv1, zv2, rfl, zh0, zh1, zh2, hb⟩; obtain ⟨zB0, zb0, rfl⟩ := Kd.R_slice zh0; have zj0 := RowE.mk zh0; have zq0 := LeI.mk (rowLe zj0); clear zh0; obtain ⟨zB1, zb1, rfl⟩ := Kd.R_slice zh1; have zj1 := RowE.mk zh1; have zq1 := LeI.mk (rowLe zj1); clear zh1; obtain ⟨zB2, zb2, rfl⟩ := Kd.R_slice zh2; have zj2 := RowE.mk zh2; have zq2 := LeI.mk (rowLe zj2); clear zh2; have jb := Bel.mk hb; clear hb; refine ⟨_, rfl, ?_⟩; refine hK.out _ _ From.out (fun hHeld => ?_); clear hK K; refine norm_ (a' := ?_) ?_ ?_; rotate_left; (focus (show Act.put _ (some 89) _ = _; simp only [Act.put, List.setIfInBounds_toArray, List.set_cons_zero, List.set_cons_succ, i64_w, i32_w]; rfl)); refine pure_ (i := 6) (N := some 83) (v := ?_) (a' := ?_) (laws_FnExactShopFault.M24 [0, 1, 2, 3, 4, 5, 6, 9]) rfl rfl (any_of HT_.out (by kernel_rfl)) (fun _ _ _ h => h) (Or.inl ⟨by rfl, ?_⟩) ?_ ?_; rotate_left; (focus (intro w'; go_simp; with_reducible rfl)); rotate_left; (focus (simp only [Act.put, List.setIfInBounds_toArray, List.set_cons_zero, List.set_cons_succ, i64_w, i32_w]; rfl)); refine pure_ (i := 7) (N := some 90) (v := ?_) (a' := ?_) (laws_FnExactShopFault.M24 [0, 1, 2, 3, 4, 5, 6, 7, 9]) rfl rfl (any_of HT_.out (by kernel_rfl)) (fun _ _ _ h => h) (Or.inl ⟨by rfl, ?_⟩) ?_ ?_; rotate_left; (focus (intro w'; go_simp; with_reducible rfl)); rotate_left; (focus (simp only [Act.put, List.setIfInBounds_toArray, List.set_cons_zero, List.set_cons_succ, i64_w, i32_w]; rfl)); refine pure_ (i := 8) (N := some 91) (v := ?_) (a' := ?_) (laws_FnExactShopFault.M24 [0, 1, 2, 3, 4, 5, 6, 7, 8, 9]) rfl rfl (any_of HT_.out (by kernel_rfl)) (fun _ _ _ h => h) (Or.inl ⟨by rfl, ?_⟩) ?_ ?_; rotate_left; (focus (intro w'; go_simp; with_reducible rfl)); rotate_left; (focus (simp only [Act.put, List.setIfInBounds_toArray, List.set_cons_zero, List.set_cons_succ, i64_w, i32_w]; rfl)); exact norm_ (by simp only [putAll, Act.put, List.setIfInBounds_toArray, List.set_cons_zero, List.set_cons_succ]) (hCont ⟨xB0, xB1, xB2, zB0, zB1, zB2, xb0, xb1, xb2, zb0, zb1, zb2, u0, u1, u8, u9, u1, g7⟩ _ ⟨inferInstance, inferInstance, inferInstance, inferInstance, inferInstance, inferInstance, ⟨From.out⟩, ⟨From.out⟩, inferInstance, inferInstance, ⟨From.out⟩, ⟨From.out⟩, inferInstance, inferInstance, inferInstance, ⟨From.out⟩, ⟨From.out⟩, inferInstance, inferInstance, inferInstance, inferInstance⟩))); refine box_step ?hg (N := 16) ?hd (cs := #[.slice none 0 0, .int .i64 0, .slice none 0 0, .int .i64 0, .int .i64 0, .slice none 0 0]) (t := 36) ?hr ?_; (case hd => rfl); (case hg => rfl); (case hr => first | (go_simp; done) | (go_simp; rfl)); intro g10 hg u10 hbox hb; have jb1 := Born.mk hg; have jb2 := Bel.mk hb; have jb3 := Blk.mk hbox; clear hg hb hbox; refine hK.out _ _ From.out (fun hHeld => ?_); clear hK K; refine norm_ (a' := ?_) ?_ ?_; rotate_left; (focus (show Act.put _ (some 16) _ = _; simp only [Act.put, List.setIfInBounds_toArray, List.set_cons_zero, List.set_cons_succ, i64_w, i32_w]; rfl)); refine one_ (i := 1) (N := some 85) (laws_FnExactShopFault.M24 [0, 1, 2, 4, 9]) rfl rfl (one_of HT_.out (by kernel_rfl)) (by decide) (fun K hK => ?_); refine goes_ Try.func17 (by kernel_rfl) rfl _ (by rfl) rfl rfl (by (try simp only [List.map_toArray, List.map_cons, List.map_nil]); rfl) ?_; refine (laws_toShop.calls _ _ _ _ _ _ _ _ _ _ _ _ _ _ _ _ _ _ _ _ Rd.out LeI.out Rd.out LeI.out Rd.out LeI.out xA.out).mono ?_; rintro e u11 ⟨xv0, xv1, xv2, rfl, xh0, xh1, xh2, hb⟩; obtain ⟨xB0, xb0, rfl⟩ := Kd.R_slice xh0; have xj0 := RowE.mk xh0; have xq0 := LeI.mk (rowLe xj0); clear xh0; obtain ⟨xB1, xb1, rfl⟩ := Kd.R_slice xh1; have xj1 := RowE.mk xh1; have xq1 := LeI.mk (rowLe xj1); clear xh1; obtain ⟨xB2, xb2, rfl⟩ := Kd.R_slice xh2; have xj2 := RowE.mk xh2; have xq2 := LeI.mk (rowLe xj2); clear xh2; have jb := Bel.mk hb; clear hb; refine ⟨_, rfl, ?_⟩; refine hK.out _ _ From.out (fun hHeld => ?_); clear hK K; refine norm_ (a' := ?_) ?_ ?_; rotate_left; (focus (show Act.put _ (some 85) _ = _; simp only [Act.put, List.setIfInBounds_toArray, List.set_cons_zero, List.set_cons_succ, i64_w, i32_w]; rfl)); refine one_ (i := 3) (N := some 87) (laws_FnExactShopFault.M24 [0, 1, 2, 3, 4, 9]) rfl rfl (one_of HT_.out (by kernel_rfl)) (by decide) (fun K hK => ?_); refine goes_ Try.func37 (by kernel_rfl) rfl _ (by rfl) rfl rfl (by (try simp only [List.map_toArray, List.map_cons, List.map_nil]); rfl) ?_; refine (laws_toPipe.calls _ _ _ _ _ yA.out).mono ?_; rintro e u12 ⟨rfl, hb⟩; have jb := Bel.mk hb; clear hb; refine ⟨_, rfl, ?_⟩; refine hK.out _ _ From.out (fun hHeld => ?_); clear hK K; refine norm_ (a' := ?_) ?_ ?_; rotate_left; (focus (show Act.put _ (some 87) _ = _; simp only [Act.put, List.setIfInBounds_toArray, List.set_cons_zero, List.set_cons_succ, i64_w, i32_w]; rfl)); refine one_ (i := 5) (N := some 89) (laws_FnExactShopFault.M24 [0, 1, 2, 3, 4, 5, 9]) rfl rfl (one_of HT_.out (by kernel_rfl)) (by decide) (fun K hK => ?_); refine goes_ Try.func38 (by kernel_rfl) rfl _ (by rfl) rfl rfl (by (try simp only [List.map_toArray, List.map_cons, List.map_nil]); rfl) ?_; refine (impl_ShopFault.calls _ _ _ _ _ _ _ _ _ _ _ _ _ _ _ _ _ _ _ _ _ _ _ _ Rd.out LeI.out Rd.out LeI.out Rd.out LeI.out zA.out).mono ?_; rintro e u13 ⟨zv0, zv1, zv2, rfl, zh0, zh1, zh2, hb⟩; obtain ⟨zB0, zb0, rfl⟩ := Kd.R_slice zh0; have zj0 := RowE.mk zh0; have zq0 := LeI.mk (rowLe zj0); clear zh0; obtain ⟨zB1, zb1, rfl⟩ := Kd.R_slice zh1; have zj1 := RowE.mk zh1; have zq1 := LeI.mk (rowLe zj1); clear zh1; obtain ⟨zB2, zb2, rfl⟩ := Kd.R_slice zh2; have zj2 := RowE.mk zh2; have zq2 := LeI.mk (rowLe zj2); clear zh2; have jb := Bel.mk hb; clear hb; refine ⟨_, rfl, ?_⟩; refine hK.out _ _ From.out (fun hHeld => ?_); clear hK K; refine norm_ (a' := ?_) ?_ ?_; rotate_left; (focus (show Act.put _ (some 89) _ = _; simp only [Act.put, List.setIfInBounds_toArray, List.set_cons_zero, List.set_cons_succ, i64_w, i32_w]; rfl)); refine pure_ (i := 6) (N := some 83) (v := ?_) (a' := ?_) (laws_FnExactShopFault.M24 [0, 1, 2, 3, 4, 5, 6, 9]) rfl rfl (any_of HT_.out (by kernel_rfl)) (fun _ _ _ h => h) (Or.inl ⟨by rfl, ?_⟩) ?_ ?_; rotate_left; (focus (intro w'; go_simp; with_reducible rfl)); rotate_left; (focus (simp only [Act.put, List.setIfInBounds_toArray, List.set_cons_zero, List.set_cons_succ, i64_w, i32_w]; rfl)); refine pure_ (i := 7) (N := some 90) (v := ?_) (a' := ?_) (laws_FnExactShopFault.M24 [0, 1, 2, 3, 4, 5, 6, 7, 9]) rfl rfl (any_of HT_.out (by kernel_rfl)) (fun _ _ _ h => h) (Or.inl ⟨by rfl, ?_⟩) ?_ ?_; rotate_left; (focus (intro w'; go_simp; with_reducible rfl)); rotate_left; (focus (simp only [Act.put, List.setIfInBounds_toArray, List.set_cons_zero, List.set_cons_succ, i64_w, i32_w]; rfl)); refine pure_ (i := 8) (N := some 91) (v := ?_) (a' := ?_) (laws_FnExactShopFault.M24 [0, 1, 2, 3, 4, 5, 6, 7, 8, 9]) rfl rfl (any_of HT_.out (by kernel_rfl)) (fun _ _ _ h => h) (Or.inl ⟨by rfl, ?_⟩) ?_ ?_; rotate_left; (focus (intro w'; go_simp; with_reducible rfl)); rotate_left; (focus (simp only [Act.put, List.setIfInBounds_toArray, List.set_cons_zero, List.set_cons_succ, i64_w, i32_w]; rfl)); exact norm_ (by simp only [putAll, Act.put, List.setIfInBounds_toArray, List.set_cons_zero, List.set_cons_succ]) (hCont ⟨xB0, xB1, xB2, zB0, zB1, zB2, xb0, xb1, xb2, zb0, zb1, zb2, u10, u11, u12, u13, u0, g10⟩ _ ⟨inferInstance, inferInstance, inferInstance, inferInstance, inferInstance, inferInstance, ⟨From.out⟩, ⟨From.out⟩, inferInstance, inferInstance, ⟨From.out⟩, ⟨From.out⟩, inferInstance, inferInstance, inferInstance, ⟨From.out⟩, ⟨From.out⟩, inferInstance, inferInstance, inferInstance, inferInstance⟩))); rintro ⟨xB0, xB1, xB2, zB0, zB1, zB2, xb0, xb1, xb2, zb0, zb1, zb2, xwa, xwb, zwa, zwb, wx, g⟩ w' ⟨xj0, xj1, xj2, zj0, zj1, zj2, jw1, jw2, jw3, jw4, xk1, xk2, xk3, xk4, xk5, zk1, zk2, zk3, zk4, zk5, kk⟩; dsimp only at xj0 xj1 xj2 zj0 zj1 zj2 jw1 jw2 jw3 jw4 xk1 xk2 xk3 xk4 xk5 zk1 zk2 zk3 zk4 zk5 kk ⊢; have xj0q := LeI.mk (rowLe xj0); have xj1q := LeI.mk (rowLe xj1); have xj2q := LeI.mk (rowLe xj2); have zj0q := LeI.mk (rowLe zj0); have zj1q := LeI.mk (rowLe zj1); have zj2q := LeI.mk (rowLe zj2); refine norm_ (a' := ?_) ?_ ?_; rotate_left; (focus (simp only [putAll, Act.put, List.setIfInBounds_toArray, List.set_cons_zero, List.set_cons_succ]; rfl)); refine one_ (i := 10) (N := none) (laws_FnExactShopFault.M24 [0, 1, 2, 3, 4, 5, 6, 7, 8, 9, 10]) rfl rfl (one_of HT_.out (by kernel_rfl)) (by decide) (fun K hK => ?_); refine skip_ (w1 := ?_) (by rfl) rfl ?_ ?_; rotate_left; (focus (go_simp; rfl)); refine hK.out _ _ From.out (fun hHeld => ?_); clear hK K; refine pure_ (i := 11) (N := some 17) (v := ?_) (a' := ?_) (laws_FnExactShopFault.M24 [0, 1, 2, 3, 4, 5, 6, 7, 8, 9, 10, 11]) rfl rfl (any_of HT_.out (by kernel_rfl)) (fun _ _ _ h => h) (Or.inl ⟨by rfl, ?_⟩) ?_ ?_; rotate_left; (focus (intro w'; go_simp; with_reducible rfl)); rotate_left; (focus (simp only [Act.put, List.setIfInBounds_toArray, List.set_cons_zero, List.set_cons_succ, i64_w, i32_w]; rfl)); refine done_ (done_of HT_.out (by kernel_rfl)) ?_)
    | ((with_reducible refine region_at ?_); intro w3 jw; go_region_held3 (fun w' => Sin w3 w') (first | exact ⟨From.out⟩ | skip) (first | (go_at_call 15; replace h := Option.bind_eq_some_iff.mp h; obtain ⟨t, A, h⟩ := h; (try dsimp only at h); refine (laws_szShop.calls _ _ _ _ _ _ _ _ _ _ _ _ _ _ _ Rd.out LeI.out Rd.out LeI.out Rd.out LeI.out A).mono ?_; rintro e w2 ⟨rfl, hb⟩; have jb := Bel.mk hb; clear A hb; (repeat' first | ((with_reducible replace h := ite_some h); rcases h with ⟨hc, h⟩ | ⟨hc, h⟩ <;> first | exact (none_some h).elim | exact absurd (Option.some.inj h) (by decide) | exact absurd hc (by decide) | subst hc | (replace hc := Bool.eq_false_iff.mpr hc; subst hc) | (have hd := Bool.eq_false_iff.mpr hc) | (have hd := beq_iff_eq.mpr hc; have he := bne_eq_false_iff_eq.mpr hc; clear hc) | (have hd := beq_eq_false_iff_ne.mpr hc; have he := bne_iff_ne.mpr hc) | (have hd := decide_eq_false hc) | (have hd := decide_eq_true hc) | skip) | ((have hj : laws_FnExactShopFault.j0 k _ _ _ _ _ _ _ _ _ _ _ _ _ _ _ _ _ _ _ _ _ _ _ _ _ _ _ _ _ _ = _ := h); clear hj; rcases k with _ | k <;> rw [laws_FnExactShopFault.j0] at h <;> first | exact (none_some h).elim | skip) | ((have hj : laws_FnExactShopFault.j1 k _ _ _ _ _ _ _ _ _ _ _ _ _ _ _ _ _ _ _ _ _ _ _ = _ := h); clear hj; rcases k with _ | k <;> rw [laws_FnExactShopFault.j1] at h <;> first | exact (none_some h).elim | skip) | ((have hj : laws_FnExactShopFault.j2 k _ _ _ _ _ _ _ _ = _ := h); clear hj; rcases k with _ | k <;> rw [laws_FnExactShopFault.j2] at h <;> first | exact (none_some h).elim | skip))) | (go_at_call 17; replace h := Option.bind_eq_some_iff.mp h; obtain ⟨⟨t1, t2, t3, t4, t5, t6⟩, A, h⟩ := h; (try dsimp only at h); refine (laws_toShop.calls _ _ _ _ _ _ _ _ _ _ _ _ _ _ _ _ _ _ _ _ Rd.out LeI.out Rd.out LeI.out Rd.out LeI.out A).mono ?_; rintro e w2 ⟨v0, v1, v2, rfl, ho0, ho1, ho2, hb⟩; obtain ⟨B0, b0, rfl⟩ := Kd.R_slice ho0; have j0 := RowE.mk ho0; have q0 := LeI.mk (rowLe j0); obtain ⟨B1, b1, rfl⟩ := Kd.R_slice ho1; have j1 := RowE.mk ho1; have q1 := LeI.mk (rowLe j1); obtain ⟨B2, b2, rfl⟩ := Kd.R_slice ho2; have j2 := RowE.mk ho2; have q2 := LeI.mk (rowLe j2); have jb := Bel.mk hb; clear A ho0 ho1 ho2 hb; (repeat' first | ((with_reducible replace h := ite_some h); rcases h with ⟨hc, h⟩ | ⟨hc, h⟩ <;> first | exact (none_some h).elim | exact absurd (Option.some.inj h) (by decide) | exact absurd hc (by decide) | subst hc | (replace hc := Bool.eq_false_iff.mpr hc; subst hc) | (have hd := Bool.eq_false_iff.mpr hc) | (have hd := beq_iff_eq.mpr hc; have he := bne_eq_false_iff_eq.mpr hc; clear hc) | (have hd := beq_eq_false_iff_ne.mpr hc; have he := bne_iff_ne.mpr hc) | (have hd := decide_eq_false hc) | (have hd := decide_eq_true hc) | skip) | ((have hj : laws_FnExactShopFault.j0 k _ _ _ _ _ _ _ _ _ _ _ _ _ _ _ _ _ _ _ _ _ _ _ _ _ _ _ _ _ _ = _ := h); clear hj; rcases k with _ | k <;> rw [laws_FnExactShopFault.j0] at h <;> first | exact (none_some h).elim | skip) | ((have hj : laws_FnExactShopFault.j1 k _ _ _ _ _ _ _ _ _ _ _ _ _ _ _ _ _ _ _ _ _ _ _ = _ := h); clear hj; rcases k with _ | k <;> rw [laws_FnExactShopFault.j1] at h <;> first | exact (none_some h).elim | skip) | ((have hj : laws_FnExactShopFault.j2 k _ _ _ _ _ _ _ _ = _ := h); clear hj; rcases k with _ | k <;> rw [laws_FnExactShopFault.j2] at h <;> first | exact (none_some h).elim | skip))) | (go_at_call 37; replace h := Option.bind_eq_some_iff.mp h; obtain ⟨⟨t1, t2⟩, A, h⟩ := h; (try dsimp only at h); refine (laws_toPipe.calls _ _ _ _ _ A).mono ?_; rintro e w2 ⟨rfl, hb⟩; have jb := Bel.mk hb; clear A hb; (repeat' first | ((with_reducible replace h := ite_some h); rcases h with ⟨hc, h⟩ | ⟨hc, h⟩ <;> first | exact (none_some h).elim | exact absurd (Option.some.inj h) (by decide) | exact absurd hc (by decide) | subst hc | (replace hc := Bool.eq_false_iff.mpr hc; subst hc) | (have hd := Bool.eq_false_iff.mpr hc) | (have hd := beq_iff_eq.mpr hc; have he := bne_eq_false_iff_eq.mpr hc; clear hc) | (have hd := beq_eq_false_iff_ne.mpr hc; have he := bne_iff_ne.mpr hc) | (have hd := decide_eq_false hc) | (have hd := decide_eq_true hc) | skip) | ((have hj : laws_FnExactShopFault.j0 k _ _ _ _ _ _ _ _ _ _ _ _ _ _ _ _ _ _ _ _ _ _ _ _ _ _ _ _ _ _ = _ := h); clear hj; rcases k with _ | k <;> rw [laws_FnExactShopFault.j0] at h <;> first | exact (none_some h).elim | skip) | ((have hj : laws_FnExactShopFault.j1 k _ _ _ _ _ _ _ _ _ _ _ _ _ _ _ _ _ _ _ _ _ _ _ = _ := h); clear hj; rcases k with _ | k <;> rw [laws_FnExactShopFault.j1] at h <;> first | exact (none_some h).elim | skip) | ((have hj : laws_FnExactShopFault.j2 k _ _ _ _ _ _ _ _ = _ := h); clear hj; rcases k with _ | k <;> rw [laws_FnExactShopFault.j2] at h <;> first | exact (none_some h).elim | skip))) | (go_at_call 36; replace h := Option.bind_eq_some_iff.mp h; obtain ⟨⟨t1, t2, t3, t4, t5, t6, t7⟩, A, h⟩ := h; (try dsimp only at h); refine (spec_ShopFault.calls _ _ _ _ _ _ _ _ _ _ _ _ _ _ _ _ _ _ _ _ _ _ _ _ Rd.out LeI.out Rd.out LeI.out Rd.out LeI.out A).mono ?_; rintro e w2 ⟨v0, v1, v2, rfl, ho0, ho1, ho2, hb⟩; obtain ⟨B0, b0, rfl⟩ := Kd.R_slice ho0; have j0 := RowE.mk ho0; have q0 := LeI.mk (rowLe j0); obtain ⟨B1, b1, rfl⟩ := Kd.R_slice ho1; have j1 := RowE.mk ho1; have q1 := LeI.mk (rowLe j1); obtain ⟨B2, b2, rfl⟩ := Kd.R_slice ho2; have j2 := RowE.mk ho2; have q2 := LeI.mk (rowLe j2); have jb := Bel.mk hb; clear A ho0 ho1 ho2 hb; (repeat' first | ((with_reducible replace h := ite_some h); rcases h with ⟨hc, h⟩ | ⟨hc, h⟩ <;> first | exact (none_some h).elim | exact absurd (Option.some.inj h) (by decide) | exact absurd hc (by decide) | subst hc | (replace hc := Bool.eq_false_iff.mpr hc; subst hc) | (have hd := Bool.eq_false_iff.mpr hc) | (have hd := beq_iff_eq.mpr hc; have he := bne_eq_false_iff_eq.mpr hc; clear hc) | (have hd := beq_eq_false_iff_ne.mpr hc; have he := bne_iff_ne.mpr hc) | (have hd := decide_eq_false hc) | (have hd := decide_eq_true hc) | skip) | ((have hj : laws_FnExactShopFault.j0 k _ _ _ _ _ _ _ _ _ _ _ _ _ _ _ _ _ _ _ _ _ _ _ _ _ _ _ _ _ _ = _ := h); clear hj; rcases k with _ | k <;> rw [laws_FnExactShopFault.j0] at h <;> first | exact (none_some h).elim | skip) | ((have hj : laws_FnExactShopFault.j1 k _ _ _ _ _ _ _ _ _ _ _ _ _ _ _ _ _ _ _ _ _ _ _ = _ := h); clear hj; rcases k with _ | k <;> rw [laws_FnExactShopFault.j1] at h <;> first | exact (none_some h).elim | skip) | ((have hj : laws_FnExactShopFault.j2 k _ _ _ _ _ _ _ _ = _ := h); clear hj; rcases k with _ | k <;> rw [laws_FnExactShopFault.j2] at h <;> first | exact (none_some h).elim | skip))) | (go_at_call 38; replace h := Option.bind_eq_some_iff.mp h; obtain ⟨⟨t1, t2, t3, t4, t5, t6, t7⟩, A, h⟩ := h; (try dsimp only at h); refine (impl_ShopFault.calls _ _ _ _ _ _ _ _ _ _ _ _ _ _ _ _ _ _ _ _ _ _ _ _ Rd.out LeI.out Rd.out LeI.out Rd.out LeI.out A).mono ?_; rintro e w2 ⟨v0, v1, v2, rfl, ho0, ho1, ho2, hb⟩; obtain ⟨B0, b0, rfl⟩ := Kd.R_slice ho0; have j0 := RowE.mk ho0; have q0 := LeI.mk (rowLe j0); obtain ⟨B1, b1, rfl⟩ := Kd.R_slice ho1; have j1 := RowE.mk ho1; have q1 := LeI.mk (rowLe j1); obtain ⟨B2, b2, rfl⟩ := Kd.R_slice ho2; have j2 := RowE.mk ho2; have q2 := LeI.mk (rowLe j2); have jb := Bel.mk hb; clear A ho0 ho1 ho2 hb; (repeat' first | ((with_reducible replace h := ite_some h); rcases h with ⟨hc, h⟩ | ⟨hc, h⟩ <;> first | exact (none_some h).elim | exact absurd (Option.some.inj h) (by decide) | exact absurd hc (by decide) | subst hc | (replace hc := Bool.eq_false_iff.mpr hc; subst hc) | (have hd := Bool.eq_false_iff.mpr hc) | (have hd := beq_iff_eq.mpr hc; have he := bne_eq_false_iff_eq.mpr hc; clear hc) | (have hd := beq_eq_false_iff_ne.mpr hc; have he := bne_iff_ne.mpr hc) | (have hd := decide_eq_false hc) | (have hd := decide_eq_true hc) | skip) | ((have hj : laws_FnExactShopFault.j0 k _ _ _ _ _ _ _ _ _ _ _ _ _ _ _ _ _ _ _ _ _ _ _ _ _ _ _ _ _ _ = _ := h); clear hj; rcases k with _ | k <;> rw [laws_FnExactShopFault.j0] at h <;> first | exact (none_some h).elim | skip) | ((have hj : laws_FnExactShopFault.j1 k _ _ _ _ _ _ _ _ _ _ _ _ _ _ _ _ _ _ _ _ _ _ _ = _ := h); clear hj; rcases k with _ | k <;> rw [laws_FnExactShopFault.j1] at h <;> first | exact (none_some h).elim | skip) | ((have hj : laws_FnExactShopFault.j2 k _ _ _ _ _ _ _ _ = _ := h); clear hj; rcases k with _ | k <;> rw [laws_FnExactShopFault.j2] at h <;> first | exact (none_some h).elim | skip))) | (go_at_call 19; replace h := Option.bind_eq_some_iff.mp h; obtain ⟨t, A, h⟩ := h; (try dsimp only at h); refine (laws_eqShop.calls _ _ _ _ _ _ _ _ _ _ _ _ _ _ _ _ _ _ _ _ _ _ _ _ _ _ _ Rd.out LeI.out Rd.out LeI.out Rd.out LeI.out Rd.out LeI.out Rd.out LeI.out Rd.out LeI.out A).mono ?_; rintro e w2 ⟨rfl, hb⟩; have jb := Bel.mk hb; clear A hb; (repeat' first | ((with_reducible replace h := ite_some h); rcases h with ⟨hc, h⟩ | ⟨hc, h⟩ <;> first | exact (none_some h).elim | exact absurd (Option.some.inj h) (by decide) | exact absurd hc (by decide) | subst hc | (replace hc := Bool.eq_false_iff.mpr hc; subst hc) | (have hd := Bool.eq_false_iff.mpr hc) | (have hd := beq_iff_eq.mpr hc; have he := bne_eq_false_iff_eq.mpr hc; clear hc) | (have hd := beq_eq_false_iff_ne.mpr hc; have he := bne_iff_ne.mpr hc) | (have hd := decide_eq_false hc) | (have hd := decide_eq_true hc) | skip) | ((have hj : laws_FnExactShopFault.j0 k _ _ _ _ _ _ _ _ _ _ _ _ _ _ _ _ _ _ _ _ _ _ _ _ _ _ _ _ _ _ = _ := h); clear hj; rcases k with _ | k <;> rw [laws_FnExactShopFault.j0] at h <;> first | exact (none_some h).elim | skip) | ((have hj : laws_FnExactShopFault.j1 k _ _ _ _ _ _ _ _ _ _ _ _ _ _ _ _ _ _ _ _ _ _ _ = _ := h); clear hj; rcases k with _ | k <;> rw [laws_FnExactShopFault.j1] at h <;> first | exact (none_some h).elim | skip) | ((have hj : laws_FnExactShopFault.j2 k _ _ _ _ _ _ _ _ = _ := h); clear hj; rcases k with _ | k <;> rw [laws_FnExactShopFault.j2] at h <;> first | exact (none_some h).elim | skip))) | (go_at_call 28; replace h := Option.bind_eq_some_iff.mp h; obtain ⟨⟨t1, t2, t3, t4⟩, A, h⟩ := h; (try dsimp only at h); refine (laws_markShop.calls _ _ _ _ _ _ _ _ _ _ _ _ _ _ _ _ _ _ w _ From.out rowP rowP rowP A).mono ?_; rintro e w2 ⟨rfl, m0, m1, m2, hb, hk⟩; obtain ⟨e0, q0, c0⟩ := Kd.R_reads' m0; replace q0 := LeI.mk (e0 ▸ q0); have j0 := RdE.mk c0; (try simp only [e0] at *); clear e0 c0 m0; obtain ⟨e1, q1, c1⟩ := Kd.R_reads' m1; replace q1 := LeI.mk (e1 ▸ q1); have j1 := RdE.mk c1; (try simp only [e1] at *); clear e1 c1 m1; obtain ⟨e2, q2, c2⟩ := Kd.R_reads' m2; replace q2 := LeI.mk (e2 ▸ q2); have j2 := RdE.mk c2; (try simp only [e2] at *); clear e2 c2 m2; have jf : From w w2 := ⟨hb⟩; clear hb; have jm := mk3 hk; clear hk; clear A; (repeat' first | ((with_reducible replace h := ite_some h); rcases h with ⟨hc, h⟩ | ⟨hc, h⟩ <;> first | exact (none_some h).elim | exact absurd (Option.some.inj h) (by decide) | exact absurd hc (by decide) | subst hc | (replace hc := Bool.eq_false_iff.mpr hc; subst hc) | (have hd := Bool.eq_false_iff.mpr hc) | (have hd := beq_iff_eq.mpr hc; have he := bne_eq_false_iff_eq.mpr hc; clear hc) | (have hd := beq_eq_false_iff_ne.mpr hc; have he := bne_iff_ne.mpr hc) | (have hd := decide_eq_false hc) | (have hd := decide_eq_true hc) | skip) | ((have hj : laws_FnExactShopFault.j0 k _ _ _ _ _ _ _ _ _ _ _ _ _ _ _ _ _ _ _ _ _ _ _ _ _ _ _ _ _ _ = _ := h); clear hj; rcases k with _ | k <;> rw [laws_FnExactShopFault.j0] at h <;> first | exact (none_some h).elim | skip) | ((have hj : laws_FnExactShopFault.j1 k _ _ _ _ _ _ _ _ _ _ _ _ _ _ _ _ _ _ _ _ _ _ _ = _ := h); clear hj; rcases k with _ | k <;> rw [laws_FnExactShopFault.j1] at h <;> first | exact (none_some h).elim | skip) | ((have hj : laws_FnExactShopFault.j2 k _ _ _ _ _ _ _ _ = _ := h); clear hj; rcases k with _ | k <;> rw [laws_FnExactShopFault.j2] at h <;> first | exact (none_some h).elim | skip))) | (go_at_call 29; replace h := Option.bind_eq_some_iff.mp h; obtain ⟨t, A, h⟩ := h; (try dsimp only at h); refine (laws_heldShop.calls _ _ _ _ _ _ _ _ _ _ _ _ _ _ _ _ Rd.out LeI.out Rd.out LeI.out Rd.out LeI.out A).mono ?_; rintro e w2 ⟨rfl, hb⟩; have jb := Bel.mk hb; clear A hb; (repeat' first | ((with_reducible replace h := ite_some h); rcases h with ⟨hc, h⟩ | ⟨hc, h⟩ <;> first | exact (none_some h).elim | exact absurd (Option.some.inj h) (by decide) | exact absurd hc (by decide) | subst hc | (replace hc := Bool.eq_false_iff.mpr hc; subst hc) | (have hd := Bool.eq_false_iff.mpr hc) | (have hd := beq_iff_eq.mpr hc; have he := bne_eq_false_iff_eq.mpr hc; clear hc) | (have hd := beq_eq_false_iff_ne.mpr hc; have he := bne_iff_ne.mpr hc) | (have hd := decide_eq_false hc) | (have hd := decide_eq_true hc) | skip) | ((have hj : laws_FnExactShopFault.j0 k _ _ _ _ _ _ _ _ _ _ _ _ _ _ _ _ _ _ _ _ _ _ _ _ _ _ _ _ _ _ = _ := h); clear hj; rcases k with _ | k <;> rw [laws_FnExactShopFault.j0] at h <;> first | exact (none_some h).elim | skip) | ((have hj : laws_FnExactShopFault.j1 k _ _ _ _ _ _ _ _ _ _ _ _ _ _ _ _ _ _ _ _ _ _ _ = _ := h); clear hj; rcases k with _ | k <;> rw [laws_FnExactShopFault.j1] at h <;> first | exact (none_some h).elim | skip) | ((have hj : laws_FnExactShopFault.j2 k _ _ _ _ _ _ _ _ = _ := h); clear hj; rcases k with _ | k <;> rw [laws_FnExactShopFault.j2] at h <;> first | exact (none_some h).elim | skip))))))
  all_goals (repeat' first | ((with_reducible replace h := ite_some h); rcases h with ⟨hc, h⟩ | ⟨hc, h⟩ <;> first | exact (none_some h).elim | exact absurd (Option.some.inj h) (by decide) | exact absurd hc (by decide) | subst hc | (replace hc := Bool.eq_false_iff.mpr hc; subst hc) | (have hd := Bool.eq_false_iff.mpr hc) | (have hd := beq_iff_eq.mpr hc; have he := bne_eq_false_iff_eq.mpr hc; clear hc) | (have hd := beq_eq_false_iff_ne.mpr hc; have he := bne_iff_ne.mpr hc) | (have hd := decide_eq_false hc) | (have hd := decide_eq_true hc) | skip) | ((have hj : laws_FnExactShopFault.j0 k _ _ _ _ _ _ _ _ _ _ _ _ _ _ _ _ _ _ _ _ _ _ _ _ _ _ _ _ _ _ = _ := h); clear hj; rcases k with _ | k <;> rw [laws_FnExactShopFault.j0] at h <;> first | exact (none_some h).elim | skip) | ((have hj : laws_FnExactShopFault.j1 k _ _ _ _ _ _ _ _ _ _ _ _ _ _ _ _ _ _ _ _ _ _ _ = _ := h); clear hj; rcases k with _ | k <;> rw [laws_FnExactShopFault.j1] at h <;> first | exact (none_some h).elim | skip) | ((have hj : laws_FnExactShopFault.j2 k _ _ _ _ _ _ _ _ = _ := h); clear hj; rcases k with _ | k <;> rw [laws_FnExactShopFault.j2] at h <;> first | exact (none_some h).elim | skip))
  all_goals go_ret
  all_goals exact ⟨rfl, From.out⟩
end Go.Proofs.Ytbkkpllejgedcaa.P


namespace Go.Proofs.Ytbkkpllejgedcaa.Q
set_option linter.unusedVariables false
set_option linter.unusedSimpArgs false
open Go.RowKit Go.Proofs.YtbkkpllejgedcaaW.PrintWords
theorem evp {α : Type} {c : Prop} [Decidable c] (h : c) {f g : Nat → Option α} {r : α} (k : Ev f r) : Ev (fun n => if c then f n else g n) r := by
  simp only [if_pos h]; exact k
theorem evn {α : Type} {c : Prop} [Decidable c] (h : ¬ c) {f g : Nat → Option α} {r : α} (k : Ev g r) : Ev (fun n => if c then f n else g n) r := by
  simp only [if_neg h]; exact k
theorem evb {α β : Type} {x : Option α} {f : Nat → α → Option β} {a : α} {r : β} (h : x = some a) (k : Ev (fun n => f n a) r) : Ev (fun n => x.bind (f n)) r := by
  simp only [h, Option.bind_some]; exact k
theorem evs {α : Type} {a b : α} (h : a = b) : Ev (fun _ => some a) b := h ▸ Ev.now a
theorem rpos {α : Type} {c : Prop} [Decidable c] (h : c) {f : Nat → Option α} {r s : α} (k : Ev f r) : Ev f (if c then r else s) := by rw [if_pos h]; exact k
theorem rneg {α : Type} {c : Prop} [Decidable c] (h : ¬ c) {f : Nat → Option α} {r s : α} (k : Ev f s) : Ev f (if c then r else s) := by rw [if_neg h]; exact k
theorem down {P : Nat → Prop} {n : Nat} (he : P n) (hs : ∀ i, i < n → P (i + 1) → P i) (i : Nat) (h : i ≤ n) : P i := by
  obtain ⟨d, rfl⟩ : ∃ d, n = i + d := ⟨n - i, by omega⟩
  clear h
  induction d generalizing i with
  | zero => exact he
  | succ d ih =>
    refine hs i (by omega) (ih (i + 1) ?_ ?_)
    · rw [show i + 1 + d = i + (d + 1) by omega]; exact he
    · intro j hj; exact hs j (by omega)
theorem w64 {n : Int} (h1 : -9223372036854775808 ≤ n) (h2 : n ≤ 9223372036854775807) : wrap64 n = n := by unfold wrap64; omega
theorem rd_nat (l : List Int) (i : Nat) (h : i < l.length) : rd l (i : Int) = l[i] := by
  unfold rd; simp [List.getD_eq_getElem?_getD, h]
theorem drop_cons {α : Type} (l : List α) (i : Nat) (h : i < l.length) : l.drop i = l[i] :: l.drop (i + 1) := List.drop_eq_getElem_cons h
theorem drop_end {α : Type} (l : List α) : l.drop l.length = [] := List.drop_eq_nil_of_le (Nat.le_refl _)
theorem set_take {α : Type} (l : List α) (i : Nat) (v : α) (h : i < l.length) : (l.set i v).take (i + 1) = l.take i ++ [v] := by
  rw [List.take_set, List.take_succ_eq_append_getElem h, List.set_append_right _ _ (by simp; omega)]
  simp [Nat.min_eq_left (Nat.le_of_lt h)]
end Go.Proofs.Ytbkkpllejgedcaa.Q


namespace Go.Proofs.Ytbkkpllejgedcaa.Q
set_option linter.unusedVariables false
set_option linter.unusedSimpArgs false
open Go.RowKit Go.Proofs.Ytbkkpllejgedcaa.P Go.Proofs.YtbkkpllejgedcaaW.PrintWords
theorem l01In_eq (a b c : Int) : spec_l01In.f a b c = some (decide (b ≤ a ∧ a ≤ c)) := by
  unfold spec_l01In.f; by_cases h : a ≥ b
  · rw [if_pos h]; simp [show b ≤ a from h]
  · rw [if_neg h]; simp [show ¬ b ≤ a from h]
end Go.Proofs.Ytbkkpllejgedcaa.Q


namespace Go.Proofs.Ytbkkpllejgedcaa.Q
set_option linter.unusedVariables false
set_option linter.unusedSimpArgs false
open Go.RowKit Go.Proofs.Ytbkkpllejgedcaa.P Go.Proofs.YtbkkpllejgedcaaW.PrintWords Go.Proofs.YtbkkpllejgedcaaW.PrintMore
def fine (n : Int) : Bool := decide (1 ≤ n ∧ n ≤ 10000000)
theorem pitch_eq (n : Int) : spec_l18Pitch.f n = some (fine n) := by unfold spec_l18Pitch.f; rw [l01In_eq]; rfl
end Go.Proofs.Ytbkkpllejgedcaa.Q


namespace Go.Proofs.Ytbkkpllejgedcaa.Q
set_option linter.unusedVariables false
set_option linter.unusedSimpArgs false
open Go.RowKit Go.Proofs.Ytbkkpllejgedcaa.P Go.Proofs.YtbkkpllejgedcaaW.PrintWords Go.Proofs.YtbkkpllejgedcaaW.PrintMore
def cStep (x : S98) : S96 := ⟨x.f0, x.f1, x.f2, x.f3⟩
theorem rdS (l : List S96) (i : Nat) (h : i < l.length) : rd_T96 l (i : Int) = l[i] := by
  unfold rd_T96; simp [List.getD_eq_getElem?_getD, h]
theorem rdLS (l : List S98) (i : Nat) (h : i < l.length) : rd_T98 l (i : Int) = l[i] := by
  unfold rd_T98; simp [List.getD_eq_getElem?_getD, h]
theorem toStepS_ev (l : List S98) (hl : l.length ≤ 1048576) : Ev (fun k => laws_toStepS.f k l) (l.map cStep) := by
  have key : ∀ i, i ≤ l.length → ∀ acc : List S96, acc.length = l.length → Ev (fun k => laws_toStepS.l0 k l acc (i : Int)) (acc.take i ++ (l.drop i).map cStep) := by
    refine down (n := l.length) ?_ ?_
    · intro acc ha
      refine Ev.step (fun k => by rw [laws_toStepS.l0]) (evn (by omega) (evs ?_))
      rw [drop_end, List.map_nil, List.append_nil, List.take_of_length_le (by omega)]
    · intro i hi ih acc ha
      refine Ev.step (fun k => by rw [laws_toStepS.l0]) (evp (by omega) (evp (by omega) ?_))
      rw [rdLS l i hi]
      refine evb (a := (l[i].f0, l[i].f1, l[i].f2, l[i].f3)) rfl (evp (by omega) ?_)
      rw [w64 (by omega) (by omega), Int.toNat_natCast]
      have := ih (acc.set i (cStep l[i])) (by simpa using ha)
      rw [set_take _ _ _ (by omega), List.append_assoc] at this
      rw [drop_cons l i hi, List.map_cons]
      exact this
  have := key 0 (Nat.zero_le _) (List.replicate l.length z96) (by simp)
  unfold laws_toStepS.f
  refine evp (by omega) (evp (by omega) ?_)
  simpa using this
theorem eqStep_self (a b c d : Int) : laws_eqStep.f a b c d a b c d = some true := by unfold laws_eqStep.f; simp
theorem eqStepS_ev (l : List S96) (hl : l.length ≤ 9000000000000000000) : Ev (fun k => laws_eqStepS.f k l l) true := by
  have key : ∀ i, i ≤ l.length → Ev (fun k => laws_eqStepS.l0 k l l (i : Int)) true := by
    refine down (n := l.length) ?_ ?_
    · refine Ev.step (fun k => by rw [laws_eqStepS.l0]) (evn (by omega) ?_)
      exact Ev.now _
    · intro i hi ih
      refine Ev.step (fun k => by rw [laws_eqStepS.l0]) (evp (by omega) (evp (by omega) (evp (by omega) ?_)))
      refine evb (eqStep_self _ _ _ _) (evp rfl ?_)
      rw [w64 (by omega) (by omega)]
      exact ih
  unfold laws_eqStepS.f
  refine evp rfl ?_
  exact key 0 (Nat.zero_le _)
theorem szStepS_eq (l : List S98) (m : Int) (h0 : 0 ≤ m) (hm : m ≤ 1048576) (hl : l.length ≤ 9223372036854775807) : laws_szStepS.f l m = some (if m < l.length then -1 else m - l.length) := by
  unfold laws_szStepS.f
  rw [w64 (by omega) (by omega)]
  by_cases h : m < l.length
  · rw [if_pos (by omega), if_pos h]
  · rw [if_neg (by omega), if_neg h]
def runsS (m : Int) (n : Nat) : List S96 := (List.range n).map (fun (j : Nat) => ⟨m + 4 * j, m + 4 * j + 1, m + 4 * j + 2, m + 4 * j + 3⟩)
theorem runsS_len (m : Int) (n : Nat) : (runsS m n).length = n := by simp [runsS]
theorem rd_set_self (l : List S96) (i : Nat) (v : S96) (h : i < l.length) : rd_T96 (l.set i v) (i : Int) = v := by
  rw [rdS _ _ (by simpa using h)]; simp
theorem markStepS_ev (l : List S96) (m : Int) (h0 : 0 ≤ m) (hm : m + 4 * l.length ≤ 4000000000000000000) : Ev (fun k => laws_markStepS.f k l m) (m + 4 * l.length, runsS m l.length) := by
  have key : ∀ i, i ≤ l.length → ∀ acc : List S96, acc.length = l.length → acc.take i = runsS m i → Ev (fun k => laws_markStepS.l0 k acc (m + 4 * i) (i : Int)) (m + 4 * l.length, runsS m l.length) := by
    refine down (n := l.length) ?_ ?_
    · intro acc ha ht
      refine Ev.step (fun k => by rw [laws_markStepS.l0]) (evn (by omega) (evs ?_))
      rw [← ht, List.take_of_length_le (by omega)]
    · intro i hi ih acc ha ht
      refine Ev.step (fun k => by rw [laws_markStepS.l0]) ?_
      refine evp (by omega) (evp (by omega) ?_)
      simp only [Option.bind_some]
      rw [w64 (n := m + 4 * i + 1) (by omega) (by omega), w64 (n := m + 4 * i + 1 + 1) (by omega) (by omega), w64 (n := m + 4 * i + 1 + 1 + 1) (by omega) (by omega), w64 (n := m + 4 * i + 1 + 1 + 1 + 1) (by omega) (by omega), w64 (n := (i : Int) + 1) (by omega) (by omega), Int.toNat_natCast]
      have := ih (acc.set i ⟨m + 4 * i, m + 4 * i + 1, m + 4 * i + 2, m + 4 * i + 3⟩) (by simpa using ha) (by
        rw [set_take _ _ _ (by omega), ht]
        simp [runsS, List.range_succ])
      have rs : ∀ (L : List S96) (v : S96), L.length = l.length → rd_T96 (L.set i v) (i : Int) = v := fun L v hL => rd_set_self L i v (by omega)
      simp only [rs _ _ ha, List.set_set]
      rw [show m + 4 * (i : Int) + 1 + 1 = m + 4 * i + 2 by omega, show m + 4 * (i : Int) + 2 + 1 = m + 4 * i + 3 by omega, show m + 4 * (i : Int) + 3 + 1 = m + 4 * ((i + 1 : Nat) : Int) by omega]
      exact this
  have := key 0 (Nat.zero_le _) l rfl (by simp [runsS])
  unfold laws_markStepS.f
  simpa using this
theorem heldStepS_ev (n : Nat) (m : Int) (h0 : 0 ≤ m) (hm : m + 4 * n ≤ 4000000000000000000) : Ev (fun k => laws_heldStepS.f k (runsS m n) m) (m + 4 * n) := by
  have key : ∀ i, i ≤ n → Ev (fun k => laws_heldStepS.l0 k (runsS m n) (m + 4 * i) (i : Int)) (m + 4 * n) := by
    refine down (n := n) ?_ ?_
    · exact Ev.step (fun k => by rw [laws_heldStepS.l0]) (evn (by rw [runsS_len]; omega) (evs rfl))
    · intro i hi ih
      refine Ev.step (fun k => by rw [laws_heldStepS.l0]) (evp (by rw [runsS_len]; omega) (evp (by omega) ?_))
      rw [rdS _ _ (by rw [runsS_len]; exact hi), show (runsS m n)[i]'(by rw [runsS_len]; exact hi) = ⟨m + 4 * i, m + 4 * i + 1, m + 4 * i + 2, m + 4 * i + 3⟩ by simp [runsS]]
      rw [w64 (n := m + 4 * i + 1) (by omega) (by omega), w64 (n := m + 4 * i + 1 + 1) (by omega) (by omega), w64 (n := m + 4 * i + 1 + 1 + 1) (by omega) (by omega), w64 (n := m + 4 * i + 1 + 1 + 1 + 1) (by omega) (by omega), w64 (n := (i : Int) + 1) (by omega) (by omega)]
      refine evp rfl (evp rfl (evp ?_ (evp ?_ ?_)))
      · show m + 4 * (i : Int) + 2 = _; omega
      · show m + 4 * (i : Int) + 3 = _; omega
      rw [show m + 4 * (i : Int) + 1 + 1 + 1 + 1 = m + 4 * ((i + 1 : Nat) : Int) by omega]
      exact ih
  have := key 0 (Nat.zero_le _)
  unfold laws_heldStepS.f
  simpa using this
end Go.Proofs.Ytbkkpllejgedcaa.Q


namespace Go.Proofs.Ytbkkpllejgedcaa.Q
set_option linter.unusedVariables false
set_option linter.unusedSimpArgs false
open Go.RowKit Go.Proofs.Ytbkkpllejgedcaa.P Go.Proofs.YtbkkpllejgedcaaW.PrintWords Go.Proofs.YtbkkpllejgedcaaW.PrintMore
theorem planGoS_eq (l : List S96) (t : List Bool) : planGoS l t = planGo l t := by
  induction l generalizing t with
  | nil => rfl
  | cons x r ih => simp only [planGoS, planGo, ih]; rfl
theorem planSpec_eq (l : List S96) : spec_PlanOk.f l = some (planOk l) := by
  show some (planOkS l) = some (planOk l)
  unfold planOkS planOk
  rw [planGoS_eq, Bool.and_comm]; rfl
def inKeys (x : S96) : Prop := 0 ≤ x.f0 ∧ x.f0 ≤ 11 ∧ 0 ≤ x.f1 ∧ x.f1 ≤ 11 ∧ x.f1 = (x.f0 + 1) % 12
theorem stepOk_in {x : S96} {t : List Bool} (h : stepOk x t = true) : inKeys x := by
  simp [stepOk] at h; unfold inKeys; omega
theorem planGo_in {l : List S96} {t : List Bool} (h : planGo l t = true) : ∀ x ∈ l, inKeys x := by
  induction l generalizing t with
  | nil => simp
  | cons y r ih =>
    simp only [planGo, Bool.and_eq_true] at h
    intro x hx
    rcases List.mem_cons.1 hx with rfl | hx
    · exact stepOk_in h.1
    · exact ih h.2 x hx
theorem planOk_in {l : List S96} (h : planOk l = true) : ∀ x ∈ l, inKeys x := by
  simp only [planOk, Bool.and_eq_true] at h; exact planGo_in h.2
theorem planOk_len {l : List S96} (h : planOk l = true) : l.length ≤ 11 := by
  simp only [planOk, Bool.and_eq_true, decide_eq_true_eq] at h; exact h.1
end Go.Proofs.Ytbkkpllejgedcaa.Q


namespace Go.Proofs.Ytbkkpllejgedcaa.Q
set_option linter.unusedVariables false
set_option linter.unusedSimpArgs false
open Go.RowKit Go.Proofs.Ytbkkpllejgedcaa.P Go.Proofs.YtbkkpllejgedcaaW.PrintWords Go.Proofs.YtbkkpllejgedcaaW.PrintMore
def stepTo (c : Int) : List S96 → Nat → Int
  | [], _ => -1
  | x :: r, j => if x.f1 = c then (j : Int) else stepTo c r (j + 1)
theorem stepTo_ev (l : List S96) (c : Int) (hl : l.length ≤ 4000000) : Ev (fun n => spec_l20Step.f n l c) (stepTo c l 0) := by
  have key : ∀ i, i ≤ l.length → Ev (fun n => spec_l20Step.l0 n l c (i : Int)) (stepTo c (l.drop i) i) := by
    refine down (n := l.length) ?_ ?_
    · refine Ev.step (fun n => by rw [spec_l20Step.l0]) (evn (by omega) (evs ?_))
      rw [drop_end]; rfl
    · intro i hi ih
      refine Ev.step (fun n => by rw [spec_l20Step.l0]) ?_
      refine evp (by omega) (evp (by omega) ?_)
      rw [rdS l i hi, drop_cons l i hi, stepTo]
      by_cases h : l[i].f1 = c
      · exact rpos h <| evp h (Ev.now _)
      · refine rneg h <| evn h ?_
        rw [w64 (by omega) (by omega)]
        exact ih
  exact key 0 (Nat.zero_le _)
theorem stepTo_lt (c : Int) (l : List S96) (j d : Nat) : (0 ≤ stepTo c l j ∧ stepTo c l j < ((j + d : Nat) : Int)) ↔ ∃ x ∈ l.take d, x.f1 = c := by
  induction l generalizing j d with
  | nil => simp [stepTo]
  | cons x r ih =>
    unfold stepTo
    cases d with
    | zero =>
      simp only [List.take_zero, List.not_mem_nil, false_and, exists_false, iff_false]
      by_cases h : x.f1 = c
      · rw [if_pos h]; omega
      · rw [if_neg h]
        have := ih (j + 1) 0
        simp at this
        have h1 := this
        intro h2
        have : ∀ (l : List S96) (j : Nat), stepTo c l j = -1 ∨ (j : Int) ≤ stepTo c l j := by
          intro l
          induction l with
          | nil => intro j; exact .inl rfl
          | cons y s ih2 =>
            intro j; unfold stepTo; split
            · exact .inr (Int.le_refl _)
            · rcases ih2 (j + 1) with h | h
              · exact .inl h
              · exact .inr (by omega)
        rcases this r (j + 1) with h3 | h3 <;> omega
    | succ d =>
      rw [List.take_succ_cons]
      by_cases h : x.f1 = c
      · rw [if_pos h]
        exact ⟨fun _ => ⟨x, List.mem_cons_self, h⟩, fun _ => ⟨by omega, by omega⟩⟩
      · rw [if_neg h]
        have := ih (j + 1) d
        rw [show j + 1 + d = j + (d + 1) by omega] at this
        rw [this]
        constructor
        · rintro ⟨y, hy, e⟩; exact ⟨y, List.mem_cons_of_mem _ hy, e⟩
        · rintro ⟨y, hy, e⟩
          rcases List.mem_cons.1 hy with rfl | hy
          · exact absurd e h
          · exact ⟨y, hy, e⟩
theorem tunedBy_len (l : List S96) (t : List Bool) : (P.tunedBy l t).length = t.length := by
  unfold P.tunedBy
  induction l generalizing t with
  | nil => rfl
  | cons x r ih => rw [List.foldl_cons, ih, List.length_set]
theorem tunedBy_get (l : List S96) (t : List Bool) (hin : ∀ x ∈ l, 0 ≤ x.f1) (c : Nat) (hc : c < t.length) : (P.tunedBy l t)[c]? = some (t[c] || l.any (fun x => decide (x.f1 = (c : Int)))) := by
  unfold P.tunedBy
  induction l generalizing t with
  | nil => simp [hc]
  | cons x r ih =>
    rw [List.foldl_cons, ih _ (fun y hy => hin y (List.mem_cons_of_mem _ hy)) (by simpa using hc)]
    have := hin x List.mem_cons_self
    simp only [List.any_cons, List.getElem_set]
    by_cases h : x.f1 = (c : Int)
    · rw [if_pos (by omega)]; simp [h]
    · rw [if_neg (by omega)]; simp [h]
theorem workOk_spec (p : List S96) (d : Int) (q : List Int) : Ev (fun n => spec_WorkOk.f n p d q) (workOk p d q) := by
  have jt : Ev (fun n => spec_WorkOk.j0 n true p d q) false := Ev.step (fun n => by rw [spec_WorkOk.j0]) (evp rfl (Ev.now _))
  unfold spec_WorkOk.f workOk
  refine evb (planSpec_eq p) ?_
  by_cases hp : planOk p = true
  rotate_left
  · rw [show planOk p = false by simpa using hp, Bool.false_and]; exact evn (by simp) jt
  refine evp hp (evb (l01In_eq _ _ _) ?_)
  rw [hp, Bool.true_and]
  by_cases hd : 0 ≤ d ∧ d ≤ (p.length : Int)
  rotate_left
  · rw [decide_eq_false hd, Bool.false_and]; exact evn (by simp) jt
  rw [decide_eq_true hd, Bool.true_and]
  refine evp rfl ?_
  by_cases hq : q.length = 12
  rotate_left
  · rw [decide_eq_false hq, Bool.false_and, show ((q.length : Int) != 12) = true by simpa using (show ¬ (q.length : Int) = 12 by omega)]; exact jt
  rw [decide_eq_true hq, Bool.true_and, show ((q.length : Int) != 12) = false by simpa using (show (q.length : Int) = 12 by omega)]
  have hl := planOk_len hp
  have hin := planOk_in hp
  obtain ⟨T, hT⟩ : ∃ T, P.tunedBy (p.take d.toNat) tuned0 = T := ⟨_, rfl⟩
  have hTl : T.length = 12 := by rw [← hT, tunedBy_len]; rfl
  have hTi : ∀ c : Nat, (hc : c < T.length) → T[c] = (decide (c = 0) || decide (0 ≤ stepTo (c : Int) p 0 ∧ stepTo (c : Int) p 0 < d)) := by
    intro c hc
    have h1 := tunedBy_get (p.take d.toNat) tuned0 (fun x hx => (hin x (List.mem_of_mem_take hx)).2.2.1) c (show c < 12 by omega)
    rw [hT, List.getElem?_eq_getElem hc] at h1
    rw [Option.some.inj h1]
    congr 1
    · have : ∀ c, (h : c < tuned0.length) → tuned0[c] = decide (c = 0) := by decide
      exact this c _
    · have h2 := stepTo_lt (c : Int) p 0 d.toNat
      rw [Nat.zero_add, Int.toNat_of_nonneg hd.1] at h2
      rw [Bool.eq_iff_iff, decide_eq_true_iff, h2]
      simp
  rw [hT]
  have key : ∀ i : Nat, i ≤ 12 → Ev (fun n => spec_WorkOk.l0 n (i : Int) p d q) (keyGo (T.drop i) (q.drop i)) := by
    refine down (n := 12) ?_ ?_
    · refine Ev.step (fun n => by rw [spec_WorkOk.l0]) (evn (by omega) (evs ?_))
      rw [List.drop_eq_nil_of_le (by omega)]; rfl
    · intro i hi ih
      refine Ev.step (fun n => by rw [spec_WorkOk.l0]) ?_
      refine evp (by omega) (Ev.bind (stepTo_ev p _ (by omega)) ?_)
      rw [rd_nat q i (by omega), drop_cons T i (by omega), drop_cons q i (by omega), keyGo, hTi i (by omega), w64 (n := (i : Int) + 1) (by omega) (by omega)]
      have fin : ∀ v : Bool, Ev (fun n => (spec_l18Pitch.f q[i]).bind fun t => if t = true then spec_WorkOk.l0 n (((i + 1 : Nat)) : Int) p d q else some false) (decide (1 ≤ q[i] ∧ q[i] ≤ 10000000) && keyGo (T.drop (i + 1)) (q.drop (i + 1))) := by
        intro v
        refine evb (pitch_eq _) ?_
        by_cases hf : fine q[i] = true
        · rw [show decide (1 ≤ q[i] ∧ q[i] ≤ 10000000) = true from hf, Bool.true_and]; exact evp hf ih
        · rw [show decide (1 ≤ q[i] ∧ q[i] ≤ 10000000) = false by simpa [fine] using hf, Bool.false_and]; exact evn hf (Ev.now _)
      have zer : Ev (fun n => if 0 ≤ (i : Int) then (if (i : Int) < (q.length : Int) then (if q[i] = 0 then spec_WorkOk.l0 n (((i + 1 : Nat)) : Int) p d q else some false) else none) else none) (decide (q[i] = 0) && keyGo (T.drop (i + 1)) (q.drop (i + 1))) := by
        refine evp (by omega) (evp (by omega) ?_)
        by_cases hz : q[i] = 0
        · rw [decide_eq_true hz, Bool.true_and]; exact evp hz ih
        · rw [decide_eq_false hz, Bool.false_and]; exact evn hz (Ev.now _)
      by_cases h0 : i = 0
      · refine evp (by omega) (evp (by omega) (evp (by omega) ?_))
        rw [decide_eq_true h0, Bool.true_or, if_pos rfl]
        exact fin true
      refine evn (by omega) ?_
      rw [decide_eq_false h0, Bool.false_or]
      by_cases h1 : 0 ≤ stepTo (i : Int) p 0
      rotate_left
      · rw [decide_eq_false (fun h => h1 h.1), if_neg (by simp)]; exact evn (by omega) zer
      refine evp (by omega) ?_
      by_cases h2 : stepTo (i : Int) p 0 < d
      · rw [decide_eq_true ⟨h1, h2⟩, if_pos rfl]; exact evp h2 (evp (by omega) (evp (by omega) (fin true)))
      · rw [decide_eq_false (fun h => h2 h.2), if_neg (by simp)]; exact evn h2 zer
  refine Ev.step (fun n => by rw [spec_WorkOk.j0]) (evn (by decide) ?_)
  exact key 0 (by omega)
end Go.Proofs.Ytbkkpllejgedcaa.Q


namespace Go.Proofs.Ytbkkpllejgedcaa.Q
set_option linter.unusedVariables false
set_option linter.unusedSimpArgs false
open Go.RowKit Go.Proofs.Ytbkkpllejgedcaa.P Go.Proofs.YtbkkpllejgedcaaW.PrintWords Go.Proofs.YtbkkpllejgedcaaW.PrintMore
def cEntry (x : S68) : S74 := ⟨⟨x.f0.f0, x.f0.f1⟩, x.f1, x.f2⟩
theorem rdE (l : List S74) (i : Nat) (h : i < l.length) : rd_T74 l (i : Int) = l[i] := by
  unfold rd_T74; simp [List.getD_eq_getElem?_getD, h]
theorem rdLE (l : List S68) (i : Nat) (h : i < l.length) : rd_T68 l (i : Int) = l[i] := by
  unfold rd_T68; simp [List.getD_eq_getElem?_getD, h]
theorem toEntryS_ev (l : List S68) (hl : l.length ≤ 1048576) : Ev (fun k => laws_toEntryS.f k l) (l.map cEntry) := by
  have key : ∀ i, i ≤ l.length → ∀ acc : List S74, acc.length = l.length → Ev (fun k => laws_toEntryS.l0 k l acc (i : Int)) (acc.take i ++ (l.drop i).map cEntry) := by
    refine down (n := l.length) ?_ ?_
    · intro acc ha
      refine Ev.step (fun k => by rw [laws_toEntryS.l0]) (evn (by omega) (evs ?_))
      rw [drop_end, List.map_nil, List.append_nil, List.take_of_length_le (by omega)]
    · intro i hi ih acc ha
      refine Ev.step (fun k => by rw [laws_toEntryS.l0]) (evp (by omega) (evp (by omega) ?_))
      rw [rdLE l i hi]
      refine evb (a := (l[i].f0.f0, l[i].f0.f1, l[i].f1, l[i].f2)) rfl (evp (by omega) ?_)
      rw [w64 (by omega) (by omega), Int.toNat_natCast]
      have := ih (acc.set i (cEntry l[i])) (by simpa using ha)
      rw [set_take _ _ _ (by omega), List.append_assoc] at this
      rw [drop_cons l i hi, List.map_cons]
      exact this
  have := key 0 (Nat.zero_le _) (List.replicate l.length z74) (by simp)
  unfold laws_toEntryS.f
  refine evp (by omega) (evp (by omega) ?_)
  simpa using this
theorem eqPipe_self (a b : Int) : laws_eqPipe.f a b a b = some true := by unfold laws_eqPipe.f; simp
theorem eqEntry_self (a b c d : Int) : laws_eqEntry.f a b c d a b c d = some true := by unfold laws_eqEntry.f; simp [eqPipe_self]
theorem eqEntryS_ev (l : List S74) (hl : l.length ≤ 9000000000000000000) : Ev (fun k => laws_eqEntryS.f k l l) true := by
  have key : ∀ i, i ≤ l.length → Ev (fun k => laws_eqEntryS.l0 k l l (i : Int)) true := by
    refine down (n := l.length) ?_ ?_
    · refine Ev.step (fun k => by rw [laws_eqEntryS.l0]) (evn (by omega) ?_)
      exact Ev.now _
    · intro i hi ih
      refine Ev.step (fun k => by rw [laws_eqEntryS.l0]) (evp (by omega) (evp (by omega) (evp (by omega) ?_)))
      refine evb (eqEntry_self _ _ _ _) (evp rfl ?_)
      rw [w64 (by omega) (by omega)]
      exact ih
  unfold laws_eqEntryS.f
  refine evp rfl ?_
  exact key 0 (Nat.zero_le _)
theorem szEntryS_eq (l : List S68) (m : Int) (h0 : 0 ≤ m) (hm : m ≤ 1048576) (hl : l.length ≤ 9223372036854775807) : laws_szEntryS.f l m = some (if m < l.length then -1 else m - l.length) := by
  unfold laws_szEntryS.f
  rw [w64 (by omega) (by omega)]
  by_cases h : m < l.length
  · rw [if_pos (by omega), if_pos h]
  · rw [if_neg (by omega), if_neg h]
end Go.Proofs.Ytbkkpllejgedcaa.Q


namespace Go.Proofs.Ytbkkpllejgedcaa.Q
set_option linter.unusedVariables false
set_option linter.unusedSimpArgs false
open Go.RowKit Go.Proofs.Ytbkkpllejgedcaa.P Go.Proofs.YtbkkpllejgedcaaW.PrintWords Go.Proofs.YtbkkpllejgedcaaW.PrintMore
theorem logOk_spec (l : List S74) (hl : l.length ≤ 1048577) : Ev (fun k => spec_LogOk.f k l) (logOk l) := Ev.now _
theorem logOk_impl (l : List S74) (hl : l.length ≤ 1048577) : Ev (fun k => impl_LogOk.f k l) (logOk l) := Ev.now _
end Go.Proofs.Ytbkkpllejgedcaa.Q


namespace Go.Proofs.Ytbkkpllejgedcaa.Q
set_option linter.unusedVariables false
set_option linter.unusedSimpArgs false
open Go.RowKit Go.Proofs.Ytbkkpllejgedcaa.P Go.Proofs.YtbkkpllejgedcaaW.PrintWords Go.Proofs.YtbkkpllejgedcaaW.PrintMore
theorem shopOk_impl (p : List S96) (d : Int) (q : List Int) (a m : Int) (l : List S74) (hl : l.length ≤ 1048577) : Ev (fun k => impl_ShopOk.f k p d q a m l) (shopOk p d q a m l) := Ev.now _
theorem shopOk_spec (p : List S96) (d : Int) (q : List Int) (a m : Int) (l : List S74) (hl : l.length ≤ 1048577) : Ev (fun k => spec_ShopOk.f k p d q a m l) (shopOk p d q a m l) := Ev.bind (workOk_spec p d q) (Ev.now _)
end Go.Proofs.Ytbkkpllejgedcaa.Q

