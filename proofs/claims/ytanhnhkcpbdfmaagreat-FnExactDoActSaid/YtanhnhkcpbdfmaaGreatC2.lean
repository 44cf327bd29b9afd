/- What functions of the program come to (f), that their calls come to just this (calls), and the plain laws over lists and numbers. No condition but those of the given row. -/
import Derived.Test.YtanhnhkcpbdfmaaGreatC1
import Derived.KernelRfl
import Derived.Deep.RegionHeld3
set_option linter.unusedVariables false
set_option linter.unusedSimpArgs false
namespace Go.Proofs.YtanhnhkcpbdfmaaGreat.P
set_option maxHeartbeats 8000000
set_option maxRecDepth 100000
open Go.RowKit Go.Proofs.YtanhnhkcpbdfmaaGreatW.PrintWords Go.Proofs.YtanhnhkcpbdfmaaGreatW.PrintLast Go.Proofs.YtanhnhkcpbdfmaaGreatW.PrintMore
attribute [local go_sem] max2_int min2_int max_two min_two max_three min_three max_four min_four
def laws_markEntryS.l0 : Nat → List (S104) → Int → Int → Option (Int × (List (S104)))
 | 0, _, _, _ => none
 | k + 1, x0, x1, x5 => if x5 < (x0.length : Int) then (if 0 ≤ x5 then ((some (x0.set (x5 : Int).toNat (⟨(⟨x1, (rd_T104 x0 x5).f0.f1⟩ : S74), (rd_T104 x0 x5).f1, (rd_T104 x0 x5).f2⟩ : S104) : List (S104))).bind fun y1048 => ((some (y1048.set (x5 : Int).toNat (⟨(⟨(rd_T104 y1048 x5).f0.f0, wrap64 (x1 + 1)⟩ : S74), (rd_T104 y1048 x5).f1, (rd_T104 y1048 x5).f2⟩ : S104) : List (S104))).bind fun y1049 => ((some (y1049.set (x5 : Int).toNat (⟨(⟨(rd_T104 y1049 x5).f0.f0, (rd_T104 y1049 x5).f0.f1⟩ : S74), wrap64 ((wrap64 (x1 + 1)) + 1), (rd_T104 y1049 x5).f2⟩ : S104) : List (S104))).bind fun y1050 => (laws_markEntryS.l0 k (y1050.set (x5 : Int).toNat (⟨(⟨(rd_T104 y1050 x5).f0.f0, (rd_T104 y1050 x5).f0.f1⟩ : S74), (rd_T104 y1050 x5).f1, wrap64 ((wrap64 ((wrap64 (x1 + 1)) + 1)) + 1)⟩ : S104)) (wrap64 ((wrap64 ((wrap64 ((wrap64 (x1 + 1)) + 1)) + 1)) + 1)) (wrap64 (x5 + 1)))))) else (none)) else (some (x1, x0))
def laws_markEntryS.f (k : Nat) (l0 : List (S104)) (a1 : Int) : Option (Int × (List (S104))) := laws_markEntryS.l0 k l0 a1 0
theorem laws_markEntryS.calls (k : Nat) (P0_ : Nat → Prop) (u9000_ : Value) (l0 : List (S104)) (a1 : Int) (r1 : Int) (r2 : List (S104)) (w0 w : World) (hB : Below w0.heap.size w0 w) (ho0 : Kd.R k104 104 w w0.heap.size P0_ u9000_ l0) (h : laws_markEntryS.f k l0 a1 = some (r1, r2)) :
  Calls Tryz.prog 66 #[u9000_, .int .i64 a1] w fun e w' => e = .returned (.int .i64 r1) ∧ Kd.R k104 104 w' w0.heap.size (fun k_ => (P0_ k_ ∨ w.heap.size ≤ k_)) u9000_ r2 ∧ Below w0.heap.size w0 w' ∧ Kept w w' (fun k_ => P0_ k_) := by
 have HO0 := A_ (show Kd.R k104 104 w w0.heap.size (fun k_ => (P0_ k_ ∨ w.heap.size ≤ k_)) u9000_ l0 from Kd.R_mono ho0 (fun k_ hk => (.inl hk)))
 have HK := A_ (Kept.refl w (fun k_ => P0_ k_))
 have HW0 := A_ hB.size
 have HB := A_ hB
 clear hB
 have H : (laws_markEntryS.l0 k l0 a1 0) = some (r1, r2) := h
 clear h
 have H' := A_ H
 clear H
 go_enter Tryz.func66, Tryz.ntmps66
 go_wp2
 go_loopg [1, 5] k (fun kq v1 v5 w' => ∃ (x0_1 : List (S104)) (x1_1 : Int) (x5_1 : Int), v1 = .int .i64 x1_1 ∧ v5 = .int .i64 x5_1 ∧ Aside0 (laws_markEntryS.l0 kq x0_1 x1_1 x5_1 = some (r1, r2)) ∧ Aside0 (kq ≤ k) ∧ Aside0 (Kd.R k104 104 w' w0.heap.size (fun k_ => (P0_ k_ ∨ w.heap.size ≤ k_)) u9000_ x0_1) ∧ Aside0 (Kept w w' (fun k_ => P0_ k_)) ∧ Aside0 (Below w0.heap.size w0 w'))
 case atStart => exact ⟨(l0), (a1), (0), (by first | rfl | (simp; done) | (simp [*]; done)), (by first | rfl | (simp; done) | (simp [*]; done)), H', ⟨Nat.le_refl _⟩, ⟨oR HO0⟩, ⟨by repeat (first | (with_reducible first | exact HK.out | apply Kept.alloc | apply Kept.drewN | apply Kept.drew) | exact HK.out)⟩, ⟨oB HB⟩⟩
 case round =>
  clear H'
  try clear p2
  obtain ⟨x0_1, x1_1, x5_1, rfl, rfl, HA, HK1, HO_0, HK, HB⟩ := hrel
  cases gk with
  | zero => exact absurd HA.out (by simp [laws_markEntryS.l0])
  | succ k1 =>
   have H := HA.out
   clear HA
   simp only [laws_markEntryS.l0] at H
   by_cases c3 : x5_1 < (x0_1.length : Int)
   ·rw [if_pos c3] at H
    have c3b0 : decide (x5_1 < (x0_1.length : Int)) = true := decide_eq_true c3
    clear c3
    by_cases c4 : 0 ≤ x5_1
    ·rw [if_pos c4] at H
     have c4b0 : decide (0 ≤ x5_1) = true := decide_eq_true c4
     clear c4
     obtain ⟨y1048, hy1048⟩ : ∃ y_ : List (S104), y_ = (x0_1.set (x5_1 : Int).toNat (⟨(⟨x1_1, (rd_T104 x0_1 x5_1).f0.f1⟩ : S74), (rd_T104 x0_1 x5_1).f1, (rd_T104 x0_1 x5_1).f2⟩ : S104)) := ⟨_, rfl⟩
     replace H : ((some (y1048.set (x5_1 : Int).toNat (⟨(⟨(rd_T104 y1048 x5_1).f0.f0, wrap64 (x1_1 + 1)⟩ : S74), (rd_T104 y1048 x5_1).f1, (rd_T104 y1048 x5_1).f2⟩ : S104) : List (S104))).bind fun y1049 => ((some (y1049.set (x5_1 : Int).toNat (⟨(⟨(rd_T104 y1049 x5_1).f0.f0, (rd_T104 y1049 x5_1).f0.f1⟩ : S74), wrap64 ((wrap64 (x1_1 + 1)) + 1), (rd_T104 y1049 x5_1).f2⟩ : S104) : List (S104))).bind fun y1050 => (laws_markEntryS.l0 k1 (y1050.set (x5_1 : Int).toNat (⟨(⟨(rd_T104 y1050 x5_1).f0.f0, (rd_T104 y1050 x5_1).f0.f1⟩ : S74), (rd_T104 y1050 x5_1).f1, wrap64 ((wrap64 ((wrap64 (x1_1 + 1)) + 1)) + 1)⟩ : S104)) (wrap64 ((wrap64 ((wrap64 ((wrap64 (x1_1 + 1)) + 1)) + 1)) + 1)) (wrap64 (x5_1 + 1))))) = some (r1, r2) := by first | (rw [hy1048]; with_reducible exact H) | (have H2_ := (Option.bind_some _ _).symm.trans H; rw [hy1048]; with_reducible exact H2_) | (have H2_ := (Option.bind_some _ _).symm.trans H; with_reducible exact H2_) | with_reducible exact H | (rw [hy1048]; exact H) | exact H
     have Ny1048 := A_ hy1048
     clear hy1048
     obtain ⟨y1049, hy1049⟩ : ∃ y_ : List (S104), y_ = (y1048.set (x5_1 : Int).toNat (⟨(⟨(rd_T104 y1048 x5_1).f0.f0, wrap64 (x1_1 + 1)⟩ : S74), (rd_T104 y1048 x5_1).f1, (rd_T104 y1048 x5_1).f2⟩ : S104)) := ⟨_, rfl⟩
     replace H : ((some (y1049.set (x5_1 : Int).toNat (⟨(⟨(rd_T104 y1049 x5_1).f0.f0, (rd_T104 y1049 x5_1).f0.f1⟩ : S74), wrap64 ((wrap64 (x1_1 + 1)) + 1), (rd_T104 y1049 x5_1).f2⟩ : S104) : List (S104))).bind fun y1050 => (laws_markEntryS.l0 k1 (y1050.set (x5_1 : Int).toNat (⟨(⟨(rd_T104 y1050 x5_1).f0.f0, (rd_T104 y1050 x5_1).f0.f1⟩ : S74), (rd_T104 y1050 x5_1).f1, wrap64 ((wrap64 ((wrap64 (x1_1 + 1)) + 1)) + 1)⟩ : S104)) (wrap64 ((wrap64 ((wrap64 ((wrap64 (x1_1 + 1)) + 1)) + 1)) + 1)) (wrap64 (x5_1 + 1)))) = some (r1, r2) := by first | (rw [hy1049]; with_reducible exact H) | (have H2_ := (Option.bind_some _ _).symm.trans H; rw [hy1049]; with_reducible exact H2_) | (have H2_ := (Option.bind_some _ _).symm.trans H; with_reducible exact H2_) | with_reducible exact H | (rw [hy1049]; exact H) | exact H
     have Ny1049 := A_ hy1049
     clear hy1049
     obtain ⟨y1050, hy1050⟩ : ∃ y_ : List (S104), y_ = (y1049.set (x5_1 : Int).toNat (⟨(⟨(rd_T104 y1049 x5_1).f0.f0, (rd_T104 y1049 x5_1).f0.f1⟩ : S74), wrap64 ((wrap64 (x1_1 + 1)) + 1), (rd_T104 y1049 x5_1).f2⟩ : S104)) := ⟨_, rfl⟩
     replace H : (laws_markEntryS.l0 k1 (y1050.set (x5_1 : Int).toNat (⟨(⟨(rd_T104 y1050 x5_1).f0.f0, (rd_T104 y1050 x5_1).f0.f1⟩ : S74), (rd_T104 y1050 x5_1).f1, wrap64 ((wrap64 ((wrap64 (x1_1 + 1)) + 1)) + 1)⟩ : S104)) (wrap64 ((wrap64 ((wrap64 ((wrap64 (x1_1 + 1)) + 1)) + 1)) + 1)) (wrap64 (x5_1 + 1))) = some (r1, r2) := by first | (rw [hy1050]; with_reducible exact H) | (have H2_ := (Option.bind_some _ _).symm.trans H; rw [hy1050]; with_reducible exact H2_) | (have H2_ := (Option.bind_some _ _).symm.trans H; with_reducible exact H2_) | with_reducible exact H | (rw [hy1050]; exact H) | exact H
     have Ny1050 := A_ hy1050
     clear hy1050
     obtain ⟨y1051, hy1051⟩ : ∃ y_ : List (S104), y_ = (y1050.set (x5_1 : Int).toNat (⟨(⟨(rd_T104 y1050 x5_1).f0.f0, (rd_T104 y1050 x5_1).f0.f1⟩ : S74), (rd_T104 y1050 x5_1).f1, wrap64 ((wrap64 ((wrap64 (x1_1 + 1)) + 1)) + 1)⟩ : S104)) := ⟨_, rfl⟩
     replace H : (laws_markEntryS.l0 k1 y1051 (wrap64 ((wrap64 ((wrap64 ((wrap64 (x1_1 + 1)) + 1)) + 1)) + 1)) (wrap64 (x5_1 + 1))) = some (r1, r2) := by first | (rw [hy1051]; with_reducible exact H) | (have H2_ := (Option.bind_some _ _).symm.trans H; rw [hy1051]; with_reducible exact H2_) | (have H2_ := (Option.bind_some _ _).symm.trans H; with_reducible exact H2_) | with_reducible exact H | (rw [hy1051]; exact H) | exact H
     have Ny1051 := A_ hy1051
     clear hy1051
     have H' := A_ H
     clear H
     obtain ⟨Ao9, co9, eo9⟩ := Kd.R_slice HO_0.out
     subst eo9
     have p5 : 0 ≤ (x5_1 : Int) := of_decide_eq_true (by first | (with_reducible assumption) | assumption)
     have q5 : (x5_1 : Int) < ((x0_1.length : Int) : Int) := of_decide_eq_true (by first | (with_reducible assumption) | assumption)
     obtain ⟨go5, co5, eo5, gb5, gl5, cl5, HG5⟩ := Kd.R_form HO_0.out (by omega)
     (first | cases eo5 | (injection eo5 with ea_ en_ ec_; (first | subst ea_ | (injection ea_ with ea_; subst ea_)); subst ec_; clear en_))
     have GB5 := A_ gb5
     have GG5 := A_ HG5
     clear gb5 gl5 HG5
     have HMgo5 := A_ (show (P0_ go5 ∨ w.heap.size ≤ go5) from (HO_0.out.1 _ rfl))
     obtain ⟨ce5, hcl5, hM5, hcc5, hfr5⟩ := Kd.R_elem HO_0.out z104 (x5_1 : Int) p5 q5
     obtain rfl := k104_openM hM5
     have hx5_0 : wr.cell? ⟨go5, (x5_1 : Int).toNat * 4, none⟩ = some (.int .i64 ((rd_T104 x0_1 x5_1).f0.f0)) := hcc5 0 _ rfl
     have hx5_1 : wr.cell? ⟨go5, (x5_1 : Int).toNat * 4 + 1, none⟩ = some (.int .i64 ((rd_T104 x0_1 x5_1).f0.f1)) := hcc5 1 _ rfl
     have hx5_2 : wr.cell? ⟨go5, (x5_1 : Int).toNat * 4 + 2, none⟩ = some (.int .i64 ((rd_T104 x0_1 x5_1).f1)) := hcc5 2 _ rfl
     have hx5_3 : wr.cell? ⟨go5, (x5_1 : Int).toNat * 4 + 3, none⟩ = some (.int .i64 ((rd_T104 x0_1 x5_1).f2)) := hcc5 3 _ rfl
     have hf5_0 : wr.frozen? ⟨go5, (x5_1 : Int).toNat * 4, none⟩ = false := hfr5 0
     have hf5_1 : wr.frozen? ⟨go5, (x5_1 : Int).toNat * 4 + 1, none⟩ = false := hfr5 1
     have hf5_2 : wr.frozen? ⟨go5, (x5_1 : Int).toNat * 4 + 2, none⟩ = false := hfr5 2
     have hf5_3 : wr.frozen? ⟨go5, (x5_1 : Int).toNat * 4 + 3, none⟩ = false := hfr5 3
     clear hcl5 hcc5 hfr5 hM5
     replace p5 := eq_true p5
     replace q5 := eq_true q5
     have HX10 := A_ (show Kd.R k104 104 wr w0.heap.size (fun k_ => (P0_ k_ ∨ w.heap.size ≤ k_)) (.slice (some ⟨go5, 0, none⟩) x0_1.length co9) x0_1 from (oR HO_0))
     obtain ⟨ce10, hcl10, hM10, hcc10, hfr10⟩ := Kd.R_elem HX10.out z104 (x5_1 : Int) (of_decide_eq_true (by first | (with_reducible assumption) | assumption)) (by have h_ : (x5_1 : Int) < ((x0_1.length : Int) : Int) := of_decide_eq_true (by first | (with_reducible assumption) | assumption); first | exact h_ | (have e_ := (Kd.R_reads' HO_0.out).1; omega) | simpa using h_)
     obtain rfl := k104_openM hM10
     have HP10 := Kd.R_seg HX10.out (x5_1 : Int) (of_decide_eq_true (by first | (with_reducible assumption) | assumption)) (by have h_ : (x5_1 : Int) < ((x0_1.length : Int) : Int) := of_decide_eq_true (by first | (with_reducible assumption) | assumption); first | exact h_ | (have e_ := (Kd.R_reads' HO_0.out).1; omega) | simpa using h_) (seg := [.int .i64 x1_1]) (j := 0) hcl10 hcc10 (show 1 ≤ 4 from by decide) (x' := (⟨(⟨x1_1, (rd_T104 x0_1 x5_1).f0.f1⟩ : S74), (rd_T104 x0_1 x5_1).f1, (rd_T104 x0_1 x5_1).f2⟩ : S104)) (k104_mkM _ _ _ (⟨(⟨x1_1, (rd_T104 x0_1 x5_1).f0.f1⟩ : S74), (rd_T104 x0_1 x5_1).f1, (rd_T104 x0_1 x5_1).f2⟩ : S104) ) (fun _ hk => hk)
     have hx10_0 := hcc10 0 _ rfl
     (try simp only [show (k104).sz = 4 from rfl, Nat.mul_one, Nat.add_zero] at hx10_0)
     have hf10_0 := hfr10 0
     (try simp only [show (k104).sz = 4 from rfl, Nat.mul_one, Nat.add_zero] at hf10_0)
     clear hcl10 hcc10 hfr10 hM10
     go_wp2_with (first | ((with_reducible refine gate_store (t := 3) (p := 17) rfl ?_); refine store_event (t := 3) (p := 17) (v := ?vo_w11) (w1 := (wr.setCell ⟨go5, (x5_1 : Int).toNat * 4, none⟩ (.int .i64 x1_1))) ?hg ?ho ?hn ?hr ?_; (case ho => rfl); (case hg => rfl); (case hn => rfl); (case hr => first | (go_simp; done) | (go_simp; rfl)); intro w11 hw; have hg : wr.grownBy w11 (some go5) := (by rw [hw]; exact HP10.2); have hp_ : Kd.R k104 104 w11 w0.heap.size (fun k_ => (P0_ k_ ∨ w.heap.size ≤ k_)) (.slice (some ⟨go5, 0, none⟩) x0_1.length co9) y1048 := (by rw [hw, Ny1048.out]; exact HP10.1); clear HP10; have n0_ := A_ (hp_); have n1_ := A_ ((by rw [hw]; exact below_set (HB.out) GB5.out : Below w0.heap.size w0 w11)); have n2_ := A_ (Kept.of_grown (S := (fun k_ => P0_ k_)) hg (by repeat (first | (with_reducible first | exact HK.out | apply Kept.alloc | apply Kept.drewN | apply Kept.drew) | exact HK.out)) (fun k_ e_ => (HO_0.out.1 k_ e_))); clear HO_0; clear HB; clear HK; have HO_0 := n0_; have HB := n1_; have HK := n2_; clear n0_ n1_ n2_; clear hg hw hp_; have p6 : 0 ≤ (x5_1 : Int) := of_decide_eq_true (by first | (with_reducible assumption) | assumption); have q6 : (x5_1 : Int) < ((x0_1.length : Int) : Int) := of_decide_eq_true (by first | (with_reducible assumption) | assumption); obtain ⟨ce6, hcl6, hM6, hcc6, hfr6⟩ := Kd.R_elem HO_0.out z104 (x5_1 : Int) p6 q6; obtain rfl := k104_openM hM6; have hx6_0 : w11.cell? ⟨go5, (x5_1 : Int).toNat * 4, none⟩ = some (.int .i64 ((rd_T104 y1048 x5_1).f0.f0)) := hcc6 0 _ rfl; have hx6_1 : w11.cell? ⟨go5, (x5_1 : Int).toNat * 4 + 1, none⟩ = some (.int .i64 ((rd_T104 y1048 x5_1).f0.f1)) := hcc6 1 _ rfl; have hx6_2 : w11.cell? ⟨go5, (x5_1 : Int).toNat * 4 + 2, none⟩ = some (.int .i64 ((rd_T104 y1048 x5_1).f1)) := hcc6 2 _ rfl; have hx6_3 : w11.cell? ⟨go5, (x5_1 : Int).toNat * 4 + 3, none⟩ = some (.int .i64 ((rd_T104 y1048 x5_1).f2)) := hcc6 3 _ rfl; have hf6_0 : w11.frozen? ⟨go5, (x5_1 : Int).toNat * 4, none⟩ = false := hfr6 0; have hf6_1 : w11.frozen? ⟨go5, (x5_1 : Int).toNat * 4 + 1, none⟩ = false := hfr6 1; have hf6_2 : w11.frozen? ⟨go5, (x5_1 : Int).toNat * 4 + 2, none⟩ = false := hfr6 2; have hf6_3 : w11.frozen? ⟨go5, (x5_1 : Int).toNat * 4 + 3, none⟩ = false := hfr6 3; clear hcl6 hcc6 hfr6 hM6; replace p6 := eq_true p6; replace q6 := eq_true q6; have HX12 := A_ (show Kd.R k104 104 w11 w0.heap.size (fun k_ => (P0_ k_ ∨ w.heap.size ≤ k_)) (.slice (some ⟨go5, 0, none⟩) x0_1.length co9) y1048 from (oR HO_0)); obtain ⟨ce12, hcl12, hM12, hcc12, hfr12⟩ := Kd.R_elem HX12.out z104 (x5_1 : Int) (of_decide_eq_true (by first | (with_reducible assumption) | assumption)) (by have h_ : (x5_1 : Int) < ((x0_1.length : Int) : Int) := of_decide_eq_true (by first | (with_reducible assumption) | assumption); first | exact h_ | (have e_ := (Kd.R_reads' HO_0.out).1; omega) | simpa using h_); obtain rfl := k104_openM hM12; have HP12 := Kd.R_seg HX12.out (x5_1 : Int) (of_decide_eq_true (by first | (with_reducible assumption) | assumption)) (by have h_ : (x5_1 : Int) < ((x0_1.length : Int) : Int) := of_decide_eq_true (by first | (with_reducible assumption) | assumption); first | exact h_ | (have e_ := (Kd.R_reads' HO_0.out).1; omega) | simpa using h_) (seg := [.int .i64 (wrap64 (x1_1 + 1))]) (j := 1) hcl12 hcc12 (show 2 ≤ 4 from by decide) (x' := (⟨(⟨(rd_T104 y1048 x5_1).f0.f0, wrap64 (x1_1 + 1)⟩ : S74), (rd_T104 y1048 x5_1).f1, (rd_T104 y1048 x5_1).f2⟩ : S104)) (k104_mkM _ _ _ (⟨(⟨(rd_T104 y1048 x5_1).f0.f0, wrap64 (x1_1 + 1)⟩ : S74), (rd_T104 y1048 x5_1).f1, (rd_T104 y1048 x5_1).f2⟩ : S104) ) (fun _ hk => hk); have hx12_1 := hcc12 1 _ rfl; (try simp only [show (k104).sz = 4 from rfl, Nat.mul_one, Nat.add_zero] at hx12_1); have hf12_1 := hfr12 1; (try simp only [show (k104).sz = 4 from rfl, Nat.mul_one, Nat.add_zero] at hf12_1); clear hcl12 hcc12 hfr12 hM12) | ((with_reducible refine gate_store (t := 3) (p := 25) rfl ?_); refine store_event (t := 3) (p := 25) (v := ?vo_w13) (w1 := (w11.setCell ⟨go5, (x5_1 : Int).toNat * 4 + 1, none⟩ (.int .i64 (wrap64 (x1_1 + 1))))) ?hg ?ho ?hn ?hr ?_; (case ho => rfl); (case hg => rfl); (case hn => rfl); (case hr => first | (go_simp; done) | (go_simp; rfl)); intro w13 hw; have hg : w11.grownBy w13 (some go5) := (by rw [hw]; exact HP12.2); have hp_ : Kd.R k104 104 w13 w0.heap.size (fun k_ => (P0_ k_ ∨ w.heap.size ≤ k_)) (.slice (some ⟨go5, 0, none⟩) x0_1.length co9) y1049 := (by rw [hw, Ny1049.out]; exact HP12.1); clear HP12; have n0_ := A_ (hp_); have n1_ := A_ ((by rw [hw]; exact below_set (HB.out) GB5.out : Below w0.heap.size w0 w13)); have n2_ := A_ (Kept.of_grown (S := (fun k_ => P0_ k_)) hg (by repeat (first | (with_reducible first | exact HK.out | apply Kept.alloc | apply Kept.drewN | apply Kept.drew) | exact HK.out)) (fun k_ e_ => (HO_0.out.1 k_ e_))); clear HO_0; clear HB; clear HK; have HO_0 := n0_; have HB := n1_; have HK := n2_; clear n0_ n1_ n2_; clear hg hw hp_; have p7 : 0 ≤ (x5_1 : Int) := of_decide_eq_true (by first | (with_reducible assumption) | assumption); have q7 : (x5_1 : Int) < ((x0_1.length : Int) : Int) := of_decide_eq_true (by first | (with_reducible assumption) | assumption); obtain ⟨ce7, hcl7, hM7, hcc7, hfr7⟩ := Kd.R_elem HO_0.out z104 (x5_1 : Int) p7 q7; obtain rfl := k104_openM hM7; have hx7_0 : w13.cell? ⟨go5, (x5_1 : Int).toNat * 4, none⟩ = some (.int .i64 ((rd_T104 y1049 x5_1).f0.f0)) := hcc7 0 _ rfl; have hx7_1 : w13.cell? ⟨go5, (x5_1 : Int).toNat * 4 + 1, none⟩ = some (.int .i64 ((rd_T104 y1049 x5_1).f0.f1)) := hcc7 1 _ rfl; have hx7_2 : w13.cell? ⟨go5, (x5_1 : Int).toNat * 4 + 2, none⟩ = some (.int .i64 ((rd_T104 y1049 x5_1).f1)) := hcc7 2 _ rfl; have hx7_3 : w13.cell? ⟨go5, (x5_1 : Int).toNat * 4 + 3, none⟩ = some (.int .i64 ((rd_T104 y1049 x5_1).f2)) := hcc7 3 _ rfl; have hf7_0 : w13.frozen? ⟨go5, (x5_1 : Int).toNat * 4, none⟩ = false := hfr7 0; have hf7_1 : w13.frozen? ⟨go5, (x5_1 : Int).toNat * 4 + 1, none⟩ = false := hfr7 1; have hf7_2 : w13.frozen? ⟨go5, (x5_1 : Int).toNat * 4 + 2, none⟩ = false := hfr7 2; have hf7_3 : w13.frozen? ⟨go5, (x5_1 : Int).toNat * 4 + 3, none⟩ = false := hfr7 3; clear hcl7 hcc7 hfr7 hM7; replace p7 := eq_true p7; replace q7 := eq_true q7; have HX14 := A_ (show Kd.R k104 104 w13 w0.heap.size (fun k_ => (P0_ k_ ∨ w.heap.size ≤ k_)) (.slice (some ⟨go5, 0, none⟩) x0_1.length co9) y1049 from (oR HO_0)); obtain ⟨ce14, hcl14, hM14, hcc14, hfr14⟩ := Kd.R_elem HX14.out z104 (x5_1 : Int) (of_decide_eq_true (by first | (with_reducible assumption) | assumption)) (by have h_ : (x5_1 : Int) < ((x0_1.length : Int) : Int) := of_decide_eq_true (by first | (with_reducible assumption) | assumption); first | exact h_ | (have e_ := (Kd.R_reads' HO_0.out).1; omega) | simpa using h_); obtain rfl := k104_openM hM14; have HP14 := Kd.R_seg HX14.out (x5_1 : Int) (of_decide_eq_true (by first | (with_reducible assumption) | assumption)) (by have h_ : (x5_1 : Int) < ((x0_1.length : Int) : Int) := of_decide_eq_true (by first | (with_reducible assumption) | assumption); first | exact h_ | (have e_ := (Kd.R_reads' HO_0.out).1; omega) | simpa using h_) (seg := [.int .i64 (wrap64 ((wrap64 (x1_1 + 1)) + 1))]) (j := 2) hcl14 hcc14 (show 3 ≤ 4 from by decide) (x' := (⟨(⟨(rd_T104 y1049 x5_1).f0.f0, (rd_T104 y1049 x5_1).f0.f1⟩ : S74), wrap64 ((wrap64 (x1_1 + 1)) + 1), (rd_T104 y1049 x5_1).f2⟩ : S104)) (k104_mkM _ _ _ (⟨(⟨(rd_T104 y1049 x5_1).f0.f0, (rd_T104 y1049 x5_1).f0.f1⟩ : S74), wrap64 ((wrap64 (x1_1 + 1)) + 1), (rd_T104 y1049 x5_1).f2⟩ : S104) ) (fun _ hk => hk); have hx14_2 := hcc14 2 _ rfl; (try simp only [show (k104).sz = 4 from rfl, Nat.mul_one, Nat.add_zero] at hx14_2); have hf14_2 := hfr14 2; (try simp only [show (k104).sz = 4 from rfl, Nat.mul_one, Nat.add_zero] at hf14_2); clear hcl14 hcc14 hfr14 hM14) | ((with_reducible refine gate_store (t := 3) (p := 32) rfl ?_); refine store_event (t := 3) (p := 32) (v := ?vo_w15) (w1 := (w13.setCell ⟨go5, (x5_1 : Int).toNat * 4 + 2, none⟩ (.int .i64 (wrap64 ((wrap64 (x1_1 + 1)) + 1))))) ?hg ?ho ?hn ?hr ?_; (case ho => rfl); (case hg => rfl); (case hn => rfl); (case hr => first | (go_simp; done) | (go_simp; rfl)); intro w15 hw; have hg : w13.grownBy w15 (some go5) := (by rw [hw]; exact HP14.2); have hp_ : Kd.R k104 104 w15 w0.heap.size (fun k_ => (P0_ k_ ∨ w.heap.size ≤ k_)) (.slice (some ⟨go5, 0, none⟩) x0_1.length co9) y1050 := (by rw [hw, Ny1050.out]; exact HP14.1); clear HP14; have n0_ := A_ (hp_); have n1_ := A_ ((by rw [hw]; exact below_set (HB.out) GB5.out : Below w0.heap.size w0 w15)); have n2_ := A_ (Kept.of_grown (S := (fun k_ => P0_ k_)) hg (by repeat (first | (with_reducible first | exact HK.out | apply Kept.alloc | apply Kept.drewN | apply Kept.drew) | exact HK.out)) (fun k_ e_ => (HO_0.out.1 k_ e_))); clear HO_0; clear HB; clear HK; have HO_0 := n0_; have HB := n1_; have HK := n2_; clear n0_ n1_ n2_; clear hg hw hp_; have p8 : 0 ≤ (x5_1 : Int) := of_decide_eq_true (by first | (with_reducible assumption) | assumption); have q8 : (x5_1 : Int) < ((x0_1.length : Int) : Int) := of_decide_eq_true (by first | (with_reducible assumption) | assumption); obtain ⟨ce8, hcl8, hM8, hcc8, hfr8⟩ := Kd.R_elem HO_0.out z104 (x5_1 : Int) p8 q8; obtain rfl := k104_openM hM8; have hx8_0 : w15.cell? ⟨go5, (x5_1 : Int).toNat * 4, none⟩ = some (.int .i64 ((rd_T104 y1050 x5_1).f0.f0)) := hcc8 0 _ rfl; have hx8_1 : w15.cell? ⟨go5, (x5_1 : Int).toNat * 4 + 1, none⟩ = some (.int .i64 ((rd_T104 y1050 x5_1).f0.f1)) := hcc8 1 _ rfl; have hx8_2 : w15.cell? ⟨go5, (x5_1 : Int).toNat * 4 + 2, none⟩ = some (.int .i64 ((rd_T104 y1050 x5_1).f1)) := hcc8 2 _ rfl; have hx8_3 : w15.cell? ⟨go5, (x5_1 : Int).toNat * 4 + 3, none⟩ = some (.int .i64 ((rd_T104 y1050 x5_1).f2)) := hcc8 3 _ rfl; have hf8_0 : w15.frozen? ⟨go5, (x5_1 : Int).toNat * 4, none⟩ = false := hfr8 0; have hf8_1 : w15.frozen? ⟨go5, (x5_1 : Int).toNat * 4 + 1, none⟩ = false := hfr8 1; have hf8_2 : w15.frozen? ⟨go5, (x5_1 : Int).toNat * 4 + 2, none⟩ = false := hfr8 2; have hf8_3 : w15.frozen? ⟨go5, (x5_1 : Int).toNat * 4 + 3, none⟩ = false := hfr8 3; clear hcl8 hcc8 hfr8 hM8; replace p8 := eq_true p8; replace q8 := eq_true q8; have HX16 := A_ (show Kd.R k104 104 w15 w0.heap.size (fun k_ => (P0_ k_ ∨ w.heap.size ≤ k_)) (.slice (some ⟨go5, 0, none⟩) x0_1.length co9) y1050 from (oR HO_0)); obtain ⟨ce16, hcl16, hM16, hcc16, hfr16⟩ := Kd.R_elem HX16.out z104 (x5_1 : Int) (of_decide_eq_true (by first | (with_reducible assumption) | assumption)) (by have h_ : (x5_1 : Int) < ((x0_1.length : Int) : Int) := of_decide_eq_true (by first | (with_reducible assumption) | assumption); first | exact h_ | (have e_ := (Kd.R_reads' HO_0.out).1; omega) | simpa using h_); obtain rfl := k104_openM hM16; have HP16 := Kd.R_seg HX16.out (x5_1 : Int) (of_decide_eq_true (by first | (with_reducible assumption) | assumption)) (by have h_ : (x5_1 : Int) < ((x0_1.length : Int) : Int) := of_decide_eq_true (by first | (with_reducible assumption) | assumption); first | exact h_ | (have e_ := (Kd.R_reads' HO_0.out).1; omega) | simpa using h_) (seg := [.int .i64 (wrap64 ((wrap64 ((wrap64 (x1_1 + 1)) + 1)) + 1))]) (j := 3) hcl16 hcc16 (show 4 ≤ 4 from by decide) (x' := (⟨(⟨(rd_T104 y1050 x5_1).f0.f0, (rd_T104 y1050 x5_1).f0.f1⟩ : S74), (rd_T104 y1050 x5_1).f1, wrap64 ((wrap64 ((wrap64 (x1_1 + 1)) + 1)) + 1)⟩ : S104)) (k104_mkM _ _ _ (⟨(⟨(rd_T104 y1050 x5_1).f0.f0, (rd_T104 y1050 x5_1).f0.f1⟩ : S74), (rd_T104 y1050 x5_1).f1, wrap64 ((wrap64 ((wrap64 (x1_1 + 1)) + 1)) + 1)⟩ : S104) ) (fun _ hk => hk); have hx16_3 := hcc16 3 _ rfl; (try simp only [show (k104).sz = 4 from rfl, Nat.mul_one, Nat.add_zero] at hx16_3); have hf16_3 := hfr16 3; (try simp only [show (k104).sz = 4 from rfl, Nat.mul_one, Nat.add_zero] at hf16_3); clear hcl16 hcc16 hfr16 hM16) | ((with_reducible refine gate_store (t := 3) (p := 39) rfl ?_); refine store_event (t := 3) (p := 39) (v := ?vo_w17) (w1 := (w15.setCell ⟨go5, (x5_1 : Int).toNat * 4 + 3, none⟩ (.int .i64 (wrap64 ((wrap64 ((wrap64 (x1_1 + 1)) + 1)) + 1))))) ?hg ?ho ?hn ?hr ?_; (case ho => rfl); (case hg => rfl); (case hn => rfl); (case hr => first | (go_simp; done) | (go_simp; rfl)); intro w17 hw; have hg : w15.grownBy w17 (some go5) := (by rw [hw]; exact HP16.2); have hp_ : Kd.R k104 104 w17 w0.heap.size (fun k_ => (P0_ k_ ∨ w.heap.size ≤ k_)) (.slice (some ⟨go5, 0, none⟩) x0_1.length co9) y1051 := (by rw [hw, Ny1051.out]; exact HP16.1); clear HP16; have n0_ := A_ (hp_); have n1_ := A_ ((by rw [hw]; exact below_set (HB.out) GB5.out : Below w0.heap.size w0 w17)); have n2_ := A_ (Kept.of_grown (S := (fun k_ => P0_ k_)) hg (by repeat (first | (with_reducible first | exact HK.out | apply Kept.alloc | apply Kept.drewN | apply Kept.drew) | exact HK.out)) (fun k_ e_ => (HO_0.out.1 k_ e_))); clear HO_0; clear HB; clear HK; have HO_0 := n0_; have HB := n1_; have HK := n2_; clear n0_ n1_ n2_; clear hg hw hp_))
     go_roundg k1
     case measure => have := HK1.out; omega
     case rel => exact ⟨(y1051), (wrap64 ((wrap64 ((wrap64 ((wrap64 (x1_1 + 1)) + 1)) + 1)) + 1)), (wrap64 (x5_1 + 1)), (by first | rfl | (simp; done) | (simp [*]; done)), (by first | rfl | (simp; done) | (simp [*]; done)), H', ⟨by have := HK1.out; omega⟩, ⟨oR HO_0⟩, ⟨by repeat (first | (with_reducible first | exact HK.out | apply Kept.alloc | apply Kept.drewN | apply Kept.drew) | exact HK.out)⟩, ⟨oB HB⟩⟩
    ·rw [if_neg c4] at H
     exact absurd H (by simp)
   ·rw [if_neg c3] at H
    have c3b0 : decide (x5_1 < (x0_1.length : Int)) = false := decide_eq_false c3
    clear c3
    simp only [Option.some.injEq, Prod.mk.injEq] at H
    obtain ⟨rfl, rfl⟩ := H
    obtain ⟨Ao18, co18, eo18⟩ := Kd.R_slice HO_0.out
    subst eo18
    go_wp2
    go_ret
    exact ⟨eR, oR HO_0, oB HB, by repeat (first | (with_reducible first | exact HK.out | apply Kept.alloc | apply Kept.drewN | apply Kept.drew) | exact HK.out)⟩
def laws_markShop.f (k : Nat) (l0_0 : List (S112)) (a0_1 : Int) (l0_2 : List Int) (a0_3 : Int) (a0_4 : Int) (l0_5 : List (S104)) (a1 : Int) : Option (Int × (List (S112)) × List Int × (List (S104))) := (laws_markWork.f k l0_0 a0_1 l0_2 a1).bind fun bt1053 => ((laws_markEntryS.f k l0_5 bt1053.1).bind fun bt1056 => (some (bt1056.1, bt1053.2.1, bt1053.2.2, bt1056.2)))
theorem laws_markShop.calls (k : Nat) (P0_0_ : Nat → Prop) (u9000_ : Value) (l0_0 : List (S112)) (a0_1 : Int) (P0_2_ : Nat → Prop) (u9001_ : Value) (l0_2 : List Int) (a0_3 : Int) (a0_4 : Int) (P0_5_ : Nat → Prop) (u9002_ : Value) (l0_5 : List (S104)) (a1 : Int) (r1 : Int) (r2 : List (S112)) (r3 : List Int) (r4 : List (S104)) (w0 w : World) (hB : Below w0.heap.size w0 w) (ho0_0 : Kd.R k112 112 w w0.heap.size P0_0_ u9000_ l0_0) (ho0_2 : Kd.R (Kd.int .i64) 3 w w0.heap.size P0_2_ u9001_ l0_2) (ho0_5 : Kd.R k104 104 w w0.heap.size P0_5_ u9002_ l0_5) (h : laws_markShop.f k l0_0 a0_1 l0_2 a0_3 a0_4 l0_5 a1 = some (r1, r2, r3, r4)) :
  Calls Tryz.prog 15 #[.agg #[u9000_, .int .i64 a0_1, u9001_, .int .i64 a0_3, .int .i64 a0_4, u9002_], .int .i64 a1] w fun e w' => e = .returned (.int .i64 r1) ∧ Kd.R k112 112 w' w0.heap.size (fun k_ => ((P0_0_ k_ ∨ P0_2_ k_ ∨ P0_5_ k_) ∨ w.heap.size ≤ k_)) u9000_ r2 ∧ Kd.R (Kd.int .i64) 3 w' w0.heap.size (fun k_ => ((P0_0_ k_ ∨ P0_2_ k_ ∨ P0_5_ k_) ∨ w.heap.size ≤ k_)) u9001_ r3 ∧ Kd.R k104 104 w' w0.heap.size (fun k_ => ((P0_0_ k_ ∨ P0_2_ k_ ∨ P0_5_ k_) ∨ w.heap.size ≤ k_)) u9002_ r4 ∧ Below w0.heap.size w0 w' ∧ Kept w w' (fun k_ => P0_0_ k_ ∨ P0_2_ k_ ∨ P0_5_ k_) := by
 have hu37 := Tryz.underlying37
 have hu34 := Tryz.underlying34
 have HO0_0 := A_ (show Kd.R k112 112 w w0.heap.size (fun k_ => ((P0_0_ k_ ∨ P0_2_ k_ ∨ P0_5_ k_) ∨ w.heap.size ≤ k_)) u9000_ l0_0 from Kd.R_mono ho0_0 (fun k_ hk => (.inl (.inl hk))))
 have HO0_2 := A_ (show Kd.R (Kd.int .i64) 3 w w0.heap.size (fun k_ => ((P0_0_ k_ ∨ P0_2_ k_ ∨ P0_5_ k_) ∨ w.heap.size ≤ k_)) u9001_ l0_2 from Kd.R_mono ho0_2 (fun k_ hk => (.inl (.inr (.inl hk)))))
 have HO0_5 := A_ (show Kd.R k104 104 w w0.heap.size (fun k_ => ((P0_0_ k_ ∨ P0_2_ k_ ∨ P0_5_ k_) ∨ w.heap.size ≤ k_)) u9002_ l0_5 from Kd.R_mono ho0_5 (fun k_ hk => (.inl (.inr (.inr hk)))))
 have HK := A_ (Kept.refl w (fun k_ => P0_0_ k_ ∨ P0_2_ k_ ∨ P0_5_ k_))
 have HW0 := A_ hB.size
 have HB := A_ hB
 clear hB
 have H : ((laws_markWork.f k l0_0 a0_1 l0_2 a1).bind fun bt1053 => ((laws_markEntryS.f k l0_5 bt1053.1).bind fun bt1056 => (some (bt1056.1, bt1053.2.1, bt1053.2.2, bt1056.2)))) = some (r1, r2, r3, r4) := h
 clear h
 replace H := Option.bind_eq_some_iff.mp H
 obtain ⟨⟨t1053, t1054, t1055⟩, A30, H⟩ := H
 (try dsimp only at H)
 have A3 := A_ A30
 clear A30
 replace H := Option.bind_eq_some_iff.mp H
 obtain ⟨⟨t1056, t1057⟩, A40, H⟩ := H
 (try dsimp only at H)
 have A4 := A_ A40
 clear A40
 simp only [Option.some.injEq, Prod.mk.injEq] at H
 obtain ⟨rfl, rfl, rfl, rfl⟩ := H
 obtain ⟨Ao5, co5, eo5⟩ := Kd.R_slice HO0_0.out
 subst eo5
 obtain ⟨Ao6, co6, eo6⟩ := Kd.R_slice HO0_2.out
 subst eo6
 obtain ⟨Ao7, co7, eo7⟩ := Kd.R_slice HO0_5.out
 subst eo7
 go_enter Tryz.func15, Tryz.ntmps15
 go_wp2_with (first | ((with_reducible refine gate_dst (N := 2) rfl ?_); refine bX (N := 2) (cs := #[.slice Ao5 l0_0.length co5, .int .i64 a0_1, .slice Ao6 l0_2.length co6, .int .i64 a0_3, .int .i64 a0_4, .slice Ao7 l0_5.length co7]) (t := 37) ?_; intro gb1052 hg w8 hbox hb; have n0_ := A_ (Kd.R_below (oR HO0_0) hb); have n1_ := A_ (Kd.R_below (oR HO0_2) hb); have n2_ := A_ (Kd.R_below (oR HO0_5) hb); have n3_ := A_ (Kept.below (S := (fun k_ => P0_0_ k_ ∨ P0_2_ k_ ∨ P0_5_ k_)) (by repeat (first | (with_reducible first | exact HK.out | apply Kept.alloc | apply Kept.drewN | apply Kept.drew) | exact HK.out)) hb); have n4_ := A_ (below_step (oB HB) hb); have n5_ := A_ (hbox); have n6_ := A_ ((by rw [hg]; exact (by first | exact HK.out.1 | exact (show Kept w _ (fun k_ => P0_0_ k_ ∨ P0_2_ k_ ∨ P0_5_ k_) from by repeat (first | (with_reducible first | exact HK.out | apply Kept.alloc | apply Kept.drewN | apply Kept.drew) | exact HK.out)).1) : w.heap.size ≤ gb1052)); have n7_ := A_ ((by rw [hg]; exact (below_size (oB HB)) : w0.heap.size ≤ gb1052)); clear HO0_0; clear HO0_2; clear HO0_5; clear HK; clear HB; have HO0_0 := n0_; have HO0_2 := n1_; have HO0_5 := n2_; have HK := n3_; have HB := n4_; have BK1052 := n5_; have GW1052 := n6_; have GE1052 := n7_; clear n0_ n1_ n2_ n3_ n4_ n5_ n6_ n7_; clear hb hbox hg; have hcz9_0 := cz BK1052 0; have hcz9_1 := cz BK1052 1; have hcz9_2 := cz BK1052 2; have hcz9_3 := cz BK1052 3; have hcz9_4 := cz BK1052 4; have hcz9_5 := cz BK1052 5; have hfz9_0 := blk_frozen BK1052.out 0; have hfz9_1 := blk_frozen BK1052.out 1; have hfz9_2 := blk_frozen BK1052.out 2; have hfz9_3 := blk_frozen BK1052.out 3; have hfz9_4 := blk_frozen BK1052.out 4; have hfz9_5 := blk_frozen BK1052.out 5) | ((with_reducible refine gate_callee (f := 65) rfl ?_); refine gL (some 8) Tryz.func65 #[.agg #[.slice Ao5 l0_0.length co5, .int .i64 a0_1, .slice Ao6 l0_2.length co6], .int .i64 a1] ?_; (with_reducible refine (laws_markWork.calls k (fun k_ => some k_ = (.slice Ao5 l0_0.length co5 : Value).ownBlock) (.slice Ao5 l0_0.length co5) l0_0 a0_1 (fun k_ => some k_ = (.slice Ao6 l0_2.length co6 : Value).ownBlock) (.slice Ao6 l0_2.length co6) l0_2 a1 t1053 t1054 t1055 w0 _ ?side1 ?side2 ?side3 A3.out).mono ?_); (case side1 => repeat (first | (with_reducible first | exact HB.out | apply below_alloc | apply pw_below_drewN | apply below_drew1 | refine below_set ?_ GE1052.out) | exact HB.out)); (case side2 => exact Kd.R_tight rfl HO0_0.out); (case side3 => exact Kd.R_tight rfl HO0_2.out); rintro e w10 ⟨rfl, hy0, hy1, hb, hkp⟩; refine ⟨_, rfl, ?_⟩; have n0_ := A_ (Kd.R_reok rfl hy0 (fun k_ e_ => HO0_0.out.1 k_ e_)); have n1_ := A_ (Kd.R_reok rfl hy1 (fun k_ e_ => HO0_2.out.1 k_ e_)); have n2_ := A_ (Kd.R_mono (ok' := fun k_ => ((P0_0_ k_ ∨ P0_2_ k_ ∨ P0_5_ k_) ∨ w.heap.size ≤ k_)) (Kd.R_keptB ((Kd.R_apart' (Kd.R_apart' HO0_5.out (Kd.R_typed HO0_0.out) (by decide)) (Kd.R_typed HO0_2.out) (by decide))) hkp (fun k_ hk_ hs_ => Or.elim hs_ (fun e_ => (hk_.1.2) e_) (fun e_ => (hk_.2) e_))) (fun k_ hk_ => hk_.1.1.1)); have n3_ := A_ (blk_kept (oK BK1052) hkp (fun hs_ => Or.elim hs_ (fun e_ => (fun e_ => (Kd.R_ne HO0_0.out BK1052.out (by decide)) e_) e_) (fun e_ => (fun e_ => (Kd.R_ne HO0_2.out BK1052.out (by decide)) e_) e_))); have n4_ := A_ (Kept.then_ (S := (fun k_ => P0_0_ k_ ∨ P0_2_ k_ ∨ P0_5_ k_)) (by repeat (first | (with_reducible first | exact HK.out | apply Kept.alloc | apply Kept.drewN | apply Kept.drew | refine Kept.setCell ?_ (.inr GW1052.out) _) | exact HK.out)) hkp (fun k_ hs_ => Or.elim hs_ (fun e_ => (fun e_ => (HO0_0.out.1 k_ e_.symm)) e_) (fun e_ => (fun e_ => (HO0_2.out.1 k_ e_.symm)) e_))); have n5_ := A_ (hb); clear HO0_0; clear HO0_2; clear HO0_5; clear BK1052; clear HK; clear HB; have HO0_0 := n0_; have HO0_2 := n1_; have HO0_5 := n2_; have BK1052 := n3_; have HK := n4_; have HB := n5_; clear n0_ n1_ n2_ n3_ n4_ n5_; (try clear hb); (try clear hkp); (try clear hy0); (try clear hy1); have hcz11_0 := cz BK1052 0; have hcz11_1 := cz BK1052 1; have hcz11_2 := cz BK1052 2; have hcz11_3 := cz BK1052 3; have hcz11_4 := cz BK1052 4; have hcz11_5 := cz BK1052 5; have hfz11_0 := blk_frozen BK1052.out 0; have hfz11_1 := blk_frozen BK1052.out 1; have hfz11_2 := blk_frozen BK1052.out 2; have hfz11_3 := blk_frozen BK1052.out 3; have hfz11_4 := blk_frozen BK1052.out 4; have hfz11_5 := blk_frozen BK1052.out 5) | ((with_reducible refine gate_callee (f := 66) rfl ?_); refine gL (some 12) Tryz.func66 #[.slice Ao7 l0_5.length co7, .int .i64 t1053] ?_; (with_reducible refine (laws_markEntryS.calls k (fun k_ => some k_ = (.slice Ao7 l0_5.length co7 : Value).ownBlock) (.slice Ao7 l0_5.length co7) l0_5 t1053 t1056 t1057 w0 _ ?side1 ?side2 A4.out).mono ?_); (case side1 => repeat (first | (with_reducible first | exact HB.out | apply below_alloc | apply pw_below_drewN | apply below_drew1 | refine below_set ?_ GE1052.out) | exact HB.out)); (case side2 => exact Kd.R_tight rfl HO0_5.out); rintro e w12 ⟨rfl, hy0, hb, hkp⟩; refine ⟨_, rfl, ?_⟩; have n0_ := A_ (Kd.R_mono (ok' := fun k_ => ((P0_0_ k_ ∨ P0_2_ k_ ∨ P0_5_ k_) ∨ w.heap.size ≤ k_)) (Kd.R_keptB ((Kd.R_apart' HO0_0.out (Kd.R_typed HO0_5.out) (by decide))) hkp (fun k_ hk_ hs_ => (hk_.2) hs_)) (fun k_ hk_ => hk_.1.1)); have n1_ := A_ (Kd.R_mono (ok' := fun k_ => ((P0_0_ k_ ∨ P0_2_ k_ ∨ P0_5_ k_) ∨ w.heap.size ≤ k_)) (Kd.R_keptB ((Kd.R_apart' HO0_2.out (Kd.R_typed HO0_5.out) (by decide))) hkp (fun k_ hk_ hs_ => (hk_.2) hs_)) (fun k_ hk_ => hk_.1.1)); have n2_ := A_ (Kd.R_reok rfl hy0 (fun k_ e_ => HO0_5.out.1 k_ e_)); have n3_ := A_ (blk_kept (oK BK1052) hkp (fun hs_ => (fun e_ => (Kd.R_ne HO0_5.out BK1052.out (by decide)) e_) hs_)); have n4_ := A_ (Kept.then_ (S := (fun k_ => P0_0_ k_ ∨ P0_2_ k_ ∨ P0_5_ k_)) (by repeat (first | (with_reducible first | exact HK.out | apply Kept.alloc | apply Kept.drewN | apply Kept.drew | refine Kept.setCell ?_ (.inr GW1052.out) _) | exact HK.out)) hkp (fun k_ hs_ => (fun e_ => (HO0_5.out.1 k_ e_.symm)) hs_)); have n5_ := A_ (hb); clear HO0_0; clear HO0_2; clear HO0_5; clear BK1052; clear HK; clear HB; have HO0_0 := n0_; have HO0_2 := n1_; have HO0_5 := n2_; have BK1052 := n3_; have HK := n4_; have HB := n5_; clear n0_ n1_ n2_ n3_ n4_ n5_; (try clear hb); (try clear hkp); (try clear hy0)))
 go_ret
 exact ⟨eR, oR HO0_0, oR HO0_2, oR HO0_5, oB HB, by repeat (first | (with_reducible first | exact HK.out | apply Kept.alloc | apply Kept.drewN | apply Kept.drew | refine Kept.setCell ?_ (.inr GW1052.out) _) | exact HK.out)⟩
def laws_heldIntS.l0 : Nat → List Int → Int → Int → Option (Int)
 | 0, _, _, _ => none
 | k + 1, x0, x1, x5 => if x5 < (x0.length : Int) then (if 0 ≤ x5 then (if (rd x0 x5) = x1 then (laws_heldIntS.l0 k x0 (wrap64 (x1 + 1)) (wrap64 (x5 + 1))) else (some (-1))) else (none)) else (some x1)
def laws_heldIntS.f (k : Nat) (l0 : List Int) (a1 : Int) : Option (Int) := laws_heldIntS.l0 k l0 a1 0
theorem laws_heldIntS.calls (k : Nat) (A0 : Option Addr) (c0 : Nat) (l0 : List Int) (a1 : Int) (r : Int) (w : World) (hr0 : Kd.C (Kd.int .i64) w A0 l0.length l0) (hc0 : l0.length ≤ c0) (h : laws_heldIntS.f k l0 a1 = some r) :
  Calls Tryz.prog 25 #[.slice A0 l0.length c0, .int .i64 a1] w fun e w' => e = .returned (.int .i64 r) ∧ Drawn0 w w' := by
 have HR0 := A_ hr0
 have HC0 := A_ hc0
 clear hr0 hc0
 have H : (laws_heldIntS.l0 k l0 a1 0) = some r := h
 clear h
 have H' := A_ H
 clear H
 go_enter Tryz.func25, Tryz.ntmps25
 go_wp2
 go_loopg [1, 5] k (fun kq v1 v5 w' => ∃ (x1_1 : Int) (x5_1 : Int), v1 = .int .i64 x1_1 ∧ v5 = .int .i64 x5_1 ∧ Aside0 (laws_heldIntS.l0 kq l0 x1_1 x5_1 = some r) ∧ Aside0 (kq ≤ k) ∧ Drawn0 w w')
 case atStart => exact ⟨(a1), (0), (by first | rfl | (simp; done) | (simp [*]; done)), (by first | rfl | (simp; done) | (simp [*]; done)), H', ⟨Nat.le_refl _⟩, by repeat (first | exact Drawn0.refl _ | apply Drawn0.step)⟩
 case round =>
  clear H'
  try clear c2
  try clear p2
  obtain ⟨x1_1, x5_1, rfl, rfl, HA, HK1, ⟨m1, rfl⟩⟩ := hrel
  cases gk with
  | zero => exact absurd HA.out (by simp [laws_heldIntS.l0])
  | succ k1 =>
   have H := HA.out
   clear HA
   simp only [laws_heldIntS.l0] at H
   by_cases c3 : x5_1 < (l0.length : Int)
   ·rw [if_pos c3] at H
    have c3b0 : decide (x5_1 < (l0.length : Int)) = true := decide_eq_true c3
    clear c3
    by_cases c4 : 0 ≤ x5_1
    ·rw [if_pos c4] at H
     have c4b0 : decide (0 ≤ x5_1) = true := decide_eq_true c4
     clear c4
     by_cases c5 : (rd l0 x5_1) = x1_1
     ·rw [if_pos c5] at H
      have c5b0 : ((rd l0 x5_1) == x1_1) = true := beq_iff_eq.mpr c5
      have c5b1 : ((rd l0 x5_1) != x1_1) = false := bne_eq_false_iff_eq.mpr c5
      clear c5
      have H' := A_ H
      clear H
      have p1058 : 0 ≤ (x5_1 : Int) := of_decide_eq_true (by first | (with_reducible assumption) | assumption)
      have q1058 : x5_1 < (l0.length : Int) := of_decide_eq_true (by first | (with_reducible assumption) | assumption)
      obtain ⟨ad1058, e1058, hx1058_0⟩ := Kd.at_int HR0.out x5_1 p1058 q1058
      cases e1058
      replace p1058 := eq_true p1058
      replace q1058 := eq_true q1058
      go_wp2
      go_roundg k1
      case measure => have := HK1.out; omega
      case rel => exact ⟨(wrap64 (x1_1 + 1)), (wrap64 (x5_1 + 1)), (by first | rfl | (simp; done) | (simp [*]; done)), (by first | rfl | (simp; done) | (simp [*]; done)), H', ⟨by have := HK1.out; omega⟩, by repeat (first | exact Drawn0.refl _ | apply Drawn0.step)⟩
     ·rw [if_neg c5] at H
      have c5b0 : ((rd l0 x5_1) == x1_1) = false := beq_eq_false_iff_ne.mpr c5
      have c5b1 : ((rd l0 x5_1) != x1_1) = true := bne_iff_ne.mpr c5
      obtain rfl := Option.some.inj H
      have p1058 : 0 ≤ (x5_1 : Int) := of_decide_eq_true (by first | (with_reducible assumption) | assumption)
      have q1058 : x5_1 < (l0.length : Int) := of_decide_eq_true (by first | (with_reducible assumption) | assumption)
      obtain ⟨ad1058, e1058, hx1058_0⟩ := Kd.at_int HR0.out x5_1 p1058 q1058
      cases e1058
      replace p1058 := eq_true p1058
      replace q1058 := eq_true q1058
      go_wp2
      go_ret
      exact ⟨by first | rfl | (simp; done) | (simp [*]; done), by repeat (first | exact Drawn0.refl _ | apply Drawn0.step)⟩
    ·rw [if_neg c4] at H
     exact absurd H (by simp)
   ·rw [if_neg c3] at H
    have c3b0 : decide (x5_1 < (l0.length : Int)) = false := decide_eq_false c3
    clear c3
    obtain rfl := Option.some.inj H
    go_wp2
    go_ret
    exact ⟨by first | rfl | (simp; done) | (simp [*]; done), by repeat (first | exact Drawn0.refl _ | apply Drawn0.step)⟩
def laws_heldStepS.l0 : Nat → List (S112) → Int → Int → Option (Int)
 | 0, _, _, _ => none
 | k + 1, x0, x1, x5 => if x5 < (x0.length : Int) then (if 0 ≤ x5 then (if ((rd_T112 x0 x5).f0) = x1 then (if ((rd_T112 x0 x5).f1) = (wrap64 (x1 + 1)) then (if ((rd_T112 x0 x5).f2) = (wrap64 ((wrap64 (x1 + 1)) + 1)) then (if ((rd_T112 x0 x5).f3) = (wrap64 ((wrap64 ((wrap64 (x1 + 1)) + 1)) + 1)) then (laws_heldStepS.l0 k x0 (wrap64 ((wrap64 ((wrap64 ((wrap64 (x1 + 1)) + 1)) + 1)) + 1)) (wrap64 (x5 + 1))) else (some (-1))) else (some (-1))) else (some (-1))) else (some (-1))) else (none)) else (some x1)
def laws_heldStepS.f (k : Nat) (l0 : List (S112)) (a1 : Int) : Option (Int) := laws_heldStepS.l0 k l0 a1 0
theorem laws_heldStepS.calls (k : Nat) (A0 : Option Addr) (c0 : Nat) (l0 : List (S112)) (a1 : Int) (r : Int) (w : World) (hr0 : Kd.C k112 w A0 l0.length l0) (hc0 : l0.length ≤ c0) (h : laws_heldStepS.f k l0 a1 = some r) :
  Calls Tryz.prog 114 #[.slice A0 l0.length c0, .int .i64 a1] w fun e w' => e = .returned (.int .i64 r) ∧ Drawn0 w w' := by
 have HR0 := A_ hr0
 have HC0 := A_ hc0
 clear hr0 hc0
 have H : (laws_heldStepS.l0 k l0 a1 0) = some r := h
 clear h
 have H' := A_ H
 clear H
 go_enter Tryz.func114, Tryz.ntmps114
 go_wp2
 go_loopg [1, 5] k (fun kq v1 v5 w' => ∃ (x1_1 : Int) (x5_1 : Int), v1 = .int .i64 x1_1 ∧ v5 = .int .i64 x5_1 ∧ Aside0 (laws_heldStepS.l0 kq l0 x1_1 x5_1 = some r) ∧ Aside0 (kq ≤ k) ∧ Drawn0 w w')
 case atStart => exact ⟨(a1), (0), (by first | rfl | (simp; done) | (simp [*]; done)), (by first | rfl | (simp; done) | (simp [*]; done)), H', ⟨Nat.le_refl _⟩, by repeat (first | exact Drawn0.refl _ | apply Drawn0.step)⟩
 case round =>
  clear H'
  try clear c1
  try clear p2
  obtain ⟨x1_1, x5_1, rfl, rfl, HA, HK1, ⟨m1, rfl⟩⟩ := hrel
  cases gk with
  | zero => exact absurd HA.out (by simp [laws_heldStepS.l0])
  | succ k1 =>
   have H := HA.out
   clear HA
   simp only [laws_heldStepS.l0] at H
   by_cases c3 : x5_1 < (l0.length : Int)
   ·rw [if_pos c3] at H
    have c3b0 : decide (x5_1 < (l0.length : Int)) = true := decide_eq_true c3
    clear c3
    by_cases c4 : 0 ≤ x5_1
    ·rw [if_pos c4] at H
     have c4b0 : decide (0 ≤ x5_1) = true := decide_eq_true c4
     clear c4
     by_cases c5 : ((rd_T112 l0 x5_1).f0) = x1_1
     ·rw [if_pos c5] at H
      have c5b0 : (((rd_T112 l0 x5_1).f0) == x1_1) = true := beq_iff_eq.mpr c5
      have c5b1 : (((rd_T112 l0 x5_1).f0) != x1_1) = false := bne_eq_false_iff_eq.mpr c5
      clear c5
      by_cases c6 : ((rd_T112 l0 x5_1).f1) = (wrap64 (x1_1 + 1))
      ·rw [if_pos c6] at H
       have c6b0 : (((rd_T112 l0 x5_1).f1) == (wrap64 (x1_1 + 1))) = true := beq_iff_eq.mpr c6
       have c6b1 : (((rd_T112 l0 x5_1).f1) != (wrap64 (x1_1 + 1))) = false := bne_eq_false_iff_eq.mpr c6
       clear c6
       by_cases c7 : ((rd_T112 l0 x5_1).f2) = (wrap64 ((wrap64 (x1_1 + 1)) + 1))
       ·rw [if_pos c7] at H
        have c7b0 : (((rd_T112 l0 x5_1).f2) == (wrap64 ((wrap64 (x1_1 + 1)) + 1))) = true := beq_iff_eq.mpr c7
        have c7b1 : (((rd_T112 l0 x5_1).f2) != (wrap64 ((wrap64 (x1_1 + 1)) + 1))) = false := bne_eq_false_iff_eq.mpr c7
        clear c7
        by_cases c8 : ((rd_T112 l0 x5_1).f3) = (wrap64 ((wrap64 ((wrap64 (x1_1 + 1)) + 1)) + 1))
        ·rw [if_pos c8] at H
         have c8b0 : (((rd_T112 l0 x5_1).f3) == (wrap64 ((wrap64 ((wrap64 (x1_1 + 1)) + 1)) + 1))) = true := beq_iff_eq.mpr c8
         have c8b1 : (((rd_T112 l0 x5_1).f3) != (wrap64 ((wrap64 ((wrap64 (x1_1 + 1)) + 1)) + 1))) = false := bne_eq_false_iff_eq.mpr c8
         clear c8
         have H' := A_ H
         clear H
         have p1059 : 0 ≤ (x5_1 : Int) := of_decide_eq_true (by first | (with_reducible assumption) | assumption)
         have q1059 : x5_1 < (l0.length : Int) := of_decide_eq_true (by first | (with_reducible assumption) | assumption)
         obtain ⟨ad1059, e1059, hx1059_0, hx1059_1, hx1059_2, hx1059_3⟩ := at_T112 HR0.out x5_1 p1059 q1059
         cases e1059
         replace p1059 := eq_true p1059
         replace q1059 := eq_true q1059
         have p1060 : 0 ≤ (x5_1 : Int) := of_decide_eq_true (by first | (with_reducible assumption) | assumption)
         have q1060 : x5_1 < (l0.length : Int) := of_decide_eq_true (by first | (with_reducible assumption) | assumption)
         obtain ⟨ad1060, e1060, hx1060_0, hx1060_1, hx1060_2, hx1060_3⟩ := at_T112 HR0.out x5_1 p1060 q1060
         obtain rfl : ad1059 = ad1060 := (by injection e1060)
         replace p1060 := eq_true p1060
         replace q1060 := eq_true q1060
         have p1061 : 0 ≤ (x5_1 : Int) := of_decide_eq_true (by first | (with_reducible assumption) | assumption)
         have q1061 : x5_1 < (l0.length : Int) := of_decide_eq_true (by first | (with_reducible assumption) | assumption)
         obtain ⟨ad1061, e1061, hx1061_0, hx1061_1, hx1061_2, hx1061_3⟩ := at_T112 HR0.out x5_1 p1061 q1061
         obtain rfl : ad1059 = ad1061 := (by injection e1061)
         replace p1061 := eq_true p1061
         replace q1061 := eq_true q1061
         have p1062 : 0 ≤ (x5_1 : Int) := of_decide_eq_true (by first | (with_reducible assumption) | assumption)
         have q1062 : x5_1 < (l0.length : Int) := of_decide_eq_true (by first | (with_reducible assumption) | assumption)
         obtain ⟨ad1062, e1062, hx1062_0, hx1062_1, hx1062_2, hx1062_3⟩ := at_T112 HR0.out x5_1 p1062 q1062
         obtain rfl : ad1059 = ad1062 := (by injection e1062)
         replace p1062 := eq_true p1062
         replace q1062 := eq_true q1062
         go_wp2
         go_roundg k1
         case measure => have := HK1.out; omega
         case rel => exact ⟨(wrap64 ((wrap64 ((wrap64 ((wrap64 (x1_1 + 1)) + 1)) + 1)) + 1)), (wrap64 (x5_1 + 1)), (by first | rfl | (simp; done) | (simp [*]; done)), (by first | rfl | (simp; done) | (simp [*]; done)), H', ⟨by have := HK1.out; omega⟩, by repeat (first | exact Drawn0.refl _ | apply Drawn0.step)⟩
        ·rw [if_neg c8] at H
         have c8b0 : (((rd_T112 l0 x5_1).f3) == (wrap64 ((wrap64 ((wrap64 (x1_1 + 1)) + 1)) + 1))) = false := beq_eq_false_iff_ne.mpr c8
         have c8b1 : (((rd_T112 l0 x5_1).f3) != (wrap64 ((wrap64 ((wrap64 (x1_1 + 1)) + 1)) + 1))) = true := bne_iff_ne.mpr c8
         obtain rfl := Option.some.inj H
         have p1059 : 0 ≤ (x5_1 : Int) := of_decide_eq_true (by first | (with_reducible assumption) | assumption)
         have q1059 : x5_1 < (l0.length : Int) := of_decide_eq_true (by first | (with_reducible assumption) | assumption)
         obtain ⟨ad1059, e1059, hx1059_0, hx1059_1, hx1059_2, hx1059_3⟩ := at_T112 HR0.out x5_1 p1059 q1059
         cases e1059
         replace p1059 := eq_true p1059
         replace q1059 := eq_true q1059
         have p1060 : 0 ≤ (x5_1 : Int) := of_decide_eq_true (by first | (with_reducible assumption) | assumption)
         have q1060 : x5_1 < (l0.length : Int) := of_decide_eq_true (by first | (with_reducible assumption) | assumption)
         obtain ⟨ad1060, e1060, hx1060_0, hx1060_1, hx1060_2, hx1060_3⟩ := at_T112 HR0.out x5_1 p1060 q1060
         obtain rfl : ad1059 = ad1060 := (by injection e1060)
         replace p1060 := eq_true p1060
         replace q1060 := eq_true q1060
         have p1061 : 0 ≤ (x5_1 : Int) := of_decide_eq_true (by first | (with_reducible assumption) | assumption)
         have q1061 : x5_1 < (l0.length : Int) := of_decide_eq_true (by first | (with_reducible assumption) | assumption)
         obtain ⟨ad1061, e1061, hx1061_0, hx1061_1, hx1061_2, hx1061_3⟩ := at_T112 HR0.out x5_1 p1061 q1061
         obtain rfl : ad1059 = ad1061 := (by injection e1061)
         replace p1061 := eq_true p1061
         replace q1061 := eq_true q1061
         have p1062 : 0 ≤ (x5_1 : Int) := of_decide_eq_true (by first | (with_reducible assumption) | assumption)
         have q1062 : x5_1 < (l0.length : Int) := of_decide_eq_true (by first | (with_reducible assumption) | assumption)
         obtain ⟨ad1062, e1062, hx1062_0, hx1062_1, hx1062_2, hx1062_3⟩ := at_T112 HR0.out x5_1 p1062 q1062
         obtain rfl : ad1059 = ad1062 := (by injection e1062)
         replace p1062 := eq_true p1062
         replace q1062 := eq_true q1062
         go_wp2
         go_ret
         exact ⟨by first | rfl | (simp; done) | (simp [*]; done), by repeat (first | exact Drawn0.refl _ | apply Drawn0.step)⟩
       ·rw [if_neg c7] at H
        have c7b0 : (((rd_T112 l0 x5_1).f2) == (wrap64 ((wrap64 (x1_1 + 1)) + 1))) = false := beq_eq_false_iff_ne.mpr c7
        have c7b1 : (((rd_T112 l0 x5_1).f2) != (wrap64 ((wrap64 (x1_1 + 1)) + 1))) = true := bne_iff_ne.mpr c7
        obtain rfl := Option.some.inj H
        have p1059 : 0 ≤ (x5_1 : Int) := of_decide_eq_true (by first | (with_reducible assumption) | assumption)
        have q1059 : x5_1 < (l0.length : Int) := of_decide_eq_true (by first | (with_reducible assumption) | assumption)
        obtain ⟨ad1059, e1059, hx1059_0, hx1059_1, hx1059_2, hx1059_3⟩ := at_T112 HR0.out x5_1 p1059 q1059
        cases e1059
        replace p1059 := eq_true p1059
        replace q1059 := eq_true q1059
        have p1060 : 0 ≤ (x5_1 : Int) := of_decide_eq_true (by first | (with_reducible assumption) | assumption)
        have q1060 : x5_1 < (l0.length : Int) := of_decide_eq_true (by first | (with_reducible assumption) | assumption)
        obtain ⟨ad1060, e1060, hx1060_0, hx1060_1, hx1060_2, hx1060_3⟩ := at_T112 HR0.out x5_1 p1060 q1060
        obtain rfl : ad1059 = ad1060 := (by injection e1060)
        replace p1060 := eq_true p1060
        replace q1060 := eq_true q1060
        have p1061 : 0 ≤ (x5_1 : Int) := of_decide_eq_true (by first | (with_reducible assumption) | assumption)
        have q1061 : x5_1 < (l0.length : Int) := of_decide_eq_true (by first | (with_reducible assumption) | assumption)
        obtain ⟨ad1061, e1061, hx1061_0, hx1061_1, hx1061_2, hx1061_3⟩ := at_T112 HR0.out x5_1 p1061 q1061
        obtain rfl : ad1059 = ad1061 := (by injection e1061)
        replace p1061 := eq_true p1061
        replace q1061 := eq_true q1061
        go_wp2
        go_ret
        exact ⟨by first | rfl | (simp; done) | (simp [*]; done), by repeat (first | exact Drawn0.refl _ | apply Drawn0.step)⟩
      ·rw [if_neg c6] at H
       have c6b0 : (((rd_T112 l0 x5_1).f1) == (wrap64 (x1_1 + 1))) = false := beq_eq_false_iff_ne.mpr c6
       have c6b1 : (((rd_T112 l0 x5_1).f1) != (wrap64 (x1_1 + 1))) = true := bne_iff_ne.mpr c6
       obtain rfl := Option.some.inj H
       have p1059 : 0 ≤ (x5_1 : Int) := of_decide_eq_true (by first | (with_reducible assumption) | assumption)
       have q1059 : x5_1 < (l0.length : Int) := of_decide_eq_true (by first | (with_reducible assumption) | assumption)
       obtain ⟨ad1059, e1059, hx1059_0, hx1059_1, hx1059_2, hx1059_3⟩ := at_T112 HR0.out x5_1 p1059 q1059
       cases e1059
       replace p1059 := eq_true p1059
       replace q1059 := eq_true q1059
       have p1060 : 0 ≤ (x5_1 : Int) := of_decide_eq_true (by first | (with_reducible assumption) | assumption)
       have q1060 : x5_1 < (l0.length : Int) := of_decide_eq_true (by first | (with_reducible assumption) | assumption)
       obtain ⟨ad1060, e1060, hx1060_0, hx1060_1, hx1060_2, hx1060_3⟩ := at_T112 HR0.out x5_1 p1060 q1060
       obtain rfl : ad1059 = ad1060 := (by injection e1060)
       replace p1060 := eq_true p1060
       replace q1060 := eq_true q1060
       go_wp2
       go_ret
       exact ⟨by first | rfl | (simp; done) | (simp [*]; done), by repeat (first | exact Drawn0.refl _ | apply Drawn0.step)⟩
     ·rw [if_neg c5] at H
      have c5b0 : (((rd_T112 l0 x5_1).f0) == x1_1) = false := beq_eq_false_iff_ne.mpr c5
      have c5b1 : (((rd_T112 l0 x5_1).f0) != x1_1) = true := bne_iff_ne.mpr c5
      obtain rfl := Option.some.inj H
      have p1059 : 0 ≤ (x5_1 : Int) := of_decide_eq_true (by first | (with_reducible assumption) | assumption)
      have q1059 : x5_1 < (l0.length : Int) := of_decide_eq_true (by first | (with_reducible assumption) | assumption)
      obtain ⟨ad1059, e1059, hx1059_0, hx1059_1, hx1059_2, hx1059_3⟩ := at_T112 HR0.out x5_1 p1059 q1059
      cases e1059
      replace p1059 := eq_true p1059
      replace q1059 := eq_true q1059
      go_wp2
      go_ret
      exact ⟨by first | rfl | (simp; done) | (simp [*]; done), by repeat (first | exact Drawn0.refl _ | apply Drawn0.step)⟩
    ·rw [if_neg c4] at H
     exact absurd H (by simp)
   ·rw [if_neg c3] at H
    have c3b0 : decide (x5_1 < (l0.length : Int)) = false := decide_eq_false c3
    clear c3
    obtain rfl := Option.some.inj H
    go_wp2
    go_ret
    exact ⟨by first | rfl | (simp; done) | (simp [*]; done), by repeat (first | exact Drawn0.refl _ | apply Drawn0.step)⟩
def laws_heldEntryS.l0 : Nat → List (S104) → Int → Int → Option (Int)
 | 0, _, _, _ => none
 | k + 1, x0, x1, x5 => if x5 < (x0.length : Int) then (if 0 ≤ x5 then (if ((rd_T104 x0 x5).f0.f0) = x1 then (if ((rd_T104 x0 x5).f0.f1) = (wrap64 (x1 + 1)) then (if ((rd_T104 x0 x5).f1) = (wrap64 ((wrap64 (x1 + 1)) + 1)) then (if ((rd_T104 x0 x5).f2) = (wrap64 ((wrap64 ((wrap64 (x1 + 1)) + 1)) + 1)) then (laws_heldEntryS.l0 k x0 (wrap64 ((wrap64 ((wrap64 ((wrap64 (x1 + 1)) + 1)) + 1)) + 1)) (wrap64 (x5 + 1))) else (some (-1))) else (some (-1))) else (some (-1))) else (some (-1))) else (none)) else (some x1)
def laws_heldEntryS.f (k : Nat) (l0 : List (S104)) (a1 : Int) : Option (Int) := laws_heldEntryS.l0 k l0 a1 0
theorem laws_heldEntryS.calls (k : Nat) (A0 : Option Addr) (c0 : Nat) (l0 : List (S104)) (a1 : Int) (r : Int) (w : World) (hr0 : Kd.C k104 w A0 l0.length l0) (hc0 : l0.length ≤ c0) (h : laws_heldEntryS.f k l0 a1 = some r) :
  Calls Tryz.prog 68 #[.slice A0 l0.length c0, .int .i64 a1] w fun e w' => e = .returned (.int .i64 r) ∧ Drawn0 w w' := by
 have HR0 := A_ hr0
 have HC0 := A_ hc0
 clear hr0 hc0
 have H : (laws_heldEntryS.l0 k l0 a1 0) = some r := h
 clear h
 have H' := A_ H
 clear H
 go_enter Tryz.func68, Tryz.ntmps68
 go_wp2
 go_loopg [1, 5] k (fun kq v1 v5 w' => ∃ (x1_1 : Int) (x5_1 : Int), v1 = .int .i64 x1_1 ∧ v5 = .int .i64 x5_1 ∧ Aside0 (laws_heldEntryS.l0 kq l0 x1_1 x5_1 = some r) ∧ Aside0 (kq ≤ k) ∧ Drawn0 w w')
 case atStart => exact ⟨(a1), (0), (by first | rfl | (simp; done) | (simp [*]; done)), (by first | rfl | (simp; done) | (simp [*]; done)), H', ⟨Nat.le_refl _⟩, by repeat (first | exact Drawn0.refl _ | apply Drawn0.step)⟩
 case round =>
  clear H'
  try clear p2
  obtain ⟨x1_1, x5_1, rfl, rfl, HA, HK1, ⟨m1, rfl⟩⟩ := hrel
  cases gk with
  | zero => exact absurd HA.out (by simp [laws_heldEntryS.l0])
  | succ k1 =>
   have H := HA.out
   clear HA
   simp only [laws_heldEntryS.l0] at H
   by_cases c3 : x5_1 < (l0.length : Int)
   ·rw [if_pos c3] at H
    have c3b0 : decide (x5_1 < (l0.length : Int)) = true := decide_eq_true c3
    clear c3
    by_cases c4 : 0 ≤ x5_1
    ·rw [if_pos c4] at H
     have c4b0 : decide (0 ≤ x5_1) = true := decide_eq_true c4
     clear c4
     by_cases c5 : ((rd_T104 l0 x5_1).f0.f0) = x1_1
     ·rw [if_pos c5] at H
      have c5b0 : (((rd_T104 l0 x5_1).f0.f0) == x1_1) = true := beq_iff_eq.mpr c5
      have c5b1 : (((rd_T104 l0 x5_1).f0.f0) != x1_1) = false := bne_eq_false_iff_eq.mpr c5
      clear c5
      by_cases c6 : ((rd_T104 l0 x5_1).f0.f1) = (wrap64 (x1_1 + 1))
      ·rw [if_pos c6] at H
       have c6b0 : (((rd_T104 l0 x5_1).f0.f1) == (wrap64 (x1_1 + 1))) = true := beq_iff_eq.mpr c6
       have c6b1 : (((rd_T104 l0 x5_1).f0.f1) != (wrap64 (x1_1 + 1))) = false := bne_eq_false_iff_eq.mpr c6
       clear c6
       by_cases c7 : ((rd_T104 l0 x5_1).f1) = (wrap64 ((wrap64 (x1_1 + 1)) + 1))
       ·rw [if_pos c7] at H
        have c7b0 : (((rd_T104 l0 x5_1).f1) == (wrap64 ((wrap64 (x1_1 + 1)) + 1))) = true := beq_iff_eq.mpr c7
        have c7b1 : (((rd_T104 l0 x5_1).f1) != (wrap64 ((wrap64 (x1_1 + 1)) + 1))) = false := bne_eq_false_iff_eq.mpr c7
        clear c7
        by_cases c8 : ((rd_T104 l0 x5_1).f2) = (wrap64 ((wrap64 ((wrap64 (x1_1 + 1)) + 1)) + 1))
        ·rw [if_pos c8] at H
         have c8b0 : (((rd_T104 l0 x5_1).f2) == (wrap64 ((wrap64 ((wrap64 (x1_1 + 1)) + 1)) + 1))) = true := beq_iff_eq.mpr c8
         have c8b1 : (((rd_T104 l0 x5_1).f2) != (wrap64 ((wrap64 ((wrap64 (x1_1 + 1)) + 1)) + 1))) = false := bne_eq_false_iff_eq.mpr c8
         clear c8
         have H' := A_ H
         clear H
         have p1066 : 0 ≤ (x5_1 : Int) := of_decide_eq_true (by first | (with_reducible assumption) | assumption)
         have q1066 : x5_1 < (l0.length : Int) := of_decide_eq_true (by first | (with_reducible assumption) | assumption)
         obtain ⟨ad1066, e1066, hx1066_0, hx1066_1, hx1066_2, hx1066_3⟩ := at_T104 HR0.out x5_1 p1066 q1066
         cases e1066
         replace p1066 := eq_true p1066
         replace q1066 := eq_true q1066
         have p1067 : 0 ≤ (x5_1 : Int) := of_decide_eq_true (by first | (with_reducible assumption) | assumption)
         have q1067 : x5_1 < (l0.length : Int) := of_decide_eq_true (by first | (with_reducible assumption) | assumption)
         obtain ⟨ad1067, e1067, hx1067_0, hx1067_1, hx1067_2, hx1067_3⟩ := at_T104 HR0.out x5_1 p1067 q1067
         obtain rfl : ad1066 = ad1067 := (by injection e1067)
         replace p1067 := eq_true p1067
         replace q1067 := eq_true q1067
         have p1068 : 0 ≤ (x5_1 : Int) := of_decide_eq_true (by first | (with_reducible assumption) | assumption)
         have q1068 : x5_1 < (l0.length : Int) := of_decide_eq_true (by first | (with_reducible assumption) | assumption)
         obtain ⟨ad1068, e1068, hx1068_0, hx1068_1, hx1068_2, hx1068_3⟩ := at_T104 HR0.out x5_1 p1068 q1068
         obtain rfl : ad1066 = ad1068 := (by injection e1068)
         replace p1068 := eq_true p1068
         replace q1068 := eq_true q1068
         have p1069 : 0 ≤ (x5_1 : Int) := of_decide_eq_true (by first | (with_reducible assumption) | assumption)
         have q1069 : x5_1 < (l0.length : Int) := of_decide_eq_true (by first | (with_reducible assumption) | assumption)
         obtain ⟨ad1069, e1069, hx1069_0, hx1069_1, hx1069_2, hx1069_3⟩ := at_T104 HR0.out x5_1 p1069 q1069
         obtain rfl : ad1066 = ad1069 := (by injection e1069)
         replace p1069 := eq_true p1069
         replace q1069 := eq_true q1069
         go_wp2
         go_roundg k1
         case measure => have := HK1.out; omega
         case rel => exact ⟨(wrap64 ((wrap64 ((wrap64 ((wrap64 (x1_1 + 1)) + 1)) + 1)) + 1)), (wrap64 (x5_1 + 1)), (by first | rfl | (simp; done) | (simp [*]; done)), (by first | rfl | (simp; done) | (simp [*]; done)), H', ⟨by have := HK1.out; omega⟩, by repeat (first | exact Drawn0.refl _ | apply Drawn0.step)⟩
        ·rw [if_neg c8] at H
         have c8b0 : (((rd_T104 l0 x5_1).f2) == (wrap64 ((wrap64 ((wrap64 (x1_1 + 1)) + 1)) + 1))) = false := beq_eq_false_iff_ne.mpr c8
         have c8b1 : (((rd_T104 l0 x5_1).f2) != (wrap64 ((wrap64 ((wrap64 (x1_1 + 1)) + 1)) + 1))) = true := bne_iff_ne.mpr c8
         obtain rfl := Option.some.inj H
         have p1066 : 0 ≤ (x5_1 : Int) := of_decide_eq_true (by first | (with_reducible assumption) | assumption)
         have q1066 : x5_1 < (l0.length : Int) := of_decide_eq_true (by first | (with_reducible assumption) | assumption)
         obtain ⟨ad1066, e1066, hx1066_0, hx1066_1, hx1066_2, hx1066_3⟩ := at_T104 HR0.out x5_1 p1066 q1066
         cases e1066
         replace p1066 := eq_true p1066
         replace q1066 := eq_true q1066
         have p1067 : 0 ≤ (x5_1 : Int) := of_decide_eq_true (by first | (with_reducible assumption) | assumption)
         have q1067 : x5_1 < (l0.length : Int) := of_decide_eq_true (by first | (with_reducible assumption) | assumption)
         obtain ⟨ad1067, e1067, hx1067_0, hx1067_1, hx1067_2, hx1067_3⟩ := at_T104 HR0.out x5_1 p1067 q1067
         obtain rfl : ad1066 = ad1067 := (by injection e1067)
         replace p1067 := eq_true p1067
         replace q1067 := eq_true q1067
         have p1068 : 0 ≤ (x5_1 : Int) := of_decide_eq_true (by first | (with_reducible assumption) | assumption)
         have q1068 : x5_1 < (l0.length : Int) := of_decide_eq_true (by first | (with_reducible assumption) | assumption)
         obtain ⟨ad1068, e1068, hx1068_0, hx1068_1, hx1068_2, hx1068_3⟩ := at_T104 HR0.out x5_1 p1068 q1068
         obtain rfl : ad1066 = ad1068 := (by injection e1068)
         replace p1068 := eq_true p1068
         replace q1068 := eq_true q1068
         have p1069 : 0 ≤ (x5_1 : Int) := of_decide_eq_true (by first | (with_reducible assumption) | assumption)
         have q1069 : x5_1 < (l0.length : Int) := of_decide_eq_true (by first | (with_reducible assumption) | assumption)
         obtain ⟨ad1069, e1069, hx1069_0, hx1069_1, hx1069_2, hx1069_3⟩ := at_T104 HR0.out x5_1 p1069 q1069
         obtain rfl : ad1066 = ad1069 := (by injection e1069)
         replace p1069 := eq_true p1069
         replace q1069 := eq_true q1069
         go_wp2
         go_ret
         exact ⟨by first | rfl | (simp; done) | (simp [*]; done), by repeat (first | exact Drawn0.refl _ | apply Drawn0.step)⟩
       ·rw [if_neg c7] at H
        have c7b0 : (((rd_T104 l0 x5_1).f1) == (wrap64 ((wrap64 (x1_1 + 1)) + 1))) = false := beq_eq_false_iff_ne.mpr c7
        have c7b1 : (((rd_T104 l0 x5_1).f1) != (wrap64 ((wrap64 (x1_1 + 1)) + 1))) = true := bne_iff_ne.mpr c7
        obtain rfl := Option.some.inj H
        have p1066 : 0 ≤ (x5_1 : Int) := of_decide_eq_true (by first | (with_reducible assumption) | assumption)
        have q1066 : x5_1 < (l0.length : Int) := of_decide_eq_true (by first | (with_reducible assumption) | assumption)
        obtain ⟨ad1066, e1066, hx1066_0, hx1066_1, hx1066_2, hx1066_3⟩ := at_T104 HR0.out x5_1 p1066 q1066
        cases e1066
        replace p1066 := eq_true p1066
        replace q1066 := eq_true q1066
        have p1067 : 0 ≤ (x5_1 : Int) := of_decide_eq_true (by first | (with_reducible assumption) | assumption)
        have q1067 : x5_1 < (l0.length : Int) := of_decide_eq_true (by first | (with_reducible assumption) | assumption)
        obtain ⟨ad1067, e1067, hx1067_0, hx1067_1, hx1067_2, hx1067_3⟩ := at_T104 HR0.out x5_1 p1067 q1067
        obtain rfl : ad1066 = ad1067 := (by injection e1067)
        replace p1067 := eq_true p1067
        replace q1067 := eq_true q1067
        have p1068 : 0 ≤ (x5_1 : Int) := of_decide_eq_true (by first | (with_reducible assumption) | assumption)
        have q1068 : x5_1 < (l0.length : Int) := of_decide_eq_true (by first | (with_reducible assumption) | assumption)
        obtain ⟨ad1068, e1068, hx1068_0, hx1068_1, hx1068_2, hx1068_3⟩ := at_T104 HR0.out x5_1 p1068 q1068
        obtain rfl : ad1066 = ad1068 := (by injection e1068)
        replace p1068 := eq_true p1068
        replace q1068 := eq_true q1068
        go_wp2
        go_ret
        exact ⟨by first | rfl | (simp; done) | (simp [*]; done), by repeat (first | exact Drawn0.refl _ | apply Drawn0.step)⟩
      ·rw [if_neg c6] at H
       have c6b0 : (((rd_T104 l0 x5_1).f0.f1) == (wrap64 (x1_1 + 1))) = false := beq_eq_false_iff_ne.mpr c6
       have c6b1 : (((rd_T104 l0 x5_1).f0.f1) != (wrap64 (x1_1 + 1))) = true := bne_iff_ne.mpr c6
       obtain rfl := Option.some.inj H
       have p1066 : 0 ≤ (x5_1 : Int) := of_decide_eq_true (by first | (with_reducible assumption) | assumption)
       have q1066 : x5_1 < (l0.length : Int) := of_decide_eq_true (by first | (with_reducible assumption) | assumption)
       obtain ⟨ad1066, e1066, hx1066_0, hx1066_1, hx1066_2, hx1066_3⟩ := at_T104 HR0.out x5_1 p1066 q1066
       cases e1066
       replace p1066 := eq_true p1066
       replace q1066 := eq_true q1066
       have p1067 : 0 ≤ (x5_1 : Int) := of_decide_eq_true (by first | (with_reducible assumption) | assumption)
       have q1067 : x5_1 < (l0.length : Int) := of_decide_eq_true (by first | (with_reducible assumption) | assumption)
       obtain ⟨ad1067, e1067, hx1067_0, hx1067_1, hx1067_2, hx1067_3⟩ := at_T104 HR0.out x5_1 p1067 q1067
       obtain rfl : ad1066 = ad1067 := (by injection e1067)
       replace p1067 := eq_true p1067
       replace q1067 := eq_true q1067
       go_wp2
       go_ret
       exact ⟨by first | rfl | (simp; done) | (simp [*]; done), by repeat (first | exact Drawn0.refl _ | apply Drawn0.step)⟩
     ·rw [if_neg c5] at H
      have c5b0 : (((rd_T104 l0 x5_1).f0.f0) == x1_1) = false := beq_eq_false_iff_ne.mpr c5
      have c5b1 : (((rd_T104 l0 x5_1).f0.f0) != x1_1) = true := bne_iff_ne.mpr c5
      obtain rfl := Option.some.inj H
      have p1066 : 0 ≤ (x5_1 : Int) := of_decide_eq_true (by first | (with_reducible assumption) | assumption)
      have q1066 : x5_1 < (l0.length : Int) := of_decide_eq_true (by first | (with_reducible assumption) | assumption)
      obtain ⟨ad1066, e1066, hx1066_0, hx1066_1, hx1066_2, hx1066_3⟩ := at_T104 HR0.out x5_1 p1066 q1066
      cases e1066
      replace p1066 := eq_true p1066
      replace q1066 := eq_true q1066
      go_wp2
      go_ret
      exact ⟨by first | rfl | (simp; done) | (simp [*]; done), by repeat (first | exact Drawn0.refl _ | apply Drawn0.step)⟩
    ·rw [if_neg c4] at H
     exact absurd H (by simp)
   ·rw [if_neg c3] at H
    have c3b0 : decide (x5_1 < (l0.length : Int)) = false := decide_eq_false c3
    clear c3
    obtain rfl := Option.some.inj H
    go_wp2
    go_ret
    exact ⟨by first | rfl | (simp; done) | (simp [*]; done), by repeat (first | exact Drawn0.refl _ | apply Drawn0.step)⟩
end Go.Proofs.YtanhnhkcpbdfmaaGreat.P
namespace Go.Proofs.YtanhnhkcpbdfmaaGreat.P
open Go.RowKit Go.Proofs.YtanhnhkcpbdfmaaGreatW.PrintWords Go.Proofs.YtanhnhkcpbdfmaaGreatW.PrintLast Go.Proofs.YtanhnhkcpbdfmaaGreatW.PrintMore
attribute [local go_sem] max2_int min2_int max_two min_two max_three min_three max_four min_four
theorem eqA74 (d : Nat) (w : World) (x0 y0 : Int) (x1 y1 : Int) :
  (Op.equalIn (d + 2) 74 (.agg #[.int .i64 x0, .int .i64 x1]) (.agg #[.int .i64 y0, .int .i64 y1])).run Tryz.prog w = .ok (x0 == y0 && (x1 == y1)) w := by
 refine eqA_of Tryz.underlying74 (by kernel_rfl) ?_
 refine eqf_cons (by rfl) (by go_simp; rfl) (by go_simp; rfl) (by go_simp) ?_
 exact eqf_last (by rfl) (by go_simp; rfl) (by go_simp; rfl) (by go_simp)
theorem eqA41 (d : Nat) (w : World) (x0 y0 : Int) (x1 y1 : Int) (x2 y2 : Int) (x3 y3 : Int) :
  (Op.equalIn (d + 2) 41 (.agg #[.int .i64 x0, .int .i64 x1, .int .i64 x2, .int .i64 x3]) (.agg #[.int .i64 y0, .int .i64 y1, .int .i64 y2, .int .i64 y3])).run Tryz.prog w = .ok (x0 == y0 && (x1 == y1 && (x2 == y2 && (x3 == y3)))) w := by
 refine eqA_of Tryz.underlying41 (by kernel_rfl) ?_
 refine eqf_cons (by rfl) (by go_simp; rfl) (by go_simp; rfl) (by go_simp) ?_
 refine eqf_cons (by rfl) (by go_simp; rfl) (by go_simp; rfl) (by go_simp) ?_
 refine eqf_cons (by rfl) (by go_simp; rfl) (by go_simp; rfl) (by go_simp) ?_
 exact eqf_last (by rfl) (by go_simp; rfl) (by go_simp; rfl) (by go_simp)
end Go.Proofs.YtanhnhkcpbdfmaaGreat.P
namespace Go.Proofs.YtanhnhkcpbdfmaaGreat.Q
open Go.RowKit Go.Proofs.YtanhnhkcpbdfmaaGreat.P Go.Proofs.YtanhnhkcpbdfmaaGreatW.PrintWords
theorem within_eq (a b c : Int) : impl_within.f a b c = some (decide (b ≤ a ∧ a ≤ c)) := by
  unfold impl_within.f; by_cases h : b ≤ a <;> simp [h]
theorem l01In_eq (a b c : Int) : spec_l01In.f a b c = some (decide (b ≤ a ∧ a ≤ c)) := by
  unfold spec_l01In.f; by_cases h : a ≥ b
  · rw [if_pos h]; simp [show b ≤ a from h]
  · rw [if_neg h]; simp [show ¬ b ≤ a from h]
def good140 (x : S140) : Prop := ((Lit.int .i64 x.f0).wf = true ∧ (Lit.int .i64 x.f1).wf = true ∧ (Lit.int .i64 x.f2).wf = true ∧ (Lit.int .i64 x.f3).wf = true)
theorem op140 {w : World} : Opens Tryz.prog w k140 140 good140 := (Opens.struct (fun x => (⟨x.1, x.2.1, x.2.2.1, x.2.2.2⟩ : S140)) (G := good140) Tryz.underlying140 (by kernel_rfl) (fun _ => rfl) (OpensFs.more rfl (Opens.int Tryz.underlying3) rfl (by kernel_rfl) (OpensFs.more rfl (Opens.int Tryz.underlying3) rfl (by kernel_rfl) (OpensFs.more rfl (Opens.int Tryz.underlying3) rfl (by kernel_rfl) (OpensFs.one rfl (Opens.int Tryz.underlying3) rfl (by kernel_rfl))))) (fun _ h => h))
def good3 (x : Int) : Prop := (Lit.int .i64 x).wf = true
theorem op3 {w : World} : Opens Tryz.prog w (Kd.int .i64) 3 good3 := (Opens.int Tryz.underlying3)
def good125 (x : S125) : Prop := ((Lit.int .i64 x.f0).wf = true ∧ (Lit.int .i64 x.f1).wf = true)
theorem op125 {w : World} : Opens Tryz.prog w k125 125 good125 := (Opens.struct (fun x => (⟨x.1, x.2⟩ : S125)) (G := good125) Tryz.underlying125 (by kernel_rfl) (fun _ => rfl) (OpensFs.more rfl (Opens.int Tryz.underlying3) rfl (by kernel_rfl) (OpensFs.one rfl (Opens.int Tryz.underlying3) rfl (by kernel_rfl))) (fun _ h => h))
def good127 (x : S127) : Prop := (((Lit.int .i64 x.f0.f0).wf = true ∧ (Lit.int .i64 x.f0.f1).wf = true) ∧ (Lit.int .i64 x.f1).wf = true ∧ (Lit.int .i64 x.f2).wf = true)
theorem op127 {w : World} : Opens Tryz.prog w k127 127 good127 := (Opens.struct (fun x => (⟨x.1, x.2.1, x.2.2⟩ : S127)) (G := good127) Tryz.underlying127 (by kernel_rfl) (fun _ => rfl) (OpensFs.more rfl op125 rfl (by kernel_rfl) (OpensFs.more rfl (Opens.int Tryz.underlying3) rfl (by kernel_rfl) (OpensFs.one rfl (Opens.int Tryz.underlying3) rfl (by kernel_rfl)))) (fun _ h => h))
end Go.Proofs.YtanhnhkcpbdfmaaGreat.Q
namespace Go.Proofs.YtanhnhkcpbdfmaaGreat.Q
open Go.RowKit Go.Proofs.YtanhnhkcpbdfmaaGreat.P Go.Proofs.YtanhnhkcpbdfmaaGreatW.PrintWords Go.Proofs.YtanhnhkcpbdfmaaGreatW.PrintMore
def fine (n : Int) : Bool := decide (1 ≤ n ∧ n ≤ 10000000)
theorem pitch_eq (n : Int) : spec_l18Pitch.f n = some (fine n) := by unfold spec_l18Pitch.f; rw [l01In_eq]; rfl
theorem isFine_eq (n : Int) : impl_isFine.f n = some (fine n) := by unfold impl_isFine.f; rw [within_eq]; rfl
theorem copyLog_eq (l : List S104) (hl : l.length ≤ 4000000) : impl_copyLog.f l = some l := by
  unfold impl_copyLog.f; simp only [Option.bind_some]; rw [if_pos (by simp; omega)]; simp
theorem l34Copy_eq (l : List S104) (hl : l.length ≤ 4000000) : spec_l34Copy.f l = some l := by
  unfold spec_l34Copy.f; simp only [Option.bind_some]; rw [if_pos (by simp; omega)]; simp
def orZero (n : Int) : Int := if fine n = true then n else 0
def tunedPitch (a k b : Int) : Int :=
  if fine a = true then
    if 0 ≤ b ∧ b ≤ 100000 then
      if k = 1 then orZero (wrap64 (Int.tdiv (mx (wrap64 ((wrap64 (3 * a)) - b)) 0) 2))
      else if k = 2 then orZero (wrap64 (Int.tdiv (mx (wrap64 ((wrap64 (3 * a)) - b)) 0) 4))
      else if k = 3 then if b = 0 then orZero (wrap64 (2 * a)) else 0
      else if k = 4 then if b = 0 then orZero (wrap64 (Int.tdiv a 2)) else 0
      else 0
    else 0
  else 0
theorem mx_comm (a b : Int) : mx a b = mx b a := by unfold mx; split <;> split <;> omega
theorem evz {n : Int} {x : Option Bool} (h : x = some (fine n)) : Ev (fun _ => x.bind fun t => if t = true then some n else some 0) (orZero n) := by
  subst h; simp only [Option.bind_some]; unfold orZero; by_cases h : fine n = true
  · rw [if_pos h, if_pos h]; exact Ev.now _
  · rw [if_neg h, if_neg h]; exact Ev.now _
theorem tuned_impl (a k b : Int) : Ev (fun n => impl_TunedPitch.f n a k b) (tunedPitch a k b) := by
  have jt : Ev (fun n => impl_TunedPitch.j0 n a k b true) 0 := Ev.step (fun n => by rw [impl_TunedPitch.j0]) (evp rfl (Ev.now _))
  unfold impl_TunedPitch.f
  refine evb (isFine_eq a) ?_
  unfold tunedPitch
  by_cases ha : fine a = true
  rotate_left
  · exact rneg ha <| evn ha jt
  refine rpos ha <| evp ha (evb (within_eq _ _ _) ?_)
  by_cases hb : 0 ≤ b ∧ b ≤ 100000
  rotate_left
  · exact rneg hb <| evn (by simpa using hb) jt
  refine rpos hb <| evp (by simpa using hb) ?_
  have jf : (k = 3 ∨ k = 4 → b = 0) → Ev (fun n => impl_TunedPitch.j0 n a k b false) (if k = 1 then orZero (wrap64 (Int.tdiv (mx (wrap64 ((wrap64 (3 * a)) - b)) 0) 2))
      else if k = 2 then orZero (wrap64 (Int.tdiv (mx (wrap64 ((wrap64 (3 * a)) - b)) 0) 4))
      else if k = 3 then if b = 0 then orZero (wrap64 (2 * a)) else 0
      else if k = 4 then if b = 0 then orZero (wrap64 (Int.tdiv a 2)) else 0
      else 0) := by
    intro h0
    refine Ev.step (fun n => by rw [impl_TunedPitch.j0]) (evn (by decide) ?_)
    by_cases h1 : k = 1
    · exact rpos h1 <| evp h1 (evz (isFine_eq _))
    refine rneg h1 <| evn h1 ?_
    by_cases h2 : k = 2
    · exact rpos h2 <| evp h2 (evz (isFine_eq _))
    refine rneg h2 <| evn h2 ?_
    by_cases h3 : k = 3
    · exact rpos h3 <| rpos (h0 (.inl h3)) <| evp h3 (evz (isFine_eq _))
    refine rneg h3 <| evn h3 ?_
    by_cases h4 : k = 4
    · exact rpos h4 <| rpos (h0 (.inr h4)) <| evp h4 (evz (isFine_eq _))
    refine rneg h4 <| evn h4 ?_
    refine evb (isFine_eq _) (evn (by decide) (Ev.now _))
  by_cases b0 : b = 0
  · exact evp b0 (jf fun _ => b0)
  refine evn b0 ?_
  by_cases h3 : k = 3
  · refine evp h3 ?_
    exact rneg (by omega) <| rneg (by omega) <| rpos h3 <| rneg b0 jt
  refine evn h3 ?_
  by_cases h4 : k = 4
  · rw [show (k == 4) = true by simp [h4]]; exact rneg (by omega) <| rneg (by omega) <| rneg (by omega) <| rpos h4 <| rneg b0 jt
  · rw [show (k == 4) = false by simp [h4]]; exact jf (by omega)
theorem tuned_spec (a k b : Int) : Ev (fun n => spec_TunedPitch.f n a k b) (tunedPitch a k b) := by
  have jt : Ev (fun n => spec_TunedPitch.j0 n a k b true) 0 := Ev.step (fun n => by rw [spec_TunedPitch.j0]) (evp rfl (Ev.now _))
  unfold spec_TunedPitch.f
  refine evb (pitch_eq a) ?_
  unfold tunedPitch
  by_cases ha : fine a = true
  rotate_left
  · exact rneg ha <| evn ha jt
  refine rpos ha <| evp ha (evb (l01In_eq _ _ _) ?_)
  by_cases hb : 0 ≤ b ∧ b ≤ 100000
  rotate_left
  · rw [show (!decide (0 ≤ b ∧ b ≤ 100000)) = true by rw [decide_eq_false hb]; rfl]; exact rneg hb jt
  rw [show (!decide (0 ≤ b ∧ b ≤ 100000)) = false by rw [decide_eq_true hb]; rfl]
  refine rpos hb ?_
  have j2t : Ev (fun n => spec_TunedPitch.j2 n a 0 true) (orZero (wrap64 (Int.tdiv a 2))) := Ev.step (fun n => by rw [spec_TunedPitch.j2]) (evp rfl (evz (pitch_eq _)))
  have j2f : Ev (fun n => spec_TunedPitch.j2 n a 0 false) 0 := Ev.step (fun n => by rw [spec_TunedPitch.j2]) (evn (by decide) (evz (pitch_eq 0)))
  refine Ev.step (fun n => by rw [spec_TunedPitch.j0]) (evn (by decide) ?_)
  by_cases h1 : k = 1
  · rw [mx_comm 0]; exact rpos h1 <| evp h1 (evz (pitch_eq _))
  refine rneg h1 <| evn h1 ?_
  by_cases h2 : k = 2
  · rw [mx_comm 0]; exact rpos h2 <| evp h2 (evz (pitch_eq _))
  refine rneg h2 <| evn h2 ?_
  have j1f : Ev (fun n => spec_TunedPitch.j1 n a k b 0 false) (if k = 4 then if b = 0 then orZero (wrap64 (Int.tdiv a 2)) else 0 else 0) := by
    refine Ev.step (fun n => by rw [spec_TunedPitch.j1]) (evn (by decide) ?_)
    by_cases h4 : k = 4
    · refine rpos h4 <| evp h4 ?_
      by_cases b0 : b = 0
      · rw [show (b == 0) = true by simp [b0]]; exact rpos b0 j2t
      · rw [show (b == 0) = false by simp [b0]]; exact rneg b0 j2f
    · exact rneg h4 <| evn h4 j2f
  by_cases h3 : k = 3
  · refine rpos h3 <| evp h3 ?_
    by_cases b0 : b = 0
    · rw [show (b == 0) = true by simp [b0]]
      exact rpos b0 <| Ev.step (fun n => by rw [spec_TunedPitch.j1]) (evp rfl (evz (pitch_eq _)))
    · rw [show (b == 0) = false by simp [b0]]
      rw [if_neg (by omega)] at j1f
      exact rneg b0 j1f
  exact rneg h3 <| evn h3 j1f
theorem toIntS_ev (l : List Int) (hl : l.length ≤ 1048576) : Ev (fun k => laws_toIntS.f k l) l := by
  have key : ∀ i, i ≤ l.length → ∀ acc : List Int, acc.length = l.length → Ev (fun k => laws_toIntS.l0 k l acc (i : Int)) (acc.take i ++ l.drop i) := by
    refine down (n := l.length) ?_ ?_
    · intro acc ha
      refine Ev.step (fun k => by rw [laws_toIntS.l0]) (evn (by omega) (evs ?_))
      rw [drop_end, List.append_nil, List.take_of_length_le (by omega)]
    · intro i hi ih acc ha
      refine Ev.step (fun k => by rw [laws_toIntS.l0]) (evp (by omega) (evp (by omega) (evp (by omega) ?_)))
      rw [w64 (by omega) (by omega), rd_nat l i hi, Int.toNat_natCast]
      have := ih (acc.set i l[i]) (by simpa using ha)
      rw [set_take _ _ _ (by omega), List.append_assoc] at this
      rw [drop_cons l i hi]
      exact this
  have := key 0 (Nat.zero_le _) (List.replicate l.length 0) (by simp)
  unfold laws_toIntS.f
  refine evp (by omega) (evp (by omega) ?_)
  simpa using this
theorem eqIntS_ev (l : List Int) (hl : l.length ≤ 9000000000000000000) : Ev (fun k => laws_eqIntS.f k l l) true := by
  have key : ∀ i, i ≤ l.length → Ev (fun k => laws_eqIntS.l0 k l l (i : Int)) true := by
    refine down (n := l.length) ?_ ?_
    · exact Ev.step (fun k => by rw [laws_eqIntS.l0]) (evn (by omega) (evs rfl))
    · intro i hi ih
      refine Ev.step (fun k => by rw [laws_eqIntS.l0]) (evp (by omega) (evp (by omega) (evp (by omega) (evp rfl ?_))))
      rw [w64 (by omega) (by omega)]
      exact ih
  unfold laws_eqIntS.f
  exact evp rfl (key 0 (Nat.zero_le _))
def runs (k : Int) (n : Nat) : List Int := (List.range n).map (fun (j : Nat) => k + j)
theorem runs_len (k : Int) (n : Nat) : (runs k n).length = n := by simp [runs]
theorem markIntS_ev (l : List Int) (m : Int) (h0 : 0 ≤ m) (hm : m + l.length ≤ 4000000000000000000) : Ev (fun k => laws_markIntS.f k l m) (m + l.length, runs m l.length) := by
  have key : ∀ i, i ≤ l.length → ∀ acc : List Int, acc.length = l.length → acc.take i = runs m i → Ev (fun k => laws_markIntS.l0 k acc (m + i) (i : Int)) (m + l.length, runs m l.length) := by
    refine down (n := l.length) ?_ ?_
    · intro acc ha ht
      refine Ev.step (fun k => by rw [laws_markIntS.l0]) (evn (by omega) (evs ?_))
      rw [← ht, List.take_of_length_le (by omega)]
    · intro i hi ih acc ha ht
      refine Ev.step (fun k => by rw [laws_markIntS.l0]) (evp (by omega) (evp (by omega) ?_))
      rw [w64 (by omega) (by omega), w64 (by omega) (by omega), Int.toNat_natCast]
      have := ih (acc.set i (m + i)) (by simpa using ha) (by
        rw [set_take _ _ _ (by omega), ht]
        simp [runs, List.range_succ])
      rw [Int.add_assoc]
      exact this
  have := key 0 (Nat.zero_le _) l rfl (by simp [runs])
  unfold laws_markIntS.f
  simpa using this
theorem heldIntS_ev (n : Nat) (m : Int) (h0 : 0 ≤ m) (hm : m + n ≤ 4000000000000000000) : Ev (fun k => laws_heldIntS.f k (runs m n) m) (m + n) := by
  have key : ∀ i, i ≤ n → Ev (fun k => laws_heldIntS.l0 k (runs m n) (m + i) (i : Int)) (m + n) := by
    refine down (n := n) ?_ ?_
    · exact Ev.step (fun k => by rw [laws_heldIntS.l0]) (evn (by rw [runs_len]; omega) (evs rfl))
    · intro i hi ih
      refine Ev.step (fun k => by rw [laws_heldIntS.l0]) (evp (by rw [runs_len]; omega) (evp (by omega) (evp ?_ ?_)))
      · rw [rd_nat _ _ (by rw [runs_len]; exact hi)]; simp [runs]
      · rw [w64 (by omega) (by omega), w64 (by omega) (by omega), Int.add_assoc]
        exact ih
  have := key 0 (Nat.zero_le _)
  unfold laws_heldIntS.f
  simpa using this
end Go.Proofs.YtanhnhkcpbdfmaaGreat.Q
namespace Go.Proofs.YtanhnhkcpbdfmaaGreat.V
open Go.RowKit Go.Proofs.YtanhnhkcpbdfmaaGreatW.PrintWords
class From (w0 W : World) : Prop where out : Below w0.heap.size w0 W
class Bel (w : outParam World) (W : World) : Prop where out : Below w.heap.size w W
class Born (w : outParam World) (g : Nat) : Prop where out : g = w.heap.size
class Blk (W : World) (g : Nat) (cs : outParam (Array Value)) (t : outParam TypeId) : Prop where out : W.heap[g]? = some (.cells cs t (0, 0))
class Sz (w0 W : World) : Prop where out : w0.heap.size ≤ W.heap.size
class Nw (w0 : World) (g : Nat) : Prop where out : w0.heap.size ≤ g
class NeB (g g' : Nat) : Prop where out : g ≠ g'
class LeI (n c : Nat) : Prop where out : n ≤ c
class RdE {α : Type} (d : Kd α) (w0 : outParam World) (A : Option Addr) (xs : outParam (List α)) : Prop where out : d.C w0 A xs.length xs
class Rd {α : Type} (d : Kd α) (W : World) (A : Option Addr) (xs : List α) : Prop where out : d.C W A xs.length xs
class RowE {α : Type} (d : Kd α) (e : outParam Nat) (w1 w2 : outParam World) (A : Option Addr) (c : outParam Nat) (xs : outParam (List α)) : Prop where out : d.R e w2 w1.heap.size (fun _ => True) (.slice A xs.length c) xs
class Keep (w1 w2 W : World) : Prop where out : ∀ k, w1.heap.size ≤ k → k < w2.heap.size → W.heap[k]? = w2.heap[k]?
class Off (w1 w2 : World) (g : Nat) : Prop where out : g < w1.heap.size ∨ w2.heap.size ≤ g
section
variable {w0 w1 w2 w W W' : World} {g g' : Nat} {cs cs' : Array Value} {t t' : TypeId} {o : Obj} {n i : Nat} {v : Value}
instance : From w w := ⟨Below.refl _ _⟩
instance [h : From w0 W] : From w0 (W.alloc o) := ⟨below_alloc h.out _⟩
instance [h : From w0 W] : From w0 W.drew := ⟨below_drew1 h.out⟩
instance [h : From w0 W] : From w0 (W.drewN n) := ⟨pw_below_drewN h.out _⟩
instance [h : From w0 W] [hg : Nw w0 g] : From w0 (W.setCell ⟨g, i, none⟩ v) := ⟨below_set h.out hg.out⟩
instance [h : Bel w W] [k : From w0 w] : From w0 W := ⟨below_step k.out h.out⟩
instance : Sz w w := ⟨Nat.le_refl _⟩
instance [h : Sz w0 W] : Sz w0 (W.alloc o) := ⟨Nat.le_trans h.out (by simp)⟩
instance [h : Sz w0 W] : Sz w0 W.drew := ⟨h.out⟩
instance [h : Sz w0 W] : Sz w0 (W.drewN n) := ⟨h.out⟩
instance {p : Addr} [h : Sz w0 W] : Sz w0 (W.setCell p v) := ⟨by simpa using h.out⟩
instance [h : Bel w W] [k : Sz w0 w] : Sz w0 W := ⟨Nat.le_trans k.out h.out.size⟩
instance [h : Born W g] [k : Sz w0 W] : Nw w0 g := ⟨by rw [h.out]; exact k.out⟩
instance [h : Blk W g cs t] : Blk (W.alloc o) g cs t := ⟨blk_alloc h.out _⟩
instance [h : Blk W g cs t] : Blk W.drew g cs t := ⟨h.out⟩
instance [h : Blk W g cs t] : Blk (W.drewN n) g cs t := ⟨h.out⟩
instance [h : Blk W g cs t] [k : NeB g g'] : Blk (W.setCell ⟨g', i, none⟩ v) g cs t := ⟨blk_far h.out k.out _⟩
instance [h : Blk W g cs t] : Blk (W.setCell ⟨g, i, none⟩ v) g (cs.setIfInBounds i v) t := ⟨blk_set h.out _ _⟩
instance [h : Bel w W] [k : Blk w g cs t] : Blk W g cs t := ⟨blk_below k.out h.out⟩
instance [h : Born W g'] [k : Blk W g cs t] : NeB g g' := ⟨by rw [h.out]; exact Nat.ne_of_lt (blk_lt k.out)⟩
instance [h : Born W g] [k : Blk W g' cs t] : NeB g g' := ⟨by rw [h.out]; exact Nat.ne_of_gt (blk_lt k.out)⟩
theorem cell_b (W : World) (g i : Nat) [h : Blk W g cs t] : W.cell? ⟨g, i, none⟩ = cs[i]? := blk_cell h.out i
theorem frozen_b (W : World) (g i : Nat) [h : Blk W g cs t] : W.frozen? ⟨g, i, none⟩ = false := blk_frozen h.out i
instance : Keep w1 w2 w2 := ⟨fun _ _ _ => rfl⟩
theorem keep_lt (h : Keep w1 w2 W) {k : Nat} (h1 : w1.heap.size ≤ k) (h2 : k < w2.heap.size) : k < W.heap.size := by
  have := h.out k h1 h2
  rw [Array.getElem?_eq_getElem h2] at this
  exact (Array.getElem?_eq_some_iff.1 this).1
instance [h : Keep w1 w2 W] : Keep w1 w2 (W.alloc o) := ⟨fun k h1 h2 => (Below.heap_alloc W o k (keep_lt h h1 h2)).trans (h.out k h1 h2)⟩
instance [h : Keep w1 w2 W] : Keep w1 w2 W.drew := ⟨h.out⟩
instance [h : Keep w1 w2 W] : Keep w1 w2 (W.drewN n) := ⟨h.out⟩
instance [h : Bel w W] [k : Keep w1 w2 w] : Keep w1 w2 W := ⟨fun j h1 h2 => (h.out.block j (keep_lt k h1 h2)).trans (k.out j h1 h2)⟩
instance [h : Keep w1 w2 W] [k : Off w1 w2 g] : Keep w1 w2 (W.setCell ⟨g, i, none⟩ v) := ⟨fun j h1 h2 => (Below.heap_setCell W _ v j (by have := k.out; show j ≠ g; omega)).trans (h.out j h1 h2)⟩
instance [h : Blk w1 g cs t] : Off w1 w2 g := ⟨.inl (blk_lt h.out)⟩
instance [h : Nw w2 g] : Off w1 w2 g := ⟨.inr h.out⟩
section
variable {α : Type} {d : Kd α} {e : Nat} {A : Option Addr} {c : Nat} {xs : List α}
instance [h : RdE d w0 A xs] [k : From w0 W] : Rd d W A xs := ⟨Kd.C_below h.out k.out⟩
theorem row_ [h : RowE d e w1 w2 A c xs] [k : Keep w1 w2 W] : d.R e W w1.heap.size (fun _ => True) (.slice A xs.length c) xs :=
  Kd.R_mono (Kd.R_move (Kd.R_bound h.out) (fun j hj => k.out j hj.2.1 hj.2.2.1)) (fun _ _ => trivial)
theorem rowRd [h : RowE d e w1 w2 A c xs] [k : Keep w1 w2 W] : d.C W A xs.length xs := (Kd.R_reads' (row_ (h := h) (k := k))).2.2
instance [h : RowE d e w1 w2 A c xs] [k : Keep w1 w2 W] : Rd d W A xs := ⟨rowRd (h := h) (k := k)⟩
theorem rowLe (h : RowE d e w1 w2 A c xs) : xs.length ≤ c := (Kd.R_reads' h.out).2.1
theorem rowFin [h : RowE d e w1 w2 A c xs] [k : Keep w1 w2 W] [l : From w w1] : d.R e W w.heap.size (fun _ => True) (.slice A xs.length c) xs := Kd.R_lower (row_ (h := h) (k := k)) l.out.size
theorem rowP [h : RowE d e w1 w2 A c xs] [k : Keep w1 w2 W] [l : From w w1] : d.R e W w.heap.size (fun j => w1.heap.size ≤ j ∧ j < w2.heap.size) (.slice A xs.length c) xs :=
  Kd.R_lower (Kd.R_mono (Kd.R_move (Kd.R_bound h.out) (fun j hj => k.out j hj.2.1 hj.2.2.1)) (fun _ hj => ⟨hj.2.1, hj.2.2.1⟩)) l.out.size
end
class Sin (w0 : outParam World) (W : World) : Prop where out : Below w0.heap.size w0 W
instance {w0 w W : World} [h : Sin w0 W] [k : Sz w w0] : Sz w W := ⟨Nat.le_trans k.out h.out.size⟩
instance {w0 w W : World} [h : Sin w0 W] [k : From w w0] : From w W := ⟨below_step k.out h.out⟩
instance {w0 W : World} {g : Nat} {cs : Array Value} {t : TypeId} [h : Sin w0 W] [k : Blk w0 g cs t] : Blk W g cs t := ⟨blk_below k.out h.out⟩
instance {w0 w1 w2 W : World} [h : Sin w0 W] [k : Keep w1 w2 w0] : Keep w1 w2 W := ⟨fun j h1 h2 => (h.out.block j (keep_lt k h1 h2)).trans (k.out j h1 h2)⟩
class SinB (B : outParam Nat) (w0 : outParam World) (W : World) : Prop where out : B ≤ w0.heap.size ∧ Below B w0 W
class LtB (g B : Nat) : Prop where out : g < B
class FromB (B : Nat) (w0 W : World) : Prop where out : B ≤ w0.heap.size ∧ Below B w0 W
section
variable {w0 w W W1 : World} {g g' B i n : Nat} {cs : Array Value} {t : TypeId} {o : Obj} {v : Value}
instance [h : Born W g'] [k : Blk W g cs t] : LtB g g' := ⟨by rw [h.out]; exact blk_lt k.out⟩
instance [h : SinB B w0 W] [k : Blk w0 g cs t] [l : LtB g B] : Blk W g cs t := ⟨(h.out.2.block g l.out).trans k.out⟩
instance [h : SinB B w0 W] [k : Sz w w0] : Sz w W := ⟨Nat.le_trans k.out h.out.2.size⟩
instance [h : SinB B w0 W] [k : From w w0] [l : Nw w B] : From w W := ⟨below_weaken k.out l.out h.out.2⟩
instance [k : Blk w0 g cs t] : FromB g w0 w0 := ⟨⟨Nat.le_of_lt (blk_lt k.out), Below.refl _ _⟩⟩
instance [h : FromB B w0 W] : FromB B w0 (W.alloc o) := ⟨⟨h.out.1, h.out.2.alloc (Nat.le_trans h.out.1 h.out.2.size) _⟩⟩
instance [h : FromB B w0 W] : FromB B w0 W.drew := ⟨⟨h.out.1, h.out.2.drew⟩⟩
instance [h : FromB B w0 W] : FromB B w0 (W.drewN n) := ⟨⟨h.out.1, pw_below_drewN h.out.2 _⟩⟩
instance [k : Bel w W] [h : FromB B w0 w] : FromB B w0 W := ⟨⟨h.out.1, below_then h.out.2 (Nat.le_trans h.out.1 h.out.2.size) k.out⟩⟩
instance [h : FromB g w0 W] : FromB g w0 (W.setCell ⟨g, i, none⟩ v) := ⟨⟨h.out.1, h.out.2.setCell (Nat.le_refl _) _⟩⟩
instance [h : FromB B w0 W] [l : LtB B g'] : FromB B w0 (W.setCell ⟨g', i, none⟩ v) := ⟨⟨h.out.1, h.out.2.setCell (Nat.le_of_lt l.out) _⟩⟩
instance [k : SinB B w0 W] : FromB B w0 W := ⟨k.out⟩
end
theorem region_st {P : Program} {id : Nat} {ops : Array Oper} {Q : Exit → Act → World → Prop} {a : Act} {W : World} (N : Nat) {g : Nat} (hp : a.tmps.getD N undef = .pointer (some ⟨g, 0, none⟩))
    (h : ∀ g', g' = g → ∀ w3, Bel W w3 → (Code.region id ops true).wp P Q a w3) : (Code.region id ops true).wp P Q a W := h g rfl W ⟨Below.refl _ _⟩
theorem region_at {P : Program} {id : Nat} {ops : Array Oper} {Q : Exit → Act → World → Prop} {a : Act} {W : World} (h : ∀ w3, Bel W w3 → (Code.region id ops true).wp P Q a w3) : (Code.region id ops true).wp P Q a W := h W ⟨Below.refl _ _⟩
class Mk (W : outParam World) (W' : World) (w1 w2 : outParam World) : Prop where out : Kept W W' (fun k => w1.heap.size ≤ k ∧ k < w2.heap.size)
class Dis (a b w1 w2 : World) : Prop where out : b.heap.size ≤ w1.heap.size ∨ w2.heap.size ≤ a.heap.size
section
variable {a b w1 w2 W W' : World} {g : Nat} {cs : Array Value} {t : TypeId}
instance [h : Sz b w1] : Dis a b w1 w2 := ⟨.inl h.out⟩
instance [h : Sz w2 a] : Dis a b w1 w2 := ⟨.inr h.out⟩
instance {w0 : World} [m : Mk W W' a b] [h : Sz w0 W] : Sz w0 W' := ⟨Nat.le_trans h.out m.out.1⟩
instance [m : Mk W W' a b] [h : Keep w1 w2 W] [d : Dis a b w1 w2] : Keep w1 w2 W' :=
  ⟨fun k h1 h2 => (m.out.2 k (keep_lt h h1 h2) (fun hk => by have := d.out; omega)).trans (h.out k h1 h2)⟩
instance [m : Mk W W' a b] [h : Blk W g cs t] [d : Off a b g] : Blk W' g cs t := ⟨(m.out.2 g (blk_lt h.out) (fun hk => by have := d.out; omega)).trans h.out⟩
theorem mk3 (h : Kept W W' (fun k => (a.heap.size ≤ k ∧ k < b.heap.size) ∨ (a.heap.size ≤ k ∧ k < b.heap.size) ∨ (a.heap.size ≤ k ∧ k < b.heap.size))) : Mk W W' a b := ⟨⟨h.1, fun i hi hs => h.2 i hi (by omega)⟩⟩
end
theorem hF_ {b : Bool} (h : ¬ b = true) : b = false := Bool.eq_false_iff.mpr h
theorem hG_ {b : Bool} (h : (!b) = true) : b = false := (Bool.not_eq_true' _).mp h
theorem hH_ {b : Bool} (h : ¬ (!b) = true) : b = true := (Bool.not_eq_false' _).mp (Bool.eq_false_iff.mpr h)
theorem hI_ {α : Type} [BEq α] [LawfulBEq α] {a b : α} (h : a = b) : (a == b) = true := beq_iff_eq.mpr h
theorem hJ_ {α : Type} [BEq α] [LawfulBEq α] {a b : α} (h : a = b) : (a != b) = false := bne_eq_false_iff_eq.mpr h
theorem hK_ {α : Type} [BEq α] [LawfulBEq α] {a b : α} (h : a ≠ b) : (a == b) = false := beq_eq_false_iff_ne.mpr h
theorem hL_ {α : Type} [BEq α] [LawfulBEq α] {a b : α} (h : a ≠ b) : (a != b) = true := bne_iff_ne.mpr h
theorem none_some {α : Type} {r : α} (h : none = some r) : False := by cases h
theorem ite_some {α : Type} {c : Prop} [Decidable c] {x y : Option α} {r : α} (h : (if c then x else y) = some r) : (c ∧ x = some r) ∨ (¬ c ∧ y = some r) := by
  by_cases hc : c
  · exact .inl ⟨hc, by rwa [if_pos hc] at h⟩
  · exact .inr ⟨hc, by rwa [if_neg hc] at h⟩
end
class CelR (W : World) (a : Addr) (v : outParam Value) : Prop where out : W.cell? a = some v
class FarA (a : Addr) (g : Nat) : Prop where out : a.block ≠ g
section
variable {w w0 W : World} {a : Addr} {v u : Value} {o : Obj} {n g i : Nat}
theorem celR_lt (h : CelR W a v) : a.block < W.heap.size := World.block_lt_of_cell? W a h.out
instance [h : CelR W a v] : CelR (W.alloc o) a v := ⟨((below_alloc (RowKit.Below.refl W.heap.size W) o).cell (celR_lt h)).trans h.out⟩
instance [h : CelR W a v] : CelR W.drew a v := ⟨h.out⟩
instance [h : CelR W a v] : CelR (W.drewN n) a v := ⟨h.out⟩
instance [b : Bel w W] [h : CelR w a v] : CelR W a v := ⟨(b.out.cell (celR_lt h)).trans h.out⟩
instance [b : Sin w0 W] [h : CelR w0 a v] : CelR W a v := ⟨(b.out.cell (celR_lt h)).trans h.out⟩
instance [h : Born W g] [k : CelR W a v] : FarA a g := ⟨by rw [h.out]; exact Nat.ne_of_lt (celR_lt k)⟩
instance [h : CelR W a v] [k : FarA a g] : CelR (W.setCell ⟨g, i, none⟩ u) a v := ⟨(cell_far k.out u).trans h.out⟩
theorem cellR_c (W : World) (a : Addr) {v : Value} [h : CelR W a v] : W.cell? a = some v := h.out
end
class InR (w1 w2 : outParam World) (g : Nat) : Prop where out : w1.heap.size ≤ g ∧ g < w2.heap.size
class IRow (e : outParam Nat) (w1 : outParam World) (W : World) (g : Nat) (c : outParam Nat) (xs : outParam (List Int)) : Prop where out : (Kd.int .i64).R e W w1.heap.size (fun _ => True) (.slice (some ⟨g, 0, none⟩) xs.length c) xs
class At {α : Type} (d : Kd α) (e : outParam Nat) (w1 : outParam World) (W : World) (A : Option Addr) (c : outParam Nat) (xs : outParam (List α)) : Prop where out : d.R e W w1.heap.size (fun _ => True) (.slice A xs.length c) xs
class IxIn (i : Int) (xs : List Int) : Prop where out : 0 ≤ i ∧ i < xs.length
class CelE (w0 : outParam World) (a : Addr) (v : outParam Value) : Prop where out : w0.cell? a = some v
class NeT {α : Type} (d : Kd α) (e t : Nat) : Prop where out : ∀ q, q ∈ e :: d.E → q ≠ t
section
variable {w0 w1 w2 a b w W : World} {g g' e c i n t B : Nat} {A : Option Addr} {xs ys : List Int} {v : Int} {u : Value} {o : Obj} {cs : Array Value}
instance [h : RowE (Kd.int .i64) e w1 w2 (some ⟨g, 0, none⟩) c xs] : InR w1 w2 g := ⟨by
  have := (Kd.R_bound h.out).1 g (by simp [Value.ownBlock])
  exact ⟨this.2.1, this.2.2.1⟩⟩
instance [h : InR w1 w2 g] [k : Off w1 w2 g'] : NeB g' g := ⟨by have := h.out; have := k.out; omega⟩
instance [h : InR w1 w2 g] [k : Off w1 w2 g'] : NeB g g' := ⟨by have := h.out; have := k.out; omega⟩
instance [h : InR w1 w2 g] [k : Sz w0 w1] : Nw w0 g := ⟨Nat.le_trans k.out h.out.1⟩
instance [h : InR w1 w2 g] [k : Dis w1 w2 a b] : Off a b g := ⟨by have := h.out; have := k.out; omega⟩
instance [h : RowE (Kd.int .i64) e w1 w2 (some ⟨g, 0, none⟩) c xs] [k : Keep w1 w2 W] : IRow e w1 W g c xs := ⟨row_ (h := h) (k := k)⟩
instance [h : IRow e w1 W g c xs] : IRow e w1 (W.alloc o) g c xs := ⟨Kd.R_alloc h.out o⟩
instance [h : IRow e w1 W g c xs] : IRow e w1 W.drew g c xs := ⟨Kd.R_drew h.out⟩
instance [h : IRow e w1 W g c xs] : IRow e w1 (W.drewN n) g c xs := ⟨Kd.R_drewN h.out n⟩
instance [k : Bel w W] [h : IRow e w1 w g c xs] : IRow e w1 W g c xs := ⟨Kd.R_below h.out k.out⟩
instance [k : Sin w W] [h : IRow e w1 w g c xs] : IRow e w1 W g c xs := ⟨Kd.R_below h.out k.out⟩
instance [h : IRow e w1 W g c xs] : IRow e w1 (W.setCell ⟨g, i, none⟩ (.int .i64 v)) g c (xs.set i v) := ⟨by
  have := Kd.R_putn h.out (i : Int) v
  rw [List.length_set]
  exact this⟩
instance [h : IRow e w1 W g c xs] [k : NeB g g'] : IRow e w1 (W.setCell ⟨g', i, none⟩ u) g c xs := ⟨Kd.R_mono (Kd.R_far (p := ⟨g', i, none⟩) (ok := fun k => k = g) (Kd.R_of_own (Kd.own_of_R h.out) (fun k hk => by simp [Value.ownBlock] at hk; exact hk.symm)) (fun j hj => by rw [hj]; exact k.out) u) (fun _ _ => trivial)⟩
theorem cell_r (W : World) (g : Nat) (i : Int) [h : IRow e w1 W g c xs] [k : IxIn i xs] : W.cell? ⟨g, i.toNat, none⟩ = some (.int .i64 (rd xs i)) := (Kd.R_celln 0 h.out i k.out.1 k.out.2).1
theorem frozen_r (W : World) (g : Nat) (i : Int) [h : IRow e w1 W g c xs] [k : IxIn i xs] : W.frozen? ⟨g, i.toNat, none⟩ = false := (Kd.R_celln 0 h.out i k.out.1 k.out.2).2
theorem cell_r0 (W : World) (g : Nat) [h : IRow e w1 W g c xs] [k : IxIn 0 xs] : W.cell? ⟨g, 0, none⟩ = some (.int .i64 (rd xs 0)) := cell_r W g 0
theorem frozen_r0 (W : World) (g : Nat) [h : IRow e w1 W g c xs] [k : IxIn 0 xs] : W.frozen? ⟨g, 0, none⟩ = false := frozen_r W g 0
theorem form_ {i : Int} (j : RowE (Kd.int .i64) e w1 w2 A c xs) (h0 : 0 ≤ i) (h1 : i < (xs.length : Int)) : ∃ g, A = some ⟨g, 0, none⟩ ∧ IxIn i xs := by
  obtain ⟨g, c', h, _⟩ := Kd.R_form j.out (by omega)
  injection h with h _ _
  exact ⟨g, h, ⟨⟨h0, h1⟩⟩⟩
theorem atI_ {i : Int} (j : RdE (Kd.int .i64) w0 A xs) (h0 : 0 ≤ i) (h1 : i < (xs.length : Int)) : ∃ ad, A = some ad ∧ CelE w0 (ad.add i.toNat) (.int .i64 (rd xs i)) := by
  obtain ⟨ad, e, h⟩ := Kd.at_int j.out i h0 h1
  exact ⟨ad, e, ⟨h⟩⟩
instance {p : Addr} [h : CelE w0 p u] [k : From w0 W] : CelR W p u := ⟨(k.out.cell (World.block_lt_of_cell? w0 p h.out)).trans h.out⟩
theorem bind_set_ {β : Type} {i : Nat} {f : List Int → Option β} {r : β} (h : (some (xs.set i v)).bind f = some r) : xs.length = (xs.set i v).length ∧ f (xs.set i v) = some r := ⟨(List.length_set ..).symm, h⟩
instance [h : LeI xs.length c] : LeI (xs.set i v).length c := ⟨by rw [List.length_set]; exact h.out⟩
theorem irowFin [h : IRow e w1 W g c xs] [l : From w w1] : (Kd.int .i64).R e W w.heap.size (fun _ => True) (.slice (some ⟨g, 0, none⟩) xs.length c) xs := Kd.R_lower h.out l.out.size
theorem irowFin' {m : Nat} [h : IRow e w1 W g c xs] [l : From w w1] (hm : m = xs.length) : (Kd.int .i64).R e W w.heap.size (fun _ => True) (.slice (some ⟨g, 0, none⟩) m c) xs := by rw [hm]; exact irowFin
instance [h : IRow e w1 W g c xs] : Rd (Kd.int .i64) W (some ⟨g, 0, none⟩) xs := ⟨(Kd.R_reads' h.out).2.2⟩
section
variable {α : Type} {d : Kd α} {zs : List α} {c' : Nat}
instance [h : RowE d t w1 w2 A c zs] [k : Keep w1 w2 W] [l : IRow e w W g c' ys] [m : NeT d t e] : At d t w1 (W.setCell ⟨g, i, none⟩ (.int .i64 v)) A c zs := ⟨Kd.R_over' (v := .slice (some ⟨g, 0, none⟩) ys.length c') (row_ (h := h) (k := k)) (Kd.R_typed l.out) m.out (Kd.R_putg l.out (i : Int) v).2⟩
instance [h : At d t w1 W A c zs] [l : IRow e w W g c' ys] [m : NeT d t e] : At d t w1 (W.setCell ⟨g, i, none⟩ (.int .i64 v)) A c zs := ⟨Kd.R_over' (v := .slice (some ⟨g, 0, none⟩) ys.length c') h.out (Kd.R_typed l.out) m.out (Kd.R_putg l.out (i : Int) v).2⟩
instance [h : At d t w1 W A c zs] : At d t w1 (W.alloc o) A c zs := ⟨Kd.R_alloc h.out o⟩
instance [h : At d t w1 W A c zs] : At d t w1 W.drew A c zs := ⟨Kd.R_drew h.out⟩
instance [h : At d t w1 W A c zs] : At d t w1 (W.drewN n) A c zs := ⟨Kd.R_drewN h.out n⟩
instance [k : Bel w W] [h : At d t w1 w A c zs] : At d t w1 W A c zs := ⟨Kd.R_below h.out k.out⟩
instance [k : Sin w W] [h : At d t w1 w A c zs] : At d t w1 W A c zs := ⟨Kd.R_below h.out k.out⟩
instance [h : At d t w1 W A c zs] [k : Blk W g cs e] [m : NeT d t e] : At d t w1 (W.setCell ⟨g, i, none⟩ u) A c zs := ⟨Kd.R_mono (Kd.R_far (p := ⟨g, i, none⟩) (Kd.R_types h.out k.out m.out) (fun _ hk => hk.2) u) (fun _ _ => trivial)⟩
theorem atFin [h : At d t w1 W A c zs] [l : From w w1] : d.R t W w.heap.size (fun _ => True) (.slice A zs.length c) zs := Kd.R_lower h.out l.out.size
instance [h : At d t w1 W A c zs] : Rd d W A zs := ⟨(Kd.R_reads' h.out).2.2⟩
end
end
end Go.Proofs.YtanhnhkcpbdfmaaGreat.V
namespace Go.Proofs.YtanhnhkcpbdfmaaGreat.P
set_option maxHeartbeats 8000000
set_option maxRecDepth 100000
set_option synthInstance.maxHeartbeats 400000
set_option synthInstance.maxSize 100000
open Go.RowKit Go.Proofs.YtanhnhkcpbdfmaaGreatW.PrintWords Go.Proofs.YtanhnhkcpbdfmaaGreatW.PrintLast Go.Proofs.YtanhnhkcpbdfmaaGreatW.PrintMore Go.Proofs.YtanhnhkcpbdfmaaGreat.V
attribute [local go_sem] cell_b frozen_b
attribute [local go_sem] max2_int min2_int max_two min_two max_three min_three max_four min_four
def laws_szWork.f (l0_0 : List (S140)) (a0_1 : Int) (l0_2 : List Int) (a1 : Int) : Option (Int) := (laws_szStepS.f l0_0 a1).bind fun t102 => (if t102 < 0 then (some (-1)) else ((laws_szIntS.f l0_2 t102).bind fun t103 => (if t103 < 0 then (some (-1)) else (some t103))))
theorem laws_szWork.calls (A0_0 : Option Addr) (c0_0 : Nat) (l0_0 : List (S140)) (a0_1 : Int) (A0_2 : Option Addr) (c0_2 : Nat) (l0_2 : List Int) (a1 : Int) (r : Int) (w : World) (hr0_0 : Kd.C k140 w A0_0 l0_0.length l0_0) (hc0_0 : l0_0.length ≤ c0_0) (hr0_2 : Kd.C (Kd.int .i64) w A0_2 l0_2.length l0_2) (hc0_2 : l0_2.length ≤ c0_2) (h : laws_szWork.f l0_0 a0_1 l0_2 a1 = some r) :
  Calls Tryz.prog 43 #[.agg #[.slice A0_0 l0_0.length c0_0, .int .i64 a0_1, .slice A0_2 l0_2.length c0_2], .int .i64 a1] w fun e w' => e = .returned (.int .i64 r) ∧ Below w.heap.size w w' := by
 replace hr0_0 := RdE.mk hr0_0
 replace hc0_0 := LeI.mk hc0_0
 replace hr0_2 := RdE.mk hr0_2
 replace hc0_2 := LeI.mk hc0_2
 unfold laws_szWork.f at h
 have hu25 := Tryz.underlying25
 (repeat' first | ((with_reducible replace h := ite_some h); rcases h with ⟨hc, h⟩ | ⟨hc, h⟩ <;> first | exact (none_some h).elim | exact absurd hc (by decide) | subst hc | (replace hc := hF_ hc; subst hc) | (have hd := hI_ hc; have he := hJ_ hc; clear hc) | (have hd := hK_ hc; have he := hL_ hc) | (have hd := decide_eq_false hc) | (have hd := decide_eq_true hc) | skip))
 all_goals go_enter Tryz.func43, Tryz.ntmps43
 all_goals go_wp2_with ((first
  | ((with_reducible refine gate_dst (N := 2) rfl ?_); refine box_event rfl (N := 2) rfl (cs := #[.slice A0_0 l0_0.length c0_0, .int .i64 a0_1, .slice A0_2 l0_2.length c0_2]) (t := 25) (by first | (go_simp; done) | (go_simp; rfl)) ?_; intro g hg w1 hk hb; have j1 := Born.mk hg; have j2 := Bel.mk hb; have j3 := Blk.mk hk; clear hg hb hk)
  | (go_at_call 93; replace h := Option.bind_eq_some_iff.mp h; obtain ⟨t, A, h⟩ := h; (try dsimp only at h); refine (laws_szStepS.calls _ _ _ _ _ _ Rd.out LeI.out A).mono ?_; rintro e w2 ⟨rfl, n, rfl⟩; clear A)
  | (go_at_call 94; replace h := Option.bind_eq_some_iff.mp h; obtain ⟨t, A, h⟩ := h; (try dsimp only at h); refine (laws_szIntS.calls _ _ _ _ _ _ Rd.out LeI.out A).mono ?_; rintro e w2 ⟨rfl, n, rfl⟩; clear A)); (repeat' first | ((with_reducible replace h := ite_some h); rcases h with ⟨hc, h⟩ | ⟨hc, h⟩ <;> first | exact (none_some h).elim | exact absurd hc (by decide) | subst hc | (replace hc := hF_ hc; subst hc) | (have hd := hI_ hc; have he := hJ_ hc; clear hc) | (have hd := hK_ hc; have he := hL_ hc) | (have hd := decide_eq_false hc) | (have hd := decide_eq_true hc) | skip)))
 all_goals obtain rfl := Option.some.inj h
 all_goals go_ret
 all_goals exact ⟨rfl, From.out⟩
def laws_szShop.f (l0_0 : List (S140)) (a0_1 : Int) (l0_2 : List Int) (a0_3 : Int) (a0_4 : Int) (l0_5 : List (S127)) (a1 : Int) : Option (Int) := (laws_szWork.f l0_0 a0_1 l0_2 a1).bind fun t105 => (if t105 < 0 then (some (-1)) else ((laws_szEntryS.f l0_5 t105).bind fun t106 => (if t106 < 0 then (some (-1)) else (some t106))))
theorem laws_szShop.calls (A0_0 : Option Addr) (c0_0 : Nat) (l0_0 : List (S140)) (a0_1 : Int) (A0_2 : Option Addr) (c0_2 : Nat) (l0_2 : List Int) (a0_3 : Int) (a0_4 : Int) (A0_5 : Option Addr) (c0_5 : Nat) (l0_5 : List (S127)) (a1 : Int) (r : Int) (w : World) (hr0_0 : Kd.C k140 w A0_0 l0_0.length l0_0) (hc0_0 : l0_0.length ≤ c0_0) (hr0_2 : Kd.C (Kd.int .i64) w A0_2 l0_2.length l0_2) (hc0_2 : l0_2.length ≤ c0_2) (hr0_5 : Kd.C k127 w A0_5 l0_5.length l0_5) (hc0_5 : l0_5.length ≤ c0_5) (h : laws_szShop.f l0_0 a0_1 l0_2 a0_3 a0_4 l0_5 a1 = some r) :
  Calls Tryz.prog 9 #[.agg #[.slice A0_0 l0_0.length c0_0, .int .i64 a0_1, .slice A0_2 l0_2.length c0_2, .int .i64 a0_3, .int .i64 a0_4, .slice A0_5 l0_5.length c0_5], .int .i64 a1] w fun e w' => e = .returned (.int .i64 r) ∧ Below w.heap.size w w' := by
 replace hr0_0 := RdE.mk hr0_0
 replace hc0_0 := LeI.mk hc0_0
 replace hr0_2 := RdE.mk hr0_2
 replace hc0_2 := LeI.mk hc0_2
 replace hr0_5 := RdE.mk hr0_5
 replace hc0_5 := LeI.mk hc0_5
 unfold laws_szShop.f at h
 have hu28 := Tryz.underlying28
 (repeat' first | ((with_reducible replace h := ite_some h); rcases h with ⟨hc, h⟩ | ⟨hc, h⟩ <;> first | exact (none_some h).elim | exact absurd hc (by decide) | subst hc | (replace hc := hF_ hc; subst hc) | (have hd := hI_ hc; have he := hJ_ hc; clear hc) | (have hd := hK_ hc; have he := hL_ hc) | (have hd := decide_eq_false hc) | (have hd := decide_eq_true hc) | skip))
 all_goals go_enter Tryz.func9, Tryz.ntmps9
 all_goals go_wp2_with ((first
  | ((with_reducible refine gate_dst (N := 2) rfl ?_); refine box_event rfl (N := 2) rfl (cs := #[.slice A0_0 l0_0.length c0_0, .int .i64 a0_1, .slice A0_2 l0_2.length c0_2, .int .i64 a0_3, .int .i64 a0_4, .slice A0_5 l0_5.length c0_5]) (t := 28) (by first | (go_simp; done) | (go_simp; rfl)) ?_; intro g hg w1 hk hb; have j1 := Born.mk hg; have j2 := Bel.mk hb; have j3 := Blk.mk hk; clear hg hb hk)
  | (go_at_call 43; replace h := Option.bind_eq_some_iff.mp h; obtain ⟨t, A, h⟩ := h; (try dsimp only at h); refine (laws_szWork.calls _ _ _ _ _ _ _ _ _ _ Rd.out LeI.out Rd.out LeI.out A).mono ?_; rintro e w2 ⟨rfl, hb⟩; have jb := Bel.mk hb; clear A hb)
  | (go_at_call 44; replace h := Option.bind_eq_some_iff.mp h; obtain ⟨t, A, h⟩ := h; (try dsimp only at h); refine (laws_szEntryS.calls _ _ _ _ _ _ Rd.out LeI.out A).mono ?_; rintro e w2 ⟨rfl, n, rfl⟩; clear A)); (repeat' first | ((with_reducible replace h := ite_some h); rcases h with ⟨hc, h⟩ | ⟨hc, h⟩ <;> first | exact (none_some h).elim | exact absurd hc (by decide) | subst hc | (replace hc := hF_ hc; subst hc) | (have hd := hI_ hc; have he := hJ_ hc; clear hc) | (have hd := hK_ hc; have he := hL_ hc) | (have hd := decide_eq_false hc) | (have hd := decide_eq_true hc) | skip)))
 all_goals obtain rfl := Option.some.inj h
 all_goals go_ret
 all_goals exact ⟨rfl, From.out⟩
def spec_l36Copy.f (l0_0 : List (S112)) (a0_1 : Int) (l0_2 : List Int) : Option ((List (S112)) × Int × List Int) := (spec_l19Copy.f l0_0).bind fun t158 => ((spec_l02Copy.f l0_2).bind fun t161 => (some (t158, a0_1, t161)))
theorem spec_l36Copy.calls (A0_0 : Option Addr) (c0_0 : Nat) (l0_0 : List (S112)) (a0_1 : Int) (A0_2 : Option Addr) (c0_2 : Nat) (l0_2 : List Int) (r1 : List (S112)) (r2 : Int) (r3 : List Int) (w : World) (hr0_0 : Kd.C k112 w A0_0 l0_0.length l0_0) (hc0_0 : l0_0.length ≤ c0_0) (hr0_2 : Kd.C (Kd.int .i64) w A0_2 l0_2.length l0_2) (hc0_2 : l0_2.length ≤ c0_2) (h : spec_l36Copy.f l0_0 a0_1 l0_2 = some (r1, r2, r3)) :
  Calls Tryz.prog 95 #[.agg #[.slice A0_0 l0_0.length c0_0, .int .i64 a0_1, .slice A0_2 l0_2.length c0_2]] w fun e w' => ∃ v0_ v2_ : Value, e = .returned (.agg #[v0_, .int .i64 r2, v2_]) ∧ Kd.R k112 112 w' w.heap.size (fun _ => True) v0_ r1 ∧ Kd.R (Kd.int .i64) 3 w' w.heap.size (fun _ => True) v2_ r3 ∧ Below w.heap.size w w' := by
 replace hr0_0 := RdE.mk hr0_0
 replace hc0_0 := LeI.mk hc0_0
 replace hr0_2 := RdE.mk hr0_2
 replace hc0_2 := LeI.mk hc0_2
 unfold spec_l36Copy.f at h
 have hu34 := Tryz.underlying34
 (repeat' first | ((with_reducible replace h := ite_some h); rcases h with ⟨hc, h⟩ | ⟨hc, h⟩ <;> first | exact (none_some h).elim | exact absurd hc (by decide) | subst hc | (replace hc := hF_ hc; subst hc) | (have hd := hI_ hc; have he := hJ_ hc; clear hc) | (have hd := hK_ hc; have he := hL_ hc) | (have hd := decide_eq_false hc) | (have hd := decide_eq_true hc) | skip))
 all_goals go_enter Tryz.func95, Tryz.ntmps95
 all_goals go_wp2_with ((first
  | ((with_reducible refine gate_dst (N := 1) rfl ?_); refine box_event rfl (N := 1) rfl (cs := #[.slice A0_0 l0_0.length c0_0, .int .i64 a0_1, .slice A0_2 l0_2.length c0_2]) (t := 34) (by first | (go_simp; done) | (go_simp; rfl)) ?_; intro g hg w1 hk hb; have j1 := Born.mk hg; have j2 := Bel.mk hb; have j3 := Blk.mk hk; clear hg hb hk)
  | ((with_reducible refine gate_dst (N := 2) rfl ?_); refine box_event rfl (N := 2) rfl (cs := #[.slice none 0 0, .int .i64 0, .slice none 0 0]) (t := 34) (by first | (go_simp; done) | (go_simp; rfl)) ?_; intro g hg w1 hk hb; have j1 := Born.mk hg; have j2 := Bel.mk hb; have j3 := Blk.mk hk; clear hg hb hk)
  | ((with_reducible refine region_at ?_); intro w3 jw; refine region_st 2 (by rfl) ?_; intro g hg w4 jv; subst hg; go_region_held3 (fun w' => SinB g w4 w') (first | exact ⟨FromB.out⟩ | skip) (first | (go_at_call 126; replace h := Option.bind_eq_some_iff.mp h; obtain ⟨t, A, h⟩ := h; (try dsimp only at h); refine (spec_l19Copy.calls _ _ _ _ _ Rd.out LeI.out A).mono ?_; rintro e w2 ⟨v0, rfl, ho0, hb⟩; obtain ⟨B0, b0, rfl⟩ := Kd.R_slice ho0; have j0 := RowE.mk ho0; have q0 := LeI.mk (rowLe j0); have jb := Bel.mk hb; clear A ho0 hb; (repeat' first | ((with_reducible replace h := ite_some h); rcases h with ⟨hc, h⟩ | ⟨hc, h⟩ <;> first | exact (none_some h).elim | exact absurd hc (by decide) | subst hc | (replace hc := hF_ hc; subst hc) | (have hd := hI_ hc; have he := hJ_ hc; clear hc) | (have hd := hK_ hc; have he := hL_ hc) | (have hd := decide_eq_false hc) | (have hd := decide_eq_true hc) | skip)); (try have hn : decide (0 < t.length) = true := decide_eq_true (by omega)); (try have hn : decide (0 < t.length) = false := decide_eq_false (by omega))) | (go_at_call 127; replace h := Option.bind_eq_some_iff.mp h; obtain ⟨t, A, h⟩ := h; (try dsimp only at h); refine (spec_l02Copy.calls _ _ _ _ _ Rd.out LeI.out A).mono ?_; rintro e w2 ⟨v0, rfl, ho0, hb⟩; obtain ⟨B0, b0, rfl⟩ := Kd.R_slice ho0; have j0 := RowE.mk ho0; have q0 := LeI.mk (rowLe j0); have jb := Bel.mk hb; clear A ho0 hb)); (repeat' first | ((with_reducible replace h := ite_some h); rcases h with ⟨hc, h⟩ | ⟨hc, h⟩ <;> first | exact (none_some h).elim | exact absurd hc (by decide) | subst hc | (replace hc := hF_ hc; subst hc) | (have hd := hI_ hc; have he := hJ_ hc; clear hc) | (have hd := hK_ hc; have he := hL_ hc) | (have hd := decide_eq_false hc) | (have hd := decide_eq_true hc) | skip)); all_goals (try have hn : decide (0 < t.length) = true := decide_eq_true (by omega)); all_goals (try have hn : decide (0 < t.length) = false := decide_eq_false (by omega)))))
 all_goals simp only [Option.some.injEq, Prod.mk.injEq] at h
 all_goals obtain ⟨rfl, rfl, rfl⟩ := h
 all_goals refine bodyPost_ret (results_cell_row rfl _ _ _ _ _ (0, 0) _ rfl Blk.out Tryz.underlying34 rfl (by kernel_rfl)) rfl ?_
 all_goals exact ⟨_, _, rfl, (by first | exact rowFin | exact Kd.R_nil _ _ _ _ _), (by first | exact rowFin | exact Kd.R_nil _ _ _ _ _), From.out⟩
def spec_l38Copy.f (l0_0 : List (S112)) (a0_1 : Int) (l0_2 : List Int) (a0_3 : Int) (a0_4 : Int) (l0_5 : List (S104)) : Option ((List (S112)) × Int × List Int × Int × Int × (List (S104))) := (spec_l36Copy.f l0_0 a0_1 l0_2).bind fun bt172 => ((spec_l34Copy.f l0_5).bind fun t179 => (some (bt172.1, bt172.2.1, bt172.2.2, a0_3, a0_4, t179)))
theorem spec_l38Copy.calls (A0_0 : Option Addr) (c0_0 : Nat) (l0_0 : List (S112)) (a0_1 : Int) (A0_2 : Option Addr) (c0_2 : Nat) (l0_2 : List Int) (a0_3 : Int) (a0_4 : Int) (A0_5 : Option Addr) (c0_5 : Nat) (l0_5 : List (S104)) (r1 : List (S112)) (r2 : Int) (r3 : List Int) (r4 : Int) (r5 : Int) (r6 : List (S104)) (w : World) (hr0_0 : Kd.C k112 w A0_0 l0_0.length l0_0) (hc0_0 : l0_0.length ≤ c0_0) (hr0_2 : Kd.C (Kd.int .i64) w A0_2 l0_2.length l0_2) (hc0_2 : l0_2.length ≤ c0_2) (hr0_5 : Kd.C k104 w A0_5 l0_5.length l0_5) (hc0_5 : l0_5.length ≤ c0_5) (h : spec_l38Copy.f l0_0 a0_1 l0_2 a0_3 a0_4 l0_5 = some (r1, r2, r3, r4, r5, r6)) :
  Calls Tryz.prog 45 #[.agg #[.slice A0_0 l0_0.length c0_0, .int .i64 a0_1, .slice A0_2 l0_2.length c0_2, .int .i64 a0_3, .int .i64 a0_4, .slice A0_5 l0_5.length c0_5]] w fun e w' => ∃ v0_ v2_ v5_ : Value, e = .returned (.agg #[v0_, .int .i64 r2, v2_, .int .i64 r4, .int .i64 r5, v5_]) ∧ Kd.R k112 112 w' w.heap.size (fun _ => True) v0_ r1 ∧ Kd.R (Kd.int .i64) 3 w' w.heap.size (fun _ => True) v2_ r3 ∧ Kd.R k104 104 w' w.heap.size (fun _ => True) v5_ r6 ∧ Below w.heap.size w w' := by
 replace hr0_0 := RdE.mk hr0_0
 replace hc0_0 := LeI.mk hc0_0
 replace hr0_2 := RdE.mk hr0_2
 replace hc0_2 := LeI.mk hc0_2
 replace hr0_5 := RdE.mk hr0_5
 replace hc0_5 := LeI.mk hc0_5
 unfold spec_l38Copy.f at h
 have hu37 := Tryz.underlying37
 (repeat' first | ((with_reducible replace h := ite_some h); rcases h with ⟨hc, h⟩ | ⟨hc, h⟩ <;> first | exact (none_some h).elim | exact absurd hc (by decide) | subst hc | (replace hc := hF_ hc; subst hc) | (have hd := hI_ hc; have he := hJ_ hc; clear hc) | (have hd := hK_ hc; have he := hL_ hc) | (have hd := decide_eq_false hc) | (have hd := decide_eq_true hc) | skip))
 all_goals go_enter Tryz.func45, Tryz.ntmps45
 all_goals go_wp2_with ((first
  | ((with_reducible refine gate_dst (N := 1) rfl ?_); refine box_event rfl (N := 1) rfl (cs := #[.slice A0_0 l0_0.length c0_0, .int .i64 a0_1, .slice A0_2 l0_2.length c0_2, .int .i64 a0_3, .int .i64 a0_4, .slice A0_5 l0_5.length c0_5]) (t := 37) (by first | (go_simp; done) | (go_simp; rfl)) ?_; intro g hg w1 hk hb; have j1 := Born.mk hg; have j2 := Bel.mk hb; have j3 := Blk.mk hk; clear hg hb hk)
  | ((with_reducible refine gate_dst (N := 2) rfl ?_); refine box_event rfl (N := 2) rfl (cs := #[.slice none 0 0, .int .i64 0, .slice none 0 0, .int .i64 0, .int .i64 0, .slice none 0 0]) (t := 37) (by first | (go_simp; done) | (go_simp; rfl)) ?_; intro g hg w1 hk hb; have j1 := Born.mk hg; have j2 := Bel.mk hb; have j3 := Blk.mk hk; clear hg hb hk)
  | ((with_reducible refine region_at ?_); intro w3 jw; refine region_st 2 (by rfl) ?_; intro g hg w4 jv; subst hg; go_region_held3 (fun w' => SinB g w4 w') (first | exact ⟨FromB.out⟩ | skip) (first | (go_at_call 95; replace h := Option.bind_eq_some_iff.mp h; obtain ⟨⟨t1, t2, t3⟩, A, h⟩ := h; (try dsimp only at h); refine (spec_l36Copy.calls _ _ _ _ _ _ _ _ _ _ _ Rd.out LeI.out Rd.out LeI.out A).mono ?_; rintro e w2 ⟨v0, v1, rfl, ho0, ho1, hb⟩; obtain ⟨B0, b0, rfl⟩ := Kd.R_slice ho0; have j0 := RowE.mk ho0; have q0 := LeI.mk (rowLe j0); obtain ⟨B1, b1, rfl⟩ := Kd.R_slice ho1; have j1 := RowE.mk ho1; have q1 := LeI.mk (rowLe j1); have jb := Bel.mk hb; clear A ho0 ho1 hb; (repeat' first | ((with_reducible replace h := ite_some h); rcases h with ⟨hc, h⟩ | ⟨hc, h⟩ <;> first | exact (none_some h).elim | exact absurd hc (by decide) | subst hc | (replace hc := hF_ hc; subst hc) | (have hd := hI_ hc; have he := hJ_ hc; clear hc) | (have hd := hK_ hc; have he := hL_ hc) | (have hd := decide_eq_false hc) | (have hd := decide_eq_true hc) | skip))) | (go_at_call 96; replace h := Option.bind_eq_some_iff.mp h; obtain ⟨t, A, h⟩ := h; (try dsimp only at h); refine (spec_l34Copy.calls _ _ _ _ _ Rd.out LeI.out A).mono ?_; rintro e w2 ⟨v0, rfl, ho0, hb⟩; obtain ⟨B0, b0, rfl⟩ := Kd.R_slice ho0; have j0 := RowE.mk ho0; have q0 := LeI.mk (rowLe j0); have jb := Bel.mk hb; clear A ho0 hb)); (repeat' first | ((with_reducible replace h := ite_some h); rcases h with ⟨hc, h⟩ | ⟨hc, h⟩ <;> first | exact (none_some h).elim | exact absurd hc (by decide) | subst hc | (replace hc := hF_ hc; subst hc) | (have hd := hI_ hc; have he := hJ_ hc; clear hc) | (have hd := hK_ hc; have he := hL_ hc) | (have hd := decide_eq_false hc) | (have hd := decide_eq_true hc) | skip)); all_goals (try have hn : decide (0 < t.length) = true := decide_eq_true (by omega)); all_goals (try have hn : decide (0 < t.length) = false := decide_eq_false (by omega)))))
 all_goals simp only [Option.some.injEq, Prod.mk.injEq] at h
 all_goals obtain ⟨rfl, rfl, rfl, rfl, rfl, rfl⟩ := h
 all_goals refine bodyPost_ret (results_cell_row rfl _ _ _ _ _ (0, 0) _ rfl Blk.out Tryz.underlying37 rfl (by kernel_rfl)) rfl ?_
 all_goals exact ⟨_, _, _, rfl, (by first | exact rowFin | exact Kd.R_nil _ _ _ _ _), (by first | exact rowFin | exact Kd.R_nil _ _ _ _ _), (by first | exact rowFin | exact Kd.R_nil _ _ _ _ _), From.out⟩
def laws_toWork.f (k : Nat) (l0_0 : List (S140)) (a0_1 : Int) (l0_2 : List Int) : Option ((List (S112)) × Int × List Int) := (laws_toStepS.f k l0_0).bind fun t553 => ((laws_toIntS.f k l0_2).bind fun t556 => (some (t553, a0_1, t556)))
theorem laws_toWork.calls (k : Nat) (A0_0 : Option Addr) (c0_0 : Nat) (l0_0 : List (S140)) (a0_1 : Int) (A0_2 : Option Addr) (c0_2 : Nat) (l0_2 : List Int) (r1 : List (S112)) (r2 : Int) (r3 : List Int) (w : World) (hr0_0 : Kd.C k140 w A0_0 l0_0.length l0_0) (hc0_0 : l0_0.length ≤ c0_0) (hr0_2 : Kd.C (Kd.int .i64) w A0_2 l0_2.length l0_2) (hc0_2 : l0_2.length ≤ c0_2) (h : laws_toWork.f k l0_0 a0_1 l0_2 = some (r1, r2, r3)) :
  Calls Tryz.prog 54 #[.agg #[.slice A0_0 l0_0.length c0_0, .int .i64 a0_1, .slice A0_2 l0_2.length c0_2]] w fun e w' => ∃ v0_ v2_ : Value, e = .returned (.agg #[v0_, .int .i64 r2, v2_]) ∧ Kd.R k112 112 w' w.heap.size (fun _ => True) v0_ r1 ∧ Kd.R (Kd.int .i64) 3 w' w.heap.size (fun _ => True) v2_ r3 ∧ Below w.heap.size w w' := by
 replace hr0_0 := RdE.mk hr0_0
 replace hc0_0 := LeI.mk hc0_0
 replace hr0_2 := RdE.mk hr0_2
 replace hc0_2 := LeI.mk hc0_2
 unfold laws_toWork.f at h
 have hu25 := Tryz.underlying25
 have hu34 := Tryz.underlying34
 (repeat' first | ((with_reducible replace h := ite_some h); rcases h with ⟨hc, h⟩ | ⟨hc, h⟩ <;> first | exact (none_some h).elim | exact absurd hc (by decide) | subst hc | (replace hc := hF_ hc; subst hc) | (have hd := hI_ hc; have he := hJ_ hc; clear hc) | (have hd := hK_ hc; have he := hL_ hc) | (have hd := decide_eq_false hc) | (have hd := decide_eq_true hc) | skip))
 all_goals go_enter Tryz.func54, Tryz.ntmps54
 all_goals go_wp2_with ((first
  | ((with_reducible refine gate_dst (N := 1) rfl ?_); refine box_event rfl (N := 1) rfl (cs := #[.slice A0_0 l0_0.length c0_0, .int .i64 a0_1, .slice A0_2 l0_2.length c0_2]) (t := 25) (by first | (go_simp; done) | (go_simp; rfl)) ?_; intro g hg w1 hk hb; have j1 := Born.mk hg; have j2 := Bel.mk hb; have j3 := Blk.mk hk; clear hg hb hk)
  | ((with_reducible refine gate_dst (N := 2) rfl ?_); refine box_event rfl (N := 2) rfl (cs := #[.slice none 0 0, .int .i64 0, .slice none 0 0]) (t := 34) (by first | (go_simp; done) | (go_simp; rfl)) ?_; intro g hg w1 hk hb; have j1 := Born.mk hg; have j2 := Bel.mk hb; have j3 := Blk.mk hk; clear hg hb hk)
  | ((with_reducible refine gate_dst (N := 3) rfl ?_); refine box_event rfl (N := 3) rfl (cs := #[.slice none 0 0, .int .i64 0, .slice none 0 0]) (t := 34) (by first | (go_simp; done) | (go_simp; rfl)) ?_; intro g hg w1 hk hb; have j1 := Born.mk hg; have j2 := Bel.mk hb; have j3 := Blk.mk hk; clear hg hb hk)
  | (go_at_call 104; replace h := Option.bind_eq_some_iff.mp h; obtain ⟨t, A, h⟩ := h; (try dsimp only at h); refine (laws_toStepS.calls _ _ _ _ _ _ Rd.out LeI.out A).mono ?_; rintro e w2 ⟨v0, rfl, ho0, hb⟩; obtain ⟨B0, b0, rfl⟩ := Kd.R_slice ho0; have j0 := RowE.mk ho0; have q0 := LeI.mk (rowLe j0); have jb := Bel.mk hb; clear A ho0 hb)
  | (go_at_call 27; replace h := Option.bind_eq_some_iff.mp h; obtain ⟨t, A, h⟩ := h; (try dsimp only at h); refine (laws_toIntS.calls _ _ _ _ _ _ Rd.out LeI.out A).mono ?_; rintro e w2 ⟨v0, rfl, ho0, hb⟩; obtain ⟨B0, b0, rfl⟩ := Kd.R_slice ho0; have j0 := RowE.mk ho0; have q0 := LeI.mk (rowLe j0); have jb := Bel.mk hb; clear A ho0 hb)); (repeat' first | ((with_reducible replace h := ite_some h); rcases h with ⟨hc, h⟩ | ⟨hc, h⟩ <;> first | exact (none_some h).elim | exact absurd hc (by decide) | subst hc | (replace hc := hF_ hc; subst hc) | (have hd := hI_ hc; have he := hJ_ hc; clear hc) | (have hd := hK_ hc; have he := hL_ hc) | (have hd := decide_eq_false hc) | (have hd := decide_eq_true hc) | skip)); all_goals (try have hn : decide (0 < t.length) = true := decide_eq_true (by omega)); all_goals (try have hn : decide (0 < t.length) = false := decide_eq_false (by omega)))
 all_goals simp only [Option.some.injEq, Prod.mk.injEq] at h
 all_goals obtain ⟨rfl, rfl, rfl⟩ := h
 all_goals refine bodyPost_ret (results_cell_row rfl _ _ _ _ _ (0, 0) _ rfl Blk.out Tryz.underlying34 rfl (by kernel_rfl)) rfl ?_
 all_goals exact ⟨_, _, rfl, (by first | exact rowFin | exact Kd.R_nil _ _ _ _ _), (by first | exact rowFin | exact Kd.R_nil _ _ _ _ _), From.out⟩
def laws_toEntry.f (a0_0 : Int) (a0_1 : Int) (a0_2 : Int) (a0_3 : Int) : Option (Int × Int × Int × Int) := (laws_toPipe.f a0_0 a0_1).bind fun bt565 => (some (bt565.1, bt565.2, a0_2, a0_3))
theorem laws_toEntry.calls (a0_0 : Int) (a0_1 : Int) (a0_2 : Int) (a0_3 : Int) (r1 : Int) (r2 : Int) (r3 : Int) (r4 : Int) (w : World) (h : laws_toEntry.f a0_0 a0_1 a0_2 a0_3 = some (r1, r2, r3, r4)) :
  Calls Tryz.prog 105 #[.agg #[.int .i64 a0_0, .int .i64 a0_1, .int .i64 a0_2, .int .i64 a0_3]] w fun e w' => e = .returned (.agg #[.int .i64 r1, .int .i64 r2, .int .i64 r3, .int .i64 r4]) ∧ Below w.heap.size w w' := by
 unfold laws_toEntry.f at h
 have hu104 := Tryz.underlying104
 have hu127 := Tryz.underlying127
 (repeat' first | ((with_reducible replace h := ite_some h); rcases h with ⟨hc, h⟩ | ⟨hc, h⟩ <;> first | exact (none_some h).elim | exact absurd hc (by decide) | subst hc | (replace hc := hF_ hc; subst hc) | (have hd := hI_ hc; have he := hJ_ hc; clear hc) | (have hd := hK_ hc; have he := hL_ hc) | (have hd := decide_eq_false hc) | (have hd := decide_eq_true hc) | skip))
 all_goals go_enter Tryz.func105, Tryz.ntmps105
 all_goals go_wp2_with ((first
  | ((with_reducible refine gate_dst (N := 1) rfl ?_); refine box_event rfl (N := 1) rfl (cs := #[.int .i64 a0_0, .int .i64 a0_1, .int .i64 a0_2, .int .i64 a0_3]) (t := 127) (by first | (go_simp; done) | (go_simp; rfl)) ?_; intro g hg w1 hk hb; have j1 := Born.mk hg; have j2 := Bel.mk hb; have j3 := Blk.mk hk; clear hg hb hk)
  | ((with_reducible refine gate_dst (N := 2) rfl ?_); refine box_event rfl (N := 2) rfl (cs := #[.int .i64 0, .int .i64 0, .int .i64 0, .int .i64 0]) (t := 104) (by first | (go_simp; done) | (go_simp; rfl)) ?_; intro g hg w1 hk hb; have j1 := Born.mk hg; have j2 := Bel.mk hb; have j3 := Blk.mk hk; clear hg hb hk)
  | ((with_reducible refine gate_dst (N := 3) rfl ?_); refine box_event rfl (N := 3) rfl (cs := #[.int .i64 0, .int .i64 0, .int .i64 0, .int .i64 0]) (t := 104) (by first | (go_simp; done) | (go_simp; rfl)) ?_; intro g hg w1 hk hb; have j1 := Born.mk hg; have j2 := Bel.mk hb; have j3 := Blk.mk hk; clear hg hb hk)
  | (go_at_call 130; replace h := Option.bind_eq_some_iff.mp h; obtain ⟨⟨t1, t2⟩, A, h⟩ := h; (try dsimp only at h); refine (laws_toPipe.calls _ _ _ _ _ A).mono ?_; rintro e w2 ⟨rfl, hb⟩; have jb := Bel.mk hb; clear A hb)); (repeat' first | ((with_reducible replace h := ite_some h); rcases h with ⟨hc, h⟩ | ⟨hc, h⟩ <;> first | exact (none_some h).elim | exact absurd hc (by decide) | subst hc | (replace hc := hF_ hc; subst hc) | (have hd := hI_ hc; have he := hJ_ hc; clear hc) | (have hd := hK_ hc; have he := hL_ hc) | (have hd := decide_eq_false hc) | (have hd := decide_eq_true hc) | skip)))
 all_goals simp only [Option.some.injEq, Prod.mk.injEq] at h
 all_goals obtain ⟨rfl, rfl, rfl, rfl⟩ := h
 all_goals refine bodyPost_ret (results_cell_row rfl _ _ _ _ _ (0, 0) _ rfl Blk.out Tryz.underlying104 rfl (by kernel_rfl)) rfl ?_
 all_goals exact ⟨rfl, From.out⟩
def laws_toAct.f (a0_0 : Int) (a0_1 : Int) (a0_2 : Int) (a0_3 : Int) : Option (Int × Int × Int × Int) := some (a0_0, a0_1, a0_2, a0_3)
theorem laws_toAct.calls (a0_0 : Int) (a0_1 : Int) (a0_2 : Int) (a0_3 : Int) (r1 : Int) (r2 : Int) (r3 : Int) (r4 : Int) (w : World) (h : laws_toAct.f a0_0 a0_1 a0_2 a0_3 = some (r1, r2, r3, r4)) :
  Calls Tryz.prog 12 #[.agg #[.int .i64 a0_0, .int .i64 a0_1, .int .i64 a0_2, .int .i64 a0_3]] w fun e w' => e = .returned (.agg #[.int .i64 r1, .int .i64 r2, .int .i64 r3, .int .i64 r4]) ∧ Below w.heap.size w w' := by
 unfold laws_toAct.f at h
 have hu30 := Tryz.underlying30
 have hu41 := Tryz.underlying41
 (repeat' first | ((with_reducible replace h := ite_some h); rcases h with ⟨hc, h⟩ | ⟨hc, h⟩ <;> first | exact (none_some h).elim | exact absurd hc (by decide) | subst hc | (replace hc := hF_ hc; subst hc) | (have hd := hI_ hc; have he := hJ_ hc; clear hc) | (have hd := hK_ hc; have he := hL_ hc) | (have hd := decide_eq_false hc) | (have hd := decide_eq_true hc) | skip))
 all_goals go_enter Tryz.func12, Tryz.ntmps12
 all_goals go_wp2_with ((first
  | ((with_reducible refine gate_dst (N := 1) rfl ?_); refine box_event rfl (N := 1) rfl (cs := #[.int .i64 a0_0, .int .i64 a0_1, .int .i64 a0_2, .int .i64 a0_3]) (t := 30) (by first | (go_simp; done) | (go_simp; rfl)) ?_; intro g hg w1 hk hb; have j1 := Born.mk hg; have j2 := Bel.mk hb; have j3 := Blk.mk hk; clear hg hb hk)
  | ((with_reducible refine gate_dst (N := 2) rfl ?_); refine box_event rfl (N := 2) rfl (cs := #[.int .i64 0, .int .i64 0, .int .i64 0, .int .i64 0]) (t := 41) (by first | (go_simp; done) | (go_simp; rfl)) ?_; intro g hg w1 hk hb; have j1 := Born.mk hg; have j2 := Bel.mk hb; have j3 := Blk.mk hk; clear hg hb hk)
  | ((with_reducible refine gate_dst (N := 3) rfl ?_); refine box_event rfl (N := 3) rfl (cs := #[.int .i64 0, .int .i64 0, .int .i64 0, .int .i64 0]) (t := 41) (by first | (go_simp; done) | (go_simp; rfl)) ?_; intro g hg w1 hk hb; have j1 := Born.mk hg; have j2 := Bel.mk hb; have j3 := Blk.mk hk; clear hg hb hk)); (repeat' first | ((with_reducible replace h := ite_some h); rcases h with ⟨hc, h⟩ | ⟨hc, h⟩ <;> first | exact (none_some h).elim | exact absurd hc (by decide) | subst hc | (replace hc := hF_ hc; subst hc) | (have hd := hI_ hc; have he := hJ_ hc; clear hc) | (have hd := hK_ hc; have he := hL_ hc) | (have hd := decide_eq_false hc) | (have hd := decide_eq_true hc) | skip)))
 all_goals simp only [Option.some.injEq, Prod.mk.injEq] at h
 all_goals obtain ⟨rfl, rfl, rfl, rfl⟩ := h
 all_goals refine bodyPost_ret (results_cell_row rfl _ _ _ _ _ (0, 0) _ rfl Blk.out Tryz.underlying41 rfl (by kernel_rfl)) rfl ?_
 all_goals exact ⟨rfl, From.out⟩
def impl_copyShop.f (l0_0 : List (S112)) (a0_1 : Int) (l0_2 : List Int) (a0_3 : Int) (a0_4 : Int) (l0_5 : List (S104)) : Option ((List (S112)) × Int × List Int × Int × Int × (List (S104))) := (impl_copyWork.f l0_0 a0_1 l0_2).bind fun bt652 => ((impl_copyLog.f l0_5).bind fun t659 => (some (bt652.1, bt652.2.1, bt652.2.2, a0_3, a0_4, t659)))
theorem impl_copyShop.calls (A0_0 : Option Addr) (c0_0 : Nat) (l0_0 : List (S112)) (a0_1 : Int) (A0_2 : Option Addr) (c0_2 : Nat) (l0_2 : List Int) (a0_3 : Int) (a0_4 : Int) (A0_5 : Option Addr) (c0_5 : Nat) (l0_5 : List (S104)) (r1 : List (S112)) (r2 : Int) (r3 : List Int) (r4 : Int) (r5 : Int) (r6 : List (S104)) (w : World) (hr0_0 : Kd.C k112 w A0_0 l0_0.length l0_0) (hc0_0 : l0_0.length ≤ c0_0) (hr0_2 : Kd.C (Kd.int .i64) w A0_2 l0_2.length l0_2) (hc0_2 : l0_2.length ≤ c0_2) (hr0_5 : Kd.C k104 w A0_5 l0_5.length l0_5) (hc0_5 : l0_5.length ≤ c0_5) (h : impl_copyShop.f l0_0 a0_1 l0_2 a0_3 a0_4 l0_5 = some (r1, r2, r3, r4, r5, r6)) :
  Calls Tryz.prog 57 #[.agg #[.slice A0_0 l0_0.length c0_0, .int .i64 a0_1, .slice A0_2 l0_2.length c0_2, .int .i64 a0_3, .int .i64 a0_4, .slice A0_5 l0_5.length c0_5]] w fun e w' => ∃ v0_ v2_ v5_ : Value, e = .returned (.agg #[v0_, .int .i64 r2, v2_, .int .i64 r4, .int .i64 r5, v5_]) ∧ Kd.R k112 112 w' w.heap.size (fun _ => True) v0_ r1 ∧ Kd.R (Kd.int .i64) 3 w' w.heap.size (fun _ => True) v2_ r3 ∧ Kd.R k104 104 w' w.heap.size (fun _ => True) v5_ r6 ∧ Below w.heap.size w w' := by
 replace hr0_0 := RdE.mk hr0_0
 replace hc0_0 := LeI.mk hc0_0
 replace hr0_2 := RdE.mk hr0_2
 replace hc0_2 := LeI.mk hc0_2
 replace hr0_5 := RdE.mk hr0_5
 replace hc0_5 := LeI.mk hc0_5
 unfold impl_copyShop.f at h
 have hu37 := Tryz.underlying37
 (repeat' first | ((with_reducible replace h := ite_some h); rcases h with ⟨hc, h⟩ | ⟨hc, h⟩ <;> first | exact (none_some h).elim | exact absurd hc (by decide) | subst hc | (replace hc := hF_ hc; subst hc) | (have hd := hI_ hc; have he := hJ_ hc; clear hc) | (have hd := hK_ hc; have he := hL_ hc) | (have hd := decide_eq_false hc) | (have hd := decide_eq_true hc) | skip))
 all_goals go_enter Tryz.func57, Tryz.ntmps57
 all_goals go_wp2_with ((first
  | ((with_reducible refine gate_dst (N := 1) rfl ?_); refine box_event rfl (N := 1) rfl (cs := #[.slice A0_0 l0_0.length c0_0, .int .i64 a0_1, .slice A0_2 l0_2.length c0_2, .int .i64 a0_3, .int .i64 a0_4, .slice A0_5 l0_5.length c0_5]) (t := 37) (by first | (go_simp; done) | (go_simp; rfl)) ?_; intro g hg w1 hk hb; have j1 := Born.mk hg; have j2 := Bel.mk hb; have j3 := Blk.mk hk; clear hg hb hk)
  | ((with_reducible refine gate_dst (N := 2) rfl ?_); refine box_event rfl (N := 2) rfl (cs := #[.slice none 0 0, .int .i64 0, .slice none 0 0, .int .i64 0, .int .i64 0, .slice none 0 0]) (t := 37) (by first | (go_simp; done) | (go_simp; rfl)) ?_; intro g hg w1 hk hb; have j1 := Born.mk hg; have j2 := Bel.mk hb; have j3 := Blk.mk hk; clear hg hb hk)
  | ((with_reducible refine region_at ?_); intro w3 jw; refine region_st 2 (by rfl) ?_; intro g hg w4 jv; subst hg; go_region_held3 (fun w' => SinB g w4 w') (first | exact ⟨FromB.out⟩ | skip) (first | (go_at_call 106; replace h := Option.bind_eq_some_iff.mp h; obtain ⟨⟨t1, t2, t3⟩, A, h⟩ := h; (try dsimp only at h); refine (impl_copyWork.calls _ _ _ _ _ _ _ _ _ _ _ Rd.out LeI.out Rd.out LeI.out A).mono ?_; rintro e w2 ⟨v0, v1, rfl, ho0, ho1, hb⟩; obtain ⟨B0, b0, rfl⟩ := Kd.R_slice ho0; have j0 := RowE.mk ho0; have q0 := LeI.mk (rowLe j0); obtain ⟨B1, b1, rfl⟩ := Kd.R_slice ho1; have j1 := RowE.mk ho1; have q1 := LeI.mk (rowLe j1); have jb := Bel.mk hb; clear A ho0 ho1 hb; (repeat' first | ((with_reducible replace h := ite_some h); rcases h with ⟨hc, h⟩ | ⟨hc, h⟩ <;> first | exact (none_some h).elim | exact absurd hc (by decide) | subst hc | (replace hc := hF_ hc; subst hc) | (have hd := hI_ hc; have he := hJ_ hc; clear hc) | (have hd := hK_ hc; have he := hL_ hc) | (have hd := decide_eq_false hc) | (have hd := decide_eq_true hc) | skip))) | (go_at_call 107; replace h := Option.bind_eq_some_iff.mp h; obtain ⟨t, A, h⟩ := h; (try dsimp only at h); refine (impl_copyLog.calls _ _ _ _ _ Rd.out LeI.out A).mono ?_; rintro e w2 ⟨v0, rfl, ho0, hb⟩; obtain ⟨B0, b0, rfl⟩ := Kd.R_slice ho0; have j0 := RowE.mk ho0; have q0 := LeI.mk (rowLe j0); have jb := Bel.mk hb; clear A ho0 hb)); (repeat' first | ((with_reducible replace h := ite_some h); rcases h with ⟨hc, h⟩ | ⟨hc, h⟩ <;> first | exact (none_some h).elim | exact absurd hc (by decide) | subst hc | (replace hc := hF_ hc; subst hc) | (have hd := hI_ hc; have he := hJ_ hc; clear hc) | (have hd := hK_ hc; have he := hL_ hc) | (have hd := decide_eq_false hc) | (have hd := decide_eq_true hc) | skip)); all_goals (try have hn : decide (0 < t.length) = true := decide_eq_true (by omega)); all_goals (try have hn : decide (0 < t.length) = false := decide_eq_false (by omega)))))
 all_goals simp only [Option.some.injEq, Prod.mk.injEq] at h
 all_goals obtain ⟨rfl, rfl, rfl, rfl, rfl, rfl⟩ := h
 all_goals refine bodyPost_ret (results_cell_row rfl _ _ _ _ _ (0, 0) _ rfl Blk.out Tryz.underlying37 rfl (by kernel_rfl)) rfl ?_
 all_goals exact ⟨_, _, _, rfl, (by first | exact rowFin | exact Kd.R_nil _ _ _ _ _), (by first | exact rowFin | exact Kd.R_nil _ _ _ _ _), (by first | exact rowFin | exact Kd.R_nil _ _ _ _ _), From.out⟩
def laws_eqPipe.f (a0_0 : Int) (a0_1 : Int) (a1_0 : Int) (a1_1 : Int) : Option (Bool) := if a0_0 = a1_0 then (if a0_1 = a1_1 then (some true) else (some false)) else (some false)
theorem laws_eqPipe.calls (a0_0 : Int) (a0_1 : Int) (a1_0 : Int) (a1_1 : Int) (r : Bool) (w : World) (h : laws_eqPipe.f a0_0 a0_1 a1_0 a1_1 = some r) :
  Calls Tryz.prog 134 #[.agg #[.int .i64 a0_0, .int .i64 a0_1], .agg #[.int .i64 a1_0, .int .i64 a1_1]] w fun e w' => e = .returned (.bool r) ∧ Below w.heap.size w w' := by
 unfold laws_eqPipe.f at h
 have hu74 := Tryz.underlying74
 (repeat' first | ((with_reducible replace h := ite_some h); rcases h with ⟨hc, h⟩ | ⟨hc, h⟩ <;> first | exact (none_some h).elim | exact absurd hc (by decide) | subst hc | (replace hc := hF_ hc; subst hc) | (have hd := hI_ hc; have he := hJ_ hc; clear hc) | (have hd := hK_ hc; have he := hL_ hc) | (have hd := decide_eq_false hc) | (have hd := decide_eq_true hc) | skip))
 all_goals go_enter Tryz.func134, Tryz.ntmps134
 all_goals go_wp2_with ((first
  | ((with_reducible refine gate_dst (N := 2) rfl ?_); refine box_event rfl (N := 2) rfl (cs := #[.int .i64 a0_0, .int .i64 a0_1]) (t := 74) (by first | (go_simp; done) | (go_simp; rfl)) ?_; intro g hg w1 hk hb; have j1 := Born.mk hg; have j2 := Bel.mk hb; have j3 := Blk.mk hk; clear hg hb hk)
  | ((with_reducible refine gate_dst (N := 3) rfl ?_); refine box_event rfl (N := 3) rfl (cs := #[.int .i64 a1_0, .int .i64 a1_1]) (t := 74) (by first | (go_simp; done) | (go_simp; rfl)) ?_; intro g hg w1 hk hb; have j1 := Born.mk hg; have j2 := Bel.mk hb; have j3 := Blk.mk hk; clear hg hb hk)); (repeat' first | ((with_reducible replace h := ite_some h); rcases h with ⟨hc, h⟩ | ⟨hc, h⟩ <;> first | exact (none_some h).elim | exact absurd hc (by decide) | subst hc | (replace hc := hF_ hc; subst hc) | (have hd := hI_ hc; have he := hJ_ hc; clear hc) | (have hd := hK_ hc; have he := hL_ hc) | (have hd := decide_eq_false hc) | (have hd := decide_eq_true hc) | skip)))
 all_goals obtain rfl := Option.some.inj h
 all_goals go_ret
 all_goals exact ⟨rfl, From.out⟩
def laws_eqEntry.f (a0_0 : Int) (a0_1 : Int) (a0_2 : Int) (a0_3 : Int) (a1_0 : Int) (a1_1 : Int) (a1_2 : Int) (a1_3 : Int) : Option (Bool) := (laws_eqPipe.f a0_0 a0_1 a1_0 a1_1).bind fun t1030 => (if t1030 = true then (if a0_2 = a1_2 then (if a0_3 = a1_3 then (some true) else (some false)) else (some false)) else (some false))
theorem laws_eqEntry.calls (a0_0 : Int) (a0_1 : Int) (a0_2 : Int) (a0_3 : Int) (a1_0 : Int) (a1_1 : Int) (a1_2 : Int) (a1_3 : Int) (r : Bool) (w : World) (h : laws_eqEntry.f a0_0 a0_1 a0_2 a0_3 a1_0 a1_1 a1_2 a1_3 = some r) :
  Calls Tryz.prog 112 #[.agg #[.int .i64 a0_0, .int .i64 a0_1, .int .i64 a0_2, .int .i64 a0_3], .agg #[.int .i64 a1_0, .int .i64 a1_1, .int .i64 a1_2, .int .i64 a1_3]] w fun e w' => e = .returned (.bool r) ∧ Below w.heap.size w w' := by
 unfold laws_eqEntry.f at h
 have hu104 := Tryz.underlying104
 (repeat' first | ((with_reducible replace h := ite_some h); rcases h with ⟨hc, h⟩ | ⟨hc, h⟩ <;> first | exact (none_some h).elim | exact absurd hc (by decide) | subst hc | (replace hc := hF_ hc; subst hc) | (have hd := hI_ hc; have he := hJ_ hc; clear hc) | (have hd := hK_ hc; have he := hL_ hc) | (have hd := decide_eq_false hc) | (have hd := decide_eq_true hc) | skip))
 all_goals go_enter Tryz.func112, Tryz.ntmps112
 all_goals go_wp2_with ((first
  | ((with_reducible refine gate_dst (N := 2) rfl ?_); refine box_event rfl (N := 2) rfl (cs := #[.int .i64 a0_0, .int .i64 a0_1, .int .i64 a0_2, .int .i64 a0_3]) (t := 104) (by first | (go_simp; done) | (go_simp; rfl)) ?_; intro g hg w1 hk hb; have j1 := Born.mk hg; have j2 := Bel.mk hb; have j3 := Blk.mk hk; clear hg hb hk)
  | ((with_reducible refine gate_dst (N := 3) rfl ?_); refine box_event rfl (N := 3) rfl (cs := #[.int .i64 a1_0, .int .i64 a1_1, .int .i64 a1_2, .int .i64 a1_3]) (t := 104) (by first | (go_simp; done) | (go_simp; rfl)) ?_; intro g hg w1 hk hb; have j1 := Born.mk hg; have j2 := Bel.mk hb; have j3 := Blk.mk hk; clear hg hb hk)
  | (go_at_call 134; replace h := Option.bind_eq_some_iff.mp h; obtain ⟨t, A, h⟩ := h; (try dsimp only at h); refine (laws_eqPipe.calls _ _ _ _ _ _ A).mono ?_; rintro e w2 ⟨rfl, hb⟩; have jb := Bel.mk hb; clear A hb)); (repeat' first | ((with_reducible replace h := ite_some h); rcases h with ⟨hc, h⟩ | ⟨hc, h⟩ <;> first | exact (none_some h).elim | exact absurd hc (by decide) | subst hc | (replace hc := hF_ hc; subst hc) | (have hd := hI_ hc; have he := hJ_ hc; clear hc) | (have hd := hK_ hc; have he := hL_ hc) | (have hd := decide_eq_false hc) | (have hd := decide_eq_true hc) | skip)))
 all_goals obtain rfl := Option.some.inj h
 all_goals go_ret
 all_goals exact ⟨rfl, From.out⟩
def laws_eqStep.f (a0_0 : Int) (a0_1 : Int) (a0_2 : Int) (a0_3 : Int) (a1_0 : Int) (a1_1 : Int) (a1_2 : Int) (a1_3 : Int) : Option (Bool) := if a0_0 = a1_0 then (if a0_1 = a1_1 then (if a0_2 = a1_2 then (if a0_3 = a1_3 then (some true) else (some false)) else (some false)) else (some false)) else (some false)
theorem laws_eqStep.calls (a0_0 : Int) (a0_1 : Int) (a0_2 : Int) (a0_3 : Int) (a1_0 : Int) (a1_1 : Int) (a1_2 : Int) (a1_3 : Int) (r : Bool) (w : World) (h : laws_eqStep.f a0_0 a0_1 a0_2 a0_3 a1_0 a1_1 a1_2 a1_3 = some r) :
  Calls Tryz.prog 133 #[.agg #[.int .i64 a0_0, .int .i64 a0_1, .int .i64 a0_2, .int .i64 a0_3], .agg #[.int .i64 a1_0, .int .i64 a1_1, .int .i64 a1_2, .int .i64 a1_3]] w fun e w' => e = .returned (.bool r) ∧ Below w.heap.size w w' := by
 unfold laws_eqStep.f at h
 have hu112 := Tryz.underlying112
 (repeat' first | ((with_reducible replace h := ite_some h); rcases h with ⟨hc, h⟩ | ⟨hc, h⟩ <;> first | exact (none_some h).elim | exact absurd hc (by decide) | subst hc | (replace hc := hF_ hc; subst hc) | (have hd := hI_ hc; have he := hJ_ hc; clear hc) | (have hd := hK_ hc; have he := hL_ hc) | (have hd := decide_eq_false hc) | (have hd := decide_eq_true hc) | skip))
 all_goals go_enter Tryz.func133, Tryz.ntmps133
 all_goals go_wp2_with ((first
  | ((with_reducible refine gate_dst (N := 2) rfl ?_); refine box_event rfl (N := 2) rfl (cs := #[.int .i64 a0_0, .int .i64 a0_1, .int .i64 a0_2, .int .i64 a0_3]) (t := 112) (by first | (go_simp; done) | (go_simp; rfl)) ?_; intro g hg w1 hk hb; have j1 := Born.mk hg; have j2 := Bel.mk hb; have j3 := Blk.mk hk; clear hg hb hk)
  | ((with_reducible refine gate_dst (N := 3) rfl ?_); refine box_event rfl (N := 3) rfl (cs := #[.int .i64 a1_0, .int .i64 a1_1, .int .i64 a1_2, .int .i64 a1_3]) (t := 112) (by first | (go_simp; done) | (go_simp; rfl)) ?_; intro g hg w1 hk hb; have j1 := Born.mk hg; have j2 := Bel.mk hb; have j3 := Blk.mk hk; clear hg hb hk)); (repeat' first | ((with_reducible replace h := ite_some h); rcases h with ⟨hc, h⟩ | ⟨hc, h⟩ <;> first | exact (none_some h).elim | exact absurd hc (by decide) | subst hc | (replace hc := hF_ hc; subst hc) | (have hd := hI_ hc; have he := hJ_ hc; clear hc) | (have hd := hK_ hc; have he := hL_ hc) | (have hd := decide_eq_false hc) | (have hd := decide_eq_true hc) | skip)))
 all_goals obtain rfl := Option.some.inj h
 all_goals go_ret
 all_goals exact ⟨rfl, From.out⟩
def laws_heldWork.f (k : Nat) (l0_0 : List (S112)) (a0_1 : Int) (l0_2 : List Int) (a1 : Int) : Option (Int) := (laws_heldStepS.f k l0_0 a1).bind fun t1064 => (if t1064 < 0 then (some (-1)) else ((laws_heldIntS.f k l0_2 t1064).bind fun t1065 => (if t1065 < 0 then (some (-1)) else (some t1065))))
theorem laws_heldWork.calls (k : Nat) (A0_0 : Option Addr) (c0_0 : Nat) (l0_0 : List (S112)) (a0_1 : Int) (A0_2 : Option Addr) (c0_2 : Nat) (l0_2 : List Int) (a1 : Int) (r : Int) (w : World) (hr0_0 : Kd.C k112 w A0_0 l0_0.length l0_0) (hc0_0 : l0_0.length ≤ c0_0) (hr0_2 : Kd.C (Kd.int .i64) w A0_2 l0_2.length l0_2) (hc0_2 : l0_2.length ≤ c0_2) (h : laws_heldWork.f k l0_0 a0_1 l0_2 a1 = some r) :
  Calls Tryz.prog 67 #[.agg #[.slice A0_0 l0_0.length c0_0, .int .i64 a0_1, .slice A0_2 l0_2.length c0_2], .int .i64 a1] w fun e w' => e = .returned (.int .i64 r) ∧ Below w.heap.size w w' := by
 replace hr0_0 := RdE.mk hr0_0
 replace hc0_0 := LeI.mk hc0_0
 replace hr0_2 := RdE.mk hr0_2
 replace hc0_2 := LeI.mk hc0_2
 unfold laws_heldWork.f at h
 have hu34 := Tryz.underlying34
 (repeat' first | ((with_reducible replace h := ite_some h); rcases h with ⟨hc, h⟩ | ⟨hc, h⟩ <;> first | exact (none_some h).elim | exact absurd hc (by decide) | subst hc | (replace hc := hF_ hc; subst hc) | (have hd := hI_ hc; have he := hJ_ hc; clear hc) | (have hd := hK_ hc; have he := hL_ hc) | (have hd := decide_eq_false hc) | (have hd := decide_eq_true hc) | skip))
 all_goals go_enter Tryz.func67, Tryz.ntmps67
 all_goals go_wp2_with ((first
  | ((with_reducible refine gate_dst (N := 2) rfl ?_); refine box_event rfl (N := 2) rfl (cs := #[.slice A0_0 l0_0.length c0_0, .int .i64 a0_1, .slice A0_2 l0_2.length c0_2]) (t := 34) (by first | (go_simp; done) | (go_simp; rfl)) ?_; intro g hg w1 hk hb; have j1 := Born.mk hg; have j2 := Bel.mk hb; have j3 := Blk.mk hk; clear hg hb hk)
  | (go_at_call 114; replace h := Option.bind_eq_some_iff.mp h; obtain ⟨t, A, h⟩ := h; (try dsimp only at h); refine (laws_heldStepS.calls _ _ _ _ _ _ _ Rd.out LeI.out A).mono ?_; rintro e w2 ⟨rfl, n, rfl⟩; clear A)
  | (go_at_call 25; replace h := Option.bind_eq_some_iff.mp h; obtain ⟨t, A, h⟩ := h; (try dsimp only at h); refine (laws_heldIntS.calls _ _ _ _ _ _ _ Rd.out LeI.out A).mono ?_; rintro e w2 ⟨rfl, n, rfl⟩; clear A)); (repeat' first | ((with_reducible replace h := ite_some h); rcases h with ⟨hc, h⟩ | ⟨hc, h⟩ <;> first | exact (none_some h).elim | exact absurd hc (by decide) | subst hc | (replace hc := hF_ hc; subst hc) | (have hd := hI_ hc; have he := hJ_ hc; clear hc) | (have hd := hK_ hc; have he := hL_ hc) | (have hd := decide_eq_false hc) | (have hd := decide_eq_true hc) | skip)))
 all_goals obtain rfl := Option.some.inj h
 all_goals go_ret
 all_goals exact ⟨rfl, From.out⟩
def laws_heldShop.f (k : Nat) (l0_0 : List (S112)) (a0_1 : Int) (l0_2 : List Int) (a0_3 : Int) (a0_4 : Int) (l0_5 : List (S104)) (a1 : Int) : Option (Int) := (laws_heldWork.f k l0_0 a0_1 l0_2 a1).bind fun t1071 => (if t1071 < 0 then (some (-1)) else ((laws_heldEntryS.f k l0_5 t1071).bind fun t1072 => (if t1072 < 0 then (some (-1)) else (some t1072))))
theorem laws_heldShop.calls (k : Nat) (A0_0 : Option Addr) (c0_0 : Nat) (l0_0 : List (S112)) (a0_1 : Int) (A0_2 : Option Addr) (c0_2 : Nat) (l0_2 : List Int) (a0_3 : Int) (a0_4 : Int) (A0_5 : Option Addr) (c0_5 : Nat) (l0_5 : List (S104)) (a1 : Int) (r : Int) (w : World) (hr0_0 : Kd.C k112 w A0_0 l0_0.length l0_0) (hc0_0 : l0_0.length ≤ c0_0) (hr0_2 : Kd.C (Kd.int .i64) w A0_2 l0_2.length l0_2) (hc0_2 : l0_2.length ≤ c0_2) (hr0_5 : Kd.C k104 w A0_5 l0_5.length l0_5) (hc0_5 : l0_5.length ≤ c0_5) (h : laws_heldShop.f k l0_0 a0_1 l0_2 a0_3 a0_4 l0_5 a1 = some r) :
  Calls Tryz.prog 16 #[.agg #[.slice A0_0 l0_0.length c0_0, .int .i64 a0_1, .slice A0_2 l0_2.length c0_2, .int .i64 a0_3, .int .i64 a0_4, .slice A0_5 l0_5.length c0_5], .int .i64 a1] w fun e w' => e = .returned (.int .i64 r) ∧ Below w.heap.size w w' := by
 replace hr0_0 := RdE.mk hr0_0
 replace hc0_0 := LeI.mk hc0_0
 replace hr0_2 := RdE.mk hr0_2
 replace hc0_2 := LeI.mk hc0_2
 replace hr0_5 := RdE.mk hr0_5
 replace hc0_5 := LeI.mk hc0_5
 unfold laws_heldShop.f at h
 have hu37 := Tryz.underlying37
 (repeat' first | ((with_reducible replace h := ite_some h); rcases h with ⟨hc, h⟩ | ⟨hc, h⟩ <;> first | exact (none_some h).elim | exact absurd hc (by decide) | subst hc | (replace hc := hF_ hc; subst hc) | (have hd := hI_ hc; have he := hJ_ hc; clear hc) | (have hd := hK_ hc; have he := hL_ hc) | (have hd := decide_eq_false hc) | (have hd := decide_eq_true hc) | skip))
 all_goals go_enter Tryz.func16, Tryz.ntmps16
 all_goals go_wp2_with ((first
  | ((with_reducible refine gate_dst (N := 2) rfl ?_); refine box_event rfl (N := 2) rfl (cs := #[.slice A0_0 l0_0.length c0_0, .int .i64 a0_1, .slice A0_2 l0_2.length c0_2, .int .i64 a0_3, .int .i64 a0_4, .slice A0_5 l0_5.length c0_5]) (t := 37) (by first | (go_simp; done) | (go_simp; rfl)) ?_; intro g hg w1 hk hb; have j1 := Born.mk hg; have j2 := Bel.mk hb; have j3 := Blk.mk hk; clear hg hb hk)
  | (go_at_call 67; replace h := Option.bind_eq_some_iff.mp h; obtain ⟨t, A, h⟩ := h; (try dsimp only at h); refine (laws_heldWork.calls _ _ _ _ _ _ _ _ _ _ _ Rd.out LeI.out Rd.out LeI.out A).mono ?_; rintro e w2 ⟨rfl, hb⟩; have jb := Bel.mk hb; clear A hb)
  | (go_at_call 68; replace h := Option.bind_eq_some_iff.mp h; obtain ⟨t, A, h⟩ := h; (try dsimp only at h); refine (laws_heldEntryS.calls _ _ _ _ _ _ _ Rd.out LeI.out A).mono ?_; rintro e w2 ⟨rfl, n, rfl⟩; clear A)); (repeat' first | ((with_reducible replace h := ite_some h); rcases h with ⟨hc, h⟩ | ⟨hc, h⟩ <;> first | exact (none_some h).elim | exact absurd hc (by decide) | subst hc | (replace hc := hF_ hc; subst hc) | (have hd := hI_ hc; have he := hJ_ hc; clear hc) | (have hd := hK_ hc; have he := hL_ hc) | (have hd := decide_eq_false hc) | (have hd := decide_eq_true hc) | skip)))
 all_goals obtain rfl := Option.some.inj h
 all_goals go_ret
 all_goals exact ⟨rfl, From.out⟩
end Go.Proofs.YtanhnhkcpbdfmaaGreat.P
namespace Go.Proofs.YtanhnhkcpbdfmaaGreat.P
set_option maxHeartbeats 8000000
set_option maxRecDepth 100000
open Go.RowKit Go.Proofs.YtanhnhkcpbdfmaaGreatW.PrintWords Go.Proofs.YtanhnhkcpbdfmaaGreatW.PrintLast Go.Proofs.YtanhnhkcpbdfmaaGreatW.PrintMore
attribute [local go_sem] max2_int min2_int max_two min_two max_three min_three max_four min_four
def laws_toEntryS.l0 : Nat → List (S127) → List (S104) → Int → Option ((List (S104)))
 | 0, _, _, _ => none
 | k + 1, x0, x3, x4 => if x4 < (x0.length : Int) then (if 0 ≤ x4 then ((laws_toEntry.f ((rd_T127 x0 x4).f0.f0) ((rd_T127 x0 x4).f0.f1) ((rd_T127 x0 x4).f1) ((rd_T127 x0 x4).f2)).bind fun bt571 => (if x4 < (x3.length : Int) then (laws_toEntryS.l0 k x0 (x3.set (x4 : Int).toNat (⟨(⟨bt571.1, bt571.2.1⟩ : S74), bt571.2.2.1, bt571.2.2.2⟩ : S104)) (wrap64 (x4 + 1))) else (none))) else (none)) else (some x3)
def laws_toEntryS.f (k : Nat) (l0 : List (S127)) : Option ((List (S104))) := if 0 ≤ (l0.length : Int) then (if ((l0.length : Int) : Int).toNat ≤ 8796093022208 then (laws_toEntryS.l0 k l0 (List.replicate ((l0.length : Int) : Int).toNat z104) 0) else (none)) else (none)
theorem laws_toEntryS.calls (k : Nat) (A0 : Option Addr) (c0 : Nat) (l0 : List (S127)) (r : List (S104)) (w : World) (hr0 : Kd.C k127 w A0 l0.length l0) (hc0 : l0.length ≤ c0) (h : laws_toEntryS.f k l0 = some r) :
  Calls Tryz.prog 55 #[.slice A0 l0.length c0] w fun e w' => ∃ v0_ : Value, e = .returned (v0_) ∧ Kd.R k104 104 w' w.heap.size (fun _ => True) v0_ r ∧ Below w.heap.size w w' := by
 have hu127 := Tryz.underlying127
 have hu104 := Tryz.underlying104
 have HR0 := A_ hr0
 have HC0 := A_ hc0
 clear hr0 hc0
 have HB := A_ (Below.refl w.heap.size w)
 have H : (if 0 ≤ (l0.length : Int) then (if ((l0.length : Int) : Int).toNat ≤ 8796093022208 then (laws_toEntryS.l0 k l0 (List.replicate ((l0.length : Int) : Int).toNat z104) 0) else (none)) else (none)) = some r := h
 clear h
 by_cases c2 : 0 ≤ (l0.length : Int)
 ·rw [if_pos c2] at H
  have c2b0 := eq_true c2
  have c2b1 : decide (0 ≤ (l0.length : Int)) = true := decide_eq_true c2
  clear c2
  by_cases c3 : ((l0.length : Int) : Int).toNat ≤ 8796093022208
  ·rw [if_pos c3] at H
   have c3b0 := eq_true c3
   have c3b1 : decide (((l0.length : Int) : Int).toNat ≤ 8796093022208) = true := decide_eq_true c3
   clear c3
   obtain ⟨y567, hy567⟩ : ∃ y_ : List (S104), y_ = (List.replicate ((l0.length : Int) : Int).toNat z104) := ⟨_, rfl⟩
   replace H : (laws_toEntryS.l0 k l0 y567 0) = some r := by first | (rw [hy567]; with_reducible exact H) | (have H2_ := (Option.bind_some _ _).symm.trans H; rw [hy567]; with_reducible exact H2_) | (have H2_ := (Option.bind_some _ _).symm.trans H; with_reducible exact H2_) | with_reducible exact H | (rw [hy567]; exact H) | exact H
   have Ny567 := A_ hy567
   clear hy567
   have H' := A_ H
   clear H
   go_enter Tryz.func55, Tryz.ntmps55
   go_wp2_with (first | ((with_reducible refine gate_dst (N := 7) rfl ?_); refine Kd.R_make k104 _ 104 rfl (N := 7) rfl 35 _ _ rfl (l0.length : Int) rfl rfl Tryz.underlying35 (.agg #[(.int .i64 0), (.int .i64 0), (.int .i64 0), (.int .i64 0)]) 32 info104 rfl (by decide) (by omega) z104 (ok := fun _ => True) (okp := fun _ => True) (k104_mkM _ _ _ z104 ) (fun _ hk => hk) trivial (of_decide_eq_true (by first | (with_reducible assumption) | assumption)) (Nat.le_trans (Nat.mul_le_mul_right _ (of_decide_eq_true (by first | (with_reducible assumption) | assumption) : (l0.length : Int).toNat ≤ 8796093022208)) (by omega)) (Below.refl _ _) (Nat.le_refl _) ?_; intro v568 w4 ho5 hb hg_ hnew_; clear hg_ hnew_; (first | rw [← Ny567.out] at ho5 | (simp only [Int.reduceToNat] at ho5; rw [← Ny567.out] at ho5)); have n0_ := A_ (Kd.R_lower ho5 (below_size (oB HB))); have n1_ := A_ (below_step (oB HB) hb); clear HB; have HO569 := n0_; have HB := n1_; clear n0_ n1_; clear hb ho5))
   go_loopg [4] k (fun kq v4 w' => ∃ (x3_1 : List (S104)) (x4_1 : Int), v4 = .int .i64 x4_1 ∧ Aside0 (laws_toEntryS.l0 kq l0 x3_1 x4_1 = some r) ∧ Aside0 (kq ≤ k) ∧ Aside0 (Kd.R k104 104 w' w.heap.size (fun _ => True) v568 x3_1) ∧ Aside0 (Below w.heap.size w w'))
   case atStart => exact ⟨(y567), (0), (by first | rfl | (simp; done) | (simp [*]; done)), H', ⟨Nat.le_refl _⟩, ⟨oR HO569⟩, ⟨oB HB⟩⟩
   case round =>
    clear H'
    try clear c2
    try clear c2b0
    try clear c2b1
    try clear p2
    try clear c3
    try clear c3b0
    try clear c3b1
    try clear c5
    obtain ⟨x3_1, x4_1, rfl, HA, HK1, HO_3, HB⟩ := hrel
    cases gk with
    | zero => exact absurd HA.out (by simp [laws_toEntryS.l0])
    | succ k1 =>
     have H := HA.out
     clear HA
     simp only [laws_toEntryS.l0] at H
     by_cases c6 : x4_1 < (l0.length : Int)
     ·rw [if_pos c6] at H
      have c6b0 : decide (x4_1 < (l0.length : Int)) = true := decide_eq_true c6
      clear c6
      by_cases c7 : 0 ≤ x4_1
      ·rw [if_pos c7] at H
       have c7b0 : decide (0 ≤ x4_1) = true := decide_eq_true c7
       clear c7
       replace H := Option.bind_eq_some_iff.mp H
       obtain ⟨⟨t571, t572, t573, t574⟩, A80, H⟩ := H
       (try dsimp only at H)
       have A8 := A_ A80
       clear A80
       by_cases c9 : x4_1 < (x3_1.length : Int)
       ·rw [if_pos c9] at H
        have c9b0 : decide (x4_1 < (x3_1.length : Int)) = true := decide_eq_true c9
        clear c9
        obtain ⟨y575, hy575⟩ : ∃ y_ : List (S104), y_ = (x3_1.set (x4_1 : Int).toNat (⟨(⟨t571, t572⟩ : S74), t573, t574⟩ : S104)) := ⟨_, rfl⟩
        replace H : (laws_toEntryS.l0 k1 l0 y575 (wrap64 (x4_1 + 1))) = some r := by first | (rw [hy575]; with_reducible exact H) | (have H2_ := (Option.bind_some _ _).symm.trans H; rw [hy575]; with_reducible exact H2_) | (have H2_ := (Option.bind_some _ _).symm.trans H; with_reducible exact H2_) | with_reducible exact H | (rw [hy575]; exact H) | exact H
        have Ny575 := A_ hy575
        clear hy575
        have H' := A_ H
        clear H
        have p570 : 0 ≤ (x4_1 : Int) := of_decide_eq_true (by first | (with_reducible assumption) | assumption)
        have q570 : x4_1 < (l0.length : Int) := of_decide_eq_true (by first | (with_reducible assumption) | assumption)
        obtain ⟨ad570, e570, hx570_0, hx570_1, hx570_2, hx570_3⟩ := at_T127 HR0.out x4_1 p570 q570
        cases e570
        replace hx570_0 := (HB.out.cell (World.block_lt_of_cell? w _ hx570_0)).trans hx570_0
        replace hx570_1 := (HB.out.cell (World.block_lt_of_cell? w _ hx570_1)).trans hx570_1
        replace hx570_2 := (HB.out.cell (World.block_lt_of_cell? w _ hx570_2)).trans hx570_2
        replace hx570_3 := (HB.out.cell (World.block_lt_of_cell? w _ hx570_3)).trans hx570_3
        replace p570 := eq_true p570
        replace q570 := eq_true q570
        go_wp2_with (first | ((with_reducible refine gate_callee (f := 105) rfl ?_); refine gL (some 20) Tryz.func105 #[.agg #[.int .i64 ((rd_T127 l0 x4_1).f0.f0), .int .i64 ((rd_T127 l0 x4_1).f0.f1), .int .i64 ((rd_T127 l0 x4_1).f1), .int .i64 ((rd_T127 l0 x4_1).f2)]] ?_; (with_reducible refine (laws_toEntry.calls ((rd_T127 l0 x4_1).f0.f0) ((rd_T127 l0 x4_1).f0.f1) ((rd_T127 l0 x4_1).f1) ((rd_T127 l0 x4_1).f2) t571 t572 t573 t574 _ A8.out).mono ?_); rintro e w11 ⟨rfl, hb⟩; refine ⟨_, rfl, ?_⟩; have n0_ := A_ (Kd.R_below (oR HO_3) hb); have n1_ := A_ (below_step (oB HB) hb); clear HO_3; clear HB; have HO_3 := n0_; have HB := n1_; clear n0_ n1_; (try clear hb); (try clear hb2); (try clear hk); (try clear hi); have p10 : 0 ≤ (x4_1 : Int) := of_decide_eq_true (by first | (with_reducible assumption) | assumption); have q10 : (x4_1 : Int) < ((x3_1.length : Int) : Int) := of_decide_eq_true (by first | (with_reducible assumption) | assumption); obtain ⟨go10, co10, eo10, gb10, gl10, cl10, HG10⟩ := Kd.R_form HO_3.out (by omega); (first | cases eo10 | (injection eo10 with ea_ en_ ec_; (first | subst ea_ | (injection ea_ with ea_; subst ea_)); subst ec_; clear en_)); have GB10 := A_ gb10; have GG10 := A_ HG10; clear gb10 gl10 HG10; obtain ⟨ce10, hcl10, hM10, hcc10, hfr10⟩ := Kd.R_elem HO_3.out z104 (x4_1 : Int) p10 q10; obtain rfl := k104_openM hM10; have hx10_0 : w11.cell? ⟨go10, (x4_1 : Int).toNat * 4, none⟩ = some (.int .i64 ((rd_T104 x3_1 x4_1).f0.f0)) := hcc10 0 _ rfl; have hx10_1 : w11.cell? ⟨go10, (x4_1 : Int).toNat * 4 + 1, none⟩ = some (.int .i64 ((rd_T104 x3_1 x4_1).f0.f1)) := hcc10 1 _ rfl; have hx10_2 : w11.cell? ⟨go10, (x4_1 : Int).toNat * 4 + 2, none⟩ = some (.int .i64 ((rd_T104 x3_1 x4_1).f1)) := hcc10 2 _ rfl; have hx10_3 : w11.cell? ⟨go10, (x4_1 : Int).toNat * 4 + 3, none⟩ = some (.int .i64 ((rd_T104 x3_1 x4_1).f2)) := hcc10 3 _ rfl; have hf10_0 : w11.frozen? ⟨go10, (x4_1 : Int).toNat * 4, none⟩ = false := hfr10 0; have hf10_1 : w11.frozen? ⟨go10, (x4_1 : Int).toNat * 4 + 1, none⟩ = false := hfr10 1; have hf10_2 : w11.frozen? ⟨go10, (x4_1 : Int).toNat * 4 + 2, none⟩ = false := hfr10 2; have hf10_3 : w11.frozen? ⟨go10, (x4_1 : Int).toNat * 4 + 3, none⟩ = false := hfr10 3; clear hcl10 hcc10 hfr10 hM10; replace p10 := eq_true p10; replace q10 := eq_true q10; have HX12 := A_ (show Kd.R k104 104 w11 w.heap.size (fun _ => True) (.slice (some ⟨go10, 0, none⟩) x3_1.length co10) x3_1 from (oR HO_3)); obtain ⟨ce12, hcl12, hM12, hcc12, hfr12⟩ := Kd.R_elem HX12.out z104 (x4_1 : Int) (of_decide_eq_true (by first | (with_reducible assumption) | assumption)) (by have h_ : (x4_1 : Int) < ((x3_1.length : Int) : Int) := of_decide_eq_true (by first | (with_reducible assumption) | assumption); first | exact h_ | (have e_ := (Kd.R_reads' HO_3.out).1; omega) | simpa using h_); obtain rfl := k104_openM hM12; have HP12 := Kd.R_seg HX12.out (x4_1 : Int) (of_decide_eq_true (by first | (with_reducible assumption) | assumption)) (by have h_ : (x4_1 : Int) < ((x3_1.length : Int) : Int) := of_decide_eq_true (by first | (with_reducible assumption) | assumption); first | exact h_ | (have e_ := (Kd.R_reads' HO_3.out).1; omega) | simpa using h_) (seg := [.int .i64 t571, .int .i64 t572, .int .i64 t573, .int .i64 t574]) (j := 0) hcl12 hcc12 (show 4 ≤ 4 from by decide) (x' := (⟨(⟨t571, t572⟩ : S74), t573, t574⟩ : S104)) (k104_mkM _ _ _ (⟨(⟨t571, t572⟩ : S74), t573, t574⟩ : S104) ) (fun _ hk => hk); have hx12_0 := hcc12 0 _ rfl; (try simp only [show (k104).sz = 4 from rfl, Nat.mul_one, Nat.add_zero] at hx12_0); have hf12_0 := hfr12 0; (try simp only [show (k104).sz = 4 from rfl, Nat.mul_one, Nat.add_zero] at hf12_0); have hx12_1 := hcc12 1 _ rfl; (try simp only [show (k104).sz = 4 from rfl, Nat.mul_one, Nat.add_zero] at hx12_1); have hf12_1 := hfr12 1; (try simp only [show (k104).sz = 4 from rfl, Nat.mul_one, Nat.add_zero] at hf12_1); have hx12_2 := hcc12 2 _ rfl; (try simp only [show (k104).sz = 4 from rfl, Nat.mul_one, Nat.add_zero] at hx12_2); have hf12_2 := hfr12 2; (try simp only [show (k104).sz = 4 from rfl, Nat.mul_one, Nat.add_zero] at hf12_2); have hx12_3 := hcc12 3 _ rfl; (try simp only [show (k104).sz = 4 from rfl, Nat.mul_one, Nat.add_zero] at hx12_3); have hf12_3 := hfr12 3; (try simp only [show (k104).sz = 4 from rfl, Nat.mul_one, Nat.add_zero] at hf12_3); clear hcl12 hcc12 hfr12 hM12) | ((with_reducible refine gate_store (t := 104) (p := 21) rfl ?_); refine store_event (t := 104) (p := 21) (v := ?vo_w13) (w1 := ((((w11.setCell ⟨go10, (x4_1 : Int).toNat * 4, none⟩ (.int .i64 t571)).setCell ⟨go10, (x4_1 : Int).toNat * 4 + 1, none⟩ (.int .i64 t572)).setCell ⟨go10, (x4_1 : Int).toNat * 4 + 2, none⟩ (.int .i64 t573)).setCell ⟨go10, (x4_1 : Int).toNat * 4 + 3, none⟩ (.int .i64 t574))) ?hg ?ho ?hn ?hr ?_; (case ho => rfl); (case hg => rfl); (case hn => rfl); (case hr => first | (go_simp; done) | (go_simp; rfl)); intro w13 hw; have hg : w11.grownBy w13 (some go10) := (by rw [hw]; exact HP12.2); have hp_ : Kd.R k104 104 w13 w.heap.size (fun _ => True) (.slice (some ⟨go10, 0, none⟩) x3_1.length co10) y575 := (by rw [hw, Ny575.out]; exact HP12.1); clear HP12; have n0_ := A_ (hp_); have n1_ := A_ ((by rw [hw]; exact below_set (below_set (below_set (below_set (HB.out) GB10.out) GB10.out) GB10.out) GB10.out : Below w.heap.size w w13)); clear HO_3; clear HB; have HO_3 := n0_; have HB := n1_; clear n0_ n1_; clear hg hw hp_))
        go_roundg k1
        case measure => have := HK1.out; omega
        case rel => exact ⟨(y575), (wrap64 (x4_1 + 1)), (by first | rfl | (simp; done) | (simp [*]; done)), H', ⟨by have := HK1.out; omega⟩, ⟨oR HO_3⟩, ⟨oB HB⟩⟩
       ·rw [if_neg c9] at H
        exact absurd H (by simp)
      ·rw [if_neg c7] at H
       exact absurd H (by simp)
     ·rw [if_neg c6] at H
      have c6b0 : decide (x4_1 < (l0.length : Int)) = false := decide_eq_false c6
      clear c6
      obtain rfl := Option.some.inj H
      go_wp2
      go_ret
      exact ⟨_, eR, oR HO_3, oB HB⟩
  ·rw [if_neg c3] at H
   exact absurd H (by simp)
 ·rw [if_neg c2] at H
  exact absurd H (by simp)
def laws_eqEntryS.l0 : Nat → List (S104) → List (S104) → Int → Option (Bool)
 | 0, _, _, _ => none
 | k + 1, x0, x1, x5 => if x5 < (x0.length : Int) then (if 0 ≤ x5 then (if x5 < (x1.length : Int) then ((laws_eqEntry.f ((rd_T104 x0 x5).f0.f0) ((rd_T104 x0 x5).f0.f1) ((rd_T104 x0 x5).f1) ((rd_T104 x0 x5).f2) ((rd_T104 x1 x5).f0.f0) ((rd_T104 x1 x5).f0.f1) ((rd_T104 x1 x5).f1) ((rd_T104 x1 x5).f2)).bind fun t1033 => (if t1033 = true then (laws_eqEntryS.l0 k x0 x1 (wrap64 (x5 + 1))) else (some false))) else (none)) else (none)) else (some true)
def laws_eqEntryS.f (k : Nat) (l0 : List (S104)) (l1 : List (S104)) : Option (Bool) := if (l0.length : Int) = (l1.length : Int) then (laws_eqEntryS.l0 k l0 l1 0) else (some false)
def laws_eqEntryS.T6 : Bool × List (List Nat × List Nat) := (true, [([], []), ([], []), ([0, 1], [0, 1]), ([2], [2]), ([], []), ([], []), ([4, 5], [4, 5]), ([6], [6]), ([3, 7], [3, 7]), ([8], [8])])
def laws_eqEntryS.B6 : List Nat := [0, 0, 3, 7, 0, 0, 48, 112, 255, 511]
theorem laws_eqEntryS.tab6 : rtab .any (opsOf Tryz.f64 6) = laws_eqEntryS.T6 := by kernel_rfl
theorem laws_eqEntryS.bits6 : waitsOk laws_eqEntryS.T6.2 laws_eqEntryS.B6 = true := by kernel_rfl
theorem laws_eqEntryS.calls (k : Nat) (A0 : Option Addr) (c0 : Nat) (l0 : List (S104)) (A1 : Option Addr) (c1 : Nat) (l1 : List (S104)) (r : Bool) (w : World) (hr0 : Kd.C k104 w A0 l0.length l0) (hc0 : l0.length ≤ c0) (hr1 : Kd.C k104 w A1 l1.length l1) (hc1 : l1.length ≤ c1) (h : laws_eqEntryS.f k l0 l1 = some r) :
  Calls Tryz.prog 64 #[.slice A0 l0.length c0, .slice A1 l1.length c1] w fun e w' => e = .returned (.bool r) ∧ Below w.heap.size w w' := by
 have hu104 := Tryz.underlying104
 have HR0 := A_ hr0
 have HC0 := A_ hc0
 clear hr0 hc0
 have HR1 := A_ hr1
 have HC1 := A_ hc1
 clear hr1 hc1
 have HB := A_ (Below.refl w.heap.size w)
 have H : (if (l0.length : Int) = (l1.length : Int) then (laws_eqEntryS.l0 k l0 l1 0) else (some false)) = some r := h
 clear h
 by_cases c3 : (l0.length : Int) = (l1.length : Int)
 ·rw [if_pos c3] at H
  have c3b0 : ((l0.length : Int) == (l1.length : Int)) = true := beq_iff_eq.mpr c3
  have c3b1 : ((l0.length : Int) != (l1.length : Int)) = false := bne_eq_false_iff_eq.mpr c3
  have c3b2 : (l0.length == l1.length) = true := by first | simpa using c3 | (simp at c3 ⊢; omega)
  clear c3
  have H' := A_ H
  clear H
  go_enter Tryz.func64, Tryz.ntmps64
  go_wp2
  go_loopg [5] k (fun kq v5 w' => ∃ (x5_1 : Int), v5 = .int .i64 x5_1 ∧ Aside0 (laws_eqEntryS.l0 kq l0 l1 x5_1 = some r) ∧ Aside0 (kq ≤ k) ∧ Aside0 (Below w.heap.size w w'))
  case atStart => exact ⟨(0), (by first | rfl | (simp; done) | (simp [*]; done)), H', ⟨Nat.le_refl _⟩, ⟨oB HB⟩⟩
  case round =>
   clear H'
   try clear c1
   try clear p2
   try clear c3
   try clear c3b0
   try clear c3b1
   try clear c3b2
   obtain ⟨x5_1, rfl, HA, HK1, HB⟩ := hrel
   cases gk with
   | zero => exact absurd HA.out (by simp [laws_eqEntryS.l0])
   | succ k1 =>
    have H := HA.out
    clear HA
    simp only [laws_eqEntryS.l0] at H
    by_cases c4 : x5_1 < (l0.length : Int)
    ·rw [if_pos c4] at H
     have c4b0 : decide (x5_1 < (l0.length : Int)) = true := decide_eq_true c4
     clear c4
     by_cases c5 : 0 ≤ x5_1
     ·rw [if_pos c5] at H
      have c5b0 : decide (0 ≤ x5_1) = true := decide_eq_true c5
      clear c5
      by_cases c6 : x5_1 < (l1.length : Int)
      ·rw [if_pos c6] at H
       have c6b0 : decide (x5_1 < (l1.length : Int)) = true := decide_eq_true c6
       clear c6
       replace H := Option.bind_eq_some_iff.mp H
       obtain ⟨t1033, A70, H⟩ := H
       (try dsimp only at H)
       have A7 := A_ A70
       clear A70
       by_cases c8 : t1033 = true
       ·subst c8
        rw [if_pos rfl] at H
        have H' := A_ H
        clear H
        try go_wp2
        have n0_ := A_ (below_drew1 HB.out)
        clear HB
        have HB := n0_
        clear n0_
        have p1031 : 0 ≤ (x5_1 : Int) := of_decide_eq_true (by first | (with_reducible assumption) | assumption)
        have q1031 : x5_1 < (l0.length : Int) := of_decide_eq_true (by first | (with_reducible assumption) | assumption)
        obtain ⟨ad1031, e1031, hx1031_0, hx1031_1, hx1031_2, hx1031_3⟩ := at_T104 HR0.out x5_1 p1031 q1031
        have hw1031_3 := hx1031_3
        have hw1031_2 := hx1031_2
        have hw1031_1 := hx1031_1
        have hw1031_0 := hx1031_0
        cases e1031
        replace hx1031_0 := (HB.out.cell (World.block_lt_of_cell? w _ hx1031_0)).trans hx1031_0
        replace hx1031_1 := (HB.out.cell (World.block_lt_of_cell? w _ hx1031_1)).trans hx1031_1
        replace hx1031_2 := (HB.out.cell (World.block_lt_of_cell? w _ hx1031_2)).trans hx1031_2
        replace hx1031_3 := (HB.out.cell (World.block_lt_of_cell? w _ hx1031_3)).trans hx1031_3
        replace p1031 := eq_true p1031
        replace q1031 := eq_true q1031
        have p1032 : 0 ≤ (x5_1 : Int) := of_decide_eq_true (by first | (with_reducible assumption) | assumption)
        have q1032 : x5_1 < (l1.length : Int) := of_decide_eq_true (by first | (with_reducible assumption) | assumption)
        obtain ⟨ad1032, e1032, hx1032_0, hx1032_1, hx1032_2, hx1032_3⟩ := at_T104 HR1.out x5_1 p1032 q1032
        have hw1032_3 := hx1032_3
        have hw1032_2 := hx1032_2
        have hw1032_1 := hx1032_1
        have hw1032_0 := hx1032_0
        cases e1032
        replace hx1032_0 := (HB.out.cell (World.block_lt_of_cell? w _ hx1032_0)).trans hx1032_0
        replace hx1032_1 := (HB.out.cell (World.block_lt_of_cell? w _ hx1032_1)).trans hx1032_1
        replace hx1032_2 := (HB.out.cell (World.block_lt_of_cell? w _ hx1032_2)).trans hx1032_2
        replace hx1032_3 := (HB.out.cell (World.block_lt_of_cell? w _ hx1032_3)).trans hx1032_3
        replace p1032 := eq_true p1032
        replace q1032 := eq_true q1032
        refine start_ (n := 10) (S := fun w' => w'.cell? (ad1031.add ((x5_1).toNat * 4)) = some (.int .i64 ((rd_T104 l0 x5_1).f0.f0)) ∧ w'.cell? ⟨(ad1031.add ((x5_1).toNat * 4)).block, (ad1031.add ((x5_1).toNat * 4)).off + 1, none⟩ = some (.int .i64 ((rd_T104 l0 x5_1).f0.f1)) ∧ w'.cell? ⟨(ad1031.add ((x5_1).toNat * 4)).block, (ad1031.add ((x5_1).toNat * 4)).off + 2, none⟩ = some (.int .i64 ((rd_T104 l0 x5_1).f1)) ∧ w'.cell? ⟨(ad1031.add ((x5_1).toNat * 4)).block, (ad1031.add ((x5_1).toNat * 4)).off + 3, none⟩ = some (.int .i64 ((rd_T104 l0 x5_1).f2)) ∧ w'.cell? (ad1032.add ((x5_1).toNat * 4)) = some (.int .i64 ((rd_T104 l1 x5_1).f0.f0)) ∧ w'.cell? ⟨(ad1032.add ((x5_1).toNat * 4)).block, (ad1032.add ((x5_1).toNat * 4)).off + 1, none⟩ = some (.int .i64 ((rd_T104 l1 x5_1).f0.f1)) ∧ w'.cell? ⟨(ad1032.add ((x5_1).toNat * 4)).block, (ad1032.add ((x5_1).toNat * 4)).off + 2, none⟩ = some (.int .i64 ((rd_T104 l1 x5_1).f1)) ∧ w'.cell? ⟨(ad1032.add ((x5_1).toNat * 4)).block, (ad1032.add ((x5_1).toNat * 4)).off + 3, none⟩ = some (.int .i64 ((rd_T104 l1 x5_1).f2))) (ds := []) #[false, false, false, false, false, false, false, false, false, false] (by kernel_rfl) rfl rfl ⟨((HB.out.cell (World.block_lt_of_cell? w _ hw1031_0)).trans hw1031_0), ((HB.out.cell (World.block_lt_of_cell? w _ hw1031_1)).trans hw1031_1), ((HB.out.cell (World.block_lt_of_cell? w _ hw1031_2)).trans hw1031_2), ((HB.out.cell (World.block_lt_of_cell? w _ hw1031_3)).trans hw1031_3), ((HB.out.cell (World.block_lt_of_cell? w _ hw1032_0)).trans hw1032_0), ((HB.out.cell (World.block_lt_of_cell? w _ hw1032_1)).trans hw1032_1), ((HB.out.cell (World.block_lt_of_cell? w _ hw1032_2)).trans hw1032_2), ((HB.out.cell (World.block_lt_of_cell? w _ hw1032_3)).trans hw1032_3)⟩ (fun hHeld => ?_); refine with_tabW laws_eqEntryS.tab6 laws_eqEntryS.bits6 (fun HT_ HW_ => ?_)
        generalize wr.drew = w9 at HB hx1031_0 hx1031_1 hx1031_2 hx1031_3 hx1032_0 hx1032_1 hx1032_2 hx1032_3 hHeld ⊢
        refine pA 0 (some 17) HT_.out ?_
        refine pA 1 (some 18) HT_.out ?_
        refine pA 2 (some 19) HT_.out ?_
        refine pA 4 (some 21) HT_.out ?_
        refine pA 5 (some 22) HT_.out ?_
        refine pA 6 (some 23) HT_.out ?_
        refine pT 3 (some 20) HT_.out HW_.out hHeld ?_
        refine pT 7 (some 24) HT_.out HW_.out hHeld ?_
        refine one_ (i := 8) (N := some 25) #[true, true, true, true, true, true, true, true, true, false] rfl rfl (one_of HT_.out (by kernel_rfl)) (by decide) (fun K hK => ?_)
        refine goes_ Tryz.func112 (by kernel_rfl) rfl #[.agg #[.int .i64 ((rd_T104 l0 x5_1).f0.f0), .int .i64 ((rd_T104 l0 x5_1).f0.f1), .int .i64 ((rd_T104 l0 x5_1).f1), .int .i64 ((rd_T104 l0 x5_1).f2)], .agg #[.int .i64 ((rd_T104 l1 x5_1).f0.f0), .int .i64 ((rd_T104 l1 x5_1).f0.f1), .int .i64 ((rd_T104 l1 x5_1).f1), .int .i64 ((rd_T104 l1 x5_1).f2)]] (by rfl) rfl rfl (by (try simp only [List.map_toArray, List.map_cons, List.map_nil]); first | done | rfl | (simp only [List.length_drop, List.length_take]; rfl)) ?_
        with_reducible refine (laws_eqEntry.calls ((rd_T104 l0 x5_1).f0.f0) ((rd_T104 l0 x5_1).f0.f1) ((rd_T104 l0 x5_1).f1) ((rd_T104 l0 x5_1).f2) ((rd_T104 l1 x5_1).f0.f0) ((rd_T104 l1 x5_1).f0.f1) ((rd_T104 l1 x5_1).f1) ((rd_T104 l1 x5_1).f2) true _ A7.out).mono ?_
        rintro e w10 ⟨rfl, hb⟩
        refine ⟨_, rfl, ?_⟩
        have n0_ := A_ (below_step (oB HB) hb)
        clear HB
        have HB := n0_
        clear n0_
        (try clear hb)
        (try clear hb2)
        (try clear hk)
        (try clear hi)
        refine hK.out _ _ ⟨((HB.out.cell (World.block_lt_of_cell? w _ hw1031_0)).trans hw1031_0), ((HB.out.cell (World.block_lt_of_cell? w _ hw1031_1)).trans hw1031_1), ((HB.out.cell (World.block_lt_of_cell? w _ hw1031_2)).trans hw1031_2), ((HB.out.cell (World.block_lt_of_cell? w _ hw1031_3)).trans hw1031_3), ((HB.out.cell (World.block_lt_of_cell? w _ hw1032_0)).trans hw1032_0), ((HB.out.cell (World.block_lt_of_cell? w _ hw1032_1)).trans hw1032_1), ((HB.out.cell (World.block_lt_of_cell? w _ hw1032_2)).trans hw1032_2), ((HB.out.cell (World.block_lt_of_cell? w _ hw1032_3)).trans hw1032_3)⟩ (fun hHeld => ?_)
        clear hK K
        refine norm_ (a' := ?_) ?_ ?_
        rotate_left
        ·show Act.put _ (some 25) _ = _
         simp only [Act.put, List.setIfInBounds_toArray, List.set_cons_zero, List.set_cons_succ, i64_w, i32_w]
         rfl
        refine pA 9 (some 26) HT_.out ?_
        refine done_ (done_of HT_.out (by kernel_rfl)) ?_
        try go_wp2
        go_roundg k1
        case measure => have := HK1.out; omega
        case rel => exact ⟨(wrap64 (x5_1 + 1)), (by first | rfl | (simp; done) | (simp [*]; done)), H', ⟨by have := HK1.out; omega⟩, ⟨oB HB⟩⟩
       ·replace c8 := Bool.eq_false_iff.mpr c8
        subst c8
        rw [if_neg (show ¬ (false = true) by decide)] at H
        obtain rfl := Option.some.inj H
        try go_wp2
        have n0_ := A_ (below_drew1 HB.out)
        clear HB
        have HB := n0_
        clear n0_
        have p1031 : 0 ≤ (x5_1 : Int) := of_decide_eq_true (by first | (with_reducible assumption) | assumption)
        have q1031 : x5_1 < (l0.length : Int) := of_decide_eq_true (by first | (with_reducible assumption) | assumption)
        obtain ⟨ad1031, e1031, hx1031_0, hx1031_1, hx1031_2, hx1031_3⟩ := at_T104 HR0.out x5_1 p1031 q1031
        have hw1031_3 := hx1031_3
        have hw1031_2 := hx1031_2
        have hw1031_1 := hx1031_1
        have hw1031_0 := hx1031_0
        cases e1031
        replace hx1031_0 := (HB.out.cell (World.block_lt_of_cell? w _ hx1031_0)).trans hx1031_0
        replace hx1031_1 := (HB.out.cell (World.block_lt_of_cell? w _ hx1031_1)).trans hx1031_1
        replace hx1031_2 := (HB.out.cell (World.block_lt_of_cell? w _ hx1031_2)).trans hx1031_2
        replace hx1031_3 := (HB.out.cell (World.block_lt_of_cell? w _ hx1031_3)).trans hx1031_3
        replace p1031 := eq_true p1031
        replace q1031 := eq_true q1031
        have p1032 : 0 ≤ (x5_1 : Int) := of_decide_eq_true (by first | (with_reducible assumption) | assumption)
        have q1032 : x5_1 < (l1.length : Int) := of_decide_eq_true (by first | (with_reducible assumption) | assumption)
        obtain ⟨ad1032, e1032, hx1032_0, hx1032_1, hx1032_2, hx1032_3⟩ := at_T104 HR1.out x5_1 p1032 q1032
        have hw1032_3 := hx1032_3
        have hw1032_2 := hx1032_2
        have hw1032_1 := hx1032_1
        have hw1032_0 := hx1032_0
        cases e1032
        replace hx1032_0 := (HB.out.cell (World.block_lt_of_cell? w _ hx1032_0)).trans hx1032_0
        replace hx1032_1 := (HB.out.cell (World.block_lt_of_cell? w _ hx1032_1)).trans hx1032_1
        replace hx1032_2 := (HB.out.cell (World.block_lt_of_cell? w _ hx1032_2)).trans hx1032_2
        replace hx1032_3 := (HB.out.cell (World.block_lt_of_cell? w _ hx1032_3)).trans hx1032_3
        replace p1032 := eq_true p1032
        replace q1032 := eq_true q1032
        refine start_ (n := 10) (S := fun w' => w'.cell? (ad1031.add ((x5_1).toNat * 4)) = some (.int .i64 ((rd_T104 l0 x5_1).f0.f0)) ∧ w'.cell? ⟨(ad1031.add ((x5_1).toNat * 4)).block, (ad1031.add ((x5_1).toNat * 4)).off + 1, none⟩ = some (.int .i64 ((rd_T104 l0 x5_1).f0.f1)) ∧ w'.cell? ⟨(ad1031.add ((x5_1).toNat * 4)).block, (ad1031.add ((x5_1).toNat * 4)).off + 2, none⟩ = some (.int .i64 ((rd_T104 l0 x5_1).f1)) ∧ w'.cell? ⟨(ad1031.add ((x5_1).toNat * 4)).block, (ad1031.add ((x5_1).toNat * 4)).off + 3, none⟩ = some (.int .i64 ((rd_T104 l0 x5_1).f2)) ∧ w'.cell? (ad1032.add ((x5_1).toNat * 4)) = some (.int .i64 ((rd_T104 l1 x5_1).f0.f0)) ∧ w'.cell? ⟨(ad1032.add ((x5_1).toNat * 4)).block, (ad1032.add ((x5_1).toNat * 4)).off + 1, none⟩ = some (.int .i64 ((rd_T104 l1 x5_1).f0.f1)) ∧ w'.cell? ⟨(ad1032.add ((x5_1).toNat * 4)).block, (ad1032.add ((x5_1).toNat * 4)).off + 2, none⟩ = some (.int .i64 ((rd_T104 l1 x5_1).f1)) ∧ w'.cell? ⟨(ad1032.add ((x5_1).toNat * 4)).block, (ad1032.add ((x5_1).toNat * 4)).off + 3, none⟩ = some (.int .i64 ((rd_T104 l1 x5_1).f2))) (ds := []) #[false, false, false, false, false, false, false, false, false, false] (by kernel_rfl) rfl rfl ⟨((HB.out.cell (World.block_lt_of_cell? w _ hw1031_0)).trans hw1031_0), ((HB.out.cell (World.block_lt_of_cell? w _ hw1031_1)).trans hw1031_1), ((HB.out.cell (World.block_lt_of_cell? w _ hw1031_2)).trans hw1031_2), ((HB.out.cell (World.block_lt_of_cell? w _ hw1031_3)).trans hw1031_3), ((HB.out.cell (World.block_lt_of_cell? w _ hw1032_0)).trans hw1032_0), ((HB.out.cell (World.block_lt_of_cell? w _ hw1032_1)).trans hw1032_1), ((HB.out.cell (World.block_lt_of_cell? w _ hw1032_2)).trans hw1032_2), ((HB.out.cell (World.block_lt_of_cell? w _ hw1032_3)).trans hw1032_3)⟩ (fun hHeld => ?_); refine with_tabW laws_eqEntryS.tab6 laws_eqEntryS.bits6 (fun HT_ HW_ => ?_)
        generalize wr.drew = w11 at HB hx1031_0 hx1031_1 hx1031_2 hx1031_3 hx1032_0 hx1032_1 hx1032_2 hx1032_3 hHeld ⊢
        refine pA 0 (some 17) HT_.out ?_
        refine pA 1 (some 18) HT_.out ?_
        refine pA 2 (some 19) HT_.out ?_
        refine pA 4 (some 21) HT_.out ?_
        refine pA 5 (some 22) HT_.out ?_
        refine pA 6 (some 23) HT_.out ?_
        refine pT 3 (some 20) HT_.out HW_.out hHeld ?_
        refine pT 7 (some 24) HT_.out HW_.out hHeld ?_
        refine one_ (i := 8) (N := some 25) #[true, true, true, true, true, true, true, true, true, false] rfl rfl (one_of HT_.out (by kernel_rfl)) (by decide) (fun K hK => ?_)
        refine goes_ Tryz.func112 (by kernel_rfl) rfl #[.agg #[.int .i64 ((rd_T104 l0 x5_1).f0.f0), .int .i64 ((rd_T104 l0 x5_1).f0.f1), .int .i64 ((rd_T104 l0 x5_1).f1), .int .i64 ((rd_T104 l0 x5_1).f2)], .agg #[.int .i64 ((rd_T104 l1 x5_1).f0.f0), .int .i64 ((rd_T104 l1 x5_1).f0.f1), .int .i64 ((rd_T104 l1 x5_1).f1), .int .i64 ((rd_T104 l1 x5_1).f2)]] (by rfl) rfl rfl (by (try simp only [List.map_toArray, List.map_cons, List.map_nil]); first | done | rfl | (simp only [List.length_drop, List.length_take]; rfl)) ?_
        with_reducible refine (laws_eqEntry.calls ((rd_T104 l0 x5_1).f0.f0) ((rd_T104 l0 x5_1).f0.f1) ((rd_T104 l0 x5_1).f1) ((rd_T104 l0 x5_1).f2) ((rd_T104 l1 x5_1).f0.f0) ((rd_T104 l1 x5_1).f0.f1) ((rd_T104 l1 x5_1).f1) ((rd_T104 l1 x5_1).f2) false _ A7.out).mono ?_
        rintro e w12 ⟨rfl, hb⟩
        refine ⟨_, rfl, ?_⟩
        have n0_ := A_ (below_step (oB HB) hb)
        clear HB
        have HB := n0_
        clear n0_
        (try clear hb)
        (try clear hb2)
        (try clear hk)
        (try clear hi)
        refine hK.out _ _ ⟨((HB.out.cell (World.block_lt_of_cell? w _ hw1031_0)).trans hw1031_0), ((HB.out.cell (World.block_lt_of_cell? w _ hw1031_1)).trans hw1031_1), ((HB.out.cell (World.block_lt_of_cell? w _ hw1031_2)).trans hw1031_2), ((HB.out.cell (World.block_lt_of_cell? w _ hw1031_3)).trans hw1031_3), ((HB.out.cell (World.block_lt_of_cell? w _ hw1032_0)).trans hw1032_0), ((HB.out.cell (World.block_lt_of_cell? w _ hw1032_1)).trans hw1032_1), ((HB.out.cell (World.block_lt_of_cell? w _ hw1032_2)).trans hw1032_2), ((HB.out.cell (World.block_lt_of_cell? w _ hw1032_3)).trans hw1032_3)⟩ (fun hHeld => ?_)
        clear hK K
        refine norm_ (a' := ?_) ?_ ?_
        rotate_left
        ·show Act.put _ (some 25) _ = _
         simp only [Act.put, List.setIfInBounds_toArray, List.set_cons_zero, List.set_cons_succ, i64_w, i32_w]
         rfl
        refine pA 9 (some 26) HT_.out ?_
        refine done_ (done_of HT_.out (by kernel_rfl)) ?_
        try go_wp2
        go_ret
        exact ⟨eR, oB HB⟩
      ·rw [if_neg c6] at H
       exact absurd H (by simp)
     ·rw [if_neg c5] at H
      exact absurd H (by simp)
    ·rw [if_neg c4] at H
     have c4b0 : decide (x5_1 < (l0.length : Int)) = false := decide_eq_false c4
     clear c4
     obtain rfl := Option.some.inj H
     go_wp2
     go_ret
     exact ⟨eR, oB HB⟩
 ·rw [if_neg c3] at H
  have c3b0 : ((l0.length : Int) == (l1.length : Int)) = false := beq_eq_false_iff_ne.mpr c3
  have c3b1 : ((l0.length : Int) != (l1.length : Int)) = true := bne_iff_ne.mpr c3
  have c3b2 : (l0.length == l1.length) = false := by first | simpa using c3 | (simp at c3 ⊢; omega)
  obtain rfl := Option.some.inj H
  go_enter Tryz.func64, Tryz.ntmps64
  go_wp2
  go_ret
  exact ⟨eR, oB HB⟩
def laws_eqStepS.l0 : Nat → List (S112) → List (S112) → Int → Option (Bool)
 | 0, _, _, _ => none
 | k + 1, x0, x1, x5 => if x5 < (x0.length : Int) then (if 0 ≤ x5 then (if x5 < (x1.length : Int) then ((laws_eqStep.f ((rd_T112 x0 x5).f0) ((rd_T112 x0 x5).f1) ((rd_T112 x0 x5).f2) ((rd_T112 x0 x5).f3) ((rd_T112 x1 x5).f0) ((rd_T112 x1 x5).f1) ((rd_T112 x1 x5).f2) ((rd_T112 x1 x5).f3)).bind fun t1021 => (if t1021 = true then (laws_eqStepS.l0 k x0 x1 (wrap64 (x5 + 1))) else (some false))) else (none)) else (none)) else (some true)
def laws_eqStepS.f (k : Nat) (l0 : List (S112)) (l1 : List (S112)) : Option (Bool) := if (l0.length : Int) = (l1.length : Int) then (laws_eqStepS.l0 k l0 l1 0) else (some false)
def laws_eqStepS.T6 : Bool × List (List Nat × List Nat) := (true, [([], []), ([], []), ([0, 1], [0, 1]), ([2], [2]), ([], []), ([], []), ([4, 5], [4, 5]), ([6], [6]), ([3, 7], [3, 7]), ([8], [8])])
def laws_eqStepS.B6 : List Nat := [0, 0, 3, 7, 0, 0, 48, 112, 255, 511]
theorem laws_eqStepS.tab6 : rtab .any (opsOf Tryz.f111 6) = laws_eqStepS.T6 := by kernel_rfl
theorem laws_eqStepS.bits6 : waitsOk laws_eqStepS.T6.2 laws_eqStepS.B6 = true := by kernel_rfl
theorem laws_eqStepS.calls (k : Nat) (A0 : Option Addr) (c0 : Nat) (l0 : List (S112)) (A1 : Option Addr) (c1 : Nat) (l1 : List (S112)) (r : Bool) (w : World) (hr0 : Kd.C k112 w A0 l0.length l0) (hc0 : l0.length ≤ c0) (hr1 : Kd.C k112 w A1 l1.length l1) (hc1 : l1.length ≤ c1) (h : laws_eqStepS.f k l0 l1 = some r) :
  Calls Tryz.prog 111 #[.slice A0 l0.length c0, .slice A1 l1.length c1] w fun e w' => e = .returned (.bool r) ∧ Below w.heap.size w w' := by
 have hu112 := Tryz.underlying112
 have HR0 := A_ hr0
 have HC0 := A_ hc0
 clear hr0 hc0
 have HR1 := A_ hr1
 have HC1 := A_ hc1
 clear hr1 hc1
 have HB := A_ (Below.refl w.heap.size w)
 have H : (if (l0.length : Int) = (l1.length : Int) then (laws_eqStepS.l0 k l0 l1 0) else (some false)) = some r := h
 clear h
 by_cases c3 : (l0.length : Int) = (l1.length : Int)
 ·rw [if_pos c3] at H
  have c3b0 : ((l0.length : Int) == (l1.length : Int)) = true := beq_iff_eq.mpr c3
  have c3b1 : ((l0.length : Int) != (l1.length : Int)) = false := bne_eq_false_iff_eq.mpr c3
  have c3b2 : (l0.length == l1.length) = true := by first | simpa using c3 | (simp at c3 ⊢; omega)
  clear c3
  have H' := A_ H
  clear H
  go_enter Tryz.func111, Tryz.ntmps111
  go_wp2
  go_loopg [5] k (fun kq v5 w' => ∃ (x5_1 : Int), v5 = .int .i64 x5_1 ∧ Aside0 (laws_eqStepS.l0 kq l0 l1 x5_1 = some r) ∧ Aside0 (kq ≤ k) ∧ Aside0 (Below w.heap.size w w'))
  case atStart => exact ⟨(0), (by first | rfl | (simp; done) | (simp [*]; done)), H', ⟨Nat.le_refl _⟩, ⟨oB HB⟩⟩
  case round =>
   clear H'
   try clear c1
   try clear p2
   try clear c3
   try clear c3b0
   try clear c3b1
   try clear c3b2
   obtain ⟨x5_1, rfl, HA, HK1, HB⟩ := hrel
   cases gk with
   | zero => exact absurd HA.out (by simp [laws_eqStepS.l0])
   | succ k1 =>
    have H := HA.out
    clear HA
    simp only [laws_eqStepS.l0] at H
    by_cases c4 : x5_1 < (l0.length : Int)
    ·rw [if_pos c4] at H
     have c4b0 : decide (x5_1 < (l0.length : Int)) = true := decide_eq_true c4
     clear c4
     by_cases c5 : 0 ≤ x5_1
     ·rw [if_pos c5] at H
      have c5b0 : decide (0 ≤ x5_1) = true := decide_eq_true c5
      clear c5
      by_cases c6 : x5_1 < (l1.length : Int)
      ·rw [if_pos c6] at H
       have c6b0 : decide (x5_1 < (l1.length : Int)) = true := decide_eq_true c6
       clear c6
       replace H := Option.bind_eq_some_iff.mp H
       obtain ⟨t1021, A70, H⟩ := H
       (try dsimp only at H)
       have A7 := A_ A70
       clear A70
       by_cases c8 : t1021 = true
       ·subst c8
        rw [if_pos rfl] at H
        have H' := A_ H
        clear H
        try go_wp2
        have n0_ := A_ (below_drew1 HB.out)
        clear HB
        have HB := n0_
        clear n0_
        have p1019 : 0 ≤ (x5_1 : Int) := of_decide_eq_true (by first | (with_reducible assumption) | assumption)
        have q1019 : x5_1 < (l0.length : Int) := of_decide_eq_true (by first | (with_reducible assumption) | assumption)
        obtain ⟨ad1019, e1019, hx1019_0, hx1019_1, hx1019_2, hx1019_3⟩ := at_T112 HR0.out x5_1 p1019 q1019
        have hw1019_3 := hx1019_3
        have hw1019_2 := hx1019_2
        have hw1019_1 := hx1019_1
        have hw1019_0 := hx1019_0
        cases e1019
        replace hx1019_0 := (HB.out.cell (World.block_lt_of_cell? w _ hx1019_0)).trans hx1019_0
        replace hx1019_1 := (HB.out.cell (World.block_lt_of_cell? w _ hx1019_1)).trans hx1019_1
        replace hx1019_2 := (HB.out.cell (World.block_lt_of_cell? w _ hx1019_2)).trans hx1019_2
        replace hx1019_3 := (HB.out.cell (World.block_lt_of_cell? w _ hx1019_3)).trans hx1019_3
        replace p1019 := eq_true p1019
        replace q1019 := eq_true q1019
        have p1020 : 0 ≤ (x5_1 : Int) := of_decide_eq_true (by first | (with_reducible assumption) | assumption)
        have q1020 : x5_1 < (l1.length : Int) := of_decide_eq_true (by first | (with_reducible assumption) | assumption)
        obtain ⟨ad1020, e1020, hx1020_0, hx1020_1, hx1020_2, hx1020_3⟩ := at_T112 HR1.out x5_1 p1020 q1020
        have hw1020_3 := hx1020_3
        have hw1020_2 := hx1020_2
        have hw1020_1 := hx1020_1
        have hw1020_0 := hx1020_0
        cases e1020
        replace hx1020_0 := (HB.out.cell (World.block_lt_of_cell? w _ hx1020_0)).trans hx1020_0
        replace hx1020_1 := (HB.out.cell (World.block_lt_of_cell? w _ hx1020_1)).trans hx1020_1
        replace hx1020_2 := (HB.out.cell (World.block_lt_of_cell? w _ hx1020_2)).trans hx1020_2
        replace hx1020_3 := (HB.out.cell (World.block_lt_of_cell? w _ hx1020_3)).trans hx1020_3
        replace p1020 := eq_true p1020
        replace q1020 := eq_true q1020
        refine start_ (n := 10) (S := fun w' => w'.cell? (ad1019.add ((x5_1).toNat * 4)) = some (.int .i64 ((rd_T112 l0 x5_1).f0)) ∧ w'.cell? ⟨(ad1019.add ((x5_1).toNat * 4)).block, (ad1019.add ((x5_1).toNat * 4)).off + 1, none⟩ = some (.int .i64 ((rd_T112 l0 x5_1).f1)) ∧ w'.cell? ⟨(ad1019.add ((x5_1).toNat * 4)).block, (ad1019.add ((x5_1).toNat * 4)).off + 2, none⟩ = some (.int .i64 ((rd_T112 l0 x5_1).f2)) ∧ w'.cell? ⟨(ad1019.add ((x5_1).toNat * 4)).block, (ad1019.add ((x5_1).toNat * 4)).off + 3, none⟩ = some (.int .i64 ((rd_T112 l0 x5_1).f3)) ∧ w'.cell? (ad1020.add ((x5_1).toNat * 4)) = some (.int .i64 ((rd_T112 l1 x5_1).f0)) ∧ w'.cell? ⟨(ad1020.add ((x5_1).toNat * 4)).block, (ad1020.add ((x5_1).toNat * 4)).off + 1, none⟩ = some (.int .i64 ((rd_T112 l1 x5_1).f1)) ∧ w'.cell? ⟨(ad1020.add ((x5_1).toNat * 4)).block, (ad1020.add ((x5_1).toNat * 4)).off + 2, none⟩ = some (.int .i64 ((rd_T112 l1 x5_1).f2)) ∧ w'.cell? ⟨(ad1020.add ((x5_1).toNat * 4)).block, (ad1020.add ((x5_1).toNat * 4)).off + 3, none⟩ = some (.int .i64 ((rd_T112 l1 x5_1).f3))) (ds := []) #[false, false, false, false, false, false, false, false, false, false] (by kernel_rfl) rfl rfl ⟨((HB.out.cell (World.block_lt_of_cell? w _ hw1019_0)).trans hw1019_0), ((HB.out.cell (World.block_lt_of_cell? w _ hw1019_1)).trans hw1019_1), ((HB.out.cell (World.block_lt_of_cell? w _ hw1019_2)).trans hw1019_2), ((HB.out.cell (World.block_lt_of_cell? w _ hw1019_3)).trans hw1019_3), ((HB.out.cell (World.block_lt_of_cell? w _ hw1020_0)).trans hw1020_0), ((HB.out.cell (World.block_lt_of_cell? w _ hw1020_1)).trans hw1020_1), ((HB.out.cell (World.block_lt_of_cell? w _ hw1020_2)).trans hw1020_2), ((HB.out.cell (World.block_lt_of_cell? w _ hw1020_3)).trans hw1020_3)⟩ (fun hHeld => ?_); refine with_tabW laws_eqStepS.tab6 laws_eqStepS.bits6 (fun HT_ HW_ => ?_)
        generalize wr.drew = w9 at HB hx1019_0 hx1019_1 hx1019_2 hx1019_3 hx1020_0 hx1020_1 hx1020_2 hx1020_3 hHeld ⊢
        refine pA 0 (some 17) HT_.out ?_
        refine pA 1 (some 18) HT_.out ?_
        refine pA 2 (some 19) HT_.out ?_
        refine pA 4 (some 21) HT_.out ?_
        refine pA 5 (some 22) HT_.out ?_
        refine pA 6 (some 23) HT_.out ?_
        refine pT 3 (some 20) HT_.out HW_.out hHeld ?_
        refine pT 7 (some 24) HT_.out HW_.out hHeld ?_
        refine one_ (i := 8) (N := some 25) #[true, true, true, true, true, true, true, true, true, false] rfl rfl (one_of HT_.out (by kernel_rfl)) (by decide) (fun K hK => ?_)
        refine goes_ Tryz.func133 (by kernel_rfl) rfl #[.agg #[.int .i64 ((rd_T112 l0 x5_1).f0), .int .i64 ((rd_T112 l0 x5_1).f1), .int .i64 ((rd_T112 l0 x5_1).f2), .int .i64 ((rd_T112 l0 x5_1).f3)], .agg #[.int .i64 ((rd_T112 l1 x5_1).f0), .int .i64 ((rd_T112 l1 x5_1).f1), .int .i64 ((rd_T112 l1 x5_1).f2), .int .i64 ((rd_T112 l1 x5_1).f3)]] (by rfl) rfl rfl (by (try simp only [List.map_toArray, List.map_cons, List.map_nil]); first | done | rfl | (simp only [List.length_drop, List.length_take]; rfl)) ?_
        with_reducible refine (laws_eqStep.calls ((rd_T112 l0 x5_1).f0) ((rd_T112 l0 x5_1).f1) ((rd_T112 l0 x5_1).f2) ((rd_T112 l0 x5_1).f3) ((rd_T112 l1 x5_1).f0) ((rd_T112 l1 x5_1).f1) ((rd_T112 l1 x5_1).f2) ((rd_T112 l1 x5_1).f3) true _ A7.out).mono ?_
        rintro e w10 ⟨rfl, hb⟩
        refine ⟨_, rfl, ?_⟩
        have n0_ := A_ (below_step (oB HB) hb)
        clear HB
        have HB := n0_
        clear n0_
        (try clear hb)
        (try clear hb2)
        (try clear hk)
        (try clear hi)
        refine hK.out _ _ ⟨((HB.out.cell (World.block_lt_of_cell? w _ hw1019_0)).trans hw1019_0), ((HB.out.cell (World.block_lt_of_cell? w _ hw1019_1)).trans hw1019_1), ((HB.out.cell (World.block_lt_of_cell? w _ hw1019_2)).trans hw1019_2), ((HB.out.cell (World.block_lt_of_cell? w _ hw1019_3)).trans hw1019_3), ((HB.out.cell (World.block_lt_of_cell? w _ hw1020_0)).trans hw1020_0), ((HB.out.cell (World.block_lt_of_cell? w _ hw1020_1)).trans hw1020_1), ((HB.out.cell (World.block_lt_of_cell? w _ hw1020_2)).trans hw1020_2), ((HB.out.cell (World.block_lt_of_cell? w _ hw1020_3)).trans hw1020_3)⟩ (fun hHeld => ?_)
        clear hK K
        refine norm_ (a' := ?_) ?_ ?_
        rotate_left
        ·show Act.put _ (some 25) _ = _
         simp only [Act.put, List.setIfInBounds_toArray, List.set_cons_zero, List.set_cons_succ, i64_w, i32_w]
         rfl
        refine pA 9 (some 26) HT_.out ?_
        refine done_ (done_of HT_.out (by kernel_rfl)) ?_
        try go_wp2
        go_roundg k1
        case measure => have := HK1.out; omega
        case rel => exact ⟨(wrap64 (x5_1 + 1)), (by first | rfl | (simp; done) | (simp [*]; done)), H', ⟨by have := HK1.out; omega⟩, ⟨oB HB⟩⟩
       ·replace c8 := Bool.eq_false_iff.mpr c8
        subst c8
        rw [if_neg (show ¬ (false = true) by decide)] at H
        obtain rfl := Option.some.inj H
        try go_wp2
        have n0_ := A_ (below_drew1 HB.out)
        clear HB
        have HB := n0_
        clear n0_
        have p1019 : 0 ≤ (x5_1 : Int) := of_decide_eq_true (by first | (with_reducible assumption) | assumption)
        have q1019 : x5_1 < (l0.length : Int) := of_decide_eq_true (by first | (with_reducible assumption) | assumption)
        obtain ⟨ad1019, e1019, hx1019_0, hx1019_1, hx1019_2, hx1019_3⟩ := at_T112 HR0.out x5_1 p1019 q1019
        have hw1019_3 := hx1019_3
        have hw1019_2 := hx1019_2
        have hw1019_1 := hx1019_1
        have hw1019_0 := hx1019_0
        cases e1019
        replace hx1019_0 := (HB.out.cell (World.block_lt_of_cell? w _ hx1019_0)).trans hx1019_0
        replace hx1019_1 := (HB.out.cell (World.block_lt_of_cell? w _ hx1019_1)).trans hx1019_1
        replace hx1019_2 := (HB.out.cell (World.block_lt_of_cell? w _ hx1019_2)).trans hx1019_2
        replace hx1019_3 := (HB.out.cell (World.block_lt_of_cell? w _ hx1019_3)).trans hx1019_3
        replace p1019 := eq_true p1019
        replace q1019 := eq_true q1019
        have p1020 : 0 ≤ (x5_1 : Int) := of_decide_eq_true (by first | (with_reducible assumption) | assumption)
        have q1020 : x5_1 < (l1.length : Int) := of_decide_eq_true (by first | (with_reducible assumption) | assumption)
        obtain ⟨ad1020, e1020, hx1020_0, hx1020_1, hx1020_2, hx1020_3⟩ := at_T112 HR1.out x5_1 p1020 q1020
        have hw1020_3 := hx1020_3
        have hw1020_2 := hx1020_2
        have hw1020_1 := hx1020_1
        have hw1020_0 := hx1020_0
        cases e1020
        replace hx1020_0 := (HB.out.cell (World.block_lt_of_cell? w _ hx1020_0)).trans hx1020_0
        replace hx1020_1 := (HB.out.cell (World.block_lt_of_cell? w _ hx1020_1)).trans hx1020_1
        replace hx1020_2 := (HB.out.cell (World.block_lt_of_cell? w _ hx1020_2)).trans hx1020_2
        replace hx1020_3 := (HB.out.cell (World.block_lt_of_cell? w _ hx1020_3)).trans hx1020_3
        replace p1020 := eq_true p1020
        replace q1020 := eq_true q1020
        refine start_ (n := 10) (S := fun w' => w'.cell? (ad1019.add ((x5_1).toNat * 4)) = some (.int .i64 ((rd_T112 l0 x5_1).f0)) ∧ w'.cell? ⟨(ad1019.add ((x5_1).toNat * 4)).block, (ad1019.add ((x5_1).toNat * 4)).off + 1, none⟩ = some (.int .i64 ((rd_T112 l0 x5_1).f1)) ∧ w'.cell? ⟨(ad1019.add ((x5_1).toNat * 4)).block, (ad1019.add ((x5_1).toNat * 4)).off + 2, none⟩ = some (.int .i64 ((rd_T112 l0 x5_1).f2)) ∧ w'.cell? ⟨(ad1019.add ((x5_1).toNat * 4)).block, (ad1019.add ((x5_1).toNat * 4)).off + 3, none⟩ = some (.int .i64 ((rd_T112 l0 x5_1).f3)) ∧ w'.cell? (ad1020.add ((x5_1).toNat * 4)) = some (.int .i64 ((rd_T112 l1 x5_1).f0)) ∧ w'.cell? ⟨(ad1020.add ((x5_1).toNat * 4)).block, (ad1020.add ((x5_1).toNat * 4)).off + 1, none⟩ = some (.int .i64 ((rd_T112 l1 x5_1).f1)) ∧ w'.cell? ⟨(ad1020.add ((x5_1).toNat * 4)).block, (ad1020.add ((x5_1).toNat * 4)).off + 2, none⟩ = some (.int .i64 ((rd_T112 l1 x5_1).f2)) ∧ w'.cell? ⟨(ad1020.add ((x5_1).toNat * 4)).block, (ad1020.add ((x5_1).toNat * 4)).off + 3, none⟩ = some (.int .i64 ((rd_T112 l1 x5_1).f3))) (ds := []) #[false, false, false, false, false, false, false, false, false, false] (by kernel_rfl) rfl rfl ⟨((HB.out.cell (World.block_lt_of_cell? w _ hw1019_0)).trans hw1019_0), ((HB.out.cell (World.block_lt_of_cell? w _ hw1019_1)).trans hw1019_1), ((HB.out.cell (World.block_lt_of_cell? w _ hw1019_2)).trans hw1019_2), ((HB.out.cell (World.block_lt_of_cell? w _ hw1019_3)).trans hw1019_3), ((HB.out.cell (World.block_lt_of_cell? w _ hw1020_0)).trans hw1020_0), ((HB.out.cell (World.block_lt_of_cell? w _ hw1020_1)).trans hw1020_1), ((HB.out.cell (World.block_lt_of_cell? w _ hw1020_2)).trans hw1020_2), ((HB.out.cell (World.block_lt_of_cell? w _ hw1020_3)).trans hw1020_3)⟩ (fun hHeld => ?_); refine with_tabW laws_eqStepS.tab6 laws_eqStepS.bits6 (fun HT_ HW_ => ?_)
        generalize wr.drew = w11 at HB hx1019_0 hx1019_1 hx1019_2 hx1019_3 hx1020_0 hx1020_1 hx1020_2 hx1020_3 hHeld ⊢
        refine pA 0 (some 17) HT_.out ?_
        refine pA 1 (some 18) HT_.out ?_
        refine pA 2 (some 19) HT_.out ?_
        refine pA 4 (some 21) HT_.out ?_
        refine pA 5 (some 22) HT_.out ?_
        refine pA 6 (some 23) HT_.out ?_
        refine pT 3 (some 20) HT_.out HW_.out hHeld ?_
        refine pT 7 (some 24) HT_.out HW_.out hHeld ?_
        refine one_ (i := 8) (N := some 25) #[true, true, true, true, true, true, true, true, true, false] rfl rfl (one_of HT_.out (by kernel_rfl)) (by decide) (fun K hK => ?_)
        refine goes_ Tryz.func133 (by kernel_rfl) rfl #[.agg #[.int .i64 ((rd_T112 l0 x5_1).f0), .int .i64 ((rd_T112 l0 x5_1).f1), .int .i64 ((rd_T112 l0 x5_1).f2), .int .i64 ((rd_T112 l0 x5_1).f3)], .agg #[.int .i64 ((rd_T112 l1 x5_1).f0), .int .i64 ((rd_T112 l1 x5_1).f1), .int .i64 ((rd_T112 l1 x5_1).f2), .int .i64 ((rd_T112 l1 x5_1).f3)]] (by rfl) rfl rfl (by (try simp only [List.map_toArray, List.map_cons, List.map_nil]); first | done | rfl | (simp only [List.length_drop, List.length_take]; rfl)) ?_
        with_reducible refine (laws_eqStep.calls ((rd_T112 l0 x5_1).f0) ((rd_T112 l0 x5_1).f1) ((rd_T112 l0 x5_1).f2) ((rd_T112 l0 x5_1).f3) ((rd_T112 l1 x5_1).f0) ((rd_T112 l1 x5_1).f1) ((rd_T112 l1 x5_1).f2) ((rd_T112 l1 x5_1).f3) false _ A7.out).mono ?_
        rintro e w12 ⟨rfl, hb⟩
        refine ⟨_, rfl, ?_⟩
        have n0_ := A_ (below_step (oB HB) hb)
        clear HB
        have HB := n0_
        clear n0_
        (try clear hb)
        (try clear hb2)
        (try clear hk)
        (try clear hi)
        refine hK.out _ _ ⟨((HB.out.cell (World.block_lt_of_cell? w _ hw1019_0)).trans hw1019_0), ((HB.out.cell (World.block_lt_of_cell? w _ hw1019_1)).trans hw1019_1), ((HB.out.cell (World.block_lt_of_cell? w _ hw1019_2)).trans hw1019_2), ((HB.out.cell (World.block_lt_of_cell? w _ hw1019_3)).trans hw1019_3), ((HB.out.cell (World.block_lt_of_cell? w _ hw1020_0)).trans hw1020_0), ((HB.out.cell (World.block_lt_of_cell? w _ hw1020_1)).trans hw1020_1), ((HB.out.cell (World.block_lt_of_cell? w _ hw1020_2)).trans hw1020_2), ((HB.out.cell (World.block_lt_of_cell? w _ hw1020_3)).trans hw1020_3)⟩ (fun hHeld => ?_)
        clear hK K
        refine norm_ (a' := ?_) ?_ ?_
        rotate_left
        ·show Act.put _ (some 25) _ = _
         simp only [Act.put, List.setIfInBounds_toArray, List.set_cons_zero, List.set_cons_succ, i64_w, i32_w]
         rfl
        refine pA 9 (some 26) HT_.out ?_
        refine done_ (done_of HT_.out (by kernel_rfl)) ?_
        try go_wp2
        go_ret
        exact ⟨eR, oB HB⟩
      ·rw [if_neg c6] at H
       exact absurd H (by simp)
     ·rw [if_neg c5] at H
      exact absurd H (by simp)
    ·rw [if_neg c4] at H
     have c4b0 : decide (x5_1 < (l0.length : Int)) = false := decide_eq_false c4
     clear c4
     obtain rfl := Option.some.inj H
     go_wp2
     go_ret
     exact ⟨eR, oB HB⟩
 ·rw [if_neg c3] at H
  have c3b0 : ((l0.length : Int) == (l1.length : Int)) = false := beq_eq_false_iff_ne.mpr c3
  have c3b1 : ((l0.length : Int) != (l1.length : Int)) = true := bne_iff_ne.mpr c3
  have c3b2 : (l0.length == l1.length) = false := by first | simpa using c3 | (simp at c3 ⊢; omega)
  obtain rfl := Option.some.inj H
  go_enter Tryz.func111, Tryz.ntmps111
  go_wp2
  go_ret
  exact ⟨eR, oB HB⟩
end Go.Proofs.YtanhnhkcpbdfmaaGreat.P
namespace Go.Proofs.YtanhnhkcpbdfmaaGreat.Q
open Go.RowKit Go.Proofs.YtanhnhkcpbdfmaaGreat.P Go.Proofs.YtanhnhkcpbdfmaaGreatW.PrintWords Go.Proofs.YtanhnhkcpbdfmaaGreatW.PrintMore
def cEntry (x : S127) : S104 := ⟨⟨x.f0.f0, x.f0.f1⟩, x.f1, x.f2⟩
theorem rdE (l : List S104) (i : Nat) (h : i < l.length) : rd_T104 l (i : Int) = l[i] := by
  unfold rd_T104; simp [List.getD_eq_getElem?_getD, h]
theorem rdLE (l : List S127) (i : Nat) (h : i < l.length) : rd_T127 l (i : Int) = l[i] := by
  unfold rd_T127; simp [List.getD_eq_getElem?_getD, h]
theorem toEntryS_ev (l : List S127) (hl : l.length ≤ 1048576) : Ev (fun k => laws_toEntryS.f k l) (l.map cEntry) := by
  have key : ∀ i, i ≤ l.length → ∀ acc : List S104, acc.length = l.length → Ev (fun k => laws_toEntryS.l0 k l acc (i : Int)) (acc.take i ++ (l.drop i).map cEntry) := by
    refine down (n := l.length) ?_ ?_
    · intro acc ha
      refine Ev.step (fun k => by rw [laws_toEntryS.l0]) (evn (by omega) (evs ?_))
      rw [drop_end, List.map_nil, List.append_nil, List.take_of_length_le (by omega)]
    · intro i hi ih acc ha
      refine Ev.step (fun k => by rw [laws_toEntryS.l0]) (evp (by omega) (evp (by omega) ?_))
      rw [rdLE l i hi]
      refine evb (a := (l[i].f0.f0, l[i].f0.f1, l[i].f1, l[i].f2)) rfl (evp (by omega) ?_)
      rw [w64 (by omega) (by omega), Int.toNat_natCast]
      have := ih (acc.set i (cEntry l[i])) (by simpa using ha)
      rw [set_take _ _ _ (by omega), List.append_assoc] at this
      rw [drop_cons l i hi, List.map_cons]
      exact this
  have := key 0 (Nat.zero_le _) (List.replicate l.length z104) (by simp)
  unfold laws_toEntryS.f
  refine evp (by omega) (evp (by omega) ?_)
  simpa using this
theorem eqPipe_self (a b : Int) : laws_eqPipe.f a b a b = some true := by unfold laws_eqPipe.f; simp
theorem eqEntry_self (a b c d : Int) : laws_eqEntry.f a b c d a b c d = some true := by unfold laws_eqEntry.f; simp [eqPipe_self]
theorem eqEntryS_ev (l : List S104) (hl : l.length ≤ 9000000000000000000) : Ev (fun k => laws_eqEntryS.f k l l) true := by
  have key : ∀ i, i ≤ l.length → Ev (fun k => laws_eqEntryS.l0 k l l (i : Int)) true := by
    refine down (n := l.length) ?_ ?_
    · refine Ev.step (fun k => by rw [laws_eqEntryS.l0]) (evn (by omega) ?_)
      exact Ev.now _
    · intro i hi ih
      refine Ev.step (fun k => by rw [laws_eqEntryS.l0]) (evp (by omega) (evp (by omega) (evp (by omega) ?_)))
      refine evb (eqEntry_self _ _ _ _) (evp rfl ?_)
      rw [w64 (by omega) (by omega)]
      exact ih
  unfold laws_eqEntryS.f
  refine evp rfl ?_
  exact key 0 (Nat.zero_le _)
theorem szEntryS_eq (l : List S127) (m : Int) (h0 : 0 ≤ m) (hm : m ≤ 1048576) (hl : l.length ≤ 9223372036854775807) : laws_szEntryS.f l m = some (if m < l.length then -1 else m - l.length) := by
  unfold laws_szEntryS.f
  rw [w64 (by omega) (by omega)]
  by_cases h : m < l.length
  · rw [if_pos (by omega), if_pos h]
  · rw [if_neg (by omega), if_neg h]
def cStep (x : S140) : S112 := ⟨x.f0, x.f1, x.f2, x.f3⟩
theorem rdS (l : List S112) (i : Nat) (h : i < l.length) : rd_T112 l (i : Int) = l[i] := by
  unfold rd_T112; simp [List.getD_eq_getElem?_getD, h]
theorem rdLS (l : List S140) (i : Nat) (h : i < l.length) : rd_T140 l (i : Int) = l[i] := by
  unfold rd_T140; simp [List.getD_eq_getElem?_getD, h]
theorem toStepS_ev (l : List S140) (hl : l.length ≤ 1048576) : Ev (fun k => laws_toStepS.f k l) (l.map cStep) := by
  have key : ∀ i, i ≤ l.length → ∀ acc : List S112, acc.length = l.length → Ev (fun k => laws_toStepS.l0 k l acc (i : Int)) (acc.take i ++ (l.drop i).map cStep) := by
    refine down (n := l.length) ?_ ?_
    · intro acc ha
      refine Ev.step (fun k => by rw [laws_toStepS.l0]) (evn (by omega) (evs ?_))
      rw [drop_end, List.map_nil, List.append_nil, List.take_of_length_le (by omega)]
    · intro i hi ih acc ha
      refine Ev.step (fun k => by rw [laws_toStepS.l0]) (evp (by omega) (evp (by omega) ?_))
      rw [rdLS l i hi]
      refine evb (a := (l[i].f0, l[i].f1, l[i].f2, l[i].f3)) rfl (evp (by omega) ?_)
      rw [w64 (by omega) (by omega), Int.toNat_natCast]
      have := ih (acc.set i (cStep l[i])) (by simpa using ha)
      rw [set_take _ _ _ (by omega), List.append_assoc] at this
      rw [drop_cons l i hi, List.map_cons]
      exact this
  have := key 0 (Nat.zero_le _) (List.replicate l.length z112) (by simp)
  unfold laws_toStepS.f
  refine evp (by omega) (evp (by omega) ?_)
  simpa using this
theorem eqStep_self (a b c d : Int) : laws_eqStep.f a b c d a b c d = some true := by unfold laws_eqStep.f; simp
theorem eqStepS_ev (l : List S112) (hl : l.length ≤ 9000000000000000000) : Ev (fun k => laws_eqStepS.f k l l) true := by
  have key : ∀ i, i ≤ l.length → Ev (fun k => laws_eqStepS.l0 k l l (i : Int)) true := by
    refine down (n := l.length) ?_ ?_
    · refine Ev.step (fun k => by rw [laws_eqStepS.l0]) (evn (by omega) ?_)
      exact Ev.now _
    · intro i hi ih
      refine Ev.step (fun k => by rw [laws_eqStepS.l0]) (evp (by omega) (evp (by omega) (evp (by omega) ?_)))
      refine evb (eqStep_self _ _ _ _) (evp rfl ?_)
      rw [w64 (by omega) (by omega)]
      exact ih
  unfold laws_eqStepS.f
  refine evp rfl ?_
  exact key 0 (Nat.zero_le _)
theorem szStepS_eq (l : List S140) (m : Int) (h0 : 0 ≤ m) (hm : m ≤ 1048576) (hl : l.length ≤ 9223372036854775807) : laws_szStepS.f l m = some (if m < l.length then -1 else m - l.length) := by
  unfold laws_szStepS.f
  rw [w64 (by omega) (by omega)]
  by_cases h : m < l.length
  · rw [if_pos (by omega), if_pos h]
  · rw [if_neg (by omega), if_neg h]
def runsS (m : Int) (n : Nat) : List S112 := (List.range n).map (fun (j : Nat) => ⟨m + 4 * j, m + 4 * j + 1, m + 4 * j + 2, m + 4 * j + 3⟩)
theorem runsS_len (m : Int) (n : Nat) : (runsS m n).length = n := by simp [runsS]
theorem rd_set_self (l : List S112) (i : Nat) (v : S112) (h : i < l.length) : rd_T112 (l.set i v) (i : Int) = v := by
  rw [rdS _ _ (by simpa using h)]; simp
theorem markStepS_ev (l : List S112) (m : Int) (h0 : 0 ≤ m) (hm : m + 4 * l.length ≤ 4000000000000000000) : Ev (fun k => laws_markStepS.f k l m) (m + 4 * l.length, runsS m l.length) := by
  have key : ∀ i, i ≤ l.length → ∀ acc : List S112, acc.length = l.length → acc.take i = runsS m i → Ev (fun k => laws_markStepS.l0 k acc (m + 4 * i) (i : Int)) (m + 4 * l.length, runsS m l.length) := by
    refine down (n := l.length) ?_ ?_
    · intro acc ha ht
      refine Ev.step (fun k => by rw [laws_markStepS.l0]) (evn (by omega) (evs ?_))
      rw [← ht, List.take_of_length_le (by omega)]
    · intro i hi ih acc ha ht
      refine Ev.step (fun k => by rw [laws_markStepS.l0]) ?_
      refine evp (by omega) (evp (by omega) ?_)
      simp only [Option.bind_some]
      rw [w64 (n := m + 4 * i + 1) (by omega) (by omega), w64 (n := m + 4 * i + 1 + 1) (by omega) (by omega), w64 (n := m + 4 * i + 1 + 1 + 1) (by omega) (by omega), w64 (n := m + 4 * i + 1 + 1 + 1 + 1) (by omega) (by omega), w64 (n := (i : Int) + 1) (by omega) (by omega), Int.toNat_natCast]
      have := ih (acc.set i ⟨m + 4 * i, m + 4 * i + 1, m + 4 * i + 2, m + 4 * i + 3⟩) (by simpa using ha) (by
        rw [set_take _ _ _ (by omega), ht]
        simp [runsS, List.range_succ])
      have rs : ∀ (L : List S112) (v : S112), L.length = l.length → rd_T112 (L.set i v) (i : Int) = v := fun L v hL => rd_set_self L i v (by omega)
      simp only [rs _ _ ha, List.set_set]
      rw [show m + 4 * (i : Int) + 1 + 1 = m + 4 * i + 2 by omega, show m + 4 * (i : Int) + 2 + 1 = m + 4 * i + 3 by omega, show m + 4 * (i : Int) + 3 + 1 = m + 4 * ((i + 1 : Nat) : Int) by omega]
      exact this
  have := key 0 (Nat.zero_le _) l rfl (by simp [runsS])
  unfold laws_markStepS.f
  simpa using this
theorem heldStepS_ev (n : Nat) (m : Int) (h0 : 0 ≤ m) (hm : m + 4 * n ≤ 4000000000000000000) : Ev (fun k => laws_heldStepS.f k (runsS m n) m) (m + 4 * n) := by
  have key : ∀ i, i ≤ n → Ev (fun k => laws_heldStepS.l0 k (runsS m n) (m + 4 * i) (i : Int)) (m + 4 * n) := by
    refine down (n := n) ?_ ?_
    · exact Ev.step (fun k => by rw [laws_heldStepS.l0]) (evn (by rw [runsS_len]; omega) (evs rfl))
    · intro i hi ih
      refine Ev.step (fun k => by rw [laws_heldStepS.l0]) (evp (by rw [runsS_len]; omega) (evp (by omega) ?_))
      rw [rdS _ _ (by rw [runsS_len]; exact hi), show (runsS m n)[i]'(by rw [runsS_len]; exact hi) = ⟨m + 4 * i, m + 4 * i + 1, m + 4 * i + 2, m + 4 * i + 3⟩ by simp [runsS]]
      rw [w64 (n := m + 4 * i + 1) (by omega) (by omega), w64 (n := m + 4 * i + 1 + 1) (by omega) (by omega), w64 (n := m + 4 * i + 1 + 1 + 1) (by omega) (by omega), w64 (n := m + 4 * i + 1 + 1 + 1 + 1) (by omega) (by omega), w64 (n := (i : Int) + 1) (by omega) (by omega)]
      refine evp rfl (evp rfl (evp ?_ (evp ?_ ?_)))
      · show m + 4 * (i : Int) + 2 = _; omega
      · show m + 4 * (i : Int) + 3 = _; omega
      rw [show m + 4 * (i : Int) + 1 + 1 + 1 + 1 = m + 4 * ((i + 1 : Nat) : Int) by omega]
      exact ih
  have := key 0 (Nat.zero_le _)
  unfold laws_heldStepS.f
  simpa using this
theorem copyPlan_eq (p : List S112) (hp : p.length ≤ 4000000) : impl_copyPlan.f p = some p := by
  unfold impl_copyPlan.f; simp only [Option.bind_some]; rw [if_pos (by simp; omega)]; simp
theorem l19Copy_eq (p : List S112) (hp : p.length ≤ 4000000) : spec_l19Copy.f p = some p := by
  unfold spec_l19Copy.f; simp only [Option.bind_some]; rw [if_pos (by simp; omega)]; simp
theorem l02Copy_eq (p : List Int) (hp : p.length ≤ 4000000) : spec_l02Copy.f p = some p := by
  unfold spec_l02Copy.f; simp only [Option.bind_some]; rw [if_pos (by simp; omega)]; simp
theorem copyWork_eq (p : List S112) (d : Int) (q : List Int) (hp : p.length ≤ 4000000) (hq : q.length ≤ 4000000) : impl_copyWork.f p d q = some (p, d, q) := by
  unfold impl_copyWork.f; rw [copyPlan_eq p hp]; simp only [Option.bind_some]; rw [if_pos (by simp; omega)]; simp
theorem l36Copy_eq (p : List S112) (d : Int) (q : List Int) (hp : p.length ≤ 4000000) (hq : q.length ≤ 4000000) : spec_l36Copy.f p d q = some (p, d, q) := by
  unfold spec_l36Copy.f; rw [l19Copy_eq p hp]; simp only [Option.bind_some]; rw [l02Copy_eq q hq]; rfl
theorem copyShop_eq (p : List S112) (d : Int) (q : List Int) (a m : Int) (l : List S104) (hp : p.length ≤ 4000000) (hq : q.length ≤ 4000000) (hl : l.length ≤ 4000000) : impl_copyShop.f p d q a m l = some (p, d, q, a, m, l) := by
  unfold impl_copyShop.f; rw [copyWork_eq p d q hp hq, Option.bind_some, copyLog_eq l hl]; rfl
theorem l38Copy_eq (p : List S112) (d : Int) (q : List Int) (a m : Int) (l : List S104) (hp : p.length ≤ 4000000) (hq : q.length ≤ 4000000) (hl : l.length ≤ 4000000) : spec_l38Copy.f p d q a m l = some (p, d, q, a, m, l) := by
  unfold spec_l38Copy.f; rw [l36Copy_eq p d q hp hq, Option.bind_some, l34Copy_eq l hl]; rfl
def runsE (m : Int) (n : Nat) : List S104 := (List.range n).map (fun (j : Nat) => ⟨⟨m + 4 * j, m + 4 * j + 1⟩, m + 4 * j + 2, m + 4 * j + 3⟩)
theorem runsE_len (m : Int) (n : Nat) : (runsE m n).length = n := by simp [runsE]
theorem rdE_set_self (l : List S104) (i : Nat) (v : S104) (h : i < l.length) : rd_T104 (l.set i v) (i : Int) = v := by
  rw [rdE _ _ (by simpa using h)]; simp
theorem markEntryS_ev (l : List S104) (m : Int) (h0 : 0 ≤ m) (hm : m + 4 * l.length ≤ 4000000000000000000) : Ev (fun k => laws_markEntryS.f k l m) (m + 4 * l.length, runsE m l.length) := by
  have key : ∀ i, i ≤ l.length → ∀ acc : List S104, acc.length = l.length → acc.take i = runsE m i → Ev (fun k => laws_markEntryS.l0 k acc (m + 4 * i) (i : Int)) (m + 4 * l.length, runsE m l.length) := by
    refine down (n := l.length) ?_ ?_
    · intro acc ha ht
      refine Ev.step (fun k => by rw [laws_markEntryS.l0]) (evn (by omega) (evs ?_))
      rw [← ht, List.take_of_length_le (by omega)]
    · intro i hi ih acc ha ht
      refine Ev.step (fun k => by rw [laws_markEntryS.l0]) ?_
      refine evp (by omega) (evp (by omega) ?_)
      simp only [Option.bind_some]
      rw [w64 (n := m + 4 * i + 1) (by omega) (by omega), w64 (n := m + 4 * i + 1 + 1) (by omega) (by omega), w64 (n := m + 4 * i + 1 + 1 + 1) (by omega) (by omega), w64 (n := m + 4 * i + 1 + 1 + 1 + 1) (by omega) (by omega), w64 (n := (i : Int) + 1) (by omega) (by omega), Int.toNat_natCast]
      have := ih (acc.set i ⟨⟨m + 4 * i, m + 4 * i + 1⟩, m + 4 * i + 2, m + 4 * i + 3⟩) (by simpa using ha) (by
        rw [set_take _ _ _ (by omega), ht]
        simp [runsE, List.range_succ])
      have rs : ∀ (L : List S104) (v : S104), L.length = l.length → rd_T104 (L.set i v) (i : Int) = v := fun L v hL => rdE_set_self L i v (by omega)
      simp only [rs _ _ ha, List.set_set]
      rw [show m + 4 * (i : Int) + 1 + 1 = m + 4 * i + 2 by omega, show m + 4 * (i : Int) + 2 + 1 = m + 4 * i + 3 by omega, show m + 4 * (i : Int) + 3 + 1 = m + 4 * ((i + 1 : Nat) : Int) by omega]
      exact this
  have := key 0 (Nat.zero_le _) l rfl (by simp [runsE])
  unfold laws_markEntryS.f
  simpa using this
theorem heldEntryS_ev (n : Nat) (m : Int) (h0 : 0 ≤ m) (hm : m + 4 * n ≤ 4000000000000000000) : Ev (fun k => laws_heldEntryS.f k (runsE m n) m) (m + 4 * n) := by
  have key : ∀ i, i ≤ n → Ev (fun k => laws_heldEntryS.l0 k (runsE m n) (m + 4 * i) (i : Int)) (m + 4 * n) := by
    refine down (n := n) ?_ ?_
    · exact Ev.step (fun k => by rw [laws_heldEntryS.l0]) (evn (by rw [runsE_len]; omega) (evs rfl))
    · intro i hi ih
      refine Ev.step (fun k => by rw [laws_heldEntryS.l0]) (evp (by rw [runsE_len]; omega) (evp (by omega) ?_))
      rw [rdE _ _ (by rw [runsE_len]; exact hi), show (runsE m n)[i]'(by rw [runsE_len]; exact hi) = ⟨⟨m + 4 * i, m + 4 * i + 1⟩, m + 4 * i + 2, m + 4 * i + 3⟩ by simp [runsE]]
      rw [w64 (n := m + 4 * i + 1) (by omega) (by omega), w64 (n := m + 4 * i + 1 + 1) (by omega) (by omega), w64 (n := m + 4 * i + 1 + 1 + 1) (by omega) (by omega), w64 (n := m + 4 * i + 1 + 1 + 1 + 1) (by omega) (by omega), w64 (n := (i : Int) + 1) (by omega) (by omega)]
      refine evp rfl (evp rfl (evp ?_ (evp ?_ ?_)))
      · show m + 4 * (i : Int) + 2 = _; omega
      · show m + 4 * (i : Int) + 3 = _; omega
      rw [show m + 4 * (i : Int) + 1 + 1 + 1 + 1 = m + 4 * ((i + 1 : Nat) : Int) by omega]
      exact ih
  have := key 0 (Nat.zero_le _)
  unfold laws_heldEntryS.f
  simpa using this
end Go.Proofs.YtanhnhkcpbdfmaaGreat.Q
namespace Go.Proofs.YtanhnhkcpbdfmaaGreat.P
set_option maxHeartbeats 8000000
set_option maxRecDepth 100000
set_option synthInstance.maxHeartbeats 400000
set_option synthInstance.maxSize 100000
open Go.RowKit Go.Proofs.YtanhnhkcpbdfmaaGreatW.PrintWords Go.Proofs.YtanhnhkcpbdfmaaGreatW.PrintLast Go.Proofs.YtanhnhkcpbdfmaaGreatW.PrintMore Go.Proofs.YtanhnhkcpbdfmaaGreat.V
attribute [local go_sem] cell_b frozen_b
attribute [local go_sem] max2_int min2_int max_two min_two max_three min_three max_four min_four
def laws_toShop.f (k : Nat) (l0_0 : List (S140)) (a0_1 : Int) (l0_2 : List Int) (a0_3 : Int) (a0_4 : Int) (l0_5 : List (S127)) : Option ((List (S112)) × Int × List Int × Int × Int × (List (S104))) := (laws_toWork.f k l0_0 a0_1 l0_2).bind fun bt579 => ((laws_toEntryS.f k l0_5).bind fun t586 => (some (bt579.1, bt579.2.1, bt579.2.2, a0_3, a0_4, t586)))
theorem laws_toShop.calls (k : Nat) (A0_0 : Option Addr) (c0_0 : Nat) (l0_0 : List (S140)) (a0_1 : Int) (A0_2 : Option Addr) (c0_2 : Nat) (l0_2 : List Int) (a0_3 : Int) (a0_4 : Int) (A0_5 : Option Addr) (c0_5 : Nat) (l0_5 : List (S127)) (r1 : List (S112)) (r2 : Int) (r3 : List Int) (r4 : Int) (r5 : Int) (r6 : List (S104)) (w : World) (hr0_0 : Kd.C k140 w A0_0 l0_0.length l0_0) (hc0_0 : l0_0.length ≤ c0_0) (hr0_2 : Kd.C (Kd.int .i64) w A0_2 l0_2.length l0_2) (hc0_2 : l0_2.length ≤ c0_2) (hr0_5 : Kd.C k127 w A0_5 l0_5.length l0_5) (hc0_5 : l0_5.length ≤ c0_5) (h : laws_toShop.f k l0_0 a0_1 l0_2 a0_3 a0_4 l0_5 = some (r1, r2, r3, r4, r5, r6)) :
  Calls Tryz.prog 11 #[.agg #[.slice A0_0 l0_0.length c0_0, .int .i64 a0_1, .slice A0_2 l0_2.length c0_2, .int .i64 a0_3, .int .i64 a0_4, .slice A0_5 l0_5.length c0_5]] w fun e w' => ∃ v0_ v2_ v5_ : Value, e = .returned (.agg #[v0_, .int .i64 r2, v2_, .int .i64 r4, .int .i64 r5, v5_]) ∧ Kd.R k112 112 w' w.heap.size (fun _ => True) v0_ r1 ∧ Kd.R (Kd.int .i64) 3 w' w.heap.size (fun _ => True) v2_ r3 ∧ Kd.R k104 104 w' w.heap.size (fun _ => True) v5_ r6 ∧ Below w.heap.size w w' := by
 replace hr0_0 := RdE.mk hr0_0
 replace hc0_0 := LeI.mk hc0_0
 replace hr0_2 := RdE.mk hr0_2
 replace hc0_2 := LeI.mk hc0_2
 replace hr0_5 := RdE.mk hr0_5
 replace hc0_5 := LeI.mk hc0_5
 unfold laws_toShop.f at h
 have hu28 := Tryz.underlying28
 have hu37 := Tryz.underlying37
 (repeat' first | ((with_reducible replace h := ite_some h); rcases h with ⟨hc, h⟩ | ⟨hc, h⟩ <;> first | exact (none_some h).elim | exact absurd hc (by decide) | subst hc | (replace hc := hF_ hc; subst hc) | (have hd := hI_ hc; have he := hJ_ hc; clear hc) | (have hd := hK_ hc; have he := hL_ hc) | (have hd := decide_eq_false hc) | (have hd := decide_eq_true hc) | skip))
 all_goals go_enter Tryz.func11, Tryz.ntmps11
 all_goals go_wp2_with ((first
  | ((with_reducible refine gate_dst (N := 1) rfl ?_); refine box_event rfl (N := 1) rfl (cs := #[.slice A0_0 l0_0.length c0_0, .int .i64 a0_1, .slice A0_2 l0_2.length c0_2, .int .i64 a0_3, .int .i64 a0_4, .slice A0_5 l0_5.length c0_5]) (t := 28) (by first | (go_simp; done) | (go_simp; rfl)) ?_; intro g hg w1 hk hb; have j1 := Born.mk hg; have j2 := Bel.mk hb; have j3 := Blk.mk hk; clear hg hb hk)
  | ((with_reducible refine gate_dst (N := 2) rfl ?_); refine box_event rfl (N := 2) rfl (cs := #[.slice none 0 0, .int .i64 0, .slice none 0 0, .int .i64 0, .int .i64 0, .slice none 0 0]) (t := 37) (by first | (go_simp; done) | (go_simp; rfl)) ?_; intro g hg w1 hk hb; have j1 := Born.mk hg; have j2 := Bel.mk hb; have j3 := Blk.mk hk; clear hg hb hk)
  | ((with_reducible refine gate_dst (N := 3) rfl ?_); refine box_event rfl (N := 3) rfl (cs := #[.slice none 0 0, .int .i64 0, .slice none 0 0, .int .i64 0, .int .i64 0, .slice none 0 0]) (t := 37) (by first | (go_simp; done) | (go_simp; rfl)) ?_; intro g hg w1 hk hb; have j1 := Born.mk hg; have j2 := Bel.mk hb; have j3 := Blk.mk hk; clear hg hb hk)
  | (go_at_call 54; replace h := Option.bind_eq_some_iff.mp h; obtain ⟨⟨t1, t2, t3⟩, A, h⟩ := h; (try dsimp only at h); refine (laws_toWork.calls _ _ _ _ _ _ _ _ _ _ _ _ Rd.out LeI.out Rd.out LeI.out A).mono ?_; rintro e w2 ⟨v0, v1, rfl, ho0, ho1, hb⟩; obtain ⟨B0, b0, rfl⟩ := Kd.R_slice ho0; have j0 := RowE.mk ho0; have q0 := LeI.mk (rowLe j0); obtain ⟨B1, b1, rfl⟩ := Kd.R_slice ho1; have j1 := RowE.mk ho1; have q1 := LeI.mk (rowLe j1); have jb := Bel.mk hb; clear A ho0 ho1 hb)
  | (go_at_call 55; replace h := Option.bind_eq_some_iff.mp h; obtain ⟨t, A, h⟩ := h; (try dsimp only at h); refine (laws_toEntryS.calls _ _ _ _ _ _ Rd.out LeI.out A).mono ?_; rintro e w2 ⟨v0, rfl, ho0, hb⟩; obtain ⟨B0, b0, rfl⟩ := Kd.R_slice ho0; have j0 := RowE.mk ho0; have q0 := LeI.mk (rowLe j0); have jb := Bel.mk hb; clear A ho0 hb)); (repeat' first | ((with_reducible replace h := ite_some h); rcases h with ⟨hc, h⟩ | ⟨hc, h⟩ <;> first | exact (none_some h).elim | exact absurd hc (by decide) | subst hc | (replace hc := hF_ hc; subst hc) | (have hd := hI_ hc; have he := hJ_ hc; clear hc) | (have hd := hK_ hc; have he := hL_ hc) | (have hd := decide_eq_false hc) | (have hd := decide_eq_true hc) | skip)); all_goals (try have hn : decide (0 < t.length) = true := decide_eq_true (by omega)); all_goals (try have hn : decide (0 < t.length) = false := decide_eq_false (by omega)))
 all_goals simp only [Option.some.injEq, Prod.mk.injEq] at h
 all_goals obtain ⟨rfl, rfl, rfl, rfl, rfl, rfl⟩ := h
 all_goals refine bodyPost_ret (results_cell_row rfl _ _ _ _ _ (0, 0) _ rfl Blk.out Tryz.underlying37 rfl (by kernel_rfl)) rfl ?_
 all_goals exact ⟨_, _, _, rfl, (by first | exact rowFin | exact Kd.R_nil _ _ _ _ _), (by first | exact rowFin | exact Kd.R_nil _ _ _ _ _), (by first | exact rowFin | exact Kd.R_nil _ _ _ _ _), From.out⟩
def laws_eqWork.f (k : Nat) (l0_0 : List (S112)) (a0_1 : Int) (l0_2 : List Int) (l1_0 : List (S112)) (a1_1 : Int) (l1_2 : List Int) : Option (Bool) := (laws_eqStepS.f k l0_0 l1_0).bind fun t1024 => (if t1024 = true then (if a0_1 = a1_1 then ((laws_eqIntS.f k l0_2 l1_2).bind fun t1025 => (if t1025 = true then (some true) else (some false))) else (some false)) else (some false))
theorem laws_eqWork.calls (k : Nat) (A0_0 : Option Addr) (c0_0 : Nat) (l0_0 : List (S112)) (a0_1 : Int) (A0_2 : Option Addr) (c0_2 : Nat) (l0_2 : List Int) (A1_0 : Option Addr) (c1_0 : Nat) (l1_0 : List (S112)) (a1_1 : Int) (A1_2 : Option Addr) (c1_2 : Nat) (l1_2 : List Int) (r : Bool) (w : World) (hr0_0 : Kd.C k112 w A0_0 l0_0.length l0_0) (hc0_0 : l0_0.length ≤ c0_0) (hr0_2 : Kd.C (Kd.int .i64) w A0_2 l0_2.length l0_2) (hc0_2 : l0_2.length ≤ c0_2) (hr1_0 : Kd.C k112 w A1_0 l1_0.length l1_0) (hc1_0 : l1_0.length ≤ c1_0) (hr1_2 : Kd.C (Kd.int .i64) w A1_2 l1_2.length l1_2) (hc1_2 : l1_2.length ≤ c1_2) (h : laws_eqWork.f k l0_0 a0_1 l0_2 l1_0 a1_1 l1_2 = some r) :
  Calls Tryz.prog 63 #[.agg #[.slice A0_0 l0_0.length c0_0, .int .i64 a0_1, .slice A0_2 l0_2.length c0_2], .agg #[.slice A1_0 l1_0.length c1_0, .int .i64 a1_1, .slice A1_2 l1_2.length c1_2]] w fun e w' => e = .returned (.bool r) ∧ Below w.heap.size w w' := by
 replace hr0_0 := RdE.mk hr0_0
 replace hc0_0 := LeI.mk hc0_0
 replace hr0_2 := RdE.mk hr0_2
 replace hc0_2 := LeI.mk hc0_2
 replace hr1_0 := RdE.mk hr1_0
 replace hc1_0 := LeI.mk hc1_0
 replace hr1_2 := RdE.mk hr1_2
 replace hc1_2 := LeI.mk hc1_2
 unfold laws_eqWork.f at h
 have hu34 := Tryz.underlying34
 (repeat' first | ((with_reducible replace h := ite_some h); rcases h with ⟨hc, h⟩ | ⟨hc, h⟩ <;> first | exact (none_some h).elim | exact absurd hc (by decide) | subst hc | (replace hc := hF_ hc; subst hc) | (have hd := hI_ hc; have he := hJ_ hc; clear hc) | (have hd := hK_ hc; have he := hL_ hc) | (have hd := decide_eq_false hc) | (have hd := decide_eq_true hc) | skip))
 all_goals go_enter Tryz.func63, Tryz.ntmps63
 all_goals go_wp2_with ((first
  | ((with_reducible refine gate_dst (N := 2) rfl ?_); refine box_event rfl (N := 2) rfl (cs := #[.slice A0_0 l0_0.length c0_0, .int .i64 a0_1, .slice A0_2 l0_2.length c0_2]) (t := 34) (by first | (go_simp; done) | (go_simp; rfl)) ?_; intro g hg w1 hk hb; have j1 := Born.mk hg; have j2 := Bel.mk hb; have j3 := Blk.mk hk; clear hg hb hk)
  | ((with_reducible refine gate_dst (N := 3) rfl ?_); refine box_event rfl (N := 3) rfl (cs := #[.slice A1_0 l1_0.length c1_0, .int .i64 a1_1, .slice A1_2 l1_2.length c1_2]) (t := 34) (by first | (go_simp; done) | (go_simp; rfl)) ?_; intro g hg w1 hk hb; have j1 := Born.mk hg; have j2 := Bel.mk hb; have j3 := Blk.mk hk; clear hg hb hk)
  | (go_at_call 111; replace h := Option.bind_eq_some_iff.mp h; obtain ⟨t, A, h⟩ := h; (try dsimp only at h); refine (laws_eqStepS.calls _ _ _ _ _ _ _ _ _ Rd.out LeI.out Rd.out LeI.out A).mono ?_; rintro e w2 ⟨rfl, hb⟩; have jb := Bel.mk hb; clear A hb)
  | (go_at_call 21; replace h := Option.bind_eq_some_iff.mp h; obtain ⟨t, A, h⟩ := h; (try dsimp only at h); refine (laws_eqIntS.calls _ _ _ _ _ _ _ _ _ Rd.out LeI.out Rd.out LeI.out A).mono ?_; rintro e w2 ⟨rfl, n, rfl⟩; clear A)); (repeat' first | ((with_reducible replace h := ite_some h); rcases h with ⟨hc, h⟩ | ⟨hc, h⟩ <;> first | exact (none_some h).elim | exact absurd hc (by decide) | subst hc | (replace hc := hF_ hc; subst hc) | (have hd := hI_ hc; have he := hJ_ hc; clear hc) | (have hd := hK_ hc; have he := hL_ hc) | (have hd := decide_eq_false hc) | (have hd := decide_eq_true hc) | skip)))
 all_goals obtain rfl := Option.some.inj h
 all_goals go_ret
 all_goals exact ⟨rfl, From.out⟩
def laws_eqShop.f (k : Nat) (l0_0 : List (S112)) (a0_1 : Int) (l0_2 : List Int) (a0_3 : Int) (a0_4 : Int) (l0_5 : List (S104)) (l1_0 : List (S112)) (a1_1 : Int) (l1_2 : List Int) (a1_3 : Int) (a1_4 : Int) (l1_5 : List (S104)) : Option (Bool) := (laws_eqWork.f k l0_0 a0_1 l0_2 l1_0 a1_1 l1_2).bind fun t1036 => (if t1036 = true then (if a0_3 = a1_3 then (if a0_4 = a1_4 then ((laws_eqEntryS.f k l0_5 l1_5).bind fun t1037 => (if t1037 = true then (some true) else (some false))) else (some false)) else (some false)) else (some false))
theorem laws_eqShop.calls (k : Nat) (A0_0 : Option Addr) (c0_0 : Nat) (l0_0 : List (S112)) (a0_1 : Int) (A0_2 : Option Addr) (c0_2 : Nat) (l0_2 : List Int) (a0_3 : Int) (a0_4 : Int) (A0_5 : Option Addr) (c0_5 : Nat) (l0_5 : List (S104)) (A1_0 : Option Addr) (c1_0 : Nat) (l1_0 : List (S112)) (a1_1 : Int) (A1_2 : Option Addr) (c1_2 : Nat) (l1_2 : List Int) (a1_3 : Int) (a1_4 : Int) (A1_5 : Option Addr) (c1_5 : Nat) (l1_5 : List (S104)) (r : Bool) (w : World) (hr0_0 : Kd.C k112 w A0_0 l0_0.length l0_0) (hc0_0 : l0_0.length ≤ c0_0) (hr0_2 : Kd.C (Kd.int .i64) w A0_2 l0_2.length l0_2) (hc0_2 : l0_2.length ≤ c0_2) (hr0_5 : Kd.C k104 w A0_5 l0_5.length l0_5) (hc0_5 : l0_5.length ≤ c0_5) (hr1_0 : Kd.C k112 w A1_0 l1_0.length l1_0) (hc1_0 : l1_0.length ≤ c1_0) (hr1_2 : Kd.C (Kd.int .i64) w A1_2 l1_2.length l1_2) (hc1_2 : l1_2.length ≤ c1_2) (hr1_5 : Kd.C k104 w A1_5 l1_5.length l1_5) (hc1_5 : l1_5.length ≤ c1_5) (h : laws_eqShop.f k l0_0 a0_1 l0_2 a0_3 a0_4 l0_5 l1_0 a1_1 l1_2 a1_3 a1_4 l1_5 = some r) :
  Calls Tryz.prog 14 #[.agg #[.slice A0_0 l0_0.length c0_0, .int .i64 a0_1, .slice A0_2 l0_2.length c0_2, .int .i64 a0_3, .int .i64 a0_4, .slice A0_5 l0_5.length c0_5], .agg #[.slice A1_0 l1_0.length c1_0, .int .i64 a1_1, .slice A1_2 l1_2.length c1_2, .int .i64 a1_3, .int .i64 a1_4, .slice A1_5 l1_5.length c1_5]] w fun e w' => e = .returned (.bool r) ∧ Below w.heap.size w w' := by
 replace hr0_0 := RdE.mk hr0_0
 replace hc0_0 := LeI.mk hc0_0
 replace hr0_2 := RdE.mk hr0_2
 replace hc0_2 := LeI.mk hc0_2
 replace hr0_5 := RdE.mk hr0_5
 replace hc0_5 := LeI.mk hc0_5
 replace hr1_0 := RdE.mk hr1_0
 replace hc1_0 := LeI.mk hc1_0
 replace hr1_2 := RdE.mk hr1_2
 replace hc1_2 := LeI.mk hc1_2
 replace hr1_5 := RdE.mk hr1_5
 replace hc1_5 := LeI.mk hc1_5
 unfold laws_eqShop.f at h
 have hu37 := Tryz.underlying37
 (repeat' first | ((with_reducible replace h := ite_some h); rcases h with ⟨hc, h⟩ | ⟨hc, h⟩ <;> first | exact (none_some h).elim | exact absurd hc (by decide) | subst hc | (replace hc := hF_ hc; subst hc) | (have hd := hI_ hc; have he := hJ_ hc; clear hc) | (have hd := hK_ hc; have he := hL_ hc) | (have hd := decide_eq_false hc) | (have hd := decide_eq_true hc) | skip))
 all_goals go_enter Tryz.func14, Tryz.ntmps14
 all_goals go_wp2_with ((first
  | ((with_reducible refine gate_dst (N := 2) rfl ?_); refine box_event rfl (N := 2) rfl (cs := #[.slice A0_0 l0_0.length c0_0, .int .i64 a0_1, .slice A0_2 l0_2.length c0_2, .int .i64 a0_3, .int .i64 a0_4, .slice A0_5 l0_5.length c0_5]) (t := 37) (by first | (go_simp; done) | (go_simp; rfl)) ?_; intro g hg w1 hk hb; have j1 := Born.mk hg; have j2 := Bel.mk hb; have j3 := Blk.mk hk; clear hg hb hk)
  | ((with_reducible refine gate_dst (N := 3) rfl ?_); refine box_event rfl (N := 3) rfl (cs := #[.slice A1_0 l1_0.length c1_0, .int .i64 a1_1, .slice A1_2 l1_2.length c1_2, .int .i64 a1_3, .int .i64 a1_4, .slice A1_5 l1_5.length c1_5]) (t := 37) (by first | (go_simp; done) | (go_simp; rfl)) ?_; intro g hg w1 hk hb; have j1 := Born.mk hg; have j2 := Bel.mk hb; have j3 := Blk.mk hk; clear hg hb hk)
  | (go_at_call 63; replace h := Option.bind_eq_some_iff.mp h; obtain ⟨t, A, h⟩ := h; (try dsimp only at h); refine (laws_eqWork.calls _ _ _ _ _ _ _ _ _ _ _ _ _ _ _ _ _ Rd.out LeI.out Rd.out LeI.out Rd.out LeI.out Rd.out LeI.out A).mono ?_; rintro e w2 ⟨rfl, hb⟩; have jb := Bel.mk hb; clear A hb)
  | (go_at_call 64; replace h := Option.bind_eq_some_iff.mp h; obtain ⟨t, A, h⟩ := h; (try dsimp only at h); refine (laws_eqEntryS.calls _ _ _ _ _ _ _ _ _ Rd.out LeI.out Rd.out LeI.out A).mono ?_; rintro e w2 ⟨rfl, hb⟩; have jb := Bel.mk hb; clear A hb)); (repeat' first | ((with_reducible replace h := ite_some h); rcases h with ⟨hc, h⟩ | ⟨hc, h⟩ <;> first | exact (none_some h).elim | exact absurd hc (by decide) | subst hc | (replace hc := hF_ hc; subst hc) | (have hd := hI_ hc; have he := hJ_ hc; clear hc) | (have hd := hK_ hc; have he := hL_ hc) | (have hd := decide_eq_false hc) | (have hd := decide_eq_true hc) | skip)))
 all_goals obtain rfl := Option.some.inj h
 all_goals go_ret
 all_goals exact ⟨rfl, From.out⟩
end Go.Proofs.YtanhnhkcpbdfmaaGreat.P
namespace Go.Proofs.YtanhnhkcpbdfmaaGreat.V
open Go.RowKit Go.Proofs.YtanhnhkcpbdfmaaGreatW.PrintWords Go.Proofs.YtanhnhkcpbdfmaaGreatW.PrintLast
section
variable {P : Program} {ops : Array Oper} {Q : Exit → Act → World → Prop} {T : Bool × List (List Nat × List Nat)} {B : List Nat} {oi : Oper} {v : Value} {fuel : Nat} {l l' : Array Bool} {ds : List Nat} {a a' : Act} {w w1 w3 : World}
abbrev Sb (w3 : World) : World → Prop := fun w' => Below w3.heap.size w3 w'
theorem qR {id n : Nat} (hT : rtab .any ops = T) (hB : waitsOk T.2 B = true) (h : Aside0 (rtab .any ops = T) → Aside0 (waitsOk T.2 B = true) → ∀ w3, Bel w w3 → ∀ u, Bel w3 u → Sb w3 u → wpAnyLast P .any ops Q (Sb w3) ds n l a u)
    (hn : ops.size = n := by rfl) (hl : Array.replicate n false = l := by rfl) (hm : P.follows .mixedOrders = true := by kernel_rfl) : (Code.region id ops true).wp P Q a w :=
  start_ (S := Sb w) (ds := ds) l hm hn hl (below_drew1 (Below.refl _ _)) fun hS => h ⟨hT⟩ ⟨hB⟩ w ⟨Below.refl _ _⟩ w.drew ⟨hS⟩ hS
theorem qA (i : Nat) (N : Option Tmp) (HT : Aside0 (rtab .any ops = T)) (h : wpAnyLast P .any ops Q (Sb w3) ds fuel l' a' w) (hi : ops[i]? = some oi := by rfl) (hN : oi.dst = N := by rfl)
    (hl : l.setIfInBounds i true = l' := by simp only [List.setIfInBounds_toArray, List.set_cons_zero, List.set_cons_succ]; rfl) (hc : anyT T l.toList l'.toList i = true := by kernel_rfl)
    (hQ : ∀ c a w, Q (.panic c) (a.put oi.dst v) w → Q (.panic c) a w := by exact fun _ _ _ h => h) (hw : Region.wanted oi (yielded ops a.tmps) = true := by rfl)
    (hy : ∀ w', (execOp a.eval oi).run P w' = .ok (.value v) w' := by intro w'; go_simp; with_reducible rfl) (ha : a.put N v = a' := by simp only [Act.put, List.setIfInBounds_toArray, List.set_cons_zero, List.set_cons_succ, i64_w, i32_w]; rfl) :
    wpAnyLast P .any ops Q (Sb w3) ds (fuel + 1) l a w := pure_ l' hi hN (any_of HT.out hc) hQ (Or.inl ⟨hw, hy⟩) ha h
theorem qT (i : Nat) (N : Option Tmp) (HT : Aside0 (rtab .any ops = T)) (HW : Aside0 (waitsOk T.2 B = true)) (hS : Sb w3 w) (h : wpAnyLast P .any ops Q (Sb w3) ds fuel l' a' w) (hi : ops[i]? = some oi := by rfl) (hN : oi.dst = N := by rfl)
    (hl : l.setIfInBounds i true = l' := by simp only [List.setIfInBounds_toArray, List.set_cons_zero, List.set_cons_succ]; rfl) (hc : takeW T B ds l.toList l'.toList i = true := by kernel_rfl)
    (hQ : ∀ c a w, Q (.panic c) (a.put oi.dst v) w → Q (.panic c) a w := by exact fun _ _ _ h => h) (hw : Region.wanted oi (yielded ops a.tmps) = true := by rfl)
    (hy : ∀ w', Sin w3 w' → (execOp a.eval oi).run P w' = .ok (.value v) w' := by intro w' jS; go_simp; with_reducible rfl) (ha : a.put N v = a' := by simp only [Act.put, List.setIfInBounds_toArray, List.set_cons_zero, List.set_cons_succ, i64_w, i32_w]; rfl) :
    wpAnyLast P .any ops Q (Sb w3) ds (fuel + 1) l a w := take_ l' hi hN (take_ofW HT.out HW.out hc) hQ (Or.inl ⟨hw, fun w' hS => hy w' ⟨hS⟩⟩) hS ha h
theorem qB {a' : Nat → Act} (i N : Nat) (cs : Array Value) (t : TypeId) (HT : Aside0 (rtab .any ops = T)) (hS : Sb w3 w) (h : ∀ g, Born w g → ∀ w1, Bel w w1 → Blk w1 g cs t → Sb w3 w1 → wpAnyLast P .any ops Q (Sb w3) ds fuel l' (a' g) w1) (hi : ops[i]? = some oi := by rfl) (hN : oi.dst = some N := by rfl)
    (hl : l.setIfInBounds i true = l' := by simp only [List.setIfInBounds_toArray, List.set_cons_zero, List.set_cons_succ]; rfl) (hc : (readyT T.2 l.toList == [i] && l.toList.set i true == l'.toList) = true := by kernel_rfl) (hd : i ∉ ds := by decide) (hw : Region.wanted oi (yielded ops a.tmps) = true := by rfl)
    (hr : (execOp a.eval oi).run P w = .ok (.value (.pointer (some ⟨w.heap.size, 0, none⟩))) (w.alloc (.cells cs t (0, 0))) := by first | (go_simp; done) | (go_simp; rfl))
    (ha : ∀ g, a.put (some N) (.pointer (some ⟨g, 0, none⟩)) = a' g := by intro g; simp only [Act.put, List.setIfInBounds_toArray, List.set_cons_zero, List.set_cons_succ, i64_w, i32_w]; rfl) :
    wpAnyLast P .any ops Q (Sb w3) ds (fuel + 1) l a w := one_ l' hi hN (one_of HT.out hc) hd fun K hK => by
  rw [← hN]
  refine box_step hw hN hr fun g hg w1 hb hk => ?_
  have h1 : Sb w3 w1 := below_step hS hk
  exact hK.out _ _ h1 fun _ => by rw [hN, ha]; exact h g ⟨hg⟩ w1 ⟨hk⟩ ⟨hb⟩ h1
theorem qS (i : Nat) (HT : Aside0 (rtab .any ops = T)) (h : Sb w3 w1 → wpAnyLast P .any ops Q (Sb w3) ds fuel l' a w1) (hi : ops[i]? = some oi := by rfl) (hN : oi.dst = none := by rfl)
    (hl : l.setIfInBounds i true = l' := by simp only [List.setIfInBounds_toArray, List.set_cons_zero, List.set_cons_succ]; rfl) (hc : (readyT T.2 l.toList == [i] && l.toList.set i true == l'.toList) = true := by kernel_rfl) (hd : i ∉ ds := by decide) (hw : Region.wanted oi (yielded ops a.tmps) = true := by rfl)
    (hr : (execOp a.eval oi).run P w = .ok .skip w1 := by go_simp; rfl) (hS : From w3 w1 := by infer_instance) :
    wpAnyLast P .any ops Q (Sb w3) ds (fuel + 1) l a w := one_ l' hi hN (one_of HT.out hc) hd fun K hK => skip_ hw hN hr (hK.out _ _ hS.out fun _ => h hS.out)
theorem qL (i : Nat) (HT : Aside0 (rtab .any ops = T)) (h : wpAnyLast P .any ops Q (Sb w3) ds fuel l' a w1) (hi : ops[i]? = some oi := by rfl) (hN : oi.dst = none := by rfl)
    (hl : l.setIfInBounds i true = l' := by simp only [List.setIfInBounds_toArray, List.set_cons_zero, List.set_cons_succ]; rfl) (hc : (readyT T.2 l.toList == [i] && l.toList.set i true == l'.toList) = true := by kernel_rfl) (hd : i ∈ ds := by decide) (hw : Region.wanted oi (yielded ops a.tmps) = true := by rfl)
    (hr : (execOp a.eval oi).run P w = .ok .skip w1 := by go_simp; rfl) :
    wpAnyLast P .any ops Q (Sb w3) ds (fuel + 1) l a w := last_ l' hi hN (one_of HT.out hc) hd fun K hK => skip_ hw hN hr (hK.out _ _ h)
theorem qC {f : FuncId} {args : Array Value} {xs : Array Operand} {ts : Array TypeId} (i N : Nat) {fn : Func} (hf : P.funcs[f]? = some fn) (HT : Aside0 (rtab .any ops = T)) (h : ∀ K : Act → World → Prop, (∀ a' w', Sb w3 w' → (Sb w3 w' → wpAnyLast P .any ops Q (Sb w3) ds fuel l' a' w') → K a' w') → Calls P f args w fun e w' => ∃ v, e = .returned v ∧ K (a.put (some N) v) w') (hi : ops[i]? = some oi := by rfl) (hN : oi.dst = some N := by rfl)
    (hl : l.setIfInBounds i true = l' := by simp only [List.setIfInBounds_toArray, List.set_cons_zero, List.set_cons_succ]; rfl) (hc : (readyT T.2 l.toList == [i] && l.toList.set i true == l'.toList) = true := by kernel_rfl) (hd : i ∉ ds := by decide) (hw : Region.wanted oi (yielded ops a.tmps) = true := by rfl)
    (hop : oi.op = .call { callee := .value (.func f), args := xs, argTypes := ts } := by rfl) (hname : (fn.name == "runtime.NumGoroutine") = false := by kernel_rfl) (hb : fn.body.isSome = true := by rfl)
    (hargs : xs.map a.eval = args := by (try simp only [List.map_toArray, List.map_cons, List.map_nil]); first | done | rfl) :
    wpAnyLast P .any ops Q (Sb w3) ds (fuel + 1) l a w := one_ l' hi hN (one_of HT.out hc) hd fun K hK => goes_ hf hname hb args hw hN hop hargs (h K (fun a' w' h1 h2 => hK.out a' w' h1 h2))
theorem qN (h : wpAnyLast P .any ops Q (Sb w3) ds fuel l a' w) (ha : a = a' := by show Act.put _ (some _) _ = _; simp only [Act.put, List.setIfInBounds_toArray, List.set_cons_zero, List.set_cons_succ, i64_w, i32_w]; rfl) : wpAnyLast P .any ops Q (Sb w3) ds fuel l a w := norm_ ha h
theorem qD (HT : Aside0 (rtab .any ops = T)) (h : Q .normal a w) (hr : (readyT T.2 l.toList == []) = true := by kernel_rfl) : wpAnyLast P .any ops Q (Sb w3) ds fuel l a w := done_ (done_of HT.out hr) h
theorem qO1 (i : Nat) (Ni : Option Tmp) (HT : Aside0 (rtab .any ops = T))
    (h : ∀ K : Act → World → Prop, Shut (∀ a' w', Sb w3 w' → (Sb w3 w' → wpAnyLast P .any ops Q (Sb w3) ds fuel l' a' w') → K a' w') → if Region.wanted oi (yielded ops a.tmps) = true then Oper.wp P oi a w K Q else K (a.put Ni undef) w)
    (hi : ops[i]? = some oi := by rfl) (hN : oi.dst = Ni := by rfl) (hl : l.setIfInBounds i true = l' := by simp only [List.setIfInBounds_toArray, List.set_cons_zero, List.set_cons_succ]; rfl) (hc : (readyT T.2 l.toList == [i] && l.toList.set i true == l'.toList) = true := by kernel_rfl) (hd : i ∉ ds := by decide) :
    wpAnyLast P .any ops Q (Sb w3) ds (fuel + 1) l a w := one_ l' hi hN (one_of HT.out hc) hd h
theorem qO2 {oj : Oper} {li lj : Array Bool} (i j : Nat) (Ni Nj : Option Tmp) (HT : Aside0 (rtab .any ops = T))
    (h1 : ∀ K : Act → World → Prop, Shut (∀ a' w', Sb w3 w' → (Sb w3 w' → wpAnyLast P .any ops Q (Sb w3) ds fuel li a' w') → K a' w') → if Region.wanted oi (yielded ops a.tmps) = true then Oper.wp P oi a w K Q else K (a.put Ni undef) w)
    (h2 : ∀ K : Act → World → Prop, Shut (∀ a' w', Sb w3 w' → (Sb w3 w' → wpAnyLast P .any ops Q (Sb w3) ds fuel lj a' w') → K a' w') → if Region.wanted oj (yielded ops a.tmps) = true then Oper.wp P oj a w K Q else K (a.put Nj undef) w)
    (hi : ops[i]? = some oi := by rfl) (hj : ops[j]? = some oj := by rfl) (hNi : oi.dst = Ni := by rfl) (hNj : oj.dst = Nj := by rfl)
    (hli : l.setIfInBounds i true = li := by simp only [List.setIfInBounds_toArray, List.set_cons_zero, List.set_cons_succ]; rfl) (hlj : l.setIfInBounds j true = lj := by simp only [List.setIfInBounds_toArray, List.set_cons_zero, List.set_cons_succ]; rfl)
    (hc : (readyT T.2 l.toList == [i, j] && l.toList.set i true == li.toList && l.toList.set j true == lj.toList) = true := by kernel_rfl) (hdi : i ∉ ds := by decide) (hdj : j ∉ ds := by decide) :
    wpAnyLast P .any ops Q (Sb w3) ds (fuel + 1) l a w := two_ li lj hi hj hNi hNj (two_of HT.out hc) hdi hdj h1 h2
section
variable {α : Type} {xs ys : List α} {inner : List Value} {K : Act → World → Prop} {N : Nat}
theorem qI0 (d : Kd α) (e N : Nat) (xs : List α) (inner : List Value) (hp : Reps (d.M w w.heap.size (fun _ => True)) d.sz xs inner) (h : ∀ A c w1, RowE d e w w1 A c xs → Bel w w1 → K (a.put (some N) (.slice A xs.length c)) w1)
    (hN : oi.dst = some N := by rfl) (hw : Region.wanted oi (yielded ops a.tmps) = true := by rfl) (hr : (execOp a.eval oi).run P w = .ok (.value (.slice (some ⟨w.heap.size, 0, none⟩) xs.length xs.length)) (w.alloc (.cells inner.toArray e)) := by first | (go_simp; done) | (go_simp; rfl)) (hl : xs.length ≤ 9223372036854775807 := by simp) :
    if Region.wanted oi (yielded ops a.tmps) = true then Oper.wp P oi a w K Q else K (a.put (some N) undef) w := by
  rw [← hN]
  refine Kd.R_lit_step d w.heap.size e hw hN (xs := xs) (inner := inner) (ok := fun _ => True) (okp := fun _ => True) hr hp (fun _ h => h) trivial (Below.refl _ _) (Nat.le_refl _) hl ?_
  intro v1 w1 ho hb _ _
  obtain ⟨A, c, rfl⟩ := Kd.R_slice ho
  rw [hN]
  exact h A c w1 ⟨ho⟩ ⟨hb⟩
theorem qI {a' : Option Addr → Nat → Act} (d : Kd α) (i e N : Nat) (xs : List α) (inner : List Value) (HT : Aside0 (rtab .any ops = T)) (hS : Sb w3 w) (hp : Reps (d.M w w.heap.size (fun _ => True)) d.sz xs inner) (h : ∀ A c w1, RowE d e w w1 A c xs → Bel w w1 → Sb w3 w1 → wpAnyLast P .any ops Q (Sb w3) ds fuel l' (a' A c) w1) (hi : ops[i]? = some oi := by rfl)
    (hN : oi.dst = some N := by rfl) (hl' : l.setIfInBounds i true = l' := by simp only [List.setIfInBounds_toArray, List.set_cons_zero, List.set_cons_succ]; rfl) (hc : (readyT T.2 l.toList == [i] && l.toList.set i true == l'.toList) = true := by kernel_rfl) (hd : i ∉ ds := by decide) (hw : Region.wanted oi (yielded ops a.tmps) = true := by rfl)
    (hr : (execOp a.eval oi).run P w = .ok (.value (.slice (some ⟨w.heap.size, 0, none⟩) xs.length xs.length)) (w.alloc (.cells inner.toArray e)) := by first | (go_simp; done) | (go_simp; rfl)) (hl : xs.length ≤ 9223372036854775807 := by simp)
    (ha : ∀ A c, a.put (some N) (.slice A xs.length c) = a' A c := by intro A c; simp only [Act.put, List.setIfInBounds_toArray, List.set_cons_zero, List.set_cons_succ, i64_w, i32_w]; rfl) :
    wpAnyLast P .any ops Q (Sb w3) ds (fuel + 1) l a w := one_ l' hi hN (one_of HT.out hc) hd fun K hK => qI0 d e N xs inner hp (fun A c w1 j b => hK.out _ _ (below_step hS b.out) fun _ => by rw [ha]; exact h A c w1 j b (below_step hS b.out)) hN hw hr hl
theorem qP {a' : Option Addr → Nat → Act} {A A2 : Option Addr} {c c2 e : Nat} (d : Kd α) (xs ys : List α) (i N : Nat) (so xo : Operand) (t : TypeId) (z : Value) (bytes : Nat) (HT : Aside0 (rtab .any ops = T)) (hS : Sb w3 w)
    (hu : P.underlying t = some (.slice e)) (hinfo : (P.info? e).map (fun i => (i.zero, i.size, i.bytes)) = some (some z, d.sz, bytes)) (hz : z.cells.size = d.sz) (hs0 : 0 < d.sz) (hb0 : 0 < bytes) (hKM : ∀ x cs, d.K w x cs → d.M w w3.heap.size (fun _ => False) x cs) (hlen : (xs.length + ys.length) * bytes ≤ 140737488355328)
    (h : ∀ A' c' w1, RowE d e w3 w1 A' c' (xs ++ ys) → Bel w3 w1 → Sb w3 w1 → wpAnyLast P .any ops Q (Sb w3) ds fuel l' (a' A' c') w1)
    (hi : ops[i]? = some oi := by rfl) (hN : oi.dst = some N := by rfl) (ho : oi.op = .call { callee := .builtin .append, args := #[so, xo], argTypes := #[t, t] } := by rfl) (hs : a.eval so = .slice A xs.length c := by rfl) (hx : a.eval xo = .slice A2 ys.length c2 := by rfl)
    (hl' : l.setIfInBounds i true = l' := by simp only [List.setIfInBounds_toArray, List.set_cons_zero, List.set_cons_succ]; rfl) (hc : (readyT T.2 l.toList == [i] && l.toList.set i true == l'.toList) = true := by kernel_rfl) (hd : i ∉ ds := by decide) (hw : Region.wanted oi (yielded ops a.tmps) = true := by rfl)
    (hR : d.R e w w3.heap.size (fun _ => True) (.slice A xs.length c) xs := by exact rowFin) (hR2 : d.C w A2 ys.length ys := by exact rowRd)
    (ha : ∀ A c, a.put (some N) (.slice A (xs ++ ys).length c) = a' A c := by intro A c; simp only [Act.put, List.setIfInBounds_toArray, List.set_cons_zero, List.set_cons_succ, i64_w, i32_w]; rfl) :
    wpAnyLast P .any ops Q (Sb w3) ds (fuel + 1) l a w := one_ l' hi hN (one_of HT.out hc) hd fun K hK => by
  rw [← hN]
  refine Kd.R_append_rows_step d (w0 := w3) w3.heap.size hw so xo t e z bytes ho hu hinfo hz hs0 hb0 (.slice A xs.length c) xs ys A2 ys.length c2 (fun _ => True) (fun _ => False) hs hx hR hR2 hKM (fun _ h => h.elim) (fun _ _ => trivial) hS hS.size hlen ?_
  intro v1 w1 ho2 hb _ _
  obtain ⟨A', c', rfl⟩ := Kd.R_slice ho2
  rw [hN]
  exact hK.out _ _ hb fun _ => by rw [ha]; exact h A' c' w1 ⟨ho2⟩ ⟨hb⟩ hb
end
end
class GrE (W : outParam World) (W' : World) (e : outParam Nat) : Prop where out : ∀ (g : Nat) (cs : Array Value) (t : TypeId), W.heap[g]? = some (.cells cs t (0, 0)) → e ≠ t → W'.heap[g]? = some (.cells cs t (0, 0))
class NeN (e t : Nat) : Prop where out : e ≠ t
section
variable {w w0 W W' : World} {g e t : Nat} {cs : Array Value}
instance [h : GrE W W' e] [k : Blk W g cs t] [n : NeN e t] : Blk W' g cs t := ⟨h.out g cs t k.out n.out⟩
theorem grE {α : Type} {d : Kd α} {v : Value} {xs : List α} {B : Nat} {ok : Nat → Prop} (h : d.R e W B ok v xs) (hg : W.grownBy W' v.ownBlock) : GrE W W' e := ⟨fun g cs t hb ht => blk_grown hb hg (Kd.R_ne h hb ht)⟩
theorem rowFin' {α : Type} {d : Kd α} {w1 w2 : World} {A : Option Addr} {c n : Nat} {xs : List α} [h : RowE d e w1 w2 A c xs] [k : Keep w1 w2 W] [l : From w w1] (hn : n = xs.length) : d.R e W w.heap.size (fun _ => True) (.slice A n c) xs := by rw [hn]; exact rowFin
theorem rowOf_ {α : Type} {d : Kd α} {v : Value} {xs : List α} (h : d.R e W w.heap.size (fun _ => True) v xs) : ∃ A c, v = .slice A xs.length c ∧ RowE d e w W A c xs := by
  obtain ⟨A, c, rfl⟩ := Kd.R_slice h
  exact ⟨A, c, rfl, ⟨h⟩⟩
class Dj (A B : Option Addr) : Prop where out : ∀ a b : Addr, A = some a → B = some b → a.block ≠ b.block
instance {B : Option Addr} : Dj none B := ⟨fun _ _ h => by cases h⟩
instance {A : Option Addr} : Dj A none := ⟨fun _ _ _ h => by cases h⟩
theorem rowBlk_ {e : Nat} {w1 w2 : World} {a : Addr} {c : Nat} {xs : List Int} (h : RowE (Kd.int .i64) e w1 w2 (some a) c xs) : w1.heap.size ≤ a.block ∧ a.block < w2.heap.size := ⟨Kd.R_base h.out a.block rfl, Kd.R_lt h.out a.block rfl⟩
instance {e e' : Nat} {w1 w2 w1' w2' : World} {A B : Option Addr} {c c' : Nat} {xs ys : List Int} [a : RowE (Kd.int .i64) e w1 w2 A c xs] [b : RowE (Kd.int .i64) e' w1' w2' B c' ys] [s : Sz w2 w1'] : Dj A B :=
  ⟨by rintro x y rfl rfl h; have h1 := rowBlk_ a; have h2 := rowBlk_ b; have := s.out; omega⟩
instance {e e' : Nat} {w1 w2 w1' w2' : World} {A B : Option Addr} {c c' : Nat} {xs ys : List Int} [a : RowE (Kd.int .i64) e w1 w2 A c xs] [b : RowE (Kd.int .i64) e' w1' w2' B c' ys] [s : Sz w2' w1] : Dj A B :=
  ⟨by rintro x y rfl rfl h; have h1 := rowBlk_ a; have h2 := rowBlk_ b; have := s.out; omega⟩
end
end Go.Proofs.YtanhnhkcpbdfmaaGreat.V
namespace Go.Proofs.YtanhnhkcpbdfmaaGreat.P
set_option maxHeartbeats 8000000
set_option maxRecDepth 100000
set_option synthInstance.maxHeartbeats 400000
set_option synthInstance.maxSize 100000
open Go.RowKit Go.Proofs.YtanhnhkcpbdfmaaGreatW.PrintWords Go.Proofs.YtanhnhkcpbdfmaaGreatW.PrintLast Go.Proofs.YtanhnhkcpbdfmaaGreatW.PrintMore Go.Proofs.YtanhnhkcpbdfmaaGreat.V
attribute [local go_sem] cell_b frozen_b cellR_c cell_r frozen_r cell_r0 frozen_r0
attribute [local go_sem] max2_int min2_int max_two min_two max_three min_three max_four min_four
def spec_WrongSteps.l0 : Nat → List Int → Int → List (S112) → Int → List Int → Option (List Int)
 | 0, _, _, _, _, _ => none
 | k + 1, x3, x4, x127000, x127001, x127002 => if x4 < x127001 then (if 0 ≤ x4 then (if x4 < (x127000.length : Int) then (if 0 ≤ ((rd_T112 x127000 x4).f1) then (if ((rd_T112 x127000 x4).f1) < (x127002.length : Int) then (if 0 ≤ ((rd_T112 x127000 x4).f0) then (if ((rd_T112 x127000 x4).f0) < (x127002.length : Int) then ((spec_TunedPitch.f k (rd x127002 ((rd_T112 x127000 x4).f0)) ((rd_T112 x127000 x4).f2) ((rd_T112 x127000 x4).f3)).bind fun t135 => (if (rd x127002 ((rd_T112 x127000 x4).f1)) = t135 then (spec_WrongSteps.l0 k x3 (wrap64 (x4 + 1)) x127000 x127001 x127002) else (if x3.length < 17592186044416 then (spec_WrongSteps.l0 k (x3 ++ [x4]) (wrap64 (x4 + 1)) x127000 x127001 x127002) else (none)))) else (none)) else (none)) else (none)) else (none)) else (none)) else (none)) else (some x3)
def spec_WrongSteps.f (k : Nat) (l0_0 : List (S112)) (a0_1 : Int) (l0_2 : List Int) : Option (List Int) := (some (([] : List Int) : List Int)).bind fun y127 => ((spec_WorkOk.f k l0_0 a0_1 l0_2).bind fun t130 => (if t130 = true then (spec_WrongSteps.l0 k y127 0 l0_0 a0_1 l0_2) else (some y127)))
def spec_WrongSteps.T8 : Bool × List (List Nat × List Nat) := (true, [([], []), ([0], [0]), ([], []), ([2], [2]), ([1, 3], [1, 3]), ([4], [4]), ([], []), ([6], [6]), ([], []), ([8], [8]), ([7, 9], [7, 9]), ([10], [10]), ([], []), ([12], [12]), ([], []), ([14], [14]), ([11, 13, 15], [11, 13, 15]), ([5, 16], [5, 16])])
def spec_WrongSteps.B8 : List Nat := [0, 1, 0, 4, 15, 31, 0, 64, 0, 256, 960, 1984, 0, 4096, 0, 16384, 65472, 131071]
theorem spec_WrongSteps.tab8 : rtab .any (opsOf Tryz.f83 8) = spec_WrongSteps.T8 := by kernel_rfl
theorem spec_WrongSteps.bits8 : waitsOk spec_WrongSteps.T8.2 spec_WrongSteps.B8 = true := by kernel_rfl
theorem spec_WrongSteps.calls (k : Nat) (A0_0 : Option Addr) (c0_0 : Nat) (l0_0 : List (S112)) (a0_1 : Int) (A0_2 : Option Addr) (c0_2 : Nat) (l0_2 : List Int) (r : List Int) (w : World) (hr0_0 : Kd.C k112 w A0_0 l0_0.length l0_0) (hc0_0 : l0_0.length ≤ c0_0) (hr0_2 : Kd.C (Kd.int .i64) w A0_2 l0_2.length l0_2) (hc0_2 : l0_2.length ≤ c0_2) (h : spec_WrongSteps.f k l0_0 a0_1 l0_2 = some r) :
  Calls Tryz.prog 83 #[.agg #[.slice A0_0 l0_0.length c0_0, .int .i64 a0_1, .slice A0_2 l0_2.length c0_2]] w fun e w' => ∃ v0_ : Value, e = .returned (v0_) ∧ Kd.R (Kd.int .i64) 3 w' w.heap.size (fun _ => True) v0_ r ∧ Below w.heap.size w w' := by
 have ihr0_0 := RdE.mk hr0_0
 have ihc0_0 := LeI.mk hc0_0
 have ihr0_2 := RdE.mk hr0_2
 have ihc0_2 := LeI.mk hc0_2
 clear hr0_0 hc0_0 hr0_2 hc0_2
 have nn3_34 := NeN.mk (e := 3) (t := 34) (by decide)
 have nn3_112 := NeN.mk (e := 3) (t := 112) (by decide)
 unfold spec_WrongSteps.f at h
 (try simp only [Option.bind_some] at h)
 have hu34 := Tryz.underlying34
 have hu112 := Tryz.underlying112
 (repeat' first | ((with_reducible replace h := ite_some h); rcases h with ⟨hc, h⟩ | ⟨hc, h⟩ <;> first | exact (none_some h).elim | exact absurd hc (by decide) | subst hc | (replace hc := hF_ hc; subst hc) | (replace hc := hG_ hc; subst hc) | (replace hc := hH_ hc; subst hc) | (have hd : (_ == _) = true := hc) | (have hd : (_ == _) = false := hF_ hc) | (have hd := hI_ hc; have he := hJ_ hc; clear hc) | (have hd := hK_ hc; have he := hL_ hc) | (have hd := decide_eq_false hc) | (have hd := decide_eq_true hc; (try (have hn := Int.natCast_pos.mp hc; have hm := decide_eq_true hn; replace hn := eq_true hn)); first | (obtain ⟨g_, e_, i_⟩ := form_ (by assumption) (by first | assumption | decide) hc; cases e_) | (obtain ⟨a_, e_, c_⟩ := atI_ (by assumption) (by first | assumption | decide) hc; cases e_) | (obtain ⟨a_, e_, c0_, c1_, c2_, c3_⟩ := at_T112 (RdE.out (self := by assumption)) _ (by first | assumption | decide) hc; cases e_; replace c0_ := CelE.mk c0_; replace c1_ := CelE.mk c1_; replace c2_ := CelE.mk c2_; replace c3_ := CelE.mk c3_)) | (have hd := decide_eq_true hc) | skip) | ((with_reducible replace h := bind_set_ h); obtain ⟨hl_, h⟩ := h; replace hl_ := A_ hl_; (try dsimp only at h)))
 all_goals go_enter Tryz.func83, Tryz.ntmps83
 all_goals go_wp2_with ((first
  | ((with_reducible refine gate_dst (N := 1) rfl ?_); refine box_event rfl (N := 1) rfl (cs := #[.slice A0_0 l0_0.length c0_0, .int .i64 a0_1, .slice A0_2 l0_2.length c0_2]) (t := 34) (by first | (go_simp; done) | (go_simp; rfl)) ?_; intro g1 hg w1 hk hb; have j1 := Born.mk hg; have j2 := Bel.mk hb; have j3 := Blk.mk hk; clear hg hb hk)
  | ((with_reducible refine gate_dst (N := 5) rfl ?_); refine box_event rfl (N := 5) rfl (cs := #[.int .i64 0, .int .i64 0, .int .i64 0, .int .i64 0]) (t := 112) (by first | (go_simp; done) | (go_simp; rfl)) ?_; intro g5 hg w1 hk hb; have j1 := Born.mk hg; have j2 := Bel.mk hb; have j3 := Blk.mk hk; clear hg hb hk)
  | ((with_reducible refine gate_dst (N := 6) rfl ?_); refine Kd.R_lit (Kd.int .i64) _ 3 ?hg (N := 6) ?hd (xs := ([] : List Int)) (inner := []) (ok := fun _ => True) (okp := fun _ => True) ?hr ?hp (fun _ hk => hk) trivial (Below.refl _ _) (Nat.le_refl _) (by simp) ?_; (case hd => rfl); (case hg => rfl); (case hr => first | (go_simp; done) | (go_simp; rfl)); (case hp => exact (Reps.none _ _)); intro v5 w5 ho hb hg_ hn_; obtain ⟨A5, c5, rfl⟩ := Kd.R_slice ho; have j5 := RowE.mk ho; have q5 := LeI.mk (rowLe j5); have j6 := Bel.mk hb; clear hg_ hn_ ho hb)
  | (go_at_call 86; (try rw [hl_.out]); replace h := Option.bind_eq_some_iff.mp h; obtain ⟨t, A, h⟩ := h; (try dsimp only at h); refine (spec_WorkOk.calls _ _ _ _ _ _ _ _ _ _ Rd.out LeI.out Rd.out LeI.out A).mono ?_; rintro e w2 ⟨rfl, hb⟩; have jb := Bel.mk hb; clear A hb)
  | (refine qR (id := 8) (ds := []) (l := #[false, false, false, false, false, false, false, false, false, false, false, false, false, false, false, false, false, false]) spec_WrongSteps.tab8 spec_WrongSteps.bits8 ?_; intro HT_ HW_ w3 jw u0 iu hHeld; refine qA 0 (some 22) HT_ ?_; refine qA 2 (some 24) HT_ ?_; refine qA 6 (some 28) HT_ ?_; refine qA 8 (some 30) HT_ ?_; refine qA 12 (some 34) HT_ ?_; refine qA 14 (some 36) HT_ ?_; refine qT 1 (some 23) HT_ HW_ hHeld ?_; refine qT 3 (some 25) HT_ HW_ hHeld ?_; refine qA 4 (some 26) HT_ ?_; refine qT 5 (some 27) HT_ HW_ hHeld ?_; refine qT 7 (some 29) HT_ HW_ hHeld ?_; refine qT 9 (some 31) HT_ HW_ hHeld ?_; refine qA 10 (some 32) HT_ ?_; refine qT 11 (some 33) HT_ HW_ hHeld ?_; refine qT 13 (some 35) HT_ HW_ hHeld ?_; refine qT 15 (some 37) HT_ HW_ hHeld ?_; replace h := Option.bind_eq_some_iff.mp h; obtain ⟨t, A, h⟩ := h; (try dsimp only at h); refine qC 16 38 Tryz.func122 HT_ fun K hK => ?_; refine (spec_TunedPitch.calls _ _ _ _ _ _ A).mono ?_; rintro e w2 ⟨rfl, hb⟩; have jb := Bel.mk hb; clear A hb; refine ⟨_, rfl, hK _ _ From.out fun hHeld => ?_⟩; clear hK K; refine qN ?_; refine qA 17 (some 39) HT_ ?_; refine qD HT_ ?_)
  | ((with_reducible refine gate_builtin (b := .append) (xs := #[.tmp 40, .tmp 42]) rfl ?_); at_builtin; refine Kd.R_append (Kd.int .i64) (w0 := w) w.heap.size rfl (.tmp 40) (.tmp 42) 23 3 (.int .i64 0) 8 rfl Tryz.underlying23 info3 rfl (by decide) (by omega) (.slice A90 x3_1.length c90) x3_1 x4_1 [.int .i64 x4_1] (fun _ => True) (fun _ => False) rfl rfl ?aP (fun _ hk => hk.elim) ?aF ?aO ?aB ?aS ?aL ?_; (case aP => exact rfl); (case aO => exact rowFin); (case aB => exact From.out); (case aF => exact (fun _ _ => trivial)); (case aS => exact (From.out (w0 := w)).size); (case aL => omega); intro v7 w7 ho hb hg hat; have jg := grE (rowFin (w := w) (d := (Kd.int .i64))) hg; obtain ⟨A7, c7, rfl, j7⟩ := rowOf_ ho; have q7 := LeI.mk (rowLe j7); have jf : From w w7 := ⟨hb⟩; have js : Sz w w7 := ⟨hb.size⟩; clear ho hb hg hat)); (repeat' first | ((with_reducible replace h := ite_some h); rcases h with ⟨hc, h⟩ | ⟨hc, h⟩ <;> first | exact (none_some h).elim | exact absurd hc (by decide) | subst hc | (replace hc := hF_ hc; subst hc) | (replace hc := hG_ hc; subst hc) | (replace hc := hH_ hc; subst hc) | (have hd : (_ == _) = true := hc) | (have hd : (_ == _) = false := hF_ hc) | (have hd := hI_ hc; have he := hJ_ hc; clear hc) | (have hd := hK_ hc; have he := hL_ hc) | (have hd := decide_eq_false hc) | (have hd := decide_eq_true hc; (try (have hn := Int.natCast_pos.mp hc; have hm := decide_eq_true hn; replace hn := eq_true hn)); first | (obtain ⟨g_, e_, i_⟩ := form_ (by assumption) (by first | assumption | decide) hc; cases e_) | (obtain ⟨a_, e_, c_⟩ := atI_ (by assumption) (by first | assumption | decide) hc; cases e_) | (obtain ⟨a_, e_, c0_, c1_, c2_, c3_⟩ := at_T112 (RdE.out (self := by assumption)) _ (by first | assumption | decide) hc; cases e_; replace c0_ := CelE.mk c0_; replace c1_ := CelE.mk c1_; replace c2_ := CelE.mk c2_; replace c3_ := CelE.mk c3_)) | (have hd := decide_eq_true hc) | skip) | ((with_reducible replace h := bind_set_ h); obtain ⟨hl_, h⟩ := h; replace hl_ := A_ hl_; (try dsimp only at h))))
 all_goals first
  | ((try obtain rfl := Option.some.inj h); go_ret; exact ⟨(.slice _ _ _), rfl, (by first | exact rowFin | exact rowFin' rfl | exact rowFin' (by simp) | exact Kd.R_nil _ _ _ _ _ | exact atFin | exact irowFin' (by simp)), From.out⟩)
  | skip
 go_loopg [3, 4] k (fun kq v3 v4 w' => ∃ (x3_1 : List Int) (x4_1 : Int), v4 = .int .i64 x4_1 ∧ Aside0 (spec_WrongSteps.l0 kq x3_1 x4_1 l0_0 a0_1 l0_2 = some r) ∧ Aside0 (kq ≤ k) ∧ Aside0 (Kd.R (Kd.int .i64) 3 w' w.heap.size (fun _ => True) v3 x3_1) ∧ Aside0 (w'.heap[g1]? = some (.cells #[(.slice A0_0 l0_0.length c0_0), .int .i64 a0_1, (.slice A0_2 l0_2.length c0_2)] 34 (0, 0))) ∧ Aside0 (Below w.heap.size w w'))
 case atStart => exact ⟨_, _, (by first | rfl | (simp; done)), ⟨h⟩, ⟨Nat.le_refl _⟩, ⟨by first | exact rowFin | exact rowFin' rfl | exact rowFin' (by simp) | exact Kd.R_nil _ _ _ _ _⟩, ⟨Blk.out⟩, ⟨From.out⟩⟩
 case round =>
  clear h
  obtain ⟨x3_1, x4_1, rfl, HA, HK1, HO_3, BK126, HB⟩ := hrel
  rcases gk with _ | k1
  ·exact absurd HA.out (by simp [spec_WrongSteps.l0])
  have h := HA.out
  clear HA
  simp only [spec_WrongSteps.l0] at h
  obtain ⟨A90, c90, rfl, j90⟩ := rowOf_ HO_3.out; have q90 := LeI.mk (rowLe j90); clear HO_3
  have BK126_ := Blk.mk BK126.out; clear BK126
  have HB_ : From w wr := ⟨HB.out⟩; have HS_ : Sz w wr := ⟨HB.out.size⟩; clear HB
  (repeat' first | ((with_reducible replace h := ite_some h); rcases h with ⟨hc, h⟩ | ⟨hc, h⟩ <;> first | exact (none_some h).elim | exact absurd hc (by decide) | subst hc | (replace hc := hF_ hc; subst hc) | (replace hc := hG_ hc; subst hc) | (replace hc := hH_ hc; subst hc) | (have hd : (_ == _) = true := hc) | (have hd : (_ == _) = false := hF_ hc) | (have hd := hI_ hc; have he := hJ_ hc; clear hc) | (have hd := hK_ hc; have he := hL_ hc) | (have hd := decide_eq_false hc) | (have hd := decide_eq_true hc; (try (have hn := Int.natCast_pos.mp hc; have hm := decide_eq_true hn; replace hn := eq_true hn)); first | (obtain ⟨g_, e_, i_⟩ := form_ (by assumption) (by first | assumption | decide) hc; cases e_) | (obtain ⟨a_, e_, c_⟩ := atI_ (by assumption) (by first | assumption | decide) hc; cases e_) | (obtain ⟨a_, e_, c0_, c1_, c2_, c3_⟩ := at_T112 (RdE.out (self := by assumption)) _ (by first | assumption | decide) hc; cases e_; replace c0_ := CelE.mk c0_; replace c1_ := CelE.mk c1_; replace c2_ := CelE.mk c2_; replace c3_ := CelE.mk c3_)) | (have hd := decide_eq_true hc) | skip) | ((with_reducible replace h := bind_set_ h); obtain ⟨hl_, h⟩ := h; replace hl_ := A_ hl_; (try dsimp only at h)))
  all_goals go_wp2_with ((first
   | ((with_reducible refine gate_dst (N := 1) rfl ?_); refine box_event rfl (N := 1) rfl (cs := #[.slice A0_0 l0_0.length c0_0, .int .i64 a0_1, .slice A0_2 l0_2.length c0_2]) (t := 34) (by first | (go_simp; done) | (go_simp; rfl)) ?_; intro g1 hg w1 hk hb; have j1 := Born.mk hg; have j2 := Bel.mk hb; have j3 := Blk.mk hk; clear hg hb hk)
   | ((with_reducible refine gate_dst (N := 5) rfl ?_); refine box_event rfl (N := 5) rfl (cs := #[.int .i64 0, .int .i64 0, .int .i64 0, .int .i64 0]) (t := 112) (by first | (go_simp; done) | (go_simp; rfl)) ?_; intro g5 hg w1 hk hb; have j1 := Born.mk hg; have j2 := Bel.mk hb; have j3 := Blk.mk hk; clear hg hb hk)
   | ((with_reducible refine gate_dst (N := 6) rfl ?_); refine Kd.R_lit (Kd.int .i64) _ 3 ?hg (N := 6) ?hd (xs := ([] : List Int)) (inner := []) (ok := fun _ => True) (okp := fun _ => True) ?hr ?hp (fun _ hk => hk) trivial (Below.refl _ _) (Nat.le_refl _) (by simp) ?_; (case hd => rfl); (case hg => rfl); (case hr => first | (go_simp; done) | (go_simp; rfl)); (case hp => exact (Reps.none _ _)); intro v5 w5 ho hb hg_ hn_; obtain ⟨A5, c5, rfl⟩ := Kd.R_slice ho; have j5 := RowE.mk ho; have q5 := LeI.mk (rowLe j5); have j6 := Bel.mk hb; clear hg_ hn_ ho hb)
   | (go_at_call 86; (try rw [hl_.out]); replace h := Option.bind_eq_some_iff.mp h; obtain ⟨t, A, h⟩ := h; (try dsimp only at h); refine (spec_WorkOk.calls _ _ _ _ _ _ _ _ _ _ Rd.out LeI.out Rd.out LeI.out A).mono ?_; rintro e w2 ⟨rfl, hb⟩; have jb := Bel.mk hb; clear A hb)
   | (refine qR (id := 8) (ds := []) (l := #[false, false, false, false, false, false, false, false, false, false, false, false, false, false, false, false, false, false]) spec_WrongSteps.tab8 spec_WrongSteps.bits8 ?_; intro HT_ HW_ w3 jw u0 iu hHeld; refine qA 0 (some 22) HT_ ?_; refine qA 2 (some 24) HT_ ?_; refine qA 6 (some 28) HT_ ?_; refine qA 8 (some 30) HT_ ?_; refine qA 12 (some 34) HT_ ?_; refine qA 14 (some 36) HT_ ?_; refine qT 1 (some 23) HT_ HW_ hHeld ?_; refine qT 3 (some 25) HT_ HW_ hHeld ?_; refine qA 4 (some 26) HT_ ?_; refine qT 5 (some 27) HT_ HW_ hHeld ?_; refine qT 7 (some 29) HT_ HW_ hHeld ?_; refine qT 9 (some 31) HT_ HW_ hHeld ?_; refine qA 10 (some 32) HT_ ?_; refine qT 11 (some 33) HT_ HW_ hHeld ?_; refine qT 13 (some 35) HT_ HW_ hHeld ?_; refine qT 15 (some 37) HT_ HW_ hHeld ?_; replace h := Option.bind_eq_some_iff.mp h; obtain ⟨t, A, h⟩ := h; (try dsimp only at h); refine qC 16 38 Tryz.func122 HT_ fun K hK => ?_; refine (spec_TunedPitch.calls _ _ _ _ _ _ A).mono ?_; rintro e w2 ⟨rfl, hb⟩; have jb := Bel.mk hb; clear A hb; refine ⟨_, rfl, hK _ _ From.out fun hHeld => ?_⟩; clear hK K; refine qN ?_; refine qA 17 (some 39) HT_ ?_; refine qD HT_ ?_)
   | ((with_reducible refine gate_builtin (b := .append) (xs := #[.tmp 40, .tmp 42]) rfl ?_); at_builtin; refine Kd.R_append (Kd.int .i64) (w0 := w) w.heap.size rfl (.tmp 40) (.tmp 42) 23 3 (.int .i64 0) 8 rfl Tryz.underlying23 info3 rfl (by decide) (by omega) (.slice A90 x3_1.length c90) x3_1 x4_1 [.int .i64 x4_1] (fun _ => True) (fun _ => False) rfl rfl ?aP (fun _ hk => hk.elim) ?aF ?aO ?aB ?aS ?aL ?_; (case aP => exact rfl); (case aO => exact rowFin); (case aB => exact From.out); (case aF => exact (fun _ _ => trivial)); (case aS => exact (From.out (w0 := w)).size); (case aL => omega); intro v7 w7 ho hb hg hat; have jg := grE (rowFin (w := w) (d := (Kd.int .i64))) hg; obtain ⟨A7, c7, rfl, j7⟩ := rowOf_ ho; have q7 := LeI.mk (rowLe j7); have jf : From w w7 := ⟨hb⟩; have js : Sz w w7 := ⟨hb.size⟩; clear ho hb hg hat)); (repeat' first | ((with_reducible replace h := ite_some h); rcases h with ⟨hc, h⟩ | ⟨hc, h⟩ <;> first | exact (none_some h).elim | exact absurd hc (by decide) | subst hc | (replace hc := hF_ hc; subst hc) | (replace hc := hG_ hc; subst hc) | (replace hc := hH_ hc; subst hc) | (have hd : (_ == _) = true := hc) | (have hd : (_ == _) = false := hF_ hc) | (have hd := hI_ hc; have he := hJ_ hc; clear hc) | (have hd := hK_ hc; have he := hL_ hc) | (have hd := decide_eq_false hc) | (have hd := decide_eq_true hc; (try (have hn := Int.natCast_pos.mp hc; have hm := decide_eq_true hn; replace hn := eq_true hn)); first | (obtain ⟨g_, e_, i_⟩ := form_ (by assumption) (by first | assumption | decide) hc; cases e_) | (obtain ⟨a_, e_, c_⟩ := atI_ (by assumption) (by first | assumption | decide) hc; cases e_) | (obtain ⟨a_, e_, c0_, c1_, c2_, c3_⟩ := at_T112 (RdE.out (self := by assumption)) _ (by first | assumption | decide) hc; cases e_; replace c0_ := CelE.mk c0_; replace c1_ := CelE.mk c1_; replace c2_ := CelE.mk c2_; replace c3_ := CelE.mk c3_)) | (have hd := decide_eq_true hc) | skip) | ((with_reducible replace h := bind_set_ h); obtain ⟨hl_, h⟩ := h; replace hl_ := A_ hl_; (try dsimp only at h))))
  all_goals first
   | (go_roundg k1; (case measure => have := HK1.out; omega); (case rel => exact ⟨_, _, (by first | rfl | (simp; done)), ⟨h⟩, ⟨by have := HK1.out; omega⟩, ⟨by first | exact rowFin | exact rowFin' rfl | exact rowFin' (by simp) | exact Kd.R_nil _ _ _ _ _⟩, ⟨Blk.out⟩, ⟨From.out⟩⟩))
   | ((try obtain rfl := Option.some.inj h); go_ret; exact ⟨(.slice _ _ _), rfl, (by first | exact rowFin | exact rowFin' rfl | exact rowFin' (by simp) | exact Kd.R_nil _ _ _ _ _ | exact atFin | exact irowFin' (by simp)), From.out⟩)
def spec_ActOk.j0 : Nat → Int → Bool → Int → Int → Int → Int → Option (Bool)
 | 0, _, _, _, _, _, _ => none
 | k + 1, x4, x5, x183000, x183001, x183002, x183003 => if x5 = true then (if x183001 = 0 then (if x183002 = 0 then (some (x183003 == 0)) else (some false)) else (some false)) else (if x4 = 2 then ((spec_l01In.f x183001 (-10) 40).bind fun t183 => (if t183 = true then (if x183002 = 0 then (some (x183003 == 0)) else (some false)) else (some false))) else (if x4 = 3 then ((spec_l01In.f x183001 0 3).bind fun t184 => (if t184 = true then ((spec_l01In.f x183002 0 39).bind fun t185 => (if t185 = true then ((spec_l01In.f x183003 0 2).bind fun t186 => (some t186)) else (some false))) else (some false))) else (if x4 = 4 then ((spec_l01In.f x183001 0 11).bind fun t187 => (if t187 = true then ((spec_l01In.f x183002 (-100000) 100000).bind fun t188 => (if t188 = true then (some (x183003 == 0)) else (some false))) else (some false))) else (if x4 = 7 then ((spec_l01In.f x183001 0 11).bind fun t189 => (if t189 = true then (if x183002 = 0 then (some (x183003 == 0)) else (some false)) else (some false))) else (some false)))))
def spec_ActOk.f (k : Nat) (a0_0 : Int) (a0_1 : Int) (a0_2 : Int) (a0_3 : Int) : Option (Bool) := if a0_0 = 1 then (spec_ActOk.j0 k a0_0 (a0_0 == 1) a0_0 a0_1 a0_2 a0_3) else (if a0_0 = 5 then (spec_ActOk.j0 k a0_0 (a0_0 == 5) a0_0 a0_1 a0_2 a0_3) else (spec_ActOk.j0 k a0_0 (a0_0 == 6) a0_0 a0_1 a0_2 a0_3))
theorem spec_ActOk.calls (k : Nat) (a0_0 : Int) (a0_1 : Int) (a0_2 : Int) (a0_3 : Int) (r : Bool) (w : World) (h : spec_ActOk.f k a0_0 a0_1 a0_2 a0_3 = some r) :
  Calls Tryz.prog 46 #[.agg #[.int .i64 a0_0, .int .i64 a0_1, .int .i64 a0_2, .int .i64 a0_3]] w fun e w' => e = .returned (.bool r) ∧ Below w.heap.size w w' := by
 unfold spec_ActOk.f at h
 have hu41 := Tryz.underlying41
 (repeat' first | ((with_reducible replace h := ite_some h); rcases h with ⟨hc, h⟩ | ⟨hc, h⟩ <;> first | exact (none_some h).elim | exact absurd hc (by decide) | subst hc | (replace hc := hF_ hc; subst hc) | (replace hc := hG_ hc; subst hc) | (replace hc := hH_ hc; subst hc) | (have hd : (_ == _) = true := hc) | (have hd : (_ == _) = false := hF_ hc) | (have hd := hI_ hc; have he := hJ_ hc; clear hc) | (have hd := hK_ hc; have he := hL_ hc) | (have hd := decide_eq_false hc) | (have hd := decide_eq_true hc; (try (have hn := Int.natCast_pos.mp hc; have hm := decide_eq_true hn; replace hn := eq_true hn)); first | (obtain ⟨g_, e_, i_⟩ := form_ (by assumption) (by first | assumption | decide) hc; cases e_) | (obtain ⟨a_, e_, c_⟩ := atI_ (by assumption) (by first | assumption | decide) hc; cases e_)) | (have hd := decide_eq_true hc) | skip) | ((with_reducible have hj : spec_ActOk.j0 k _ _ _ _ _ _ = _ := h); clear hj; rcases k with _ | k <;> rw [spec_ActOk.j0] at h <;> first | exact (none_some h).elim | skip) | ((with_reducible replace h := bind_set_ h); obtain ⟨hl_, h⟩ := h; replace hl_ := A_ hl_; (try dsimp only at h)))
 all_goals go_enter Tryz.func46, Tryz.ntmps46
 all_goals go_wp2_with ((first
  | ((with_reducible refine gate_dst (N := 1) rfl ?_); refine box_event rfl (N := 1) rfl (cs := #[.int .i64 a0_0, .int .i64 a0_1, .int .i64 a0_2, .int .i64 a0_3]) (t := 41) (by first | (go_simp; done) | (go_simp; rfl)) ?_; intro g hg w1 hk hb; have j1 := Born.mk hg; have j2 := Bel.mk hb; have j3 := Blk.mk hk; clear hg hb hk)
  | (go_at_call 88; (try rw [hl_.out]); replace h := Option.bind_eq_some_iff.mp h; obtain ⟨t, A, h⟩ := h; (try dsimp only at h); refine (spec_l01In.calls _ _ _ _ _ A).mono ?_; rintro e w2 ⟨rfl, n, rfl⟩; clear A)); (repeat' first | ((with_reducible replace h := ite_some h); rcases h with ⟨hc, h⟩ | ⟨hc, h⟩ <;> first | exact (none_some h).elim | exact absurd hc (by decide) | subst hc | (replace hc := hF_ hc; subst hc) | (replace hc := hG_ hc; subst hc) | (replace hc := hH_ hc; subst hc) | (have hd : (_ == _) = true := hc) | (have hd : (_ == _) = false := hF_ hc) | (have hd := hI_ hc; have he := hJ_ hc; clear hc) | (have hd := hK_ hc; have he := hL_ hc) | (have hd := decide_eq_false hc) | (have hd := decide_eq_true hc; (try (have hn := Int.natCast_pos.mp hc; have hm := decide_eq_true hn; replace hn := eq_true hn)); first | (obtain ⟨g_, e_, i_⟩ := form_ (by assumption) (by first | assumption | decide) hc; cases e_) | (obtain ⟨a_, e_, c_⟩ := atI_ (by assumption) (by first | assumption | decide) hc; cases e_)) | (have hd := decide_eq_true hc) | skip) | ((with_reducible have hj : spec_ActOk.j0 k _ _ _ _ _ _ = _ := h); clear hj; rcases k with _ | k <;> rw [spec_ActOk.j0] at h <;> first | exact (none_some h).elim | skip) | ((with_reducible replace h := bind_set_ h); obtain ⟨hl_, h⟩ := h; replace hl_ := A_ hl_; (try dsimp only at h))))
 all_goals obtain rfl := Option.some.inj h
 all_goals go_ret
 all_goals exact ⟨(by first | rfl | (simp_all; done)), From.out⟩
def spec_MendStep.f (k : Nat) (l0_0 : List (S112)) (a0_1 : Int) (l0_2 : List Int) : Option ((List (S112)) × Int × List Int × Bool) := (spec_l36Copy.f l0_0 a0_1 l0_2).bind fun bt192 => ((spec_WrongSteps.f k l0_0 a0_1 l0_2).bind fun t200 => (if (t200.length : Int) = 0 then (some (bt192.1, bt192.2.1, bt192.2.2, false)) else (if 0 < (t200.length : Int) then (if 0 ≤ (rd t200 0) then (if (rd t200 0) < (l0_0.length : Int) then (if 0 ≤ ((rd_T112 l0_0 (rd t200 0)).f0) then (if ((rd_T112 l0_0 (rd t200 0)).f0) < (l0_2.length : Int) then ((spec_TunedPitch.f k (rd l0_2 ((rd_T112 l0_0 (rd t200 0)).f0)) ((rd_T112 l0_0 (rd t200 0)).f2) ((rd_T112 l0_0 (rd t200 0)).f3)).bind fun t207 => (if t207 = 0 then (some (bt192.1, bt192.2.1, bt192.2.2, false)) else (if 0 ≤ ((rd_T112 l0_0 (rd t200 0)).f1) then (if ((rd_T112 l0_0 (rd t200 0)).f1) < (bt192.2.2.length : Int) then (some (bt192.1, bt192.2.1, (bt192.2.2.set (((rd_T112 l0_0 (rd t200 0)).f1) : Int).toNat t207), true)) else (none)) else (none)))) else (none)) else (none)) else (none)) else (none)) else (none))))
def spec_MendStep.T5 : Bool × List (List Nat × List Nat) := (true, [([], []), ([0], [0]), ([], []), ([2], [2]), ([3], [3]), ([1, 4], [1, 4]), ([5], [5]), ([], []), ([7, 6, 0, 1, 2, 3, 4, 5, 6, 7], [6, 7])])
def spec_MendStep.B5 : List Nat := [0, 1, 0, 4, 12, 31, 63, 0, 255]
theorem spec_MendStep.tab5 : rtab .any (opsOf Tryz.f97 5) = spec_MendStep.T5 := by kernel_rfl
theorem spec_MendStep.bits5 : waitsOk spec_MendStep.T5.2 spec_MendStep.B5 = true := by kernel_rfl
def spec_MendStep.T6 : Bool × List (List Nat × List Nat) := (true, [([], []), ([0], [0]), ([], []), ([2], [2]), ([1, 3], [1, 3]), ([4], [4]), ([], []), ([6], [6]), ([], []), ([8], [8]), ([5, 7, 9], [5, 7, 9]), ([10, 10, 0, 1, 2, 3, 4, 5, 6, 7, 8, 9, 10], [10])])
def spec_MendStep.B6 : List Nat := [0, 1, 0, 4, 15, 31, 0, 64, 0, 256, 1023, 2047]
theorem spec_MendStep.tab6 : rtab .any (opsOf Tryz.f97 6) = spec_MendStep.T6 := by kernel_rfl
theorem spec_MendStep.bits6 : waitsOk spec_MendStep.T6.2 spec_MendStep.B6 = true := by kernel_rfl
theorem spec_MendStep.calls (k : Nat) (A0_0 : Option Addr) (c0_0 : Nat) (l0_0 : List (S112)) (a0_1 : Int) (A0_2 : Option Addr) (c0_2 : Nat) (l0_2 : List Int) (r1 : List (S112)) (r2 : Int) (r3 : List Int) (r4 : Bool) (w : World) (hr0_0 : Kd.C k112 w A0_0 l0_0.length l0_0) (hc0_0 : l0_0.length ≤ c0_0) (hr0_2 : Kd.C (Kd.int .i64) w A0_2 l0_2.length l0_2) (hc0_2 : l0_2.length ≤ c0_2) (h : spec_MendStep.f k l0_0 a0_1 l0_2 = some (r1, r2, r3, r4)) :
  Calls Tryz.prog 97 #[.agg #[.slice A0_0 l0_0.length c0_0, .int .i64 a0_1, .slice A0_2 l0_2.length c0_2]] w fun e w' => ∃ v0_ v2_ : Value, e = .returned (.tuple #[.agg #[v0_, .int .i64 r2, v2_], .bool r4]) ∧ Kd.R k112 112 w' w.heap.size (fun _ => True) v0_ r1 ∧ Kd.R (Kd.int .i64) 3 w' w.heap.size (fun _ => True) v2_ r3 ∧ Below w.heap.size w w' := by
 replace hr0_0 := RdE.mk hr0_0
 replace hc0_0 := LeI.mk hc0_0
 replace hr0_2 := RdE.mk hr0_2
 replace hc0_2 := LeI.mk hc0_2
 have nt112_3 := NeT.mk (d := k112) (e := 112) (t := 3) (by decide)
 have nt112_34 := NeT.mk (d := k112) (e := 112) (t := 34) (by decide)
 unfold spec_MendStep.f at h
 have hu34 := Tryz.underlying34
 have hu112 := Tryz.underlying112
 (repeat' first | ((with_reducible replace h := ite_some h); rcases h with ⟨hc, h⟩ | ⟨hc, h⟩ <;> first | exact (none_some h).elim | exact absurd hc (by decide) | subst hc | (replace hc := hF_ hc; subst hc) | (replace hc := hG_ hc; subst hc) | (replace hc := hH_ hc; subst hc) | (have hd : (_ == _) = true := hc) | (have hd : (_ == _) = false := hF_ hc) | (have hd := hI_ hc; have he := hJ_ hc; clear hc) | (have hd := hK_ hc; have he := hL_ hc) | (have hd := decide_eq_false hc) | (have hd := decide_eq_true hc; (try (have hn := Int.natCast_pos.mp hc; have hm := decide_eq_true hn; replace hn := eq_true hn)); first | (obtain ⟨g_, e_, i_⟩ := form_ (by assumption) (by first | assumption | decide) hc; cases e_) | (obtain ⟨a_, e_, c_⟩ := atI_ (by assumption) (by first | assumption | decide) hc; cases e_) | (obtain ⟨a_, e_, c0_, c1_, c2_, c3_⟩ := at_T112 (RdE.out (self := by assumption)) _ (by first | assumption | decide) hc; cases e_; replace c0_ := CelE.mk c0_; replace c1_ := CelE.mk c1_; replace c2_ := CelE.mk c2_; replace c3_ := CelE.mk c3_)) | (have hd := decide_eq_true hc) | skip) | ((with_reducible replace h := bind_set_ h); obtain ⟨hl_, h⟩ := h; replace hl_ := A_ hl_; (try dsimp only at h)))
 all_goals go_enter Tryz.func97, Tryz.ntmps97
 all_goals go_wp2_with ((first
  | ((with_reducible refine gate_dst (N := 1) rfl ?_); refine box_event rfl (N := 1) rfl (cs := #[.slice A0_0 l0_0.length c0_0, .int .i64 a0_1, .slice A0_2 l0_2.length c0_2]) (t := 34) (by first | (go_simp; done) | (go_simp; rfl)) ?_; intro g hg w1 hk hb; have j1 := Born.mk hg; have j2 := Bel.mk hb; have j3 := Blk.mk hk; clear hg hb hk)
  | ((with_reducible refine gate_dst (N := 2) rfl ?_); refine box_event rfl (N := 2) rfl (cs := #[.slice none 0 0, .int .i64 0, .slice none 0 0]) (t := 34) (by first | (go_simp; done) | (go_simp; rfl)) ?_; intro g hg w1 hk hb; have j1 := Born.mk hg; have j2 := Bel.mk hb; have j3 := Blk.mk hk; clear hg hb hk)
  | ((with_reducible refine gate_dst (N := 4) rfl ?_); refine box_event rfl (N := 4) rfl (cs := #[.slice none 0 0, .int .i64 0, .slice none 0 0]) (t := 34) (by first | (go_simp; done) | (go_simp; rfl)) ?_; intro g hg w1 hk hb; have j1 := Born.mk hg; have j2 := Bel.mk hb; have j3 := Blk.mk hk; clear hg hb hk)
  | (go_at_call 95; (try rw [hl_.out]); replace h := Option.bind_eq_some_iff.mp h; obtain ⟨⟨t1, t2, t3⟩, A, h⟩ := h; (try dsimp only at h); refine (spec_l36Copy.calls _ _ _ _ _ _ _ _ _ _ _ Rd.out LeI.out Rd.out LeI.out A).mono ?_; rintro e w2 ⟨v0, v1, rfl, ho0, ho1, hb⟩; obtain ⟨B0, b0, rfl⟩ := Kd.R_slice ho0; have j0 := RowE.mk ho0; have q0 := LeI.mk (rowLe j0); obtain ⟨B1, b1, rfl⟩ := Kd.R_slice ho1; have j1 := RowE.mk ho1; have q1 := LeI.mk (rowLe j1); have jb := Bel.mk hb; clear A ho0 ho1 hb)
  | (go_at_call 83; (try rw [hl_.out]); replace h := Option.bind_eq_some_iff.mp h; obtain ⟨t, A, h⟩ := h; (try dsimp only at h); refine (spec_WrongSteps.calls _ _ _ _ _ _ _ _ _ _ Rd.out LeI.out Rd.out LeI.out A).mono ?_; rintro e w2 ⟨v0, rfl, ho0, hb⟩; obtain ⟨B0, b0, rfl⟩ := Kd.R_slice ho0; have j0 := RowE.mk ho0; have q0 := LeI.mk (rowLe j0); have jb := Bel.mk hb; clear A ho0 hb)
  | (refine qR (id := 5) (ds := []) (l := #[false, false, false, false, false, false, false, false, false]) spec_MendStep.tab5 spec_MendStep.bits5 ?_; intro HT_ HW_ w3 jw u0 iu hHeld; refine qA 0 (some 16) HT_ ?_; refine qA 2 (some 18) HT_ ?_; refine qA 3 (some 19) HT_ ?_; refine qT 1 (some 17) HT_ HW_ hHeld ?_; refine qT 4 (some 20) HT_ HW_ hHeld ?_; refine qA 5 (some 21) HT_ ?_; refine qT 6 (some 22) HT_ HW_ hHeld ?_; refine qB 7 6 #[.int .i64 0, .int .i64 0, .int .i64 0, .int .i64 0] 112 HT_ hHeld fun gx jb1 wx jb2 jb3 hHeld => ?_; refine qS 8 HT_ fun hHeld => ?_; refine qD HT_ ?_)
  | (refine qR (id := 6) (ds := []) (l := #[false, false, false, false, false, false, false, false, false, false, false, false]) spec_MendStep.tab6 spec_MendStep.bits6 ?_; intro HT_ HW_ w3 jw u0 iu hHeld; refine qA 0 (some 23) HT_ ?_; refine qA 2 (some 25) HT_ ?_; refine qA 6 (some 29) HT_ ?_; refine qA 8 (some 31) HT_ ?_; refine qT 1 (some 24) HT_ HW_ hHeld ?_; refine qT 3 (some 26) HT_ HW_ hHeld ?_; refine qA 4 (some 27) HT_ ?_; refine qT 5 (some 28) HT_ HW_ hHeld ?_; refine qT 7 (some 30) HT_ HW_ hHeld ?_; refine qT 9 (some 32) HT_ HW_ hHeld ?_; replace h := Option.bind_eq_some_iff.mp h; obtain ⟨t, A, h⟩ := h; (try dsimp only at h); refine qC 10 33 Tryz.func122 HT_ fun K hK => ?_; refine (spec_TunedPitch.calls _ _ _ _ _ _ A).mono ?_; rintro e w2 ⟨rfl, hb⟩; have jb := Bel.mk hb; clear A hb; refine ⟨_, rfl, hK _ _ From.out fun hHeld => ?_⟩; clear hK K; refine qN ?_; refine qA 11 (some 7) HT_ ?_; refine qD HT_ ?_)); (repeat' first | ((with_reducible replace h := ite_some h); rcases h with ⟨hc, h⟩ | ⟨hc, h⟩ <;> first | exact (none_some h).elim | exact absurd hc (by decide) | subst hc | (replace hc := hF_ hc; subst hc) | (replace hc := hG_ hc; subst hc) | (replace hc := hH_ hc; subst hc) | (have hd : (_ == _) = true := hc) | (have hd : (_ == _) = false := hF_ hc) | (have hd := hI_ hc; have he := hJ_ hc; clear hc) | (have hd := hK_ hc; have he := hL_ hc) | (have hd := decide_eq_false hc) | (have hd := decide_eq_true hc; (try (have hn := Int.natCast_pos.mp hc; have hm := decide_eq_true hn; replace hn := eq_true hn)); first | (obtain ⟨g_, e_, i_⟩ := form_ (by assumption) (by first | assumption | decide) hc; cases e_) | (obtain ⟨a_, e_, c_⟩ := atI_ (by assumption) (by first | assumption | decide) hc; cases e_) | (obtain ⟨a_, e_, c0_, c1_, c2_, c3_⟩ := at_T112 (RdE.out (self := by assumption)) _ (by first | assumption | decide) hc; cases e_; replace c0_ := CelE.mk c0_; replace c1_ := CelE.mk c1_; replace c2_ := CelE.mk c2_; replace c3_ := CelE.mk c3_)) | (have hd := decide_eq_true hc) | skip) | ((with_reducible replace h := bind_set_ h); obtain ⟨hl_, h⟩ := h; replace hl_ := A_ hl_; (try dsimp only at h))); all_goals (try have hn : decide (0 < t.length) = true := decide_eq_true (by omega)); all_goals (try have hn : decide (0 < t.length) = false := decide_eq_false (by omega)))
 all_goals simp only [Option.some.injEq, Prod.mk.injEq] at h
 all_goals obtain ⟨rfl, rfl, rfl, rfl⟩ := h
 all_goals refine bodyPost_ret (results_ct rfl _ _ _ _ _ (0, 0) _ rfl Blk.out Tryz.underlying34 rfl (by kernel_rfl)) rfl ?_
 all_goals exact ⟨_, _, rfl, (by first | exact rowFin | exact Kd.R_nil _ _ _ _ _ | exact atFin | exact irowFin' (by simp)), (by first | exact rowFin | exact Kd.R_nil _ _ _ _ _ | exact atFin | exact irowFin' (by simp)), From.out⟩
def spec_WorkStep.j0 : Nat → Bool → List (S112) → Int → List Int → List (S112) → Int → List Int → Option ((List (S112)) × Int × List Int × Bool)
 | 0, _, _, _, _, _, _, _ => none
 | k + 1, x19, x210000, x210001, x210002, x219000, x219001, x219002 => if x19 = true then (some (x219000, x219001, x219002, false)) else (if 0 ≤ x210001 then (if x210001 < (x210000.length : Int) then (if 0 ≤ ((rd_T112 x210000 x210001).f0) then (if ((rd_T112 x210000 x210001).f0) < (x210002.length : Int) then ((spec_TunedPitch.f k (rd x210002 ((rd_T112 x210000 x210001).f0)) ((rd_T112 x210000 x210001).f2) ((rd_T112 x210000 x210001).f3)).bind fun t223 => (if t223 = 0 then (some (x219000, x219001, x219002, false)) else (if 0 ≤ ((rd_T112 x210000 x210001).f1) then (if ((rd_T112 x210000 x210001).f1) < (x219002.length : Int) then (some (x219000, wrap64 (x210001 + 1), (x219002.set (((rd_T112 x210000 x210001).f1) : Int).toNat t223), true)) else (none)) else (none)))) else (none)) else (none)) else (none)) else (none))
def spec_WorkStep.f (k : Nat) (l0_0 : List (S112)) (a0_1 : Int) (l0_2 : List Int) : Option ((List (S112)) × Int × List Int × Bool) := (spec_l36Copy.f l0_0 a0_1 l0_2).bind fun bt211 => ((spec_WorkOk.f k l0_0 a0_1 l0_2).bind fun t219 => (if t219 = true then (spec_WorkStep.j0 k (a0_1 == (l0_0.length : Int)) l0_0 a0_1 l0_2 bt211.1 bt211.2.1 bt211.2.2) else (spec_WorkStep.j0 k true l0_0 a0_1 l0_2 bt211.1 bt211.2.1 bt211.2.2)))
def spec_WorkStep.T5 : Bool × List (List Nat × List Nat) := (true, [([], []), ([0], [0]), ([], []), ([2], [2]), ([1, 3], [1, 3]), ([4], [4]), ([], []), ([6], [6]), ([], []), ([8], [8]), ([5, 7, 9], [5, 7, 9]), ([10, 10, 0, 1, 2, 3, 4, 5, 6, 7, 8, 9, 10], [10])])
def spec_WorkStep.B5 : List Nat := [0, 1, 0, 4, 15, 31, 0, 64, 0, 256, 1023, 2047]
theorem spec_WorkStep.tab5 : rtab .any (opsOf Tryz.f98 5) = spec_WorkStep.T5 := by kernel_rfl
theorem spec_WorkStep.bits5 : waitsOk spec_WorkStep.T5.2 spec_WorkStep.B5 = true := by kernel_rfl
theorem spec_WorkStep.calls (k : Nat) (A0_0 : Option Addr) (c0_0 : Nat) (l0_0 : List (S112)) (a0_1 : Int) (A0_2 : Option Addr) (c0_2 : Nat) (l0_2 : List Int) (r1 : List (S112)) (r2 : Int) (r3 : List Int) (r4 : Bool) (w : World) (hr0_0 : Kd.C k112 w A0_0 l0_0.length l0_0) (hc0_0 : l0_0.length ≤ c0_0) (hr0_2 : Kd.C (Kd.int .i64) w A0_2 l0_2.length l0_2) (hc0_2 : l0_2.length ≤ c0_2) (h : spec_WorkStep.f k l0_0 a0_1 l0_2 = some (r1, r2, r3, r4)) :
  Calls Tryz.prog 98 #[.agg #[.slice A0_0 l0_0.length c0_0, .int .i64 a0_1, .slice A0_2 l0_2.length c0_2]] w fun e w' => ∃ v0_ v2_ : Value, e = .returned (.tuple #[.agg #[v0_, .int .i64 r2, v2_], .bool r4]) ∧ Kd.R k112 112 w' w.heap.size (fun _ => True) v0_ r1 ∧ Kd.R (Kd.int .i64) 3 w' w.heap.size (fun _ => True) v2_ r3 ∧ Below w.heap.size w w' := by
 replace hr0_0 := RdE.mk hr0_0
 replace hc0_0 := LeI.mk hc0_0
 replace hr0_2 := RdE.mk hr0_2
 replace hc0_2 := LeI.mk hc0_2
 have nt112_3 := NeT.mk (d := k112) (e := 112) (t := 3) (by decide)
 have nt112_34 := NeT.mk (d := k112) (e := 112) (t := 34) (by decide)
 unfold spec_WorkStep.f at h
 have hu34 := Tryz.underlying34
 have hu112 := Tryz.underlying112
 (repeat' first | ((with_reducible replace h := ite_some h); rcases h with ⟨hc, h⟩ | ⟨hc, h⟩ <;> first | exact (none_some h).elim | exact absurd hc (by decide) | subst hc | (replace hc := hF_ hc; subst hc) | (replace hc := hG_ hc; subst hc) | (replace hc := hH_ hc; subst hc) | (have hd : (_ == _) = true := hc) | (have hd : (_ == _) = false := hF_ hc) | (have hd := hI_ hc; have he := hJ_ hc; clear hc) | (have hd := hK_ hc; have he := hL_ hc) | (have hd := decide_eq_false hc) | (have hd := decide_eq_true hc; (try (have hn := Int.natCast_pos.mp hc; have hm := decide_eq_true hn; replace hn := eq_true hn)); first | (obtain ⟨g_, e_, i_⟩ := form_ (by assumption) (by first | assumption | decide) hc; cases e_) | (obtain ⟨a_, e_, c_⟩ := atI_ (by assumption) (by first | assumption | decide) hc; cases e_) | (obtain ⟨a_, e_, c0_, c1_, c2_, c3_⟩ := at_T112 (RdE.out (self := by assumption)) _ (by first | assumption | decide) hc; cases e_; replace c0_ := CelE.mk c0_; replace c1_ := CelE.mk c1_; replace c2_ := CelE.mk c2_; replace c3_ := CelE.mk c3_)) | (have hd := decide_eq_true hc) | skip) | ((with_reducible have hj : spec_WorkStep.j0 k _ _ _ _ _ _ _ = _ := h); clear hj; rcases k with _ | k <;> rw [spec_WorkStep.j0] at h <;> first | exact (none_some h).elim | skip) | ((with_reducible replace h := bind_set_ h); obtain ⟨hl_, h⟩ := h; replace hl_ := A_ hl_; (try dsimp only at h)))
 all_goals go_enter Tryz.func98, Tryz.ntmps98
 all_goals go_wp2_with ((first
  | ((with_reducible refine gate_dst (N := 1) rfl ?_); refine box_event rfl (N := 1) rfl (cs := #[.slice A0_0 l0_0.length c0_0, .int .i64 a0_1, .slice A0_2 l0_2.length c0_2]) (t := 34) (by first | (go_simp; done) | (go_simp; rfl)) ?_; intro g hg w1 hk hb; have j1 := Born.mk hg; have j2 := Bel.mk hb; have j3 := Blk.mk hk; clear hg hb hk)
  | ((with_reducible refine gate_dst (N := 2) rfl ?_); refine box_event rfl (N := 2) rfl (cs := #[.slice none 0 0, .int .i64 0, .slice none 0 0]) (t := 34) (by first | (go_simp; done) | (go_simp; rfl)) ?_; intro g hg w1 hk hb; have j1 := Born.mk hg; have j2 := Bel.mk hb; have j3 := Blk.mk hk; clear hg hb hk)
  | ((with_reducible refine gate_dst (N := 4) rfl ?_); refine box_event rfl (N := 4) rfl (cs := #[.slice none 0 0, .int .i64 0, .slice none 0 0]) (t := 34) (by first | (go_simp; done) | (go_simp; rfl)) ?_; intro g hg w1 hk hb; have j1 := Born.mk hg; have j2 := Bel.mk hb; have j3 := Blk.mk hk; clear hg hb hk)
  | ((with_reducible refine gate_dst (N := 5) rfl ?_); refine box_event rfl (N := 5) rfl (cs := #[.int .i64 0, .int .i64 0, .int .i64 0, .int .i64 0]) (t := 112) (by first | (go_simp; done) | (go_simp; rfl)) ?_; intro g hg w1 hk hb; have j1 := Born.mk hg; have j2 := Bel.mk hb; have j3 := Blk.mk hk; clear hg hb hk)
  | (go_at_call 95; (try rw [hl_.out]); replace h := Option.bind_eq_some_iff.mp h; obtain ⟨⟨t1, t2, t3⟩, A, h⟩ := h; (try dsimp only at h); refine (spec_l36Copy.calls _ _ _ _ _ _ _ _ _ _ _ Rd.out LeI.out Rd.out LeI.out A).mono ?_; rintro e w2 ⟨v0, v1, rfl, ho0, ho1, hb⟩; obtain ⟨B0, b0, rfl⟩ := Kd.R_slice ho0; have j0 := RowE.mk ho0; have q0 := LeI.mk (rowLe j0); obtain ⟨B1, b1, rfl⟩ := Kd.R_slice ho1; have j1 := RowE.mk ho1; have q1 := LeI.mk (rowLe j1); have jb := Bel.mk hb; clear A ho0 ho1 hb)
  | (go_at_call 86; (try rw [hl_.out]); replace h := Option.bind_eq_some_iff.mp h; obtain ⟨t, A, h⟩ := h; (try dsimp only at h); refine (spec_WorkOk.calls _ _ _ _ _ _ _ _ _ _ Rd.out LeI.out Rd.out LeI.out A).mono ?_; rintro e w2 ⟨rfl, hb⟩; have jb := Bel.mk hb; clear A hb)
  | (refine qR (id := 5) (ds := []) (l := #[false, false, false, false, false, false, false, false, false, false, false, false]) spec_WorkStep.tab5 spec_WorkStep.bits5 ?_; intro HT_ HW_ w3 jw u0 iu hHeld; refine qA 0 (some 27) HT_ ?_; refine qA 2 (some 29) HT_ ?_; refine qA 6 (some 33) HT_ ?_; refine qA 8 (some 35) HT_ ?_; refine qT 1 (some 28) HT_ HW_ hHeld ?_; refine qT 3 (some 30) HT_ HW_ hHeld ?_; refine qA 4 (some 31) HT_ ?_; refine qT 5 (some 32) HT_ HW_ hHeld ?_; refine qT 7 (some 34) HT_ HW_ hHeld ?_; refine qT 9 (some 36) HT_ HW_ hHeld ?_; replace h := Option.bind_eq_some_iff.mp h; obtain ⟨t, A, h⟩ := h; (try dsimp only at h); refine qC 10 37 Tryz.func122 HT_ fun K hK => ?_; refine (spec_TunedPitch.calls _ _ _ _ _ _ A).mono ?_; rintro e w2 ⟨rfl, hb⟩; have jb := Bel.mk hb; clear A hb; refine ⟨_, rfl, hK _ _ From.out fun hHeld => ?_⟩; clear hK K; refine qN ?_; refine qA 11 (some 6) HT_ ?_; refine qD HT_ ?_)); (repeat' first | ((with_reducible replace h := ite_some h); rcases h with ⟨hc, h⟩ | ⟨hc, h⟩ <;> first | exact (none_some h).elim | exact absurd hc (by decide) | subst hc | (replace hc := hF_ hc; subst hc) | (replace hc := hG_ hc; subst hc) | (replace hc := hH_ hc; subst hc) | (have hd : (_ == _) = true := hc) | (have hd : (_ == _) = false := hF_ hc) | (have hd := hI_ hc; have he := hJ_ hc; clear hc) | (have hd := hK_ hc; have he := hL_ hc) | (have hd := decide_eq_false hc) | (have hd := decide_eq_true hc; (try (have hn := Int.natCast_pos.mp hc; have hm := decide_eq_true hn; replace hn := eq_true hn)); first | (obtain ⟨g_, e_, i_⟩ := form_ (by assumption) (by first | assumption | decide) hc; cases e_) | (obtain ⟨a_, e_, c_⟩ := atI_ (by assumption) (by first | assumption | decide) hc; cases e_) | (obtain ⟨a_, e_, c0_, c1_, c2_, c3_⟩ := at_T112 (RdE.out (self := by assumption)) _ (by first | assumption | decide) hc; cases e_; replace c0_ := CelE.mk c0_; replace c1_ := CelE.mk c1_; replace c2_ := CelE.mk c2_; replace c3_ := CelE.mk c3_)) | (have hd := decide_eq_true hc) | skip) | ((with_reducible have hj : spec_WorkStep.j0 k _ _ _ _ _ _ _ = _ := h); clear hj; rcases k with _ | k <;> rw [spec_WorkStep.j0] at h <;> first | exact (none_some h).elim | skip) | ((with_reducible replace h := bind_set_ h); obtain ⟨hl_, h⟩ := h; replace hl_ := A_ hl_; (try dsimp only at h))))
 all_goals simp only [Option.some.injEq, Prod.mk.injEq] at h
 all_goals obtain ⟨rfl, rfl, rfl, rfl⟩ := h
 all_goals refine bodyPost_ret (results_ct rfl _ _ _ _ _ (0, 0) _ rfl Blk.out Tryz.underlying34 rfl (by kernel_rfl)) rfl ?_
 all_goals exact ⟨_, _, rfl, (by first | exact rowFin | exact Kd.R_nil _ _ _ _ _ | exact atFin | exact irowFin' (by simp)), (by first | exact rowFin | exact Kd.R_nil _ _ _ _ _ | exact atFin | exact irowFin' (by simp)), From.out⟩
def spec_KnockKey.j0 : Nat → Int → Int → Bool → List (S112) → Int → List Int → List (S112) → Int → List Int → Option ((List (S112)) × Int × List Int × Bool)
 | 0, _, _, _, _, _, _, _, _, _ => none
 | k + 1, x1, x2, x31, x353000, x353001, x353002, x362000, x362001, x362002 => if x31 = true then (some (x362000, x362001, x362002, false)) else (if 0 ≤ x1 then (if x1 < (x362002.length : Int) then ((some (x362002.set (x1 : Int).toNat (wrap64 ((rd x362002 x1) + x2)) : List Int)).bind fun y367 => ((spec_WorkOk.f k x362000 x362001 y367).bind fun t368 => (if t368 = true then (some (x362000, x362001, y367, true)) else ((spec_l36Copy.f x353000 x353001 x353002).bind fun bt369 => (some (bt369.1, bt369.2.1, bt369.2.2, false)))))) else (none)) else (none))
def spec_KnockKey.f (k : Nat) (l0_0 : List (S112)) (a0_1 : Int) (l0_2 : List Int) (a1 : Int) (a2 : Int) : Option ((List (S112)) × Int × List Int × Bool) := (spec_l36Copy.f l0_0 a0_1 l0_2).bind fun bt354 => ((spec_WorkOk.f k l0_0 a0_1 l0_2).bind fun t362 => (if t362 = true then ((spec_l01In.f a1 0 11).bind fun t363 => (if t363 = true then ((spec_l01In.f a2 (-100000) 100000).bind fun t364 => (if t364 = true then (if 0 ≤ a1 then (if a1 < (l0_2.length : Int) then (spec_KnockKey.j0 k a1 a2 ((rd l0_2 a1) == 0) l0_0 a0_1 l0_2 bt354.1 bt354.2.1 bt354.2.2) else (none)) else (none)) else (spec_KnockKey.j0 k a1 a2 true l0_0 a0_1 l0_2 bt354.1 bt354.2.1 bt354.2.2))) else (spec_KnockKey.j0 k a1 a2 true l0_0 a0_1 l0_2 bt354.1 bt354.2.1 bt354.2.2))) else (spec_KnockKey.j0 k a1 a2 true l0_0 a0_1 l0_2 bt354.1 bt354.2.1 bt354.2.2)))
def spec_KnockKey.T4 : Bool × List (List Nat × List Nat) := (true, [([], []), ([0], [0]), ([], []), ([], []), ([3], [3]), ([], []), ([4, 5], [4, 5]), ([6], [6]), ([], []), ([7, 8], [7, 8]), ([1, 2, 0, 1, 2, 3, 4, 5, 6, 7, 8, 9], [1, 2]), ([10, 9, 0, 1, 2, 3, 4, 5, 6, 7, 8, 9], [9, 10])])
def spec_KnockKey.B4 : List Nat := [0, 1, 0, 0, 8, 0, 56, 120, 0, 504, 1023, 2047]
theorem spec_KnockKey.tab4 : rtab .any (opsOf Tryz.f100 4) = spec_KnockKey.T4 := by kernel_rfl
theorem spec_KnockKey.bits4 : waitsOk spec_KnockKey.T4.2 spec_KnockKey.B4 = true := by kernel_rfl
theorem spec_KnockKey.calls (k : Nat) (A0_0 : Option Addr) (c0_0 : Nat) (l0_0 : List (S112)) (a0_1 : Int) (A0_2 : Option Addr) (c0_2 : Nat) (l0_2 : List Int) (a1 : Int) (a2 : Int) (r1 : List (S112)) (r2 : Int) (r3 : List Int) (r4 : Bool) (w : World) (hr0_0 : Kd.C k112 w A0_0 l0_0.length l0_0) (hc0_0 : l0_0.length ≤ c0_0) (hr0_2 : Kd.C (Kd.int .i64) w A0_2 l0_2.length l0_2) (hc0_2 : l0_2.length ≤ c0_2) (h : spec_KnockKey.f k l0_0 a0_1 l0_2 a1 a2 = some (r1, r2, r3, r4)) :
  Calls Tryz.prog 100 #[.agg #[.slice A0_0 l0_0.length c0_0, .int .i64 a0_1, .slice A0_2 l0_2.length c0_2], .int .i64 a1, .int .i64 a2] w fun e w' => ∃ v0_ v2_ : Value, e = .returned (.tuple #[.agg #[v0_, .int .i64 r2, v2_], .bool r4]) ∧ Kd.R k112 112 w' w.heap.size (fun _ => True) v0_ r1 ∧ Kd.R (Kd.int .i64) 3 w' w.heap.size (fun _ => True) v2_ r3 ∧ Below w.heap.size w w' := by
 replace hr0_0 := RdE.mk hr0_0
 replace hc0_0 := LeI.mk hc0_0
 replace hr0_2 := RdE.mk hr0_2
 replace hc0_2 := LeI.mk hc0_2
 have nt112_3 := NeT.mk (d := k112) (e := 112) (t := 3) (by decide)
 have nt112_34 := NeT.mk (d := k112) (e := 112) (t := 34) (by decide)
 unfold spec_KnockKey.f at h
 have hu34 := Tryz.underlying34
 (repeat' first | ((with_reducible replace h := ite_some h); rcases h with ⟨hc, h⟩ | ⟨hc, h⟩ <;> first | exact (none_some h).elim | exact absurd hc (by decide) | subst hc | (replace hc := hF_ hc; subst hc) | (replace hc := hG_ hc; subst hc) | (replace hc := hH_ hc; subst hc) | (have hd : (_ == _) = true := hc) | (have hd : (_ == _) = false := hF_ hc) | (have hd := hI_ hc; have he := hJ_ hc; clear hc) | (have hd := hK_ hc; have he := hL_ hc) | (have hd := decide_eq_false hc) | (have hd := decide_eq_true hc; (try (have hn := Int.natCast_pos.mp hc; have hm := decide_eq_true hn; replace hn := eq_true hn)); first | (obtain ⟨g_, e_, i_⟩ := form_ (by assumption) (by first | assumption | decide) hc; cases e_) | (obtain ⟨a_, e_, c_⟩ := atI_ (by assumption) (by first | assumption | decide) hc; cases e_)) | (have hd := decide_eq_true hc) | skip) | ((with_reducible have hj : spec_KnockKey.j0 k _ _ _ _ _ _ _ _ _ = _ := h); clear hj; rcases k with _ | k <;> rw [spec_KnockKey.j0] at h <;> first | exact (none_some h).elim | skip) | ((with_reducible replace h := bind_set_ h); obtain ⟨hl_, h⟩ := h; replace hl_ := A_ hl_; (try dsimp only at h)))
 all_goals go_enter Tryz.func100, Tryz.ntmps100
 all_goals go_wp2_with ((first
  | ((with_reducible refine gate_dst (N := 3) rfl ?_); refine box_event rfl (N := 3) rfl (cs := #[.slice A0_0 l0_0.length c0_0, .int .i64 a0_1, .slice A0_2 l0_2.length c0_2]) (t := 34) (by first | (go_simp; done) | (go_simp; rfl)) ?_; intro g hg w1 hk hb; have j1 := Born.mk hg; have j2 := Bel.mk hb; have j3 := Blk.mk hk; clear hg hb hk)
  | ((with_reducible refine gate_dst (N := 6) rfl ?_); refine box_event rfl (N := 6) rfl (cs := #[.slice none 0 0, .int .i64 0, .slice none 0 0]) (t := 34) (by first | (go_simp; done) | (go_simp; rfl)) ?_; intro g hg w1 hk hb; have j1 := Born.mk hg; have j2 := Bel.mk hb; have j3 := Blk.mk hk; clear hg hb hk)
  | ((with_reducible refine gate_dst (N := 8) rfl ?_); refine box_event rfl (N := 8) rfl (cs := #[.slice none 0 0, .int .i64 0, .slice none 0 0]) (t := 34) (by first | (go_simp; done) | (go_simp; rfl)) ?_; intro g hg w1 hk hb; have j1 := Born.mk hg; have j2 := Bel.mk hb; have j3 := Blk.mk hk; clear hg hb hk)
  | (go_at_call 95; (try rw [hl_.out]); replace h := Option.bind_eq_some_iff.mp h; obtain ⟨⟨t1, t2, t3⟩, A, h⟩ := h; (try dsimp only at h); refine (spec_l36Copy.calls _ _ _ _ _ _ _ _ _ _ _ Rd.out LeI.out Rd.out LeI.out A).mono ?_; rintro e w2 ⟨v0, v1, rfl, ho0, ho1, hb⟩; obtain ⟨B0, b0, rfl⟩ := Kd.R_slice ho0; have j0 := RowE.mk ho0; have q0 := LeI.mk (rowLe j0); obtain ⟨B1, b1, rfl⟩ := Kd.R_slice ho1; have j1 := RowE.mk ho1; have q1 := LeI.mk (rowLe j1); have jb := Bel.mk hb; clear A ho0 ho1 hb)
  | (go_at_call 86; (try rw [hl_.out]); replace h := Option.bind_eq_some_iff.mp h; obtain ⟨t, A, h⟩ := h; (try dsimp only at h); refine (spec_WorkOk.calls _ _ _ _ _ _ _ _ _ _ Rd.out LeI.out Rd.out LeI.out A).mono ?_; rintro e w2 ⟨rfl, hb⟩; have jb := Bel.mk hb; clear A hb)
  | (go_at_call 88; (try rw [hl_.out]); replace h := Option.bind_eq_some_iff.mp h; obtain ⟨t, A, h⟩ := h; (try dsimp only at h); refine (spec_l01In.calls _ _ _ _ _ A).mono ?_; rintro e w2 ⟨rfl, n, rfl⟩; clear A)
  | (refine qR (id := 4) (ds := [11]) (l := #[false, false, false, false, false, false, false, false, false, false, false, false]) spec_KnockKey.tab4 spec_KnockKey.bits4 ?_; intro HT_ HW_ w3 jw u0 iu hHeld; refine qA 0 (some 33) HT_ ?_; refine qA 2 (some 35) HT_ ?_; refine qA 3 (some 36) HT_ ?_; refine qA 5 (some 38) HT_ ?_; refine qA 8 (some 41) HT_ ?_; refine qT 1 (some 34) HT_ HW_ hHeld ?_; refine qT 4 (some 37) HT_ HW_ hHeld ?_; refine qA 6 (some 39) HT_ ?_; refine qT 7 (some 40) HT_ HW_ hHeld ?_; refine qA 9 (some 42) HT_ ?_; refine qA 10 (some 43) HT_ ?_; refine qL 11 HT_ ?_; refine qD HT_ ?_)); (repeat' first | ((with_reducible replace h := ite_some h); rcases h with ⟨hc, h⟩ | ⟨hc, h⟩ <;> first | exact (none_some h).elim | exact absurd hc (by decide) | subst hc | (replace hc := hF_ hc; subst hc) | (replace hc := hG_ hc; subst hc) | (replace hc := hH_ hc; subst hc) | (have hd : (_ == _) = true := hc) | (have hd : (_ == _) = false := hF_ hc) | (have hd := hI_ hc; have he := hJ_ hc; clear hc) | (have hd := hK_ hc; have he := hL_ hc) | (have hd := decide_eq_false hc) | (have hd := decide_eq_true hc; (try (have hn := Int.natCast_pos.mp hc; have hm := decide_eq_true hn; replace hn := eq_true hn)); first | (obtain ⟨g_, e_, i_⟩ := form_ (by assumption) (by first | assumption | decide) hc; cases e_) | (obtain ⟨a_, e_, c_⟩ := atI_ (by assumption) (by first | assumption | decide) hc; cases e_)) | (have hd := decide_eq_true hc) | skip) | ((with_reducible have hj : spec_KnockKey.j0 k _ _ _ _ _ _ _ _ _ = _ := h); clear hj; rcases k with _ | k <;> rw [spec_KnockKey.j0] at h <;> first | exact (none_some h).elim | skip) | ((with_reducible replace h := bind_set_ h); obtain ⟨hl_, h⟩ := h; replace hl_ := A_ hl_; (try dsimp only at h))))
 all_goals simp only [Option.some.injEq, Prod.mk.injEq] at h
 all_goals obtain ⟨rfl, rfl, rfl, rfl⟩ := h
 all_goals refine bodyPost_ret (results_ct rfl _ _ _ _ _ (0, 0) _ rfl Blk.out Tryz.underlying34 rfl (by kernel_rfl)) rfl ?_
 all_goals exact ⟨_, _, rfl, (by first | exact rowFin | exact Kd.R_nil _ _ _ _ _ | exact atFin | exact irowFin' (by simp)), (by first | exact rowFin | exact Kd.R_nil _ _ _ _ _ | exact atFin | exact irowFin' (by simp)), From.out⟩
end Go.Proofs.YtanhnhkcpbdfmaaGreat.P
