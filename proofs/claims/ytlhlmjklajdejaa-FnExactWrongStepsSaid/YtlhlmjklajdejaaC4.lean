/- What functions of the program come to (f), that their calls come to just this (calls), and the plain laws over lists and numbers, and the law FnExactWrongSteps: for every argument it answers true. No condition but those of the given row. -/
import Derived.Test.YtlhlmjklajdejaaRows
import Derived.Test.YtlhlmjklajdejaaC3
import Derived.Deep.Slices
import Derived.ChangeArms
import Derived.ChangeSame
import Derived.KernelRfl
import Derived.WalkKit
import Derived.ProofKit
import Derived.OpenShut
import Derived.ShutString
import Derived.ChangeOld
import Derived.Below
import Derived.SizedLaws
namespace Go.Proofs.Ytlhlmjklajdejaa.P
open Go.RowKit Go.Proofs.YtlhlmjklajdejaaW.PrintWords Go.Proofs.YtlhlmjklajdejaaW.PrintLast Go.Proofs.YtlhlmjklajdejaaW.PrintMore
attribute [local go_sem] max2_int min2_int max_two min_two max_three min_three max_four min_four
set_option linter.unusedVariables false
set_option linter.unusedSimpArgs false
def laws_heldWork.f (k : Nat) (l0_0 : List (S67)) (a0_1 : Int) (l0_2 : List Int) (a1 : Int) : Option (Int) := (laws_heldStepS.f k l0_0 a1).bind fun t311 => (if t311 < 0 then (some (-1)) else ((laws_heldIntS.f k l0_2 t311).bind fun t312 => (if t312 < 0 then (some (-1)) else (some t312))))
theorem laws_heldWork.mono : ∀ a0 a1 a2 a3 k, LeO (laws_heldWork.f k a0 a1 a2 a3) (laws_heldWork.f (k + 1) a0 a1 a2 a3) := by
  intro a0 a1 a2 a3 k
  unfold laws_heldWork.f
  repeat' first
      | (with_reducible exact laws_heldIntS.mono _ _ _)
      | (with_reducible exact laws_heldStepS.mono _ _ _)
      | (with_reducible exact LeO.refl _)
      | (with_reducible exact LeO.none _)
      | (with_reducible refine LeO.ite ?_ ?_)
      | (with_reducible refine LeO.bind ?_ (fun _ => ?_))
      | exact laws_heldIntS.mono _ _ _
      | exact laws_heldStepS.mono _ _ _
      | exact LeO.none _
      | refine LeO.ite ?_ ?_
      | refine LeO.bind ?_ (fun _ => ?_)
set_option maxHeartbeats 8000000 in
set_option maxRecDepth 100000 in
theorem laws_heldWork.calls (k : Nat) (A0_0 : Option Addr) (c0_0 : Nat) (l0_0 : List (S67)) (a0_1 : Int) (A0_2 : Option Addr) (c0_2 : Nat) (l0_2 : List Int) (a1 : Int) (r : Int) (w : World) (hr0_0 : Kd.C k67 w A0_0 l0_0.length l0_0) (hc0_0 : l0_0.length ≤ c0_0) (hr0_2 : Kd.C (Kd.int .i64) w A0_2 l0_2.length l0_2) (hc0_2 : l0_2.length ≤ c0_2) (h : laws_heldWork.f k l0_0 a0_1 l0_2 a1 = some r) :
    Calls Try.prog 29 #[.agg #[.slice A0_0 l0_0.length c0_0, .int .i64 a0_1, .slice A0_2 l0_2.length c0_2], .int .i64 a1] w fun e w' => e = .returned (.int .i64 r) ∧ Below w.heap.size w w' := by
  have hu30 := Try.underlying30
  have HR0_0 := Aside0.mk hr0_0
  have HC0_0 := Aside0.mk hc0_0
  clear hr0_0 hc0_0
  have HR0_2 := Aside0.mk hr0_2
  have HC0_2 := Aside0.mk hc0_2
  clear hr0_2 hc0_2
  have HB := Aside0.mk (Below.refl w.heap.size w)
  have H : ((laws_heldStepS.f k l0_0 a1).bind fun t311 => (if t311 < 0 then (some (-1)) else ((laws_heldIntS.f k l0_2 t311).bind fun t312 => (if t312 < 0 then (some (-1)) else (some t312))))) = some r := h
  clear h
  replace H := Option.bind_eq_some_iff.mp H
  obtain ⟨t311, A30, H⟩ := H
  (try dsimp only at H)
  have A3 := Aside0.mk A30
  clear A30
  by_cases c4 : t311 < 0
  · rw [if_pos c4] at H
    have c4b0 : decide (t311 < 0) = true := decide_eq_true c4
    clear c4
    obtain rfl := Option.some.inj H
    go_enter Try.func29, Try.ntmps29
    go_wp2_with (first | ((with_reducible refine gate_dst (N := 2) rfl ?_); refine box_event ?hg (N := 2) ?hd (cs := #[.slice A0_0 l0_0.length c0_0, .int .i64 a0_1, .slice A0_2 l0_2.length c0_2]) (t := 30) ?hr ?_; (case hd => rfl); (case hg => rfl); (case hr => first | (go_simp; done) | (go_simp; rfl)); intro gb310 hg w5 hbox hb; have n0_ := Aside0.mk (below_step (oB HB) hb); have n1_ := Aside0.mk (hbox); have n2_ := Aside0.mk ((by rw [hg]; exact (below_size (oB HB)) : w.heap.size ≤ gb310)); have n3_ := Aside0.mk ((by rw [hg]; exact (below_size (oB HB)) : w.heap.size ≤ gb310)); clear HB; have HB := n0_; have BK310 := n1_; have GW310 := n2_; have GE310 := n3_; clear n0_ n1_ n2_ n3_; clear hb hbox hg; have hcz6_0 : w5.cell? ⟨gb310, 0, none⟩ = some (.slice A0_0 l0_0.length c0_0) := (blk_cell BK310.out 0).trans rfl; have hcz6_1 : w5.cell? ⟨gb310, 1, none⟩ = some (.int .i64 a0_1) := (blk_cell BK310.out 1).trans rfl; have hcz6_2 : w5.cell? ⟨gb310, 2, none⟩ = some (.slice A0_2 l0_2.length c0_2) := (blk_cell BK310.out 2).trans rfl; have hfz6_0 := blk_frozen BK310.out 0; have hfz6_1 := blk_frozen BK310.out 1; have hfz6_2 := blk_frozen BK310.out 2) | ((with_reducible refine gate_callee (f := 67) rfl ?_); refine goesL_ (some 8) rfl rfl Try.func67 (by kernel_rfl) rfl #[.slice A0_0 l0_0.length c0_0, .int .i64 a1] rfl (by (try simp only [List.map_toArray, List.map_cons, List.map_nil]); first | done | rfl | (simp only [List.length_drop, List.length_take]; rfl)) ?_; (with_reducible refine (laws_heldStepS.calls k _ _ l0_0 a1 t311 _ ?side1 ?side2 A3.out).mono ?_); (case side1 => exact oc_ HR0_0.out); (case side2 => exact HC0_0.out); rintro e w' ⟨rfl, ⟨nd, rfl⟩⟩; refine ⟨_, rfl, ?_⟩))
    go_ret
    exact ⟨by first | rfl | (simp [errW_none, errW_some] <;> rfl) | (simp [*, errW_none, errW_some] <;> rfl), oB HB⟩
  · rw [if_neg c4] at H
    have c4b0 : decide (t311 < 0) = false := decide_eq_false c4
    clear c4
    replace H := Option.bind_eq_some_iff.mp H
    obtain ⟨t312, A70, H⟩ := H
    (try dsimp only at H)
    have A7 := Aside0.mk A70
    clear A70
    by_cases c8 : t312 < 0
    · rw [if_pos c8] at H
      have c8b0 : decide (t312 < 0) = true := decide_eq_true c8
      clear c8
      obtain rfl := Option.some.inj H
      go_enter Try.func29, Try.ntmps29
      go_wp2_with (first | ((with_reducible refine gate_dst (N := 2) rfl ?_); refine box_event ?hg (N := 2) ?hd (cs := #[.slice A0_0 l0_0.length c0_0, .int .i64 a0_1, .slice A0_2 l0_2.length c0_2]) (t := 30) ?hr ?_; (case hd => rfl); (case hg => rfl); (case hr => first | (go_simp; done) | (go_simp; rfl)); intro gb310 hg w9 hbox hb; have n0_ := Aside0.mk (below_step (oB HB) hb); have n1_ := Aside0.mk (hbox); have n2_ := Aside0.mk ((by rw [hg]; exact (below_size (oB HB)) : w.heap.size ≤ gb310)); have n3_ := Aside0.mk ((by rw [hg]; exact (below_size (oB HB)) : w.heap.size ≤ gb310)); clear HB; have HB := n0_; have BK310 := n1_; have GW310 := n2_; have GE310 := n3_; clear n0_ n1_ n2_ n3_; clear hb hbox hg; have hcz10_0 : w9.cell? ⟨gb310, 0, none⟩ = some (.slice A0_0 l0_0.length c0_0) := (blk_cell BK310.out 0).trans rfl; have hcz10_1 : w9.cell? ⟨gb310, 1, none⟩ = some (.int .i64 a0_1) := (blk_cell BK310.out 1).trans rfl; have hcz10_2 : w9.cell? ⟨gb310, 2, none⟩ = some (.slice A0_2 l0_2.length c0_2) := (blk_cell BK310.out 2).trans rfl; have hfz10_0 := blk_frozen BK310.out 0; have hfz10_1 := blk_frozen BK310.out 1; have hfz10_2 := blk_frozen BK310.out 2) | ((with_reducible refine gate_callee (f := 67) rfl ?_); refine goesL_ (some 8) rfl rfl Try.func67 (by kernel_rfl) rfl #[.slice A0_0 l0_0.length c0_0, .int .i64 a1] rfl (by (try simp only [List.map_toArray, List.map_cons, List.map_nil]); first | done | rfl | (simp only [List.length_drop, List.length_take]; rfl)) ?_; (with_reducible refine (laws_heldStepS.calls k _ _ l0_0 a1 t311 _ ?side1 ?side2 A3.out).mono ?_); (case side1 => exact oc_ HR0_0.out); (case side2 => exact HC0_0.out); rintro e w' ⟨rfl, ⟨nd, rfl⟩⟩; refine ⟨_, rfl, ?_⟩) | ((with_reducible refine gate_callee (f := 38) rfl ?_); refine goesL_ (some 14) rfl rfl Try.func38 (by kernel_rfl) rfl #[.slice A0_2 l0_2.length c0_2, .int .i64 t311] rfl (by (try simp only [List.map_toArray, List.map_cons, List.map_nil]); first | done | rfl | (simp only [List.length_drop, List.length_take]; rfl)) ?_; (with_reducible refine (laws_heldIntS.calls k _ _ l0_2 t311 t312 _ ?side1 ?side2 A7.out).mono ?_); (case side1 => repeat (first | exact (Kd.C_below HR0_2.out (oB HB)) | (with_reducible refine Kd.C_alloc ?_ _) | (with_reducible refine Kd.C_drewN ?_ _) | (with_reducible refine Kd.C_drew ?_))); (case side2 => exact HC0_2.out); rintro e w' ⟨rfl, ⟨nd, rfl⟩⟩; refine ⟨_, rfl, ?_⟩))
      go_ret
      exact ⟨by first | rfl | (simp [errW_none, errW_some] <;> rfl) | (simp [*, errW_none, errW_some] <;> rfl), oB HB⟩
    · rw [if_neg c8] at H
      have c8b0 : decide (t312 < 0) = false := decide_eq_false c8
      clear c8
      obtain rfl := Option.some.inj H
      go_enter Try.func29, Try.ntmps29
      go_wp2_with (first | ((with_reducible refine gate_dst (N := 2) rfl ?_); refine box_event ?hg (N := 2) ?hd (cs := #[.slice A0_0 l0_0.length c0_0, .int .i64 a0_1, .slice A0_2 l0_2.length c0_2]) (t := 30) ?hr ?_; (case hd => rfl); (case hg => rfl); (case hr => first | (go_simp; done) | (go_simp; rfl)); intro gb310 hg w11 hbox hb; have n0_ := Aside0.mk (below_step (oB HB) hb); have n1_ := Aside0.mk (hbox); have n2_ := Aside0.mk ((by rw [hg]; exact (below_size (oB HB)) : w.heap.size ≤ gb310)); have n3_ := Aside0.mk ((by rw [hg]; exact (below_size (oB HB)) : w.heap.size ≤ gb310)); clear HB; have HB := n0_; have BK310 := n1_; have GW310 := n2_; have GE310 := n3_; clear n0_ n1_ n2_ n3_; clear hb hbox hg; have hcz12_0 : w11.cell? ⟨gb310, 0, none⟩ = some (.slice A0_0 l0_0.length c0_0) := (blk_cell BK310.out 0).trans rfl; have hcz12_1 : w11.cell? ⟨gb310, 1, none⟩ = some (.int .i64 a0_1) := (blk_cell BK310.out 1).trans rfl; have hcz12_2 : w11.cell? ⟨gb310, 2, none⟩ = some (.slice A0_2 l0_2.length c0_2) := (blk_cell BK310.out 2).trans rfl; have hfz12_0 := blk_frozen BK310.out 0; have hfz12_1 := blk_frozen BK310.out 1; have hfz12_2 := blk_frozen BK310.out 2) | ((with_reducible refine gate_callee (f := 67) rfl ?_); refine goesL_ (some 8) rfl rfl Try.func67 (by kernel_rfl) rfl #[.slice A0_0 l0_0.length c0_0, .int .i64 a1] rfl (by (try simp only [List.map_toArray, List.map_cons, List.map_nil]); first | done | rfl | (simp only [List.length_drop, List.length_take]; rfl)) ?_; (with_reducible refine (laws_heldStepS.calls k _ _ l0_0 a1 t311 _ ?side1 ?side2 A3.out).mono ?_); (case side1 => exact oc_ HR0_0.out); (case side2 => exact HC0_0.out); rintro e w' ⟨rfl, ⟨nd, rfl⟩⟩; refine ⟨_, rfl, ?_⟩) | ((with_reducible refine gate_callee (f := 38) rfl ?_); refine goesL_ (some 14) rfl rfl Try.func38 (by kernel_rfl) rfl #[.slice A0_2 l0_2.length c0_2, .int .i64 t311] rfl (by (try simp only [List.map_toArray, List.map_cons, List.map_nil]); first | done | rfl | (simp only [List.length_drop, List.length_take]; rfl)) ?_; (with_reducible refine (laws_heldIntS.calls k _ _ l0_2 t311 t312 _ ?side1 ?side2 A7.out).mono ?_); (case side1 => repeat (first | exact (Kd.C_below HR0_2.out (oB HB)) | (with_reducible refine Kd.C_alloc ?_ _) | (with_reducible refine Kd.C_drewN ?_ _) | (with_reducible refine Kd.C_drew ?_))); (case side2 => exact HC0_2.out); rintro e w' ⟨rfl, ⟨nd, rfl⟩⟩; refine ⟨_, rfl, ?_⟩))
      go_ret
      exact ⟨by first | rfl | (simp [errW_none, errW_some] <;> rfl) | (simp [*, errW_none, errW_some] <;> rfl), oB HB⟩
end Go.Proofs.Ytlhlmjklajdejaa.P

namespace Go.Proofs.Ytlhlmjklajdejaa.Q
set_option linter.unusedVariables false
set_option linter.unusedSimpArgs false
open Go.RowKit Go.Proofs.Ytlhlmjklajdejaa.P Go.Proofs.YtlhlmjklajdejaaW.PrintWords Go.Proofs.YtlhlmjklajdejaaW.PrintMore
theorem markWork_ev (p : List S67) (d : Int) (q : List Int) (m : Int) (h0 : 0 ≤ m) (hm : m + 4 * p.length + q.length ≤ 4000000000000000000) :
    Ev (fun k => laws_markWork.f k p d q m) (m + 4 * p.length + q.length, runsS m p.length, runs (m + 4 * p.length) q.length) := by
  unfold laws_markWork.f
  exact Ev.bind (markStepS_ev p m h0 (by omega)) (Ev.bind (markIntS_ev q _ (by omega) (by omega)) (Ev.now _))
theorem heldWork_ev (n : Nat) (d : Int) (j : Nat) (m : Int) (h0 : 0 ≤ m) (hm : m + 4 * n + j ≤ 4000000000000000000) :
    Ev (fun k => laws_heldWork.f k (runsS m n) d (runs (m + 4 * n) j) m) (m + 4 * n + j) := by
  unfold laws_heldWork.f
  exact Ev.bind (heldStepS_ev n m h0 (by omega)) (evn (by omega) (Ev.bind (heldIntS_ev j _ (by omega) (by omega)) (evn (by omega) (Ev.now _))))
end Go.Proofs.Ytlhlmjklajdejaa.Q

namespace Go.Proofs.Ytlhlmjklajdejaa.Q
set_option linter.unusedVariables false
set_option linter.unusedSimpArgs false
open Go.RowKit Go.Deep Go.ChangeShapes Go.WideShapes Go.Proofs.YtlhlmjklajdejaaW.PrintWords
def Opens {α : Type} (P : Program) (w : World) (d : Kd α) (T : TypeId) (G : α → Prop) : Prop :=
  ∀ (H : Type) (enc : TypeId × Value → H) (base : Nat) (spare : Nat → Bool) (held : Bool) (fuel : Nat) (cs : List Value) (x : DataW H × List MemPlace),
    DataW.trod enc P w base spare held fuel T cs = some x → ∃ v, d.K w v cs ∧ G v
def OpensFs {α : Type} (P : Program) (w : World) (d : Kd α) (off : Nat) (fs : Array Field) (i : Nat) (G : α → Prop) : Prop :=
  ∀ (H : Type) (enc : TypeId × Value → H) (base : Nat) (spare : Nat → Bool) (held : Bool) (fuel : Nat) (cs : List Value), cs.length = off + d.sz →
    (∀ j f, i ≤ j → fs[j]? = some f → ∃ y : DataW H × List MemPlace, DataW.trod enc P w base spare held fuel f.type ((cs.drop f.offset).take (P.cellsOf f.type)) = some y) → ∃ v, d.K w v (cs.drop off) ∧ G v
section
variable {P : Program} {w : World}
theorem Opens.mono {α : Type} {d : Kd α} {T : TypeId} {G G' : α → Prop} (h : Opens P w d T G) (hg : ∀ x, G x → G' x) : Opens P w d T G' := by
  intro H enc base spare held fuel cs x hx
  obtain ⟨v, hv, g⟩ := h H enc base spare held fuel cs x hx
  exact ⟨v, hv, hg v g⟩
theorem Opens.int {k : IntKind} {T : TypeId} (ht : P.underlying T = some (.int k)) : Opens P w (Kd.int k) T (fun n => (Lit.int k n).wf = true) := by
  intro H enc base spare held fuel cs x hx
  obtain ⟨n, rfl, _, hw⟩ := DataW.trod_int ht hx
  exact ⟨n, rfl, hw⟩
theorem Opens.slice {α : Type} (z : α) {d : Kd α} {E T : TypeId} {G : α → Prop} (ht : P.underlying T = some (.slice E)) (hC : P.cellsOf E = d.sz) (h : Opens P w d E G) :
    Opens P w (Kd.slice E d) T (fun l => l.length ≤ 9223372036854775807 ∧ ∀ x ∈ l, G x) := by
  haveI : Inhabited α := ⟨z⟩
  intro H enc base spare held fuel cs x hx
  rcases open_slice ht hx with ⟨rfl, _⟩ | ⟨a, len, cap, m, n, D, Pl, rfl, hb, hl, hm, hmm, _, hi⟩
  · exact ⟨[], ⟨none, 0, rfl, Nat.le_refl _, rfl, by simp, fun h => absurd h (by simp)⟩, by simp, by simp⟩
  · have hlm : len ≤ m := by rw [hmm]; split <;> omega
    obtain ⟨V, hV⟩ := choose_lt (α := α) (n := len) (p := fun i v => G v ∧ ∃ c, c.length = d.sz ∧ d.K w v c ∧ ∀ j u, c[j]? = some u → w.cell? (a.add (i * d.sz + j)) = some u) (fun i hil => by
      obtain ⟨cs', h1, h2⟩ := hi i (by omega)
      obtain ⟨v, hv, g⟩ := h H enc base spare held n cs' _ h2
      obtain ⟨_, hcl, hat⟩ := World.cells?_some h1
      refine ⟨v, g, cs', by rw [hcl, hC], hv, fun j u hu => ?_⟩
      have hj : j < P.cellsOf E := by rw [← hcl]; exact (List.getElem?_eq_some_iff.1 hu).1
      have := hat j hj
      rw [hC, Go.Deep.add_add] at this
      rw [this, hu])
    refine ⟨(List.range len).map V, ⟨some a, cap, by simp, by simpa using hl, by simp, by have := hm; unfold maxLen at this; simp; omega, fun _ => ⟨a, rfl, fun j p hj => ?_⟩⟩, ?_⟩
    · have hj' : j < len := by have := (List.getElem?_eq_some_iff.1 hj).1; simpa using this
      obtain rfl : V j = p := by simpa [hj'] using hj
      exact (hV j hj').2
    · refine ⟨by have := hm; unfold maxLen at this; simp; omega, fun x hx => ?_⟩
      obtain ⟨i, hi, rfl⟩ := List.mem_map.1 hx
      exact (hV i (List.mem_range.1 hi)).1
theorem OpensFs.one {α : Type} {d : Kd α} {off i : Nat} {fs : Array Field} {f : Field} {G : α → Prop} (hf : fs[i]? = some f) (h : Opens P w d f.type G) (ho : f.offset = off) (hc : P.cellsOf f.type = d.sz) : OpensFs P w d off fs i G := by
  intro H enc base spare held fuel cs hlen hfs
  obtain ⟨y, hy⟩ := hfs i f (Nat.le_refl _) hf
  rw [ho, hc, List.take_of_length_le (by simp [hlen])] at hy
  exact h H enc base spare held fuel _ _ hy
theorem OpensFs.more {α β : Type} {d : Kd α} {d2 : Kd β} {off i : Nat} {fs : Array Field} {f : Field} {G : α → Prop} {G2 : β → Prop} (hf : fs[i]? = some f) (h : Opens P w d f.type G) (ho : f.offset = off) (hc : P.cellsOf f.type = d.sz)
    (h2 : OpensFs P w d2 (off + d.sz) fs (i + 1) G2) : OpensFs P w (Kd.pair d d2) off fs i (fun x => G x.1 ∧ G2 x.2) := by
  intro H enc base spare held fuel cs hlen hfs
  have hlen' : cs.length = off + (d.sz + d2.sz) := hlen
  obtain ⟨y, hy⟩ := hfs i f (Nat.le_refl _) hf
  rw [ho, hc] at hy
  obtain ⟨v, hv, g⟩ := h H enc base spare held fuel _ _ hy
  obtain ⟨v2, hv2, g2⟩ := h2 H enc base spare held fuel cs (by omega) (fun j f' hj hf' => hfs j f' (by omega) hf')
  refine ⟨(v, v2), ⟨_, _, ?_, hv, hv2⟩, g, g2⟩
  rw [← List.drop_drop, List.take_append_drop]
theorem Opens.pairs {α : Type} {d : Kd α} {T : TypeId} {fs : Array Field} {G : α → Prop} (ht : P.underlying T = some (.struct fs)) (hC : P.cellsOf T = d.sz) (h : OpensFs P w d 0 fs 0 G) : Opens P w d T G := by
  intro H enc base spare held fuel cs x hx
  obtain ⟨xs, n, _, _, hlen, hxl, hat⟩ := DataW.trod_struct ht hx
  exact h H enc base spare held n cs (by rw [hlen, hC, Nat.zero_add]) (fun j f' _ hf' => by
    have hi' : j < fs.size := (Array.getElem?_eq_some_iff.1 hf').1
    have e := hat j f' hf'
    rw [List.getElem?_eq_getElem (by omega)] at e
    exact ⟨_, e⟩)
theorem Opens.struct {α β : Type} {d : Kd α} {T : TypeId} {fs : Array Field} {f : β → α} {G0 : α → Prop} {G : β → Prop} (g : α → β) (ht : P.underlying T = some (.struct fs)) (hC : P.cellsOf T = d.sz) (hfg : ∀ x, f (g x) = x)
    (h : OpensFs P w d 0 fs 0 G0) (hg : ∀ x, G0 x → G (g x)) : Opens P w (Kd.iso d f) T G := by
  intro H enc base spare held fuel cs x hx
  obtain ⟨v, hv, g0⟩ := Opens.pairs ht hC h H enc base spare held fuel cs x hx
  refine ⟨g v, ?_, hg v g0⟩
  show d.K w (f (g v)) cs
  rw [hfg]
  exact hv
theorem Opens.string {T : TypeId} (ht : P.underlying T = some .string) : Opens P w Kd.string T (fun s => s.size ≤ maxLen) := by
  intro H enc base spare held fuel cs x hx
  obtain ⟨s, rfl, _, hs⟩ := DataW.trod_string ht hx
  exact ⟨s, rfl, hs⟩
end
end Go.Proofs.Ytlhlmjklajdejaa.Q

namespace Go.Proofs.Ytlhlmjklajdejaa.Q
open Go.RowKit Go.Proofs.Ytlhlmjklajdejaa.P Go.Proofs.YtlhlmjklajdejaaW.PrintWords
def good70 (x : S70) : Prop := ((Lit.int .i64 x.f0).wf = true ∧ (Lit.int .i64 x.f1).wf = true ∧ (Lit.int .i64 x.f2).wf = true ∧ (Lit.int .i64 x.f3).wf = true)
theorem op70 {w : World} : Opens Try.prog w k70 70 good70 := (Opens.struct (fun x => (⟨x.1, x.2.1, x.2.2.1, x.2.2.2⟩ : S70)) (G := good70) Try.underlying70 (by kernel_rfl) (fun _ => rfl) (OpensFs.more rfl (Opens.int Try.underlying3) rfl (by kernel_rfl) (OpensFs.more rfl (Opens.int Try.underlying3) rfl (by kernel_rfl) (OpensFs.more rfl (Opens.int Try.underlying3) rfl (by kernel_rfl) (OpensFs.one rfl (Opens.int Try.underlying3) rfl (by kernel_rfl))))) (fun _ h => h))
def good3 (x : Int) : Prop := (Lit.int .i64 x).wf = true
theorem op3 {w : World} : Opens Try.prog w (Kd.int .i64) 3 good3 := (Opens.int Try.underlying3)
end Go.Proofs.Ytlhlmjklajdejaa.Q

namespace Go.Proofs.Ytlhlmjklajdejaa.Pure
set_option linter.unusedVariables false
set_option linter.unusedSimpArgs false
open Go.RowKit Go.Proofs.Ytlhlmjklajdejaa.P Go.Proofs.Ytlhlmjklajdejaa.Q Go.Proofs.YtlhlmjklajdejaaW.PrintWords Go.Proofs.YtlhlmjklajdejaaW.PrintLast
theorem FnExactWrongSteps (p : List S70) (d : Int) (q : List Int)  (h0 : (p.length ≤ 9223372036854775807 ∧ ∀ y ∈ p, good70 y) ∧ (Lit.int .i64 d).wf = true ∧ (q.length ≤ 9223372036854775807 ∧ ∀ y ∈ q, good3 y))  : ∃ k, laws_FnExactWrongSteps.f k p d q = some true := by
  refine Ev.rounds ?_
  unfold laws_FnExactWrongSteps.f
  refine evb (szWork_eq p d q 1048576 (by omega) (by omega) h0.1.1 h0.2.2.1) ?_
  by_cases h : (1048576 : Int) < p.length + q.length
  · rw [if_pos h]; exact evp (by omega) (Ev.now _)
  rw [if_neg h]
  refine evn (by omega) ?_
  have lp : (p.map cStep).length ≤ 1048576 := by simp; omega
  have T := toWork_ev p d q (by omega) (by omega)
  have E := eqWork_ev (p.map cStep) d q (by omega) (by omega)
  have M := markWork_ev (p.map cStep) d q 1 (by omega) (by omega)
  obtain ⟨R, hR⟩ : ∃ R, wrongSteps (p.map cStep) d q = R := ⟨_, rfl⟩
  have A := wrong_spec (p.map cStep) d q
  have B := wrong_impl (p.map cStep) d q
  rw [hR] at A B
  have L := wrongSteps_len (p.map cStep) d q
  rw [hR] at L
  have F := eqIntS_ev R (by omega)
  have G := markIntS_ev R 1 (by omega) (by omega)
  have H := heldIntS_ev R.length 1 (by omega) (by omega)
  repeat' first
    | exact Ev.now _
    | refine Ev.bind T ?_
    | refine Ev.bind E ?_
    | refine Ev.bind M ?_
    | refine Ev.bind A ?_
    | refine Ev.bind B ?_
    | refine Ev.bind F ?_
    | refine Ev.bind G ?_
    | refine Ev.bind H ?_
    | refine evp rfl ?_
    | refine evn (by first | decide | (dsimp only; omega) | simp) ?_
    | refine Ev.step (fun k => by rw [laws_FnExactWrongSteps.j0]) ?_
end Go.Proofs.Ytlhlmjklajdejaa.Pure

namespace Go.Proofs.Ytlhlmjklajdejaa.fnExactWrongSteps
open Go.ChangeShapes Go.WideShapes Go.ChangeAt Go.RowKit Go.Proofs.Ytlhlmjklajdejaa.P Go.Proofs.Ytlhlmjklajdejaa.Q Go.Proofs.YtlhlmjklajdejaaW.PrintWords
open Go.ChangeMaps (open_string shut_string)
set_option linter.unusedVariables false
set_option linter.unusedSimpArgs false
theorem own : ownKnob Try.prog.godebug = none := by kernel_rfl
theorem laidOut : laidOutB Try.prog = true := by kernel_rfl
set_option maxRecDepth 100000 in
theorem lifted (os : Os) (started : os.Started) (H : Type) (enc : TypeId × Value → H) :
    ReturnsInHanded {} Try.checked os 8 .any (Rows.fnExactWrongStepsSpec.pre6 enc Try.prog Try.f8 Rows.fnExactWrongStepsRow.domain false) (Rows.fnExactWrongStepsSpec.post enc Try.prog Try.f8 false true false false) := by
  refine returnsInHanded_of_change_sized (C := Try.checked) own started (by kernel_rfl) Try.func8
    (ChangeSpec.witness6 (enc := enc) (C := Try.checked) false ⟨#[], #[.agg #[.slice none 0 0, .int .i64 0, .slice none 0 0]], []⟩ 8 (by kernel_rfl) (by kernel_rfl) (by kernel_rfl) (by kernel_rfl)) ?_
  intro W base args ds gs before hval0 hW hcnd hsz0 _
  have hval : ∀ (j : Nat) t v, Try.f8.params[j]? = some t → args[j]? = some v → Value.okWide Try.prog W .any base t v := hval0
  have hW' := hW
  obtain ⟨p, q, hA0, hV, rfl, hfz, hnd⟩ := hW
  have hA : DataW.TrodAll enc Try.prog W 0 (fun _ => true) true Try.f8.params.toList args.toList ds p := hA0
  rw [Try.params8] at hA hval
  obtain ⟨v0, vs0, d0, ds0, p0, q0, hargs, rfl, rfl, h0, r0⟩ := trodAll_cons hA
  obtain ⟨rfl, rfl, rfl⟩ := trodAll_nil r0
  obtain rfl : args = #[v0] := by cases args; simp_all
  obtain ⟨rfl, rfl⟩ := trodVars_none hV
  have k0 := h0
  have lt0 : ∀ x ∈ p0, x.block < W.heap.size := by obtain ⟨m, hm⟩ := k0; exact DataW.trod_lt m _ _ _ hm
  obtain ⟨fuel0, f0⟩ := h0
  obtain ⟨x0, K0, G0⟩ := (show Opens Try.prog W (Kd.pair (Kd.slice 70 k70) (Kd.pair (Kd.int .i64) (Kd.slice 3 (Kd.int .i64)))) 25 _ from Opens.pairs Try.underlying25 (by kernel_rfl) (OpensFs.more rfl (Opens.slice z70 Try.underlying22 (by kernel_rfl) op70) rfl (by kernel_rfl) (OpensFs.more rfl (Opens.int Try.underlying3) rfl (by kernel_rfl) (OpensFs.one rfl (Opens.slice 0 Try.underlying23 (by kernel_rfl) op3) rfl (by kernel_rfl))))) H enc 0 _ _ fuel0 _ _ f0
  obtain ⟨cs0, rfl, _⟩ := okWide_struct Try.underlying25 (hval 0 25 v0 rfl rfl)
  obtain ⟨_, _, e0, ⟨A0_0, c0_0, rfl, hc0_0, hr0_0⟩, ⟨_, _, rfl, rfl, ⟨A0_1, c0_1, rfl, hc0_1, hr0_1⟩⟩⟩ := K0
  obtain rfl : cs0 = #[.slice A0_0 x0.1.length c0_0, .int .i64 x0.2.1, .slice A0_1 x0.2.2.length c0_1] := Array.ext' e0
  obtain ⟨k, hP⟩ := Pure.FnExactWrongSteps x0.1 x0.2.1 x0.2.2 G0
  refine (P.laws_FnExactWrongSteps.calls k _ _ x0.1 x0.2.1 _ _ x0.2.2 true W hr0_0 hc0_0 hr0_1 hc0_1 hP ⟨rfl⟩).mono fun e W' ⟨he, bel0⟩ => ?_
  have bel : Below W.heap.size W W' := bel0
  subst he
  exact ⟨_, rfl, _, _, _, [], _, [], hW', trodAll_mk1 (shut_bool Try.underlying4 _), (trodAll_cons_mk (Below.trod laidOut (by kernel_rfl) (of_decide_eq_true (by kernel_rfl)) k0 bel lt0) trodAll_mk0), rfl, bel.frame _, fun h => by cases h⟩
theorem over : Rows.fnExactWrongStepsRow.holds Try.pinned (OpenSpec.ofChange Rows.fnExactWrongStepsSpec) :=
  OpenClaim.holds_of_wide 8 Try.f8 rfl rfl rfl rfl rfl rfl rfl ⟨rfl, rfl, rfl, rfl, rfl⟩ rfl rfl rfl rfl rfl (by kernel_rfl) Try.func8 (by kernel_rfl)
    (of_decide_eq_true (by kernel_rfl)) (by unfold Func.isWrapper; first | (rw [if_pos (by decide +kernel)]; kernel_rfl) | (rw [if_neg (by decide +kernel)]; exact ⟨rfl, rfl⟩))
    (fun os started H enc _ => lifted os started H enc)
theorem proved : Rows.FnExactWrongStepsSaid := over
#print axioms proved
end Go.Proofs.Ytlhlmjklajdejaa.fnExactWrongSteps
namespace Go.Proofs.Ytlhlmjklajdejaa
theorem fnExactWrongSteps_holds : Rows.FnExactWrongStepsSaid := fnExactWrongSteps.proved
end Go.Proofs.Ytlhlmjklajdejaa
