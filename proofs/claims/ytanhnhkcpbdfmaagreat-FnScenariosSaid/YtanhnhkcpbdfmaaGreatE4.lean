/- What functions of the program come to (f), that their calls come to just this (calls), and the plain laws over lists and numbers. No condition but those of the given row. -/
import Derived.Test.YtanhnhkcpbdfmaaGreatE3
import Derived.Deep.RegionHeld3
import Derived.Shelf.GgSortFunc.Insertion
import Derived.Sort.WalkA6
import Derived.Sort.WalkC
import Derived.Sort.LotC
import Derived.Shelf.SlSortFuncK.PdqK
import Derived.RangeFuncBox
set_option linter.unusedVariables false
set_option linter.unusedSimpArgs false
namespace Go.Proofs.YtanhnhkcpbdfmaaGreat.S
open Go.RowKit Go.Sort Go.Proofs.YtanhnhkcpbdfmaaGreat.P Go.Proofs.YtanhnhkcpbdfmaaGreat.Q Go.Proofs.YtanhnhkcpbdfmaaGreat.V Go.Proofs.YtanhnhkcpbdfmaaGreatW.PrintWords
attribute [local go_sem] cell_b frozen_b
abbrev E := S104
instance : Inhabited E := ⟨z104⟩
def enc4 (x : E) : List Value := [.int .i64 x.f0.f0, .int .i64 x.f0.f1, .int .i64 x.f1, .int .i64 x.f2]
abbrev val4 (x : E) : Value := .agg #[.int .i64 x.f0.f0, .int .i64 x.f0.f1, .int .i64 x.f1, .int .i64 x.f2]
class Cel (W : World) (a : Addr) (v : outParam Value) : Prop where out : W.cell? a = some v
section
variable {w w0 W : World} {a : Addr} {v : Value} {o : Obj} {n : Nat}
theorem cel_lt (h : Cel W a v) : a.block < W.heap.size := World.block_lt_of_cell? W a h.out
instance [h : Cel W a v] : Cel (W.alloc o) a v := ⟨((below_alloc (RowKit.Below.refl W.heap.size W) o).cell (cel_lt h)).trans h.out⟩
instance [h : Cel W a v] : Cel W.drew a v := ⟨h.out⟩
instance [h : Cel W a v] : Cel (W.drewN n) a v := ⟨h.out⟩
instance [b : Bel w W] [h : Cel w a v] : Cel W a v := ⟨(b.out.cell (cel_lt h)).trans h.out⟩
instance [b : Sin w0 W] [h : Cel w0 a v] : Cel W a v := ⟨(b.out.cell (cel_lt h)).trans h.out⟩
theorem cell_c (W : World) (a : Addr) {v : Value} [h : Cel W a v] : W.cell? a = some v := h.out
end
def Ftd (x : E) : Prop := x.f1 = 1 ∨ x.f1 = 2
theorem bne_t {a b : Int} (h : a ≠ b) : (a != b) = true := bne_iff_ne.mpr h
theorem bne_f {a b : Int} (h : a = b) : (a != b) = false := bne_eq_false_iff_eq.mpr h
set_option maxHeartbeats 8000000 in
set_option maxRecDepth 100000 in
set_option synthInstance.maxHeartbeats 400000 in
set_option synthInstance.maxSize 100000 in
theorem sooner_calls (a b : E) (w : World) (ha : Ftd a) (hb : Ftd b) :
    Calls Tryz.prog 143 #[val4 a, val4 b] w fun e w' => e = .returned (.bool (beforeE a b)) ∧ Below w.heap.size w w' := by
  obtain ⟨⟨a0, a1⟩, a2, a3⟩ := a
  obtain ⟨⟨b0, b1⟩, b2, b3⟩ := b
  obtain ⟨r, hr⟩ : ∃ r, beforeE ⟨⟨a0, a1⟩, a2, a3⟩ ⟨⟨b0, b1⟩, b2, b3⟩ = r := ⟨_, rfl⟩
  rw [hr]
  unfold Ftd at ha hb
  simp only at ha hb
  unfold beforeE at hr
  simp only at hr
  have hu := Tryz.underlying104
  have hu2 := Tryz.underlying74
  have done_ : ∀ {p q s : Prop} [Decidable p] [Decidable q] [Decidable s], True := fun {_ _ _} _ _ _ => trivial
  clear done_
  by_cases h1 : a2 = b2
  · rw [if_pos h1] at hr
    have h1 := bne_f h1
    by_cases h2 : a3 = b3
    · rw [if_pos h2] at hr
      have h2 := bne_f h2
      by_cases h3 : a0 = b0
      · rw [if_pos h3] at hr
        have h3 := bne_f h3
        clear ha hb
        go_enter Tryz.func143, Tryz.ntmps143
        go_wp2
        go_ret
        exact ⟨rfl, From.out⟩
      · rw [if_neg h3] at hr
        have h3 := bne_t h3
        clear ha hb
        go_enter Tryz.func143, Tryz.ntmps143
        go_wp2
        go_ret
        exact ⟨rfl, From.out⟩
    · rw [if_neg h2] at hr
      have h2 := bne_t h2
      clear ha hb
      go_enter Tryz.func143, Tryz.ntmps143
      go_wp2
      go_ret
      exact ⟨rfl, From.out⟩
  · rw [if_neg h1] at hr
    have h4 : (a2 == 2) = r := by rw [← hr, Bool.eq_iff_iff, beq_iff_eq, decide_eq_true_eq]; omega
    have h1 := bne_t h1
    clear ha hb hr
    go_enter Tryz.func143, Tryz.ntmps143
    go_wp2
    go_ret
    exact ⟨rfl, From.out⟩
structure SoC where
  g : Nat
  bs : Nat
  n : Nat
  c : Nat
  lb : Array Value
  sb : Array Value
class SoG (C : outParam SoC) : Prop where
  swap : SwapSwapsK Tryz.prog 159 C.sb enc4 4 C.g 0 C.n
  small : C.n < 50
  lb : C.lb = #[.pointer (some ⟨C.bs, 0, none⟩)]
  ne : C.bs ≠ C.g
structure SoAt (C : SoC) (W : World) (D : Array E) : Prop where
  hold : HoldsK enc4 4 W C.g 0 D
  size : D.size = C.n
  box : W.heap[C.bs]? = some (.cells #[.slice (some ⟨C.g, 0, none⟩) C.n C.c] 35 (0, 0))
  lt : C.g < W.heap.size
  shape : ∃ cur : Array Value, W.heap[C.g]? = some (.cells cur 104 (0, 0)) ∧ cur.size = C.c * 4
  ftd : ∀ x ∈ D, Ftd x
class So (C : outParam SoC) (W : World) (D : outParam (Array E)) : Prop where out : SoAt C W D
theorem SoAt.at_ {C : SoC} {W : World} {D : Array E} (h : SoAt C W D) (i : Nat) (hi : i < C.n) :
    W.cell? ⟨C.g, i * 4, none⟩ = some (.int .i64 D[i]!.f0.f0) ∧ W.cell? ⟨C.g, i * 4 + 1, none⟩ = some (.int .i64 D[i]!.f0.f1) ∧ W.cell? ⟨C.g, i * 4 + 2, none⟩ = some (.int .i64 D[i]!.f1) ∧ W.cell? ⟨C.g, i * 4 + 3, none⟩ = some (.int .i64 D[i]!.f2) := by
  have hi' : i < D.size := by rw [h.size]; exact hi
  have c0 := (h.hold.cell (i := i) (c := 0) hi' (by omega)).1
  have c1 := (h.hold.cell (i := i) (c := 1) hi' (by omega)).1
  have c2 := (h.hold.cell (i := i) (c := 2) hi' (by omega)).1
  have c3 := (h.hold.cell (i := i) (c := 3) hi' (by omega)).1
  simp only [Nat.zero_add, Nat.add_zero] at c0 c1 c2 c3
  exact ⟨c0, c1, c2, c3⟩
theorem SoAt.ftd' {C : SoC} {W : World} {D : Array E} (h : SoAt C W D) (i : Nat) (hi : i < C.n) : Ftd D[i]! := by
  have hi' : i < D.size := by rw [h.size]; exact hi
  rw [getElem!_pos D i hi']
  exact h.ftd _ (Array.getElem_mem hi')
attribute [local go_sem] cell_c
set_option maxHeartbeats 8000000 in
set_option maxRecDepth 100000 in
set_option synthInstance.maxHeartbeats 400000 in
set_option synthInstance.maxSize 100000 in
theorem less_calls (C : SoC) (w : World) (D : Array E) (h : SoAt C w D) (hlb : C.lb = #[.pointer (some ⟨C.bs, 0, none⟩)]) (hn : C.n < 50) (i j : Nat) (hi : i < C.n) (hj : j < C.n) :
    Calls Tryz.prog 142 (#[.int .i64 i, .int .i64 j] ++ C.lb) w fun e w' => e = .returned (.bool (beforeE D[i]! D[j]!)) ∧ Below w.heap.size w w' := by
  obtain ⟨i0, i1, i2, i3⟩ := h.at_ i hi
  obtain ⟨j0, j1, j2, j3⟩ := h.at_ j hj
  have fi := h.ftd' i hi
  have fj := h.ftd' j hj
  generalize D[i]! = x at *
  generalize D[j]! = y at *
  have hbx := h.box
  rw [hlb]
  obtain ⟨g, bs, n, c, lb, sb⟩ := C
  simp only at *
  have jB : Blk w bs #[.slice (some ⟨g, 0, none⟩) n c] 35 := ⟨hbx⟩
  have hs := fun W => sooner_calls x y W fi fj
  have HS := Aside0.mk hs
  have k0 := Cel.mk i0
  have k1 := Cel.mk i1
  have k2 := Cel.mk i2
  have k3 := Cel.mk i3
  have k4 := Cel.mk j0
  have k5 := Cel.mk j1
  have k6 := Cel.mk j2
  have k7 := Cel.mk j3
  clear i0 i1 i2 i3 j0 j1 j2 j3
  have hi1 : (0 : Int) ≤ (i : Int) := by omega
  have hi2 : (i : Int) < (n : Int) := by omega
  have hj1 : (0 : Int) ≤ (j : Int) := by omega
  have hj2 : (j : Int) < (n : Int) := by omega
  clear h hlb hbx hs fi fj hn hi hj
  have hu := Tryz.underlying104
  go_enter Tryz.func142, Tryz.ntmps142
  go_wp2
  refine region_at ?_
  intro w3 jw
  go_region_held3 (fun w' => Sin w3 w') (first | exact ⟨From.out⟩ | skip) (first | (go_at_call 143; refine (HS.out _).mono ?_; rintro e w2 ⟨rfl, hb⟩; have jb := Bel.mk hb; clear hb))
  all_goals go_wp2
  all_goals go_ret
  all_goals exact ⟨rfl, From.out⟩
end Go.Proofs.YtanhnhkcpbdfmaaGreat.S
namespace Go.Proofs.YtanhnhkcpbdfmaaGreat.S
open Go.RowKit Go.Sort Go.Proofs.YtanhnhkcpbdfmaaGreat.P Go.Proofs.YtanhnhkcpbdfmaaGreat.Q Go.Proofs.YtanhnhkcpbdfmaaGreat.V Go.Proofs.YtanhnhkcpbdfmaaGreatW.PrintWords
class Ix (i : Int) (n : Nat) : Prop where
  lo : 0 ≤ i
  hi : i < (n : Int)
theorem enc4_len (x : E) : (enc4 x).length = 4 := rfl
def swapW (C : SoC) (D : Array E) (W : World) (i j : Int) : World := (W.setCells C.g (0 + i.toNat * 4) (enc4 D[j.toNat]!)).setCells C.g (0 + j.toNat * 4) (enc4 D[i.toNat]!)
theorem swapW_eq {C : SoC} {W : World} {D : Array E} (h : SoAt C W D) (i j : Int) (hi : i.toNat < C.n) (hj : j.toNat < C.n) : swapW C D W i j = putRowK enc4 4 W C.g 0 (swp D i.toNat j.toNat) := by
  have := swap_worldK enc4 4 enc4_len W 0 0 C.g 0 D i.toNat j.toNat (by rw [h.size]; exact hi) (by rw [h.size]; exact hj)
  rw [show ((putRowK enc4 4 (Sort.ahead W 0) C.g 0 D).drewN 0) = W by
    rw [show ∀ X : World, X.drewN 0 = X from fun _ => rfl]
    exact putRowK_self enc4 4 W C.g 0 D h.hold] at this
  exact this
theorem mem_swp {D : Array E} {i j : Nat} {x : E} (h : x ∈ swp D i j) (hi : i < D.size) (hj : j < D.size) : x ∈ D := by
  obtain ⟨k, hk, rfl⟩ := Array.mem_iff_getElem.mp h
  have hk' : k < D.size := by simpa [size_swp] using hk
  rw [← getElem!_pos (swp D i j) k hk]
  by_cases e1 : k = j
  · subst e1; rw [swp_right D i k hk', getElem!_pos D i hi]; exact Array.getElem_mem hi
  · by_cases e2 : k = i
    · subst e2; rw [swp_left D k j hk' e1, getElem!_pos D j hj]; exact Array.getElem_mem hj
    · rw [swp_other D i j k e2 e1, getElem!_pos D k hk']; exact Array.getElem_mem hk'
theorem put_shape {W : World} {g : Nat} {D : Array E} {c : Nat} (h : ∃ cur : Array Value, W.heap[g]? = some (.cells cur 104 (0, 0)) ∧ cur.size = c) : ∃ cur : Array Value, (putRowK enc4 4 W g 0 D).heap[g]? = some (.cells cur 104 (0, 0)) ∧ cur.size = c := by
  obtain ⟨cur, hc, hs⟩ := h
  refine ⟨putCells id 0 (flatK enc4 4 D) cur, ?_, by simpa [putCells] using hs⟩
  unfold putRowK putRow
  rw [onCells_block, if_pos rfl, hc]
  rfl
class Fr (C : outParam SoC) (w0 W : World) : Prop where out : w0.grownBy W (some C.g)
section
variable {C : SoC} {w w0 W : World} {D : Array E} {o : Obj} {n x i : Nat} {v : Value} {cs : Array Value} {t : TypeId}
theorem SoAt.move (h : SoAt C w D) (hs : w.heap.size ≤ W.heap.size) (h1 : W.heap[C.g]? = w.heap[C.g]?) (h2 : W.heap[C.bs]? = w.heap[C.bs]?) : SoAt C W D :=
  ⟨fun j hj => by
    obtain ⟨a, b⟩ := h.hold j hj
    exact ⟨(World.cell?_of_block (a := ⟨C.g, 0 + j, none⟩) h1).trans a, (World.frozen?_of_block (a := ⟨C.g, 0 + j, none⟩) h1).trans b⟩, h.size, h2.trans h.box, Nat.lt_of_lt_of_le h.lt hs, by rw [h1]; exact h.shape, h.ftd⟩
theorem SoAt.bs_lt (h : SoAt C W D) : C.bs < W.heap.size := blk_lt h.box
theorem SoAt.below (h : SoAt C w D) (hb : RowKit.Below w.heap.size w W) : SoAt C W D := h.move hb.size (hb.block _ h.lt) (hb.block _ h.bs_lt)
instance [h : So C W D] : So C (W.alloc o) D := ⟨h.out.below (below_alloc (RowKit.Below.refl _ _) o)⟩
instance [h : So C W D] : So C W.drew D := ⟨h.out.below (below_drew1 (RowKit.Below.refl _ _))⟩
instance [h : So C W D] : So C (W.drewN n) D := ⟨h.out.below (pw_below_drewN (RowKit.Below.refl _ _) n)⟩
instance [b : Bel w W] [h : So C w D] : So C W D := ⟨h.out.below b.out⟩
instance [h : So C W D] [k : Born W x] : NeB x C.g := ⟨by rw [k.out]; exact Nat.ne_of_gt h.out.lt⟩
instance [h : So C W D] [k : Born W x] : NeB x C.bs := ⟨by rw [k.out]; exact Nat.ne_of_gt h.out.bs_lt⟩
instance [h : So C W D] [k : NeB x C.g] [l : NeB x C.bs] : So C (W.setCell ⟨x, i, none⟩ v) D :=
  ⟨h.out.move (by simp) (Below.heap_setCell W ⟨x, i, none⟩ v _ (Ne.symm k.out)) (Below.heap_setCell W ⟨x, i, none⟩ v _ (Ne.symm l.out))⟩
theorem swap_heap (h : SoAt C W D) (i j : Int) (hi : i.toNat < C.n) (hj : j.toNat < C.n) : W.grownBy (swapW C D W i j) (some C.g) := by
  rw [swapW_eq h i j hi hj]
  refine ⟨rfl, rfl, rfl, by simp [putRowK], fun k hk hne => ?_⟩
  unfold putRowK putRow
  rw [onCells_block, if_neg (fun hh => hne (by rw [hh]))]
theorem ix_nat {i : Int} {n : Nat} (h : Ix i n) : i.toNat < n := by have := h.lo; have := h.hi; omega
theorem so_swap [g : SoG C] (h : SoAt C W D) (i j : Int) (hi : i.toNat < C.n) (hj : j.toNat < C.n) : SoAt C (swapW C D W i j) (swp D i.toNat j.toNat) := by
  have hg := swap_heap h i j hi hj
  refine ⟨?_, by rw [size_swp]; exact h.size, (hg.block _ h.bs_lt (fun e => g.ne (Option.some.inj e))).trans h.box, Nat.lt_of_lt_of_le h.lt hg.size, by rw [swapW_eq h i j hi hj]; exact put_shape h.shape, fun x hx => h.ftd x (mem_swp hx (by rw [h.size]; exact hi) (by rw [h.size]; exact hj))⟩
  rw [swapW_eq h i j hi hj]
  exact holdsK_putRowK enc4 4 W C.g 0 D _ h.hold (size_swp _ _ _)
instance {i j : Int} [g : SoG C] [h : So C W D] [a : Ix i C.n] [b : Ix j C.n] : So C (swapW C D W i j) (swp D i.toNat j.toNat) := ⟨so_swap h.out i j (ix_nat a) (ix_nat b)⟩
instance {i j : Int} [h : So C W D] [k : Blk W x cs t] [l : NeB x C.g] [a : Ix i C.n] [b : Ix j C.n] : Blk (swapW C D W i j) x cs t := ⟨((swap_heap h.out i j (ix_nat a) (ix_nat b)).block x (blk_lt k.out) (fun e => l.out (Option.some.inj e))).trans k.out⟩
theorem swap_run (W : World) (i j : Int) [g : SoG C] [h : So C W D] [a : Ix i C.n] [b : Ix j C.n] : (callFunc 159 (#[.int .i64 i, .int .i64 j] ++ C.sb)).run Tryz.prog W = .ok (.value (.tuple #[])) (swapW C D W i j) := by
  have := g.swap W D h.out.hold h.out.size i.toNat j.toNat (ix_nat a) (ix_nat b)
  rw [show ((i.toNat : Nat) : Int) = i from Int.toNat_of_nonneg a.lo, show ((j.toNat : Nat) : Int) = j from Int.toNat_of_nonneg b.lo] at this
  exact this
theorem less_at [g : SoG C] [h : So C W D] (i j : Int) [a : Ix i C.n] [b : Ix j C.n] :
    Calls Tryz.prog 142 (#[.int .i64 i, .int .i64 j] ++ C.lb) W fun e w' => e = .returned (.bool (beforeE D[i.toNat]! D[j.toNat]!)) ∧ RowKit.Below W.heap.size W w' := by
  have := less_calls C W D h.out g.lb g.small i.toNat j.toNat (ix_nat a) (ix_nat b)
  rw [show ((i.toNat : Nat) : Int) = i from Int.toNat_of_nonneg a.lo, show ((j.toNat : Nat) : Int) = j from Int.toNat_of_nonneg b.lo] at this
  exact this
class Les (D : Array E) (i j : Int) (b : outParam Bool) : Prop where out : beforeE D[i.toNat]! D[j.toNat]! = b
theorem Les.of {D : Array E} {i j : Int} {b : Bool} {i' j' : Nat} (h : beforeE D[i']! D[j']! = b) (hi : i = i') (hj : j = j') : Les D i j b := ⟨by rw [hi, hj, Int.toNat_natCast, Int.toNat_natCast]; exact h⟩
theorem less_is {b : Bool} [g : SoG C] [h : So C W D] (i j : Int) [a : Ix i C.n] [k : Ix j C.n] [l : Les D i j b] :
    Calls Tryz.prog 142 (#[.int .i64 i, .int .i64 j] ++ C.lb) W fun e w' => e = .returned (.bool b) ∧ RowKit.Below W.heap.size W w' :=
  (less_at i j).mono fun e w' h => ⟨by rw [h.1, l.out], h.2⟩
theorem grownBy_trans {w0 w W : World} {r : Option Nat} (h : w0.grownBy w r) (k : w.grownBy W r) : w0.grownBy W r :=
  ⟨k.os.trans h.os, k.tape.trans h.tape, k.output.trans h.output, Nat.le_trans h.size k.size, fun j hj hne => (k.block j (Nat.lt_of_lt_of_le hj h.size) hne).trans (h.block j hj hne)⟩
theorem grownBy_below {w W : World} {r : Option Nat} (h : RowKit.Below w.heap.size w W) : w.grownBy W r := ⟨h.os, h.tape, h.output, h.size, fun j hj _ => h.block j hj⟩
instance [h : So C w D] : Fr C w w := ⟨grownBy_below (RowKit.Below.refl _ _)⟩
instance [h : Fr C w W] : Fr C w (W.alloc o) := ⟨grownBy_trans h.out (grownBy_below (below_alloc (RowKit.Below.refl _ _) o))⟩
instance [h : Fr C w W] : Fr C w W.drew := ⟨grownBy_trans h.out (grownBy_below (below_drew1 (RowKit.Below.refl _ _)))⟩
instance [h : Fr C w W] : Fr C w (W.drewN n) := ⟨grownBy_trans h.out (grownBy_below (pw_below_drewN (RowKit.Below.refl _ _) n))⟩
instance [b : Bel w W] [h : Fr C w0 w] : Fr C w0 W := ⟨grownBy_trans h.out (grownBy_below b.out)⟩
instance {i j : Int} [h : Fr C w0 W] [k : So C W D] [a : Ix i C.n] [b : Ix j C.n] : Fr C w0 (swapW C D W i j) := ⟨grownBy_trans h.out (swap_heap k.out i j (ix_nat a) (ix_nat b))⟩
class Gb (C : outParam SoC) (w : outParam World) (W : World) : Prop where out : w.grownBy W (some C.g)
instance [b : Gb C w W] [h : Fr C w0 w] : Fr C w0 W := ⟨grownBy_trans h.out b.out⟩
instance [b : Gb C w W] [h : Blk w x cs t] [l : NeB x C.g] : Blk W x cs t := ⟨(b.out.block x (blk_lt h.out) (fun e => l.out (Option.some.inj e))).trans h.out⟩
end
end Go.Proofs.YtanhnhkcpbdfmaaGreat.S
namespace Go.Proofs.YtanhnhkcpbdfmaaGreat.S
open Go.RowKit Go.Sort Go.Proofs.YtanhnhkcpbdfmaaGreat.P Go.Proofs.YtanhnhkcpbdfmaaGreat.Q Go.Proofs.YtanhnhkcpbdfmaaGreat.V Go.Proofs.YtanhnhkcpbdfmaaGreatW.PrintWords
attribute [local go_sem] cell_b frozen_b swap_run
abbrev datV (C : SoC) : Value := .agg #[.func (.func 142) #[] C.lb, .func (.func 159) #[] C.sb]
set_option maxHeartbeats 8000000 in
set_option maxRecDepth 100000 in
set_option synthInstance.maxHeartbeats 400000 in
set_option synthInstance.maxSize 100000 in
theorem insertion_calls (C : SoC) [SoG C] (w : World) (D : Array E) (h : SoAt C w D) (a b : Nat) (hab : a ≤ b) (hb : b ≤ C.n) :
    Calls Tryz.prog 162 #[datV C, .int .i64 a, .int .i64 b] w fun e w' => e = .returned (.tuple #[]) ∧ SoAt C w' (insertionSort beforeE D a b) ∧ w.grownBy w' (some C.g) := by
  have j0 := So.mk h
  have hsm := SoG.small (C := C)
  have jx : NeB w.heap.size C.g := ⟨Nat.ne_of_gt h.lt⟩
  clear h
  have hu := Tryz.underlying162
  go_enter Tryz.func162, Tryz.ntmps162
  go_wp2
  go_loopw [6] (fun vi wr => ∃ (i : Nat) (dk : Array E), vi = .int .i64 i ∧ Aside0 (a < i) ∧ Aside0 (i ≤ b + 1) ∧ So C wr dk ∧ Fr C w wr ∧ Blk wr w.heap.size #[.func (.func 142) #[] C.lb, .func (.func 159) #[] C.sb] 162 ∧ Aside0 (insOuter beforeE a b i dk = insOuter beforeE a b (a + 1) D)) (fun vi _ => b + 1 - (intOf vi).toNat)
  case atStart => exact ⟨a + 1, D, by go_num, ⟨by omega⟩, ⟨by omega⟩, inferInstance, inferInstance, ⟨blk_new w _⟩, ⟨rfl⟩⟩
  case round =>
    clear j0
    obtain ⟨i, dk, rfl, HA, HI, j1, j2, j3, HO⟩ := hrel
    by_cases hib : i < b
    · have hib1 : decide ((i : Int) < (b : Int)) = true := decide_eq_true (by omega)
      go_wp2
      go_loopw [7] (fun vj wr2 => ∃ (j : Nat) (dj : Array E), vj = .int .i64 j ∧ Aside0 (a ≤ j) ∧ Aside0 (j ≤ i) ∧ So C wr2 dj ∧ Fr C w wr2 ∧ Blk wr2 w.heap.size #[.func (.func 142) #[] C.lb, .func (.func 159) #[] C.sb] 162 ∧ Aside0 (insInner beforeE a j dj = insInner beforeE a i dk)) (fun vj _ => (intOf vj).toNat)
      case atStart => exact ⟨i, dk, rfl, ⟨by have := HA.out; omega⟩, ⟨Nat.le_refl _⟩, j1, j2, j3, ⟨rfl⟩⟩
      case round =>
        clear j1 j2 j3
        obtain ⟨j, dj, rfl, HAJ, HJI, j1, j2, j3, HN⟩ := hrel
        have hjb := HJI.out
        have haj := HAJ.out
        by_cases hja : a < j
        · have hja1 : decide ((a : Int) < (j : Int)) = true := decide_eq_true (by omega)
          have x1 : Ix (j : Int) C.n := ⟨by omega, by omega⟩
          have x2 : Ix ((j : Int) - 1) C.n := ⟨by omega, by omega⟩
          have e1 : ((j : Int) - 1).toNat = j - 1 := by omega
          cases hl : beforeE dj[j]! dj[j - 1]! with
          | true =>
            go_wp2_with (first | (go_at_call 142; refine (less_at _ _).mono ?_; rintro e w2 ⟨he, hb⟩; rw [Int.toNat_natCast, e1, hl] at he; subst he; have jb := Bel.mk hb; clear hb))
            refine ⟨⟨j - 1, swp dj j (j - 1), by congr 1; omega, ⟨by omega⟩, ⟨by omega⟩, ?_, inferInstance, inferInstance, ⟨?_⟩⟩, by simp [intOf]; omega⟩
            · have k : So C (swapW C dj w2 (j : Int) ((j : Int) - 1)) (swp dj (j : Int).toNat ((j : Int) - 1).toNat) := inferInstance
              rw [Int.toNat_natCast, e1] at k
              exact k
            · rw [← HN.out, insInner_go beforeE a j dj hja hl]
          | false =>
            go_wp2_with (first | (go_at_call 142; refine (less_at _ _).mono ?_; rintro e w2 ⟨he, hb⟩; rw [Int.toNat_natCast, e1, hl] at he; subst he; have jb := Bel.mk hb; clear hb))
            refine ⟨⟨i + 1, dj, by go_num, ⟨by have := HA.out; omega⟩, ⟨by omega⟩, inferInstance, inferInstance, inferInstance, ⟨?_⟩⟩, by simp [intOf]; omega⟩
            rw [← HO.out, insOuter_go beforeE a b i dk hib, ← HN.out, insInner_stop beforeE a j dj (.inr hl)]
        · have hja1 : decide ((a : Int) < (j : Int)) = false := decide_eq_false (by omega)
          go_wp2
          refine ⟨⟨i + 1, dj, by go_num, ⟨by have := HA.out; omega⟩, ⟨by omega⟩, inferInstance, inferInstance, inferInstance, ⟨?_⟩⟩, by simp [intOf]; omega⟩
          rw [← HO.out, insOuter_go beforeE a b i dk hib, ← HN.out, insInner_stop beforeE a j dj (.inl (by omega))]
    · have hib1 : decide ((i : Int) < (b : Int)) = false := decide_eq_false (by omega)
      go_wp2
      go_end0
      refine ⟨rfl, ?_, Fr.out⟩
      have := HO.out
      rw [insOuter_stop beforeE a b i dk hib] at this
      unfold insertionSort
      rw [← this]
      exact So.out
abbrev datC (C : SoC) : Array Value := #[.func (.func 142) #[] C.lb, .func (.func 159) #[] C.sb]
theorem so_cast {C : SoC} {W : World} {D D' : Array E} (h : So C W D) (e : D = D') : SoAt C W D' := e ▸ h.out
set_option maxHeartbeats 8000000 in
set_option maxRecDepth 100000 in
set_option synthInstance.maxHeartbeats 400000 in
set_option synthInstance.maxSize 100000 in
theorem siftDown_calls (C : SoC) [SoG C] (w : World) (D : Array E) (h : SoAt C w D) (lo hi first : Nat) (hf : first + hi ≤ C.n) (hlo : lo ≤ C.n) :
    Calls Tryz.prog 170 #[datV C, .int .i64 lo, .int .i64 hi, .int .i64 first] w fun e w' => e = .returned (.tuple #[]) ∧ SoAt C w' (siftDown beforeE hi first lo D) ∧ w.grownBy w' (some C.g) := by
  have j0 := So.mk h
  have hsm := SoG.small (C := C)
  have jx : NeB w.heap.size C.g := ⟨Nat.ne_of_gt h.lt⟩
  clear h
  have hu := Tryz.underlying162
  go_enter Tryz.func170, Tryz.ntmps170
  go_wp2
  go_loopw [8] (fun v wr => ∃ (r : Nat) (dk : Array E), v = .int .i64 r ∧ Aside0 (r ≤ C.n) ∧ So C wr dk ∧ Fr C w wr ∧ Blk wr w.heap.size (datC C) 162 ∧ Aside0 (siftDown beforeE hi first r dk = siftDown beforeE hi first lo D)) (fun v _ => hi - (intOf v).toNat)
  case atStart => exact ⟨lo, D, rfl, ⟨hlo⟩, inferInstance, inferInstance, ⟨blk_new w _⟩, ⟨rfl⟩⟩
  case round =>
    clear j0
    obtain ⟨r, dk, rfl, HR, j1, j2, j3, HO⟩ := hrel
    have hrn := HR.out
    have huf := HO.out
    rw [siftDown] at huf
    by_cases c1 : 2 * r + 1 ≥ hi
    · rw [dif_pos c1] at huf
      have huf := Aside0.mk huf
      have d1 : decide ((hi : Int) ≤ 2 * (r : Int) + 1) = true := decide_eq_true (by omega)
      go_wp2
      go_end0
      exact ⟨rfl, so_cast j1 huf.out, Fr.out⟩
    rw [dif_neg c1] at huf
    have d1 : decide ((hi : Int) ≤ 2 * (r : Int) + 1) = false := decide_eq_false (by omega)
    have x1 : Ix ((first : Int) + (2 * (r : Int) + 1)) C.n := ⟨by omega, by omega⟩
    have x0 : Ix ((first : Int) + (r : Int)) C.n := ⟨by omega, by omega⟩
    by_cases c2 : 2 * r + 1 + 1 < hi
    · have d2 : decide (2 * (r : Int) + 1 + 1 < (hi : Int)) = true := decide_eq_true (by omega)
      have x2 : Ix ((first : Int) + (2 * (r : Int) + 1) + 1) C.n := ⟨by omega, by omega⟩
      have x3 : Ix ((first : Int) + (2 * (r : Int) + 1 + 1)) C.n := ⟨by omega, by omega⟩
      cases l1 : beforeE dk[first + (2 * r + 1)]! dk[first + (2 * r + 1) + 1]! with
      | true =>
        have y1 : Les dk ((first : Int) + (2 * (r : Int) + 1)) ((first : Int) + (2 * (r : Int) + 1) + 1) true := Les.of l1 (by omega) (by omega)
        rw [l1, decide_eq_true c2, Bool.and_self, if_pos rfl] at huf
        clear l1
        cases l2 : beforeE dk[first + r]! dk[first + (2 * r + 2)]! with
        | true =>
          have y2 : Les dk ((first : Int) + (r : Int)) ((first : Int) + (2 * (r : Int) + 1 + 1)) true := Les.of l2 (by omega) (by omega)
          rw [l2, if_neg (by decide), dif_pos c2] at huf
          have huf := Aside0.mk huf
          clear l2
          go_wp2_with (first | (go_at_call 142; refine (less_is _ _).mono ?_; rintro e w2 ⟨rfl, hb⟩; have jb := Bel.mk hb; clear hb))
          refine ⟨⟨2 * r + 2, swp dk (first + r) (first + (2 * r + 2)), by first | rfl | (congr 1; omega), ⟨by omega⟩, ⟨so_cast (D' := swp dk (first + r) (first + (2 * r + 2))) inferInstance (by first | rfl | (congr 1 <;> omega))⟩, inferInstance, inferInstance, huf⟩, by simp [intOf]; omega⟩
        | false =>
          have y2 : Les dk ((first : Int) + (r : Int)) ((first : Int) + (2 * (r : Int) + 1 + 1)) false := Les.of l2 (by omega) (by omega)
          rw [l2, if_pos (by decide)] at huf
          have huf := Aside0.mk huf
          clear l2
          go_wp2_with (first | (go_at_call 142; refine (less_is _ _).mono ?_; rintro e w2 ⟨rfl, hb⟩; have jb := Bel.mk hb; clear hb))
          ((try simp only [Exit.inBlock, Exit.then]); refine bodyPost_ret (results_none rfl _ _ _) rfl ?_)
          exact ⟨rfl, so_cast inferInstance huf.out, Fr.out⟩
      | false =>
        have y1 : Les dk ((first : Int) + (2 * (r : Int) + 1)) ((first : Int) + (2 * (r : Int) + 1) + 1) false := Les.of l1 (by omega) (by omega)
        rw [l1, Bool.and_false, if_neg (by decide)] at huf
        clear l1
        cases l2 : beforeE dk[first + r]! dk[first + (2 * r + 1)]! with
        | true =>
          have y2 : Les dk ((first : Int) + (r : Int)) ((first : Int) + (2 * (r : Int) + 1)) true := Les.of l2 (by omega) (by omega)
          rw [l2, if_neg (by decide)] at huf
          have huf := Aside0.mk huf
          clear l2
          go_wp2_with (first | (go_at_call 142; refine (less_is _ _).mono ?_; rintro e w2 ⟨rfl, hb⟩; have jb := Bel.mk hb; clear hb))
          refine ⟨⟨2 * r + 1, swp dk (first + r) (first + (2 * r + 1)), by first | rfl | (congr 1; omega), ⟨by omega⟩, ⟨so_cast (D' := swp dk (first + r) (first + (2 * r + 1))) inferInstance (by first | rfl | (congr 1 <;> omega))⟩, inferInstance, inferInstance, huf⟩, by simp [intOf]; omega⟩
        | false =>
          have y2 : Les dk ((first : Int) + (r : Int)) ((first : Int) + (2 * (r : Int) + 1)) false := Les.of l2 (by omega) (by omega)
          rw [l2, if_pos (by decide)] at huf
          have huf := Aside0.mk huf
          clear l2
          go_wp2_with (first | (go_at_call 142; refine (less_is _ _).mono ?_; rintro e w2 ⟨rfl, hb⟩; have jb := Bel.mk hb; clear hb))
          ((try simp only [Exit.inBlock, Exit.then]); refine bodyPost_ret (results_none rfl _ _ _) rfl ?_)
          exact ⟨rfl, so_cast inferInstance huf.out, Fr.out⟩
    · have d2 : decide (2 * (r : Int) + 1 + 1 < (hi : Int)) = false := decide_eq_false (by omega)
      rw [decide_eq_false c2, Bool.false_and, if_neg (by decide)] at huf
      cases l2 : beforeE dk[first + r]! dk[first + (2 * r + 1)]! with
      | true =>
        have y2 : Les dk ((first : Int) + (r : Int)) ((first : Int) + (2 * (r : Int) + 1)) true := Les.of l2 (by omega) (by omega)
        rw [l2, if_neg (by decide)] at huf
        have huf := Aside0.mk huf
        clear l2
        go_wp2_with (first | (go_at_call 142; refine (less_is _ _).mono ?_; rintro e w2 ⟨rfl, hb⟩; have jb := Bel.mk hb; clear hb))
        refine ⟨⟨2 * r + 1, swp dk (first + r) (first + (2 * r + 1)), by first | rfl | (congr 1; omega), ⟨by omega⟩, ⟨so_cast (D' := swp dk (first + r) (first + (2 * r + 1))) inferInstance (by first | rfl | (congr 1 <;> omega))⟩, inferInstance, inferInstance, huf⟩, by simp [intOf]; omega⟩
      | false =>
        have y2 : Les dk ((first : Int) + (r : Int)) ((first : Int) + (2 * (r : Int) + 1)) false := Les.of l2 (by omega) (by omega)
        rw [l2, if_pos (by decide)] at huf
        have huf := Aside0.mk huf
        clear l2
        go_wp2_with (first | (go_at_call 142; refine (less_is _ _).mono ?_; rintro e w2 ⟨rfl, hb⟩; have jb := Bel.mk hb; clear hb))
        ((try simp only [Exit.inBlock, Exit.then]); refine bodyPost_ret (results_none rfl _ _ _) rfl ?_)
        exact ⟨rfl, so_cast inferInstance huf.out, Fr.out⟩
theorem siftDown_at {C : SoC} {W : World} {D : Array E} [SoG C] [h : So C W D] (lo' hi' first' : Int) (lo hi first : Nat) (e1 : lo' = lo) (e2 : hi' = hi) (e3 : first' = first) (hf : first + hi ≤ C.n) (hlo : lo ≤ C.n) :
    Calls Tryz.prog 170 #[datV C, .int .i64 lo', .int .i64 hi', .int .i64 first'] W fun e w' => e = .returned (.tuple #[]) ∧ SoAt C w' (siftDown beforeE hi first lo D) ∧ W.grownBy w' (some C.g) := by
  subst e1 e2 e3
  exact siftDown_calls C W D h.out lo hi first hf hlo
set_option maxHeartbeats 8000000 in
set_option maxRecDepth 100000 in
set_option synthInstance.maxHeartbeats 400000 in
set_option synthInstance.maxSize 100000 in
theorem heapSort_calls (C : SoC) [SoG C] (w : World) (D : Array E) (h : SoAt C w D) (a b : Nat) (hab : a ≤ b) (hb : b ≤ C.n) :
    Calls Tryz.prog 163 #[datV C, .int .i64 a, .int .i64 b] w fun e w' => e = .returned (.tuple #[]) ∧ SoAt C w' (heapSort beforeE D a b) ∧ w.grownBy w' (some C.g) := by
  have j0 := So.mk h
  have hsm := SoG.small (C := C)
  have jx : NeB w.heap.size C.g := ⟨Nat.ne_of_gt h.lt⟩
  clear h
  have hu := Tryz.underlying162
  have hq : Int.tdiv ((b : Int) - (a : Int) - 1) 2 = (((b - a - 1) / 2 : Nat) : Int) := by
    by_cases h0 : b - a = 0
    · rw [h0, show (b : Int) - (a : Int) - 1 = -1 by omega]; decide
    · rw [show (b : Int) - (a : Int) - 1 = ((b - a - 1 : Nat) : Int) by omega]; rfl
  go_enter Tryz.func163, Tryz.ntmps163
  go_wp2
  go_loopw [9] (fun v wr => ∃ (k : Nat) (z : Int) (dk : Array E), v = .int .i64 z ∧ Aside0 (z = (k : Int) - 1) ∧ Aside0 (k ≤ (b - a - 1) / 2 + 1) ∧ So C wr dk ∧ Fr C w wr ∧ Blk wr w.heap.size (datC C) 162 ∧ Aside0 (heapBuild beforeE (b - a) a k dk = heapBuild beforeE (b - a) a ((b - a - 1) / 2 + 1) D)) (fun v _ => (intOf v + 1).toNat)
  case atStart =>
    refine ⟨(b - a - 1) / 2 + 1, _, D, rfl, ⟨?_⟩, ⟨Nat.le_refl _⟩, inferInstance, inferInstance, ⟨blk_new w _⟩, ⟨rfl⟩⟩
    omega
  case round =>
    clear j0
    obtain ⟨k, z, dk, rfl, HZ, HK, j1, j2, j3, HO⟩ := hrel
    have hz := HZ.out
    have hk := HK.out
    cases k with
    | succ m =>
      obtain rfl : z = (m : Int) := by omega
      have d1 : decide (0 ≤ (m : Int)) = true := decide_eq_true (by omega)
      clear hq hz
      go_wp2_with (first | (go_at_call 170; refine (siftDown_at _ _ _ m (b - a) a rfl (by omega) rfl (by omega) (by omega)).mono ?_; rintro e w2 ⟨rfl, hs, hg⟩; have k1 := So.mk hs; have k2 := Gb.mk hg; clear hs hg))
      exact ⟨⟨m, _, _, rfl, ⟨rfl⟩, ⟨by omega⟩, k1, inferInstance, inferInstance, ⟨HO.out⟩⟩, by simp [intOf]⟩
    | zero =>
      obtain rfl : z = -1 := by omega
      have ho : dk = heapBuild beforeE (b - a) a ((b - a - 1) / 2 + 1) D := HO.out
      clear hq hz HO
      go_wp2
      go_loopw [10] (fun v wr => ∃ (k : Nat) (z : Int) (dj : Array E), v = .int .i64 z ∧ Aside0 (z = (k : Int) - 1) ∧ Aside0 (k ≤ b - a) ∧ So C wr dj ∧ Fr C w wr ∧ Blk wr w.heap.size (datC C) 162 ∧ Aside0 (heapPop beforeE a k dj = heapSort beforeE D a b)) (fun v _ => (intOf v + 1).toNat)
      case atStart => exact ⟨b - a, _, dk, rfl, ⟨by omega⟩, ⟨Nat.le_refl _⟩, j1, j2, j3, ⟨by rw [ho]; rfl⟩⟩
      case round =>
        clear j1 j2 j3 HZ HK ho hk
        obtain ⟨k, z, dj, rfl, HZ, HK, j1, j2, j3, HO⟩ := hrel
        have hz := HZ.out
        have hk := HK.out
        cases k with
        | succ m =>
          obtain rfl : z = (m : Int) := by omega
          have d1 : decide (0 ≤ (m : Int)) = true := decide_eq_true (by omega)
          have x1 : Ix (a : Int) C.n := ⟨by omega, by omega⟩
          have x2 : Ix ((a : Int) + (m : Int)) C.n := ⟨by omega, by omega⟩
          clear hz
          go_wp2_with (first | (go_at_call 170; refine (siftDown_at _ _ _ 0 m a rfl rfl rfl (by omega) (by omega)).mono ?_; rintro e w2 ⟨rfl, hs, hg⟩; have k1 := So.mk hs; have k2 := Gb.mk hg; clear hs hg))
          refine ⟨⟨m, _, _, rfl, ⟨rfl⟩, ⟨by omega⟩, ⟨so_cast (D' := siftDown beforeE m a 0 (swp dj a (a + m))) k1 (by first | rfl | (congr 2 <;> omega))⟩, inferInstance, inferInstance, ⟨HO.out⟩⟩, by simp [intOf]⟩
        | zero =>
          obtain rfl : z = -1 := by omega
          have ho : dj = heapSort beforeE D a b := HO.out
          clear hz
          go_wp2
          go_end0
          exact ⟨rfl, so_cast j1 ho, Fr.out⟩
class Fx (x : outParam Nat) (w0 W : World) : Prop where out : w0.grownBy W (some x)
class Gx (x : outParam Nat) (w : outParam World) (W : World) : Prop where out : w.grownBy W (some x)
section
variable {C : SoC} {w w0 W : World} {D : Array E} {o : Obj} {n x y i : Nat} {v : Value} {cs : Array Value} {t : TypeId}
instance [h : Fx x w W] : Fx x w (W.alloc o) := ⟨grownBy_trans h.out (grownBy_below (below_alloc (RowKit.Below.refl _ _) o))⟩
instance [h : Fx x w W] : Fx x w W.drew := ⟨grownBy_trans h.out (grownBy_below (below_drew1 (RowKit.Below.refl _ _)))⟩
instance [h : Fx x w W] : Fx x w (W.drewN n) := ⟨grownBy_trans h.out (grownBy_below (pw_below_drewN (RowKit.Below.refl _ _) n))⟩
instance [b : Bel w W] [h : Fx x w0 w] : Fx x w0 W := ⟨grownBy_trans h.out (grownBy_below b.out)⟩
instance [b : Gx x w W] [h : Fx x w0 w] : Fx x w0 W := ⟨grownBy_trans h.out b.out⟩
instance [h : Fx x w W] : Fx x w (W.setCell ⟨x, i, none⟩ v) := ⟨grownBy_trans h.out ⟨rfl, rfl, rfl, by simp, fun k _ hk => Below.heap_setCell W ⟨x, i, none⟩ v k (fun e => hk (by rw [e]))⟩⟩
instance [b : Gx x w W] [h : Blk w y cs t] [l : NeB y x] : Blk W y cs t := ⟨(b.out.block y (blk_lt h.out) (fun e => l.out (Option.some.inj e))).trans h.out⟩
instance [b : Gx x w W] [h : From w0 w] [l : Nw w0 x] : From w0 W := ⟨h.out.grown b.out h.out.size (fun k hk => by cases hk; exact l.out)⟩
end
set_option maxHeartbeats 8000000 in
set_option maxRecDepth 100000 in
set_option synthInstance.maxHeartbeats 400000 in
set_option synthInstance.maxSize 100000 in
theorem order2_calls (C : SoC) [SoG C] (w : World) (D : Array E) (h : SoAt C w D) (a b : Int) (ha : Ix a C.n) (hb : Ix b C.n) (x : Nat) (s : Int) (hs : 0 ≤ s) (hs2 : s ≤ 100) (hx : w.heap[x]? = some (.cells #[.int .i64 s] 3 (0, 0))) (hg : x ≠ C.g) (hbs : x ≠ C.bs) :
    Calls Tryz.prog 175 #[datV C, .int .i64 a, .int .i64 b, .pointer (some ⟨x, 0, none⟩)] w fun e w' => ∃ r1 r2 s' : Int, e = .returned (.tuple #[.int .i64 r1, .int .i64 r2]) ∧ ((r1 = a ∧ r2 = b) ∨ (r1 = b ∧ r2 = a)) ∧ 0 ≤ s' ∧ s' ≤ s + 1 ∧ SoAt C w' D ∧ w'.heap[x]? = some (.cells #[.int .i64 s'] 3 (0, 0)) ∧ w.grownBy w' (some x) := by
  have j0 := So.mk h
  have hxl : x < w.heap.size := blk_lt hx
  have jn : NeB w.heap.size x := ⟨by omega⟩
  have jn2 : NeB x w.heap.size := ⟨by omega⟩
  have jg : NeB x C.g := ⟨hg⟩
  have jb : NeB x C.bs := ⟨hbs⟩
  have jx := Blk.mk hx
  have jf : Fx x w w := ⟨grownBy_below (RowKit.Below.refl _ _)⟩
  have jy := fun o : Obj => blk_new w o
  clear h hx hg hbs hxl
  have hu := Tryz.underlying162
  cases l : beforeE D[b.toNat]! D[a.toNat]! with
  | true =>
    have y1 : Les D b a true := ⟨l⟩
    clear l
    go_enter Tryz.func175, Tryz.ntmps175
    go_wp2_with (first | (go_at_call 142; refine (less_is _ _).mono ?_; rintro e w2 ⟨rfl, hb⟩; have jb := Bel.mk hb; clear hb))
    go_ret2
    exact ⟨b, a, s + 1, rfl, .inr ⟨rfl, rfl⟩, by omega, by omega, So.out, Blk.out, Fx.out⟩
  | false =>
    have y1 : Les D b a false := ⟨l⟩
    clear l
    go_enter Tryz.func175, Tryz.ntmps175
    go_wp2_with (first | (go_at_call 142; refine (less_is _ _).mono ?_; rintro e w2 ⟨rfl, hb⟩; have jb := Bel.mk hb; clear hb))
    go_ret2
    exact ⟨a, b, s, rfl, .inl ⟨rfl, rfl⟩, by omega, by omega, So.out, Blk.out, Fx.out⟩
theorem ix_of {r1 r2 a b : Int} {n : Nat} (h : (r1 = a ∧ r2 = b) ∨ (r1 = b ∧ r2 = a)) (ha : Ix a n) (hb : Ix b n) : Ix r1 n ∧ Ix r2 n := by
  rcases h with ⟨rfl, rfl⟩ | ⟨rfl, rfl⟩
  · exact ⟨ha, hb⟩
  · exact ⟨hb, ha⟩
set_option maxHeartbeats 8000000 in
set_option maxRecDepth 100000 in
set_option synthInstance.maxHeartbeats 400000 in
set_option synthInstance.maxSize 100000 in
theorem median_calls (C : SoC) [SoG C] (w : World) (D : Array E) (h : SoAt C w D) (a b c : Int) (ha : Ix a C.n) (hb : Ix b C.n) (hc : Ix c C.n) (x : Nat) (s : Int) (hs : 0 ≤ s) (hs2 : s ≤ 90) (hx : w.heap[x]? = some (.cells #[.int .i64 s] 3 (0, 0))) (hg : x ≠ C.g) (hbs : x ≠ C.bs) :
    Calls Tryz.prog 174 #[datV C, .int .i64 a, .int .i64 b, .int .i64 c, .pointer (some ⟨x, 0, none⟩)] w fun e w' => ∃ r s' : Int, e = .returned (.int .i64 r) ∧ (r = a ∨ r = b ∨ r = c) ∧ SoAt C w' D ∧ w'.heap[x]? = some (.cells #[.int .i64 s'] 3 (0, 0)) ∧ w.grownBy w' (some x) := by
  have j0 := So.mk h
  have hxl : x < w.heap.size := blk_lt hx
  have jn2 : NeB w.heap.size x := ⟨by omega⟩
  have jx := Blk.mk hx
  have jf : Fx x w w := ⟨grownBy_below (RowKit.Below.refl _ _)⟩
  have jy := Blk.mk (blk_new w (.cells (datC C) 162))
  have jx2 : Blk (w.alloc (.cells (datC C) 162)) x #[.int .i64 s] 3 := ⟨blk_alloc hx _⟩
  clear h hx hxl
  have hu := Tryz.underlying162
  go_enter Tryz.func174, Tryz.ntmps174
  go_wp2_with (first | (go_at_call 175; refine (order2_calls C _ _ So.out _ _ inferInstance inferInstance x _ (by omega) (by omega) Blk.out hg hbs).mono ?_; rintro e w2 ⟨r1, r2, s2, rfl, hr, h1, h2, h3, h4, h5⟩; obtain ⟨i1, i2⟩ := ix_of (n := C.n) hr inferInstance inferInstance; have k1 := So.mk h3; have k2 := Blk.mk h4; have k3 := Gx.mk h5; clear h3 h4 h5))
  go_ret
  refine ⟨_, _, rfl, ?_, So.out, Blk.out, Fx.out⟩
  omega
set_option maxHeartbeats 8000000 in
set_option maxRecDepth 100000 in
set_option synthInstance.maxHeartbeats 400000 in
set_option synthInstance.maxSize 100000 in
theorem choosePivot_calls (C : SoC) [SoG C] (w : World) (D : Array E) (h : SoAt C w D) (a b : Nat) (hab : a < b) (hb : b ≤ C.n) :
    Calls Tryz.prog 165 #[datV C, .int .i64 a, .int .i64 b] w fun e w' => ∃ p k : Int, e = .returned (.tuple #[.int .i64 p, .int .i64 k]) ∧ a ≤ p ∧ p < b ∧ (k = 0 ∨ k = 1 ∨ k = 2) ∧ RowKit.Below w.heap.size w w' := by
  have j0 := So.mk h
  have hgl := h.lt
  have hbl := h.bs_lt
  have hsm := SoG.small (C := C)
  obtain ⟨q, hq⟩ : ∃ q : Int, Int.tdiv ((b : Int) - (a : Int)) 4 = q := ⟨_, rfl⟩
  have hq1 : 0 ≤ q ∧ 4 * q ≤ (b : Int) - a := by
    rw [← hq, show (b : Int) - (a : Int) = ((b - a : Nat) : Int) by omega]
    have : Int.tdiv (((b - a : Nat)) : Int) 4 = (((b - a) / 4 : Nat) : Int) := rfl
    rw [this]
    omega
  have jy := Blk.mk (blk_new w (.cells (datC C) 162))
  have jx : Blk ((w.alloc (.cells (datC C) 162)).alloc (.cells #[.int .i64 0] 3)) (w.heap.size + 1) #[.int .i64 0] 3 := ⟨by have := blk_new (w.alloc (.cells (datC C) 162)) (.cells #[.int .i64 0] 3); simpa using this⟩
  have jn : Nw w (w.heap.size + 1) := ⟨by omega⟩
  have hu := Tryz.underlying162
  have d2 : decide (50 ≤ (b : Int) - (a : Int)) = false := decide_eq_false (by omega)
  by_cases h8 : 8 ≤ (b : Int) - (a : Int)
  · have d1 : decide (8 ≤ (b : Int) - (a : Int)) = true := decide_eq_true h8
    have x1 : Ix ((a : Int) + q) C.n := ⟨by omega, by omega⟩
    have x2 : Ix ((a : Int) + q * 2) C.n := ⟨by omega, by omega⟩
    have x3 : Ix ((a : Int) + q * 3) C.n := ⟨by omega, by omega⟩
    go_enter Tryz.func165, Tryz.ntmps165
    go_wp2_with (first | (go_at_call 174; refine (median_calls C _ _ So.out _ _ _ inferInstance inferInstance inferInstance (w.heap.size + 1) _ (by omega) (by omega) Blk.out (by omega) (by omega)).mono ?_; rintro e w2 ⟨r, s2, rfl, hr, h3, h4, h5⟩; have k1 := So.mk h3; have k2 := Blk.mk h4; have k3 := Gx.mk h5; clear h3 h4 h5))
    all_goals go_ret2
    all_goals exact ⟨_, _, rfl, by omega, by omega, by omega, From.out⟩
  · have d1 : decide (8 ≤ (b : Int) - (a : Int)) = false := decide_eq_false h8
    go_enter Tryz.func165, Tryz.ntmps165
    go_wp2
    all_goals go_ret2
    all_goals exact ⟨_, _, rfl, by omega, by omega, by omega, From.out⟩
theorem partial_eq {lt : E → E → Bool} {a b : Nat} {D : Array E} (h : b - a < 50) : partialInsertionSort lt D a b = (D, decide (scanSorted lt D b (a + 1) = b)) := by
  unfold partialInsertionSort
  rw [partialIns]
  by_cases hb : scanSorted lt D b (a + 1) = b
  · simp [hb]
  · simp [hb, h]
set_option maxHeartbeats 8000000 in
set_option maxRecDepth 100000 in
set_option synthInstance.maxHeartbeats 400000 in
set_option synthInstance.maxSize 100000 in
theorem partial_calls (C : SoC) [SoG C] (w : World) (D : Array E) (h : SoAt C w D) (a b : Nat) (hab : a < b) (hb : b ≤ C.n) :
    Calls Tryz.prog 167 #[datV C, .int .i64 a, .int .i64 b] w fun e w' => ∃ r : Bool, e = .returned (.bool r) ∧ partialInsertionSort beforeE D a b = (D, r) ∧ RowKit.Below w.heap.size w w' := by
  have j0 := So.mk h
  have hsm := SoG.small (C := C)
  have HP := Aside0.mk (partial_eq (lt := beforeE) (D := D) (show b - a < 50 by omega))
  have hbx := blk_new w (.cells (datC C) 162)
  have d50 : decide ((b : Int) - (a : Int) < 50) = true := decide_eq_true (by omega)
  clear h
  have hu := Tryz.underlying162
  go_enter Tryz.func167, Tryz.ntmps167
  go_wp2
  go_loopw [7, 8] (fun v7 v8 wr => v7 = .int .i64 ((a : Int) + 1) ∧ v8 = .int .i64 0 ∧ So C wr D ∧ From w wr ∧ Blk wr w.heap.size (datC C) 162) (fun _ _ _ => 0)
  case atStart => exact ⟨rfl, rfl, inferInstance, inferInstance, ⟨hbx⟩⟩
  case round =>
    clear j0 hbx
    obtain ⟨rfl, rfl, j1, j2, j3⟩ := hrel
    go_wp2
    go_loopw [7] (fun v7 wr => ∃ i : Nat, v7 = .int .i64 i ∧ Aside0 (a < i) ∧ Aside0 (i ≤ b) ∧ So C wr D ∧ From w wr ∧ Blk wr w.heap.size (datC C) 162 ∧ Aside0 (scanSorted beforeE D b i = scanSorted beforeE D b (a + 1))) (fun v _ => b - (intOf v).toNat)
    case atStart => exact ⟨a + 1, by go_num, ⟨by omega⟩, ⟨by omega⟩, j1, j2, j3, ⟨rfl⟩⟩
    case round =>
      clear j1 j2 j3
      obtain ⟨i, rfl, HA, HB, j1, j2, j3, HO⟩ := hrel
      have hia := HA.out
      have hib := HB.out
      by_cases c1 : i < b
      · have d1 : decide ((i : Int) < (b : Int)) = true := decide_eq_true (by omega)
        have d3 : ((i : Int) == (b : Int)) = false := beq_eq_false_iff_ne.mpr (by omega)
        have x1 : Ix (i : Int) C.n := ⟨by omega, by omega⟩
        have x2 : Ix ((i : Int) - 1) C.n := ⟨by omega, by omega⟩
        cases l : beforeE D[i]! D[i - 1]! with
        | true =>
          have y1 : Les D (i : Int) ((i : Int) - 1) true := Les.of l rfl (by omega)
          have hs := Aside0.mk (scanSorted_stop (lt := beforeE) D b i (.inr l))
          clear l
          go_wp2_with (first | (go_at_call 142; refine (less_is _ _).mono ?_; rintro e w2 ⟨rfl, hb⟩; have jb := Bel.mk hb; clear hb))
          go_ret
          refine ⟨false, rfl, ?_, From.out⟩
          rw [HP.out, ← HO.out, hs.out, decide_eq_false (by omega)]
        | false =>
          have y1 : Les D (i : Int) ((i : Int) - 1) false := Les.of l rfl (by omega)
          have hs := Aside0.mk (scanSorted_go (lt := beforeE) D b i c1 l)
          clear l
          go_wp2_with (first | (go_at_call 142; refine (less_is _ _).mono ?_; rintro e w2 ⟨rfl, hb⟩; have jb := Bel.mk hb; clear hb))
          exact ⟨⟨i + 1, by go_num, ⟨by omega⟩, ⟨by omega⟩, inferInstance, inferInstance, inferInstance, ⟨by rw [← HO.out, hs.out]⟩⟩, by simp [intOf]; omega⟩
      · have d1 : decide ((i : Int) < (b : Int)) = false := decide_eq_false (by omega)
        obtain rfl : i = b := by omega
        have hs := Aside0.mk (scanSorted_stop (lt := beforeE) D i i (.inl (by omega)))
        go_wp2
        go_ret
        refine ⟨true, rfl, ?_, From.out⟩
        rw [HP.out, ← HO.out, hs.out, decide_eq_true rfl]
theorem partition_yes (D : Array E) (a b p i j : Nat) (hi : scanUp (fun x => beforeE x (swp D a p)[a]!) (swp D a p) (b - 1) (a + 1) = i) (hj : scanDown (fun x => !beforeE x (swp D a p)[a]!) (swp D a p) i (b - 1) = j) (h : i > j) :
    partition beforeE D a b p = (j, true, swp (swp D a p) j a) := by
  unfold partition
  simp only [hi, hj, if_pos h]
theorem partition_no (D : Array E) (a b p i j : Nat) (hi : scanUp (fun x => beforeE x (swp D a p)[a]!) (swp D a p) (b - 1) (a + 1) = i) (hj : scanDown (fun x => !beforeE x (swp D a p)[a]!) (swp D a p) i (b - 1) = j) (h : ¬ i > j) :
    partition beforeE D a b p = ((partLoop beforeE a (i + 1) (j - 1) (swp (swp D a p) i j)).1, false, swp (partLoop beforeE a (i + 1) (j - 1) (swp (swp D a p) i j)).2 (partLoop beforeE a (i + 1) (j - 1) (swp (swp D a p) i j)).1 a) := by
  unfold partition
  simp only [hi, hj, if_neg h]
set_option maxHeartbeats 16000000 in
set_option maxRecDepth 100000 in
set_option synthInstance.maxHeartbeats 400000 in
set_option synthInstance.maxSize 100000 in
theorem partition_calls (C : SoC) [SoG C] (w : World) (D : Array E) (h : SoAt C w D) (a b p : Nat) (hap : a ≤ p) (hpb : p < b) (hb : b ≤ C.n) :
    Calls Tryz.prog 169 #[datV C, .int .i64 a, .int .i64 b, .int .i64 p] w fun e w' => e = .returned (.tuple #[.int .i64 (partition beforeE D a b p).1, .bool (partition beforeE D a b p).2.1]) ∧ SoAt C w' (partition beforeE D a b p).2.2 ∧ w.grownBy w' (some C.g) := by
  have j0 := So.mk h
  have hsm := SoG.small (C := C)
  have jx : NeB w.heap.size C.g := ⟨Nat.ne_of_gt h.lt⟩
  have jy0 := Blk.mk (blk_new w (.cells (datC C) 162))
  have x5 : Ix (a : Int) C.n := ⟨by omega, by omega⟩
  have x6 : Ix (p : Int) C.n := ⟨by omega, by omega⟩
  obtain ⟨R, hRR⟩ : ∃ R, partition beforeE D a b p = R := ⟨_, rfl⟩
  rw [hRR]
  have hRR := Aside0.mk hRR.symm
  clear h
  have hu := Tryz.underlying162
  go_enter Tryz.func169, Tryz.ntmps169
  go_wp2
  have jq : So C (swapW C D (w.alloc (.cells (datC C) 162)) (a : Int) (p : Int)) (swp D a p) := ⟨so_cast (D' := swp D a p) inferInstance rfl⟩
  have jf : Fr C w (swapW C D (w.alloc (.cells (datC C) 162)) (a : Int) (p : Int)) := inferInstance
  have jy : Blk (swapW C D (w.alloc (.cells (datC C) 162)) (a : Int) (p : Int)) w.heap.size (datC C) 162 := inferInstance
  clear j0 jy0
  go_loopw [10] (fun v wr => ∃ i1 : Nat, v = .int .i64 i1 ∧ Aside0 (a < i1) ∧ Aside0 (i1 ≤ b - 1 + 1) ∧ So C wr (swp D a p) ∧ Fr C w wr ∧ Blk wr w.heap.size (datC C) 162 ∧ Aside0 (scanUp (fun x => beforeE x (swp D a p)[a]!) (swp D a p) (b - 1) i1 = scanUp (fun x => beforeE x (swp D a p)[a]!) (swp D a p) (b - 1) (a + 1))) (fun v _ => b - 1 + 1 - (intOf v).toNat)
  case atStart => exact ⟨a + 1, by first | rfl | go_num, ⟨by omega⟩, ⟨by omega⟩, inferInstance, inferInstance, inferInstance, ⟨rfl⟩⟩
  case round =>
    clear jq jy jf
    obtain ⟨i1, rfl, HA1, HB1, m1, m2, m3, HU1⟩ := hrel
    have ha1 := HA1.out
    have hb1 := HB1.out
    have x2 : Ix (a : Int) C.n := ⟨by omega, by omega⟩
    by_cases c1 : i1 ≤ b - 1 ∧ beforeE (swp D a p)[i1]! (swp D a p)[a]! = true
    · obtain ⟨c1, l⟩ := c1
      have d1 : decide ((i1 : Int) ≤ (b : Int) - 1) = true := decide_eq_true (by omega)
      have x1 : Ix (i1 : Int) C.n := ⟨by omega, by omega⟩
      have y1 : Les (swp D a p) (i1 : Int) (a : Int) true := Les.of l rfl rfl
      have hs := Aside0.mk (scanUp_go (fun x => beforeE x (swp D a p)[a]!) (swp D a p) (b - 1) i1 c1 l)
      clear l
      go_wp2_with (first | (go_at_call 142; refine (less_is _ _).mono ?_; rintro e w2 ⟨rfl, hb⟩; have jb := Bel.mk hb; clear hb))
      first
        | exact ⟨⟨i1 + 1, by first | rfl | go_num, ⟨by omega⟩, ⟨by omega⟩, inferInstance, inferInstance, inferInstance, ⟨by rw [← HU1.out, hs.out]⟩⟩, by simp [intOf]; omega⟩
        | (go_roundw; (case rel => ((repeat apply Exists.intro); exact ⟨⟨i1 + 1, by first | rfl | go_num, ⟨by omega⟩, ⟨by omega⟩, inferInstance, inferInstance, inferInstance, ⟨by rw [← HU1.out, hs.out]⟩⟩, (by first | rfl | (simp only [Int.natCast_add, Int.natCast_one]; rfl) | (simp only [Int.natCast_add, Int.natCast_one, ez]; rfl))⟩)); (case measure => first | (simp [intOf]; omega) | (simp [intOf]; done)))
    · have Hi1 : Aside0 (scanUp (fun x => beforeE x (swp D a p)[a]!) (swp D a p) (b - 1) (a + 1) = i1) := ⟨by
        rw [← HU1.out]
        refine scanUp_end (fun x => beforeE x (swp D a p)[a]!) (swp D a p) (b - 1) i1 ?_
        by_cases c : i1 ≤ b - 1
        · refine .inr ?_
          have : beforeE (swp D a p)[i1]! (swp D a p)[a]! = false := by
            cases h : beforeE (swp D a p)[i1]! (swp D a p)[a]! with
            | true => exact absurd ⟨c, h⟩ c1
            | false => rfl
          simp [this]
        · exact .inl c⟩
      have step : (i1 ≤ b - 1 ∧ beforeE (swp D a p)[i1]! (swp D a p)[a]! = false) ∨ ¬ i1 ≤ b - 1 := by
        by_cases c : i1 ≤ b - 1
        · refine .inl ⟨c, ?_⟩
          cases h : beforeE (swp D a p)[i1]! (swp D a p)[a]! with
          | true => exact absurd ⟨c, h⟩ c1
          | false => rfl
        · exact .inr c
      clear c1 HU1
      rcases step with ⟨c1, l⟩ | c1
      · have d1 : decide ((i1 : Int) ≤ (b : Int) - 1) = true := decide_eq_true (by omega)
        have x1 : Ix (i1 : Int) C.n := ⟨by omega, by omega⟩
        have y1 : Les (swp D a p) (i1 : Int) (a : Int) false := Les.of l rfl rfl
        have EA := Aside0.mk l
        clear l
        go_wp2_with (first | (go_at_call 142; refine (less_is _ _).mono ?_; rintro e w2 ⟨rfl, hb⟩; have jb := Bel.mk hb; clear hb))
        clear d1
        go_loopw [11] (fun v wr => ∃ j1 : Nat, v = .int .i64 j1 ∧ Aside0 (i1 ≤ j1 + 1) ∧ Aside0 (j1 ≤ b - 1) ∧ So C wr (swp D a p) ∧ Fr C w wr ∧ Blk wr w.heap.size (datC C) 162 ∧ Aside0 (scanDown (fun x => !beforeE x (swp D a p)[a]!) (swp D a p) i1 j1 = scanDown (fun x => !beforeE x (swp D a p)[a]!) (swp D a p) i1 (b - 1))) (fun v _ => (intOf v).toNat)
        case atStart => exact ⟨b - 1, by first | rfl | (congr 1; omega), ⟨by omega⟩, ⟨by omega⟩, inferInstance, inferInstance, inferInstance, ⟨rfl⟩⟩
        case round =>
          clear m1 m2 m3
          obtain ⟨j1, rfl, HC1, HD1, n1, n2, n3, HU1⟩ := hrel
          have hc1 := HC1.out
          have hd1 := HD1.out
          by_cases c2 : i1 ≤ j1 ∧ beforeE (swp D a p)[j1]! (swp D a p)[a]! = false
          · obtain ⟨c2, l⟩ := c2
            have d2 : decide ((i1 : Int) ≤ (j1 : Int)) = true := decide_eq_true (by omega)
            have d2n : decide (i1 ≤ j1) = true := decide_eq_true (by omega)
            have x3 : Ix (j1 : Int) C.n := ⟨by omega, by omega⟩
            have y2 : Les (swp D a p) (j1 : Int) (a : Int) false := Les.of l rfl rfl
            have hs := Aside0.mk (scanDown_go (fun x => !beforeE x (swp D a p)[a]!) (swp D a p) i1 j1 c2 (by omega) (by simp [l]))
            clear l
            go_wp2_with (first | (go_at_call 142; refine (less_is _ _).mono ?_; rintro e w2 ⟨rfl, hb⟩; have jb := Bel.mk hb; clear hb))
            have ez : ((j1 - 1 : Nat) : Int) = (j1 : Int) - 1 := by omega
            first
              | exact ⟨⟨j1 - 1, by first | rfl | (congr 1; omega), ⟨by omega⟩, ⟨by omega⟩, inferInstance, inferInstance, inferInstance, ⟨by rw [← HU1.out, hs.out]⟩⟩, by simp [intOf]; omega⟩
              | (go_roundw; (case rel => ((repeat apply Exists.intro); exact ⟨⟨j1 - 1, by first | rfl | (congr 1; omega), ⟨by omega⟩, ⟨by omega⟩, inferInstance, inferInstance, inferInstance, ⟨by rw [← HU1.out, hs.out]⟩⟩, (by first | rfl | (simp only [Int.natCast_add, Int.natCast_one]; rfl) | (simp only [Int.natCast_add, Int.natCast_one, ez]; rfl))⟩)); (case measure => first | (simp [intOf]; omega) | (simp [intOf]; done)))
          · have Hj1 : Aside0 (scanDown (fun x => !beforeE x (swp D a p)[a]!) (swp D a p) i1 (b - 1) = j1) := ⟨by
              rw [← HU1.out]
              refine scanDown_end (fun x => !beforeE x (swp D a p)[a]!) (swp D a p) i1 j1 ?_
              by_cases c : i1 ≤ j1
              · refine .inr ?_
                have : beforeE (swp D a p)[j1]! (swp D a p)[a]! = true := by
                  cases h : beforeE (swp D a p)[j1]! (swp D a p)[a]! with
                  | false => exact absurd ⟨c, h⟩ c2
                  | true => rfl
                simp [this]
              · exact .inl c⟩
            have step : (i1 ≤ j1 ∧ beforeE (swp D a p)[j1]! (swp D a p)[a]! = true) ∨ ¬ i1 ≤ j1 := by
              by_cases c : i1 ≤ j1
              · refine .inl ⟨c, ?_⟩
                cases h : beforeE (swp D a p)[j1]! (swp D a p)[a]! with
                | false => exact absurd ⟨c, h⟩ c2
                | true => rfl
              · exact .inr c
            clear c2 HU1
            rcases step with ⟨c2, l⟩ | c2
            · have d2 : decide ((i1 : Int) ≤ (j1 : Int)) = true := decide_eq_true (by omega)
              have d2n : decide (i1 ≤ j1) = true := decide_eq_true (by omega)
              have d3 : decide ((j1 : Int) < (i1 : Int)) = false := decide_eq_false (by omega)
              have d3n : decide (j1 < i1) = false := decide_eq_false (by omega)
              have x3 : Ix (j1 : Int) C.n := ⟨by omega, by omega⟩
              have x1 : Ix (i1 : Int) C.n := ⟨by omega, by omega⟩
              have y2 : Les (swp D a p) (j1 : Int) (a : Int) true := Les.of l rfl rfl
              have hge : a + 1 ≤ i1 := by
                have := scanUp_ge (fun x => beforeE x (swp D a p)[a]!) (swp D a p) (b - 1) (a + 1)
                rw [Hi1.out] at this
                exact this
              have hne : i1 ≠ j1 := by
                rintro rfl
                have := EA.out
                rw [l] at this
                cases this
              clear l
              go_wp2_with (first | (go_at_call 142; refine (less_is _ _).mono ?_; rintro e w2 ⟨rfl, hb⟩; have jb := Bel.mk hb; clear hb))
              have HRR := Aside0.mk (partition_no D a b p i1 j1 Hi1.out Hj1.out (by omega))
              go_loopw [10, 11] (fun v u wr => ∃ (i j : Nat) (dk : Array E), v = .int .i64 i ∧ u = .int .i64 j ∧ Aside0 (a < i) ∧ Aside0 (i ≤ j + 1) ∧ Aside0 (j < b) ∧ So C wr dk ∧ Fr C w wr ∧ Blk wr w.heap.size (datC C) 162 ∧ Aside0 (partLoop beforeE a i j dk = partLoop beforeE a (i1 + 1) (j1 - 1) (swp (swp D a p) i1 j1))) (fun v u _ => (intOf u).toNat + 1 - (intOf v).toNat)
              case atStart => exact ⟨i1 + 1, j1 - 1, swp (swp D a p) i1 j1, by go_num, by congr 1; omega, ⟨by omega⟩, ⟨by omega⟩, ⟨by omega⟩, ⟨so_cast (D' := swp (swp D a p) i1 j1) inferInstance rfl⟩, inferInstance, inferInstance, ⟨rfl⟩⟩
              case round =>
                clear n1 n2 n3 d2 d3 d2n d3n y2 x1 x3
                obtain ⟨i, j, dk, rfl, rfl, HP, HQ, HR, j1_, j2_, j3_, HO⟩ := hrel
                have hp := HP.out
                have hq := HQ.out
                have hr := HR.out
                go_wp2
                go_loopw [10] (fun v wr => ∃ i2 : Nat, v = .int .i64 i2 ∧ Aside0 (a < i2) ∧ Aside0 (i2 ≤ j + 1) ∧ So C wr dk ∧ Fr C w wr ∧ Blk wr w.heap.size (datC C) 162 ∧ Aside0 (scanUp (fun x => beforeE x dk[a]!) dk (j) i2 = scanUp (fun x => beforeE x dk[a]!) dk (j) (i))) (fun v _ => j + 1 - (intOf v).toNat)
                case atStart => exact ⟨i, by first | rfl | go_num, ⟨by omega⟩, ⟨by omega⟩, inferInstance, inferInstance, inferInstance, ⟨rfl⟩⟩
                case round =>
                  clear j1_ j2_ j3_
                  obtain ⟨i2, rfl, HA2, HB2, m1, m2, m3, HU2⟩ := hrel
                  have ha2 := HA2.out
                  have hb2 := HB2.out
                  have x2 : Ix (a : Int) C.n := ⟨by omega, by omega⟩
                  by_cases c1 : i2 ≤ j ∧ beforeE dk[i2]! dk[a]! = true
                  · obtain ⟨c1, l⟩ := c1
                    have d1 : decide ((i2 : Int) ≤ (j : Int)) = true := decide_eq_true (by omega)
                    have x1 : Ix (i2 : Int) C.n := ⟨by omega, by omega⟩
                    have y1 : Les dk (i2 : Int) (a : Int) true := Les.of l rfl rfl
                    have hs := Aside0.mk (scanUp_go (fun x => beforeE x dk[a]!) dk (j) i2 c1 l)
                    clear l
                    go_wp2_with (first | (go_at_call 142; refine (less_is _ _).mono ?_; rintro e w2 ⟨rfl, hb⟩; have jb := Bel.mk hb; clear hb))
                    first
                      | exact ⟨⟨i2 + 1, by first | rfl | go_num, ⟨by omega⟩, ⟨by omega⟩, inferInstance, inferInstance, inferInstance, ⟨by rw [← HU2.out, hs.out]⟩⟩, by simp [intOf]; omega⟩
                      | (go_roundw; (case rel => ((repeat apply Exists.intro); exact ⟨⟨i2 + 1, by first | rfl | go_num, ⟨by omega⟩, ⟨by omega⟩, inferInstance, inferInstance, inferInstance, ⟨by rw [← HU2.out, hs.out]⟩⟩, (by first | rfl | (simp only [Int.natCast_add, Int.natCast_one]; rfl) | (simp only [Int.natCast_add, Int.natCast_one, ez]; rfl))⟩)); (case measure => first | (simp [intOf]; omega) | (simp [intOf]; done)))
                  · have Hi2 : Aside0 (scanUp (fun x => beforeE x dk[a]!) dk (j) (i) = i2) := ⟨by
                      rw [← HU2.out]
                      refine scanUp_end (fun x => beforeE x dk[a]!) dk (j) i2 ?_
                      by_cases c : i2 ≤ j
                      · refine .inr ?_
                        have : beforeE dk[i2]! dk[a]! = false := by
                          cases h : beforeE dk[i2]! dk[a]! with
                          | true => exact absurd ⟨c, h⟩ c1
                          | false => rfl
                        simp [this]
                      · exact .inl c⟩
                    have step : (i2 ≤ j ∧ beforeE dk[i2]! dk[a]! = false) ∨ ¬ i2 ≤ j := by
                      by_cases c : i2 ≤ j
                      · refine .inl ⟨c, ?_⟩
                        cases h : beforeE dk[i2]! dk[a]! with
                        | true => exact absurd ⟨c, h⟩ c1
                        | false => rfl
                      · exact .inr c
                    clear c1 HU2
                    rcases step with ⟨c1, l⟩ | c1
                    · have d1 : decide ((i2 : Int) ≤ (j : Int)) = true := decide_eq_true (by omega)
                      have x1 : Ix (i2 : Int) C.n := ⟨by omega, by omega⟩
                      have y1 : Les dk (i2 : Int) (a : Int) false := Les.of l rfl rfl
                      have EA := Aside0.mk l
                      clear l
                      go_wp2_with (first | (go_at_call 142; refine (less_is _ _).mono ?_; rintro e w2 ⟨rfl, hb⟩; have jb := Bel.mk hb; clear hb))
                      clear d1
                      go_loopw [11] (fun v wr => ∃ j2 : Nat, v = .int .i64 j2 ∧ Aside0 (i2 ≤ j2 + 1) ∧ Aside0 (j2 ≤ j) ∧ So C wr dk ∧ Fr C w wr ∧ Blk wr w.heap.size (datC C) 162 ∧ Aside0 (scanDown (fun x => !beforeE x dk[a]!) dk i2 j2 = scanDown (fun x => !beforeE x dk[a]!) dk i2 (j))) (fun v _ => (intOf v).toNat)
                      case atStart => exact ⟨j, by first | rfl | (congr 1; omega), ⟨by omega⟩, ⟨by omega⟩, inferInstance, inferInstance, inferInstance, ⟨rfl⟩⟩
                      case round =>
                        clear m1 m2 m3
                        obtain ⟨j2, rfl, HC2, HD2, n1, n2, n3, HU2⟩ := hrel
                        have hc2 := HC2.out
                        have hd2 := HD2.out
                        by_cases c2 : i2 ≤ j2 ∧ beforeE dk[j2]! dk[a]! = false
                        · obtain ⟨c2, l⟩ := c2
                          have d2 : decide ((i2 : Int) ≤ (j2 : Int)) = true := decide_eq_true (by omega)
                          have d2n : decide (i2 ≤ j2) = true := decide_eq_true (by omega)
                          have x3 : Ix (j2 : Int) C.n := ⟨by omega, by omega⟩
                          have y2 : Les dk (j2 : Int) (a : Int) false := Les.of l rfl rfl
                          have hs := Aside0.mk (scanDown_go (fun x => !beforeE x dk[a]!) dk i2 j2 c2 (by omega) (by simp [l]))
                          clear l
                          go_wp2_with (first | (go_at_call 142; refine (less_is _ _).mono ?_; rintro e w2 ⟨rfl, hb⟩; have jb := Bel.mk hb; clear hb))
                          have ez : ((j2 - 1 : Nat) : Int) = (j2 : Int) - 1 := by omega
                          first
                            | exact ⟨⟨j2 - 1, by first | rfl | (congr 1; omega), ⟨by omega⟩, ⟨by omega⟩, inferInstance, inferInstance, inferInstance, ⟨by rw [← HU2.out, hs.out]⟩⟩, by simp [intOf]; omega⟩
                            | (go_roundw; (case rel => ((repeat apply Exists.intro); exact ⟨⟨j2 - 1, by first | rfl | (congr 1; omega), ⟨by omega⟩, ⟨by omega⟩, inferInstance, inferInstance, inferInstance, ⟨by rw [← HU2.out, hs.out]⟩⟩, (by first | rfl | (simp only [Int.natCast_add, Int.natCast_one]; rfl) | (simp only [Int.natCast_add, Int.natCast_one, ez]; rfl))⟩)); (case measure => first | (simp [intOf]; omega) | (simp [intOf]; done)))
                        · have Hj2 : Aside0 (scanDown (fun x => !beforeE x dk[a]!) dk i2 (j) = j2) := ⟨by
                            rw [← HU2.out]
                            refine scanDown_end (fun x => !beforeE x dk[a]!) dk i2 j2 ?_
                            by_cases c : i2 ≤ j2
                            · refine .inr ?_
                              have : beforeE dk[j2]! dk[a]! = true := by
                                cases h : beforeE dk[j2]! dk[a]! with
                                | false => exact absurd ⟨c, h⟩ c2
                                | true => rfl
                              simp [this]
                            · exact .inl c⟩
                          have step : (i2 ≤ j2 ∧ beforeE dk[j2]! dk[a]! = true) ∨ ¬ i2 ≤ j2 := by
                            by_cases c : i2 ≤ j2
                            · refine .inl ⟨c, ?_⟩
                              cases h : beforeE dk[j2]! dk[a]! with
                              | false => exact absurd ⟨c, h⟩ c2
                              | true => rfl
                            · exact .inr c
                          clear c2 HU2
                          rcases step with ⟨c2, l⟩ | c2
                          · have d2 : decide ((i2 : Int) ≤ (j2 : Int)) = true := decide_eq_true (by omega)
                            have d2n : decide (i2 ≤ j2) = true := decide_eq_true (by omega)
                            have d3 : decide ((j2 : Int) < (i2 : Int)) = false := decide_eq_false (by omega)
                            have d3n : decide (j2 < i2) = false := decide_eq_false (by omega)
                            have x3 : Ix (j2 : Int) C.n := ⟨by omega, by omega⟩
                            have x1 : Ix (i2 : Int) C.n := ⟨by omega, by omega⟩
                            have y2 : Les dk (j2 : Int) (a : Int) true := Les.of l rfl rfl
                            have hge : i ≤ i2 := by
                              have := scanUp_ge (fun x => beforeE x dk[a]!) dk (j) (i)
                              rw [Hi2.out] at this
                              exact this
                            have hne : i2 ≠ j2 := by
                              rintro rfl
                              have := EA.out
                              rw [l] at this
                              cases this
                            clear l
                            go_wp2_with (first | (go_at_call 142; refine (less_is _ _).mono ?_; rintro e w2 ⟨rfl, hb⟩; have jb := Bel.mk hb; clear hb))
                            have ez : ((j2 - 1 : Nat) : Int) = (j2 : Int) - 1 := by omega
                            first
                              | exact ⟨⟨i2 + 1, j2 - 1, swp dk i2 j2, by first | rfl | go_num, by first | rfl | (congr 1; omega), ⟨by omega⟩, ⟨by omega⟩, ⟨by omega⟩, ⟨so_cast (D' := swp dk i2 j2) inferInstance rfl⟩, inferInstance, inferInstance, ⟨by
                              rw [← HO.out, partLoop_eq beforeE a i j dk, Hi2.out, Hj2.out, if_neg (by omega)]⟩⟩, by simp [intOf]; omega⟩
                              | (go_roundw; (case rel => ((repeat apply Exists.intro); exact ⟨⟨i2 + 1, j2 - 1, swp dk i2 j2, by first | rfl | go_num, by first | rfl | (congr 1; omega), ⟨by omega⟩, ⟨by omega⟩, ⟨by omega⟩, ⟨so_cast (D' := swp dk i2 j2) inferInstance rfl⟩, inferInstance, inferInstance, ⟨by
                              rw [← HO.out, partLoop_eq beforeE a i j dk, Hi2.out, Hj2.out, if_neg (by omega)]⟩⟩, (by first | rfl | (simp only [Int.natCast_add, Int.natCast_one]; rfl) | (simp only [Int.natCast_add, Int.natCast_one, ez]; rfl))⟩)); (case measure => first | (simp [intOf]; omega) | (simp [intOf]; done)))
                          · have d2 : decide ((i2 : Int) ≤ (j2 : Int)) = false := decide_eq_false (by omega)
                            have d2n : decide (i2 ≤ j2) = false := decide_eq_false (by omega)
                            have d3 : decide ((j2 : Int) < (i2 : Int)) = true := decide_eq_true (by omega)
                            have d3n : decide (j2 < i2) = true := decide_eq_true (by omega)
                            have x3 : Ix (j2 : Int) C.n := ⟨by omega, by omega⟩
                            go_wp2
                            go_ret2
                            have hz := HO.out
                            rw [partLoop_eq beforeE a i j dk, Hi2.out, Hj2.out, if_pos (by omega)] at hz
                            refine ⟨by rw [hRR.out, HRR.out, ← hz]; rfl, so_cast (D' := R.2.2) (D := swp dk j2 a) ⟨so_cast (D' := swp dk j2 a) inferInstance rfl⟩ (by rw [hRR.out, HRR.out, ← hz]), Fr.out⟩
                    · have d1 : decide ((i2 : Int) ≤ (j : Int)) = false := decide_eq_false (by omega)
                      go_wp2
                      go_loopw [11] (fun v wr => ∃ j2 : Nat, v = .int .i64 j2 ∧ Aside0 (i2 ≤ j2 + 1) ∧ Aside0 (j2 ≤ j) ∧ So C wr dk ∧ Fr C w wr ∧ Blk wr w.heap.size (datC C) 162 ∧ Aside0 (scanDown (fun x => !beforeE x dk[a]!) dk i2 j2 = scanDown (fun x => !beforeE x dk[a]!) dk i2 (j))) (fun v _ => (intOf v).toNat)
                      case atStart => exact ⟨j, by first | rfl | (congr 1; omega), ⟨by omega⟩, ⟨by omega⟩, inferInstance, inferInstance, inferInstance, ⟨rfl⟩⟩
                      case round =>
                        clear m1 m2 m3
                        obtain ⟨j2, rfl, HC2, HD2, n1, n2, n3, HU2⟩ := hrel
                        have hc2 := HC2.out
                        have hd2 := HD2.out
                        have c2 : ¬ i2 ≤ j2 := by omega
                        have Hj2 : Aside0 (scanDown (fun x => !beforeE x dk[a]!) dk i2 (j) = j2) := ⟨by
                          rw [← HU2.out]
                          exact scanDown_end (fun x => !beforeE x dk[a]!) dk i2 j2 (.inl c2)⟩
                        clear HU2
                        have d2 : decide ((i2 : Int) ≤ (j2 : Int)) = false := decide_eq_false (by omega)
                        have d2n : decide (i2 ≤ j2) = false := decide_eq_false (by omega)
                        have d3 : decide ((j2 : Int) < (i2 : Int)) = true := decide_eq_true (by omega)
                        have d3n : decide (j2 < i2) = true := decide_eq_true (by omega)
                        have x3 : Ix (j2 : Int) C.n := ⟨by omega, by omega⟩
                        go_wp2
                        go_ret2
                        have hz := HO.out
                        rw [partLoop_eq beforeE a i j dk, Hi2.out, Hj2.out, if_pos (by omega)] at hz
                        refine ⟨by rw [hRR.out, HRR.out, ← hz]; rfl, so_cast (D' := R.2.2) (D := swp dk j2 a) ⟨so_cast (D' := swp dk j2 a) inferInstance rfl⟩ (by rw [hRR.out, HRR.out, ← hz]), Fr.out⟩
            · have d2 : decide ((i1 : Int) ≤ (j1 : Int)) = false := decide_eq_false (by omega)
              have d2n : decide (i1 ≤ j1) = false := decide_eq_false (by omega)
              have d3 : decide ((j1 : Int) < (i1 : Int)) = true := decide_eq_true (by omega)
              have d3n : decide (j1 < i1) = true := decide_eq_true (by omega)
              have x3 : Ix (j1 : Int) C.n := ⟨by omega, by omega⟩
              go_wp2
              go_ret2
              have hz := partition_yes D a b p i1 j1 Hi1.out Hj1.out (by omega)
              refine ⟨by rw [hRR.out, hz]; rfl, so_cast (D' := R.2.2) (D := swp (swp D a p) j1 a) ⟨so_cast (D' := swp (swp D a p) j1 a) inferInstance rfl⟩ (by rw [hRR.out, hz]), Fr.out⟩
      · have d1 : decide ((i1 : Int) ≤ (b : Int) - 1) = false := decide_eq_false (by omega)
        go_wp2
        go_loopw [11] (fun v wr => ∃ j1 : Nat, v = .int .i64 j1 ∧ Aside0 (i1 ≤ j1 + 1) ∧ Aside0 (j1 ≤ b - 1) ∧ So C wr (swp D a p) ∧ Fr C w wr ∧ Blk wr w.heap.size (datC C) 162 ∧ Aside0 (scanDown (fun x => !beforeE x (swp D a p)[a]!) (swp D a p) i1 j1 = scanDown (fun x => !beforeE x (swp D a p)[a]!) (swp D a p) i1 (b - 1))) (fun v _ => (intOf v).toNat)
        case atStart => exact ⟨b - 1, by first | rfl | (congr 1; omega), ⟨by omega⟩, ⟨by omega⟩, inferInstance, inferInstance, inferInstance, ⟨rfl⟩⟩
        case round =>
          clear m1 m2 m3
          obtain ⟨j1, rfl, HC1, HD1, n1, n2, n3, HU1⟩ := hrel
          have hc1 := HC1.out
          have hd1 := HD1.out
          have c2 : ¬ i1 ≤ j1 := by omega
          have Hj1 : Aside0 (scanDown (fun x => !beforeE x (swp D a p)[a]!) (swp D a p) i1 (b - 1) = j1) := ⟨by
            rw [← HU1.out]
            exact scanDown_end (fun x => !beforeE x (swp D a p)[a]!) (swp D a p) i1 j1 (.inl c2)⟩
          clear HU1
          have d2 : decide ((i1 : Int) ≤ (j1 : Int)) = false := decide_eq_false (by omega)
          have d2n : decide (i1 ≤ j1) = false := decide_eq_false (by omega)
          have d3 : decide ((j1 : Int) < (i1 : Int)) = true := decide_eq_true (by omega)
          have d3n : decide (j1 < i1) = true := decide_eq_true (by omega)
          have x3 : Ix (j1 : Int) C.n := ⟨by omega, by omega⟩
          go_wp2
          go_ret2
          have hz := partition_yes D a b p i1 j1 Hi1.out Hj1.out (by omega)
          refine ⟨by rw [hRR.out, hz]; rfl, so_cast (D' := R.2.2) (D := swp (swp D a p) j1 a) ⟨so_cast (D' := swp (swp D a p) j1 a) inferInstance rfl⟩ (by rw [hRR.out, hz]), Fr.out⟩
set_option maxHeartbeats 16000000 in
set_option maxRecDepth 100000 in
set_option synthInstance.maxHeartbeats 400000 in
set_option synthInstance.maxSize 100000 in
theorem partitionEqual_calls (C : SoC) [SoG C] (w : World) (D : Array E) (h : SoAt C w D) (a b p : Nat) (hap : a ≤ p) (hpb : p < b) (hb : b ≤ C.n) :
    Calls Tryz.prog 168 #[datV C, .int .i64 a, .int .i64 b, .int .i64 p] w fun e w' => e = .returned (.int .i64 (partitionEqual beforeE D a b p).1) ∧ SoAt C w' (partitionEqual beforeE D a b p).2 ∧ w.grownBy w' (some C.g) := by
  have j0 := So.mk h
  have hsm := SoG.small (C := C)
  have jx : NeB w.heap.size C.g := ⟨Nat.ne_of_gt h.lt⟩
  have jy := Blk.mk (blk_new w (.cells (datC C) 162))
  have x5 : Ix (a : Int) C.n := ⟨by omega, by omega⟩
  have x6 : Ix (p : Int) C.n := ⟨by omega, by omega⟩
  have hR : partitionEqual beforeE D a b p = partEqLoop beforeE a (a + 1) (b - 1) (swp D a p) := rfl
  obtain ⟨R, hRR⟩ : ∃ R, partitionEqual beforeE D a b p = R := ⟨_, rfl⟩
  rw [hRR] at hR ⊢
  have hR := Aside0.mk hR
  clear h hRR
  have hu := Tryz.underlying162
  go_enter Tryz.func168, Tryz.ntmps168
  go_wp2
  go_loopw [9, 10] (fun v u wr => ∃ (i j : Nat) (dk : Array E), v = .int .i64 i ∧ u = .int .i64 j ∧ Aside0 (a < i) ∧ Aside0 (i ≤ j + 1) ∧ Aside0 (j < b) ∧ So C wr dk ∧ Fr C w wr ∧ Blk wr w.heap.size (datC C) 162 ∧ Aside0 (partEqLoop beforeE a i j dk = R)) (fun v u _ => (intOf u).toNat + 1 - (intOf v).toNat)
  case atStart => exact ⟨a + 1, b - 1, swp D a p, by go_num, by congr 1; omega, ⟨by omega⟩, ⟨by omega⟩, ⟨by omega⟩, ⟨so_cast (D' := swp D a p) inferInstance rfl⟩, inferInstance, inferInstance, ⟨hR.out.symm⟩⟩
  case round =>
    clear j0 jy
    obtain ⟨i, j, dk, rfl, rfl, HP, HQ, HR, j1, j2, j3, HO⟩ := hrel
    have hp := HP.out
    have hq := HQ.out
    have hr := HR.out
    go_wp2
    go_loopw [9] (fun v wr => ∃ i2 : Nat, v = .int .i64 i2 ∧ Aside0 (a < i2) ∧ Aside0 (i2 ≤ j + 1) ∧ So C wr dk ∧ Fr C w wr ∧ Blk wr w.heap.size (datC C) 162 ∧ Aside0 (scanUp (fun x => !beforeE dk[a]! x) dk (j) i2 = scanUp (fun x => !beforeE dk[a]! x) dk (j) (i))) (fun v _ => j + 1 - (intOf v).toNat)
    case atStart => exact ⟨i, by first | rfl | go_num, ⟨by omega⟩, ⟨by omega⟩, inferInstance, inferInstance, inferInstance, ⟨rfl⟩⟩
    case round =>
      clear j1 j2 j3
      obtain ⟨i2, rfl, HA2, HB2, m1, m2, m3, HU2⟩ := hrel
      have ha2 := HA2.out
      have hb2 := HB2.out
      have x2 : Ix (a : Int) C.n := ⟨by omega, by omega⟩
      by_cases c1 : i2 ≤ j ∧ beforeE dk[a]! dk[i2]! = false
      · obtain ⟨c1, l⟩ := c1
        have d1 : decide ((i2 : Int) ≤ (j : Int)) = true := decide_eq_true (by omega)
        have x1 : Ix (i2 : Int) C.n := ⟨by omega, by omega⟩
        have y1 : Les dk (a : Int) (i2 : Int) false := Les.of l rfl rfl
        have hs := Aside0.mk (scanUp_go (fun x => !beforeE dk[a]! x) dk (j) i2 c1 (by simp [l]))
        clear l
        go_wp2_with (first | (go_at_call 142; refine (less_is _ _).mono ?_; rintro e w2 ⟨rfl, hb⟩; have jb := Bel.mk hb; clear hb))
        first
          | exact ⟨⟨i2 + 1, by first | rfl | go_num, ⟨by omega⟩, ⟨by omega⟩, inferInstance, inferInstance, inferInstance, ⟨by rw [← HU2.out, hs.out]⟩⟩, by simp [intOf]; omega⟩
          | (go_roundw; (case rel => ((repeat apply Exists.intro); exact ⟨⟨i2 + 1, by first | rfl | go_num, ⟨by omega⟩, ⟨by omega⟩, inferInstance, inferInstance, inferInstance, ⟨by rw [← HU2.out, hs.out]⟩⟩, (by first | rfl | (simp only [Int.natCast_add, Int.natCast_one]; rfl) | (simp only [Int.natCast_add, Int.natCast_one, ez]; rfl))⟩)); (case measure => first | (simp [intOf]; omega) | (simp [intOf]; done)))
      · have Hi2 : Aside0 (scanUp (fun x => !beforeE dk[a]! x) dk (j) (i) = i2) := ⟨by
          rw [← HU2.out]
          refine scanUp_end (fun x => !beforeE dk[a]! x) dk (j) i2 ?_
          by_cases c : i2 ≤ j
          · refine .inr ?_
            have : beforeE dk[a]! dk[i2]! = true := by
              cases h : beforeE dk[a]! dk[i2]! with
              | false => exact absurd ⟨c, h⟩ c1
              | true => rfl
            simp [this]
          · exact .inl c⟩
        have step : (i2 ≤ j ∧ beforeE dk[a]! dk[i2]! = true) ∨ ¬ i2 ≤ j := by
          by_cases c : i2 ≤ j
          · refine .inl ⟨c, ?_⟩
            cases h : beforeE dk[a]! dk[i2]! with
            | false => exact absurd ⟨c, h⟩ c1
            | true => rfl
          · exact .inr c
        clear c1 HU2
        rcases step with ⟨c1, l⟩ | c1
        · have d1 : decide ((i2 : Int) ≤ (j : Int)) = true := decide_eq_true (by omega)
          have x1 : Ix (i2 : Int) C.n := ⟨by omega, by omega⟩
          have y1 : Les dk (a : Int) (i2 : Int) true := Les.of l rfl rfl
          have EA := Aside0.mk l
          clear l
          go_wp2_with (first | (go_at_call 142; refine (less_is _ _).mono ?_; rintro e w2 ⟨rfl, hb⟩; have jb := Bel.mk hb; clear hb))
          clear d1
          go_loopw [10] (fun v wr => ∃ j2 : Nat, v = .int .i64 j2 ∧ Aside0 (i2 ≤ j2 + 1) ∧ Aside0 (j2 ≤ j) ∧ So C wr dk ∧ Fr C w wr ∧ Blk wr w.heap.size (datC C) 162 ∧ Aside0 (scanDown (fun x => beforeE dk[a]! x) dk i2 j2 = scanDown (fun x => beforeE dk[a]! x) dk i2 (j))) (fun v _ => (intOf v).toNat)
          case atStart => exact ⟨j, by first | rfl | (congr 1; omega), ⟨by omega⟩, ⟨by omega⟩, inferInstance, inferInstance, inferInstance, ⟨rfl⟩⟩
          case round =>
            clear m1 m2 m3
            obtain ⟨j2, rfl, HC2, HD2, n1, n2, n3, HU2⟩ := hrel
            have hc2 := HC2.out
            have hd2 := HD2.out
            by_cases c2 : i2 ≤ j2 ∧ beforeE dk[a]! dk[j2]! = true
            · obtain ⟨c2, l⟩ := c2
              have d2 : decide ((i2 : Int) ≤ (j2 : Int)) = true := decide_eq_true (by omega)
              have d2n : decide (i2 ≤ j2) = true := decide_eq_true (by omega)
              have x3 : Ix (j2 : Int) C.n := ⟨by omega, by omega⟩
              have y2 : Les dk (a : Int) (j2 : Int) true := Les.of l rfl rfl
              have hs := Aside0.mk (scanDown_go (fun x => beforeE dk[a]! x) dk i2 j2 c2 (by omega) l)
              clear l
              go_wp2_with (first | (go_at_call 142; refine (less_is _ _).mono ?_; rintro e w2 ⟨rfl, hb⟩; have jb := Bel.mk hb; clear hb))
              have ez : ((j2 - 1 : Nat) : Int) = (j2 : Int) - 1 := by omega
              first
                | exact ⟨⟨j2 - 1, by first | rfl | (congr 1; omega), ⟨by omega⟩, ⟨by omega⟩, inferInstance, inferInstance, inferInstance, ⟨by rw [← HU2.out, hs.out]⟩⟩, by simp [intOf]; omega⟩
                | (go_roundw; (case rel => ((repeat apply Exists.intro); exact ⟨⟨j2 - 1, by first | rfl | (congr 1; omega), ⟨by omega⟩, ⟨by omega⟩, inferInstance, inferInstance, inferInstance, ⟨by rw [← HU2.out, hs.out]⟩⟩, (by first | rfl | (simp only [Int.natCast_add, Int.natCast_one]; rfl) | (simp only [Int.natCast_add, Int.natCast_one, ez]; rfl))⟩)); (case measure => first | (simp [intOf]; omega) | (simp [intOf]; done)))
            · have Hj2 : Aside0 (scanDown (fun x => beforeE dk[a]! x) dk i2 (j) = j2) := ⟨by
                rw [← HU2.out]
                refine scanDown_end (fun x => beforeE dk[a]! x) dk i2 j2 ?_
                by_cases c : i2 ≤ j2
                · refine .inr ?_
                  have : beforeE dk[a]! dk[j2]! = false := by
                    cases h : beforeE dk[a]! dk[j2]! with
                    | true => exact absurd ⟨c, h⟩ c2
                    | false => rfl
                  simp [this]
                · exact .inl c⟩
              have step : (i2 ≤ j2 ∧ beforeE dk[a]! dk[j2]! = false) ∨ ¬ i2 ≤ j2 := by
                by_cases c : i2 ≤ j2
                · refine .inl ⟨c, ?_⟩
                  cases h : beforeE dk[a]! dk[j2]! with
                  | true => exact absurd ⟨c, h⟩ c2
                  | false => rfl
                · exact .inr c
              clear c2 HU2
              rcases step with ⟨c2, l⟩ | c2
              · have d2 : decide ((i2 : Int) ≤ (j2 : Int)) = true := decide_eq_true (by omega)
                have d2n : decide (i2 ≤ j2) = true := decide_eq_true (by omega)
                have d3 : decide ((j2 : Int) < (i2 : Int)) = false := decide_eq_false (by omega)
                have d3n : decide (j2 < i2) = false := decide_eq_false (by omega)
                have x3 : Ix (j2 : Int) C.n := ⟨by omega, by omega⟩
                have x1 : Ix (i2 : Int) C.n := ⟨by omega, by omega⟩
                have y2 : Les dk (a : Int) (j2 : Int) false := Les.of l rfl rfl
                have hge : i ≤ i2 := by
                  have := scanUp_ge (fun x => !beforeE dk[a]! x) dk (j) (i)
                  rw [Hi2.out] at this
                  exact this
                have hne : i2 ≠ j2 := by
                  rintro rfl
                  have := EA.out
                  rw [l] at this
                  cases this
                clear l
                go_wp2_with (first | (go_at_call 142; refine (less_is _ _).mono ?_; rintro e w2 ⟨rfl, hb⟩; have jb := Bel.mk hb; clear hb))
                have ez : ((j2 - 1 : Nat) : Int) = (j2 : Int) - 1 := by omega
                first
                  | exact ⟨⟨i2 + 1, j2 - 1, swp dk i2 j2, by first | rfl | go_num, by first | rfl | (congr 1; omega), ⟨by omega⟩, ⟨by omega⟩, ⟨by omega⟩, ⟨so_cast (D' := swp dk i2 j2) inferInstance rfl⟩, inferInstance, inferInstance, ⟨by
                  rw [← HO.out, partEqLoop_eq beforeE a i j dk, Hi2.out, Hj2.out, if_neg (by omega)]⟩⟩, by simp [intOf]; omega⟩
                  | (go_roundw; (case rel => ((repeat apply Exists.intro); exact ⟨⟨i2 + 1, j2 - 1, swp dk i2 j2, by first | rfl | go_num, by first | rfl | (congr 1; omega), ⟨by omega⟩, ⟨by omega⟩, ⟨by omega⟩, ⟨so_cast (D' := swp dk i2 j2) inferInstance rfl⟩, inferInstance, inferInstance, ⟨by
                  rw [← HO.out, partEqLoop_eq beforeE a i j dk, Hi2.out, Hj2.out, if_neg (by omega)]⟩⟩, (by first | rfl | (simp only [Int.natCast_add, Int.natCast_one]; rfl) | (simp only [Int.natCast_add, Int.natCast_one, ez]; rfl))⟩)); (case measure => first | (simp [intOf]; omega) | (simp [intOf]; done)))
              · have d2 : decide ((i2 : Int) ≤ (j2 : Int)) = false := decide_eq_false (by omega)
                have d2n : decide (i2 ≤ j2) = false := decide_eq_false (by omega)
                have d3 : decide ((j2 : Int) < (i2 : Int)) = true := decide_eq_true (by omega)
                have d3n : decide (j2 < i2) = true := decide_eq_true (by omega)
                have x3 : Ix (j2 : Int) C.n := ⟨by omega, by omega⟩
                go_wp2
                go_ret
                have hz := HO.out
                rw [partEqLoop_eq beforeE a i j dk, Hi2.out, Hj2.out, if_pos (by omega)] at hz
                exact ⟨by rw [← hz]; rfl, so_cast (D := dk) inferInstance (by rw [← hz]), Fr.out⟩
        · have d1 : decide ((i2 : Int) ≤ (j : Int)) = false := decide_eq_false (by omega)
          go_wp2
          go_loopw [10] (fun v wr => ∃ j2 : Nat, v = .int .i64 j2 ∧ Aside0 (i2 ≤ j2 + 1) ∧ Aside0 (j2 ≤ j) ∧ So C wr dk ∧ Fr C w wr ∧ Blk wr w.heap.size (datC C) 162 ∧ Aside0 (scanDown (fun x => beforeE dk[a]! x) dk i2 j2 = scanDown (fun x => beforeE dk[a]! x) dk i2 (j))) (fun v _ => (intOf v).toNat)
          case atStart => exact ⟨j, by first | rfl | (congr 1; omega), ⟨by omega⟩, ⟨by omega⟩, inferInstance, inferInstance, inferInstance, ⟨rfl⟩⟩
          case round =>
            clear m1 m2 m3
            obtain ⟨j2, rfl, HC2, HD2, n1, n2, n3, HU2⟩ := hrel
            have hc2 := HC2.out
            have hd2 := HD2.out
            have c2 : ¬ i2 ≤ j2 := by omega
            have Hj2 : Aside0 (scanDown (fun x => beforeE dk[a]! x) dk i2 (j) = j2) := ⟨by
              rw [← HU2.out]
              exact scanDown_end (fun x => beforeE dk[a]! x) dk i2 j2 (.inl c2)⟩
            clear HU2
            have d2 : decide ((i2 : Int) ≤ (j2 : Int)) = false := decide_eq_false (by omega)
            have d2n : decide (i2 ≤ j2) = false := decide_eq_false (by omega)
            have d3 : decide ((j2 : Int) < (i2 : Int)) = true := decide_eq_true (by omega)
            have d3n : decide (j2 < i2) = true := decide_eq_true (by omega)
            have x3 : Ix (j2 : Int) C.n := ⟨by omega, by omega⟩
            go_wp2
            go_ret
            have hz := HO.out
            rw [partEqLoop_eq beforeE a i j dk, Hi2.out, Hj2.out, if_pos (by omega)] at hz
            exact ⟨by rw [← hz]; rfl, so_cast (D := dk) inferInstance (by rw [← hz]), Fr.out⟩
end Go.Proofs.YtanhnhkcpbdfmaaGreat.S
namespace Go.Proofs.YtanhnhkcpbdfmaaGreat.S
open Go.RowKit Go.Sort Go.Proofs.YtanhnhkcpbdfmaaGreat.P Go.Proofs.YtanhnhkcpbdfmaaGreat.Q Go.Proofs.YtanhnhkcpbdfmaaGreat.V Go.Proofs.YtanhnhkcpbdfmaaGreatW.PrintWords
theorem swo_beforeE : SWO beforeE where
  irrefl := before_irrefl
  trans := fun x y z h k => before_trans h k
  ntrans := fun x y z h k => by
    rw [Bool.eq_false_iff, ne_eq, before_iff] at h k ⊢
    omega
theorem mem_perm {a b : Nat} {D D' : Array E} (hb : b ≤ D.size) (h : PermIn a b D D') : ∀ x ∈ D', x ∈ D := by
  intro x hx
  obtain ⟨k, hk, rfl⟩ := Array.mem_iff_getElem.mp hx
  have hk' : k < D.size := by rw [← h.1]; exact hk
  by_cases hin : a ≤ k ∧ k < b
  · have hall := permIn_all D D' a b (fun y => y ∈ D) hb h (fun i hi hi' => by
      rw [getElem!_pos D i (by omega)]; exact Array.getElem_mem _) k hin.1 hin.2
    rw [getElem!_pos D' k hk] at hall
    exact hall
  · have := h.2.1 k (by omega)
    rw [getElem!_pos D' k hk, getElem!_pos D k hk'] at this
    rw [this]
    exact Array.getElem_mem _
theorem so_sorted {C : SoC} [g : SoG C] {w : World} {D D' : Array E} {a b : Nat} (h : SoAt C w D) (hb : b ≤ C.n) (hp : PermIn a b D D') (n : Nat) (os : Array Obj) :
    SoAt C (sortWorldK enc4 4 w C.g 0 n D' os) D' ∧ w.grownBy (sortWorldK enc4 4 w C.g 0 n D' os) (some C.g) := by
  have hs : D'.size = D.size := hp.1
  have hg : w.grownBy (sortWorldK enc4 4 w C.g 0 n D' os) (some C.g) := by
    unfold sortWorldK
    refine ⟨rfl, rfl, rfl, by rw [size_grow, size_putRowK]; show w.heap.size ≤ w.heap.size + os.size; omega, fun k hk1 hk2 => ?_⟩
    rw [heap_grow_old _ _ (by rw [size_putRowK]; exact hk1)]
    unfold putRowK putRow
    rw [onCells_block, if_neg (fun hh => hk2 (by rw [hh]))]
    rfl
  exact ⟨⟨holdsK_sortWorldK enc4 4 w C.g 0 n D D' os h.lt h.hold hs, by rw [hs]; exact h.size, (hg.block _ h.bs_lt (fun e => g.ne (Option.some.inj e))).trans h.box, Nat.lt_of_lt_of_le h.lt hg.size, by
    unfold sortWorldK
    rw [heap_grow_old _ _ (by rw [size_putRowK]; exact h.lt)]
    exact put_shape (W := Sort.ahead w n) h.shape, fun x hx => h.ftd x (mem_perm (by rw [h.size]; exact hb) hp x hx)⟩, hg⟩
theorem break_calls (C : SoC) [g : SoG C] (w : World) (D : Array E) (h : SoAt C w D) (a b : Nat) (hab : a ≤ b) (hb : b ≤ C.n) :
    Calls Tryz.prog 164 #[datV C, .int .i64 a, .int .i64 b] w fun e w' => e = .returned (.tuple #[]) ∧ ∃ D', SoAt C w' D' ∧ PermIn a b D D' ∧ w.grownBy w' (some C.g) := by
  have hsw : SwapSwapsK Tryz.prog 159 C.sb enc4 4 C.g 0 D.size := by rw [h.size]; exact g.swap
  have := Any.breakPatterns_func_cells_w (P := Tryz.prog) (ρ := sv6_ren) { sv6 with } enc4 4 enc4_len (.func 142) #[] C.lb 159 C.sb C.g 0 a b D w hsw h.hold h.lt hab (by rw [h.size]; exact hb) (by have := g.small; rw [h.size]; omega)
  refine this.mono ?_
  rintro e w' ⟨he, n, os, rfl⟩
  have hp := breakPatterns_holds D a b hab (by rw [h.size]; exact hb)
  obtain ⟨h1, h2⟩ := so_sorted h hb hp n os
  exact ⟨he, _, h1, hp, h2⟩
theorem reverse_calls (C : SoC) [g : SoG C] (w : World) (D : Array E) (h : SoAt C w D) (a b : Nat) (hab : a ≤ b) (hb : b ≤ C.n) :
    Calls Tryz.prog 166 #[datV C, .int .i64 a, .int .i64 b] w fun e w' => e = .returned (.tuple #[]) ∧ ∃ D', SoAt C w' D' ∧ PermIn a b D D' ∧ w.grownBy w' (some C.g) := by
  have hsw : SwapSwapsK Tryz.prog 159 C.sb enc4 4 C.g 0 D.size := by rw [h.size]; exact g.swap
  have := Any.reverseRange_func_cells_w (P := Tryz.prog) (ρ := sv6_ren) { sv6 with } enc4 4 enc4_len (.func 142) #[] C.lb 159 C.sb C.g 0 a b D w hsw h.hold h.lt hab (by rw [h.size]; exact hb) (by have := g.small; rw [h.size]; omega)
  refine this.mono ?_
  rintro e w' ⟨he, n, os, rfl⟩
  have hp := reverseRange_holds D a b hab (by rw [h.size]; exact hb)
  obtain ⟨h1, h2⟩ := so_sorted h hb hp n os
  exact ⟨he, _, h1, hp, h2⟩
theorem less_ex {C : SoC} {W : World} {D : Array E} [g : SoG C] (h : SoAt C W D) (i j : Int) (i' j' : Nat) (ei : i = i') (ej : j = j') (hi : i' < C.n) (hj : j' < C.n) :
    Calls Tryz.prog 142 (#[.int .i64 i, .int .i64 j] ++ C.lb) W fun e w' => ∃ lb, e = .returned (.bool lb) ∧ beforeE D[i']! D[j']! = lb ∧ RowKit.Below W.heap.size W w' := by
  subst ei ej
  exact (less_calls C W D h g.lb g.small i' j' hi hj).mono fun e w' hh => ⟨_, hh.1, rfl, hh.2⟩
theorem partitionEqual_at {C : SoC} {W : World} {D : Array E} [SoG C] (h : SoAt C W D) (a b p : Nat) (p' : Int) (e : p' = p) (hap : a ≤ p) (hpb : p < b) (hb : b ≤ C.n) :
    Calls Tryz.prog 168 #[datV C, .int .i64 a, .int .i64 b, .int .i64 p'] W fun e w' => ∃ mid D', partitionEqual beforeE D a b p = (mid, D') ∧ e = .returned (.int .i64 (mid : Nat)) ∧ SoAt C w' D' ∧ W.grownBy w' (some C.g) := by
  subst e
  exact (partitionEqual_calls C W D h a b p hap hpb hb).mono fun e w' hh => ⟨_, _, rfl, hh⟩
theorem partition_at {C : SoC} {W : World} {D : Array E} [SoG C] (h : SoAt C W D) (a b p : Nat) (p' : Int) (e : p' = p) (hap : a ≤ p) (hpb : p < b) (hb : b ≤ C.n) :
    Calls Tryz.prog 169 #[datV C, .int .i64 a, .int .i64 b, .int .i64 p'] W fun e w' => ∃ mid ap D', partition beforeE D a b p = (mid, ap, D') ∧ e = .returned (.tuple #[.int .i64 (mid : Nat), .bool ap]) ∧ SoAt C w' D' ∧ W.grownBy w' (some C.g) := by
  subst e
  exact (partition_calls C W D h a b p hap hpb hb).mono fun e w' hh => ⟨_, _, _, rfl, hh⟩
end Go.Proofs.YtanhnhkcpbdfmaaGreat.S
namespace Go.Proofs.YtanhnhkcpbdfmaaGreat.S
open Go.RowKit Go.Sort Go.Proofs.YtanhnhkcpbdfmaaGreat.P Go.Proofs.YtanhnhkcpbdfmaaGreat.Q Go.Proofs.YtanhnhkcpbdfmaaGreat.V Go.Proofs.YtanhnhkcpbdfmaaGreatW.PrintWords
attribute [local go_sem] cell_b frozen_b swap_run
def PdqOk (C : SoC) (N : Nat) : Prop := ∀ (w : World) (D : Array E), SoAt C w D → ∀ a b limit : Nat, b - a < N → a ≤ b → b ≤ C.n → limit ≤ 100 → Sort.Below beforeE a b D → ∀ a' b' l' : Int, a' = a → b' = b → l' = limit →
    Calls Tryz.prog 149 #[datV C, .int .i64 a', .int .i64 b', .int .i64 l'] w fun e w' => e = .returned (.tuple #[]) ∧ ∃ D', SoAt C w' D' ∧ PermIn a b D D' ∧ SortedIn beforeE a b D' ∧ w.grownBy w' (some C.g)
set_option maxHeartbeats 16000000 in
set_option maxRecDepth 100000 in
set_option synthInstance.maxHeartbeats 400000 in
set_option synthInstance.maxSize 100000 in
theorem pdq_step (C : SoC) [SoG C] (N : Nat) (ih : PdqOk C N) : PdqOk C (N + 1) := by
  intro w D h a b limit hN hab hb hlim hB a' b' l' ea eb el
  subst ea eb el
  have j0 := So.mk h
  have hsm := SoG.small (C := C)
  have hsz := h.size
  have jx : NeB w.heap.size C.g := ⟨Nat.ne_of_gt h.lt⟩
  have jy := Blk.mk (blk_new w (.cells (datC C) 162))
  have hBA := Aside0.mk hB
  have IH := Aside0.mk ih
  clear h hB ih
  have hu := Tryz.underlying162
  go_enter Tryz.func149, Tryz.ntmps149
  go_wp2
  go_loopg [1, 2, 3, 8, 9] (b - a) (fun kx v1 v2 v3 v8 v9 wr => ∃ (a1 b1 l1 : Nat) (wb wp : Bool) (dk : Array E), v1 = .int .i64 a1 ∧ v2 = .int .i64 b1 ∧ v3 = .int .i64 l1 ∧ v8 = .bool wb ∧ v9 = .bool wp ∧ Aside0 (a1 ≤ b1 ∧ b1 ≤ C.n ∧ b1 - a1 ≤ kx ∧ kx ≤ b - a ∧ l1 ≤ 100) ∧ Aside0 (Sort.Below beforeE a1 b1 dk) ∧ Aside0 (∀ R, PermIn a1 b1 dk R → SortedIn beforeE a1 b1 R → PermIn a b D R ∧ SortedIn beforeE a b R) ∧ So C wr dk ∧ Fr C w wr ∧ Blk wr w.heap.size (datC C) 162)
  case atStart => exact ⟨a, b, limit, true, true, D, rfl, rfl, rfl, rfl, rfl, ⟨⟨by omega, by omega, by omega, by omega, by omega⟩⟩, hBA, ⟨fun R h1 h2 => ⟨h1, h2⟩⟩, inferInstance, inferInstance, inferInstance⟩
  case round =>
    clear j0 jy
    obtain ⟨a1, b1, l1, wb, wp, dk, rfl, rfl, rfl, rfl, rfl, HN, HB, HR, j1, j2, j3⟩ := hrel
    obtain ⟨hab1, hb1, hn1, hn2, hl1⟩ := HN.out
    have hds : dk.size = C.n := j1.out.size
    by_cases c12 : b1 - a1 ≤ 12
    · have d1 : decide ((b1 : Int) - (a1 : Int) ≤ 12) = true := decide_eq_true (by omega)
      go_wp2_with (first | (go_at_call 162; refine (insertion_calls C _ _ So.out a1 b1 (by omega) (by omega)).mono ?_; rintro e w2 ⟨rfl, hs, hg⟩; have k1 := So.mk hs; have k2 := Gb.mk hg; clear hs hg))
      ((try simp only [Exit.inBlock, Exit.then]); refine bodyPost_ret (results_none rfl _ _ _) rfl ?_)
      obtain ⟨h1, h2⟩ := insertionSort_holds swo_beforeE dk a1 b1 hab1 (by omega)
      obtain ⟨h3, h4⟩ := HR.out _ h1 h2
      exact ⟨rfl, _, So.out, h3, h4, Fr.out⟩
    have d1 : decide ((b1 : Int) - (a1 : Int) ≤ 12) = false := decide_eq_false (by omega)
    by_cases c0 : l1 = 0
    · subst c0
      go_wp2_with (first | (go_at_call 163; refine (heapSort_calls C _ _ So.out a1 b1 (by omega) (by omega)).mono ?_; rintro e w2 ⟨rfl, hs, hg⟩; have k1 := So.mk hs; have k2 := Gb.mk hg; clear hs hg))
      ((try simp only [Exit.inBlock, Exit.then]); refine bodyPost_ret (results_none rfl _ _ _) rfl ?_)
      obtain ⟨h1, h2⟩ := heapSort_holds swo_beforeE dk a1 b1 hab1 (by omega)
      obtain ⟨h3, h4⟩ := HR.out _ h1 h2
      exact ⟨rfl, _, So.out, h3, h4, Fr.out⟩
    have d0 : ((l1 : Int) == 0) = false := beq_eq_false_iff_ne.mpr (by omega)
    go_upto_if 35 with fail
    go_cut [3] from 19 (fun s3 wc => ∃ (l2 : Nat) (dj : Array E), s3 = .int .i64 l2 ∧ Aside0 (l2 ≤ 100) ∧ Aside0 (PermIn a1 b1 dk dj) ∧ So C wc dj ∧ Fr C w wc ∧ Blk wc w.heap.size (datC C) 162)
    case first =>
      cases wb
      · go_wp2_with (first | (go_at_call 164; refine (break_calls C _ _ So.out a1 b1 (by omega) (by omega)).mono ?_; rintro e w2 ⟨rfl, D2, hs, hp, hg⟩; have k1 := So.mk hs; have k2 := Gb.mk hg; have HP := Aside0.mk hp; clear hs hg hp))
        go_meet
        case rel => exact ⟨l1 - 1, D2, by congr 1; omega, ⟨by omega⟩, HP, inferInstance, inferInstance, inferInstance⟩
      · go_wp2_with fail
        go_meet
        case rel => exact ⟨l1, dk, rfl, ⟨by omega⟩, ⟨permIn_refl dk a1 b1⟩, j1, j2, j3⟩
    case rest =>
      clear j1 j2 j3 d0 d1
      obtain ⟨l2, dj, rfl, HL2, HS, j1, j2, j3⟩ := hcut
      have hl2 := HL2.out
      go_upto_if 50 with (go_at_call 165; refine (choosePivot_calls C _ _ So.out a1 b1 (by omega) (by omega)).mono ?_; rintro e w2 ⟨p, k, rfl, hp1, hp2, hk, hb⟩; have jb := Bel.mk hb; clear hb)
      obtain ⟨p, rfl⟩ : ∃ p' : Nat, p = p' := ⟨p.toNat, by omega⟩
      go_cut [11, 12] from 19 (fun s11 s12 wc => ∃ (q : Nat) (k : Int) (dj2 : Array E), s11 = .int .i64 q ∧ s12 = .int .i64 k ∧ Aside0 (a1 ≤ q ∧ q < b1) ∧ Aside0 (PermIn a1 b1 dk dj2) ∧ So C wc dj2 ∧ Fr C w wc ∧ Blk wc w.heap.size (datC C) 162)
      case first =>
        by_cases h2 : k = 2
        · have h2b : (k == 2) = true := beq_iff_eq.mpr h2
          go_wp2_with (first | (go_at_call 166; refine (reverse_calls C _ _ So.out a1 b1 (by omega) (by omega)).mono ?_; rintro e w3 ⟨rfl, D2, hs, hp, hg⟩; have k1 := So.mk hs; have k2 := Gb.mk hg; have HP := Aside0.mk (permIn_trans _ _ _ _ _ HS.out hp); clear hs hg hp))
          go_meet
          case rel => exact ⟨b1 - 1 - (p - a1), 1, D2, by congr 1; omega, rfl, ⟨⟨by omega, by omega⟩⟩, HP, inferInstance, inferInstance, inferInstance⟩
        · have h2b : (k == 2) = false := beq_eq_false_iff_ne.mpr h2
          go_wp2_with fail
          go_meet
          case rel => exact ⟨p, k, dj, rfl, rfl, ⟨⟨by omega, by omega⟩⟩, HS, inferInstance, inferInstance, inferInstance⟩
      case rest =>
        clear j1 j2 j3 jb hk hp1 hp2 HS
        obtain ⟨q, k, dj2, rfl, rfl, HQ, HS, j1, j2, j3⟩ := hcut
        obtain ⟨hq1, hq2⟩ := HQ.out
        go_upto_region 16 with fail
        go_cut [68] from 19 (fun s68 wx => ∃ t : Bool, s68 = .bool t ∧ wx = wc)
        case first =>
          cases wb <;> cases wp <;> by_cases hk1 : k = 1 <;>
            (first | have hkb : (k == 1) = true := beq_iff_eq.mpr hk1 | have hkb : (k == 1) = false := beq_eq_false_iff_ne.mpr hk1) <;>
            (go_wp2_with fail
             go_meet
             exact ⟨_, rfl, rfl⟩)
        case rest =>
          obtain ⟨t, rfl, rfl⟩ := hcut
          go_upto_if 68 with fail
          go_cut [] from 19 (fun wx => So C wx dj2 ∧ Fr C w wx ∧ Blk wx w.heap.size (datC C) 162)
          case first =>
            cases t
            · go_wp2_with fail
              go_meet
              case rel => exact ⟨j1, j2, j3⟩
            · go_wp2_with (first | (go_at_call 167; refine (partial_calls C _ _ So.out a1 b1 (by omega) (by omega)).mono ?_; rintro e w3 ⟨r, rfl, hpi, hb⟩; have jb := Bel.mk hb; have HPI := Aside0.mk hpi; clear hb hpi; cases r))
              · go_meet
                exact ⟨inferInstance, inferInstance, inferInstance⟩
              · ((try simp only [Exit.inBlock, Exit.then]); refine bodyPost_ret (results_none rfl _ _ _) rfl ?_)
                obtain ⟨h1, h2⟩ := partialInsertionSort_holds swo_beforeE dj2 a1 b1 (by omega) (by rw [HS.out.1, hds]; omega) (Below.perm HB.out (by rw [hds]; omega) HS.out)
                rw [HPI.out] at h1 h2
                obtain ⟨h3, h4⟩ := HR.out _ (permIn_trans _ _ _ _ _ HS.out h1) (h2 rfl)
                exact ⟨rfl, _, So.out, h3, h4, Fr.out⟩
          case rest =>
            clear j1 j2 j3
            obtain ⟨j1, j2, j3⟩ := hcut
            go_upto_region 18 with fail
            go_cut [83] from 19 (fun s83 wx => ∃ t : Bool, s83 = .bool t ∧ Aside0 (t = true → 0 < a1 ∧ beforeE dj2[a1 - 1]! dj2[q]! = false) ∧ So C wx dj2 ∧ Fr C w wx ∧ Blk wx w.heap.size (datC C) 162)
            case first =>
              by_cases ha0 : a1 = 0
              · have ha1 : decide (0 < (a1 : Int)) = false := decide_eq_false (by omega)
                have ha2 : decide (0 < a1) = false := decide_eq_false (by omega)
                go_wp2_with fail
                go_meet
                case rel => exact ⟨false, rfl, ⟨fun h => by cases h⟩, j1, j2, j3⟩
              · have ha1 : decide (0 < (a1 : Int)) = true := decide_eq_true (by omega)
                have ha2 : decide (0 < a1) = true := decide_eq_true (by omega)
                go_wp2_with (first | (go_at_call 142; refine (less_ex So.out _ _ (a1 - 1) q (by omega) rfl (by omega) (by omega)).mono ?_; rintro e w3 ⟨lb, rfl, hlb, hb⟩; have jb := Bel.mk hb; have HL := Aside0.mk hlb; clear hb hlb; cases lb))
                · go_meet
                  exact ⟨true, rfl, ⟨fun _ => ⟨by omega, HL.out⟩⟩, inferInstance, inferInstance, inferInstance⟩
                · go_meet
                  exact ⟨false, rfl, ⟨fun h => by cases h⟩, inferInstance, inferInstance, inferInstance⟩
            case rest =>
              clear j1 j2 j3
              obtain ⟨t, rfl, HT, j1, j2, j3⟩ := hcut
              have hsz2 : b1 ≤ dj2.size := by rw [HS.out.1, hds]; omega
              have HB2 := Aside0.mk (Below.perm HB.out (by rw [hds]; omega) HS.out)
              cases t
              · go_upto_if 109 with (go_at_call 169; refine (partition_at So.out a1 b1 q _ rfl (by omega) (by omega) (by omega)).mono ?_; rintro e w3 ⟨mid, ap, D2, hx, rfl, hs, hg⟩; have k1 := So.mk hs; have k2 := Gb.mk hg; obtain ⟨r1, r2, r3, r4, r5, r6, r7⟩ := round_part swo_beforeE (partition_holds beforeE) hq1 hq2 hsz2 HB2.out hx; have R4 := Aside0.mk r4; have R5 := Aside0.mk r5; have R6 := Aside0.mk r6; have R7 := Aside0.mk r7; clear hs hg hx r3 r4 r5 r6 r7)
                by_cases h4 : mid - a1 < b1 - mid
                · have h4z : decide ((mid : Int) - (a1 : Int) < (b1 : Int) - (mid : Int)) = true := decide_eq_true (by omega)
                  go_wp2_with (first | (go_at_call 149; refine (IH.out _ _ So.out a1 mid l2 (by omega) (by omega) (by omega) (by omega) R4.out _ _ _ rfl rfl rfl).mono ?_; rintro e w4 ⟨rfl, L, hs, hp, hso, hg⟩; have k3 := So.mk hs; have k4 := Gb.mk hg; obtain ⟨u1, u2⟩ := R6.out L hp hso; have U1 := Aside0.mk u1; have U2 := Aside0.mk u2; clear hs hp hso hg u1 u2))
                  go_roundg (b1 - (mid + 1))
                  case measure => omega
                  case rel => exact ⟨mid + 1, b1, l2, _, ap, L, by first | rfl | go_num, rfl, rfl, rfl, rfl, ⟨⟨by omega, by omega, by omega, by omega, by omega⟩⟩, U1, ⟨fun R g1 g2 => by obtain ⟨g3, g4⟩ := U2.out R g1 g2; exact HR.out R (permIn_trans _ _ _ _ _ HS.out g3) g4⟩, inferInstance, inferInstance, inferInstance⟩
                · have h4z : decide ((mid : Int) - (a1 : Int) < (b1 : Int) - (mid : Int)) = false := decide_eq_false (by omega)
                  go_wp2_with (first | (go_at_call 149; refine (IH.out _ _ So.out (mid + 1) b1 l2 (by omega) (by omega) (by omega) (by omega) R5.out _ _ _ (by omega) rfl rfl).mono ?_; rintro e w4 ⟨rfl, L, hs, hp, hso, hg⟩; have k3 := So.mk hs; have k4 := Gb.mk hg; obtain ⟨u1, u2⟩ := R7.out L hp hso; have U1 := Aside0.mk u1; have U2 := Aside0.mk u2; clear hs hp hso hg u1 u2))
                  go_roundg (mid - a1)
                  case measure => omega
                  case rel => exact ⟨a1, mid, l2, _, ap, L, rfl, rfl, rfl, rfl, rfl, ⟨⟨by omega, by omega, by omega, by omega, by omega⟩⟩, U1, ⟨fun R g1 g2 => by obtain ⟨g3, g4⟩ := U2.out R g1 g2; exact HR.out R (permIn_trans _ _ _ _ _ HS.out g3) g4⟩, inferInstance, inferInstance, inferInstance⟩
              · obtain ⟨ha0, hnl⟩ := HT.out rfl
                have HNL := Aside0.mk hnl
                clear hnl
                go_wp2_with (first | (go_at_call 168; refine (partitionEqual_at So.out a1 b1 q _ rfl (by omega) (by omega) (by omega)).mono ?_; rintro e w3 ⟨mid, D2, hx, rfl, hs, hg⟩; have k1 := So.mk hs; have k2 := Gb.mk hg; obtain ⟨r1, r2, r3, r4, r5⟩ := round_eq swo_beforeE (partitionEqual_holds beforeE) ha0 hq1 hq2 hsz2 HB2.out HNL.out hx; have R4 := Aside0.mk r4; have R5 := Aside0.mk r5; clear hs hg hx r3 r4 r5))
                go_roundg (b1 - mid)
                case measure => omega
                case rel => exact ⟨mid, b1, l2, wb, wp, D2, rfl, rfl, rfl, rfl, rfl, ⟨⟨by omega, by omega, by omega, by omega, by omega⟩⟩, R4, ⟨fun R g1 g2 => by obtain ⟨g3, g4⟩ := R5.out R g1 g2; exact HR.out R (permIn_trans _ _ _ _ _ HS.out g3) g4⟩, inferInstance, inferInstance, inferInstance⟩
theorem pdq_all (C : SoC) [SoG C] : ∀ N, PdqOk C N
  | 0 => fun _ _ _ _ _ _ h => absurd h (Nat.not_lt_zero _)
  | N + 1 => pdq_step C N (pdq_all C N)
end Go.Proofs.YtanhnhkcpbdfmaaGreat.S
namespace Go.Proofs.YtanhnhkcpbdfmaaGreat.S
open Go.RowKit Go.Sort Go.Lib Go.Proofs.YtanhnhkcpbdfmaaGreat.P Go.Proofs.YtanhnhkcpbdfmaaGreat.Q Go.Proofs.YtanhnhkcpbdfmaaGreat.V Go.Proofs.YtanhnhkcpbdfmaaGreatW.PrintWords
theorem plain4 : Plain k104 enc4 where
  len := fun _ => rfl
  pos := by decide
  of := fun {w base ok x cs} h => by
    obtain ⟨c0, c1, rfl, ⟨d0, d1, rfl, h0, h1⟩, e0, e1, rfl, h2, h3⟩ := h
    rw [h0, h1, h2, h3]
    rfl
  make := fun w base ok x => k104_mkM w base ok x
theorem R_of_so {C : SoC} {w w' : World} {base : Nat} {ok : Nat → Prop} {xs : List E} {D : Array E} (h : k104.R 104 w base ok (.slice (some ⟨C.g, 0, none⟩) xs.length C.c) xs) (hs : SoAt C w' D) (hn : xs.length = C.n) :
    k104.R 104 w' base ok (.slice (some ⟨C.g, 0, none⟩) xs.length C.c) D.toList := by
  obtain ⟨hok, inner, ho, hr⟩ := h
  rcases ho.2 with ⟨hn', _⟩ | ⟨g', cap', cur0, hv, hg, hh, hle, hmx, hcs, htk⟩
  · simp at hn'
  obtain ⟨e1, e2⟩ : C.g = g' ∧ C.c = cap' := by simpa using hv
  subst e1 e2
  obtain ⟨cur, hc, hcz⟩ := hs.shape
  have hD : D.size = xs.length := by rw [hs.size, hn]
  have hat : ∀ i, i < D.size → (cur.toList.drop (i * 4)).take 4 = enc4 D[i]! := by
    intro i hi
    obtain ⟨a0, a1, a2, a3⟩ := hs.at_ i (by rw [← hs.size]; exact hi)
    have e0 := (blk_cell hc (i * 4)).symm.trans a0
    have e1 := (blk_cell hc (i * 4 + 1)).symm.trans a1
    have e2 := (blk_cell hc (i * 4 + 2)).symm.trans a2
    have e3 := (blk_cell hc (i * 4 + 3)).symm.trans a3
    refine List.ext_getElem? fun c => ?_
    by_cases hc4 : c < 4
    · rw [chunk_at hc4, Array.getElem?_toList]
      rcases c with _ | _ | _ | _ | c
      · exact e0
      · exact e1
      · exact e2
      · exact e3
      · omega
    · rw [List.getElem?_eq_none (by rw [List.length_take]; omega), List.getElem?_eq_none (by show (enc4 D[i]!).length ≤ c; rw [enc4_len]; omega)]
  have hlen : D.toList.length = xs.length := by simpa using hD
  have hln : (cur.toList.take (xs.length * 4)).length = xs.length * 4 := by
    have hcl : cur.toList.length = C.c * 4 := by simpa using hcz
    rw [List.length_take, hcl]
    exact Nat.min_eq_left (Nat.mul_le_mul_right 4 hle)
  refine ⟨hok, cur.toList.take (xs.length * 4), ⟨?_, .inr ⟨C.g, C.c, cur, by rw [hlen], hg, hc, by rw [hlen]; exact hle, hmx, hcz, by rw [hlen]; rfl⟩⟩, ?_, fun i x hx => ?_⟩
  · rw [hlen]; exact hln
  · rw [hlen]; exact hln
  · have hi : i < D.size := by have := (List.getElem?_eq_some_iff.1 hx).1; simpa using this
    have hxi : D[i]! = x := by
      have := (List.getElem?_eq_some_iff.1 hx).2
      rw [getElem!_pos D i hi]
      simpa using this
    have e : ((cur.toList.take (xs.length * 4)).drop (i * 4)).take 4 = enc4 x := by
      rw [List.drop_take, List.take_take, Nat.min_eq_left (by rw [← hD]; omega), hat i hi, hxi]
    show k104.M w' base _ x (((cur.toList.take (xs.length * 4)).drop (i * 4)).take 4)
    rw [e]
    exact plain4.make _ _ _ _
noncomputable def svT : TypeInfo := (Tryz.prog.info? 35).get (by kernel_rfl)
noncomputable def svE : TypeInfo := (Tryz.prog.info? 104).get (by kernel_rfl)
theorem svK (n : Nat) (h2 : 2 ≤ n) : Lib.swapperK n svE 25 = 9 := by
  have a : svE.hasPointers = false := by kernel_rfl
  have b : svE.bytes = 32 := by kernel_rfl
  have c : (n == 0) = false := by simp; omega
  have d : (n == 1) = false := by simp; omega
  simp [Lib.swapperK, a, b, c, d]
theorem sort_entries (w : World) (g cap bs base : Nat) (ok : Nat → Prop) (xs : List E) (hR : k104.R 104 w base ok (.slice (some ⟨g, 0, none⟩) xs.length cap) xs) (hB : w.heap[bs]? = some (.cells #[.slice (some ⟨g, 0, none⟩) xs.length cap] 35 (0, 0)))
    (hne : bs ≠ g) (h2 : 2 ≤ xs.length) (h50 : xs.length < 50) (hf : ∀ x ∈ xs, Ftd x) :
    Calls Tryz.prog 141 #[.iface 35 (.slice (some ⟨g, 0, none⟩) xs.length cap), .func (.func 142) #[] #[.pointer (some ⟨bs, 0, none⟩)]] w fun e w' => e = .returned (.tuple #[]) ∧
      ∃ D : Array E, PermIn 0 xs.length xs.toArray D ∧ SortedIn beforeE 0 xs.length D ∧ k104.R 104 w' base ok (.slice (some ⟨g, 0, none⟩) xs.length cap) D.toList ∧ w.grownBy w' (some g) := by
  refine Any.sort_Slice_of_pdq sv6 35 104 svT svE (by kernel_rfl) (by kernel_rfl) (by kernel_rfl) (by kernel_rfl) 25 (fun _ => by kernel_rfl) _ xs.length cap (by omega) 159 (by rw [svK _ h2]; kernel_rfl) _ _ _ w _ ?_
  have hbd : sliceBound Tryz.prog 104 svE 25 (some ⟨g, 0, none⟩) xs.length cap = #[.slice (some ⟨g, 0, none⟩) xs.length cap, typeHandle Tryz.prog 104] := by
    unfold sliceBound
    rw [if_neg (swapperK_gt _ _ _ h2)]
  rw [hbd]
  let C : SoC := ⟨g, bs, xs.length, cap, #[.pointer (some ⟨bs, 0, none⟩)], #[.slice (some ⟨g, 0, none⟩) xs.length cap, typeHandle Tryz.prog 104]⟩
  haveI : SoG C := ⟨swapSwapsK_of_literal false 159 (fun args W => run_callFunc_extern Tryz.func159 (by kernel_rfl) (by kernel_rfl) (by kernel_rfl) (e := Extern.ReflectliteSwapper.swap false) (by kernel_rfl) args W) 104 svE (by kernel_rfl) enc4 4 (fun _ => rfl) (by kernel_rfl) (fun _ => by kernel_rfl) (fun x v hv => by simp [enc4] at hv; rcases hv with rfl | rfl | rfl | rfl <;> rfl) g 0 xs.length cap, h50, rfl, hne⟩
  have h0 : SoAt C w xs.toArray := by
    have hR0 := hR
    obtain ⟨_, inner, ho, _⟩ := hR0
    rcases ho.2 with ⟨hn', _⟩ | ⟨g', cap', cur0, hv, hg, hh, hle, hmx, hcs, htk⟩
    · simp at hn'
    obtain ⟨e1, e2⟩ : g = g' ∧ cap = cap' := by simpa using hv
    subst e1 e2
    exact ⟨holds_of_R plain4 hR, by simp [C], hB, blk_lt hh, ⟨cur0, hh, hcs⟩, fun x hx => hf x (by simpa using hx)⟩
  have hbl : RowKit.Below w.heap.size w (sliceWorld Tryz.prog sv6_ren 35 (some ⟨g, 0, none⟩) xs.length cap w) := below_alloc (below_alloc (RowKit.Below.refl _ _) _) _
  have h1 := h0.below hbl
  have hbit : Lib.bitLen xs.length ≤ 62 := Lib.bitLen_le xs.length 62 (by omega) (by omega)
  have := pdq_all C (xs.length + 1) _ _ h1 0 xs.length (Lib.bitLen xs.length) (by omega) (by omega) (Nat.le_refl _) (by omega) (.inl rfl) _ _ _ rfl rfl rfl
  refine this.mono ?_
  rintro e w' ⟨he, D, hs, hp, hso, hg⟩
  exact ⟨he, D, hp, hso, R_of_so (C := C) hR hs rfl, grownBy_trans (grownBy_below hbl) hg⟩
theorem sort_tiny (w : World) (A : Option Addr) (n cap bs : Nat) (h1 : n ≤ 1) :
    Calls Tryz.prog 141 #[.iface 35 (.slice A n cap), .func (.func 142) #[] #[.pointer (some ⟨bs, 0, none⟩)]] w fun e w' => e = .returned (.tuple #[]) ∧ RowKit.Below w.heap.size w w' := by
  have hK : n = 0 ∨ n = 1 := by omega
  have a : svE.hasPointers = false := by kernel_rfl
  have b : svE.bytes = 32 := by kernel_rfl
  have key : ∀ f, Tryz.prog.funcs.findIdx? (·.name == "internal/reflectlite" ++ ".Swapper$" ++ toString (swapperK n svE 25)) = some f → Calls Tryz.prog 141 #[.iface 35 (.slice A n cap), .func (.func 142) #[] #[.pointer (some ⟨bs, 0, none⟩)]] w fun e w' => e = .returned (.tuple #[]) ∧ RowKit.Below w.heap.size w w' := by
    intro f hf
    refine (Any.sort_Slice_tiny sv6 35 104 svT svE (by kernel_rfl) (by kernel_rfl) (by kernel_rfl) (by kernel_rfl) 25 (fun _ => by kernel_rfl) A n cap h1 f hf _ _ _ w).mono ?_
    rintro e w' ⟨he, os, rfl⟩
    exact ⟨he, rfl, rfl, rfl, by simp, fun k hk => heap_grow_old _ _ hk⟩
  rcases hK with rfl | rfl
  · exact key 151 (by rw [show swapperK 0 svE 25 = 1 from rfl]; kernel_rfl)
  · exact key 152 (by rw [show swapperK 1 svE 25 = 2 from rfl]; kernel_rfl)
end Go.Proofs.YtanhnhkcpbdfmaaGreat.S
namespace Go.Proofs.YtanhnhkcpbdfmaaGreat.P
open Go.RowKit Go.Proofs.YtanhnhkcpbdfmaaGreatW.PrintWords Go.Proofs.YtanhnhkcpbdfmaaGreatW.PrintLast Go.Proofs.YtanhnhkcpbdfmaaGreatW.PrintMore Go.Proofs.YtanhnhkcpbdfmaaGreat.V
open Go.Maps (Keyed)
attribute [local go_sem] cell_b frozen_b
set_option maxHeartbeats 8000000 in
set_option maxRecDepth 100000 in
set_option synthInstance.maxHeartbeats 400000 in
set_option synthInstance.maxSize 100000 in
theorem impl_OpenFaults.calls_ok (k : Nat) (A0 : Option Addr) (c0 : Nat) (l0 : List (S104)) (w : World) (hr0 : Kd.C k104 w A0 l0.length l0) (hc0 : l0.length ≤ c0) (A : impl_LogOk.f k l0 = some true) (hl30 : l0.length ≤ 30) (hw : ∀ x ∈ l0, wf64 x.f0.f0 ∧ wf64 x.f0.f1) (hfl : ∀ x ∈ l0, 0 ≤ x.f1 ∧ x.f1 ≤ 2) :
    Calls Tryz.prog 132 #[.slice A0 l0.length c0] w fun e w' => ∃ v0_ : Value, e = .returned (v0_) ∧ Kd.R k104 104 w' w.heap.size (fun _ => True) v0_ (Q.openUp l0 l0.length) ∧ Below w.heap.size w w' := by
  have hl : l0.length ≤ 1000 := by omega
  have HFL := Aside0.mk hfl
  clear hfl
  have i0 := RdE.mk hr0
  have i1 := LeI.mk hc0
  have A := Aside0.mk A
  have HW := Aside0.mk hw
  clear hr0 hc0 hw
  have hu74 := Tryz.underlying104
  have hu56 := Tryz.underlying74
  go_enter Tryz.func132, Tryz.ntmps132
  go_wp2_with (first
    | (go_at_call 77; refine (impl_LogOk.calls k _ _ _ true _ Rd.out LeI.out A.out).mono ?_; rintro e w2 ⟨rfl, hb⟩; have jb := Bel.mk hb; clear hb)
    | (go_at_call 92; refine (impl_lastOf.calls _ _ _ _ Rd.out LeI.out hl HW.out).mono ?_; rintro e w3 ⟨b, rfl, hb1, hm, hb⟩; obtain ⟨D, hD, hD2⟩ := hm; have jb := Bel.mk hb; have HD := Aside0.mk hD; have HD2 := Aside0.mk hD2; have HB1 := Aside0.mk hb1; clear hb hb1 hD hD2)
    | (at_range; refine wpList_range_own _ rfl _ 114 rfl 74 104 pipeKeyed Tryz.underlying114 pipeR b l0.length D rfl HD.out ?_; intro w4 hrg hg hs; have HRG := Aside0.mk hrg; have HG := Aside0.mk hg; have HS := Aside0.mk hs; clear hrg hg hs))
  go_frame
  have HNE := Aside0.mk (HRG.out.ne)
  have HSZ := Aside0.mk (HD.out.size_le)
  have HLB := Aside0.mk (HD.out.lt)
  have HGB : Aside0 (w2.heap.size + 2 ≤ w3.heap.size) := ⟨by have hs := (Bel.out (W := w3)).size; simpa using hs⟩
  have HGM : Aside0 (w2.heap.size + 2 ≤ b) := ⟨by have := HB1.out; simpa using this⟩
  have HGW : Aside0 (w.heap.size ≤ w2.heap.size) := ⟨Sz.out⟩
  have HB0 : Aside0 (Below w.heap.size w w4) := ⟨(From.out : Below w.heap.size w w3).grown HG.out (Sz.out : w.heap.size ≤ w3.heap.size) (fun k hk => by cases hk)⟩
  have HBX : Aside0 (w4.heap[w2.heap.size + 1]? = some (.cells #[.slice (some ⟨w2.heap.size, 0, none⟩) 0 0] 35 (0, 0))) := ⟨by
    have h3 : Blk w3 (w2.heap.size + 1) #[.slice (some ⟨w2.heap.size, 0, none⟩) 0 0] 35 := ⟨blk_below (by have := blk_new (w2.alloc (.cells #[] 104 (0, 0))) (.cells #[.slice (some ⟨w2.heap.size, 0, none⟩) 0 0] 35 (0, 0)); simpa using this) (Bel.out (W := w3))⟩
    exact (HG.out.block _ (blk_lt h3.out) (by simp)).trans h3.out⟩
  have HRW : Aside0 (Kd.R k104 104 w4 w.heap.size (fun j => j ≠ w2.heap.size + 1 ∧ j ≠ b ∧ j ≠ w3.heap.size) (.slice (some ⟨w2.heap.size, 0, none⟩) 0 0) []) := ⟨by
    have h3 : Blk w3 w2.heap.size #[] 104 := ⟨blk_below (blk_alloc (blk_new w2 (.cells #[] 104 (0, 0))) (.cells #[.slice (some ⟨w2.heap.size, 0, none⟩) 0 0] 35 (0, 0))) (Bel.out (W := w3))⟩
    have h4 : w4.heap[w2.heap.size]? = some (.cells #[] 104 (0, 0)) := (HG.out.block _ (blk_lt h3.out) (by simp)).trans h3.out
    refine ⟨fun k hk => ?_, [], ⟨rfl, .inr ⟨w2.heap.size, 0, #[], rfl, HGW.out, h4, Nat.le_refl _, Nat.zero_le _, rfl, rfl⟩⟩, Reps.none _ _⟩
    obtain rfl : w2.heap.size = k := by simpa [Value.ownBlock] using hk
    exact ⟨by omega, by have := HGM.out; omega, by have := HGB.out; omega⟩⟩
  have HF0 : Aside0 (Found (lastMap l0) (Maps.has D) []) := ⟨⟨fun x hx => by simp at hx, List.Pairwise.nil, fun p x h0 h1 hm hx hf => by
    have e1 := Maps.atKey_of_not_has hf (.map [])
    have e2 := HD2.out.at_ p h0 h1 (.map [])
    rw [hm] at e2
    exact absurd (e1.symm.trans e2) (by simp [quadD])⟩⟩
  go_loopg [] (Maps.size D + 1) (fun kq wr => ∃ (left : Lit → Bool) (cnt : Nat) (v : Value) (xs : List S104), Aside0 (kq = cnt + 1) ∧ Aside0 (xs.length + cnt ≤ Maps.size D) ∧ Aside0 (wr.ranges Tryz.prog 74 pipeR b w3.heap.size l0.length D left cnt) ∧ Aside0 (Found (lastMap l0) left xs) ∧ Aside0 (Kd.R k104 104 wr w.heap.size (fun j => j ≠ w2.heap.size + 1 ∧ j ≠ b ∧ j ≠ w3.heap.size) v xs) ∧ Aside0 (wr.heap[w2.heap.size + 1]? = some (.cells #[v] 35 (0, 0))) ∧ Aside0 (Below w.heap.size w wr))
  case atStart => exact ⟨_, _, _, [], ⟨rfl⟩, ⟨by simp⟩, HRG, HF0, HRW, HBX, HB0⟩
  case round =>
    clear HRG HF0 HRW HBX HB0 HG
    obtain ⟨left, cnt, v, xs, HK, HN, HRG, HF, HR, HBX, HB⟩ := hrel
    go_wp2_with (first
      | (at_next; refine wpList_next_ranges _ rfl _ rfl 74 pipeKeyed pipeR (fun p : S74 => pairV p.f0 p.f1) quadV (fun key kl h => by obtain ⟨a, b, rfl, _⟩ := keyOf_pipe_inv h; exact ⟨⟨a, b⟩, rfl⟩) (fun v y h => by obtain ⟨x, rfl, _⟩ := pipeR_inv h; exact ⟨x, rfl⟩) b w3.heap.size l0.length D left cnt rfl HRG.out ?_ ?_))
    rotate_left
    · intro p c kl y1 y2 w5 cnt1 hk hlk hv hat hrg1 hlt hg1 hs1 hen
      obtain ⟨p0, p1⟩ : wf64 p.f0 ∧ wf64 p.f1 := by
        obtain ⟨a, b', e, ha, hb⟩ := keyOf_pipe_inv hk
        simp [pairV] at e
        rw [e.1, e.2]
        exact ⟨ha, hb⟩
      obtain rfl : kl = pipeL p.f0 p.f1 := Option.some.inj (hk.symm.trans (keyOf_pipe p0 p1))
      obtain ⟨rfl, rfl⟩ : y1 = quadD c ∧ y2 = [] := by
        have := (pipeR_mk c).symm.trans hv
        simp at this
        exact ⟨this.1.symm, this.2⟩
      have hm := mapIs_key HD2.out p0 p1 hat
      obtain rfl : c.f0 = p := by
        have := (Q.lastMap_iff l0 p c l0.length (Nat.le_refl _)).mp (by rw [List.take_length]; exact hm)
        obtain ⟨_, _, _, e, _⟩ := this
        exact e
      have HST := Aside0.mk (HF.out.step c p0 p1 hm hlk)
      have HRG1 := Aside0.mk hrg1
      have HLT := Aside0.mk hlt
      have HG1 := Aside0.mk hg1
      have HS1 := Aside0.mk hs1
      clear hk hlk hv hat hrg1 hlt hg1 hs1 hm HF HRG
      simp only [pairV, quadV] at hen ⊢
      have HR1 := Aside0.mk (Kd.R_grown HR.out HG1.out (fun j hj e => hj.2.2 (Option.some.inj e)))
      have HBX1 : Aside0 (w5.heap[w2.heap.size + 1]? = some (.cells #[v] 35 (0, 0))) := ⟨(HG1.out.block _ (blk_lt HBX.out) (fun e => by have := HGB.out; have := Option.some.inj e; omega)).trans HBX.out⟩
      have HB1 : Aside0 (Below w.heap.size w w5) := ⟨HB.out.grown HG1.out HB.out.size (fun k hk => by cases hk; have := HGB.out; have := HGW.out; omega)⟩
      have jx := Blk.mk HBX1.out
      have HE := Aside0.mk (show (if c.f1 ≠ 0 then xs ++ [c] else xs) = (if c.f1 ≠ 0 then xs ++ [c] else xs) from rfl)
      clear HR HBX HB
      by_cases hc : c.f1 = 0
      · rw [if_neg (by simpa using hc)] at HST
        obtain ⟨ck, c1, c2⟩ := c
        simp only at hc
        subst hc
        simp only at hen ⊢
        go_wp2
        go_roundg (cnt1 + 1)
        case measure => have := HK.out; have := HLT.out; omega
        case rel =>
          refine ⟨_, cnt1, v, xs, ⟨rfl⟩, ⟨by have := HN.out; have := HLT.out; omega⟩, ⟨HRG1.out.alloc _⟩, HST, ⟨Kd.R_alloc HR1.out _⟩, ⟨blk_alloc HBX1.out _⟩, ⟨below_alloc HB1.out _⟩⟩
      · rw [if_pos hc] at HST
        have hd := beq_eq_false_iff_ne.mpr hc
        have he := bne_iff_ne.mpr hc
        go_upto_region 8 with (fail)
        generalize hW : w5.alloc _ = W
        have HR7 : Aside0 (Kd.R k104 104 W w.heap.size (fun j => j ≠ w2.heap.size + 1 ∧ j ≠ b ∧ j ≠ w3.heap.size) v xs) := ⟨by rw [← hW]; exact Kd.R_alloc HR1.out _⟩
        have HBX7 : Aside0 (W.heap[w2.heap.size + 1]? = some (.cells #[v] 35 (0, 0))) := ⟨by rw [← hW]; exact blk_alloc HBX1.out _⟩
        have HB7 : Aside0 (Below w.heap.size w W) := ⟨by rw [← hW]; exact below_alloc HB1.out _⟩
        have HRG7 : Aside0 (W.ranges Tryz.prog 74 pipeR b w3.heap.size l0.length D _ cnt1) := ⟨by rw [← hW]; exact HRG1.out.alloc _⟩
        have HSZ7 : Aside0 (w3.heap.size + 1 ≤ W.heap.size) := ⟨HRG7.out.lt⟩
        have jE : Blk W w5.heap.size #[.int .i64 c.f0.f0, .int .i64 c.f0.f1, .int .i64 c.f1, .int .i64 c.f2] 104 := ⟨by rw [← hW]; exact blk_new w5 _⟩
        have jX := Blk.mk HBX7.out
        clear hW jx HR1 HBX1 HB1 HRG1
        go_wp2_with (first
          | (refine Kd.R_append k104 (w0 := w) w.heap.size rfl (.tmp 20) (.tmp 22) 35 104 (.agg #[(.int .i64 0), (.int .i64 0), (.int .i64 0), (.int .i64 0)]) 32 rfl Tryz.underlying35 info104 rfl (by decide) (by omega) v xs c [.int .i64 c.f0.f0, .int .i64 c.f0.f1, .int .i64 c.f1, .int .i64 c.f2] (fun j => j ≠ w2.heap.size + 1 ∧ j ≠ b ∧ j ≠ w3.heap.size) (fun _ => False) rfl rfl ?aP (fun _ hk => hk.elim) ?aF ?aO ?aB ?aS ?aL ?_; (case aP => exact k104_mkM _ _ _ c); (case aB => exact HB7.out); (case aF => intro j hj; have := HSZ7.out; have := HGB.out; have := HLB.out; exact ⟨by omega, by omega, by omega⟩); (case aO => exact HR7.out); (case aS => exact HB7.out.size); (case aL => have := HN.out; have := HSZ.out; omega); intro v1 w6 ho hb hg hat; obtain ⟨B1, b1, rfl⟩ := Kd.R_slice ho; have HO := Aside0.mk ho; have HB6 := Aside0.mk hb; have HG6 := Aside0.mk hg; have j6 : Blk w6 (w2.heap.size + 1) #[v] 35 := ⟨(HG6.out.block _ (blk_lt HBX7.out) (fun e => (HR7.out.1 _ e.symm).1 rfl)).trans HBX7.out⟩; clear ho hb hg))
        go_roundg (cnt1 + 1)
        case measure => have := HK.out; have := HLT.out; omega
        case rel =>
          refine ⟨_, cnt1, .slice B1 (xs.length + 1) b1, xs ++ [c], ⟨rfl⟩, ⟨by have := HN.out; have := HLT.out; simp only [List.length_append, List.length_singleton]; omega⟩, ⟨?_⟩, HST, ⟨?_⟩, ⟨?_⟩, ⟨?_⟩⟩
          · refine World.ranges.kept (HRG7.out.kept HG6.out (fun e => (HR7.out.1 _ e.symm).2.1 rfl) (fun e => (HR7.out.1 _ e.symm).2.2 rfl)) (grownBy_setCell' w6 _ _) (fun e => ?_) (fun e => ?_)
            · have := HGM.out; have := Option.some.inj e; omega
            · have := HGB.out; have := Option.some.inj e; omega
          · refine Kd.R_far (by simpa using HO.out) (fun j hj => hj.1) _
          · exact blk_put j6.out 0 _ rfl
          · exact below_set HB6.out (by have := HGW.out; omega)
    · intro hc0 hl0
      have hall := HF.out.all
      have hnd : xs.Nodup := by
        refine HF.out.nodup.imp ?_
        intro p q h e
        exact h (by rw [e])
      have hmem : ∀ x, x ∈ xs ↔ lastMap l0 x.f0 = some x ∧ x.f1 ≠ 0 := fun x => ⟨fun hx => ⟨(hall x hx).1, (hall x hx).2.1⟩, fun hx => by
        have hin : x ∈ l0 := by
          have h9 := (Q.mem_open l0 x).mpr hx
          obtain ⟨i, _, _, h3⟩ := (Q.mem_openUp l0 x l0.length (Nat.le_refl _)).mp h9
          exact List.mem_of_getElem? h3
        exact HF.out.got x.f0 x (HW.out x hin).1 (HW.out x hin).2 hx.1 hx.2 (hl0 _)⟩
      have hin : ∀ x ∈ xs, x ∈ l0 := fun x hx => by
        have h9 := (Q.mem_open l0 x).mpr ((hmem x).mp hx)
        obtain ⟨i, _, _, h3⟩ := (Q.mem_openUp l0 x l0.length (Nat.le_refl _)).mp h9
        exact List.mem_of_getElem? h3
      have hft : ∀ x ∈ xs, S.Ftd x := fun x hx => by
        have h8 := HFL.out x (hin x hx)
        have h9 := ((hmem x).mp hx).2
        unfold S.Ftd
        omega
      have hfin : ∀ D' : Array S104, Sort.PermIn 0 xs.length xs.toArray D' → Sort.SortedIn Q.beforeE 0 xs.length D' → D'.toList = Q.openUp l0 l0.length := fun D' hp hs => by
        obtain ⟨h8, h9⟩ := sorted_pairwise (lt := Q.beforeE) (D := xs.toArray) (D' := D') (by simpa using hp) (by simpa using hs) (fun a _ c _ hne => Q.before_total hne) (by simpa using hnd)
        refine Q.open_unique l0 _ h9 fun x => ?_
        rw [h8.mem_iff]
        simpa using hmem x
      have hsmall : xs.length < 50 := by have := HN.out; have := HSZ.out; omega
      have HFT := Aside0.mk hft
      have HFIN := Aside0.mk hfin
      clear hall hnd hmem hin hft hfin HF HRG
      have jx := Blk.mk HBX.out
      by_cases h2 : 2 ≤ xs.length
      · obtain ⟨g, cap, rfl, hg1, hg2, _⟩ := Kd.R_form HR.out (by omega)
        have hne : w2.heap.size + 1 ≠ g := fun e => (HR.out.1 g (by simp [Value.ownBlock])).1 e.symm
        go_wp2_with (first
          | (go_at_call 141; refine (S.sort_entries wr g cap (w2.heap.size + 1) w.heap.size _ xs HR.out HBX.out hne h2 hsmall HFT.out).mono ?_; rintro e w9 ⟨rfl, D9, hp, hso, hR9, hg9⟩; have jx9 : Blk w9 (w2.heap.size + 1) #[.slice (some ⟨g, 0, none⟩) xs.length cap] 35 := ⟨(hg9.block _ (blk_lt HBX.out) (fun e => hne (Option.some.inj e))).trans HBX.out⟩; have H9 := Aside0.mk (HFIN.out D9 hp hso); have R9 := Aside0.mk hR9; have B9 : Aside0 (Below w.heap.size w w9) := ⟨HB.out.grown hg9 HB.out.size (fun k hk => by cases hk; exact hg1)⟩; clear hp hso hR9 hg9))
        go_ret
        refine ⟨_, rfl, ?_, B9.out⟩
        rw [← H9.out]
        exact Kd.R_mono R9.out (fun _ _ => trivial)
      · obtain ⟨A9, cap, rfl⟩ := Kd.R_slice HR.out
        go_wp2_with (first
          | (go_at_call 141; refine (S.sort_tiny wr A9 xs.length cap (w2.heap.size + 1) (by omega)).mono ?_; rintro e w9 ⟨rfl, hb9⟩; have jb9 := Bel.mk hb9; have R9 := Aside0.mk (Kd.R_below HR.out hb9); have B9 : Aside0 (Below w.heap.size w w9) := ⟨below_step HB.out hb9⟩; clear hb9))
        go_ret
        refine ⟨_, rfl, ?_, B9.out⟩
        have hp : Sort.PermIn 0 xs.length xs.toArray xs.toArray := Sort.permIn_refl _ _ _
        have hso : Sort.SortedIn Q.beforeE 0 xs.length xs.toArray := fun i j _ h1 h2 => by omega
        rw [← HFIN.out xs.toArray hp hso]
        exact Kd.R_mono R9.out (fun _ _ => trivial)
set_option maxHeartbeats 8000000 in
set_option maxRecDepth 100000 in
set_option synthInstance.maxHeartbeats 400000 in
set_option synthInstance.maxSize 100000 in
theorem impl_OpenFaults.calls_no (k : Nat) (A0 : Option Addr) (c0 : Nat) (l0 : List (S104)) (w : World) (hr0 : Kd.C k104 w A0 l0.length l0) (hc0 : l0.length ≤ c0) (A : impl_LogOk.f k l0 = some false) :
    Calls Tryz.prog 132 #[.slice A0 l0.length c0] w fun e w' => ∃ v0_ : Value, e = .returned (v0_) ∧ Kd.R k104 104 w' w.heap.size (fun _ => True) v0_ ([] : List S104) ∧ Below w.heap.size w w' := by
  have i0 := RdE.mk hr0
  have i1 := LeI.mk hc0
  have A := Aside0.mk A
  clear hr0 hc0
  go_enter Tryz.func132, Tryz.ntmps132
  go_wp2_with (first
    | (go_at_call 77; refine (impl_LogOk.calls k _ _ _ false _ Rd.out LeI.out A.out).mono ?_; rintro e w2 ⟨rfl, hb⟩; have jb := Bel.mk hb; clear hb))
  go_ret
  exact ⟨_, rfl, Kd.R_nil _ _ _ _ _, From.out⟩
end Go.Proofs.YtanhnhkcpbdfmaaGreat.P
namespace Go.Proofs.YtanhnhkcpbdfmaaGreat.P
open Go.RowKit Go.Proofs.YtanhnhkcpbdfmaaGreatW.PrintWords Go.Proofs.YtanhnhkcpbdfmaaGreatW.PrintLast Go.Proofs.YtanhnhkcpbdfmaaGreatW.PrintMore Go.Proofs.YtanhnhkcpbdfmaaGreat.V
attribute [local go_sem] cell_b frozen_b
attribute [local go_sem] max2_int min2_int max_two min_two max_three min_three max_four min_four
def impl_OpenFaults.f (l0 : List (S104)) : Option (List (S104)) := if l0.length ≤ 1048577 then some (if Q.logOk l0 = true then Q.openUp l0 l0.length else []) else none
theorem impl_OpenFaults.calls (A0 : Option Addr) (c0 : Nat) (l0 : List (S104)) (r : List (S104)) (w : World) (hr0 : Kd.C k104 w A0 l0.length l0) (hc0 : l0.length ≤ c0) (h : impl_OpenFaults.f l0 = some r) :
  Calls Tryz.prog 132 #[.slice A0 l0.length c0] w fun e w' => ∃ v0_ : Value, e = .returned (v0_) ∧ Kd.R k104 104 w' w.heap.size (fun _ => True) v0_ r ∧ Below w.heap.size w w' := by
 unfold impl_OpenFaults.f at h
 by_cases h0 : l0.length ≤ 1048577
 rotate_left
 ·rw [if_neg h0] at h; cases h
 rw [if_pos h0] at h
 obtain ⟨k, hk⟩ := Q.logOk_impl l0 h0
 have A := hk k (Nat.le_refl _)
 by_cases hb : Q.logOk l0 = true
 ·rw [if_pos hb] at h
  rw [hb] at A
  obtain ⟨h1, h2, h3⟩ := logOk_all hb
  obtain rfl := Option.some.inj h
  exact impl_OpenFaults.calls_ok k A0 c0 l0 w hr0 hc0 A h1 h2 h3
 ·rw [if_neg hb] at h
  rw [Bool.eq_false_iff.mpr hb] at A
  obtain rfl := Option.some.inj h
  exact impl_OpenFaults.calls_no k A0 c0 l0 w hr0 hc0 A
end Go.Proofs.YtanhnhkcpbdfmaaGreat.P
namespace Go.Proofs.YtanhnhkcpbdfmaaGreat.P
set_option maxHeartbeats 8000000
set_option maxRecDepth 100000
open Go.RowKit Go.Proofs.YtanhnhkcpbdfmaaGreatW.PrintWords Go.Proofs.YtanhnhkcpbdfmaaGreatW.PrintLast Go.Proofs.YtanhnhkcpbdfmaaGreatW.PrintMore
attribute [local go_sem] max2_int min2_int max_two min_two max_three min_three max_four min_four
def impl_NextRepair.f (l0 : List (S104)) : Option (Int × Int × Bool) := (impl_OpenFaults.f l0).bind fun t879 => (if (t879.length : Int) = 0 then (some (0, 0, false)) else (if 0 < (t879.length : Int) then (some ((rd_T104 t879 0).f0.f0, (rd_T104 t879 0).f0.f1, true)) else (none)))
theorem impl_NextRepair.calls (A0 : Option Addr) (c0 : Nat) (l0 : List (S104)) (r1 : Int) (r2 : Int) (r3 : Bool) (w : World) (hr0 : Kd.C k104 w A0 l0.length l0) (hc0 : l0.length ≤ c0) (h : impl_NextRepair.f l0 = some (r1, r2, r3)) :
  Calls Tryz.prog 110 #[.slice A0 l0.length c0] w fun e w' => e = .returned (.tuple #[.agg #[.int .i64 r1, .int .i64 r2], .bool r3]) ∧ Below w.heap.size w w' := by
 have hu74 := Tryz.underlying74
 have HR0 := A_ hr0
 have HC0 := A_ hc0
 clear hr0 hc0
 have HB := A_ (Below.refl w.heap.size w)
 have H : ((impl_OpenFaults.f l0).bind fun t879 => (if (t879.length : Int) = 0 then (some (0, 0, false)) else (if 0 < (t879.length : Int) then (some ((rd_T104 t879 0).f0.f0, (rd_T104 t879 0).f0.f1, true)) else (none)))) = some (r1, r2, r3) := h
 clear h
 replace H := Option.bind_eq_some_iff.mp H
 obtain ⟨t879, A20, H⟩ := H
 (try dsimp only at H)
 have A2 := A_ A20
 clear A20
 by_cases c3 : (t879.length : Int) = 0
 ·rw [if_pos c3] at H
  have c3b0 : ((t879.length : Int) == 0) = true := beq_iff_eq.mpr c3
  have c3b1 : ((t879.length : Int) != 0) = false := bne_eq_false_iff_eq.mpr c3
  clear c3
  simp only [Option.some.injEq, Prod.mk.injEq] at H
  obtain ⟨rfl, rfl, rfl⟩ := H
  go_enter Tryz.func110, Tryz.ntmps110
  go_wp2_with (first | ((with_reducible refine gate_dst (N := 2) rfl ?_); refine bX (N := 2) (cs := #[.int .i64 0, .int .i64 0]) (t := 74) ?_; intro gb878 hg w4 hbox hb; have n0_ := A_ (below_step (oB HB) hb); have n1_ := A_ (hbox); have n2_ := A_ ((by rw [hg]; exact (below_size (oB HB)) : w.heap.size ≤ gb878)); have n3_ := A_ ((by rw [hg]; exact (below_size (oB HB)) : w.heap.size ≤ gb878)); clear HB; have HB := n0_; have BK878 := n1_; have GW878 := n2_; have GE878 := n3_; clear n0_ n1_ n2_ n3_; clear hb hbox hg) | ((with_reducible refine gate_callee (f := 132) rfl ?_); refine gL (some 6) Tryz.func132 #[.slice A0 l0.length c0] ?_; (with_reducible refine (impl_OpenFaults.calls _ _ l0 t879 _ ?side1 ?side2 A2.out).mono ?_); (case side1 => exact oc_ HR0.out); (case side2 => exact HC0.out); rintro e w5 ⟨v880, rfl, ho0, hb⟩; refine ⟨_, rfl, ?_⟩; have n0_ := A_ (Kd.R_lower ho0 (below_size (oB HB))); have n1_ := A_ (bb BK878 hb); have n2_ := A_ (below_step (oB HB) hb); clear BK878; clear HB; have HO881 := n0_; have BK878 := n1_; have HB := n2_; clear n0_ n1_ n2_; (try clear hb); (try clear hb2); (try clear hk); (try clear hi); (try clear ho0); obtain ⟨Ao6, co6, eo6⟩ := Kd.R_slice HO881.out; subst eo6; have hcz7_0 := cz BK878 0; have hcz7_1 := cz BK878 1; have hfz7_0 := blk_frozen BK878.out 0; have hfz7_1 := blk_frozen BK878.out 1))
  refine bodyPost_ret (results_ct rfl _ _ gb878 74 #[.int .i64 0, .int .i64 0] (0, 0) _ rfl (by (with_reducible repeat (first | refine blk_drewN ?_ _ | refine blk_drew ?_ | refine blk_alloc ?_ _)); refine blk_put (cs := #[.int .i64 0, .int .i64 0]) ?_ 1 _ rfl; (with_reducible repeat (first | refine blk_drewN ?_ _ | refine blk_drew ?_ | refine blk_alloc ?_ _)); refine blk_put (cs := #[.int .i64 0, .int .i64 0]) ?_ 0 _ rfl; (with_reducible repeat (first | refine blk_drewN ?_ _ | refine blk_drew ?_ | refine blk_alloc ?_ _)); exact BK878.out) Tryz.underlying74 rfl (by kernel_rfl)) rfl ?_
  exact ⟨eR, oB HB⟩
 ·rw [if_neg c3] at H
  have c3b0 : ((t879.length : Int) == 0) = false := beq_eq_false_iff_ne.mpr c3
  have c3b1 : ((t879.length : Int) != 0) = true := bne_iff_ne.mpr c3
  have c3b2 : ¬ (t879 = []) := fun h_ => c3 (by rw [h_]; rfl)
  by_cases c8 : 0 < (t879.length : Int)
  ·rw [if_pos c8] at H
   have c8b0 : decide (0 < (t879.length : Int)) = true := decide_eq_true c8
   have c8b1 : decide (0 < t879.length) = true := decide_eq_true (by omega)
   clear c8
   simp only [Option.some.injEq, Prod.mk.injEq] at H
   obtain ⟨rfl, rfl, rfl⟩ := H
   go_enter Tryz.func110, Tryz.ntmps110
   go_wp2_with (first | ((with_reducible refine gate_dst (N := 2) rfl ?_); refine bX (N := 2) (cs := #[.int .i64 0, .int .i64 0]) (t := 74) ?_; intro gb878 hg w9 hbox hb; have n0_ := A_ (below_step (oB HB) hb); have n1_ := A_ (hbox); have n2_ := A_ ((by rw [hg]; exact (below_size (oB HB)) : w.heap.size ≤ gb878)); have n3_ := A_ ((by rw [hg]; exact (below_size (oB HB)) : w.heap.size ≤ gb878)); clear HB; have HB := n0_; have BK878 := n1_; have GW878 := n2_; have GE878 := n3_; clear n0_ n1_ n2_ n3_; clear hb hbox hg) | ((with_reducible refine gate_callee (f := 132) rfl ?_); refine gL (some 6) Tryz.func132 #[.slice A0 l0.length c0] ?_; (with_reducible refine (impl_OpenFaults.calls _ _ l0 t879 _ ?side1 ?side2 A2.out).mono ?_); (case side1 => exact oc_ HR0.out); (case side2 => exact HC0.out); rintro e w10 ⟨v880, rfl, ho0, hb⟩; refine ⟨_, rfl, ?_⟩; have n0_ := A_ (Kd.R_lower ho0 (below_size (oB HB))); have n1_ := A_ (bb BK878 hb); have n2_ := A_ (below_step (oB HB) hb); clear BK878; clear HB; have HO881 := n0_; have BK878 := n1_; have HB := n2_; clear n0_ n1_ n2_; (try clear hb); (try clear hb2); (try clear hk); (try clear hi); (try clear ho0); obtain ⟨Ao11, co11, eo11⟩ := Kd.R_slice HO881.out; subst eo11; have p882 : 0 ≤ (0 : Int) := (by omega); have q882 : 0 < (t879.length : Int) := oD; obtain ⟨ad882, e882, hx882_0, hx882_1, hx882_2, hx882_3⟩ := at_T104 (Kd.R_reads' HO881.out).2.2 0 p882 q882; cases e882; have qi882 : (0 < t879.length) = True := eq_true (by omega); (try rw [show ((0 : Int)).toNat = 0 from rfl] at hx882_0); (try rw [show 0 * 4 = 0 from rfl] at hx882_0); (try rw [Addr.add_zero'] at hx882_0); (try rw [show ((0 : Int)).toNat = 0 from rfl] at hx882_1); (try rw [show 0 * 4 = 0 from rfl] at hx882_1); (try rw [Addr.add_zero'] at hx882_1); (try rw [show ((0 : Int)).toNat = 0 from rfl] at hx882_2); (try rw [show 0 * 4 = 0 from rfl] at hx882_2); (try rw [Addr.add_zero'] at hx882_2); (try rw [show ((0 : Int)).toNat = 0 from rfl] at hx882_3); (try rw [show 0 * 4 = 0 from rfl] at hx882_3); (try rw [Addr.add_zero'] at hx882_3); replace p882 := eq_true p882; replace q882 := eq_true q882; have hcz12_0 := cz BK878 0; have hcz12_1 := cz BK878 1; have hfz12_0 := blk_frozen BK878.out 0; have hfz12_1 := blk_frozen BK878.out 1))
   refine bodyPost_ret (results_ct rfl _ _ gb878 74 #[.int .i64 ((rd_T104 t879 0).f0.f0), .int .i64 ((rd_T104 t879 0).f0.f1)] (0, 0) _ rfl (by (with_reducible repeat (first | refine blk_drewN ?_ _ | refine blk_drew ?_ | refine blk_alloc ?_ _)); refine blk_put (cs := #[.int .i64 ((rd_T104 t879 0).f0.f0), .int .i64 0]) ?_ 1 _ rfl; (with_reducible repeat (first | refine blk_drewN ?_ _ | refine blk_drew ?_ | refine blk_alloc ?_ _)); refine blk_put (cs := #[.int .i64 0, .int .i64 0]) ?_ 0 _ rfl; (with_reducible repeat (first | refine blk_drewN ?_ _ | refine blk_drew ?_ | refine blk_alloc ?_ _)); exact BK878.out) Tryz.underlying74 rfl (by kernel_rfl)) rfl ?_
   exact ⟨eR, oB HB⟩
  ·rw [if_neg c8] at H
   exact absurd H (by simp)
end Go.Proofs.YtanhnhkcpbdfmaaGreat.P
namespace Go.Proofs.YtanhnhkcpbdfmaaGreat.P
set_option maxHeartbeats 8000000
set_option maxRecDepth 100000
set_option synthInstance.maxHeartbeats 400000
set_option synthInstance.maxSize 100000
open Go.RowKit Go.Proofs.YtanhnhkcpbdfmaaGreatW.PrintWords Go.Proofs.YtanhnhkcpbdfmaaGreatW.PrintLast Go.Proofs.YtanhnhkcpbdfmaaGreatW.PrintMore Go.Proofs.YtanhnhkcpbdfmaaGreat.V
attribute [local go_sem] cell_b frozen_b
attribute [local go_sem] max2_int min2_int max_two min_two max_three min_three max_four min_four
def impl_RepairNext.f (k : Nat) (l0 : List (S104)) (a1 : Int) : Option ((List (S104)) × Bool) := (impl_NextRepair.f l0).bind fun bt883 => (if bt883.2.2 = true then ((impl_AddEntry.f k l0 bt883.1 bt883.2.1 0 a1).bind fun bt887 => (some (bt887.1, bt887.2))) else ((impl_copyLog.f l0).bind fun t891 => (some (t891, false))))
theorem impl_RepairNext.calls (k : Nat) (A0 : Option Addr) (c0 : Nat) (l0 : List (S104)) (a1 : Int) (r1 : List (S104)) (r2 : Bool) (w : World) (hr0 : Kd.C k104 w A0 l0.length l0) (hc0 : l0.length ≤ c0) (h : impl_RepairNext.f k l0 a1 = some (r1, r2)) :
  Calls Tryz.prog 62 #[.slice A0 l0.length c0, .int .i64 a1] w fun e w' => ∃ v0_ : Value, e = .returned (.tuple #[v0_, .bool r2]) ∧ Kd.R k104 104 w' w.heap.size (fun _ => True) v0_ r1 ∧ Below w.heap.size w w' := by
 replace hr0 := RdE.mk hr0
 replace hc0 := LeI.mk hc0
 unfold impl_RepairNext.f at h
 have hu74 := Tryz.underlying74
 (repeat' first | ((with_reducible replace h := ite_some h); rcases h with ⟨hc, h⟩ | ⟨hc, h⟩ <;> first | exact (none_some h).elim | exact absurd hc (by decide) | subst hc | (replace hc := hF_ hc; subst hc) | (have hd := hI_ hc; have he := hJ_ hc; clear hc) | (have hd := hK_ hc; have he := hL_ hc) | (have hd := decide_eq_false hc) | (have hd := decide_eq_true hc) | skip))
 all_goals go_enter Tryz.func62, Tryz.ntmps62
 all_goals go_wp2_with ((first
  | ((with_reducible refine gate_dst (N := 6) rfl ?_); refine bV #[.int .i64 0, .int .i64 0] 74 fun g w1 j1 j2 j3 => ?_)
  | (go_at_call 110; replace h := bI h; obtain ⟨⟨t1, t2, t3⟩, A, h⟩ := h; (try dsimp only at h); refine (impl_NextRepair.calls _ _ _ _ _ _ _ Rd.out LeI.out A).mono ?_; rintro e w2 ⟨rfl, hb⟩; have jb := Bel.mk hb; clear A hb)
  | (go_at_call 108; replace h := bI h; obtain ⟨⟨t1, t2⟩, A, h⟩ := h; (try dsimp only at h); refine (impl_AddEntry.calls _ _ _ _ _ _ _ _ _ _ _ Rd.out LeI.out A).mono ?_; rintro e w2 ⟨v0, rfl, ho0, hb⟩; obtain ⟨B0, b0, rfl, j0, q0⟩ := rowS ho0; have jb := Bel.mk hb; clear A ho0 hb)
  | (go_at_call 107; replace h := bI h; obtain ⟨t, A, h⟩ := h; (try dsimp only at h); refine (impl_copyLog.calls _ _ _ _ _ Rd.out LeI.out A).mono ?_; rintro e w2 ⟨v0, rfl, ho0, hb⟩; obtain ⟨B0, b0, rfl, j0, q0⟩ := rowS ho0; have jb := Bel.mk hb; clear A ho0 hb)); (repeat' first | ((with_reducible replace h := ite_some h); rcases h with ⟨hc, h⟩ | ⟨hc, h⟩ <;> first | exact (none_some h).elim | exact absurd hc (by decide) | subst hc | (replace hc := hF_ hc; subst hc) | (have hd := hI_ hc; have he := hJ_ hc; clear hc) | (have hd := hK_ hc; have he := hL_ hc) | (have hd := decide_eq_false hc) | (have hd := decide_eq_true hc) | skip)); all_goals (try have hn : decide (0 < t.length) = true := decide_eq_true (by omega)); all_goals (try have hn : decide (0 < t.length) = false := decide_eq_false (by omega)))
 all_goals simp only [Option.some.injEq, Prod.mk.injEq] at h
 all_goals obtain ⟨rfl, rfl⟩ := h
 all_goals go_ret2
 all_goals exact ⟨_, rfl, (by first | exact rowFin | exact Kd.R_nil _ _ _ _ _), From.out⟩
end Go.Proofs.YtanhnhkcpbdfmaaGreat.P
namespace Go.Proofs.YtanhnhkcpbdfmaaGreat.P
set_option maxHeartbeats 8000000
set_option maxRecDepth 100000
set_option synthInstance.maxHeartbeats 400000
set_option synthInstance.maxSize 100000
open Go.RowKit Go.Proofs.YtanhnhkcpbdfmaaGreatW.PrintWords Go.Proofs.YtanhnhkcpbdfmaaGreatW.PrintLast Go.Proofs.YtanhnhkcpbdfmaaGreatW.PrintMore Go.Proofs.YtanhnhkcpbdfmaaGreat.V
attribute [local go_sem] cell_b frozen_b cellR_c cell_r frozen_r cell_r0 frozen_r0
attribute [local go_sem] max2_int min2_int max_two min_two max_three min_three max_four min_four
def impl_DoAct.j0 : Nat → Bool → List (S112) → Int → List Int → Int → Int → List (S104) → Int → Int → Int → Int → Option ((List (S112)) × Int × List Int × Int × Int × (List (S104)) × Int)
 | 0, _, _, _, _, _, _, _, _, _, _, _ => none
 | k + 1, x24, x895000, x895001, x895002, x895003, x895004, x895005, x896000, x896001, x896002, x896003 => if x24 = true then ((impl_copyShop.f x895000 x895001 x895002 x895003 x895004 x895005).bind fun bt899 => (some (bt899.1, bt899.2.1, bt899.2.2.1, bt899.2.2.2.1, bt899.2.2.2.2.1, bt899.2.2.2.2.2, (-1)))) else (if x896000 = 1 then ((impl_ShopTune.f k x895000 x895001 x895002 x895003 x895004 x895005).bind fun bt911 => ((impl_truth.f bt911.2.2.2.2.2.2).bind fun t925 => (some (bt911.1, bt911.2.1, bt911.2.2.1, bt911.2.2.2.1, bt911.2.2.2.2.1, bt911.2.2.2.2.2.1, t925)))) else (if x896000 = 2 then ((impl_ShopWarm.f k x895000 x895001 x895002 x895003 x895004 x895005 x896001).bind fun bt926 => ((impl_truth.f bt926.2.2.2.2.2.2).bind fun t940 => (some (bt926.1, bt926.2.1, bt926.2.2.1, bt926.2.2.2.1, bt926.2.2.2.2.1, bt926.2.2.2.2.2.1, t940)))) else (if x896000 = 3 then ((impl_ShopFault.f k x895000 x895001 x895002 x895003 x895004 x895005 x896001 x896002 x896003).bind fun bt941 => ((impl_truth.f bt941.2.2.2.2.2.2).bind fun t955 => (some (bt941.1, bt941.2.1, bt941.2.2.1, bt941.2.2.2.1, bt941.2.2.2.2.1, bt941.2.2.2.2.2.1, t955)))) else (if x896000 = 4 then ((impl_ShopKnock.f k x895000 x895001 x895002 x895003 x895004 x895005 x896001 x896002).bind fun bt956 => ((impl_truth.f bt956.2.2.2.2.2.2).bind fun t970 => (some (bt956.1, bt956.2.1, bt956.2.2.1, bt956.2.2.2.1, bt956.2.2.2.2.1, bt956.2.2.2.2.2.1, t970)))) else (if x896000 = 5 then ((impl_copyShop.f x895000 x895001 x895002 x895003 x895004 x895005).bind fun bt971 => ((impl_RepairNext.f k x895005 x895004).bind fun bt984 => ((impl_truth.f bt984.2).bind fun t988 => (some (bt971.1, bt971.2.1, bt971.2.2.1, bt971.2.2.2.1, bt971.2.2.2.2.1, bt984.1, t988))))) else (if x896000 = 6 then ((impl_copyShop.f x895000 x895001 x895002 x895003 x895004 x895005).bind fun bt989 => ((impl_StepsLeft.f k x895000 x895001 x895002 x895003 x895004 x895005).bind fun t1001 => (some (bt989.1, bt989.2.1, bt989.2.2.1, bt989.2.2.2.1, bt989.2.2.2.2.1, bt989.2.2.2.2.2, t1001)))) else ((impl_copyShop.f x895000 x895001 x895002 x895003 x895004 x895005).bind fun bt1002 => ((impl_HeardAt.f k x895000 x895001 x895002 x895003 x895004 x895005 x896001).bind fun t1014 => (some (bt1002.1, bt1002.2.1, bt1002.2.2.1, bt1002.2.2.2.1, bt1002.2.2.2.2.1, bt1002.2.2.2.2.2, t1014))))))))))
def impl_DoAct.f (k : Nat) (l0_0 : List (S112)) (a0_1 : Int) (l0_2 : List Int) (a0_3 : Int) (a0_4 : Int) (l0_5 : List (S104)) (a1_0 : Int) (a1_1 : Int) (a1_2 : Int) (a1_3 : Int) : Option ((List (S112)) × Int × List Int × Int × Int × (List (S104)) × Int) := (impl_ShopOk.f k l0_0 a0_1 l0_2 a0_3 a0_4 l0_5).bind fun t897 => (if t897 = true then ((impl_ActOk.f k a1_0 a1_1 a1_2 a1_3).bind fun t898 => (impl_DoAct.j0 k (!t898) l0_0 a0_1 l0_2 a0_3 a0_4 l0_5 a1_0 a1_1 a1_2 a1_3)) else (impl_DoAct.j0 k true l0_0 a0_1 l0_2 a0_3 a0_4 l0_5 a1_0 a1_1 a1_2 a1_3))
def impl_DoAct.T23 : Bool × List (List Nat × List Nat) := (true, [([], []), ([0], [0]), ([], []), ([], []), ([3], [3]), ([2, 4, 1], [2, 4]), ([1, 5, 0, 1], [1]), ([5, 6, 0, 1, 2, 3, 4, 5, 6], [5])])
def impl_DoAct.B23 : List Nat := [0, 1, 0, 0, 8, 31, 63, 127]
theorem impl_DoAct.tab23 : rtab .any (opsOf Tryz.f13 23) = impl_DoAct.T23 := by kernel_rfl
theorem impl_DoAct.bits23 : waitsOk impl_DoAct.T23.2 impl_DoAct.B23 = true := by kernel_rfl
noncomputable def impl_DoAct.T6 : Bool × List (List Nat × List Nat) := rtab .any (opsOf Tryz.f13 6)
def impl_DoAct.B6 : List Nat := [0, 0, 2, 7, 15]
theorem impl_DoAct.tab6 : rtab .any (opsOf Tryz.f13 6) = impl_DoAct.T6 := rfl
theorem impl_DoAct.bits6 : waitsOk impl_DoAct.T6.2 impl_DoAct.B6 = true := by kernel_rfl
noncomputable def impl_DoAct.T9 : Bool × List (List Nat × List Nat) := rtab .any (opsOf Tryz.f13 9)
def impl_DoAct.B9 : List Nat := [0, 0, 2, 7, 15]
theorem impl_DoAct.tab9 : rtab .any (opsOf Tryz.f13 9) = impl_DoAct.T9 := rfl
theorem impl_DoAct.bits9 : waitsOk impl_DoAct.T9.2 impl_DoAct.B9 = true := by kernel_rfl
noncomputable def impl_DoAct.T12 : Bool × List (List Nat × List Nat) := rtab .any (opsOf Tryz.f13 12)
def impl_DoAct.B12 : List Nat := [0, 0, 2, 7, 15]
theorem impl_DoAct.tab12 : rtab .any (opsOf Tryz.f13 12) = impl_DoAct.T12 := rfl
theorem impl_DoAct.bits12 : waitsOk impl_DoAct.T12.2 impl_DoAct.B12 = true := by kernel_rfl
noncomputable def impl_DoAct.T15 : Bool × List (List Nat × List Nat) := rtab .any (opsOf Tryz.f13 15)
def impl_DoAct.B15 : List Nat := [0, 0, 2, 7, 15]
theorem impl_DoAct.tab15 : rtab .any (opsOf Tryz.f13 15) = impl_DoAct.T15 := rfl
theorem impl_DoAct.bits15 : waitsOk impl_DoAct.T15.2 impl_DoAct.B15 = true := by kernel_rfl
noncomputable def impl_DoAct.T20 : Bool × List (List Nat × List Nat) := rtab .any (opsOf Tryz.f13 20)
def impl_DoAct.B20 : List Nat := [0, 0, 2, 7, 15]
theorem impl_DoAct.tab20 : rtab .any (opsOf Tryz.f13 20) = impl_DoAct.T20 := rfl
theorem impl_DoAct.bits20 : waitsOk impl_DoAct.T20.2 impl_DoAct.B20 = true := by kernel_rfl
noncomputable def impl_DoAct.T22 : Bool × List (List Nat × List Nat) := rtab .any (opsOf Tryz.f13 22)
def impl_DoAct.B22 : List Nat := [0, 1, 0, 7, 15, 31]
theorem impl_DoAct.tab22 : rtab .any (opsOf Tryz.f13 22) = impl_DoAct.T22 := rfl
theorem impl_DoAct.bits22 : waitsOk impl_DoAct.T22.2 impl_DoAct.B22 = true := by kernel_rfl
theorem impl_DoAct.calls (k : Nat) (A0_0 : Option Addr) (c0_0 : Nat) (l0_0 : List (S112)) (a0_1 : Int) (A0_2 : Option Addr) (c0_2 : Nat) (l0_2 : List Int) (a0_3 : Int) (a0_4 : Int) (A0_5 : Option Addr) (c0_5 : Nat) (l0_5 : List (S104)) (a1_0 : Int) (a1_1 : Int) (a1_2 : Int) (a1_3 : Int) (r1 : List (S112)) (r2 : Int) (r3 : List Int) (r4 : Int) (r5 : Int) (r6 : List (S104)) (r7 : Int) (w : World) (hr0_0 : Kd.C k112 w A0_0 l0_0.length l0_0) (hc0_0 : l0_0.length ≤ c0_0) (hr0_2 : Kd.C (Kd.int .i64) w A0_2 l0_2.length l0_2) (hc0_2 : l0_2.length ≤ c0_2) (hr0_5 : Kd.C k104 w A0_5 l0_5.length l0_5) (hc0_5 : l0_5.length ≤ c0_5) (h : impl_DoAct.f k l0_0 a0_1 l0_2 a0_3 a0_4 l0_5 a1_0 a1_1 a1_2 a1_3 = some (r1, r2, r3, r4, r5, r6, r7)) :
  Calls Tryz.prog 13 #[.agg #[.slice A0_0 l0_0.length c0_0, .int .i64 a0_1, .slice A0_2 l0_2.length c0_2, .int .i64 a0_3, .int .i64 a0_4, .slice A0_5 l0_5.length c0_5], .agg #[.int .i64 a1_0, .int .i64 a1_1, .int .i64 a1_2, .int .i64 a1_3]] w fun e w' => ∃ v0_ v2_ v5_ : Value, e = .returned (.tuple #[.agg #[v0_, .int .i64 r2, v2_, .int .i64 r4, .int .i64 r5, v5_], .int .i64 r7]) ∧ Kd.R k112 112 w' w.heap.size (fun _ => True) v0_ r1 ∧ Kd.R (Kd.int .i64) 3 w' w.heap.size (fun _ => True) v2_ r3 ∧ Kd.R k104 104 w' w.heap.size (fun _ => True) v5_ r6 ∧ Below w.heap.size w w' := by
 replace hr0_0 := RdE.mk hr0_0
 replace hc0_0 := LeI.mk hc0_0
 replace hr0_2 := RdE.mk hr0_2
 replace hc0_2 := LeI.mk hc0_2
 replace hr0_5 := RdE.mk hr0_5
 replace hc0_5 := LeI.mk hc0_5
 have nt112_3 := NeT.mk (d := k112) (e := 112) (t := 3) (by decide)
 have nt112_37 := NeT.mk (d := k112) (e := 112) (t := 37) (by decide)
 have nt112_41 := NeT.mk (d := k112) (e := 112) (t := 41) (by decide)
 have nt104_3 := NeT.mk (d := k104) (e := 104) (t := 3) (by decide)
 have nt104_37 := NeT.mk (d := k104) (e := 104) (t := 37) (by decide)
 have nt104_41 := NeT.mk (d := k104) (e := 104) (t := 41) (by decide)
 unfold impl_DoAct.f at h
 have hu37 := Tryz.underlying37
 have hu41 := Tryz.underlying41
 have hu74 := Tryz.underlying74
 (repeat' first | ((with_reducible replace h := ite_some h); rcases h with ⟨hc, h⟩ | ⟨hc, h⟩ <;> first | exact (none_some h).elim | exact absurd hc (by decide) | subst hc | (replace hc := hF_ hc; subst hc) | (replace hc := hG_ hc; subst hc) | (replace hc := hH_ hc; subst hc) | (have hd : (_ == _) = true := hc) | (have hd : (_ == _) = false := hF_ hc) | (have hd := hI_ hc; have he := hJ_ hc; clear hc) | (have hd := hK_ hc; have he := hL_ hc) | (have hd := decide_eq_false hc) | (have hd := decide_eq_true hc; (try (have hn := Int.natCast_pos.mp hc; have hm := decide_eq_true hn; replace hn := eq_true hn)); first | (obtain ⟨g_, e_, i_⟩ := form_ (by assumption) (by first | assumption | decide) hc; cases e_) | (obtain ⟨a_, e_, c_⟩ := atI_ (by assumption) (by first | assumption | decide) hc; cases e_)) | (have hd := decide_eq_true hc) | skip) | ((with_reducible have hj : impl_DoAct.j0 k _ _ _ _ _ _ _ _ _ _ _ = _ := h); clear hj; rcases k with _ | k <;> rw [impl_DoAct.j0] at h <;> first | exact (none_some h).elim | skip) | ((with_reducible replace h := bind_set_ h); obtain ⟨hl_, h⟩ := h; replace hl_ := A_ hl_; (try dsimp only at h)))
 all_goals go_enter Tryz.func13, Tryz.ntmps13
 all_goals go_wp2_with ((first
  | ((with_reducible refine gate_dst (N := 2) rfl ?_); refine bV #[.slice A0_0 l0_0.length c0_0, .int .i64 a0_1, .slice A0_2 l0_2.length c0_2, .int .i64 a0_3, .int .i64 a0_4, .slice A0_5 l0_5.length c0_5] 37 fun g w1 j1 j2 j3 => ?_)
  | ((with_reducible refine gate_dst (N := 3) rfl ?_); refine bV #[.int .i64 a1_0, .int .i64 a1_1, .int .i64 a1_2, .int .i64 a1_3] 41 fun g w1 j1 j2 j3 => ?_)
  | ((with_reducible refine gate_dst (N := 4) rfl ?_); refine bV #[.slice none 0 0, .int .i64 0, .slice none 0 0, .int .i64 0, .int .i64 0, .slice none 0 0] 37 fun g w1 j1 j2 j3 => ?_)
  | ((with_reducible refine gate_dst (N := 6) rfl ?_); refine bV #[.slice none 0 0, .int .i64 0, .slice none 0 0, .int .i64 0, .int .i64 0, .slice none 0 0] 37 fun g w1 j1 j2 j3 => ?_)
  | ((with_reducible refine gate_dst (N := 8) rfl ?_); refine bV #[.slice none 0 0, .int .i64 0, .slice none 0 0, .int .i64 0, .int .i64 0, .slice none 0 0] 37 fun g w1 j1 j2 j3 => ?_)
  | ((with_reducible refine gate_dst (N := 10) rfl ?_); refine bV #[.slice none 0 0, .int .i64 0, .slice none 0 0, .int .i64 0, .int .i64 0, .slice none 0 0] 37 fun g w1 j1 j2 j3 => ?_)
  | ((with_reducible refine gate_dst (N := 12) rfl ?_); refine bV #[.slice none 0 0, .int .i64 0, .slice none 0 0, .int .i64 0, .int .i64 0, .slice none 0 0] 37 fun g w1 j1 j2 j3 => ?_)
  | ((with_reducible refine gate_dst (N := 14) rfl ?_); refine bV #[.slice none 0 0, .int .i64 0, .slice none 0 0, .int .i64 0, .int .i64 0, .slice none 0 0] 37 fun g w1 j1 j2 j3 => ?_)
  | (go_at_call 32; (try rw [hl_.out]); replace h := bI h; obtain ⟨t, A, h⟩ := h; (try dsimp only at h); refine (impl_ShopOk.calls _ _ _ _ _ _ _ _ _ _ _ _ _ _ _ Rd.out LeI.out Rd.out LeI.out Rd.out LeI.out A).mono ?_; rintro e w2 ⟨rfl, hb⟩; have jb := Bel.mk hb; clear A hb)
  | (go_at_call 56; (try rw [hl_.out]); replace h := bI h; obtain ⟨t, A, h⟩ := h; (try dsimp only at h); refine (impl_ActOk.calls _ _ _ _ _ _ _ A).mono ?_; rintro e w2 ⟨rfl, hb⟩; have jb := Bel.mk hb; clear A hb)
  | (go_at_call 57; (try rw [hl_.out]); replace h := bI h; obtain ⟨⟨t1, t2, t3, t4, t5, t6⟩, A, h⟩ := h; (try dsimp only at h); refine (impl_copyShop.calls _ _ _ _ _ _ _ _ _ _ _ _ _ _ _ _ _ _ _ Rd.out LeI.out Rd.out LeI.out Rd.out LeI.out A).mono ?_; rintro e w2 ⟨v0, v1, v2, rfl, ho0, ho1, ho2, hb⟩; obtain ⟨B0, b0, rfl, j0, q0⟩ := rowS ho0; obtain ⟨B1, b1, rfl, j1, q1⟩ := rowS ho1; obtain ⟨B2, b2, rfl, j2, q2⟩ := rowS ho2; have jb := Bel.mk hb; clear A ho0 ho1 ho2 hb)
  | (go_at_call 36; (try rw [hl_.out]); replace h := bI h; obtain ⟨⟨t1, t2, t3, t4, t5, t6, t7⟩, A, h⟩ := h; (try dsimp only at h); refine (impl_ShopTune.calls _ _ _ _ _ _ _ _ _ _ _ _ _ _ _ _ _ _ _ _ _ Rd.out LeI.out Rd.out LeI.out Rd.out LeI.out A).mono ?_; rintro e w2 ⟨v0, v1, v2, rfl, ho0, ho1, ho2, hb⟩; obtain ⟨B0, b0, rfl, j0, q0⟩ := rowS ho0; obtain ⟨B1, b1, rfl, j1, q1⟩ := rowS ho1; obtain ⟨B2, b2, rfl, j2, q2⟩ := rowS ho2; have jb := Bel.mk hb; clear A ho0 ho1 ho2 hb)
  | (go_at_call 59; (try rw [hl_.out]); replace h := bI h; obtain ⟨⟨t1, t2, t3, t4, t5, t6, t7⟩, A, h⟩ := h; (try dsimp only at h); refine (impl_ShopWarm.calls _ _ _ _ _ _ _ _ _ _ _ _ _ _ _ _ _ _ _ _ _ _ Rd.out LeI.out Rd.out LeI.out Rd.out LeI.out A).mono ?_; rintro e w2 ⟨v0, v1, v2, rfl, ho0, ho1, ho2, hb⟩; obtain ⟨B0, b0, rfl, j0, q0⟩ := rowS ho0; obtain ⟨B1, b1, rfl, j1, q1⟩ := rowS ho1; obtain ⟨B2, b2, rfl, j2, q2⟩ := rowS ho2; have jb := Bel.mk hb; clear A ho0 ho1 ho2 hb)
  | (go_at_call 60; (try rw [hl_.out]); replace h := bI h; obtain ⟨⟨t1, t2, t3, t4, t5, t6, t7⟩, A, h⟩ := h; (try dsimp only at h); refine (impl_ShopFault.calls _ _ _ _ _ _ _ _ _ _ _ _ _ _ _ _ _ _ _ _ _ _ _ _ Rd.out LeI.out Rd.out LeI.out Rd.out LeI.out A).mono ?_; rintro e w2 ⟨v0, v1, v2, rfl, ho0, ho1, ho2, hb⟩; obtain ⟨B0, b0, rfl, j0, q0⟩ := rowS ho0; obtain ⟨B1, b1, rfl, j1, q1⟩ := rowS ho1; obtain ⟨B2, b2, rfl, j2, q2⟩ := rowS ho2; have jb := Bel.mk hb; clear A ho0 ho1 ho2 hb)
  | (go_at_call 61; (try rw [hl_.out]); replace h := bI h; obtain ⟨⟨t1, t2, t3, t4, t5, t6, t7⟩, A, h⟩ := h; (try dsimp only at h); refine (impl_ShopKnock.calls _ _ _ _ _ _ _ _ _ _ _ _ _ _ _ _ _ _ _ _ _ _ _ Rd.out LeI.out Rd.out LeI.out Rd.out LeI.out A).mono ?_; rintro e w2 ⟨v0, v1, v2, rfl, ho0, ho1, ho2, hb⟩; obtain ⟨B0, b0, rfl, j0, q0⟩ := rowS ho0; obtain ⟨B1, b1, rfl, j1, q1⟩ := rowS ho1; obtain ⟨B2, b2, rfl, j2, q2⟩ := rowS ho2; have jb := Bel.mk hb; clear A ho0 ho1 ho2 hb)
  | (go_at_call 62; (try rw [hl_.out]); replace h := bI h; obtain ⟨⟨t1, t2⟩, A, h⟩ := h; (try dsimp only at h); refine (impl_RepairNext.calls _ _ _ _ _ _ _ _ Rd.out LeI.out A).mono ?_; rintro e w2 ⟨v0, rfl, ho0, hb⟩; obtain ⟨B0, b0, rfl, j0, q0⟩ := rowS ho0; have jb := Bel.mk hb; clear A ho0 hb)
  | (refine qR (id := 6) (ds := [3]) (l := #[false, false, false, false, false]) impl_DoAct.tab6 impl_DoAct.bits6 ?_; intro HT_ HW_ w3 jw u0 iu hHeld; refine qA 1 (some 37) HT_ ?_; refine qT 0 (some 36) HT_ HW_ hHeld ?_; replace h := bI h; obtain ⟨t, A, h⟩ := h; (try dsimp only at h); refine qC 2 38 Tryz.func58 HT_ fun K hK => ?_; refine (impl_truth.calls _ _ _ A).mono ?_; rintro e w2 ⟨rfl, n, rfl⟩; clear A; refine ⟨_, rfl, hK _ _ From.out fun hHeld => ?_⟩; clear hK K; refine qN ?_; refine qL 3 HT_ ?_; refine qA 4 (some 5) HT_ ?_; refine qD HT_ ?_)
  | (refine qR (id := 9) (ds := [3]) (l := #[false, false, false, false, false]) impl_DoAct.tab9 impl_DoAct.bits9 ?_; intro HT_ HW_ w3 jw u0 iu hHeld; refine qA 1 (some 49) HT_ ?_; refine qT 0 (some 48) HT_ HW_ hHeld ?_; replace h := bI h; obtain ⟨t, A, h⟩ := h; (try dsimp only at h); refine qC 2 50 Tryz.func58 HT_ fun K hK => ?_; refine (impl_truth.calls _ _ _ A).mono ?_; rintro e w2 ⟨rfl, n, rfl⟩; clear A; refine ⟨_, rfl, hK _ _ From.out fun hHeld => ?_⟩; clear hK K; refine qN ?_; refine qL 3 HT_ ?_; refine qA 4 (some 5) HT_ ?_; refine qD HT_ ?_)
  | (refine qR (id := 12) (ds := [3]) (l := #[false, false, false, false, false]) impl_DoAct.tab12 impl_DoAct.bits12 ?_; intro HT_ HW_ w3 jw u0 iu hHeld; refine qA 1 (some 66) HT_ ?_; refine qT 0 (some 65) HT_ HW_ hHeld ?_; replace h := bI h; obtain ⟨t, A, h⟩ := h; (try dsimp only at h); refine qC 2 67 Tryz.func58 HT_ fun K hK => ?_; refine (impl_truth.calls _ _ _ A).mono ?_; rintro e w2 ⟨rfl, n, rfl⟩; clear A; refine ⟨_, rfl, hK _ _ From.out fun hHeld => ?_⟩; clear hK K; refine qN ?_; refine qL 3 HT_ ?_; refine qA 4 (some 5) HT_ ?_; refine qD HT_ ?_)
  | (refine qR (id := 15) (ds := [3]) (l := #[false, false, false, false, false]) impl_DoAct.tab15 impl_DoAct.bits15 ?_; intro HT_ HW_ w3 jw u0 iu hHeld; refine qA 1 (some 80) HT_ ?_; refine qT 0 (some 79) HT_ HW_ hHeld ?_; replace h := bI h; obtain ⟨t, A, h⟩ := h; (try dsimp only at h); refine qC 2 81 Tryz.func58 HT_ fun K hK => ?_; refine (impl_truth.calls _ _ _ A).mono ?_; rintro e w2 ⟨rfl, n, rfl⟩; clear A; refine ⟨_, rfl, hK _ _ From.out fun hHeld => ?_⟩; clear hK K; refine qN ?_; refine qL 3 HT_ ?_; refine qA 4 (some 5) HT_ ?_; refine qD HT_ ?_)
  | (refine qR (id := 20) (ds := [3]) (l := #[false, false, false, false, false]) impl_DoAct.tab20 impl_DoAct.bits20 ?_; intro HT_ HW_ w3 jw u0 iu hHeld; refine qA 1 (some 97) HT_ ?_; refine qT 0 (some 96) HT_ HW_ hHeld ?_; replace h := bI h; obtain ⟨t, A, h⟩ := h; (try dsimp only at h); refine qC 2 98 Tryz.func58 HT_ fun K hK => ?_; refine (impl_truth.calls _ _ _ A).mono ?_; rintro e w2 ⟨rfl, n, rfl⟩; clear A; refine ⟨_, rfl, hK _ _ From.out fun hHeld => ?_⟩; clear hK K; refine qN ?_; refine qL 3 HT_ ?_; refine qA 4 (some 5) HT_ ?_; refine qD HT_ ?_)
  | (refine qR (id := 22) (ds := [4]) (l := #[false, false, false, false, false, false]) impl_DoAct.tab22 impl_DoAct.bits22 ?_; intro HT_ HW_ w3 jw u0 iu hHeld; refine qT 0 (some 101) HT_ HW_ hHeld ?_; refine qT 2 (some 103) HT_ HW_ hHeld ?_; replace h := bI h; obtain ⟨⟨t1, t2, t3, t4, t5, t6⟩, A, h⟩ := h; (try dsimp only at h); refine qC 1 102 Tryz.func57 HT_ fun K hK => ?_; refine (impl_copyShop.calls _ _ _ _ _ _ _ _ _ _ _ _ _ _ _ _ _ _ _ Rd.out LeI.out Rd.out LeI.out Rd.out LeI.out A).mono ?_; rintro e w2 ⟨v0, v1, v2, rfl, ho0, ho1, ho2, hb⟩; obtain ⟨B0, b0, rfl, j0, q0⟩ := rowS ho0; obtain ⟨B1, b1, rfl, j1, q1⟩ := rowS ho1; obtain ⟨B2, b2, rfl, j2, q2⟩ := rowS ho2; have jb := Bel.mk hb; clear A ho0 ho1 ho2 hb; refine ⟨_, rfl, hK _ _ From.out fun hHeld => ?_⟩; clear hK K; refine qN ?_; replace h := bI h; obtain ⟨t, A, h⟩ := h; (try dsimp only at h); refine qC 3 104 Tryz.func34 HT_ fun K hK => ?_; refine (impl_StepsLeft.calls _ _ _ _ _ _ _ _ _ _ _ _ _ _ _ Rd.out LeI.out Rd.out LeI.out Rd.out LeI.out A).mono ?_; rintro e w2 ⟨rfl, hb⟩; have jb := Bel.mk hb; clear A hb; refine ⟨_, rfl, hK _ _ From.out fun hHeld => ?_⟩; clear hK K; refine qN ?_; refine qL 4 HT_ ?_; refine qA 5 (some 5) HT_ ?_; refine qD HT_ ?_)
  | (refine qR (id := 23) (ds := [6]) (l := #[false, false, false, false, false, false, false, false]) impl_DoAct.tab23 impl_DoAct.bits23 ?_; intro HT_ HW_ w3 jw u0 iu hHeld; refine qA 3 (some 108) HT_ ?_; refine qT 0 (some 105) HT_ HW_ hHeld ?_; refine qT 2 (some 107) HT_ HW_ hHeld ?_; refine qT 4 (some 109) HT_ HW_ hHeld ?_; replace h := bI h; obtain ⟨⟨t1, t2, t3, t4, t5, t6⟩, A, h⟩ := h; (try dsimp only at h); refine qC 1 106 Tryz.func57 HT_ fun K hK => ?_; refine (impl_copyShop.calls _ _ _ _ _ _ _ _ _ _ _ _ _ _ _ _ _ _ _ Rd.out LeI.out Rd.out LeI.out Rd.out LeI.out A).mono ?_; rintro e w2 ⟨v0, v1, v2, rfl, ho0, ho1, ho2, hb⟩; obtain ⟨B0, b0, rfl, j0, q0⟩ := rowS ho0; obtain ⟨B1, b1, rfl, j1, q1⟩ := rowS ho1; obtain ⟨B2, b2, rfl, j2, q2⟩ := rowS ho2; have jb := Bel.mk hb; clear A ho0 ho1 ho2 hb; refine ⟨_, rfl, hK _ _ From.out fun hHeld => ?_⟩; clear hK K; refine qN ?_; replace h := bI h; obtain ⟨t, A, h⟩ := h; (try dsimp only at h); refine qC 5 110 Tryz.func40 HT_ fun K hK => ?_; refine (impl_HeardAt.calls _ _ _ _ _ _ _ _ _ _ _ _ _ _ _ _ Rd.out LeI.out Rd.out LeI.out Rd.out LeI.out A).mono ?_; rintro e w2 ⟨rfl, hb⟩; have jb := Bel.mk hb; clear A hb; refine ⟨_, rfl, hK _ _ From.out fun hHeld => ?_⟩; clear hK K; refine qN ?_; refine qL 6 HT_ ?_; refine qA 7 (some 5) HT_ ?_; refine qD HT_ ?_)); (repeat' first | ((with_reducible replace h := ite_some h); rcases h with ⟨hc, h⟩ | ⟨hc, h⟩ <;> first | exact (none_some h).elim | exact absurd hc (by decide) | subst hc | (replace hc := hF_ hc; subst hc) | (replace hc := hG_ hc; subst hc) | (replace hc := hH_ hc; subst hc) | (have hd : (_ == _) = true := hc) | (have hd : (_ == _) = false := hF_ hc) | (have hd := hI_ hc; have he := hJ_ hc; clear hc) | (have hd := hK_ hc; have he := hL_ hc) | (have hd := decide_eq_false hc) | (have hd := decide_eq_true hc; (try (have hn := Int.natCast_pos.mp hc; have hm := decide_eq_true hn; replace hn := eq_true hn)); first | (obtain ⟨g_, e_, i_⟩ := form_ (by assumption) (by first | assumption | decide) hc; cases e_) | (obtain ⟨a_, e_, c_⟩ := atI_ (by assumption) (by first | assumption | decide) hc; cases e_)) | (have hd := decide_eq_true hc) | skip) | ((with_reducible have hj : impl_DoAct.j0 k _ _ _ _ _ _ _ _ _ _ _ = _ := h); clear hj; rcases k with _ | k <;> rw [impl_DoAct.j0] at h <;> first | exact (none_some h).elim | skip) | ((with_reducible replace h := bind_set_ h); obtain ⟨hl_, h⟩ := h; replace hl_ := A_ hl_; (try dsimp only at h))))
 all_goals simp only [Option.some.injEq, Prod.mk.injEq] at h
 all_goals obtain ⟨rfl, rfl, rfl, rfl, rfl, rfl, rfl⟩ := h
 all_goals refine bodyPost_ret (results_ct rfl _ _ _ _ _ (0, 0) _ rfl Blk.out Tryz.underlying37 rfl (by kernel_rfl)) rfl ?_
 all_goals exact ⟨_, _, _, rfl, (by first | exact rowFin | exact Kd.R_nil _ _ _ _ _ | exact atFin | exact irowFin' (by simp)), (by first | exact rowFin | exact Kd.R_nil _ _ _ _ _ | exact atFin | exact irowFin' (by simp)), (by first | exact rowFin | exact Kd.R_nil _ _ _ _ _ | exact atFin | exact irowFin' (by simp)), From.out⟩
mutual
def impl_RunActs.j0 : Nat → List (S41) → Bool → List (S112) → Int → List Int → Int → Int → List (S104) → Option ((List (S112)) × Int × List Int × Int × Int × (List (S104)) × List Int)
 | 0, _, _, _, _, _, _, _, _ => none
 | k + 1, x1, x21, x1254000, x1254001, x1254002, x1254003, x1254004, x1254005 => if x21 = true then (some (x1254000, x1254001, x1254002, x1254003, x1254004, x1254005, ([] : List Int))) else (impl_RunActs.l0 k (([] : List Int)) x1 (x1.length : Int) 0 x1254000 x1254001 x1254002 x1254003 x1254004 x1254005)
def impl_RunActs.l0 : Nat → List Int → List (S41) → Int → Int → List (S112) → Int → List Int → Int → Int → List (S104) → Option ((List (S112)) × Int × List Int × Int × Int × (List (S104)) × List Int)
 | 0, _, _, _, _, _, _, _, _, _, _ => none
 | k + 1, x7, x24, x25, x26, x1254000, x1254001, x1254002, x1254003, x1254004, x1254005 => if x26 < x25 then (if 0 ≤ x26 then (if x26 < (x24.length : Int) then ((impl_DoAct.f k x1254000 x1254001 x1254002 x1254003 x1254004 x1254005 ((rd_T41 x24 x26).f0) ((rd_T41 x24 x26).f1) ((rd_T41 x24 x26).f2) ((rd_T41 x24 x26).f3)).bind fun bt1260 => (if x7.length < 17592186044416 then (impl_RunActs.l0 k (x7 ++ [bt1260.2.2.2.2.2.2]) x24 x25 (wrap64 (x26 + 1)) bt1260.1 bt1260.2.1 bt1260.2.2.1 bt1260.2.2.2.1 bt1260.2.2.2.2.1 bt1260.2.2.2.2.2.1) else (none))) else (none)) else (none)) else (some (x1254000, x1254001, x1254002, x1254003, x1254004, x1254005, x7))
end
def impl_RunActs.f (k : Nat) (l0_0 : List (S112)) (a0_1 : Int) (l0_2 : List Int) (a0_3 : Int) (a0_4 : Int) (l0_5 : List (S104)) (l1 : List (S41)) : Option ((List (S112)) × Int × List Int × Int × Int × (List (S104)) × List Int) := (impl_copyShop.f l0_0 a0_1 l0_2 a0_3 a0_4 l0_5).bind fun bt1241 => ((impl_ShopOk.f k l0_0 a0_1 l0_2 a0_3 a0_4 l0_5).bind fun t1254 => (if t1254 = true then (impl_RunActs.j0 k l1 (decide ((l1.length : Int) > 40)) bt1241.1 bt1241.2.1 bt1241.2.2.1 bt1241.2.2.2.1 bt1241.2.2.2.2.1 bt1241.2.2.2.2.2) else (impl_RunActs.j0 k l1 true bt1241.1 bt1241.2.1 bt1241.2.2.1 bt1241.2.2.2.1 bt1241.2.2.2.2.1 bt1241.2.2.2.2.2)))
theorem impl_RunActs.calls (k : Nat) (A0_0 : Option Addr) (c0_0 : Nat) (l0_0 : List (S112)) (a0_1 : Int) (A0_2 : Option Addr) (c0_2 : Nat) (l0_2 : List Int) (a0_3 : Int) (a0_4 : Int) (A0_5 : Option Addr) (c0_5 : Nat) (l0_5 : List (S104)) (A1 : Option Addr) (c1 : Nat) (l1 : List (S41)) (r1 : List (S112)) (r2 : Int) (r3 : List Int) (r4 : Int) (r5 : Int) (r6 : List (S104)) (r7 : List Int) (w : World) (hr0_0 : Kd.C k112 w A0_0 l0_0.length l0_0) (hc0_0 : l0_0.length ≤ c0_0) (hr0_2 : Kd.C (Kd.int .i64) w A0_2 l0_2.length l0_2) (hc0_2 : l0_2.length ≤ c0_2) (hr0_5 : Kd.C k104 w A0_5 l0_5.length l0_5) (hc0_5 : l0_5.length ≤ c0_5) (hr1 : Kd.C k41 w A1 l1.length l1) (hc1 : l1.length ≤ c1) (h : impl_RunActs.f k l0_0 a0_1 l0_2 a0_3 a0_4 l0_5 l1 = some (r1, r2, r3, r4, r5, r6, r7)) :
  Calls Tryz.prog 20 #[.agg #[.slice A0_0 l0_0.length c0_0, .int .i64 a0_1, .slice A0_2 l0_2.length c0_2, .int .i64 a0_3, .int .i64 a0_4, .slice A0_5 l0_5.length c0_5], .slice A1 l1.length c1] w fun e w' => ∃ v0_ v2_ v5_ v6_ : Value, e = .returned (.tuple #[.agg #[v0_, .int .i64 r2, v2_, .int .i64 r4, .int .i64 r5, v5_], v6_]) ∧ Kd.R k112 112 w' w.heap.size (fun _ => True) v0_ r1 ∧ Kd.R (Kd.int .i64) 3 w' w.heap.size (fun k_ => some k_ ≠ (v6_ : Value).ownBlock) v2_ r3 ∧ Kd.R k104 104 w' w.heap.size (fun _ => True) v5_ r6 ∧ Kd.R (Kd.int .i64) 3 w' w.heap.size (fun k_ => some k_ ≠ (v2_ : Value).ownBlock) v6_ r7 ∧ Below w.heap.size w w' := by
 have ihr0_0 := RdE.mk hr0_0
 have ihc0_0 := LeI.mk hc0_0
 have ihr0_2 := RdE.mk hr0_2
 have ihc0_2 := LeI.mk hc0_2
 have ihr0_5 := RdE.mk hr0_5
 have ihc0_5 := LeI.mk hc0_5
 have ihr1 := RdE.mk hr1
 have ihc1 := LeI.mk hc1
 clear hr0_0 hc0_0 hr0_2 hc0_2 hr0_5 hc0_5 hr1 hc1
 have nt3_37 := NeT.mk (d := (Kd.int .i64)) (e := 3) (t := 37) (by decide)
 have nt3_41 := NeT.mk (d := (Kd.int .i64)) (e := 3) (t := 41) (by decide)
 have nt104_37 := NeT.mk (d := k104) (e := 104) (t := 37) (by decide)
 have nt104_41 := NeT.mk (d := k104) (e := 104) (t := 41) (by decide)
 have nt112_37 := NeT.mk (d := k112) (e := 112) (t := 37) (by decide)
 have nt112_41 := NeT.mk (d := k112) (e := 112) (t := 41) (by decide)
 have nn3_37 := NeN.mk (e := 3) (t := 37) (by decide)
 have nn3_41 := NeN.mk (e := 3) (t := 41) (by decide)
 unfold impl_RunActs.f at h
 (try simp only [Option.bind_some] at h)
 have hu37 := Tryz.underlying37
 have hu41 := Tryz.underlying41
 (repeat' first | ((with_reducible replace h := ite_some h); rcases h with ⟨hc, h⟩ | ⟨hc, h⟩ <;> first | exact (none_some h).elim | exact absurd hc (by decide) | subst hc | (replace hc := hF_ hc; subst hc) | (replace hc := hG_ hc; subst hc) | (replace hc := hH_ hc; subst hc) | (have hd : (_ == _) = true := hc) | (have hd : (_ == _) = false := hF_ hc) | (have hd := hI_ hc; have he := hJ_ hc; clear hc) | (have hd := hK_ hc; have he := hL_ hc) | (have hd := decide_eq_false hc) | (have hd := decide_eq_true hc; (try (have hn := Int.natCast_pos.mp hc; have hm := decide_eq_true hn; replace hn := eq_true hn)); first | (have hz := form_ (by assumption) (by first | assumption | decide) hc; obtain ⟨g_, e_, i_⟩ := hz; cases e_) | (have hz := atI_ (by assumption) (by first | assumption | decide) hc; obtain ⟨a_, e_, c_⟩ := hz; cases e_) | (have hz := at_T41 (RdE.out (self := by assumption)) _ (by first | assumption | decide) hc; obtain ⟨a_, e_, c0_, c1_, c2_, c3_⟩ := hz; cases e_; replace c0_ := CelE.mk c0_; replace c1_ := CelE.mk c1_; replace c2_ := CelE.mk c2_; replace c3_ := CelE.mk c3_) | (have hz := at_T41 (RdE.out (self := by assumption)) _ hc (by assumption); obtain ⟨a_, e_, c0_, c1_, c2_, c3_⟩ := hz; cases e_; replace c0_ := CelE.mk c0_; replace c1_ := CelE.mk c1_; replace c2_ := CelE.mk c2_; replace c3_ := CelE.mk c3_)) | (have hd := decide_eq_true hc) | skip) | ((with_reducible have hj : impl_RunActs.j0 k _ _ _ _ _ _ _ _ = _ := h); clear hj; rcases k with _ | k <;> rw [impl_RunActs.j0] at h <;> first | exact (none_some h).elim | skip) | ((with_reducible replace h := bind_set_ h); obtain ⟨hl_, h⟩ := h; replace hl_ := A_ hl_; (try dsimp only at h)))
 all_goals go_enter Tryz.func20, Tryz.ntmps20
 all_goals go_wp2_with ((first
  | ((with_reducible refine gate_dst (N := 2) rfl ?_); refine bV #[.slice A0_0 l0_0.length c0_0, .int .i64 a0_1, .slice A0_2 l0_2.length c0_2, .int .i64 a0_3, .int .i64 a0_4, .slice A0_5 l0_5.length c0_5] 37 fun g2 w1 ja1 ja2 ja3 => ?_)
  | ((with_reducible refine gate_dst (N := 4) rfl ?_); refine bV #[.slice none 0 0, .int .i64 0, .slice none 0 0, .int .i64 0, .int .i64 0, .slice none 0 0] 37 fun g4 w1 ja1 ja2 ja3 => ?_)
  | ((with_reducible refine gate_dst (N := 6) rfl ?_); refine bV #[.slice none 0 0, .int .i64 0, .slice none 0 0, .int .i64 0, .int .i64 0, .slice none 0 0] 37 fun g6 w1 ja1 ja2 ja3 => ?_)
  | ((with_reducible refine gate_dst (N := 9) rfl ?_); refine bV #[.int .i64 0, .int .i64 0, .int .i64 0, .int .i64 0] 41 fun g9 w1 ja1 ja2 ja3 => ?_)
  | ((with_reducible refine gate_dst (N := 10) rfl ?_); refine bV #[.slice none 0 0, .int .i64 0, .slice none 0 0, .int .i64 0, .int .i64 0, .slice none 0 0] 37 fun g10 w1 ja1 ja2 ja3 => ?_)
  | ((with_reducible refine gate_dst (N := 23) rfl ?_); refine Kd.R_lit (Kd.int .i64) _ 3 ?hg (N := 23) ?hd (xs := ([] : List Int)) (inner := []) (ok := fun _ => True) (okp := fun _ => True) ?hr ?hp (fun _ hk => hk) trivial (Below.refl _ _) (Nat.le_refl _) (by simp) ?_; (case hd => rfl); (case hg => rfl); (case hr => first | (go_simp; done) | (go_simp; rfl)); (case hp => exact (Reps.none _ _)); intro v5 w5 ho hb hg_ hn_; obtain ⟨A5, c5, rfl⟩ := Kd.R_slice ho; have j5 := RowE.mk ho; have q5 := LeI.mk (rowLe j5); have j6 := Bel.mk hb; clear hg_ hn_ ho hb)
  | (go_at_call 57; (try rw [hl_.out]); replace h := bI h; obtain ⟨⟨t1, t2, t3, t4, t5, t6⟩, A, h⟩ := h; (try dsimp only at h); refine (impl_copyShop.calls _ _ _ _ _ _ _ _ _ _ _ _ _ _ _ _ _ _ _ Rd.out LeI.out Rd.out LeI.out Rd.out LeI.out A).mono ?_; rintro e w2 ⟨v0, v1, v2, rfl, ho0, ho1, ho2, hb⟩; obtain ⟨B0, b0, rfl, j0, q0⟩ := rowS ho0; obtain ⟨B1, b1, rfl, j1, q1⟩ := rowS ho1; obtain ⟨B2, b2, rfl, j2, q2⟩ := rowS ho2; have jb := Bel.mk hb; clear A ho0 ho1 ho2 hb)
  | (go_at_call 32; (try rw [hl_.out]); replace h := bI h; obtain ⟨t, A, h⟩ := h; (try dsimp only at h); refine (impl_ShopOk.calls _ _ _ _ _ _ _ _ _ _ _ _ _ _ _ Rd.out LeI.out Rd.out LeI.out Rd.out LeI.out A).mono ?_; rintro e w2 ⟨rfl, hb⟩; have jb := Bel.mk hb; clear A hb)
  | (go_at_call 13; (try rw [hl_.out]); replace h := bI h; obtain ⟨⟨t1, t2, t3, t4, t5, t6, t7⟩, A, h⟩ := h; (try dsimp only at h); refine (impl_DoAct.calls _ _ _ _ _ _ _ _ _ _ _ _ _ _ _ _ _ _ _ _ _ _ _ _ _ Rd.out LeI.out Rd.out LeI.out Rd.out LeI.out A).mono ?_; rintro e w2 ⟨v0, v1, v2, rfl, ho0, ho1, ho2, hb⟩; obtain ⟨B0, b0, rfl, j0, q0⟩ := rowS ho0; obtain ⟨B1, b1, rfl, j1, q1⟩ := rowS ho1; obtain ⟨B2, b2, rfl, j2, q2⟩ := rowS ho2; have jb := Bel.mk hb; clear A ho0 ho1 ho2 hb)
  | ((with_reducible refine gate_builtin (b := .append) (xs := #[.tmp 37, .tmp 39]) rfl ?_); (try (refine gate_guard (by rfl) ?_; dsimp only)); at_builtin; refine Kd.R_append (Kd.int .i64) (w0 := w) w.heap.size rfl (.tmp 37) (.tmp 39) 23 3 (.int .i64 0) 8 rfl Tryz.underlying23 info3 rfl (by decide) (by omega) (.slice A90 x7_2.length c90) x7_2 t7 [.int .i64 t7] (fun _ => True) (fun _ => False) rfl (by first | (go_simp; done) | (go_simp; rfl)) ?aP (fun _ hk => hk.elim) ?aF ?aO ?aB ?aS ?aL ?_; (case aP => exact rfl); (case aO => exact atFin); (case aB => exact From.out); (case aF => exact (fun _ _ => trivial)); (case aS => exact (From.out (w0 := w)).size); (case aL => omega); intro v7 w7 ho hb hg hat; have jg := grAt hg; obtain ⟨A7, c7, rfl⟩ := Kd.R_slice ho; have jk := keepGr j0 hg; have jd := djGr j1 hat; have je := djSym jd; have j7 := At.mk ho; have jf : From w w7 := ⟨hb⟩; have js : Sz w w7 := ⟨hb.size⟩; clear ho hb hg hat)); (repeat' first | ((with_reducible replace h := ite_some h); rcases h with ⟨hc, h⟩ | ⟨hc, h⟩ <;> first | exact (none_some h).elim | exact absurd hc (by decide) | subst hc | (replace hc := hF_ hc; subst hc) | (replace hc := hG_ hc; subst hc) | (replace hc := hH_ hc; subst hc) | (have hd : (_ == _) = true := hc) | (have hd : (_ == _) = false := hF_ hc) | (have hd := hI_ hc; have he := hJ_ hc; clear hc) | (have hd := hK_ hc; have he := hL_ hc) | (have hd := decide_eq_false hc) | (have hd := decide_eq_true hc; (try (have hn := Int.natCast_pos.mp hc; have hm := decide_eq_true hn; replace hn := eq_true hn)); first | (have hz := form_ (by assumption) (by first | assumption | decide) hc; obtain ⟨g_, e_, i_⟩ := hz; cases e_) | (have hz := atI_ (by assumption) (by first | assumption | decide) hc; obtain ⟨a_, e_, c_⟩ := hz; cases e_) | (have hz := at_T41 (RdE.out (self := by assumption)) _ (by first | assumption | decide) hc; obtain ⟨a_, e_, c0_, c1_, c2_, c3_⟩ := hz; cases e_; replace c0_ := CelE.mk c0_; replace c1_ := CelE.mk c1_; replace c2_ := CelE.mk c2_; replace c3_ := CelE.mk c3_) | (have hz := at_T41 (RdE.out (self := by assumption)) _ hc (by assumption); obtain ⟨a_, e_, c0_, c1_, c2_, c3_⟩ := hz; cases e_; replace c0_ := CelE.mk c0_; replace c1_ := CelE.mk c1_; replace c2_ := CelE.mk c2_; replace c3_ := CelE.mk c3_)) | (have hd := decide_eq_true hc) | skip) | ((with_reducible have hj : impl_RunActs.j0 k _ _ _ _ _ _ _ _ = _ := h); clear hj; rcases k with _ | k <;> rw [impl_RunActs.j0] at h <;> first | exact (none_some h).elim | skip) | ((with_reducible replace h := bind_set_ h); obtain ⟨hl_, h⟩ := h; replace hl_ := A_ hl_; (try dsimp only at h))))
 all_goals first
  | ((try simp only [Option.some.injEq, Prod.mk.injEq] at h); (try obtain ⟨rfl, rfl, rfl, rfl, rfl, rfl, rfl⟩ := h); refine bodyPost_ret (results_ct rfl _ _ _ _ _ (0, 0) _ rfl Blk.out Tryz.underlying37 rfl (by kernel_rfl)) rfl ?_; exact ⟨_, _, _, _, rfl, (by first | exact rowFin | exact rowFin' rfl | exact rowFin' (by simp) | exact Kd.R_nil _ _ _ _ _ | exact atFin | exact irowFin' (by simp)), (by first | exact Kd.R_nil _ _ _ _ _ | exact djR (ok := fun _ => True) (by first | exact rowFin | exact atFin | exact atFin' (by simp) | exact rowFin' (by simp))), (by first | exact rowFin | exact rowFin' rfl | exact rowFin' (by simp) | exact Kd.R_nil _ _ _ _ _ | exact atFin | exact irowFin' (by simp)), (by first | exact Kd.R_nil _ _ _ _ _ | exact djR (ok := fun _ => True) (by first | exact rowFin | exact atFin | exact atFin' (by simp) | exact rowFin' (by simp))), From.out⟩)
  | (exfalso; simp at hd; omega)
  | skip
 go_loopg [7, 26] k (fun kq v7 v26 w' => ∃ (x7_2 : List Int) (x26_2 : Int) (x1254000_2 : List (S112)) (x1254001_2 : Int) (x1254002_2 : List Int) (x1254003_2 : Int) (x1254004_2 : Int) (x1254005_2 : List (S104)) (u1254000 : Value) (u1254002 : Value) (u1254005 : Value), v26 = .int .i64 x26_2 ∧ Aside0 (impl_RunActs.l0 kq x7_2 l1 (l1.length : Int) x26_2 x1254000_2 x1254001_2 x1254002_2 x1254003_2 x1254004_2 x1254005_2 = some (r1, r2, r3, r4, r5, r6, r7)) ∧ Aside0 (kq ≤ k) ∧ Aside0 (Kd.R (Kd.int .i64) 3 w' w.heap.size (fun k_ => some k_ ≠ (u1254002 : Value).ownBlock) v7 x7_2) ∧ Aside0 (Kd.R k112 112 w' w.heap.size (fun _ => True) u1254000 x1254000_2) ∧ Aside0 (Kd.R (Kd.int .i64) 3 w' w.heap.size (fun k_ => some k_ ≠ (v7 : Value).ownBlock) u1254002 x1254002_2) ∧ Aside0 (Kd.R k104 104 w' w.heap.size (fun _ => True) u1254005 x1254005_2) ∧ Aside0 (w'.heap[g2]? = some (.cells #[(.slice A0_0 l0_0.length c0_0), .int .i64 a0_1, (.slice A0_2 l0_2.length c0_2), .int .i64 a0_3, .int .i64 a0_4, (.slice A0_5 l0_5.length c0_5)] 37 (0, 0))) ∧ Aside0 (w'.heap[g4]? = some (.cells #[(.slice none 0 0), .int .i64 0, (.slice none 0 0), .int .i64 0, .int .i64 0, (.slice none 0 0)] 37 (0, 0))) ∧ Aside0 (w'.heap[g6]? = some (.cells #[u1254000, .int .i64 x1254001_2, u1254002, .int .i64 x1254003_2, .int .i64 x1254004_2, u1254005] 37 (0, 0))) ∧ Aside0 (Below w.heap.size w w'))
 case atStart => exact ⟨_, _, _, _, _, _, _, _, (.slice B0 t1.length b0), (.slice B1 t3.length b1), (.slice B2 t6.length b2), (by first | rfl | (simp; done)), ⟨h⟩, ⟨Nat.le_refl _⟩, ⟨djR (ok := fun _ => True) (by first | exact rowFin | exact atFin | exact atFin' (by simp) | exact rowFin' (by simp))⟩, ⟨by first | exact rowFin | exact rowFin' rfl | exact rowFin' (by simp) | exact Kd.R_nil _ _ _ _ _⟩, ⟨djR (ok := fun _ => True) (by first | exact rowFin | exact atFin | exact atFin' (by simp) | exact rowFin' (by simp))⟩, ⟨by first | exact rowFin | exact rowFin' rfl | exact rowFin' (by simp) | exact Kd.R_nil _ _ _ _ _⟩, ⟨Blk.out⟩, ⟨Blk.out⟩, ⟨Blk.out⟩, ⟨From.out⟩⟩
 case round =>
  clear h
  obtain ⟨x7_2, x26_2, x1254000_2, x1254001_2, x1254002_2, x1254003_2, x1254004_2, x1254005_2, u1254000, u1254002, u1254005, rfl, HA, HK2, HO_7, HO_1254000, HO_1254002, HO_1254005, BK1239, BK1240, BK1253, HB⟩ := hrel
  rcases gk with _ | k1
  ·exact absurd HA.out (by simp [impl_RunActs.l0])
  have h := HA.out
  clear HA
  simp only [impl_RunActs.l0] at h
  obtain ⟨A90, c90, rfl, j90, q90, o90⟩ := atOf_ HO_7.out; clear HO_7
  obtain ⟨A91, c91, rfl, j91, q91, o91⟩ := atOf_ HO_1254000.out; clear HO_1254000
  obtain ⟨A92, c92, rfl, j92, q92, o92⟩ := atOf_ HO_1254002.out; clear HO_1254002
  obtain ⟨A93, c93, rfl, j93, q93, o93⟩ := atOf_ HO_1254005.out; clear HO_1254005
  have BK1239_ := Blk.mk BK1239.out; clear BK1239
  have BK1240_ := Blk.mk BK1240.out; clear BK1240
  have BK1253_ := Blk.mk BK1253.out; clear BK1253
  have HB_ : From w wr := ⟨HB.out⟩; have HS_ : Sz w wr := ⟨HB.out.size⟩; clear HB
  (try have d90 := djOf_ o90); (try have d91 := djOf_ o91); (try have d92 := djOf_ o92); (try have d93 := djOf_ o93); clear o90 o91 o92 o93
  (repeat' first | ((with_reducible replace h := ite_some h); rcases h with ⟨hc, h⟩ | ⟨hc, h⟩ <;> first | exact (none_some h).elim | exact absurd hc (by decide) | subst hc | (replace hc := hF_ hc; subst hc) | (replace hc := hG_ hc; subst hc) | (replace hc := hH_ hc; subst hc) | (have hd : (_ == _) = true := hc) | (have hd : (_ == _) = false := hF_ hc) | (have hd := hI_ hc; have he := hJ_ hc; clear hc) | (have hd := hK_ hc; have he := hL_ hc) | (have hd := decide_eq_false hc) | (have hd := decide_eq_true hc; (try (have hn := Int.natCast_pos.mp hc; have hm := decide_eq_true hn; replace hn := eq_true hn)); first | (have hz := form_ (by assumption) (by first | assumption | decide) hc; obtain ⟨g_, e_, i_⟩ := hz; cases e_) | (have hz := atI_ (by assumption) (by first | assumption | decide) hc; obtain ⟨a_, e_, c_⟩ := hz; cases e_) | (have hz := at_T41 (RdE.out (self := by assumption)) _ (by first | assumption | decide) hc; obtain ⟨a_, e_, c0_, c1_, c2_, c3_⟩ := hz; cases e_; replace c0_ := CelE.mk c0_; replace c1_ := CelE.mk c1_; replace c2_ := CelE.mk c2_; replace c3_ := CelE.mk c3_) | (have hz := at_T41 (RdE.out (self := by assumption)) _ hc (by assumption); obtain ⟨a_, e_, c0_, c1_, c2_, c3_⟩ := hz; cases e_; replace c0_ := CelE.mk c0_; replace c1_ := CelE.mk c1_; replace c2_ := CelE.mk c2_; replace c3_ := CelE.mk c3_)) | (have hd := decide_eq_true hc) | skip) | ((with_reducible have hj : impl_RunActs.j0 k _ _ _ _ _ _ _ _ = _ := h); clear hj; rcases k with _ | k <;> rw [impl_RunActs.j0] at h <;> first | exact (none_some h).elim | skip) | ((with_reducible replace h := bind_set_ h); obtain ⟨hl_, h⟩ := h; replace hl_ := A_ hl_; (try dsimp only at h)))
  all_goals go_wp2_with ((first
   | ((with_reducible refine gate_dst (N := 2) rfl ?_); refine bV #[.slice A0_0 l0_0.length c0_0, .int .i64 a0_1, .slice A0_2 l0_2.length c0_2, .int .i64 a0_3, .int .i64 a0_4, .slice A0_5 l0_5.length c0_5] 37 fun g2 w1 ja1 ja2 ja3 => ?_)
   | ((with_reducible refine gate_dst (N := 4) rfl ?_); refine bV #[.slice none 0 0, .int .i64 0, .slice none 0 0, .int .i64 0, .int .i64 0, .slice none 0 0] 37 fun g4 w1 ja1 ja2 ja3 => ?_)
   | ((with_reducible refine gate_dst (N := 6) rfl ?_); refine bV #[.slice none 0 0, .int .i64 0, .slice none 0 0, .int .i64 0, .int .i64 0, .slice none 0 0] 37 fun g6 w1 ja1 ja2 ja3 => ?_)
   | ((with_reducible refine gate_dst (N := 9) rfl ?_); refine bV #[.int .i64 0, .int .i64 0, .int .i64 0, .int .i64 0] 41 fun g9 w1 ja1 ja2 ja3 => ?_)
   | ((with_reducible refine gate_dst (N := 10) rfl ?_); refine bV #[.slice none 0 0, .int .i64 0, .slice none 0 0, .int .i64 0, .int .i64 0, .slice none 0 0] 37 fun g10 w1 ja1 ja2 ja3 => ?_)
   | ((with_reducible refine gate_dst (N := 23) rfl ?_); refine Kd.R_lit (Kd.int .i64) _ 3 ?hg (N := 23) ?hd (xs := ([] : List Int)) (inner := []) (ok := fun _ => True) (okp := fun _ => True) ?hr ?hp (fun _ hk => hk) trivial (Below.refl _ _) (Nat.le_refl _) (by simp) ?_; (case hd => rfl); (case hg => rfl); (case hr => first | (go_simp; done) | (go_simp; rfl)); (case hp => exact (Reps.none _ _)); intro v5 w5 ho hb hg_ hn_; obtain ⟨A5, c5, rfl⟩ := Kd.R_slice ho; have j5 := RowE.mk ho; have q5 := LeI.mk (rowLe j5); have j6 := Bel.mk hb; clear hg_ hn_ ho hb)
   | (go_at_call 57; (try rw [hl_.out]); replace h := bI h; obtain ⟨⟨t1, t2, t3, t4, t5, t6⟩, A, h⟩ := h; (try dsimp only at h); refine (impl_copyShop.calls _ _ _ _ _ _ _ _ _ _ _ _ _ _ _ _ _ _ _ Rd.out LeI.out Rd.out LeI.out Rd.out LeI.out A).mono ?_; rintro e w2 ⟨v0, v1, v2, rfl, ho0, ho1, ho2, hb⟩; obtain ⟨B0, b0, rfl, j0, q0⟩ := rowS ho0; obtain ⟨B1, b1, rfl, j1, q1⟩ := rowS ho1; obtain ⟨B2, b2, rfl, j2, q2⟩ := rowS ho2; have jb := Bel.mk hb; clear A ho0 ho1 ho2 hb)
   | (go_at_call 32; (try rw [hl_.out]); replace h := bI h; obtain ⟨t, A, h⟩ := h; (try dsimp only at h); refine (impl_ShopOk.calls _ _ _ _ _ _ _ _ _ _ _ _ _ _ _ Rd.out LeI.out Rd.out LeI.out Rd.out LeI.out A).mono ?_; rintro e w2 ⟨rfl, hb⟩; have jb := Bel.mk hb; clear A hb)
   | (go_at_call 13; (try rw [hl_.out]); replace h := bI h; obtain ⟨⟨t1, t2, t3, t4, t5, t6, t7⟩, A, h⟩ := h; (try dsimp only at h); refine (impl_DoAct.calls _ _ _ _ _ _ _ _ _ _ _ _ _ _ _ _ _ _ _ _ _ _ _ _ _ Rd.out LeI.out Rd.out LeI.out Rd.out LeI.out A).mono ?_; rintro e w2 ⟨v0, v1, v2, rfl, ho0, ho1, ho2, hb⟩; obtain ⟨B0, b0, rfl, j0, q0⟩ := rowS ho0; obtain ⟨B1, b1, rfl, j1, q1⟩ := rowS ho1; obtain ⟨B2, b2, rfl, j2, q2⟩ := rowS ho2; have jb := Bel.mk hb; clear A ho0 ho1 ho2 hb)
   | ((with_reducible refine gate_builtin (b := .append) (xs := #[.tmp 37, .tmp 39]) rfl ?_); (try (refine gate_guard (by rfl) ?_; dsimp only)); at_builtin; refine Kd.R_append (Kd.int .i64) (w0 := w) w.heap.size rfl (.tmp 37) (.tmp 39) 23 3 (.int .i64 0) 8 rfl Tryz.underlying23 info3 rfl (by decide) (by omega) (.slice A90 x7_2.length c90) x7_2 t7 [.int .i64 t7] (fun _ => True) (fun _ => False) rfl (by first | (go_simp; done) | (go_simp; rfl)) ?aP (fun _ hk => hk.elim) ?aF ?aO ?aB ?aS ?aL ?_; (case aP => exact rfl); (case aO => exact atFin); (case aB => exact From.out); (case aF => exact (fun _ _ => trivial)); (case aS => exact (From.out (w0 := w)).size); (case aL => omega); intro v7 w7 ho hb hg hat; have jg := grAt hg; obtain ⟨A7, c7, rfl⟩ := Kd.R_slice ho; have jk := keepGr j0 hg; have jd := djGr j1 hat; have je := djSym jd; have j7 := At.mk ho; have jf : From w w7 := ⟨hb⟩; have js : Sz w w7 := ⟨hb.size⟩; clear ho hb hg hat)); (repeat' first | ((with_reducible replace h := ite_some h); rcases h with ⟨hc, h⟩ | ⟨hc, h⟩ <;> first | exact (none_some h).elim | exact absurd hc (by decide) | subst hc | (replace hc := hF_ hc; subst hc) | (replace hc := hG_ hc; subst hc) | (replace hc := hH_ hc; subst hc) | (have hd : (_ == _) = true := hc) | (have hd : (_ == _) = false := hF_ hc) | (have hd := hI_ hc; have he := hJ_ hc; clear hc) | (have hd := hK_ hc; have he := hL_ hc) | (have hd := decide_eq_false hc) | (have hd := decide_eq_true hc; (try (have hn := Int.natCast_pos.mp hc; have hm := decide_eq_true hn; replace hn := eq_true hn)); first | (have hz := form_ (by assumption) (by first | assumption | decide) hc; obtain ⟨g_, e_, i_⟩ := hz; cases e_) | (have hz := atI_ (by assumption) (by first | assumption | decide) hc; obtain ⟨a_, e_, c_⟩ := hz; cases e_) | (have hz := at_T41 (RdE.out (self := by assumption)) _ (by first | assumption | decide) hc; obtain ⟨a_, e_, c0_, c1_, c2_, c3_⟩ := hz; cases e_; replace c0_ := CelE.mk c0_; replace c1_ := CelE.mk c1_; replace c2_ := CelE.mk c2_; replace c3_ := CelE.mk c3_) | (have hz := at_T41 (RdE.out (self := by assumption)) _ hc (by assumption); obtain ⟨a_, e_, c0_, c1_, c2_, c3_⟩ := hz; cases e_; replace c0_ := CelE.mk c0_; replace c1_ := CelE.mk c1_; replace c2_ := CelE.mk c2_; replace c3_ := CelE.mk c3_)) | (have hd := decide_eq_true hc) | skip) | ((with_reducible have hj : impl_RunActs.j0 k _ _ _ _ _ _ _ _ = _ := h); clear hj; rcases k with _ | k <;> rw [impl_RunActs.j0] at h <;> first | exact (none_some h).elim | skip) | ((with_reducible replace h := bind_set_ h); obtain ⟨hl_, h⟩ := h; replace hl_ := A_ hl_; (try dsimp only at h))))
  all_goals first
   | (go_roundg k1; (case measure => have := HK2.out; omega); (case rel => exact ⟨_, _, _, _, _, _, _, _, (.slice B0 t1.length b0), (.slice B1 t3.length b1), (.slice B2 t6.length b2), (by first | rfl | (simp; done)), ⟨h⟩, ⟨by have := HK2.out; omega⟩, ⟨djR (ok := fun _ => True) (by first | exact rowFin | exact atFin | exact atFin' (by simp) | exact rowFin' (by simp))⟩, ⟨by first | exact rowFin | exact rowFin' rfl | exact rowFin' (by simp) | exact Kd.R_nil _ _ _ _ _⟩, ⟨djR (ok := fun _ => True) (by first | exact rowFin | exact atFin | exact atFin' (by simp) | exact rowFin' (by simp))⟩, ⟨by first | exact rowFin | exact rowFin' rfl | exact rowFin' (by simp) | exact Kd.R_nil _ _ _ _ _⟩, ⟨Blk.out⟩, ⟨Blk.out⟩, ⟨Blk.out⟩, ⟨From.out⟩⟩))
   | ((try simp only [Option.some.injEq, Prod.mk.injEq] at h); (try obtain ⟨rfl, rfl, rfl, rfl, rfl, rfl, rfl⟩ := h); refine bodyPost_ret (results_ct rfl _ _ _ _ _ (0, 0) _ rfl Blk.out Tryz.underlying37 rfl (by kernel_rfl)) rfl ?_; exact ⟨_, _, _, _, rfl, (by first | exact rowFin | exact rowFin' rfl | exact rowFin' (by simp) | exact Kd.R_nil _ _ _ _ _ | exact atFin | exact irowFin' (by simp)), (by first | exact Kd.R_nil _ _ _ _ _ | exact djR (ok := fun _ => True) (by first | exact rowFin | exact atFin | exact atFin' (by simp) | exact rowFin' (by simp))), (by first | exact rowFin | exact rowFin' rfl | exact rowFin' (by simp) | exact Kd.R_nil _ _ _ _ _ | exact atFin | exact irowFin' (by simp)), (by first | exact Kd.R_nil _ _ _ _ _ | exact djR (ok := fun _ => True) (by first | exact rowFin | exact atFin | exact atFin' (by simp) | exact rowFin' (by simp))), From.out⟩)
end Go.Proofs.YtanhnhkcpbdfmaaGreat.P
namespace Go.Proofs.YtanhnhkcpbdfmaaGreat.Q
open Go.RowKit Go.Proofs.YtanhnhkcpbdfmaaGreat.P Go.Proofs.YtanhnhkcpbdfmaaGreatW.PrintWords Go.Proofs.YtanhnhkcpbdfmaaGreatW.PrintMore
def openF (l : List S104) : List S104 := if logOk l = true then openUp l l.length else []
theorem open_impl (l : List S104) (hl : l.length ≤ 1048577) : impl_OpenFaults.f l = some (openF l) := by
  unfold impl_OpenFaults.f
  rw [if_pos hl]
  rfl
def nextR (l : List S104) : Int × Int × Bool := match openF l with
  | [] => (0, 0, false)
  | x :: _ => (x.f0.f0, x.f0.f1, true)
theorem next_impl (l : List S104) (hl : l.length ≤ 1048577) : impl_NextRepair.f l = some (nextR l) := by
  unfold impl_NextRepair.f nextR
  rw [open_impl l hl]
  simp only [Option.bind_some]
  cases h : openF l with
  | nil => simp
  | cons x r =>
    rw [if_neg (by first | (simp; done) | (simp; omega)), if_pos (by first | (simp; done) | (simp; omega))]
    simp [rd_T104]
def repNext (l : List S104) (m : Int) : List S104 × Bool := if (nextR l).2.2 = true then addEntry l (nextR l).1 (nextR l).2.1 0 m else (l, false)
theorem repNext_impl (l : List S104) (m : Int) (hl : l.length ≤ 1048576) : Ev (fun k => impl_RepairNext.f k l m) (repNext l m) := by
  unfold impl_RepairNext.f repNext
  refine evb (next_impl l (by omega)) ?_
  by_cases h : (nextR l).2.2 = true
  · exact rpos h <| evp h (Ev.bind (add_impl l _ _ _ _ hl) (Ev.now _))
  · exact rneg h <| evn h (evb (copyLog_eq l (by omega)) (Ev.now _))
theorem repNext_len (l : List S104) (m : Int) : (repNext l m).1.length ≤ l.length + 1 := by
  unfold repNext
  split
  · exact addEntry_len _ _ _ _ _
  · simp
end Go.Proofs.YtanhnhkcpbdfmaaGreat.Q
namespace Go.Proofs.YtanhnhkcpbdfmaaGreat.P
set_option maxRecDepth 100000
set_option synthInstance.maxHeartbeats 400000
set_option synthInstance.maxSize 100000
open Go.RowKit Go.Proofs.YtanhnhkcpbdfmaaGreatW.PrintWords Go.Proofs.YtanhnhkcpbdfmaaGreatW.PrintLast Go.Proofs.YtanhnhkcpbdfmaaGreatW.PrintMore Go.Proofs.YtanhnhkcpbdfmaaGreat.V
attribute [local go_sem] cell_b frozen_b
attribute [local go_sem] max2_int min2_int max_two min_two max_three min_three max_four min_four
def spec_ShopOk.f (k : Nat) (l0_0 : List (S112)) (a0_1 : Int) (l0_2 : List Int) (a0_3 : Int) (a0_4 : Int) (l0_5 : List (S104)) : Option (Bool) := (spec_WorkOk.f k l0_0 a0_1 l0_2).bind fun b => some (b && (Q.logOk l0_5 && (decide (-10 ≤ a0_3 ∧ a0_3 ≤ 40) && (decide (0 ≤ a0_4 ∧ a0_4 ≤ 100000) && decide (Q.lastOk l0_5 a0_4)))))
def spec_ShopOk.T2 : Bool × List (List Nat × List Nat) := (true, [([], []), ([0], [0]), ([1], [1]), ([2, 2], [2]), ([3], [3]), ([4, 3], [3, 4]), ([5, 3, 3], [3, 5]), ([3, 6], [3, 6]), ([7, 6], [7]), ([8], [8]), ([9, 8], [8, 9]), ([10, 8, 8], [8, 10]), ([8, 11], [8, 11]), ([12, 11], [12]), ([13], [13]), ([14, 13], [13, 14]), ([15, 13, 13], [13, 15]), ([13, 16], [13, 16]), ([17, 16], [17]), ([18], [18]), ([19, 18], [18, 19]), ([20, 18, 18], [18, 20]), ([21], [21]), ([22, 21], [21, 22]), ([21], [21]), ([24, 21], [21, 24]), ([23, 25, 21], [21, 23, 25]), ([26, 21], [21, 26]), ([27, 21], [21, 27]), ([21], [21]), ([29, 21], [21, 29]), ([28, 30, 21], [21, 28, 30]), ([21, 31, 18], [18, 21, 31]), ([18, 32], [18, 32]), ([33, 21, 0, 1, 2, 3, 4, 5, 6, 7, 8, 9, 10, 11, 12, 13, 14, 15, 16, 17, 18, 19, 20, 21, 22, 23, 24, 25, 26, 27, 28, 29, 30, 31, 32, 33], [33])])
def spec_ShopOk.B2 : List Nat := [0, 1, 3, 7, 15, 31, 63, 127, 255, 511, 1023, 2047, 4095, 8191, 16383, 32767, 65535, 131071, 262143, 524287, 1048575, 2097151, 4194303, 8388607, 4194303, 20971519, 67108863, 134217727, 268435455, 4194303, 541065215, 2147483647, 4294967295, 8589934591, 17179869183]
theorem spec_ShopOk.tab2 : rtab .any (opsOf Tryz.f37 2) = spec_ShopOk.T2 := by kernel_rfl
theorem spec_ShopOk.bits2 : waitsOk spec_ShopOk.T2.2 spec_ShopOk.B2 = true := by kernel_rfl
def spec_ShopOk.m (n : Nat) : Array Bool := ((List.range 35).map (fun j => decide (j < n))).toArray
attribute [local go_sem] cellR_c
set_option maxHeartbeats 4000000 in
theorem spec_ShopOk.calls (k : Nat) (A0_0 : Option Addr) (c0_0 : Nat) (l0_0 : List (S112)) (a0_1 : Int) (A0_2 : Option Addr) (c0_2 : Nat) (l0_2 : List Int) (a0_3 : Int) (a0_4 : Int) (A0_5 : Option Addr) (c0_5 : Nat) (l0_5 : List (S104)) (r : Bool) (w : World) (hr0_0 : Kd.C k112 w A0_0 l0_0.length l0_0) (hc0_0 : l0_0.length ≤ c0_0) (hr0_2 : Kd.C (Kd.int .i64) w A0_2 l0_2.length l0_2) (hc0_2 : l0_2.length ≤ c0_2) (hr0_5 : Kd.C k104 w A0_5 l0_5.length l0_5) (hc0_5 : l0_5.length ≤ c0_5) (h : spec_ShopOk.f k l0_0 a0_1 l0_2 a0_3 a0_4 l0_5 = some r) :
  Calls Tryz.prog 37 #[.agg #[.slice A0_0 l0_0.length c0_0, .int .i64 a0_1, .slice A0_2 l0_2.length c0_2, .int .i64 a0_3, .int .i64 a0_4, .slice A0_5 l0_5.length c0_5]] w fun e w' => e = .returned (.bool r) ∧ Below w.heap.size w w' := by
 obtain ⟨b1, hb1, h⟩ := Option.bind_eq_some_iff.mp h
 obtain ⟨b2, hb2⟩ : ∃ b, Q.logOk l0_5 = b := ⟨_, rfl⟩
 obtain ⟨b3, hb3⟩ : ∃ b, decide (-10 ≤ a0_3 ∧ a0_3 ≤ 40) = b := ⟨_, rfl⟩
 obtain ⟨b4, hb4⟩ : ∃ b, decide (0 ≤ a0_4 ∧ a0_4 ≤ 100000) = b := ⟨_, rfl⟩
 obtain ⟨b5, hb5⟩ : ∃ b, decide (Q.lastOk l0_5 a0_4) = b := ⟨_, rfl⟩
 have HQ : Aside0 ((b1 && (b2 && (b3 && (b4 && b5)))) = r) := ⟨by rw [← hb2, ← hb3, ← hb4, ← hb5]; exact Option.some.inj h⟩
 have A1 : Aside0 (spec_WorkOk.f k l0_0 a0_1 l0_2 = some b1) := ⟨hb1⟩
 have A2 : Aside0 (spec_LogOk.f k l0_5 = some b2) := ⟨by rw [← hb2]; rfl⟩
 have A3 : Aside0 (spec_l01In.f a0_3 (-10) 40 = some b3) := ⟨by rw [← hb3]; unfold spec_l01In.f; by_cases hh : a0_3 ≥ -10 <;> simp [hh] <;> omega⟩
 have A4 : Aside0 (spec_l01In.f a0_4 0 100000 = some b4) := ⟨by rw [← hb4]; unfold spec_l01In.f; by_cases hh : a0_4 ≥ 0 <;> simp [hh] <;> omega⟩
 have H5 := A_ hb5
 have HR := A_ hr0_5
 have HM := A_ (Kd.C_max hr0_5)
 have i0 := RdE.mk hr0_0
 have i1 := LeI.mk hc0_0
 have i2 := RdE.mk hr0_2
 have i3 := LeI.mk hc0_2
 have i4 := RdE.mk hr0_5
 have i5 := LeI.mk hc0_5
 have hu := Tryz.underlying37
 clear hr0_0 hc0_0 hr0_2 hc0_2 hr0_5 hc0_5 h hb1 hb2 hb3 hb4 hb5
 have hzz : l0_5.length = 0 ∨ ∃ (ad2 : Addr) (j : Nat) (y : S104), A0_5 = some ad2 ∧ ((l0_5.length : Int) == 0) = false ∧ ((l0_5.length : Int) != 0) = true ∧ wrap64 ((l0_5.length : Int) - 1) = (j : Int) ∧ IntKind.i64.wrap ((l0_5.length : Int) - 1) = (j : Int) ∧ (j : Int) < (l0_5.length : Int) ∧ j < l0_5.length ∧ CelR w ⟨(ad2.add (j * 4)).block, (ad2.add (j * 4)).off + 3, none⟩ (.int .i64 y.f2) ∧ decide (y.f2 ≤ a0_4) = b5 := by
  by_cases hz : l0_5.length = 0
  ·exact .inl hz
  right
  obtain ⟨j, hj⟩ : ∃ j, j + 1 = l0_5.length := ⟨l0_5.length - 1, by omega⟩
  have hM := HM.out
  obtain ⟨ad2, e2, _, _, _, hy3⟩ := at_T104 HR.out (j : Int) (by omega) (by omega)
  have hw1 : wrap64 ((l0_5.length : Int) - 1) = (j : Int) := by unfold wrap64; omega
  simp only [Int.toNat_natCast] at hy3
  refine ⟨ad2, j, rd_T104 l0_5 (j : Int), e2, beq_eq_false_iff_ne.mpr (by omega), bne_iff_ne.mpr (by omega), hw1, by rw [i64_w]; exact hw1, by omega, by omega, ⟨hy3⟩, ?_⟩
  rw [← H5.out]
  refine decide_eq_decide.mpr ?_
  unfold Q.lastOk
  rw [show l0_5.length - 1 = j by omega]
  simp [rd_T104, hz]
 have hways : (b1 = false ∧ r = false) ∨ (b1 = true ∧ b2 = false ∧ r = false) ∨ (b1 = true ∧ b2 = true ∧ b3 = false ∧ r = false) ∨ (b1 = true ∧ b2 = true ∧ b3 = true ∧ b4 = false ∧ r = false) ∨ (b1 = true ∧ b2 = true ∧ b3 = true ∧ b4 = true ∧ b5 = r) := by
  have := HQ.out
  cases b1 <;> cases b2 <;> cases b3 <;> cases b4 <;> simp_all
 replace hzz := hzz.imp (fun hz => (⟨by rw [← H5.out]; exact (decide_eq_true (.inl hz)).symm, beq_iff_eq.mpr (by omega), bne_eq_false_iff_eq.mpr (by omega)⟩ : true = b5 ∧ ((l0_5.length : Int) == 0) = true ∧ ((l0_5.length : Int) != 0) = false)) id
 clear HQ H5 HR HM
 rcases hways with ⟨rfl, rfl⟩ | ⟨rfl, rfl, rfl⟩ | ⟨rfl, rfl, rfl, rfl⟩ | ⟨rfl, rfl, rfl, rfl, rfl⟩ | ⟨rfl, rfl, rfl, rfl, rfl⟩
 rotate_right
 rcases hzz with ⟨rfl, z1, z2⟩ | ⟨ad2, j, y, rfl, z1, z2, z3, z4, z5, z6, z7, z8⟩
 all_goals try clear hzz
 all_goals go_enter Tryz.func37, Tryz.ntmps37
 all_goals go_wp2_with (first | ((with_reducible refine gate_dst (N := 1) rfl ?_); (try (refine gate_guard (by rfl) ?_; dsimp only)); (first | refine box_event rfl (N := 1) rfl (cs := #[.slice A0_0 l0_0.length c0_0, .int .i64 a0_1, .slice A0_2 l0_2.length c0_2, .int .i64 a0_3, .int .i64 a0_4, .slice A0_5 l0_5.length c0_5]) (t := 37) (by first | (go_simp; done) | (go_simp; rfl)) ?_ | refine box_event rfl (N := 1) rfl (cs := #[.slice A0_0 l0_0.length c0_0, .int .i64 a0_1, .slice A0_2 l0_2.length c0_2, .int .i64 a0_3, .int .i64 a0_4, .slice (some ad2) l0_5.length c0_5]) (t := 37) (by first | (go_simp; done) | (go_simp; rfl)) ?_); intro g hg w1 hk hb; have j1 := Born.mk hg; have j2 := Bel.mk hb; have j3 := Blk.mk hk; clear hg hb hk))
 all_goals (refine start_ (n := 35) (S := fun w' => Below w1.heap.size w1 w') (ds := []) (spec_ShopOk.m 0) (by kernel_rfl) rfl (by kernel_rfl) From.out (fun hHeld => ?_); refine with_tabW spec_ShopOk.tab2 spec_ShopOk.bits2 (fun HT_ HW_ => ?_))
 all_goals first | (refine pA 0 (some 7) HT_.out ?_ (l' := (spec_ShopOk.m 1)) (hl := by rfl)) | (refine pU 0 (some 7) HT_.out ?_ (l' := (spec_ShopOk.m 1)) (hl := by rfl))
 all_goals first | (refine pT 1 (some 8) HT_.out HW_.out hHeld ?_ (l' := (spec_ShopOk.m 2)) (hl := by rfl) (hy := by intro w' hS; have jS : Sin w1 w' := ⟨hS⟩; go_simp; with_reducible rfl)) | (refine pU 1 (some 8) HT_.out ?_ (l' := (spec_ShopOk.m 2)) (hl := by rfl))
 all_goals first | (refine one_ (i := 2) (N := some 9) (spec_ShopOk.m 3) rfl rfl (one_of HT_.out (by kernel_rfl)) (by decide) (fun K hK => ?_); refine goes_ Tryz.func86 (by kernel_rfl) rfl #[.agg #[.slice A0_0 l0_0.length c0_0, .int .i64 a0_1, .slice A0_2 l0_2.length c0_2]] (by rfl) rfl rfl (by (try simp only [List.map_toArray, List.map_cons, List.map_nil]); first | done | rfl) ?_; refine (spec_WorkOk.calls k _ _ _ _ _ _ _ _ _ Rd.out LeI.out Rd.out LeI.out A1.out).mono ?_; rintro e w2 ⟨rfl, hb⟩; have jb := Bel.mk hb; clear hb; refine ⟨_, rfl, ?_⟩; refine hK.out _ _ From.out (fun hHeld => ?_); clear hK K; refine norm_ (a' := ?_) ?_ ?_; rotate_left; (focus (show Act.put _ (some 9) _ = _; simp only [Act.put, List.setIfInBounds_toArray, List.set_cons_zero, List.set_cons_succ, i64_w, i32_w]; rfl))) | (refine pU 2 (some 9) HT_.out ?_ (l' := (spec_ShopOk.m 3)) (hl := by rfl))
 all_goals first | (refine pA 3 (some 10) HT_.out ?_ (l' := (spec_ShopOk.m 4)) (hl := by rfl)) | (refine pU 3 (some 10) HT_.out ?_ (l' := (spec_ShopOk.m 4)) (hl := by rfl))
 all_goals first | (refine pA 4 (some 11) HT_.out ?_ (l' := (spec_ShopOk.m 5)) (hl := by rfl)) | (refine pU 4 (some 11) HT_.out ?_ (l' := (spec_ShopOk.m 5)) (hl := by rfl))
 all_goals first | (refine pT 5 (some 12) HT_.out HW_.out hHeld ?_ (l' := (spec_ShopOk.m 6)) (hl := by rfl) (hy := by intro w' hS; have jS : Sin w1 w' := ⟨hS⟩; go_simp; with_reducible rfl)) | (refine pU 5 (some 12) HT_.out ?_ (l' := (spec_ShopOk.m 6)) (hl := by rfl))
 all_goals first | (refine one_ (i := 6) (N := some 13) (spec_ShopOk.m 7) rfl rfl (one_of HT_.out (by kernel_rfl)) (by decide) (fun K hK => ?_); refine goes_ Tryz.func87 (by kernel_rfl) rfl #[.slice _ l0_5.length c0_5] (by rfl) rfl rfl (by (try simp only [List.map_toArray, List.map_cons, List.map_nil]); first | done | rfl) ?_; refine (spec_LogOk.calls k _ _ _ _ _ Rd.out LeI.out A2.out).mono ?_; rintro e w2 ⟨rfl, hb⟩; have jb := Bel.mk hb; clear hb; refine ⟨_, rfl, ?_⟩; refine hK.out _ _ From.out (fun hHeld => ?_); clear hK K; refine norm_ (a' := ?_) ?_ ?_; rotate_left; (focus (show Act.put _ (some 13) _ = _; simp only [Act.put, List.setIfInBounds_toArray, List.set_cons_zero, List.set_cons_succ, i64_w, i32_w]; rfl))) | (refine pU 6 (some 13) HT_.out ?_ (l' := (spec_ShopOk.m 7)) (hl := by rfl))
 all_goals first | (refine pA 7 (some 14) HT_.out ?_ (l' := (spec_ShopOk.m 8)) (hl := by rfl)) | (refine pU 7 (some 14) HT_.out ?_ (l' := (spec_ShopOk.m 8)) (hl := by rfl))
 all_goals first | (refine pA 8 (some 15) HT_.out ?_ (l' := (spec_ShopOk.m 9)) (hl := by rfl)) | (refine pU 8 (some 15) HT_.out ?_ (l' := (spec_ShopOk.m 9)) (hl := by rfl))
 all_goals first | (refine pA 9 (some 16) HT_.out ?_ (l' := (spec_ShopOk.m 10)) (hl := by rfl)) | (refine pU 9 (some 16) HT_.out ?_ (l' := (spec_ShopOk.m 10)) (hl := by rfl))
 all_goals first | (refine pT 10 (some 17) HT_.out HW_.out hHeld ?_ (l' := (spec_ShopOk.m 11)) (hl := by rfl) (hy := by intro w' hS; have jS : Sin w1 w' := ⟨hS⟩; go_simp; with_reducible rfl)) | (refine pU 10 (some 17) HT_.out ?_ (l' := (spec_ShopOk.m 11)) (hl := by rfl))
 all_goals first | (refine one_ (i := 11) (N := some 18) (spec_ShopOk.m 12) rfl rfl (one_of HT_.out (by kernel_rfl)) (by decide) (fun K hK => ?_); refine goes_ Tryz.func88 (by kernel_rfl) rfl #[.int .i64 a0_3, .int .i64 (-10), .int .i64 40] (by rfl) rfl rfl (by (try simp only [List.map_toArray, List.map_cons, List.map_nil]); first | done | rfl) ?_; refine (spec_l01In.calls _ _ _ _ _ A3.out).mono ?_; rintro e w2 ⟨rfl, n, rfl⟩; refine ⟨_, rfl, ?_⟩; refine hK.out _ _ From.out (fun hHeld => ?_); clear hK K; refine norm_ (a' := ?_) ?_ ?_; rotate_left; (focus (show Act.put _ (some 18) _ = _; simp only [Act.put, List.setIfInBounds_toArray, List.set_cons_zero, List.set_cons_succ, i64_w, i32_w]; rfl))) | (refine pU 11 (some 18) HT_.out ?_ (l' := (spec_ShopOk.m 12)) (hl := by rfl))
 all_goals first | (refine pA 12 (some 19) HT_.out ?_ (l' := (spec_ShopOk.m 13)) (hl := by rfl)) | (refine pU 12 (some 19) HT_.out ?_ (l' := (spec_ShopOk.m 13)) (hl := by rfl))
 all_goals first | (refine pA 13 (some 20) HT_.out ?_ (l' := (spec_ShopOk.m 14)) (hl := by rfl)) | (refine pU 13 (some 20) HT_.out ?_ (l' := (spec_ShopOk.m 14)) (hl := by rfl))
 all_goals first | (refine pA 14 (some 21) HT_.out ?_ (l' := (spec_ShopOk.m 15)) (hl := by rfl)) | (refine pU 14 (some 21) HT_.out ?_ (l' := (spec_ShopOk.m 15)) (hl := by rfl))
 all_goals first | (refine pT 15 (some 22) HT_.out HW_.out hHeld ?_ (l' := (spec_ShopOk.m 16)) (hl := by rfl) (hy := by intro w' hS; have jS : Sin w1 w' := ⟨hS⟩; go_simp; with_reducible rfl)) | (refine pU 15 (some 22) HT_.out ?_ (l' := (spec_ShopOk.m 16)) (hl := by rfl))
 all_goals first | (refine one_ (i := 16) (N := some 23) (spec_ShopOk.m 17) rfl rfl (one_of HT_.out (by kernel_rfl)) (by decide) (fun K hK => ?_); refine goes_ Tryz.func88 (by kernel_rfl) rfl #[.int .i64 a0_4, .int .i64 0, .int .i64 100000] (by rfl) rfl rfl (by (try simp only [List.map_toArray, List.map_cons, List.map_nil]); first | done | rfl) ?_; refine (spec_l01In.calls _ _ _ _ _ A4.out).mono ?_; rintro e w2 ⟨rfl, n, rfl⟩; refine ⟨_, rfl, ?_⟩; refine hK.out _ _ From.out (fun hHeld => ?_); clear hK K; refine norm_ (a' := ?_) ?_ ?_; rotate_left; (focus (show Act.put _ (some 23) _ = _; simp only [Act.put, List.setIfInBounds_toArray, List.set_cons_zero, List.set_cons_succ, i64_w, i32_w]; rfl))) | (refine pU 16 (some 23) HT_.out ?_ (l' := (spec_ShopOk.m 17)) (hl := by rfl))
 all_goals first | (refine pA 17 (some 24) HT_.out ?_ (l' := (spec_ShopOk.m 18)) (hl := by rfl)) | (refine pU 17 (some 24) HT_.out ?_ (l' := (spec_ShopOk.m 18)) (hl := by rfl))
 all_goals first | (refine pA 18 (some 25) HT_.out ?_ (l' := (spec_ShopOk.m 19)) (hl := by rfl)) | (refine pU 18 (some 25) HT_.out ?_ (l' := (spec_ShopOk.m 19)) (hl := by rfl))
 all_goals first | (refine pA 19 (some 26) HT_.out ?_ (l' := (spec_ShopOk.m 20)) (hl := by rfl)) | (refine pU 19 (some 26) HT_.out ?_ (l' := (spec_ShopOk.m 20)) (hl := by rfl))
 all_goals first | (refine pA 20 (some 27) HT_.out ?_ (l' := (spec_ShopOk.m 21)) (hl := by rfl)) | (refine pU 20 (some 27) HT_.out ?_ (l' := (spec_ShopOk.m 21)) (hl := by rfl))
 all_goals first | (refine pA 21 (some 28) HT_.out ?_ (l' := (spec_ShopOk.m 22)) (hl := by rfl)) | (refine pU 21 (some 28) HT_.out ?_ (l' := (spec_ShopOk.m 22)) (hl := by rfl))
 all_goals first | (refine pA 22 (some 29) HT_.out ?_ (l' := (spec_ShopOk.m 23)) (hl := by rfl)) | (refine pU 22 (some 29) HT_.out ?_ (l' := (spec_ShopOk.m 23)) (hl := by rfl))
 all_goals first | (refine pT 23 (some 30) HT_.out HW_.out hHeld ?_ (l' := (spec_ShopOk.m 24)) (hl := by rfl) (hy := by intro w' hS; have jS : Sin w1 w' := ⟨hS⟩; go_simp; with_reducible rfl)) | (refine pU 23 (some 30) HT_.out ?_ (l' := (spec_ShopOk.m 24)) (hl := by rfl))
 all_goals first | (refine pA 24 (some 31) HT_.out ?_ (l' := (spec_ShopOk.m 25)) (hl := by rfl)) | (refine pU 24 (some 31) HT_.out ?_ (l' := (spec_ShopOk.m 25)) (hl := by rfl))
 all_goals first | (refine pA 25 (some 32) HT_.out ?_ (l' := (spec_ShopOk.m 26)) (hl := by rfl)) | (refine pU 25 (some 32) HT_.out ?_ (l' := (spec_ShopOk.m 26)) (hl := by rfl))
 all_goals first | (refine pA 26 (some 33) HT_.out ?_ (l' := (spec_ShopOk.m 27)) (hl := by rfl)) | (refine pU 26 (some 33) HT_.out ?_ (l' := (spec_ShopOk.m 27)) (hl := by rfl))
 all_goals first | (refine pA 27 (some 34) HT_.out ?_ (l' := (spec_ShopOk.m 28)) (hl := by rfl)) | (refine pU 27 (some 34) HT_.out ?_ (l' := (spec_ShopOk.m 28)) (hl := by rfl))
 all_goals first | (refine pT 28 (some 35) HT_.out HW_.out hHeld ?_ (l' := (spec_ShopOk.m 29)) (hl := by rfl) (hy := by intro w' hS; have jS : Sin w1 w' := ⟨hS⟩; go_simp; with_reducible rfl)) | (refine pU 28 (some 35) HT_.out ?_ (l' := (spec_ShopOk.m 29)) (hl := by rfl))
 all_goals first | (refine pA 29 (some 36) HT_.out ?_ (l' := (spec_ShopOk.m 30)) (hl := by rfl)) | (refine pU 29 (some 36) HT_.out ?_ (l' := (spec_ShopOk.m 30)) (hl := by rfl))
 all_goals first | (refine pT 30 (some 37) HT_.out HW_.out hHeld ?_ (l' := (spec_ShopOk.m 31)) (hl := by rfl) (hy := by intro w' hS; have jS : Sin w1 w' := ⟨hS⟩; go_simp; with_reducible rfl)) | (refine pU 30 (some 37) HT_.out ?_ (l' := (spec_ShopOk.m 31)) (hl := by rfl))
 all_goals first | (refine pA 31 (some 38) HT_.out ?_ (l' := (spec_ShopOk.m 32)) (hl := by rfl)) | (refine pU 31 (some 38) HT_.out ?_ (l' := (spec_ShopOk.m 32)) (hl := by rfl))
 all_goals first | (refine pA 32 (some 39) HT_.out ?_ (l' := (spec_ShopOk.m 33)) (hl := by rfl)) | (refine pU 32 (some 39) HT_.out ?_ (l' := (spec_ShopOk.m 33)) (hl := by rfl))
 all_goals first | (refine pA 33 (some 40) HT_.out ?_ (l' := (spec_ShopOk.m 34)) (hl := by rfl)) | (refine pU 33 (some 40) HT_.out ?_ (l' := (spec_ShopOk.m 34)) (hl := by rfl))
 all_goals first | (refine pA 34 (some 2) HT_.out ?_ (l' := (spec_ShopOk.m 35)) (hl := by rfl)) | (refine pU 34 (some 2) HT_.out ?_ (l' := (spec_ShopOk.m 35)) (hl := by rfl))
 all_goals refine done_ (done_of HT_.out (by kernel_rfl)) ?_
 all_goals try go_wp2
 all_goals go_ret
 all_goals exact ⟨by first | rfl | (simp [*]; done), From.out⟩
end Go.Proofs.YtanhnhkcpbdfmaaGreat.P
namespace Go.Proofs.YtanhnhkcpbdfmaaGreat.P
set_option maxHeartbeats 8000000
set_option maxRecDepth 100000
set_option synthInstance.maxHeartbeats 400000
set_option synthInstance.maxSize 100000
open Go.RowKit Go.Proofs.YtanhnhkcpbdfmaaGreatW.PrintWords Go.Proofs.YtanhnhkcpbdfmaaGreatW.PrintLast Go.Proofs.YtanhnhkcpbdfmaaGreatW.PrintMore Go.Proofs.YtanhnhkcpbdfmaaGreat.V
attribute [local go_sem] cell_b frozen_b
attribute [local go_sem] max2_int min2_int max_two min_two max_three min_three max_four min_four
def spec_ShopTune.f (k : Nat) (l0_0 : List (S112)) (a0_1 : Int) (l0_2 : List Int) (a0_3 : Int) (a0_4 : Int) (l0_5 : List (S104)) : Option ((List (S112)) × Int × List Int × Int × Int × (List (S104)) × Bool) := (spec_l38Copy.f l0_0 a0_1 l0_2 a0_3 a0_4 l0_5).bind fun bt227 => ((spec_ShopOk.f k l0_0 a0_1 l0_2 a0_3 a0_4 l0_5).bind fun t240 => (if t240 = true then ((spec_WrongSteps.f k l0_0 a0_1 l0_2).bind fun t241 => (if (t241.length : Int) > 0 then ((spec_MendStep.f k l0_0 a0_1 l0_2).bind fun bt244 => (some (bt244.1, bt244.2.1, bt244.2.2.1, bt227.2.2.2.1, bt227.2.2.2.2.1, bt227.2.2.2.2.2, bt244.2.2.2))) else ((spec_WorkStep.f k l0_0 a0_1 l0_2).bind fun bt252 => (some (bt252.1, bt252.2.1, bt252.2.2.1, bt227.2.2.2.1, bt227.2.2.2.2.1, bt227.2.2.2.2.2, bt252.2.2.2))))) else (some (bt227.1, bt227.2.1, bt227.2.2.1, bt227.2.2.2.1, bt227.2.2.2.2.1, bt227.2.2.2.2.2, false))))
theorem spec_ShopTune.calls (k : Nat) (A0_0 : Option Addr) (c0_0 : Nat) (l0_0 : List (S112)) (a0_1 : Int) (A0_2 : Option Addr) (c0_2 : Nat) (l0_2 : List Int) (a0_3 : Int) (a0_4 : Int) (A0_5 : Option Addr) (c0_5 : Nat) (l0_5 : List (S104)) (r1 : List (S112)) (r2 : Int) (r3 : List Int) (r4 : Int) (r5 : Int) (r6 : List (S104)) (r7 : Bool) (w : World) (hr0_0 : Kd.C k112 w A0_0 l0_0.length l0_0) (hc0_0 : l0_0.length ≤ c0_0) (hr0_2 : Kd.C (Kd.int .i64) w A0_2 l0_2.length l0_2) (hc0_2 : l0_2.length ≤ c0_2) (hr0_5 : Kd.C k104 w A0_5 l0_5.length l0_5) (hc0_5 : l0_5.length ≤ c0_5) (h : spec_ShopTune.f k l0_0 a0_1 l0_2 a0_3 a0_4 l0_5 = some (r1, r2, r3, r4, r5, r6, r7)) :
  Calls Tryz.prog 47 #[.agg #[.slice A0_0 l0_0.length c0_0, .int .i64 a0_1, .slice A0_2 l0_2.length c0_2, .int .i64 a0_3, .int .i64 a0_4, .slice A0_5 l0_5.length c0_5]] w fun e w' => ∃ v0_ v2_ v5_ : Value, e = .returned (.tuple #[.agg #[v0_, .int .i64 r2, v2_, .int .i64 r4, .int .i64 r5, v5_], .bool r7]) ∧ Kd.R k112 112 w' w.heap.size (fun _ => True) v0_ r1 ∧ Kd.R (Kd.int .i64) 3 w' w.heap.size (fun _ => True) v2_ r3 ∧ Kd.R k104 104 w' w.heap.size (fun _ => True) v5_ r6 ∧ Below w.heap.size w w' := by
 replace hr0_0 := RdE.mk hr0_0
 replace hc0_0 := LeI.mk hc0_0
 replace hr0_2 := RdE.mk hr0_2
 replace hc0_2 := LeI.mk hc0_2
 replace hr0_5 := RdE.mk hr0_5
 replace hc0_5 := LeI.mk hc0_5
 unfold spec_ShopTune.f at h
 have hu37 := Tryz.underlying37
 (repeat' first | ((with_reducible replace h := ite_some h); rcases h with ⟨hc, h⟩ | ⟨hc, h⟩ <;> first | exact (none_some h).elim | exact absurd hc (by decide) | subst hc | (replace hc := hF_ hc; subst hc) | (have hd := hI_ hc; have he := hJ_ hc; clear hc) | (have hd := hK_ hc; have he := hL_ hc) | (have hd := decide_eq_false hc) | (have hd := decide_eq_true hc) | skip))
 all_goals go_enter Tryz.func47, Tryz.ntmps47
 all_goals go_wp2_with ((first
  | ((with_reducible refine gate_dst (N := 1) rfl ?_); refine bV #[.slice A0_0 l0_0.length c0_0, .int .i64 a0_1, .slice A0_2 l0_2.length c0_2, .int .i64 a0_3, .int .i64 a0_4, .slice A0_5 l0_5.length c0_5] 37 fun g w1 j1 j2 j3 => ?_)
  | ((with_reducible refine gate_dst (N := 2) rfl ?_); refine bV #[.slice none 0 0, .int .i64 0, .slice none 0 0, .int .i64 0, .int .i64 0, .slice none 0 0] 37 fun g w1 j1 j2 j3 => ?_)
  | ((with_reducible refine gate_dst (N := 4) rfl ?_); refine bV #[.slice none 0 0, .int .i64 0, .slice none 0 0, .int .i64 0, .int .i64 0, .slice none 0 0] 37 fun g w1 j1 j2 j3 => ?_)
  | (go_at_call 45; replace h := bI h; obtain ⟨⟨t1, t2, t3, t4, t5, t6⟩, A, h⟩ := h; (try dsimp only at h); refine (spec_l38Copy.calls _ _ _ _ _ _ _ _ _ _ _ _ _ _ _ _ _ _ _ Rd.out LeI.out Rd.out LeI.out Rd.out LeI.out A).mono ?_; rintro e w2 ⟨v0, v1, v2, rfl, ho0, ho1, ho2, hb⟩; obtain ⟨B0, b0, rfl, j0, q0⟩ := rowS ho0; obtain ⟨B1, b1, rfl, j1, q1⟩ := rowS ho1; obtain ⟨B2, b2, rfl, j2, q2⟩ := rowS ho2; have jb := Bel.mk hb; clear A ho0 ho1 ho2 hb)
  | (go_at_call 37; replace h := bI h; obtain ⟨t, A, h⟩ := h; (try dsimp only at h); refine (spec_ShopOk.calls _ _ _ _ _ _ _ _ _ _ _ _ _ _ _ Rd.out LeI.out Rd.out LeI.out Rd.out LeI.out A).mono ?_; rintro e w2 ⟨rfl, hb⟩; have jb := Bel.mk hb; clear A hb)
  | (go_at_call 83; replace h := bI h; obtain ⟨t, A, h⟩ := h; (try dsimp only at h); refine (spec_WrongSteps.calls _ _ _ _ _ _ _ _ _ _ Rd.out LeI.out Rd.out LeI.out A).mono ?_; rintro e w2 ⟨v0, rfl, ho0, hb⟩; obtain ⟨B0, b0, rfl, j0, q0⟩ := rowS ho0; have jb := Bel.mk hb; clear A ho0 hb)
  | (go_at_call 97; replace h := bI h; obtain ⟨⟨t1, t2, t3, t4⟩, A, h⟩ := h; (try dsimp only at h); refine (spec_MendStep.calls _ _ _ _ _ _ _ _ _ _ _ _ _ Rd.out LeI.out Rd.out LeI.out A).mono ?_; rintro e w2 ⟨v0, v1, rfl, ho0, ho1, hb⟩; obtain ⟨B0, b0, rfl, j0, q0⟩ := rowS ho0; obtain ⟨B1, b1, rfl, j1, q1⟩ := rowS ho1; have jb := Bel.mk hb; clear A ho0 ho1 hb)
  | (go_at_call 98; replace h := bI h; obtain ⟨⟨t1, t2, t3, t4⟩, A, h⟩ := h; (try dsimp only at h); refine (spec_WorkStep.calls _ _ _ _ _ _ _ _ _ _ _ _ _ Rd.out LeI.out Rd.out LeI.out A).mono ?_; rintro e w2 ⟨v0, v1, rfl, ho0, ho1, hb⟩; obtain ⟨B0, b0, rfl, j0, q0⟩ := rowS ho0; obtain ⟨B1, b1, rfl, j1, q1⟩ := rowS ho1; have jb := Bel.mk hb; clear A ho0 ho1 hb)); (repeat' first | ((with_reducible replace h := ite_some h); rcases h with ⟨hc, h⟩ | ⟨hc, h⟩ <;> first | exact (none_some h).elim | exact absurd hc (by decide) | subst hc | (replace hc := hF_ hc; subst hc) | (have hd := hI_ hc; have he := hJ_ hc; clear hc) | (have hd := hK_ hc; have he := hL_ hc) | (have hd := decide_eq_false hc) | (have hd := decide_eq_true hc) | skip)); all_goals (try have hn : decide (0 < t.length) = true := decide_eq_true (by omega)); all_goals (try have hn : decide (0 < t.length) = false := decide_eq_false (by omega)))
 all_goals simp only [Option.some.injEq, Prod.mk.injEq] at h
 all_goals obtain ⟨rfl, rfl, rfl, rfl, rfl, rfl, rfl⟩ := h
 all_goals refine bodyPost_ret (results_ct rfl _ _ _ _ _ (0, 0) _ rfl Blk.out Tryz.underlying37 rfl (by kernel_rfl)) rfl ?_
 all_goals exact ⟨_, _, _, rfl, (by first | exact rowFin | exact Kd.R_nil _ _ _ _ _), (by first | exact rowFin | exact Kd.R_nil _ _ _ _ _), (by first | exact rowFin | exact Kd.R_nil _ _ _ _ _), From.out⟩
def spec_ShopWarm.f (k : Nat) (l0_0 : List (S112)) (a0_1 : Int) (l0_2 : List Int) (a0_3 : Int) (a0_4 : Int) (l0_5 : List (S104)) (a1 : Int) : Option ((List (S112)) × Int × List Int × Int × Int × (List (S104)) × Bool) := (spec_l38Copy.f l0_0 a0_1 l0_2 a0_3 a0_4 l0_5).bind fun bt262 => ((spec_ShopOk.f k l0_0 a0_1 l0_2 a0_3 a0_4 l0_5).bind fun t275 => (if t275 = true then (if a0_4 = 100000 then ((spec_l38Copy.f l0_0 a0_1 l0_2 a0_3 a0_4 l0_5).bind fun bt276 => (some (bt276.1, bt276.2.1, bt276.2.2.1, bt276.2.2.2.1, bt276.2.2.2.2.1, bt276.2.2.2.2.2, false))) else ((spec_ShopOk.f k bt262.1 bt262.2.1 bt262.2.2.1 a1 bt262.2.2.2.2.1 bt262.2.2.2.2.2).bind fun t288 => (if t288 = true then (some (bt262.1, bt262.2.1, bt262.2.2.1, a1, wrap64 (a0_4 + 1), bt262.2.2.2.2.2, true)) else ((spec_l38Copy.f l0_0 a0_1 l0_2 a0_3 a0_4 l0_5).bind fun bt289 => (some (bt289.1, bt289.2.1, bt289.2.2.1, bt289.2.2.2.1, bt289.2.2.2.2.1, bt289.2.2.2.2.2, false)))))) else ((spec_l38Copy.f l0_0 a0_1 l0_2 a0_3 a0_4 l0_5).bind fun bt301 => (some (bt301.1, bt301.2.1, bt301.2.2.1, bt301.2.2.2.1, bt301.2.2.2.2.1, bt301.2.2.2.2.2, false)))))
theorem spec_ShopWarm.calls (k : Nat) (A0_0 : Option Addr) (c0_0 : Nat) (l0_0 : List (S112)) (a0_1 : Int) (A0_2 : Option Addr) (c0_2 : Nat) (l0_2 : List Int) (a0_3 : Int) (a0_4 : Int) (A0_5 : Option Addr) (c0_5 : Nat) (l0_5 : List (S104)) (a1 : Int) (r1 : List (S112)) (r2 : Int) (r3 : List Int) (r4 : Int) (r5 : Int) (r6 : List (S104)) (r7 : Bool) (w : World) (hr0_0 : Kd.C k112 w A0_0 l0_0.length l0_0) (hc0_0 : l0_0.length ≤ c0_0) (hr0_2 : Kd.C (Kd.int .i64) w A0_2 l0_2.length l0_2) (hc0_2 : l0_2.length ≤ c0_2) (hr0_5 : Kd.C k104 w A0_5 l0_5.length l0_5) (hc0_5 : l0_5.length ≤ c0_5) (h : spec_ShopWarm.f k l0_0 a0_1 l0_2 a0_3 a0_4 l0_5 a1 = some (r1, r2, r3, r4, r5, r6, r7)) :
  Calls Tryz.prog 48 #[.agg #[.slice A0_0 l0_0.length c0_0, .int .i64 a0_1, .slice A0_2 l0_2.length c0_2, .int .i64 a0_3, .int .i64 a0_4, .slice A0_5 l0_5.length c0_5], .int .i64 a1] w fun e w' => ∃ v0_ v2_ v5_ : Value, e = .returned (.tuple #[.agg #[v0_, .int .i64 r2, v2_, .int .i64 r4, .int .i64 r5, v5_], .bool r7]) ∧ Kd.R k112 112 w' w.heap.size (fun _ => True) v0_ r1 ∧ Kd.R (Kd.int .i64) 3 w' w.heap.size (fun _ => True) v2_ r3 ∧ Kd.R k104 104 w' w.heap.size (fun _ => True) v5_ r6 ∧ Below w.heap.size w w' := by
 replace hr0_0 := RdE.mk hr0_0
 replace hc0_0 := LeI.mk hc0_0
 replace hr0_2 := RdE.mk hr0_2
 replace hc0_2 := LeI.mk hc0_2
 replace hr0_5 := RdE.mk hr0_5
 replace hc0_5 := LeI.mk hc0_5
 unfold spec_ShopWarm.f at h
 have hu37 := Tryz.underlying37
 (repeat' first | ((with_reducible replace h := ite_some h); rcases h with ⟨hc, h⟩ | ⟨hc, h⟩ <;> first | exact (none_some h).elim | exact absurd hc (by decide) | subst hc | (replace hc := hF_ hc; subst hc) | (have hd := hI_ hc; have he := hJ_ hc; clear hc) | (have hd := hK_ hc; have he := hL_ hc) | (have hd := decide_eq_false hc) | (have hd := decide_eq_true hc) | skip))
 all_goals go_enter Tryz.func48, Tryz.ntmps48
 all_goals go_wp2_with ((first
  | ((with_reducible refine gate_dst (N := 2) rfl ?_); refine bV #[.slice A0_0 l0_0.length c0_0, .int .i64 a0_1, .slice A0_2 l0_2.length c0_2, .int .i64 a0_3, .int .i64 a0_4, .slice A0_5 l0_5.length c0_5] 37 fun g w1 j1 j2 j3 => ?_)
  | ((with_reducible refine gate_dst (N := 4) rfl ?_); refine bV #[.slice none 0 0, .int .i64 0, .slice none 0 0, .int .i64 0, .int .i64 0, .slice none 0 0] 37 fun g w1 j1 j2 j3 => ?_)
  | ((with_reducible refine gate_dst (N := 6) rfl ?_); refine bV #[.slice none 0 0, .int .i64 0, .slice none 0 0, .int .i64 0, .int .i64 0, .slice none 0 0] 37 fun g w1 j1 j2 j3 => ?_)
  | (go_at_call 45; replace h := bI h; obtain ⟨⟨t1, t2, t3, t4, t5, t6⟩, A, h⟩ := h; (try dsimp only at h); refine (spec_l38Copy.calls _ _ _ _ _ _ _ _ _ _ _ _ _ _ _ _ _ _ _ Rd.out LeI.out Rd.out LeI.out Rd.out LeI.out A).mono ?_; rintro e w2 ⟨v0, v1, v2, rfl, ho0, ho1, ho2, hb⟩; obtain ⟨B0, b0, rfl, j0, q0⟩ := rowS ho0; obtain ⟨B1, b1, rfl, j1, q1⟩ := rowS ho1; obtain ⟨B2, b2, rfl, j2, q2⟩ := rowS ho2; have jb := Bel.mk hb; clear A ho0 ho1 ho2 hb)
  | (go_at_call 37; replace h := bI h; obtain ⟨t, A, h⟩ := h; (try dsimp only at h); refine (spec_ShopOk.calls _ _ _ _ _ _ _ _ _ _ _ _ _ _ _ Rd.out LeI.out Rd.out LeI.out Rd.out LeI.out A).mono ?_; rintro e w2 ⟨rfl, hb⟩; have jb := Bel.mk hb; clear A hb)); (repeat' first | ((with_reducible replace h := ite_some h); rcases h with ⟨hc, h⟩ | ⟨hc, h⟩ <;> first | exact (none_some h).elim | exact absurd hc (by decide) | subst hc | (replace hc := hF_ hc; subst hc) | (have hd := hI_ hc; have he := hJ_ hc; clear hc) | (have hd := hK_ hc; have he := hL_ hc) | (have hd := decide_eq_false hc) | (have hd := decide_eq_true hc) | skip)))
 all_goals simp only [Option.some.injEq, Prod.mk.injEq] at h
 all_goals obtain ⟨rfl, rfl, rfl, rfl, rfl, rfl, rfl⟩ := h
 all_goals refine bodyPost_ret (results_ct rfl _ _ _ _ _ (0, 0) _ rfl Blk.out Tryz.underlying37 rfl (by kernel_rfl)) rfl ?_
 all_goals exact ⟨_, _, _, rfl, (by first | exact rowFin | exact Kd.R_nil _ _ _ _ _), (by first | exact rowFin | exact Kd.R_nil _ _ _ _ _), (by first | exact rowFin | exact Kd.R_nil _ _ _ _ _), From.out⟩
def spec_ShopFault.f (k : Nat) (l0_0 : List (S112)) (a0_1 : Int) (l0_2 : List Int) (a0_3 : Int) (a0_4 : Int) (l0_5 : List (S104)) (a1_0 : Int) (a1_1 : Int) (a2 : Int) : Option ((List (S112)) × Int × List Int × Int × Int × (List (S104)) × Bool) := (spec_l38Copy.f l0_0 a0_1 l0_2 a0_3 a0_4 l0_5).bind fun bt334 => ((spec_AddEntry.f k l0_5 a1_0 a1_1 a2 a0_4).bind fun bt347 => ((spec_ShopOk.f k l0_0 a0_1 l0_2 a0_3 a0_4 l0_5).bind fun t351 => (if t351 = true then (if bt347.2 = true then (some (bt334.1, bt334.2.1, bt334.2.2.1, bt334.2.2.2.1, bt334.2.2.2.2.1, bt347.1, true)) else (some (bt334.1, bt334.2.1, bt334.2.2.1, bt334.2.2.2.1, bt334.2.2.2.2.1, bt334.2.2.2.2.2, false))) else (some (bt334.1, bt334.2.1, bt334.2.2.1, bt334.2.2.2.1, bt334.2.2.2.2.1, bt334.2.2.2.2.2, false)))))
theorem spec_ShopFault.calls (k : Nat) (A0_0 : Option Addr) (c0_0 : Nat) (l0_0 : List (S112)) (a0_1 : Int) (A0_2 : Option Addr) (c0_2 : Nat) (l0_2 : List Int) (a0_3 : Int) (a0_4 : Int) (A0_5 : Option Addr) (c0_5 : Nat) (l0_5 : List (S104)) (a1_0 : Int) (a1_1 : Int) (a2 : Int) (r1 : List (S112)) (r2 : Int) (r3 : List Int) (r4 : Int) (r5 : Int) (r6 : List (S104)) (r7 : Bool) (w : World) (hr0_0 : Kd.C k112 w A0_0 l0_0.length l0_0) (hc0_0 : l0_0.length ≤ c0_0) (hr0_2 : Kd.C (Kd.int .i64) w A0_2 l0_2.length l0_2) (hc0_2 : l0_2.length ≤ c0_2) (hr0_5 : Kd.C k104 w A0_5 l0_5.length l0_5) (hc0_5 : l0_5.length ≤ c0_5) (h : spec_ShopFault.f k l0_0 a0_1 l0_2 a0_3 a0_4 l0_5 a1_0 a1_1 a2 = some (r1, r2, r3, r4, r5, r6, r7)) :
  Calls Tryz.prog 49 #[.agg #[.slice A0_0 l0_0.length c0_0, .int .i64 a0_1, .slice A0_2 l0_2.length c0_2, .int .i64 a0_3, .int .i64 a0_4, .slice A0_5 l0_5.length c0_5], .agg #[.int .i64 a1_0, .int .i64 a1_1], .int .i64 a2] w fun e w' => ∃ v0_ v2_ v5_ : Value, e = .returned (.tuple #[.agg #[v0_, .int .i64 r2, v2_, .int .i64 r4, .int .i64 r5, v5_], .bool r7]) ∧ Kd.R k112 112 w' w.heap.size (fun _ => True) v0_ r1 ∧ Kd.R (Kd.int .i64) 3 w' w.heap.size (fun _ => True) v2_ r3 ∧ Kd.R k104 104 w' w.heap.size (fun _ => True) v5_ r6 ∧ Below w.heap.size w w' := by
 replace hr0_0 := RdE.mk hr0_0
 replace hc0_0 := LeI.mk hc0_0
 replace hr0_2 := RdE.mk hr0_2
 replace hc0_2 := LeI.mk hc0_2
 replace hr0_5 := RdE.mk hr0_5
 replace hc0_5 := LeI.mk hc0_5
 unfold spec_ShopFault.f at h
 have hu37 := Tryz.underlying37
 have hu74 := Tryz.underlying74
 (repeat' first | ((with_reducible replace h := ite_some h); rcases h with ⟨hc, h⟩ | ⟨hc, h⟩ <;> first | exact (none_some h).elim | exact absurd hc (by decide) | subst hc | (replace hc := hF_ hc; subst hc) | (have hd := hI_ hc; have he := hJ_ hc; clear hc) | (have hd := hK_ hc; have he := hL_ hc) | (have hd := decide_eq_false hc) | (have hd := decide_eq_true hc) | skip))
 all_goals go_enter Tryz.func49, Tryz.ntmps49
 all_goals go_wp2_with ((first
  | ((with_reducible refine gate_dst (N := 3) rfl ?_); refine bV #[.slice A0_0 l0_0.length c0_0, .int .i64 a0_1, .slice A0_2 l0_2.length c0_2, .int .i64 a0_3, .int .i64 a0_4, .slice A0_5 l0_5.length c0_5] 37 fun g w1 j1 j2 j3 => ?_)
  | ((with_reducible refine gate_dst (N := 4) rfl ?_); refine bV #[.int .i64 a1_0, .int .i64 a1_1] 74 fun g w1 j1 j2 j3 => ?_)
  | ((with_reducible refine gate_dst (N := 6) rfl ?_); refine bV #[.slice none 0 0, .int .i64 0, .slice none 0 0, .int .i64 0, .int .i64 0, .slice none 0 0] 37 fun g w1 j1 j2 j3 => ?_)
  | ((with_reducible refine gate_dst (N := 8) rfl ?_); refine bV #[.slice none 0 0, .int .i64 0, .slice none 0 0, .int .i64 0, .int .i64 0, .slice none 0 0] 37 fun g w1 j1 j2 j3 => ?_)
  | (go_at_call 45; replace h := bI h; obtain ⟨⟨t1, t2, t3, t4, t5, t6⟩, A, h⟩ := h; (try dsimp only at h); refine (spec_l38Copy.calls _ _ _ _ _ _ _ _ _ _ _ _ _ _ _ _ _ _ _ Rd.out LeI.out Rd.out LeI.out Rd.out LeI.out A).mono ?_; rintro e w2 ⟨v0, v1, v2, rfl, ho0, ho1, ho2, hb⟩; obtain ⟨B0, b0, rfl, j0, q0⟩ := rowS ho0; obtain ⟨B1, b1, rfl, j1, q1⟩ := rowS ho1; obtain ⟨B2, b2, rfl, j2, q2⟩ := rowS ho2; have jb := Bel.mk hb; clear A ho0 ho1 ho2 hb)
  | (go_at_call 99; replace h := bI h; obtain ⟨⟨t1, t2⟩, A, h⟩ := h; (try dsimp only at h); refine (spec_AddEntry.calls _ _ _ _ _ _ _ _ _ _ _ Rd.out LeI.out A).mono ?_; rintro e w2 ⟨v0, rfl, ho0, hb⟩; obtain ⟨B0, b0, rfl, j0, q0⟩ := rowS ho0; have jb := Bel.mk hb; clear A ho0 hb)
  | (go_at_call 37; replace h := bI h; obtain ⟨t, A, h⟩ := h; (try dsimp only at h); refine (spec_ShopOk.calls _ _ _ _ _ _ _ _ _ _ _ _ _ _ _ Rd.out LeI.out Rd.out LeI.out Rd.out LeI.out A).mono ?_; rintro e w2 ⟨rfl, hb⟩; have jb := Bel.mk hb; clear A hb)); (repeat' first | ((with_reducible replace h := ite_some h); rcases h with ⟨hc, h⟩ | ⟨hc, h⟩ <;> first | exact (none_some h).elim | exact absurd hc (by decide) | subst hc | (replace hc := hF_ hc; subst hc) | (have hd := hI_ hc; have he := hJ_ hc; clear hc) | (have hd := hK_ hc; have he := hL_ hc) | (have hd := decide_eq_false hc) | (have hd := decide_eq_true hc) | skip)))
 all_goals simp only [Option.some.injEq, Prod.mk.injEq] at h
 all_goals obtain ⟨rfl, rfl, rfl, rfl, rfl, rfl, rfl⟩ := h
 all_goals refine bodyPost_ret (results_ct rfl _ _ _ _ _ (0, 0) _ rfl Blk.out Tryz.underlying37 rfl (by kernel_rfl)) rfl ?_
 all_goals exact ⟨_, _, _, rfl, (by first | exact rowFin | exact Kd.R_nil _ _ _ _ _), (by first | exact rowFin | exact Kd.R_nil _ _ _ _ _), (by first | exact rowFin | exact Kd.R_nil _ _ _ _ _), From.out⟩
def spec_ShopKnock.f (k : Nat) (l0_0 : List (S112)) (a0_1 : Int) (l0_2 : List Int) (a0_3 : Int) (a0_4 : Int) (l0_5 : List (S104)) (a1 : Int) (a2 : Int) : Option ((List (S112)) × Int × List Int × Int × Int × (List (S104)) × Bool) := (spec_l38Copy.f l0_0 a0_1 l0_2 a0_3 a0_4 l0_5).bind fun bt378 => ((spec_ShopOk.f k l0_0 a0_1 l0_2 a0_3 a0_4 l0_5).bind fun t391 => (if t391 = true then ((spec_KnockKey.f k l0_0 a0_1 l0_2 a1 a2).bind fun bt392 => (some (bt392.1, bt392.2.1, bt392.2.2.1, bt378.2.2.2.1, bt378.2.2.2.2.1, bt378.2.2.2.2.2, bt392.2.2.2))) else (some (bt378.1, bt378.2.1, bt378.2.2.1, bt378.2.2.2.1, bt378.2.2.2.2.1, bt378.2.2.2.2.2, false))))
theorem spec_ShopKnock.calls (k : Nat) (A0_0 : Option Addr) (c0_0 : Nat) (l0_0 : List (S112)) (a0_1 : Int) (A0_2 : Option Addr) (c0_2 : Nat) (l0_2 : List Int) (a0_3 : Int) (a0_4 : Int) (A0_5 : Option Addr) (c0_5 : Nat) (l0_5 : List (S104)) (a1 : Int) (a2 : Int) (r1 : List (S112)) (r2 : Int) (r3 : List Int) (r4 : Int) (r5 : Int) (r6 : List (S104)) (r7 : Bool) (w : World) (hr0_0 : Kd.C k112 w A0_0 l0_0.length l0_0) (hc0_0 : l0_0.length ≤ c0_0) (hr0_2 : Kd.C (Kd.int .i64) w A0_2 l0_2.length l0_2) (hc0_2 : l0_2.length ≤ c0_2) (hr0_5 : Kd.C k104 w A0_5 l0_5.length l0_5) (hc0_5 : l0_5.length ≤ c0_5) (h : spec_ShopKnock.f k l0_0 a0_1 l0_2 a0_3 a0_4 l0_5 a1 a2 = some (r1, r2, r3, r4, r5, r6, r7)) :
  Calls Tryz.prog 50 #[.agg #[.slice A0_0 l0_0.length c0_0, .int .i64 a0_1, .slice A0_2 l0_2.length c0_2, .int .i64 a0_3, .int .i64 a0_4, .slice A0_5 l0_5.length c0_5], .int .i64 a1, .int .i64 a2] w fun e w' => ∃ v0_ v2_ v5_ : Value, e = .returned (.tuple #[.agg #[v0_, .int .i64 r2, v2_, .int .i64 r4, .int .i64 r5, v5_], .bool r7]) ∧ Kd.R k112 112 w' w.heap.size (fun _ => True) v0_ r1 ∧ Kd.R (Kd.int .i64) 3 w' w.heap.size (fun _ => True) v2_ r3 ∧ Kd.R k104 104 w' w.heap.size (fun _ => True) v5_ r6 ∧ Below w.heap.size w w' := by
 replace hr0_0 := RdE.mk hr0_0
 replace hc0_0 := LeI.mk hc0_0
 replace hr0_2 := RdE.mk hr0_2
 replace hc0_2 := LeI.mk hc0_2
 replace hr0_5 := RdE.mk hr0_5
 replace hc0_5 := LeI.mk hc0_5
 unfold spec_ShopKnock.f at h
 have hu34 := Tryz.underlying34
 have hu37 := Tryz.underlying37
 (repeat' first | ((with_reducible replace h := ite_some h); rcases h with ⟨hc, h⟩ | ⟨hc, h⟩ <;> first | exact (none_some h).elim | exact absurd hc (by decide) | subst hc | (replace hc := hF_ hc; subst hc) | (have hd := hI_ hc; have he := hJ_ hc; clear hc) | (have hd := hK_ hc; have he := hL_ hc) | (have hd := decide_eq_false hc) | (have hd := decide_eq_true hc) | skip))
 all_goals go_enter Tryz.func50, Tryz.ntmps50
 all_goals go_wp2_with ((first
  | ((with_reducible refine gate_dst (N := 3) rfl ?_); refine bV #[.slice A0_0 l0_0.length c0_0, .int .i64 a0_1, .slice A0_2 l0_2.length c0_2, .int .i64 a0_3, .int .i64 a0_4, .slice A0_5 l0_5.length c0_5] 37 fun g w1 j1 j2 j3 => ?_)
  | ((with_reducible refine gate_dst (N := 6) rfl ?_); refine bV #[.slice none 0 0, .int .i64 0, .slice none 0 0, .int .i64 0, .int .i64 0, .slice none 0 0] 37 fun g w1 j1 j2 j3 => ?_)
  | ((with_reducible refine gate_dst (N := 8) rfl ?_); refine bV #[.slice none 0 0, .int .i64 0, .slice none 0 0, .int .i64 0, .int .i64 0, .slice none 0 0] 37 fun g w1 j1 j2 j3 => ?_)
  | ((with_reducible refine gate_dst (N := 9) rfl ?_); refine bV #[.slice none 0 0, .int .i64 0, .slice none 0 0] 34 fun g w1 j1 j2 j3 => ?_)
  | (go_at_call 45; replace h := bI h; obtain ⟨⟨t1, t2, t3, t4, t5, t6⟩, A, h⟩ := h; (try dsimp only at h); refine (spec_l38Copy.calls _ _ _ _ _ _ _ _ _ _ _ _ _ _ _ _ _ _ _ Rd.out LeI.out Rd.out LeI.out Rd.out LeI.out A).mono ?_; rintro e w2 ⟨v0, v1, v2, rfl, ho0, ho1, ho2, hb⟩; obtain ⟨B0, b0, rfl, j0, q0⟩ := rowS ho0; obtain ⟨B1, b1, rfl, j1, q1⟩ := rowS ho1; obtain ⟨B2, b2, rfl, j2, q2⟩ := rowS ho2; have jb := Bel.mk hb; clear A ho0 ho1 ho2 hb)
  | (go_at_call 37; replace h := bI h; obtain ⟨t, A, h⟩ := h; (try dsimp only at h); refine (spec_ShopOk.calls _ _ _ _ _ _ _ _ _ _ _ _ _ _ _ Rd.out LeI.out Rd.out LeI.out Rd.out LeI.out A).mono ?_; rintro e w2 ⟨rfl, hb⟩; have jb := Bel.mk hb; clear A hb)
  | (go_at_call 100; replace h := bI h; obtain ⟨⟨t1, t2, t3, t4⟩, A, h⟩ := h; (try dsimp only at h); refine (spec_KnockKey.calls _ _ _ _ _ _ _ _ _ _ _ _ _ _ _ Rd.out LeI.out Rd.out LeI.out A).mono ?_; rintro e w2 ⟨v0, v1, rfl, ho0, ho1, hb⟩; obtain ⟨B0, b0, rfl, j0, q0⟩ := rowS ho0; obtain ⟨B1, b1, rfl, j1, q1⟩ := rowS ho1; have jb := Bel.mk hb; clear A ho0 ho1 hb)); (repeat' first | ((with_reducible replace h := ite_some h); rcases h with ⟨hc, h⟩ | ⟨hc, h⟩ <;> first | exact (none_some h).elim | exact absurd hc (by decide) | subst hc | (replace hc := hF_ hc; subst hc) | (have hd := hI_ hc; have he := hJ_ hc; clear hc) | (have hd := hK_ hc; have he := hL_ hc) | (have hd := decide_eq_false hc) | (have hd := decide_eq_true hc) | skip)))
 all_goals simp only [Option.some.injEq, Prod.mk.injEq] at h
 all_goals obtain ⟨rfl, rfl, rfl, rfl, rfl, rfl, rfl⟩ := h
 all_goals refine bodyPost_ret (results_ct rfl _ _ _ _ _ (0, 0) _ rfl Blk.out Tryz.underlying37 rfl (by kernel_rfl)) rfl ?_
 all_goals exact ⟨_, _, _, rfl, (by first | exact rowFin | exact Kd.R_nil _ _ _ _ _), (by first | exact rowFin | exact Kd.R_nil _ _ _ _ _), (by first | exact rowFin | exact Kd.R_nil _ _ _ _ _), From.out⟩
end Go.Proofs.YtanhnhkcpbdfmaaGreat.P
