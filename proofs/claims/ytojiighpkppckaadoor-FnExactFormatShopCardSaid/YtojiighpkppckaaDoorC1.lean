/- What functions of the program come to (f), that their calls come to just this (calls), and the plain laws over lists and numbers. No condition but those of the given row. -/
import Derived.Test.YtojiighpkppckaaDoorC0
import Derived.Test.YtojiighpkppckaaDoorProg
import Derived.Below
import Derived.Deep.Draws
import Derived.Deep.AppendLies
import Derived.Maps.AppendAt
import Derived.OwnWalk
import Derived.Laws.BytesArg
import Derived.Laws.MakeOwn
import Derived.Laws.OwnMore
import Derived.Deep.OwnRows
import Derived.Tactics
import Derived.Lib.ConvBytes
import Derived.Laws.Slices
import Derived.WalkKit
import Derived.KernelRfl
import Derived.RowKit3
import Derived.Deep.LoopGhost
import Derived.Deep.QuietTactic
import Derived.BigQuiet
import Derived.WideLaws
import Derived.Deep.DeepCutAuto
import Derived.Deep.CutBlock
import Derived.Deep.RegionHeld3
import Derived.Laws.Rows
import Derived.Lib.AppendStr
import Derived.ArgAppend
import Derived.Laws.IdiomCopy
import Derived.OrdersHeld
import Derived.Laws.BitsLemmas
import Derived.RowKit
import Derived.Lib.AppendIntMem
import Derived.Shelf.Strconv.Itoa3
import Derived.Shelf.Strings.BuilderK
import Derived.Shelf.Strings.OnBuilder
namespace Go.Proofs.YtojiighpkppckaaDoor.P
open Go.RowKit Go.Proofs.YtojiighpkppckaaDoorW.PrintWords Go.Proofs.YtojiighpkppckaaDoorW.PrintLast Go.Proofs.YtojiighpkppckaaDoorW.PrintMore
attribute [local go_sem] max2_int min2_int max_two min_two max_three min_three max_four min_four
set_option linter.unusedVariables false
set_option linter.unusedSimpArgs false
def errW : Option Int → Value
  | none => .nilIface
  | some c => .iface 153 (.int .i64 c)
theorem errW_none : errW none = .nilIface := rfl
theorem errW_some (c : Int) : errW (some c) = .iface 153 (.int .i64 c) := rfl
theorem info3 : (Tryd.prog.info? 3).map (fun i => (i.zero, i.size, i.bytes)) = some (some (.int .i64 0), 1, 8) := by kernel_rfl
theorem info4 : (Tryd.prog.info? 4).map (fun i => (i.zero, i.size, i.bytes)) = some (some (.bool false), 1, 1) := by kernel_rfl
theorem info9 : (Tryd.prog.info? 9).map (fun i => (i.zero, i.size, i.bytes)) = some (some (.string ⟨#[]⟩), 1, 16) := by kernel_rfl
theorem info85 : (Tryd.prog.info? 85).map (fun i => (i.zero, i.size, i.bytes)) = some (some (.agg #[(.int .i64 0), (.int .i64 0), (.int .i64 0), (.int .i64 0)]), 4, 32) := by kernel_rfl
theorem info145 : (Tryd.prog.info? 145).map (fun i => (i.zero, i.size, i.bytes)) = some (some (.agg #[(.int .i64 0), (.int .i64 0), (.int .i64 0), (.int .i64 0)]), 4, 32) := by kernel_rfl
structure S145 where
  f0 : Int
  f1 : Int
  f2 : Int
  f3 : Int
def z145 : S145 := ⟨(0 : Int), (0 : Int), (0 : Int), (0 : Int)⟩
def k145 : Kd S145 := Kd.iso (Kd.pair (Kd.int .i64) (Kd.pair (Kd.int .i64) (Kd.pair (Kd.int .i64) (Kd.int .i64)))) (fun x : S145 => (x.f0, x.f1, x.f2, x.f3))
theorem k145_open {w : World} {x : S145} {cs : List Value} (h : k145.K w x cs) : cs = [.int .i64 x.f0, .int .i64 x.f1, .int .i64 x.f2, .int .i64 x.f3] := by
  obtain ⟨_, _, rfl, rfl, ⟨_, _, rfl, rfl, ⟨_, _, rfl, rfl, rfl⟩⟩⟩ := h
  exact rfl
theorem k145_openM {w : World} {base : Nat} {ok : Nat → Prop} {x : S145} {cs : List Value} (h : k145.M w base ok x cs) : cs = [.int .i64 x.f0, .int .i64 x.f1, .int .i64 x.f2, .int .i64 x.f3] := by
  obtain ⟨_, _, rfl, rfl, ⟨_, _, rfl, rfl, ⟨_, _, rfl, rfl, rfl⟩⟩⟩ := h
  exact rfl
theorem k145_mkM (w : World) (base : Nat) (ok : Nat → Prop) (x : S145)  : k145.M w base ok x [.int .i64 x.f0, .int .i64 x.f1, .int .i64 x.f2, .int .i64 x.f3] := ⟨[.int .i64 x.f0], [.int .i64 x.f1, .int .i64 x.f2, .int .i64 x.f3], rfl, rfl, ⟨[.int .i64 x.f1], [.int .i64 x.f2, .int .i64 x.f3], rfl, rfl, ⟨[.int .i64 x.f2], [.int .i64 x.f3], rfl, rfl, rfl⟩⟩⟩
def rd_T145 (xs : List S145) (i : Int) : S145 := xs.getD i.toNat z145
theorem at_T145 {w : World} {A : Option Addr} {n : Nat} {xs : List S145} (h : Kd.C k145 w A n xs) (i : Int) (h0 : 0 ≤ i) (h1 : i < n) : ∃ ad , A = some ad ∧ w.cell? (ad.add (i.toNat * 4)) = some (.int .i64 (rd_T145 xs i).f0) ∧ w.cell? ⟨(ad.add (i.toNat * 4)).block, (ad.add (i.toNat * 4)).off + 1, none⟩ = some (.int .i64 (rd_T145 xs i).f1) ∧ w.cell? ⟨(ad.add (i.toNat * 4)).block, (ad.add (i.toNat * 4)).off + 2, none⟩ = some (.int .i64 (rd_T145 xs i).f2) ∧ w.cell? ⟨(ad.add (i.toNat * 4)).block, (ad.add (i.toNat * 4)).off + 3, none⟩ = some (.int .i64 (rd_T145 xs i).f3) := by
  obtain ⟨ad, c, e, _, hK, hc0⟩ := Kd.C_get h z145 i h0 h1
  have hc : ∀ j u, c[j]? = some u → w.cell? (ad.add (i.toNat * 4 + j)) = some u := hc0
  obtain rfl := k145_open hK
  exact ⟨ad, e, hc 0 _ rfl, by rw [← add_field _ _ 1 (by omega)]; exact hc 1 _ rfl, by rw [← add_field _ _ 2 (by omega)]; exact hc 2 _ rfl, by rw [← add_field _ _ 3 (by omega)]; exact hc 3 _ rfl⟩
structure S83 where
  f0 : Int
  f1 : Int
def z83 : S83 := ⟨(0 : Int), (0 : Int)⟩
def k83 : Kd S83 := Kd.iso (Kd.pair (Kd.int .i64) (Kd.int .i64)) (fun x : S83 => (x.f0, x.f1))
theorem k83_open {w : World} {x : S83} {cs : List Value} (h : k83.K w x cs) : cs = [.int .i64 x.f0, .int .i64 x.f1] := by
  obtain ⟨_, _, rfl, rfl, rfl⟩ := h
  exact rfl
theorem k83_openM {w : World} {base : Nat} {ok : Nat → Prop} {x : S83} {cs : List Value} (h : k83.M w base ok x cs) : cs = [.int .i64 x.f0, .int .i64 x.f1] := by
  obtain ⟨_, _, rfl, rfl, rfl⟩ := h
  exact rfl
theorem k83_mkM (w : World) (base : Nat) (ok : Nat → Prop) (x : S83)  : k83.M w base ok x [.int .i64 x.f0, .int .i64 x.f1] := ⟨[.int .i64 x.f0], [.int .i64 x.f1], rfl, rfl, rfl⟩
structure S85 where
  f0 : S83
  f1 : Int
  f2 : Int
def z85 : S85 := ⟨z83, (0 : Int), (0 : Int)⟩
def k85 : Kd S85 := Kd.iso (Kd.pair k83 (Kd.pair (Kd.int .i64) (Kd.int .i64))) (fun x : S85 => (x.f0, x.f1, x.f2))
theorem k85_open {w : World} {x : S85} {cs : List Value} (h : k85.K w x cs) : cs = [.int .i64 x.f0.f0, .int .i64 x.f0.f1, .int .i64 x.f1, .int .i64 x.f2] := by
  obtain ⟨_, _, rfl, s0, ⟨_, _, rfl, rfl, rfl⟩⟩ := h
  obtain rfl := k83_open s0
  exact rfl
theorem k85_openM {w : World} {base : Nat} {ok : Nat → Prop} {x : S85} {cs : List Value} (h : k85.M w base ok x cs) : cs = [.int .i64 x.f0.f0, .int .i64 x.f0.f1, .int .i64 x.f1, .int .i64 x.f2] := by
  obtain ⟨_, _, rfl, s0, ⟨_, _, rfl, rfl, rfl⟩⟩ := h
  obtain rfl := k83_openM s0
  exact rfl
theorem k85_mkM (w : World) (base : Nat) (ok : Nat → Prop) (x : S85)  : k85.M w base ok x [.int .i64 x.f0.f0, .int .i64 x.f0.f1, .int .i64 x.f1, .int .i64 x.f2] := ⟨[.int .i64 x.f0.f0, .int .i64 x.f0.f1], [.int .i64 x.f1, .int .i64 x.f2], rfl, (k83_mkM w base ok x.f0 ), ⟨[.int .i64 x.f1], [.int .i64 x.f2], rfl, rfl, rfl⟩⟩
def rd_T85 (xs : List S85) (i : Int) : S85 := xs.getD i.toNat z85
theorem at_T85 {w : World} {A : Option Addr} {n : Nat} {xs : List S85} (h : Kd.C k85 w A n xs) (i : Int) (h0 : 0 ≤ i) (h1 : i < n) : ∃ ad , A = some ad ∧ w.cell? (ad.add (i.toNat * 4)) = some (.int .i64 (rd_T85 xs i).f0.f0) ∧ w.cell? ⟨(ad.add (i.toNat * 4)).block, (ad.add (i.toNat * 4)).off + 1, none⟩ = some (.int .i64 (rd_T85 xs i).f0.f1) ∧ w.cell? ⟨(ad.add (i.toNat * 4)).block, (ad.add (i.toNat * 4)).off + 2, none⟩ = some (.int .i64 (rd_T85 xs i).f1) ∧ w.cell? ⟨(ad.add (i.toNat * 4)).block, (ad.add (i.toNat * 4)).off + 3, none⟩ = some (.int .i64 (rd_T85 xs i).f2) := by
  obtain ⟨ad, c, e, _, hK, hc0⟩ := Kd.C_get h z85 i h0 h1
  have hc : ∀ j u, c[j]? = some u → w.cell? (ad.add (i.toNat * 4 + j)) = some u := hc0
  obtain rfl := k85_open hK
  exact ⟨ad, e, hc 0 _ rfl, by rw [← add_field _ _ 1 (by omega)]; exact hc 1 _ rfl, by rw [← add_field _ _ 2 (by omega)]; exact hc 2 _ rfl, by rw [← add_field _ _ 3 (by omega)]; exact hc 3 _ rfl⟩
structure S148 where
  f0 : Int
  f1 : Int
  f2 : Int
  f3 : Int
def z148 : S148 := ⟨(0 : Int), (0 : Int), (0 : Int), (0 : Int)⟩
def k148 : Kd S148 := Kd.iso (Kd.pair (Kd.int .i64) (Kd.pair (Kd.int .i64) (Kd.pair (Kd.int .i64) (Kd.int .i64)))) (fun x : S148 => (x.f0, x.f1, x.f2, x.f3))
theorem k148_open {w : World} {x : S148} {cs : List Value} (h : k148.K w x cs) : cs = [.int .i64 x.f0, .int .i64 x.f1, .int .i64 x.f2, .int .i64 x.f3] := by
  obtain ⟨_, _, rfl, rfl, ⟨_, _, rfl, rfl, ⟨_, _, rfl, rfl, rfl⟩⟩⟩ := h
  exact rfl
def rd_T148 (xs : List S148) (i : Int) : S148 := xs.getD i.toNat z148
theorem at_T148 {w : World} {A : Option Addr} {n : Nat} {xs : List S148} (h : Kd.C k148 w A n xs) (i : Int) (h0 : 0 ≤ i) (h1 : i < n) : ∃ ad , A = some ad ∧ w.cell? (ad.add (i.toNat * 4)) = some (.int .i64 (rd_T148 xs i).f0) ∧ w.cell? ⟨(ad.add (i.toNat * 4)).block, (ad.add (i.toNat * 4)).off + 1, none⟩ = some (.int .i64 (rd_T148 xs i).f1) ∧ w.cell? ⟨(ad.add (i.toNat * 4)).block, (ad.add (i.toNat * 4)).off + 2, none⟩ = some (.int .i64 (rd_T148 xs i).f2) ∧ w.cell? ⟨(ad.add (i.toNat * 4)).block, (ad.add (i.toNat * 4)).off + 3, none⟩ = some (.int .i64 (rd_T148 xs i).f3) := by
  obtain ⟨ad, c, e, _, hK, hc0⟩ := Kd.C_get h z148 i h0 h1
  have hc : ∀ j u, c[j]? = some u → w.cell? (ad.add (i.toNat * 4 + j)) = some u := hc0
  obtain rfl := k148_open hK
  exact ⟨ad, e, hc 0 _ rfl, by rw [← add_field _ _ 1 (by omega)]; exact hc 1 _ rfl, by rw [← add_field _ _ 2 (by omega)]; exact hc 2 _ rfl, by rw [← add_field _ _ 3 (by omega)]; exact hc 3 _ rfl⟩
structure S117 where
  f0 : Int
  f1 : Int
def z117 : S117 := ⟨(0 : Int), (0 : Int)⟩
def k117 : Kd S117 := Kd.iso (Kd.pair (Kd.int .i64) (Kd.int .i64)) (fun x : S117 => (x.f0, x.f1))
theorem k117_open {w : World} {x : S117} {cs : List Value} (h : k117.K w x cs) : cs = [.int .i64 x.f0, .int .i64 x.f1] := by
  obtain ⟨_, _, rfl, rfl, rfl⟩ := h
  exact rfl
structure S119 where
  f0 : S117
  f1 : Int
  f2 : Int
def z119 : S119 := ⟨z117, (0 : Int), (0 : Int)⟩
def k119 : Kd S119 := Kd.iso (Kd.pair k117 (Kd.pair (Kd.int .i64) (Kd.int .i64))) (fun x : S119 => (x.f0, x.f1, x.f2))
theorem k119_open {w : World} {x : S119} {cs : List Value} (h : k119.K w x cs) : cs = [.int .i64 x.f0.f0, .int .i64 x.f0.f1, .int .i64 x.f1, .int .i64 x.f2] := by
  obtain ⟨_, _, rfl, s0, ⟨_, _, rfl, rfl, rfl⟩⟩ := h
  obtain rfl := k117_open s0
  exact rfl
def rd_T119 (xs : List S119) (i : Int) : S119 := xs.getD i.toNat z119
theorem at_T119 {w : World} {A : Option Addr} {n : Nat} {xs : List S119} (h : Kd.C k119 w A n xs) (i : Int) (h0 : 0 ≤ i) (h1 : i < n) : ∃ ad , A = some ad ∧ w.cell? (ad.add (i.toNat * 4)) = some (.int .i64 (rd_T119 xs i).f0.f0) ∧ w.cell? ⟨(ad.add (i.toNat * 4)).block, (ad.add (i.toNat * 4)).off + 1, none⟩ = some (.int .i64 (rd_T119 xs i).f0.f1) ∧ w.cell? ⟨(ad.add (i.toNat * 4)).block, (ad.add (i.toNat * 4)).off + 2, none⟩ = some (.int .i64 (rd_T119 xs i).f1) ∧ w.cell? ⟨(ad.add (i.toNat * 4)).block, (ad.add (i.toNat * 4)).off + 3, none⟩ = some (.int .i64 (rd_T119 xs i).f2) := by
  obtain ⟨ad, c, e, _, hK, hc0⟩ := Kd.C_get h z119 i h0 h1
  have hc : ∀ j u, c[j]? = some u → w.cell? (ad.add (i.toNat * 4 + j)) = some u := hc0
  obtain rfl := k119_open hK
  exact ⟨ad, e, hc 0 _ rfl, by rw [← add_field _ _ 1 (by omega)]; exact hc 1 _ rfl, by rw [← add_field _ _ 2 (by omega)]; exact hc 2 _ rfl, by rw [← add_field _ _ 3 (by omega)]; exact hc 3 _ rfl⟩
end Go.Proofs.YtojiighpkppckaaDoor.P


namespace Go.Proofs.YtojiighpkppckaaDoor.V
set_option linter.unusedVariables false
open Go.RowKit Go.Proofs.YtojiighpkppckaaDoorW.PrintWords
class From (w0 W : World) : Prop where out : Below w0.heap.size w0 W
class Bel (w : outParam World) (W : World) : Prop where out : Below w.heap.size w W
class Born (w : outParam World) (g : Nat) : Prop where out : g = w.heap.size
class Blk (W : World) (g : Nat) (cs : outParam (Array Value)) (t : outParam TypeId) : Prop where out : W.heap[g]? = some (.cells cs t (0, 0))
class Sz (w0 W : World) : Prop where out : w0.heap.size ≤ W.heap.size
class Nw (w0 : World) (g : Nat) : Prop where out : w0.heap.size ≤ g
class NeB (g g' : Nat) : Prop where out : g ≠ g'
class LeI (n c : Nat) : Prop where out : n ≤ c
class RdE {α : Type} (d : Kd α) (w0 : outParam World) (A : Option Addr) (xs : outParam (List α)) : Prop where out : d.C w0 A xs.length xs
class Rd {α : Type} (d : Kd α) (W : World) (A : Option Addr) (xs : List α) : Prop where out : d.C W A xs.length xs
class RowE {α : Type} (d : Kd α) (e : outParam Nat) (w1 w2 : outParam World) (A : Option Addr) (c : outParam Nat) (xs : outParam (List α)) : Prop where out : d.R e w2 w1.heap.size (fun _ => True) (.slice A xs.length c) xs
class Keep (w1 w2 W : World) : Prop where out : ∀ k, w1.heap.size ≤ k → k < w2.heap.size → W.heap[k]? = w2.heap[k]?
class Off (w1 w2 : World) (g : Nat) : Prop where out : g < w1.heap.size ∨ w2.heap.size ≤ g
section
variable {w0 w1 w2 w W W' : World} {g g' : Nat} {cs cs' : Array Value} {t t' : TypeId} {o : Obj} {n i : Nat} {v : Value}
instance : From w w := ⟨Below.refl _ _⟩
instance [h : From w0 W] : From w0 (W.alloc o) := ⟨below_alloc h.out _⟩
instance [h : From w0 W] : From w0 W.drew := ⟨below_drew1 h.out⟩
instance [h : From w0 W] : From w0 (W.drewN n) := ⟨pw_below_drewN h.out _⟩
instance [h : From w0 W] [hg : Nw w0 g] : From w0 (W.setCell ⟨g, i, none⟩ v) := ⟨below_set h.out hg.out⟩
instance [h : Bel w W] [k : From w0 w] : From w0 W := ⟨below_step k.out h.out⟩
instance : Sz w w := ⟨Nat.le_refl _⟩
instance [h : Sz w0 W] : Sz w0 (W.alloc o) := ⟨Nat.le_trans h.out (by simp)⟩
instance [h : Sz w0 W] : Sz w0 W.drew := ⟨h.out⟩
instance [h : Sz w0 W] : Sz w0 (W.drewN n) := ⟨h.out⟩
instance {p : Addr} [h : Sz w0 W] : Sz w0 (W.setCell p v) := ⟨by simpa using h.out⟩
instance [h : Bel w W] [k : Sz w0 w] : Sz w0 W := ⟨Nat.le_trans k.out h.out.size⟩
instance [h : Born W g] [k : Sz w0 W] : Nw w0 g := ⟨by rw [h.out]; exact k.out⟩
instance [h : Blk W g cs t] : Blk (W.alloc o) g cs t := ⟨blk_alloc h.out _⟩
instance [h : Blk W g cs t] : Blk W.drew g cs t := ⟨h.out⟩
instance [h : Blk W g cs t] : Blk (W.drewN n) g cs t := ⟨h.out⟩
instance [h : Blk W g cs t] [k : NeB g g'] : Blk (W.setCell ⟨g', i, none⟩ v) g cs t := ⟨blk_far h.out k.out _⟩
instance [h : Blk W g cs t] : Blk (W.setCell ⟨g, i, none⟩ v) g (cs.setIfInBounds i v) t := ⟨blk_set h.out _ _⟩
instance [h : Bel w W] [k : Blk w g cs t] : Blk W g cs t := ⟨blk_below k.out h.out⟩
instance [h : Born W g'] [k : Blk W g cs t] : NeB g g' := ⟨by rw [h.out]; exact Nat.ne_of_lt (blk_lt k.out)⟩
instance [h : Born W g] [k : Blk W g' cs t] : NeB g g' := ⟨by rw [h.out]; exact Nat.ne_of_gt (blk_lt k.out)⟩
theorem cell_b (W : World) (g i : Nat) [h : Blk W g cs t] : W.cell? ⟨g, i, none⟩ = cs[i]? := blk_cell h.out i
theorem frozen_b (W : World) (g i : Nat) [h : Blk W g cs t] : W.frozen? ⟨g, i, none⟩ = false := blk_frozen h.out i
instance : Keep w1 w2 w2 := ⟨fun _ _ _ => rfl⟩
theorem keep_lt (h : Keep w1 w2 W) {k : Nat} (h1 : w1.heap.size ≤ k) (h2 : k < w2.heap.size) : k < W.heap.size := by
  have := h.out k h1 h2
  rw [Array.getElem?_eq_getElem h2] at this
  exact (Array.getElem?_eq_some_iff.1 this).1
instance [h : Keep w1 w2 W] : Keep w1 w2 (W.alloc o) := ⟨fun k h1 h2 => (Below.heap_alloc W o k (keep_lt h h1 h2)).trans (h.out k h1 h2)⟩
instance [h : Keep w1 w2 W] : Keep w1 w2 W.drew := ⟨h.out⟩
instance [h : Keep w1 w2 W] : Keep w1 w2 (W.drewN n) := ⟨h.out⟩
instance [h : Bel w W] [k : Keep w1 w2 w] : Keep w1 w2 W := ⟨fun j h1 h2 => (h.out.block j (keep_lt k h1 h2)).trans (k.out j h1 h2)⟩
instance [h : Keep w1 w2 W] [k : Off w1 w2 g] : Keep w1 w2 (W.setCell ⟨g, i, none⟩ v) := ⟨fun j h1 h2 => (Below.heap_setCell W _ v j (by have := k.out; show j ≠ g; omega)).trans (h.out j h1 h2)⟩
instance [h : Blk w1 g cs t] : Off w1 w2 g := ⟨.inl (blk_lt h.out)⟩
instance [h : Nw w2 g] : Off w1 w2 g := ⟨.inr h.out⟩
section
variable {α : Type} {d : Kd α} {e : Nat} {A : Option Addr} {c : Nat} {xs : List α}
instance [h : RdE d w0 A xs] [k : From w0 W] : Rd d W A xs := ⟨Kd.C_below h.out k.out⟩
theorem row_ [h : RowE d e w1 w2 A c xs] [k : Keep w1 w2 W] : d.R e W w1.heap.size (fun _ => True) (.slice A xs.length c) xs :=
  Kd.R_mono (Kd.R_move (Kd.R_bound h.out) (fun j hj => k.out j hj.2.1 hj.2.2.1)) (fun _ _ => trivial)
theorem rowRd [h : RowE d e w1 w2 A c xs] [k : Keep w1 w2 W] : d.C W A xs.length xs := (Kd.R_reads' (row_ (h := h) (k := k))).2.2
instance [h : RowE d e w1 w2 A c xs] [k : Keep w1 w2 W] : Rd d W A xs := ⟨rowRd (h := h) (k := k)⟩
theorem rowLe (h : RowE d e w1 w2 A c xs) : xs.length ≤ c := (Kd.R_reads' h.out).2.1
theorem rowFin [h : RowE d e w1 w2 A c xs] [k : Keep w1 w2 W] [l : From w w1] : d.R e W w.heap.size (fun _ => True) (.slice A xs.length c) xs := Kd.R_lower (row_ (h := h) (k := k)) l.out.size
theorem rowP [h : RowE d e w1 w2 A c xs] [k : Keep w1 w2 W] [l : From w w1] : d.R e W w.heap.size (fun j => w1.heap.size ≤ j ∧ j < w2.heap.size) (.slice A xs.length c) xs :=
  Kd.R_lower (Kd.R_mono (Kd.R_move (Kd.R_bound h.out) (fun j hj => k.out j hj.2.1 hj.2.2.1)) (fun _ hj => ⟨hj.2.1, hj.2.2.1⟩)) l.out.size
end
class Sin (w0 : outParam World) (W : World) : Prop where out : Below w0.heap.size w0 W
instance {w0 w W : World} [h : Sin w0 W] [k : Sz w w0] : Sz w W := ⟨Nat.le_trans k.out h.out.size⟩
instance {w0 w W : World} [h : Sin w0 W] [k : From w w0] : From w W := ⟨below_step k.out h.out⟩
instance {w0 W : World} {g : Nat} {cs : Array Value} {t : TypeId} [h : Sin w0 W] [k : Blk w0 g cs t] : Blk W g cs t := ⟨blk_below k.out h.out⟩
instance {w0 w1 w2 W : World} [h : Sin w0 W] [k : Keep w1 w2 w0] : Keep w1 w2 W := ⟨fun j h1 h2 => (h.out.block j (keep_lt k h1 h2)).trans (k.out j h1 h2)⟩
class SinB (B : outParam Nat) (w0 : outParam World) (W : World) : Prop where out : B ≤ w0.heap.size ∧ Below B w0 W
class LtB (g B : Nat) : Prop where out : g < B
class FromB (B : Nat) (w0 W : World) : Prop where out : B ≤ w0.heap.size ∧ Below B w0 W
section
variable {w0 w W W1 : World} {g g' B i n : Nat} {cs : Array Value} {t : TypeId} {o : Obj} {v : Value}
instance [h : Born W g'] [k : Blk W g cs t] : LtB g g' := ⟨by rw [h.out]; exact blk_lt k.out⟩
instance [h : SinB B w0 W] [k : Blk w0 g cs t] [l : LtB g B] : Blk W g cs t := ⟨(h.out.2.block g l.out).trans k.out⟩
instance [h : SinB B w0 W] [k : Sz w w0] : Sz w W := ⟨Nat.le_trans k.out h.out.2.size⟩
instance [h : SinB B w0 W] [k : From w w0] [l : Nw w B] : From w W := ⟨below_weaken k.out l.out h.out.2⟩
instance [k : Blk w0 g cs t] : FromB g w0 w0 := ⟨⟨Nat.le_of_lt (blk_lt k.out), Below.refl _ _⟩⟩
instance [h : FromB B w0 W] : FromB B w0 (W.alloc o) := ⟨⟨h.out.1, h.out.2.alloc (Nat.le_trans h.out.1 h.out.2.size) _⟩⟩
instance [h : FromB B w0 W] : FromB B w0 W.drew := ⟨⟨h.out.1, h.out.2.drew⟩⟩
instance [h : FromB B w0 W] : FromB B w0 (W.drewN n) := ⟨⟨h.out.1, pw_below_drewN h.out.2 _⟩⟩
instance [k : Bel w W] [h : FromB B w0 w] : FromB B w0 W := ⟨⟨h.out.1, below_then h.out.2 (Nat.le_trans h.out.1 h.out.2.size) k.out⟩⟩
instance [h : FromB g w0 W] : FromB g w0 (W.setCell ⟨g, i, none⟩ v) := ⟨⟨h.out.1, h.out.2.setCell (Nat.le_refl _) _⟩⟩
instance [h : FromB B w0 W] [l : LtB B g'] : FromB B w0 (W.setCell ⟨g', i, none⟩ v) := ⟨⟨h.out.1, h.out.2.setCell (Nat.le_of_lt l.out) _⟩⟩
instance [k : SinB B w0 W] : FromB B w0 W := ⟨k.out⟩
end
theorem region_at {P : Program} {id : Nat} {ops : Array Oper} {Q : Exit → Act → World → Prop} {a : Act} {W : World} (h : ∀ w3, Bel W w3 → (Code.region id ops true).wp P Q a w3) : (Code.region id ops true).wp P Q a W := h W ⟨Below.refl _ _⟩
class Mk (W : outParam World) (W' : World) (w1 w2 : outParam World) : Prop where out : Kept W W' (fun k => w1.heap.size ≤ k ∧ k < w2.heap.size)
class Dis (a b w1 w2 : World) : Prop where out : b.heap.size ≤ w1.heap.size ∨ w2.heap.size ≤ a.heap.size
section
variable {a b w1 w2 W W' : World} {g : Nat} {cs : Array Value} {t : TypeId}
instance [h : Sz b w1] : Dis a b w1 w2 := ⟨.inl h.out⟩
instance [h : Sz w2 a] : Dis a b w1 w2 := ⟨.inr h.out⟩
instance {w0 : World} [m : Mk W W' a b] [h : Sz w0 W] : Sz w0 W' := ⟨Nat.le_trans h.out m.out.1⟩
instance [m : Mk W W' a b] [h : Keep w1 w2 W] [d : Dis a b w1 w2] : Keep w1 w2 W' :=
  ⟨fun k h1 h2 => (m.out.2 k (keep_lt h h1 h2) (fun hk => by have := d.out; omega)).trans (h.out k h1 h2)⟩
instance [m : Mk W W' a b] [h : Blk W g cs t] [d : Off a b g] : Blk W' g cs t := ⟨(m.out.2 g (blk_lt h.out) (fun hk => by have := d.out; omega)).trans h.out⟩
theorem mk3 (h : Kept W W' (fun k => (a.heap.size ≤ k ∧ k < b.heap.size) ∨ (a.heap.size ≤ k ∧ k < b.heap.size) ∨ (a.heap.size ≤ k ∧ k < b.heap.size))) : Mk W W' a b := ⟨⟨h.1, fun i hi hs => h.2 i hi (by omega)⟩⟩
theorem mk1 (h : Kept W W' (fun k => a.heap.size ≤ k ∧ k < b.heap.size)) : Mk W W' a b := ⟨h⟩
end
theorem none_some {α : Type} {r : α} (h : none = some r) : False := by cases h
theorem ite_some {α : Type} {c : Prop} [Decidable c] {x y : Option α} {r : α} (h : (if c then x else y) = some r) : (c ∧ x = some r) ∨ (¬ c ∧ y = some r) := by
  by_cases hc : c
  · exact .inl ⟨hc, by rwa [if_pos hc] at h⟩
  · exact .inr ⟨hc, by rwa [if_neg hc] at h⟩
end
end Go.Proofs.YtojiighpkppckaaDoor.V


namespace Go.Proofs.YtojiighpkppckaaDoor.P
open Go.RowKit Go.Proofs.YtojiighpkppckaaDoorW.PrintWords Go.Proofs.YtojiighpkppckaaDoor.V
abbrev Tab (w : World) : Prop := Go.Lib.TabIs Tryd.prog w "internal/strconv.uint64pow10" .u64 Go.Lib.pow10Tab
theorem tab_on {w W : World} (h : Tab w) (hb : Below w.heap.size w W) : Tab W := Go.Lib.tabBelow_of_tabIs h W hb
theorem tab_f {w W : World} [k : From w W] (h : Aside0 (Tab w)) : Tab W := tab_on h.out k.out
end Go.Proofs.YtojiighpkppckaaDoor.P


namespace Go.Proofs.YtojiighpkppckaaDoor.P
open Go.Shelf
def st171_ren : Go.Shelf.Ren := ⟨fun | 171 => 41 | 243 => 70 | 246 => 101 | 283 => 123 | 284 => 124 | 285 => 125 | 286 => 126 | 129 => 140 | 317 => 139 | 318 => 141 | 319 => 142 | 320 => 143 | 337 => 151 | 338 => 152 | n => n, fun | 3 => 3 | 9 => 9 | 2 => 2 | 4 => 4 | 171 => 168 | 0 => 0 | 53 => 169 | 37 => 36 | 5 => 5 | 173 => 172 | 212 => 192 | 51 => 193 | 20 => 20 | 213 => 194 | 46 => 167 | 232 => 204 | 233 => 205 | n => n, fun | 17 => 2 | 18 => 4 | 19 => 5 | n => n⟩
theorem st171 : Go.Proofs.LaysM.n171 Tryd.prog st171_ren := {
  mixed := by kernel_rfl
  f129 := Tryd.func140.trans (congrArg some (by kernel_rfl))
  f171 := Tryd.func41.trans (congrArg some (by kernel_rfl))
  f243 := Tryd.func70.trans (congrArg some (by kernel_rfl))
  f246 := Tryd.func101.trans (congrArg some (by kernel_rfl))
  f283 := Tryd.func123.trans (congrArg some (by kernel_rfl))
  f284 := Tryd.func124.trans (congrArg some (by kernel_rfl))
  f285 := Tryd.func125.trans (congrArg some (by kernel_rfl))
  f286 := Tryd.func126.trans (congrArg some (by kernel_rfl))
  f317 := Tryd.func139.trans (congrArg some (by kernel_rfl))
  f318 := Tryd.func141.trans (congrArg some (by kernel_rfl))
  f319 := Tryd.func142.trans (congrArg some (by kernel_rfl))
  f320 := Tryd.func143.trans (congrArg some (by kernel_rfl))
  f337 := Tryd.func151.trans (congrArg some (by kernel_rfl))
  f338 := Tryd.func152.trans (congrArg some (by kernel_rfl))
  t0 := Tryd.underlying0
  a0 := Tryd.isAgg0
  z0 := Tryd.sizeOf0
  v0 := Tryd.zeroValue0
  t2 := Tryd.underlying2
  a2 := Tryd.isAgg2
  z2 := Tryd.sizeOf2
  v2 := Tryd.zeroValue2
  t3 := Tryd.underlying3
  a3 := Tryd.isAgg3
  z3 := Tryd.sizeOf3
  v3 := Tryd.zeroValue3
  t4 := Tryd.underlying4
  a4 := Tryd.isAgg4
  z4 := Tryd.sizeOf4
  v4 := Tryd.zeroValue4
  t5 := Tryd.underlying5
  a5 := Tryd.isAgg5
  z5 := Tryd.sizeOf5
  v5 := Tryd.zeroValue5
  t9 := Tryd.underlying9
  a9 := Tryd.isAgg9
  z9 := Tryd.sizeOf9
  v9 := Tryd.zeroValue9
  t20 := Tryd.underlying20
  a20 := Tryd.isAgg20
  z20 := Tryd.sizeOf20
  v20 := Tryd.zeroValue20
  t37 := Tryd.underlying36
  a37 := Tryd.isAgg36
  z37 := Tryd.sizeOf36
  v37 := Tryd.zeroValue36
  t46 := Tryd.underlying167
  a46 := Tryd.isAgg167
  z46 := Tryd.sizeOf167
  v46 := Tryd.zeroValue167
  t51 := Tryd.underlying193
  a51 := Tryd.isAgg193
  z51 := Tryd.sizeOf193
  v51 := Tryd.zeroValue193
  t53 := Tryd.underlying169
  a53 := Tryd.isAgg169
  z53 := Tryd.sizeOf169
  v53 := Tryd.zeroValue169
  t171 := Tryd.underlying168
  a171 := Tryd.isAgg168
  z171 := Tryd.sizeOf168
  v171 := Tryd.zeroValue168
  t173 := Tryd.underlying172
  a173 := Tryd.isAgg172
  z173 := Tryd.sizeOf172
  v173 := Tryd.zeroValue172
  t212 := Tryd.underlying192
  a212 := Tryd.isAgg192
  z212 := Tryd.sizeOf192
  v212 := Tryd.zeroValue192
  t213 := Tryd.underlying194
  a213 := Tryd.isAgg194
  z213 := Tryd.sizeOf194
  t232 := Tryd.underlying204
  a232 := Tryd.isAgg204
  z232 := Tryd.sizeOf204
  v232 := Tryd.zeroValue204
  t233 := Tryd.underlying205
  a233 := Tryd.isAgg205
  z233 := Tryd.sizeOf205
  v233 := Tryd.zeroValue205
  g17 := by kernel_rfl
  g18 := by kernel_rfl
  g19 := by kernel_rfl
  i0 := by kernel_rfl
  i2 := by kernel_rfl
  i3 := by kernel_rfl
  i4 := by kernel_rfl
  i5 := by kernel_rfl
  i9 := by kernel_rfl
  i20 := by kernel_rfl
  i37 := by kernel_rfl
  i46 := by kernel_rfl
  i51 := by kernel_rfl
  i53 := by kernel_rfl
  i171 := by kernel_rfl
  i173 := by kernel_rfl
  i212 := by kernel_rfl
  i232 := by kernel_rfl
  i233 := by kernel_rfl
  m17 := by kernel_rfl
  m18 := by kernel_rfl
  m19 := by kernel_rfl }
def st156_ren : Go.Shelf.Ren := ⟨fun | 156 => 58 | 165 => 87 | 166 => 35 | 169 => 36 | 240 => 62 | 241 => 115 | 276 => 88 | 277 => 133 | n => n, fun | 31 => 47 | 9 => 9 | 3 => 3 | 4 => 4 | 0 => 0 | 20 => 20 | 72 => 71 | 76 => 74 | 70 => 69 | 37 => 36 | 75 => 73 | 127 => 103 | 164 => 129 | 5 => 5 | 80 => 76 | n => n, fun | n => n⟩
theorem st156 : Go.Proofs.Lays.n156 Tryd.prog st156_ren := {
  mixed := by kernel_rfl
  f156 := Tryd.func58.trans (congrArg some (by kernel_rfl))
  f165 := Tryd.func87.trans (congrArg some (by kernel_rfl))
  f166 := Tryd.func35.trans (congrArg some (by kernel_rfl))
  f169 := Tryd.func36.trans (congrArg some (by kernel_rfl))
  f240 := Tryd.func62.trans (congrArg some (by kernel_rfl))
  f241 := Tryd.func115.trans (congrArg some (by kernel_rfl))
  f276 := Tryd.func88.trans (congrArg some (by kernel_rfl))
  f277 := Tryd.func133.trans (congrArg some (by kernel_rfl))
  t0 := Tryd.underlying0
  a0 := Tryd.isAgg0
  z0 := Tryd.sizeOf0
  v0 := Tryd.zeroValue0
  t3 := Tryd.underlying3
  a3 := Tryd.isAgg3
  z3 := Tryd.sizeOf3
  v3 := Tryd.zeroValue3
  t4 := Tryd.underlying4
  a4 := Tryd.isAgg4
  z4 := Tryd.sizeOf4
  v4 := Tryd.zeroValue4
  t9 := Tryd.underlying9
  a9 := Tryd.isAgg9
  z9 := Tryd.sizeOf9
  v9 := Tryd.zeroValue9
  t20 := Tryd.underlying20
  a20 := Tryd.isAgg20
  z20 := Tryd.sizeOf20
  v20 := Tryd.zeroValue20
  t31 := Tryd.underlying47
  a31 := Tryd.isAgg47
  z31 := Tryd.sizeOf47
  v31 := Tryd.zeroValue47
  t37 := Tryd.underlying36
  a37 := Tryd.isAgg36
  z37 := Tryd.sizeOf36
  v37 := Tryd.zeroValue36
  t70 := Tryd.underlying69
  a70 := Tryd.isAgg69
  z70 := Tryd.sizeOf69
  v70 := Tryd.zeroValue69
  t72 := Tryd.underlying71
  a72 := Tryd.isAgg71
  z72 := Tryd.sizeOf71
  v72 := Tryd.zeroValue71
  t75 := Tryd.underlying73
  a75 := Tryd.isAgg73
  z75 := Tryd.sizeOf73
  v75 := Tryd.zeroValue73
  t76 := Tryd.underlying74
  a76 := Tryd.isAgg74
  z76 := Tryd.sizeOf74
  v76 := Tryd.zeroValue74
  t127 := Tryd.underlying103
  a127 := Tryd.isAgg103
  z127 := Tryd.sizeOf103
  v127 := Tryd.zeroValue103
  t164 := Tryd.underlying129
  a164 := Tryd.isAgg129
  z164 := Tryd.sizeOf129
  v164 := Tryd.zeroValue129 }
theorem sx156 : Builder.Extra Tryd.prog st156_ren := {
  sizeBuilder := by kernel_rfl
  liesBuilder := by kernel_rfl
  t5 := Tryd.underlying5
  a5 := Tryd.isAgg5
  z5 := Tryd.sizeOf5
  v5 := Tryd.zeroValue5
  infoByte := by kernel_rfl
  cellsByte := by kernel_rfl
  sizeByte := by kernel_rfl
  neB5 := by decide }
end Go.Proofs.YtojiighpkppckaaDoor.P


namespace Go.Proofs.YtojiighpkppckaaDoor.P
open Go.RowKit Go.Proofs.YtojiighpkppckaaDoorW.PrintWords Go.Proofs.YtojiighpkppckaaDoorW.PrintLast Go.Proofs.YtojiighpkppckaaDoorW.PrintMore Go.Proofs.YtojiighpkppckaaDoor.V
attribute [local go_sem] cell_b frozen_b
attribute [local go_sem] max2_int min2_int max_two min_two max_three min_three max_four min_four
set_option linter.unusedVariables false
set_option linter.unusedSimpArgs false
def impl_FormatInt.f (a0 : Int) : Option (ByteArray) := if -9223372036854775808 ≤ a0 ∧ a0 ≤ 9223372036854775807 then some ⟨(Go.Lib.itoa a0).toArray⟩ else none
set_option maxRecDepth 100000 in
theorem impl_FormatInt.calls (a0 : Int) (r : ByteArray) (w : World) (h : impl_FormatInt.f a0 = some r) (ht_ : Aside0 (Tab w)) :
    Calls Tryd.prog 19 #[.int .i64 a0] w fun e w' => e = .returned (.string r) ∧ Below w.heap.size w w' := by
  unfold impl_FormatInt.f at h
  by_cases hc : -9223372036854775808 ≤ a0 ∧ a0 ≤ 9223372036854775807
  · rw [if_pos hc] at h
    obtain rfl := Option.some.inj h
    go_enter Tryd.func19, Tryd.ntmps19
    go_wp2_with (go_at_call 41; refine (Any.strconv_Itoa st171 a0 hc.1 hc.2 _ ht_.out).mono ?_; rintro e w' ⟨rfl, k, os, rfl⟩)
    go_ret
    exact ⟨rfl, Go.Lib.below_grow _ _ (Nat.le_refl _) _ _⟩
  · rw [if_neg hc] at h; cases h
end Go.Proofs.YtojiighpkppckaaDoor.P


namespace Go.Proofs.YtojiighpkppckaaDoor.P
open Go.RowKit Go.Proofs.YtojiighpkppckaaDoorW.PrintWords Go.Proofs.YtojiighpkppckaaDoorW.PrintLast Go.Proofs.YtojiighpkppckaaDoorW.PrintMore Go.Proofs.YtojiighpkppckaaDoor.V
attribute [local go_sem] cell_b frozen_b
attribute [local go_sem] max2_int min2_int max_two min_two max_three min_three max_four min_four
set_option linter.unusedVariables false
set_option linter.unusedSimpArgs false
def strings_Join.f (l0 : List ByteArray) (a1 : ByteArray) : Option (ByteArray) := if l0.length ≤ 140737488355328 ∧ (Go.Lib.join (l0.map (·.data.toList)) a1.data.toList).length ≤ 140737488355328 then some ⟨(Go.Lib.join (l0.map (·.data.toList)) a1.data.toList).toArray⟩ else none
theorem strings_Join.calls (A0 : Option Addr) (c0 : Nat) (l0 : List ByteArray) (a1 : ByteArray) (r : ByteArray) (w : World) (hr0 : Kd.C Kd.string w A0 l0.length l0) (hc0 : l0.length ≤ c0) (h : strings_Join.f l0 a1 = some r) :
    Calls Tryd.prog 58 #[.slice A0 l0.length c0, .string a1] w fun e w' => e = .returned (.string r) ∧ Below w.heap.size w w' := by
  unfold strings_Join.f at h
  by_cases hc : l0.length ≤ 140737488355328 ∧ (Go.Lib.join (l0.map (·.data.toList)) a1.data.toList).length ≤ 140737488355328
  rotate_left
  · rw [if_neg hc] at h; cases h
  rw [if_pos hc] at h
  obtain rfl := Option.some.inj h
  by_cases hz : l0.length = 0
  · obtain rfl : l0 = [] := List.eq_nil_of_length_eq_zero hz
    exact (Any.strings_Join_none st156 sx156 A0 c0 a1 w).mono fun e w' ⟨he, hw⟩ => ⟨he, hw ▸ Below.refl _ _⟩
  · obtain ⟨ad, rfl, hcell⟩ := (Kd.reads_of_C (d := ByteArray.empty) hr0).2.2 (by omega)
    have h0 := hcell 0 (by omega)
    obtain ⟨bk, o, sp⟩ := ad
    obtain rfl : sp = none := by
      cases sp with
      | none => rfl
      | some x => unfold World.cell? at h0; simp only [Addr.add] at h0; split at h0 <;> simp at h0
    refine Any.strings_Join st156 sx156 bk o c0 l0 a1 w (fun j x hx => ?_) (World.block_lt_of_cell? w _ h0) hc.1 hc0 hc.2
    have hj : j < l0.length := by
      rcases Nat.lt_or_ge j l0.length with h' | h'
      · exact h'
      · rw [List.getElem?_eq_none h'] at hx; cases hx
    have h1 := hcell j hj
    rw [List.getD_eq_getElem?_getD, hx] at h1
    by_cases hj0 : j = 0
    · subst hj0; simpa [Addr.add] using h1
    · simpa [Addr.add, hj0] using h1
end Go.Proofs.YtojiighpkppckaaDoor.P


namespace Go.Proofs.YtojiighpkppckaaDoor.P
open Go.RowKit Go.Proofs.YtojiighpkppckaaDoorW.PrintWords Go.Proofs.YtojiighpkppckaaDoorW.PrintLast Go.Proofs.YtojiighpkppckaaDoorW.PrintMore Go.Proofs.YtojiighpkppckaaDoor.V
attribute [local go_sem] cell_b frozen_b
attribute [local go_sem] max2_int min2_int max_two min_two max_three min_three max_four min_four
set_option linter.unusedVariables false
set_option linter.unusedSimpArgs false
def impl_words.l0 : Nat → List ByteArray → List Int → Int → Int → Option (ByteArray)
  | 0, _, _, _, _ => none
  | k + 1, x3, x7, x8, x9 => if x9 < x8 then (if 0 ≤ x9 then (if x9 < (x7.length : Int) then ((impl_FormatInt.f (rd x7 x9)).bind fun t167 => (if x3.length < 8796093022208 then (impl_words.l0 k (x3 ++ [t167]) x7 x8 (wrap64 (x9 + 1))) else (none))) else (none)) else (none)) else ((strings_Join.f x3 (⟨#[32]⟩ : ByteArray)).bind fun t171 => (some t171))
def impl_words.f (k : Nat) (l0 : List Int) : Option (ByteArray) := impl_words.l0 k (([] : List ByteArray)) l0 (l0.length : Int) 0
set_option maxHeartbeats 8000000 in
set_option maxRecDepth 100000 in
theorem impl_words.calls (k : Nat) (A0 : Option Addr) (c0 : Nat) (l0 : List Int) (r : ByteArray) (w : World) (hr0 : Kd.C (Kd.int .i64) w A0 l0.length l0) (hc0 : l0.length ≤ c0) (h : impl_words.f k l0 = some r) (ht_ : Aside0 (Tab w)) :
    Calls Tryd.prog 34 #[.slice A0 l0.length c0] w fun e w' => e = .returned (.string r) ∧ Below w.heap.size w w' := by
  have HR0 := Aside0.mk hr0
  have HC0 := Aside0.mk hc0
  clear hr0 hc0
  have HB := Aside0.mk (Below.refl w.heap.size w)
  have H : (impl_words.l0 k (([] : List ByteArray)) l0 (l0.length : Int) 0) = some r := h
  clear h
  obtain ⟨y163, hy163⟩ : ∃ y_ : List ByteArray, y_ = (([] : List ByteArray)) := ⟨_, rfl⟩
  replace H : (impl_words.l0 k y163 l0 (l0.length : Int) 0) = some r := by first | (rw [hy163]; with_reducible exact H) | (have H2_ := (Option.bind_some _ _).symm.trans H; rw [hy163]; with_reducible exact H2_) | (have H2_ := (Option.bind_some _ _).symm.trans H; with_reducible exact H2_) | with_reducible exact H | (rw [hy163]; exact H) | exact H
  have Ny163 := Aside0.mk hy163
  clear hy163
  have H' := Aside0.mk H
  clear H
  go_enter Tryd.func34, Tryd.ntmps34
  go_wp2_with (first | ((with_reducible refine gate_dst (N := 6) rfl ?_); refine Kd.R_lit Kd.string _ 9 ?hg (N := 6) ?hd (xs := ([] : List ByteArray)) (inner := []) (ok := fun _ => True) (okp := fun _ => True) ?hr ?hp (fun _ hk => hk) trivial (Below.refl _ _) (Nat.le_refl _) (by simp) ?_; (case hd => rfl); (case hg => rfl); (case hr => first | (go_simp; done) | (go_simp; rfl)); (case hp => exact (Reps.none _ _)); intro v164 w2 ho3 hb hg_ hnew_; clear hg_ hnew_; (first | rw [← Ny163.out] at ho3 | (simp only [Int.reduceToNat] at ho3; rw [← Ny163.out] at ho3)); have n0_ := Aside0.mk (Kd.R_lower ho3 (below_size (oB HB))); have n1_ := Aside0.mk (below_step (oB HB) hb); clear HB; have HO165 := n0_; have HB := n1_; clear n0_ n1_; clear hb ho3))
  go_loopg [3, 9] k (fun kq v3 v9 w' => ∃ (x3_1 : List ByteArray) (x9_1 : Int), v9 = .int .i64 x9_1 ∧ Aside0 (impl_words.l0 kq x3_1 l0 (l0.length : Int) x9_1 = some r) ∧ Aside0 (kq ≤ k) ∧ Aside0 (Kd.R Kd.string 9 w' w.heap.size (fun _ => True) v3 x3_1) ∧ Aside0 (Below w.heap.size w w'))
  case atStart => exact ⟨(y163), (0), (by first | rfl | (simp; done) | (simp [*]; done)), H', ⟨Nat.le_refl _⟩, ⟨oR HO165⟩, ⟨oB HB⟩⟩
  case round =>
    clear H'
    try clear p2
    try clear c3
    obtain ⟨x3_1, x9_1, rfl, HA, HK1, HO_3, HB⟩ := hrel
    cases gk with
    | zero => exact absurd HA.out (by simp [impl_words.l0])
    | succ k1 =>
      have H := HA.out
      clear HA
      simp only [impl_words.l0] at H
      by_cases c4 : x9_1 < (l0.length : Int)
      · rw [if_pos c4] at H
        have c4b0 : decide (x9_1 < (l0.length : Int)) = true := decide_eq_true c4
        clear c4
        by_cases c5 : 0 ≤ x9_1
        · rw [if_pos c5] at H
          have c5b0 : decide (0 ≤ x9_1) = true := decide_eq_true c5
          clear c5
          by_cases c6 : x9_1 < (l0.length : Int)
          · rw [if_pos c6] at H
            have c6b0 : decide (x9_1 < (l0.length : Int)) = true := decide_eq_true c6
            clear c6
            replace H := Option.bind_eq_some_iff.mp H
            obtain ⟨t167, A70, H⟩ := H
            (try dsimp only at H)
            have A7 := Aside0.mk A70
            clear A70
            by_cases c8 : x3_1.length < 8796093022208
            · rw [if_pos c8] at H
              have LMc8 := Aside0.mk c8
              clear c8
              obtain ⟨y168, hy168⟩ : ∃ y_ : List ByteArray, y_ = (x3_1 ++ [t167]) := ⟨_, rfl⟩
              replace H : (impl_words.l0 k1 y168 l0 (l0.length : Int) (wrap64 (x9_1 + 1))) = some r := by first | (rw [hy168]; with_reducible exact H) | (have H2_ := (Option.bind_some _ _).symm.trans H; rw [hy168]; with_reducible exact H2_) | (have H2_ := (Option.bind_some _ _).symm.trans H; with_reducible exact H2_) | with_reducible exact H | (rw [hy168]; exact H) | exact H
              have Ny168 := Aside0.mk hy168
              clear hy168
              have H' := Aside0.mk H
              clear H
              have p166 : 0 ≤ (x9_1 : Int) := of_decide_eq_true (by first | (with_reducible assumption) | assumption)
              have q166 : x9_1 < (l0.length : Int) := of_decide_eq_true (by first | (with_reducible assumption) | assumption)
              obtain ⟨ad166, e166, hx166_0⟩ := Kd.at_int HR0.out x9_1 p166 q166
              cases e166
              replace hx166_0 := (HB.out.cell (World.block_lt_of_cell? w _ hx166_0)).trans hx166_0
              replace p166 := eq_true p166
              replace q166 := eq_true q166
              go_wp2_with (first | ((with_reducible refine gate_callee (f := 19) rfl ?_); refine goesL_ (some 15) rfl rfl Tryd.func19 (by kernel_rfl) rfl #[.int .i64 (rd l0 x9_1)] rfl (by (try simp only [List.map_toArray, List.map_cons, List.map_nil]); first | done | rfl | (simp only [List.length_drop, List.length_take]; rfl)) ?_; (with_reducible refine (impl_FormatInt.calls (rd l0 x9_1) t167 _ A7.out ?sideT).mono ?_); (case sideT => exact ⟨tab_on ht_.out (oB HB)⟩); rintro e w9 ⟨rfl, hb⟩; refine ⟨_, rfl, ?_⟩; have n0_ := Aside0.mk (Kd.R_below (oR HO_3) hb); have n1_ := Aside0.mk (below_step (oB HB) hb); clear HO_3; clear HB; have HO_3 := n0_; have HB := n1_; clear n0_ n1_; (try clear hb); (try clear hb2); (try clear hk); (try clear hi)) | ((with_reducible refine gate_builtin (b := .append) (xs := #[.tmp 13, .tmp 16]) rfl ?_); at_builtin; refine Kd.R_append Kd.string (w0 := w) w.heap.size rfl (.tmp 13) (.tmp 16) 47 9 (.string ⟨#[]⟩) 16 rfl Tryd.underlying47 info9 rfl (by decide) (by omega) u3 x3_1 t167 [.string t167] (fun _ => True) (fun _ => False) rfl rfl ?aP (fun _ hk => hk.elim) ?aF ?aO ?aB ?aS ?aL ?_; (case aP => exact rfl); (case aB => exact (oB HB)); (case aF => exact (fun _ _ => trivial)); (case aO => exact (oR HO_3)); (case aS => exact (below_size (oB HB))); (case aL => have := LMc8.out; omega); intro v169 w10 ho hb hg hat; rw [← Ny168.out] at ho; have n0_ := Aside0.mk (hb); have n1_ := Aside0.mk (ho); clear HB; clear HO_3; have HB := n0_; have HO170 := n1_; clear n0_ n1_; clear ho hb hg hat))
              go_roundg k1
              case measure => have := HK1.out; omega
              case rel => exact ⟨(y168), (wrap64 (x9_1 + 1)), (by first | rfl | (simp; done) | (simp [*]; done)), H', ⟨by have := HK1.out; omega⟩, ⟨oR HO170⟩, ⟨oB HB⟩⟩
            · rw [if_neg c8] at H
              exact absurd H (by simp)
          · rw [if_neg c6] at H
            exact absurd H (by simp)
        · rw [if_neg c5] at H
          exact absurd H (by simp)
      · rw [if_neg c4] at H
        have c4b0 : decide (x9_1 < (l0.length : Int)) = false := decide_eq_false c4
        clear c4
        replace H := Option.bind_eq_some_iff.mp H
        obtain ⟨t171, A110, H⟩ := H
        (try dsimp only at H)
        have A11 := Aside0.mk A110
        clear A110
        obtain rfl := Option.some.inj H
        obtain ⟨Ao12, co12, eo12⟩ := Kd.R_slice HO_3.out
        subst eo12
        go_wp2_with (first | ((with_reducible refine gate_callee (f := 58) rfl ?_); refine goesL_ (some 20) rfl rfl Tryd.func58 (by kernel_rfl) rfl #[.slice Ao12 x3_1.length co12, .string (⟨#[32]⟩ : ByteArray)] rfl (by (try simp only [List.map_toArray, List.map_cons, List.map_nil]); first | done | rfl | (simp only [List.length_drop, List.length_take]; rfl)) ?_; (with_reducible refine (strings_Join.calls _ _ x3_1 (⟨#[32]⟩ : ByteArray) t171 _ ?side1 ?side2 A11.out).mono ?_); (case side1 => repeat (first | exact (Kd.R_reads' HO_3.out).2.2 | (with_reducible refine Kd.C_alloc ?_ _) | (with_reducible refine Kd.C_drewN ?_ _) | (with_reducible refine Kd.C_drew ?_))); (case side2 => exact (Kd.R_reads' HO_3.out).2.1); rintro e w13 ⟨rfl, hb⟩; refine ⟨_, rfl, ?_⟩; have n0_ := Aside0.mk (Kd.R_below (oR HO_3) hb); have n1_ := Aside0.mk (below_step (oB HB) hb); clear HO_3; clear HB; have HO_3 := n0_; have HB := n1_; clear n0_ n1_; (try clear hb); (try clear hb2); (try clear hk); (try clear hi)))
        go_ret
        exact ⟨by first | rfl | (simp [errW_none, errW_some] <;> rfl) | (simp [*, errW_none, errW_some] <;> rfl), oB HB⟩
end Go.Proofs.YtojiighpkppckaaDoor.P


namespace Go.Proofs.YtojiighpkppckaaDoor.Q
set_option linter.unusedVariables false
set_option linter.unusedSimpArgs false
open Go.RowKit Go.Proofs.YtojiighpkppckaaDoor.P
def entOk (e : S85) : Bool := decide (0 ≤ e.f0.f0 ∧ e.f0.f0 ≤ 3) && (decide (0 ≤ e.f0.f1 ∧ e.f0.f1 ≤ 39) && (decide (0 ≤ e.f1 ∧ e.f1 ≤ 2) && decide (0 ≤ e.f2 ∧ e.f2 ≤ 100000)))
def logGo : Int → List S85 → Bool
  | _, [] => true
  | p, e :: r => entOk e && (decide (p ≤ e.f2) && logGo e.f2 r)
def logOk (l : List S85) : Bool := logGo 0 l && decide (l.length ≤ 30)
def prevM (l : List S85) (i : Nat) : Int := if i = 0 then 0 else (l.getD (i - 1) z85).f2
theorem prevM_succ (l : List S85) (i : Nat) (h : i < l.length) : prevM l (i + 1) = l[i].f2 := by simp [prevM, List.getD_eq_getElem?_getD, h]
theorem prevM_pos (l : List S85) (i : Nat) (h0 : 0 < i) (h : i < l.length) : prevM l i = l[i - 1].f2 := by
  simp [prevM, List.getD_eq_getElem?_getD, show i ≠ 0 by omega, show i - 1 < l.length by omega]
theorem logGo_at (l : List S85) (i : Nat) (h : i < l.length) : logGo (prevM l i) (l.drop i) = (entOk l[i] && (decide (prevM l i ≤ l[i].f2) && logGo (prevM l (i + 1)) (l.drop (i + 1)))) := by
  rw [List.drop_eq_getElem_cons h, prevM_succ l i h]; rfl
end Go.Proofs.YtojiighpkppckaaDoor.Q


namespace Go.Proofs.YtojiighpkppckaaDoor.P
open Go.RowKit Go.Proofs.YtojiighpkppckaaDoorW.PrintWords Go.Proofs.YtojiighpkppckaaDoorW.PrintLast Go.Proofs.YtojiighpkppckaaDoorW.PrintMore
attribute [local go_sem] max2_int min2_int max_two min_two max_three min_three max_four min_four
set_option linter.unusedVariables false
set_option linter.unusedSimpArgs false
def impl_within.f (a0 : Int) (a1 : Int) (a2 : Int) : Option (Bool) := if a1 ≤ a0 then (some (decide (a0 ≤ a2))) else (some false)
set_option maxHeartbeats 8000000 in
set_option maxRecDepth 100000 in
theorem impl_within.calls (a0 : Int) (a1 : Int) (a2 : Int) (r : Bool) (w : World) (h : impl_within.f a0 a1 a2 = some r) :
    Calls Tryd.prog 61 #[.int .i64 a0, .int .i64 a1, .int .i64 a2] w fun e w' => e = .returned (.bool r) ∧ Drawn0 w w' := by
  have H : (if a1 ≤ a0 then (some (decide (a0 ≤ a2))) else (some false)) = some r := h
  clear h
  by_cases c4 : a1 ≤ a0
  · rw [if_pos c4] at H
    have c4b0 : decide (a1 ≤ a0) = true := decide_eq_true c4
    clear c4
    obtain rfl := Option.some.inj H
    go_enter Tryd.func61, Tryd.ntmps61
    go_wp2
    go_ret
    exact ⟨by first | rfl | (simp; done) | (simp [*]; done), by repeat (first | exact Drawn0.refl _ | apply Drawn0.step)⟩
  · rw [if_neg c4] at H
    have c4b0 : decide (a1 ≤ a0) = false := decide_eq_false c4
    clear c4
    obtain rfl := Option.some.inj H
    go_enter Tryd.func61, Tryd.ntmps61
    go_wp2
    go_ret
    exact ⟨by first | rfl | (simp; done) | (simp [*]; done), by repeat (first | exact Drawn0.refl _ | apply Drawn0.step)⟩
end Go.Proofs.YtojiighpkppckaaDoor.P


namespace Go.Proofs.YtojiighpkppckaaDoor.P
open Go.RowKit Go.Proofs.YtojiighpkppckaaDoorW.PrintWords Go.Proofs.YtojiighpkppckaaDoorW.PrintLast Go.Proofs.YtojiighpkppckaaDoorW.PrintMore
attribute [local go_sem] max2_int min2_int max_two min_two max_three min_three max_four min_four
set_option linter.unusedVariables false
set_option linter.unusedSimpArgs false
def stepOk (x : S145) (t : List Bool) : Bool :=
  (decide (x.f2 = 1) || decide (x.f2 = 2)) && (decide (0 ≤ x.f3 ∧ x.f3 ≤ 5000) && (decide (0 ≤ x.f0 ∧ x.f0 ≤ 11) && (decide (0 ≤ x.f1 ∧ x.f1 ≤ 11) && (decide (x.f1 = (x.f0 + 1) % 12) && (t.getD x.f0.toNat false && !t.getD x.f1.toNat false)))))
def planGo : List S145 → List Bool → Bool
  | [], _ => true
  | x :: r, t => stepOk x t && planGo r (t.set x.f1.toNat true)
def tuned0 : List Bool := true :: List.replicate 11 false
def planOk (l : List S145) : Bool := decide (l.length ≤ 11) && planGo l tuned0
def impl_PlanOk.f (l0 : List (S145)) : Option (Bool) := some (planOk l0)
set_option maxHeartbeats 8000000 in
set_option maxRecDepth 100000 in
theorem impl_PlanOk.calls (A0 : Option Addr) (c0 : Nat) (l0 : List (S145)) (r : Bool) (w : World) (hr0 : Kd.C k145 w A0 l0.length l0) (hc0 : l0.length ≤ c0) (h : impl_PlanOk.f l0 = some r) :
    Calls Tryd.prog 99 #[.slice A0 l0.length c0] w fun e w' => e = .returned (.bool r) ∧ Below w.heap.size w w' := by
  have H := Option.some.inj h
  clear h
  by_cases h11 : l0.length ≤ 11
  rotate_left
  · have hb : decide (11 < (l0.length : Int)) = true := decide_eq_true (by omega)
    have hb2 : decide (11 < l0.length) = true := decide_eq_true (by omega)
    obtain rfl : false = r := by rw [← H]; simp [planOk, h11]
    go_enter Tryd.func99, Tryd.ntmps99
    go_wp2
    go_ret
    exact ⟨rfl, Below.refl _ _⟩
  · have hb : decide (11 < (l0.length : Int)) = false := decide_eq_false (by omega)
    have hb2 : decide (11 < l0.length) = false := decide_eq_false (by omega)
    go_enter Tryd.func99, Tryd.ntmps99
    go_wp2
    go_loopg [12] (l0.length + 1) (fun kq v12 w' => ∃ (i : Nat) (tn : List Bool), v12 = .int .i64 (i : Int) ∧ Aside0 (i + kq = l0.length + 1) ∧ Aside0 (i ≤ l0.length) ∧ Aside0 (tn.length = 12) ∧ Aside0 (w'.heap[w.heap.size]? = some (.cells (tn.map Value.bool).toArray 143 (0, 0))) ∧ Aside0 (planGo (l0.drop i) tn = r) ∧ Aside0 (Below w.heap.size w w'))
    case atStart =>
      exact ⟨0, tuned0, rfl, ⟨by omega⟩, ⟨by omega⟩, ⟨rfl⟩, ⟨by rw [heap_alloc_new]; rfl⟩, ⟨by rw [← H]; simp [planOk, h11]⟩, ⟨below_alloc (Below.refl _ _) _⟩⟩
    case round =>
      obtain ⟨i, tn, rfl, HK, HI, HT, HA, HP, HB⟩ := hrel
      by_cases hlt : i < l0.length
      rotate_left
      · have hb3 : decide ((i : Int) < (l0.length : Int)) = false := decide_eq_false (by omega)
        have hb4 : decide (i < l0.length) = false := decide_eq_false (by omega)
        obtain rfl : true = r := by
          have h1 := HP.out
          rw [List.drop_eq_nil_of_le (by omega)] at h1
          exact h1
        go_wp2
        go_ret
        exact ⟨rfl, HB.out⟩
      · have hb3 : decide ((i : Int) < (l0.length : Int)) = true := decide_eq_true (by omega)
        have hb4 : decide (i < l0.length) = true := decide_eq_true (by omega)
        obtain ⟨ad, e, hx0, hx1, hx2, hx3⟩ := at_T145 hr0 (i : Int) (by omega) (by omega)
        cases e
        replace hx0 := (HB.out.cell (World.block_lt_of_cell? w _ hx0)).trans hx0
        replace hx1 := (HB.out.cell (World.block_lt_of_cell? w _ hx1)).trans hx1
        replace hx2 := (HB.out.cell (World.block_lt_of_cell? w _ hx2)).trans hx2
        replace hx3 := (HB.out.cell (World.block_lt_of_cell? w _ hx3)).trans hx3
        obtain ⟨x, hx⟩ : ∃ x, rd_T145 l0 (i : Int) = x := ⟨_, rfl⟩
        rw [hx] at hx0 hx1 hx2 hx3
        simp only [Int.toNat_natCast] at hx0 hx1 hx2 hx3
        have hd : planGo (l0.drop i) tn = (stepOk x tn && planGo (l0.drop (i + 1)) (tn.set x.f1.toNat true)) := by
          rw [List.drop_eq_getElem_cons hlt]
          have e0 : l0[i] = x := by rw [← hx]; simp [rd_T145, List.getD_eq_getElem?_getD, hlt]
          rw [e0]; rfl
        have HX := Aside0.mk hx
        clear hx
        have HD := Aside0.mk hd
        clear hd
        have win : ∀ (a b c : Int) (d : Bool) (W : World), decide (b ≤ a ∧ a ≤ c) = d → Calls Tryd.prog 61 #[.int .i64 a, .int .i64 b, .int .i64 c] W fun e w' => e = .returned (.bool d) ∧ Drawn0 W w' := fun a b c d W hd =>
          impl_within.calls a b c d W (by rw [← hd]; unfold impl_within.f; by_cases hh : b ≤ a <;> simp [hh])
        have tc : ∀ k, k < 12 → ∀ o : Obj, (wr.alloc o).cell? ⟨w.heap.size, k, none⟩ = some (.bool (tn.getD k false)) := fun k hk o => (blk_cell (blk_alloc HA.out o) k).trans (by have := HT.out; simp [List.getD_eq_getElem?_getD, show k < tn.length by omega])
        by_cases q1 : 0 ≤ x.f3 ∧ x.f3 ≤ 5000
        rotate_left
        · have W1 := Aside0.mk fun W => win x.f3 0 5000 false W (decide_eq_false q1)
          have Q1 := Aside0.mk q1
          clear q1 win tc
          go_wp2_with (first | (go_at_call 61; (with_reducible refine (W1.out _).mono ?_); rintro e w' ⟨rfl, ⟨nd, rfl⟩⟩))
          all_goals
            obtain rfl : false = r := by
              rw [← HP.out, HD.out]; simp [stepOk, Q1.out]
            go_ret
            exact ⟨rfl, by repeat (first | exact HB.out | apply below_alloc | apply pw_below_drewN | apply below_drew1)⟩
        have W1 := Aside0.mk fun W => win x.f3 0 5000 true W (decide_eq_true q1)
        by_cases q2 : 0 ≤ x.f0 ∧ x.f0 ≤ 11
        rotate_left
        · have W2 := Aside0.mk fun W => win x.f0 0 11 false W (decide_eq_false q2)
          have Q1 := Aside0.mk q2
          clear q1 q2 win tc
          go_wp2_with (first | (go_at_call 61; (with_reducible refine (W1.out _).mono ?_); rintro e w' ⟨rfl, ⟨nd, rfl⟩⟩) | (go_at_call 61; (with_reducible refine (W2.out _).mono ?_); rintro e w' ⟨rfl, ⟨nd, rfl⟩⟩))
          all_goals
            obtain rfl : false = r := by
              rw [← HP.out, HD.out]; simp [stepOk, Q1.out]
            go_ret
            exact ⟨rfl, by repeat (first | exact HB.out | apply below_alloc | apply pw_below_drewN | apply below_drew1)⟩
        have W2 := Aside0.mk fun W => win x.f0 0 11 true W (decide_eq_true q2)
        by_cases q3 : 0 ≤ x.f1 ∧ x.f1 ≤ 11
        rotate_left
        · have W3 := Aside0.mk fun W => win x.f1 0 11 false W (decide_eq_false q3)
          have Q1 := Aside0.mk q3
          clear q1 q2 q3 win tc
          go_wp2_with (first | (go_at_call 61; (with_reducible refine (W1.out _).mono ?_); rintro e w' ⟨rfl, ⟨nd, rfl⟩⟩) | (go_at_call 61; (with_reducible refine (W2.out _).mono ?_); rintro e w' ⟨rfl, ⟨nd, rfl⟩⟩) | (go_at_call 61; (with_reducible refine (W3.out _).mono ?_); rintro e w' ⟨rfl, ⟨nd, rfl⟩⟩))
          all_goals
            obtain rfl : false = r := by
              rw [← HP.out, HD.out]; simp [stepOk, Q1.out]
            go_ret
            exact ⟨rfl, by repeat (first | exact HB.out | apply below_alloc | apply pw_below_drewN | apply below_drew1)⟩
        have W3 := Aside0.mk fun W => win x.f1 0 11 true W (decide_eq_true q3)
        clear win
        obtain ⟨q2a, q2b⟩ := q2
        obtain ⟨q3a, q3b⟩ := q3
        have Q13 := Aside0.mk q1
        clear q1
        have hc0 := tc x.f0.toNat (by omega)
        have hc1 := tc x.f1.toNat (by omega)
        have hfz := fun o : Obj => blk_frozen (blk_alloc HA.out o) x.f1.toNat
        clear tc
        by_cases q4 : x.f1 = (x.f0 + 1) % 12
        rotate_left
        · have q4a : (x.f1 == (x.f0 + 1) % 12) = false := beq_eq_false_iff_ne.mpr q4
          have q4b : (x.f1 != (x.f0 + 1) % 12) = true := bne_iff_ne.mpr q4
          have Q4 := Aside0.mk q4
          clear q4 hc0 hc1 hfz
          go_wp2_with (first | (go_at_call 61; (with_reducible refine (W1.out _).mono ?_); rintro e w' ⟨rfl, ⟨nd, rfl⟩⟩) | (go_at_call 61; (with_reducible refine (W2.out _).mono ?_); rintro e w' ⟨rfl, ⟨nd, rfl⟩⟩) | (go_at_call 61; (with_reducible refine (W3.out _).mono ?_); rintro e w' ⟨rfl, ⟨nd, rfl⟩⟩))
          all_goals
            obtain rfl : false = r := by
              rw [← HP.out, HD.out]; simp [stepOk, Q4.out]
            go_ret
            exact ⟨rfl, by repeat (first | exact HB.out | apply below_alloc | apply pw_below_drewN | apply below_drew1)⟩
        have q4a : (x.f1 == (x.f0 + 1) % 12) = true := beq_iff_eq.mpr q4
        have q4b : (x.f1 != (x.f0 + 1) % 12) = false := bne_eq_false_iff_eq.mpr q4
        have Q4 := Aside0.mk q4
        clear q4
        obtain ⟨b0, hb0⟩ : ∃ b, tn.getD x.f0.toNat false = b := ⟨_, rfl⟩
        obtain ⟨b1, hb1⟩ : ∃ b, tn.getD x.f1.toNat false = b := ⟨_, rfl⟩
        rw [hb0] at hc0
        rw [hb1] at hc1
        have B0 := Aside0.mk hb0
        have B1 := Aside0.mk hb1
        clear hb0 hb1
        go_wp2_with (first | (go_at_call 61; (with_reducible refine (W1.out _).mono ?_); rintro e w' ⟨rfl, ⟨nd, rfl⟩⟩) | (go_at_call 61; (with_reducible refine (W2.out _).mono ?_); rintro e w' ⟨rfl, ⟨nd, rfl⟩⟩) | (go_at_call 61; (with_reducible refine (W3.out _).mono ?_); rintro e w' ⟨rfl, ⟨nd, rfl⟩⟩))
        all_goals first
          | (go_ret
             have e : false = r := by
               have h3 := B0.out; have h4 := B1.out
               rw [← HP.out, HD.out]; unfold stepOk; rw [h3, h4]; simp [*]
             subst e
             exact ⟨rfl, by repeat (first | exact HB.out | apply below_alloc | apply pw_below_drewN | apply below_drew1)⟩)
          | (go_roundg (gk - 1)
             case measure => have := HK.out; omega
             case rel =>
               refine ⟨i + 1, tn.set x.f1.toNat true, by go_num, ⟨by have := HK.out; omega⟩, ⟨by omega⟩, ⟨by rw [List.length_set]; exact HT.out⟩, ⟨?_⟩, ⟨?_⟩, ⟨?_⟩⟩
               · refine blk_put (cs := (tn.map Value.bool).toArray) ?_ x.f1.toNat (.bool true) ?_
                 · repeat (first | exact HA.out | refine blk_drewN ?_ _ | refine blk_drew ?_ | refine blk_alloc ?_ _)
                 · simp [List.map_set]
               · rw [← HP.out, HD.out]
                 have e : stepOk x tn = true := by
                   have h1 := Q4.out; have h2 := Q13.out; have h3 := B0.out; have h4 := B1.out
                   unfold stepOk; rw [h3, h4]; simp [*]; omega
                 rw [e, Bool.true_and]
               · refine below_set ?_ (Nat.le_refl _)
                 repeat (first | exact HB.out | apply below_alloc | apply pw_below_drewN | apply below_drew1))
end Go.Proofs.YtojiighpkppckaaDoor.P


namespace Go.Proofs.YtojiighpkppckaaDoor.P
open Go.RowKit Go.Proofs.YtojiighpkppckaaDoorW.PrintWords Go.Proofs.YtojiighpkppckaaDoorW.PrintLast Go.Proofs.YtojiighpkppckaaDoorW.PrintMore
attribute [local go_sem] max2_int min2_int max_two min_two max_three min_three max_four min_four
set_option linter.unusedVariables false
set_option linter.unusedSimpArgs false
def impl_isFine.f (a0 : Int) : Option (Bool) := (impl_within.f a0 1 10000000).bind fun t845 => (some t845)
set_option maxHeartbeats 8000000 in
set_option maxRecDepth 100000 in
theorem impl_isFine.calls (a0 : Int) (r : Bool) (w : World) (h : impl_isFine.f a0 = some r) :
    Calls Tryd.prog 100 #[.int .i64 a0] w fun e w' => e = .returned (.bool r) ∧ Drawn0 w w' := by
  have H : ((impl_within.f a0 1 10000000).bind fun t845 => (some t845)) = some r := h
  clear h
  replace H := Option.bind_eq_some_iff.mp H
  obtain ⟨t845, A20, H⟩ := H
  (try dsimp only at H)
  have A2 := Aside0.mk A20
  clear A20
  obtain rfl := Option.some.inj H
  go_enter Tryd.func100, Tryd.ntmps100
  go_wp2_with (first | ((with_reducible refine gate_callee (f := 61) rfl ?_); refine goesL_ (some 4) rfl rfl Tryd.func61 (by kernel_rfl) rfl #[.int .i64 a0, .int .i64 1, .int .i64 10000000] rfl (by (try simp only [List.map_toArray, List.map_cons, List.map_nil]); first | done | rfl | (simp only [List.length_drop, List.length_take]; rfl)) ?_; (with_reducible refine (impl_within.calls a0 1 10000000 t845 _ A2.out).mono ?_); rintro e w' ⟨rfl, ⟨nd, rfl⟩⟩; refine ⟨_, rfl, ?_⟩))
  go_ret
  exact ⟨by first | rfl | (simp; done) | (simp [*]; done), by repeat (first | exact Drawn0.refl _ | apply Drawn0.step)⟩
end Go.Proofs.YtojiighpkppckaaDoor.P


namespace Go.Proofs.YtojiighpkppckaaDoor.P
open Go.RowKit Go.Proofs.YtojiighpkppckaaDoorW.PrintWords Go.Proofs.YtojiighpkppckaaDoorW.PrintLast Go.Proofs.YtojiighpkppckaaDoorW.PrintMore
attribute [local go_sem] max2_int min2_int max_two min_two max_three min_three max_four min_four
set_option linter.unusedVariables false
set_option linter.unusedSimpArgs false
def tunedBy (l : List S145) (t : List Bool) : List Bool := l.foldl (fun t x => t.set x.f1.toNat true) t
def keyGo : List Bool → List Int → Bool
  | b :: t, p :: q => (if b then decide (1 ≤ p ∧ p ≤ 10000000) else decide (p = 0)) && keyGo t q
  | _, _ => true
def workOk (p : List S145) (d : Int) (q : List Int) : Bool :=
  planOk p && (decide (0 ≤ d ∧ d ≤ p.length) && (decide (q.length = 12) && keyGo (tunedBy (p.take d.toNat) tuned0) q))
theorem planGo_keys : ∀ (l : List S145) (t : List Bool), planGo l t = true → ∀ x ∈ l, 0 ≤ x.f1 ∧ x.f1 ≤ 11
  | [], _, _, x, hx => by simp at hx
  | y :: r, t, h, x, hx => by
    simp only [planGo, Bool.and_eq_true] at h
    rcases List.mem_cons.1 hx with rfl | hx
    · have h1 := h.1; simp [stepOk] at h1; exact h1.2.2.2.1
    · exact planGo_keys r _ h.2 x hx
theorem tunedBy_len (l : List S145) : ∀ t : List Bool, (tunedBy l t).length = t.length := by
  induction l with
  | nil => intro t; rfl
  | cons x r ih => intro t; show (tunedBy r _).length = _; rw [ih, List.length_set]
theorem tunedBy_snoc (l : List S145) (x : S145) (t : List Bool) : tunedBy (l ++ [x]) t = (tunedBy l t).set x.f1.toNat true := by simp [tunedBy, List.foldl_append]
def impl_WorkOk.f (l0_0 : List (S145)) (a0_1 : Int) (l0_2 : List Int) : Option (Bool) := some (workOk l0_0 a0_1 l0_2)
set_option maxHeartbeats 8000000 in
set_option maxRecDepth 100000 in
theorem impl_WorkOk.calls (A0_0 : Option Addr) (c0_0 : Nat) (l0_0 : List (S145)) (a0_1 : Int) (A0_2 : Option Addr) (c0_2 : Nat) (l0_2 : List Int) (r : Bool) (w : World) (hr0_0 : Kd.C k145 w A0_0 l0_0.length l0_0) (hc0_0 : l0_0.length ≤ c0_0) (hr0_2 : Kd.C (Kd.int .i64) w A0_2 l0_2.length l0_2) (hc0_2 : l0_2.length ≤ c0_2) (h : impl_WorkOk.f l0_0 a0_1 l0_2 = some r) :
    Calls Tryd.prog 68 #[.agg #[.slice A0_0 l0_0.length c0_0, .int .i64 a0_1, .slice A0_2 l0_2.length c0_2]] w fun e w' => e = .returned (.bool r) ∧ Below w.heap.size w w' := by
  have HH := Aside0.mk (Option.some.inj h)
  clear h
  have win : ∀ (a b c : Int) (d : Bool) (W : World), decide (b ≤ a ∧ a ≤ c) = d → Calls Tryd.prog 61 #[.int .i64 a, .int .i64 b, .int .i64 c] W fun e w' => e = .returned (.bool d) ∧ Drawn0 W w' := fun a b c d W hd =>
    impl_within.calls a b c d W (by rw [← hd]; unfold impl_within.f; by_cases hh : b ≤ a <;> simp [hh])
  have hpl : ∀ (b : Bool) (o : Obj), planOk l0_0 = b → Calls Tryd.prog 99 #[.slice A0_0 l0_0.length c0_0] (w.alloc o) fun e w' => e = .returned (.bool b) ∧ Below (w.alloc o).heap.size (w.alloc o) w' := fun b o hb =>
    impl_PlanOk.calls A0_0 c0_0 l0_0 b (w.alloc o) (Kd.C_alloc hr0_0 o) hc0_0 (by unfold impl_PlanOk.f; rw [hb])
  have hbx : ∀ (w1 : World) (o : Obj), Below (w.alloc o).heap.size (w.alloc o) w1 → w1.heap[w.heap.size]? = some o ∧ Below w.heap.size w w1 ∧ w.heap.size + 1 ≤ w1.heap.size := fun w1 o hb =>
    ⟨blk_below (blk_new w o) hb, below_step (below_alloc (Below.refl _ _) o) hb, by have := hb.size; simpa using this⟩
  by_cases p1 : planOk l0_0 = true
  rotate_left
  · have P1 := Aside0.mk fun o => hpl false o (Bool.eq_false_iff.2 p1)
    obtain rfl : false = r := by rw [← HH.out]; simp [workOk, p1]
    clear hpl win p1
    go_enter Tryd.func68, Tryd.ntmps68
    go_wp2_with (first | (go_at_call 99; (with_reducible refine (P1.out _).mono ?_); rintro e w1 ⟨rfl, hb⟩; obtain ⟨hB1, hB2, hB3⟩ := hbx w1 _ hb; have HB := Aside0.mk hB2; clear hb hB1 hB2 hB3))
    go_ret
    exact ⟨rfl, by repeat (first | exact HB.out | apply below_alloc | apply pw_below_drewN | apply below_drew1)⟩
  have P1 := Aside0.mk fun o => hpl true o p1
  by_cases p2 : 0 ≤ a0_1 ∧ a0_1 ≤ (l0_0.length : Int)
  rotate_left
  · have W1 := Aside0.mk fun W => win a0_1 0 l0_0.length false W (decide_eq_false p2)
    obtain rfl : false = r := by rw [← HH.out]; simp [workOk, p2]
    clear hpl win p1 p2
    go_enter Tryd.func68, Tryd.ntmps68
    go_wp2_with (first | (go_at_call 99; (with_reducible refine (P1.out _).mono ?_); rintro e w1 ⟨rfl, hb⟩; obtain ⟨hB1, hB2, hB3⟩ := hbx w1 _ hb; have HB := Aside0.mk hB2; have hcz0 := blk_cell hB1 0; have hcz1 := blk_cell hB1 1; have hcz2 := blk_cell hB1 2; clear hb hB1 hB2 hB3) | (go_at_call 61; (with_reducible refine (W1.out _).mono ?_); rintro e w' ⟨rfl, ⟨nd, rfl⟩⟩))
    go_ret
    exact ⟨rfl, by repeat (first | exact HB.out | apply below_alloc | apply pw_below_drewN | apply below_drew1)⟩
  have W1 := Aside0.mk fun W => win a0_1 0 l0_0.length true W (decide_eq_true p2)
  by_cases p3 : l0_2.length = 12
  rotate_left
  · have p3a : ((l0_2.length : Int) != 12) = true := bne_iff_ne.mpr (by omega)
    have p3b : ((l0_2.length : Int) == 12) = false := beq_eq_false_iff_ne.mpr (by omega)
    obtain rfl : false = r := by rw [← HH.out]; simp [workOk, p3]
    have P3 := Aside0.mk p3
    clear hpl win p1 p2 p3
    go_enter Tryd.func68, Tryd.ntmps68
    go_wp2_with (first | (go_at_call 99; (with_reducible refine (P1.out _).mono ?_); rintro e w1 ⟨rfl, hb⟩; obtain ⟨hB1, hB2, hB3⟩ := hbx w1 _ hb; have HB := Aside0.mk hB2; have HX := Aside0.mk hB1; have HS := Aside0.mk hB3; have hcz0 := blk_cell hB1 0; have hcz1 := blk_cell hB1 1; clear hb hB1 hB2 hB3) | (go_at_call 61; (with_reducible refine (W1.out _).mono ?_); rintro e w2 ⟨rfl, hdr⟩; have n1 := Aside0.mk (below_step HB.out hdr.below); have hB1 := blk_below HX.out hdr.below; have n3 := Aside0.mk (Nat.le_trans HS.out hdr.below.size); clear HB HX HS hcz0 hcz1 hdr; have HB := n1; have HX := Aside0.mk hB1; have HS := n3; clear n1 n3; have hcz0 := blk_cell hB1 0; have hcz1 := blk_cell hB1 1; have hcz2 := blk_cell hB1 2; have hca0 := fun o : Obj => blk_cell (blk_alloc hB1 o) 0; have hca1 := fun o : Obj => blk_cell (blk_alloc hB1 o) 1; have hca2 := fun o : Obj => blk_cell (blk_alloc hB1 o) 2; clear hB1))
    go_ret
    exact ⟨rfl, by repeat (first | exact HB.out | apply below_alloc | apply pw_below_drewN | apply below_drew1)⟩
  have p3a : ((l0_2.length : Int) != 12) = false := bne_eq_false_iff_eq.mpr (by omega)
  have p3b : ((l0_2.length : Int) == 12) = true := beq_iff_eq.mpr (by omega)
  obtain ⟨d, rfl⟩ : ∃ d : Nat, a0_1 = (d : Int) := ⟨a0_1.toNat, by omega⟩
  have hd1 : d ≤ l0_0.length := by omega
  have hd2 : d ≤ c0_0 := by omega
  have hm : l0_0.length ≤ 9223372036854775807 := Kd.C_max hr0_0
  have HK := Aside0.mk (planGo_keys l0_0 tuned0 (by have := p1; simp [planOk] at this; exact this.2))
  have HQ : Aside0 (keyGo (tunedBy (l0_0.take d) tuned0) l0_2 = r) := ⟨by rw [← HH.out]; simp [workOk, p1, p3, hd1]⟩
  have P3 := Aside0.mk p3
  have HR0 := Aside0.mk hr0_0
  have HR2 := Aside0.mk hr0_2
  clear hpl p1 p2 p3 HH hr0_0 hr0_2
  go_enter Tryd.func68, Tryd.ntmps68
  go_wp2_with (first | (go_at_call 99; (with_reducible refine (P1.out _).mono ?_); rintro e w1 ⟨rfl, hb⟩; obtain ⟨hB1, hB2, hB3⟩ := hbx w1 _ hb; have HB := Aside0.mk hB2; have HX := Aside0.mk hB1; have HS := Aside0.mk hB3; have hcz0 := blk_cell hB1 0; have hcz1 := blk_cell hB1 1; clear hb hB1 hB2 hB3) | (go_at_call 61; (with_reducible refine (W1.out _).mono ?_); rintro e w2 ⟨rfl, hdr⟩; have n1 := Aside0.mk (below_step HB.out hdr.below); have hB1 := blk_below HX.out hdr.below; have n3 := Aside0.mk (Nat.le_trans HS.out hdr.below.size); clear HB HX HS hcz0 hcz1 hdr; have HB := n1; have HX := Aside0.mk hB1; have HS := n3; clear n1 n3; have hcz0 := blk_cell hB1 0; have hcz1 := blk_cell hB1 1; have hcz2 := blk_cell hB1 2; have hca0 := fun o : Obj => blk_cell (blk_alloc hB1 o) 0; have hca1 := fun o : Obj => blk_cell (blk_alloc hB1 o) 1; have hca2 := fun o : Obj => blk_cell (blk_alloc hB1 o) 2; clear hB1))
  have BX := Aside0.mk (rfl : #[Value.slice A0_0 l0_0.length c0_0, .int .i64 (d : Int), .slice A0_2 l0_2.length c0_2] = #[Value.slice A0_0 l0_0.length c0_0, .int .i64 (d : Int), .slice A0_2 l0_2.length c0_2])
  go_loopg [34] (d + 1) (fun kq v34 w' => ∃ (i : Nat), v34 = .int .i64 (i : Int) ∧ Aside0 (i + kq = d + 1) ∧ Aside0 (i ≤ d) ∧ Aside0 (w'.heap[w2.heap.size]? = some (.cells ((tunedBy (l0_0.take i) tuned0).map Value.bool).toArray 143 (0, 0))) ∧ Aside0 (w'.heap[w.heap.size]? = some (.cells #[.slice A0_0 l0_0.length c0_0, .int .i64 (d : Int), .slice A0_2 l0_2.length c0_2] 41 (0, 0))) ∧ Aside0 (Below w.heap.size w w'))
  case atStart =>
    exact ⟨0, rfl, ⟨by omega⟩, ⟨by omega⟩, ⟨by rw [heap_alloc_new]; rfl⟩, ⟨blk_alloc HX.out _⟩, ⟨below_alloc HB.out _⟩⟩
  case round =>
    clear hcz0 hcz1 hcz2 hca0 hca1 hca2 HB HX
    obtain ⟨i, rfl, HI1, HI2, HA, HX, HB⟩ := hrel
    have hTl : (tunedBy (l0_0.take i) tuned0).length = 12 := tunedBy_len _ _
    by_cases hlt : i < d
    · have hb3 : decide ((i : Int) < (d : Int)) = true := decide_eq_true (by omega)
      have hb4 : decide (i < d) = true := decide_eq_true (by omega)
      obtain ⟨ad, e, hx0, hx1, hx2, hx3⟩ := at_T145 HR0.out (i : Int) (by omega) (by omega)
      cases e
      replace hx0 := (HB.out.cell (World.block_lt_of_cell? w _ hx0)).trans hx0
      replace hx1 := (HB.out.cell (World.block_lt_of_cell? w _ hx1)).trans hx1
      replace hx2 := (HB.out.cell (World.block_lt_of_cell? w _ hx2)).trans hx2
      replace hx3 := (HB.out.cell (World.block_lt_of_cell? w _ hx3)).trans hx3
      obtain ⟨x, hx⟩ : ∃ x, rd_T145 l0_0 (i : Int) = x := ⟨_, rfl⟩
      rw [hx] at hx0 hx1 hx2 hx3
      simp only [Int.toNat_natCast] at hx0 hx1 hx2 hx3
      have hil : i < l0_0.length := by omega
      have e0 : l0_0[i] = x := by rw [← hx]; simp [rd_T145, List.getD_eq_getElem?_getD, hil]
      obtain ⟨q1, q2⟩ := HK.out x (by rw [← e0]; exact List.getElem_mem hil)
      have HT : Aside0 (tunedBy (l0_0.take (i + 1)) tuned0 = (tunedBy (l0_0.take i) tuned0).set x.f1.toNat true) := ⟨by rw [List.take_succ_eq_append_getElem hil, e0, tunedBy_snoc]⟩
      obtain ⟨tn, htn⟩ : ∃ tn, tunedBy (l0_0.take i) tuned0 = tn := ⟨_, rfl⟩
      have HA' := Aside0.mk (show wr.heap[w2.heap.size]? = some (.cells (tn.map Value.bool).toArray 143 (0, 0)) by rw [← htn]; exact HA.out)
      rw [htn] at hTl HT
      have hc1 : ∀ o : Obj, (wr.alloc o).cell? ⟨w2.heap.size, x.f1.toNat, none⟩ = some (.bool (tn.getD x.f1.toNat false)) := fun o => (blk_cell (blk_alloc HA'.out o) _).trans (by simp [List.getD_eq_getElem?_getD, show x.f1.toNat < tn.length by omega])
      have hfz := fun o : Obj => blk_frozen (blk_alloc HA'.out o) x.f1.toNat
      clear hx e0 htn HA hTl
      go_wp2
      go_roundg (d - i)
      case measure => have := HI1.out; omega
      case rel =>
        refine ⟨i + 1, by go_num, ⟨by omega⟩, ⟨by omega⟩, ⟨?_⟩, ⟨?_⟩, ⟨?_⟩⟩
        · rw [HT.out]
          refine blk_put (cs := (tn.map Value.bool).toArray) (blk_alloc HA'.out _) x.f1.toNat (.bool true) ?_
          simp [List.map_set]
        · refine blk_far ?_ (by have := HS.out; show w.heap.size ≠ w2.heap.size; omega) _
          exact blk_alloc HX.out _
        · refine below_set (below_alloc HB.out _) (by have := HS.out; omega)
    · have hb3 : decide ((i : Int) < (d : Int)) = false := decide_eq_false (by omega)
      have hb4 : decide (i < d) = false := decide_eq_false (by omega)
      obtain rfl : i = d := by have := HI2.out; omega
      obtain ⟨tn, htn⟩ : ∃ tn, tunedBy (l0_0.take i) tuned0 = tn := ⟨_, rfl⟩
      have HA' := Aside0.mk (show wr.heap[w2.heap.size]? = some (.cells (tn.map Value.bool).toArray 143 (0, 0)) by rw [← htn]; exact HA.out)
      have HT := Aside0.mk (show tn.length = 12 by rw [← htn]; exact hTl)
      have HQ' := Aside0.mk (show keyGo tn l0_2 = r by rw [← htn]; exact HQ.out)
      have hcz0 := blk_cell HX.out 0
      have hcz1 := blk_cell HX.out 1
      have hcz2 := blk_cell HX.out 2
      clear HA HQ htn hTl
      go_wp2
      have H12 := P3.out
      go_loopg [45] 13 (fun kq v45 w' => ∃ (j : Nat), v45 = .int .i64 (j : Int) ∧ Aside0 (j + kq = 13) ∧ Aside0 (j ≤ 12) ∧ Aside0 (keyGo (tn.drop j) (l0_2.drop j) = r) ∧ Aside0 (w'.heap[w2.heap.size]? = some (.cells (tn.map Value.bool).toArray 143 (0, 0))) ∧ Aside0 (Below w.heap.size w w'))
      case atStart => exact ⟨0, rfl, ⟨by omega⟩, ⟨by omega⟩, ⟨HQ'.out⟩, ⟨HA'.out⟩, ⟨HB.out⟩⟩
      case round =>
        clear hcz0 hcz1 hcz2 HB HX HA' HQ'
        obtain ⟨j, rfl, HJ1, HJ2, HQ, HA, HB⟩ := hrel
        by_cases hlt2 : j < 12
        rotate_left
        · have hb5 : decide ((j : Int) < (l0_2.length : Int)) = false := decide_eq_false (by omega)
          have hb6 : decide (j < l0_2.length) = false := decide_eq_false (by omega)
          obtain rfl : true = r := by
            have h1 := HQ.out
            rw [List.drop_eq_nil_of_le (by have := HT.out; omega)] at h1
            simpa [keyGo] using h1
          clear H12
          go_wp2
          go_ret
          exact ⟨rfl, HB.out⟩
        · have hb5 : decide ((j : Int) < (l0_2.length : Int)) = true := decide_eq_true (by omega)
          have hb6 : decide (j < l0_2.length) = true := decide_eq_true (by omega)
          have hj : j < l0_2.length := by omega
          obtain ⟨ad, e, hy⟩ := Kd.at_int HR2.out (j : Int) (by omega) (by omega)
          cases e
          replace hy := (HB.out.cell (World.block_lt_of_cell? w _ hy)).trans hy
          obtain ⟨y, hyy⟩ : ∃ y, rd l0_2 (j : Int) = y := ⟨_, rfl⟩
          obtain ⟨b, hbb⟩ : ∃ b, tn.getD j false = b := ⟨_, rfl⟩
          rw [hyy] at hy
          simp only [Int.toNat_natCast] at hy
          have hT12 := HT.out
          have hct : wr.cell? ⟨w2.heap.size, j, none⟩ = some (.bool b) := (blk_cell HA.out j).trans (by rw [← hbb]; simp [List.getD_eq_getElem?_getD, show j < tn.length by omega])
          have HD : Aside0 (keyGo (tn.drop j) (l0_2.drop j) = ((if b then decide (1 ≤ y ∧ y ≤ 10000000) else decide (y = 0)) && keyGo (tn.drop (j + 1)) (l0_2.drop (j + 1)))) := ⟨by
            rw [List.drop_eq_getElem_cons (show j < tn.length by omega), List.drop_eq_getElem_cons (show j < l0_2.length by omega)]
            have e1 : tn[j] = b := by rw [← hbb]; simp [List.getD_eq_getElem?_getD, show j < tn.length by omega]
            have e2 : l0_2[j] = y := by rw [← hyy]; simp [rd, List.getD_eq_getElem?_getD, show j < l0_2.length by omega]
            rw [e1, e2]; rfl⟩
          have fine : ∀ (d : Bool) (W : World), decide (1 ≤ y ∧ y ≤ 10000000) = d → Calls Tryd.prog 100 #[.int .i64 y] W fun e w' => e = .returned (.bool d) ∧ Drawn0 W w' := fun d W hd =>
            impl_isFine.calls y d W (by rw [← hd]; unfold impl_isFine.f impl_within.f; by_cases hh : 1 ≤ y <;> simp [hh])
          clear hyy hbb hT12 H12
          cases b with
          | true =>
            by_cases q : 1 ≤ y ∧ y ≤ 10000000
            · have F1 := Aside0.mk fun W => fine true W (decide_eq_true q)
              have Q := Aside0.mk q
              clear q fine
              go_wp2_with (first | (go_at_call 100; (with_reducible refine (F1.out _).mono ?_); rintro e w' ⟨rfl, ⟨nd, rfl⟩⟩))
              go_roundg (12 - j)
              case measure => have := HJ1.out; omega
              case rel =>
                refine ⟨j + 1, by go_num, ⟨by omega⟩, ⟨by omega⟩, ⟨?_⟩, ⟨?_⟩, ⟨?_⟩⟩
                · rw [← HQ.out, HD.out]; simp [Q.out]
                · repeat (first | exact HA.out | refine blk_drewN ?_ _ | refine blk_drew ?_)
                · repeat (first | exact HB.out | apply below_alloc | apply pw_below_drewN | apply below_drew1)
            · have F1 := Aside0.mk fun W => fine false W (decide_eq_false q)
              have Q := Aside0.mk q
              clear q fine
              obtain rfl : false = r := by rw [← HQ.out, HD.out]; simp [Q.out]
              go_wp2_with (first | (go_at_call 100; (with_reducible refine (F1.out _).mono ?_); rintro e w' ⟨rfl, ⟨nd, rfl⟩⟩))
              go_ret
              exact ⟨rfl, by repeat (first | exact HB.out | apply below_alloc | apply pw_below_drewN | apply below_drew1)⟩
          | false =>
            by_cases q : y = 0
            · have q1 : (y != 0) = false := bne_eq_false_iff_eq.mpr q
              have q2 : (y == 0) = true := beq_iff_eq.mpr q
              have Q := Aside0.mk q
              clear q fine
              go_wp2
              go_roundg (12 - j)
              case measure => have := HJ1.out; omega
              case rel =>
                refine ⟨j + 1, by go_num, ⟨by omega⟩, ⟨by omega⟩, ⟨?_⟩, ⟨?_⟩, ⟨?_⟩⟩
                · rw [← HQ.out, HD.out]; simp [Q.out]
                · repeat (first | exact HA.out | refine blk_drewN ?_ _ | refine blk_drew ?_)
                · repeat (first | exact HB.out | apply below_alloc | apply pw_below_drewN | apply below_drew1)
            · have q1 : (y != 0) = true := bne_iff_ne.mpr q
              have q2 : (y == 0) = false := beq_eq_false_iff_ne.mpr q
              have Q := Aside0.mk q
              clear q fine
              obtain rfl : false = r := by rw [← HQ.out, HD.out]; simp [Q.out]
              go_wp2
              go_ret
              exact ⟨rfl, by repeat (first | exact HB.out | apply below_alloc | apply pw_below_drewN | apply below_drew1)⟩
end Go.Proofs.YtojiighpkppckaaDoor.P


namespace Go.Proofs.YtojiighpkppckaaDoor.Q
set_option linter.unusedVariables false
set_option linter.unusedSimpArgs false
open Go.RowKit Go.Proofs.YtojiighpkppckaaDoor.P
def lastOk (l : List S85) (m : Int) : Prop := l.length = 0 ∨ (l.getD (l.length - 1) z85).f2 ≤ m
instance (l : List S85) (m : Int) : Decidable (lastOk l m) := by unfold lastOk; exact inferInstance
def shopOk (p : List S145) (d : Int) (q : List Int) (a m : Int) (l : List S85) : Bool := workOk p d q && (logOk l && (decide (-10 ≤ a ∧ a ≤ 40) && (decide (0 ≤ m ∧ m ≤ 100000) && decide (lastOk l m))))
end Go.Proofs.YtojiighpkppckaaDoor.Q


namespace Go.Proofs.YtojiighpkppckaaDoor.V
set_option linter.unusedVariables false
open Go.RowKit Go.Proofs.YtojiighpkppckaaDoorW.PrintWords
class CelR (W : World) (a : Addr) (v : outParam Value) : Prop where out : W.cell? a = some v
class FarA (a : Addr) (g : Nat) : Prop where out : a.block ≠ g
section
variable {w w0 W : World} {a : Addr} {v u : Value} {o : Obj} {n g i : Nat}
theorem celR_lt (h : CelR W a v) : a.block < W.heap.size := World.block_lt_of_cell? W a h.out
instance [h : CelR W a v] : CelR (W.alloc o) a v := ⟨((below_alloc (RowKit.Below.refl W.heap.size W) o).cell (celR_lt h)).trans h.out⟩
instance [h : CelR W a v] : CelR W.drew a v := ⟨h.out⟩
instance [h : CelR W a v] : CelR (W.drewN n) a v := ⟨h.out⟩
instance [b : Bel w W] [h : CelR w a v] : CelR W a v := ⟨(b.out.cell (celR_lt h)).trans h.out⟩
instance [b : Sin w0 W] [h : CelR w0 a v] : CelR W a v := ⟨(b.out.cell (celR_lt h)).trans h.out⟩
instance [h : Born W g] [k : CelR W a v] : FarA a g := ⟨by rw [h.out]; exact Nat.ne_of_lt (celR_lt k)⟩
instance [h : CelR W a v] [k : FarA a g] : CelR (W.setCell ⟨g, i, none⟩ u) a v := ⟨(cell_far k.out u).trans h.out⟩
theorem cellR_c (W : World) (a : Addr) {v : Value} [h : CelR W a v] : W.cell? a = some v := h.out
end
end Go.Proofs.YtojiighpkppckaaDoor.V


namespace Go.Proofs.YtojiighpkppckaaDoor.P
open Go.RowKit Go.Proofs.YtojiighpkppckaaDoorW.PrintWords Go.Proofs.YtojiighpkppckaaDoorW.PrintLast Go.Proofs.YtojiighpkppckaaDoorW.PrintMore
attribute [local go_sem] max2_int min2_int max_two min_two max_three min_three max_four min_four
set_option linter.unusedVariables false
set_option linter.unusedSimpArgs false
def impl_isWarmth.f (a0 : Int) : Option (Bool) := (impl_within.f a0 (-10) 40).bind fun t135 => (some t135)
set_option maxHeartbeats 8000000 in
set_option maxRecDepth 100000 in
theorem impl_isWarmth.calls (a0 : Int) (r : Bool) (w : World) (h : impl_isWarmth.f a0 = some r) :
    Calls Tryd.prog 60 #[.int .i64 a0] w fun e w' => e = .returned (.bool r) ∧ Drawn0 w w' := by
  have H : ((impl_within.f a0 (-10) 40).bind fun t135 => (some t135)) = some r := h
  clear h
  replace H := Option.bind_eq_some_iff.mp H
  obtain ⟨t135, A20, H⟩ := H
  (try dsimp only at H)
  have A2 := Aside0.mk A20
  clear A20
  obtain rfl := Option.some.inj H
  go_enter Tryd.func60, Tryd.ntmps60
  go_wp2_with (first | ((with_reducible refine gate_callee (f := 61) rfl ?_); refine goesL_ (some 4) rfl rfl Tryd.func61 (by kernel_rfl) rfl #[.int .i64 a0, .int .i64 (-10), .int .i64 40] rfl (by (try simp only [List.map_toArray, List.map_cons, List.map_nil]); first | done | rfl | (simp only [List.length_drop, List.length_take]; rfl)) ?_; (with_reducible refine (impl_within.calls a0 (-10) 40 t135 _ A2.out).mono ?_); rintro e w' ⟨rfl, ⟨nd, rfl⟩⟩; refine ⟨_, rfl, ?_⟩))
  go_ret
  exact ⟨by first | rfl | (simp; done) | (simp [*]; done), by repeat (first | exact Drawn0.refl _ | apply Drawn0.step)⟩
end Go.Proofs.YtojiighpkppckaaDoor.P


namespace Go.Proofs.YtojiighpkppckaaDoor.P
open Go.RowKit Go.Proofs.YtojiighpkppckaaDoorW.PrintWords Go.Proofs.YtojiighpkppckaaDoorW.PrintLast Go.Proofs.YtojiighpkppckaaDoorW.PrintMore Go.Proofs.YtojiighpkppckaaDoor.V
attribute [local go_sem] cell_b frozen_b
attribute [local go_sem] max2_int min2_int max_two min_two max_three min_three max_four min_four
set_option linter.unusedVariables false
set_option linter.unusedSimpArgs false
def impl_LogOk.f (k : Nat) (l0 : List (S85)) : Option (Bool) := some (Q.logOk l0)
attribute [local go_sem] cellR_c
set_option maxHeartbeats 8000000 in
set_option maxRecDepth 100000 in
set_option synthInstance.maxHeartbeats 400000 in
set_option synthInstance.maxSize 100000 in
theorem impl_LogOk.calls (k : Nat) (A0 : Option Addr) (c0 : Nat) (l0 : List (S85)) (r : Bool) (w : World) (hr0 : Kd.C k85 w A0 l0.length l0) (hc0 : l0.length ≤ c0) (h : impl_LogOk.f k l0 = some r) :
    Calls Tryd.prog 69 #[.slice A0 l0.length c0] w fun e w' => e = .returned (.bool r) ∧ Below w.heap.size w w' := by
  have win : ∀ (a b c : Int) (d : Bool), decide (b ≤ a ∧ a ≤ c) = d → Aside0 (∀ W : World, Calls Tryd.prog 61 #[.int .i64 a, .int .i64 b, .int .i64 c] W fun e w' => e = .returned (.bool d) ∧ Drawn0 W w') := fun a b c d hd =>
    ⟨fun W => impl_within.calls a b c d W (by rw [← hd]; unfold impl_within.f; by_cases hh : b ≤ a <;> simp [hh])⟩
  have hm : l0.length ≤ 9223372036854775807 := Kd.C_max hr0
  have HQ : Aside0 ((Q.logGo (Q.prevM l0 0) (l0.drop 0) && decide (l0.length ≤ 30)) = r) := ⟨Option.some.inj h⟩
  have HR0 := Aside0.mk hr0
  have WIN := Aside0.mk win
  clear hr0 h win
  have hu := Tryd.underlying85
  go_enter Tryd.func69, Tryd.ntmps69
  go_wp2
  go_loopg [7] (l0.length + 1) (fun kq v7 w' => ∃ (i : Nat), v7 = .int .i64 (i : Int) ∧ Aside0 (i + kq = l0.length + 1) ∧ Aside0 (i ≤ l0.length) ∧ Aside0 ((Q.logGo (Q.prevM l0 i) (l0.drop i) && decide (l0.length ≤ 30)) = r) ∧ Aside0 (Below w.heap.size w w'))
  case atStart => exact ⟨0, rfl, ⟨by omega⟩, ⟨by omega⟩, HQ, ⟨by repeat (first | exact Below.refl _ _ | apply below_alloc | apply pw_below_drewN | apply below_drew1)⟩⟩
  case round =>
    clear HQ
    obtain ⟨i, rfl, HI1, HI2, HQ, HB⟩ := hrel
    have jf : From w wr := ⟨HB.out⟩
    have js : Sz w wr := ⟨HB.out.size⟩
    by_cases hlt : i < l0.length
    rotate_left
    · have hb3 : decide ((i : Int) < (l0.length : Int)) = false := decide_eq_false (by omega)
      have hb4 : decide (i < l0.length) = false := decide_eq_false (by omega)
      obtain rfl : i = l0.length := by have := HI2.out; omega
      have HX : Aside0 (decide (l0.length ≤ 30) = r) := ⟨by rw [← HQ.out, List.drop_eq_nil_of_le (Nat.le_refl _)]; simp [Q.logGo]⟩
      have hx1 : decide ((l0.length : Int) ≤ 30) = r := by rw [← HX.out]; exact decide_eq_decide.mpr (by omega)
      clear HQ HR0 WIN
      go_wp2
      go_ret
      exact ⟨by first | rfl | (simp [hx1]; done), HB.out⟩
    · have hb3 : decide ((i : Int) < (l0.length : Int)) = true := decide_eq_true (by omega)
      have hb4 : decide (i < l0.length) = true := decide_eq_true hlt
      obtain ⟨ad, e, hx0, hx1, hx2, hx3⟩ := at_T85 HR0.out (i : Int) (by omega) (by omega)
      cases e
      obtain ⟨x, hx⟩ : ∃ x, rd_T85 l0 (i : Int) = x := ⟨_, rfl⟩
      rw [hx] at hx0 hx1 hx2 hx3
      simp only [Int.toNat_natCast] at hx0 hx1 hx2 hx3
      have j0 : CelR wr _ _ := ⟨(HB.out.cell (World.block_lt_of_cell? w _ hx0)).trans hx0⟩
      have j1 : CelR wr _ _ := ⟨(HB.out.cell (World.block_lt_of_cell? w _ hx1)).trans hx1⟩
      have j2 : CelR wr _ _ := ⟨(HB.out.cell (World.block_lt_of_cell? w _ hx2)).trans hx2⟩
      have j3 : CelR wr _ _ := ⟨(HB.out.cell (World.block_lt_of_cell? w _ hx3)).trans hx3⟩
      have e0 : l0[i] = x := by rw [← hx]; simp [rd_T85, List.getD_eq_getElem?_getD, hlt]
      have HD := Aside0.mk (Q.logGo_at l0 i hlt)
      rw [e0] at HD
      obtain ⟨b1, hb1⟩ : ∃ b, decide (0 ≤ x.f0.f0 ∧ x.f0.f0 ≤ 3) = b := ⟨_, rfl⟩
      obtain ⟨b2, hb2⟩ : ∃ b, decide (0 ≤ x.f0.f1 ∧ x.f0.f1 ≤ 39) = b := ⟨_, rfl⟩
      obtain ⟨b3, hb3'⟩ : ∃ b, decide (0 ≤ x.f1 ∧ x.f1 ≤ 2) = b := ⟨_, rfl⟩
      obtain ⟨b4, hb4'⟩ : ∃ b, decide (0 ≤ x.f2 ∧ x.f2 ≤ 100000) = b := ⟨_, rfl⟩
      have W1 := WIN.out _ _ _ _ hb1
      have W2 := WIN.out _ _ _ _ hb2
      have W3 := WIN.out _ _ _ _ hb3'
      have W4 := WIN.out _ _ _ _ hb4'
      have HE : Aside0 (Q.entOk x = (b1 && (b2 && (b3 && b4)))) := ⟨by rw [← hb1, ← hb2, ← hb3', ← hb4']; rfl⟩
      have HP : Aside0 (0 < i → Q.prevM l0 i = (rd_T85 l0 ((i - 1 : Nat) : Int)).f2) := ⟨fun h0 => by rw [Q.prevM_pos l0 i h0 hlt]; simp [rd_T85, List.getD_eq_getElem?_getD, show i - 1 < l0.length by omega]⟩
      have HZ : Aside0 (b4 = true → i = 0 → Q.prevM l0 i ≤ x.f2) := ⟨fun h4 h0 => by subst h0; rw [h4, decide_eq_true_eq] at hb4'; exact hb4'.1⟩
      clear hx hx0 hx1 hx2 hx3 e0 WIN hb1 hb2 hb3' hb4'
      cases b1 with
      | false =>
        obtain rfl : false = r := by rw [← HQ.out, HD.out, HE.out]; rfl
        clear HR0 HQ HD HE HP HZ
        go_wp2_with (first         | ((with_reducible refine gate_dst (N := 4) rfl ?_); refine box_event rfl (N := 4) rfl (cs := #[.int .i64 0, .int .i64 0, .int .i64 0, .int .i64 0]) (t := 85) (by first | (go_simp; done) | (go_simp; rfl)) ?_; intro g hg w1 hk hb; have j1 := Born.mk hg; have j2 := Bel.mk hb; have j3 := Blk.mk hk; clear hg hb hk)         | (go_at_call 61; (first | (with_reducible refine (W1.out _).mono ?_) | (with_reducible refine (W2.out _).mono ?_) | (with_reducible refine (W3.out _).mono ?_) | (with_reducible refine (W4.out _).mono ?_)); rintro e w' ⟨rfl, ⟨nd, rfl⟩⟩))
        repeat (go_quiet (first | (go_at_call 61; (first | (with_reducible refine (W1.out _).mono ?_) | (with_reducible refine (W2.out _).mono ?_) | (with_reducible refine (W3.out _).mono ?_) | (with_reducible refine (W4.out _).mono ?_)); rintro e w' ⟨rfl, ⟨nd, rfl⟩⟩; exact ⟨rfl, _, World.drewN_drewN _ _ _⟩)); try go_wp2)
        go_ret
        exact ⟨rfl, From.out⟩
      | true =>
        cases b2 with
        | false =>
          obtain rfl : false = r := by rw [← HQ.out, HD.out, HE.out]; rfl
          clear HR0 HQ HD HE HP HZ
          go_wp2_with (first         | ((with_reducible refine gate_dst (N := 4) rfl ?_); refine box_event rfl (N := 4) rfl (cs := #[.int .i64 0, .int .i64 0, .int .i64 0, .int .i64 0]) (t := 85) (by first | (go_simp; done) | (go_simp; rfl)) ?_; intro g hg w1 hk hb; have j1 := Born.mk hg; have j2 := Bel.mk hb; have j3 := Blk.mk hk; clear hg hb hk)         | (go_at_call 61; (first | (with_reducible refine (W1.out _).mono ?_) | (with_reducible refine (W2.out _).mono ?_) | (with_reducible refine (W3.out _).mono ?_) | (with_reducible refine (W4.out _).mono ?_)); rintro e w' ⟨rfl, ⟨nd, rfl⟩⟩))
          repeat (go_quiet (first | (go_at_call 61; (first | (with_reducible refine (W1.out _).mono ?_) | (with_reducible refine (W2.out _).mono ?_) | (with_reducible refine (W3.out _).mono ?_) | (with_reducible refine (W4.out _).mono ?_)); rintro e w' ⟨rfl, ⟨nd, rfl⟩⟩; exact ⟨rfl, _, World.drewN_drewN _ _ _⟩)); try go_wp2)
          go_ret
          exact ⟨rfl, From.out⟩
        | true =>
          cases b3 with
          | false =>
            obtain rfl : false = r := by rw [← HQ.out, HD.out, HE.out]; rfl
            clear HR0 HQ HD HE HP HZ
            go_wp2_with (first         | ((with_reducible refine gate_dst (N := 4) rfl ?_); refine box_event rfl (N := 4) rfl (cs := #[.int .i64 0, .int .i64 0, .int .i64 0, .int .i64 0]) (t := 85) (by first | (go_simp; done) | (go_simp; rfl)) ?_; intro g hg w1 hk hb; have j1 := Born.mk hg; have j2 := Bel.mk hb; have j3 := Blk.mk hk; clear hg hb hk)         | (go_at_call 61; (first | (with_reducible refine (W1.out _).mono ?_) | (with_reducible refine (W2.out _).mono ?_) | (with_reducible refine (W3.out _).mono ?_) | (with_reducible refine (W4.out _).mono ?_)); rintro e w' ⟨rfl, ⟨nd, rfl⟩⟩))
            repeat (go_quiet (first | (go_at_call 61; (first | (with_reducible refine (W1.out _).mono ?_) | (with_reducible refine (W2.out _).mono ?_) | (with_reducible refine (W3.out _).mono ?_) | (with_reducible refine (W4.out _).mono ?_)); rintro e w' ⟨rfl, ⟨nd, rfl⟩⟩; exact ⟨rfl, _, World.drewN_drewN _ _ _⟩)); try go_wp2)
            go_ret
            exact ⟨rfl, From.out⟩
          | true =>
            cases b4 with
            | false =>
              obtain rfl : false = r := by rw [← HQ.out, HD.out, HE.out]; rfl
              clear HR0 HQ HD HE HP HZ
              go_wp2_with (first         | ((with_reducible refine gate_dst (N := 4) rfl ?_); refine box_event rfl (N := 4) rfl (cs := #[.int .i64 0, .int .i64 0, .int .i64 0, .int .i64 0]) (t := 85) (by first | (go_simp; done) | (go_simp; rfl)) ?_; intro g hg w1 hk hb; have j1 := Born.mk hg; have j2 := Bel.mk hb; have j3 := Blk.mk hk; clear hg hb hk)         | (go_at_call 61; (first | (with_reducible refine (W1.out _).mono ?_) | (with_reducible refine (W2.out _).mono ?_) | (with_reducible refine (W3.out _).mono ?_) | (with_reducible refine (W4.out _).mono ?_)); rintro e w' ⟨rfl, ⟨nd, rfl⟩⟩))
              repeat (go_quiet (first | (go_at_call 61; (first | (with_reducible refine (W1.out _).mono ?_) | (with_reducible refine (W2.out _).mono ?_) | (with_reducible refine (W3.out _).mono ?_) | (with_reducible refine (W4.out _).mono ?_)); rintro e w' ⟨rfl, ⟨nd, rfl⟩⟩; exact ⟨rfl, _, World.drewN_drewN _ _ _⟩)); try go_wp2)
              go_ret
              exact ⟨rfl, From.out⟩
            | true =>
              have hs : (i : Int) + 1 ≤ 9223372036854775807 := by omega
              by_cases hz : i = 0
              · have hz1 : decide ((i : Int) > 0) = false := decide_eq_false (by omega)
                have hz2 : decide ((0 : Int) < (i : Int)) = false := decide_eq_false (by omega)
                have hz3 : decide (0 < i) = false := decide_eq_false (by omega)
                have HN : Aside0 ((Q.logGo (Q.prevM l0 (i + 1)) (l0.drop (i + 1)) && decide (l0.length ≤ 30)) = r) := ⟨by rw [← HQ.out, HD.out, HE.out, show decide (Q.prevM l0 i ≤ x.f2) = true from decide_eq_true (HZ.out rfl hz)]; rfl⟩
                clear HQ HD HE HP HZ hz
                go_wp2_with (first         | ((with_reducible refine gate_dst (N := 4) rfl ?_); refine box_event rfl (N := 4) rfl (cs := #[.int .i64 0, .int .i64 0, .int .i64 0, .int .i64 0]) (t := 85) (by first | (go_simp; done) | (go_simp; rfl)) ?_; intro g hg w1 hk hb; have j1 := Born.mk hg; have j2 := Bel.mk hb; have j3 := Blk.mk hk; clear hg hb hk)         | (go_at_call 61; (first | (with_reducible refine (W1.out _).mono ?_) | (with_reducible refine (W2.out _).mono ?_) | (with_reducible refine (W3.out _).mono ?_) | (with_reducible refine (W4.out _).mono ?_)); rintro e w' ⟨rfl, ⟨nd, rfl⟩⟩))
                repeat (go_quiet (first | (go_at_call 61; (first | (with_reducible refine (W1.out _).mono ?_) | (with_reducible refine (W2.out _).mono ?_) | (with_reducible refine (W3.out _).mono ?_) | (with_reducible refine (W4.out _).mono ?_)); rintro e w' ⟨rfl, ⟨nd, rfl⟩⟩; exact ⟨rfl, _, World.drewN_drewN _ _ _⟩)); try go_wp2)
                go_roundg (l0.length - i)
                case measure => have := HI1.out; omega
                case rel => exact ⟨i + 1, by go_num, ⟨by omega⟩, ⟨by omega⟩, HN, ⟨From.out⟩⟩
              · obtain ⟨j, hj⟩ : ∃ j, j = i - 1 := ⟨_, rfl⟩
                have hz1 : decide ((i : Int) > 0) = true := decide_eq_true (by omega)
                have hz2 : decide ((0 : Int) < (i : Int)) = true := decide_eq_true (by omega)
                have hz3 : decide (0 < i) = true := decide_eq_true (by omega)
                have hw1 : wrap64 ((i : Int) - 1) = (j : Int) := by unfold wrap64; omega
                have hw2 : IntKind.i64.wrap ((i : Int) - 1) = (j : Int) := by rw [i64_w]; exact hw1
                have hj1 : (j : Int) < (l0.length : Int) := by omega
                have hj2 : j < l0.length := by omega
                have hl1 : decide ((j : Int) < (l0.length : Int)) = true := decide_eq_true (by omega)
                have hl2 : decide (j < l0.length) = true := decide_eq_true (by omega)
                obtain ⟨ad2, e2, _, _, _, hy3⟩ := at_T85 HR0.out (j : Int) (by omega) (by omega)
                cases e2
                obtain ⟨y, hy⟩ : ∃ y, rd_T85 l0 (j : Int) = y := ⟨_, rfl⟩
                have HP2 := Aside0.mk (HP.out (by omega))
                rw [← hj, hy] at HP2
                rw [hy] at hy3
                simp only [Int.toNat_natCast] at hy3
                have j4 : CelR wr _ _ := ⟨(HB.out.cell (World.block_lt_of_cell? w _ hy3)).trans hy3⟩
                clear hy hy3 HP hj
                by_cases h5 : y.f2 ≤ x.f2
                · have h51 : decide (y.f2 > x.f2) = false := decide_eq_false (by omega)
                  have h52 : decide (x.f2 < y.f2) = false := decide_eq_false (by omega)
                  have HN : Aside0 ((Q.logGo (Q.prevM l0 (i + 1)) (l0.drop (i + 1)) && decide (l0.length ≤ 30)) = r) := ⟨by rw [← HQ.out, HD.out, HE.out, show decide (Q.prevM l0 i ≤ x.f2) = true from decide_eq_true (by rw [HP2.out]; exact h5)]; rfl⟩
                  clear HQ HD HE HP2 HZ HR0
                  go_wp2_with (first         | ((with_reducible refine gate_dst (N := 4) rfl ?_); refine box_event rfl (N := 4) rfl (cs := #[.int .i64 0, .int .i64 0, .int .i64 0, .int .i64 0]) (t := 85) (by first | (go_simp; done) | (go_simp; rfl)) ?_; intro g hg w1 hk hb; have j1 := Born.mk hg; have j2 := Bel.mk hb; have j3 := Blk.mk hk; clear hg hb hk)         | (go_at_call 61; (first | (with_reducible refine (W1.out _).mono ?_) | (with_reducible refine (W2.out _).mono ?_) | (with_reducible refine (W3.out _).mono ?_) | (with_reducible refine (W4.out _).mono ?_)); rintro e w' ⟨rfl, ⟨nd, rfl⟩⟩))
                  repeat (go_quiet (first | (go_at_call 61; (first | (with_reducible refine (W1.out _).mono ?_) | (with_reducible refine (W2.out _).mono ?_) | (with_reducible refine (W3.out _).mono ?_) | (with_reducible refine (W4.out _).mono ?_)); rintro e w' ⟨rfl, ⟨nd, rfl⟩⟩; exact ⟨rfl, _, World.drewN_drewN _ _ _⟩)); try go_wp2)
                  go_roundg (l0.length - i)
                  case measure => have := HI1.out; omega
                  case rel => exact ⟨i + 1, by go_num, ⟨by omega⟩, ⟨by omega⟩, HN, ⟨From.out⟩⟩
                · have h51 : decide (y.f2 > x.f2) = true := decide_eq_true (by omega)
                  have h52 : decide (x.f2 < y.f2) = true := decide_eq_true (by omega)
                  obtain rfl : false = r := by rw [← HQ.out, HD.out, HE.out, show decide (Q.prevM l0 i ≤ x.f2) = false from decide_eq_false (by rw [HP2.out]; exact h5)]; rfl
                  clear HQ HD HE HP2 HZ HR0
                  go_wp2_with (first         | ((with_reducible refine gate_dst (N := 4) rfl ?_); refine box_event rfl (N := 4) rfl (cs := #[.int .i64 0, .int .i64 0, .int .i64 0, .int .i64 0]) (t := 85) (by first | (go_simp; done) | (go_simp; rfl)) ?_; intro g hg w1 hk hb; have j1 := Born.mk hg; have j2 := Bel.mk hb; have j3 := Blk.mk hk; clear hg hb hk)         | (go_at_call 61; (first | (with_reducible refine (W1.out _).mono ?_) | (with_reducible refine (W2.out _).mono ?_) | (with_reducible refine (W3.out _).mono ?_) | (with_reducible refine (W4.out _).mono ?_)); rintro e w' ⟨rfl, ⟨nd, rfl⟩⟩))
                  repeat (go_quiet (first | (go_at_call 61; (first | (with_reducible refine (W1.out _).mono ?_) | (with_reducible refine (W2.out _).mono ?_) | (with_reducible refine (W3.out _).mono ?_) | (with_reducible refine (W4.out _).mono ?_)); rintro e w' ⟨rfl, ⟨nd, rfl⟩⟩; exact ⟨rfl, _, World.drewN_drewN _ _ _⟩)); try go_wp2)
                  go_ret
                  exact ⟨rfl, From.out⟩
end Go.Proofs.YtojiighpkppckaaDoor.P


namespace Go.Proofs.YtojiighpkppckaaDoor.P
open Go.RowKit Go.Proofs.YtojiighpkppckaaDoorW.PrintWords Go.Proofs.YtojiighpkppckaaDoorW.PrintLast Go.Proofs.YtojiighpkppckaaDoorW.PrintMore Go.Proofs.YtojiighpkppckaaDoor.V
attribute [local go_sem] cell_b frozen_b
attribute [local go_sem] max2_int min2_int max_two min_two max_three min_three max_four min_four
set_option linter.unusedVariables false
set_option linter.unusedSimpArgs false
def impl_ShopOk.f (k : Nat) (l0_0 : List (S145)) (a0_1 : Int) (l0_2 : List Int) (a0_3 : Int) (a0_4 : Int) (l0_5 : List (S85)) : Option (Bool) := some (Q.shopOk l0_0 a0_1 l0_2 a0_3 a0_4 l0_5)
attribute [local go_sem] cellR_c
set_option maxHeartbeats 2000000 in
set_option maxRecDepth 100000 in
set_option synthInstance.maxHeartbeats 400000 in
set_option synthInstance.maxSize 100000 in
theorem impl_ShopOk.calls (k : Nat) (A0_0 : Option Addr) (c0_0 : Nat) (l0_0 : List (S145)) (a0_1 : Int) (A0_2 : Option Addr) (c0_2 : Nat) (l0_2 : List Int) (a0_3 : Int) (a0_4 : Int) (A0_5 : Option Addr) (c0_5 : Nat) (l0_5 : List (S85)) (r : Bool) (w : World) (hr0_0 : Kd.C k145 w A0_0 l0_0.length l0_0) (hc0_0 : l0_0.length ≤ c0_0) (hr0_2 : Kd.C (Kd.int .i64) w A0_2 l0_2.length l0_2) (hc0_2 : l0_2.length ≤ c0_2) (hr0_5 : Kd.C k85 w A0_5 l0_5.length l0_5) (hc0_5 : l0_5.length ≤ c0_5) (h : impl_ShopOk.f k l0_0 a0_1 l0_2 a0_3 a0_4 l0_5 = some r) :
    Calls Tryd.prog 40 #[.agg #[.slice A0_0 l0_0.length c0_0, .int .i64 a0_1, .slice A0_2 l0_2.length c0_2, .int .i64 a0_3, .int .i64 a0_4, .slice A0_5 l0_5.length c0_5]] w fun e w' => e = .returned (.bool r) ∧ Below w.heap.size w w' := by
  obtain ⟨b1, hb1⟩ : ∃ b, workOk l0_0 a0_1 l0_2 = b := ⟨_, rfl⟩
  obtain ⟨b2, hb2⟩ : ∃ b, Q.logOk l0_5 = b := ⟨_, rfl⟩
  obtain ⟨b3, hb3⟩ : ∃ b, decide (-10 ≤ a0_3 ∧ a0_3 ≤ 40) = b := ⟨_, rfl⟩
  obtain ⟨b4, hb4⟩ : ∃ b, decide (0 ≤ a0_4 ∧ a0_4 ≤ 100000) = b := ⟨_, rfl⟩
  obtain ⟨b5, hb5⟩ : ∃ b, decide (Q.lastOk l0_5 a0_4) = b := ⟨_, rfl⟩
  have HQ : Aside0 ((b1 && (b2 && (b3 && (b4 && b5)))) = r) := ⟨by rw [← hb1, ← hb2, ← hb3, ← hb4, ← hb5]; exact Option.some.inj h⟩
  have A1 : Aside0 (impl_WorkOk.f l0_0 a0_1 l0_2 = some b1) := ⟨by rw [← hb1]; rfl⟩
  have A2 : Aside0 (impl_LogOk.f k l0_5 = some b2) := ⟨by rw [← hb2]; rfl⟩
  have A4 : Aside0 (impl_within.f a0_4 0 100000 = some b4) := ⟨by rw [← hb4]; unfold impl_within.f; by_cases hh : 0 ≤ a0_4 <;> simp [hh]⟩
  have A3 : Aside0 (impl_isWarmth.f a0_3 = some b3) := ⟨by rw [← hb3]; unfold impl_isWarmth.f impl_within.f; by_cases hh : -10 ≤ a0_3 <;> simp [hh]⟩
  have H5 := Aside0.mk hb5
  have HR := Aside0.mk hr0_5
  have HM := Aside0.mk (Kd.C_max hr0_5)
  have i0 := RdE.mk hr0_0
  have i1 := LeI.mk hc0_0
  have i2 := RdE.mk hr0_2
  have i3 := LeI.mk hc0_2
  have i4 := RdE.mk hr0_5
  have i5 := LeI.mk hc0_5
  have hu := Tryd.underlying44
  clear hr0_0 hc0_0 hr0_2 hc0_2 hr0_5 hc0_5 h hb1 hb2 hb3 hb4 hb5
  cases b1 with
  | false =>
    obtain rfl : false = r := HQ.out
    clear HQ H5 HR HM
    go_enter Tryd.func40, Tryd.ntmps40
    go_wp2_with (first | ((with_reducible refine gate_dst (N := 1) rfl ?_); (try (refine gate_guard (by rfl) ?_; dsimp only)); refine box_event rfl (N := 1) rfl (cs := #[.slice A0_0 l0_0.length c0_0, .int .i64 a0_1, .slice A0_2 l0_2.length c0_2, .int .i64 a0_3, .int .i64 a0_4, .slice A0_5 l0_5.length c0_5]) (t := 44) (by first | (go_simp; done) | (go_simp; rfl)) ?_; intro g hg w1 hk hb; have j1 := Born.mk hg; have j2 := Bel.mk hb; have j3 := Blk.mk hk; clear hg hb hk) | (go_at_call 68; refine (impl_WorkOk.calls _ _ _ _ _ _ _ _ _ Rd.out LeI.out Rd.out LeI.out A1.out).mono ?_; rintro e w2 ⟨rfl, hb⟩; have jb := Bel.mk hb; clear hb) | (go_at_call 69; refine (impl_LogOk.calls k _ _ _ _ _ Rd.out LeI.out A2.out).mono ?_; rintro e w2 ⟨rfl, hb⟩; have jb := Bel.mk hb; clear hb) | (go_at_call 60; refine (impl_isWarmth.calls _ _ _ A3.out).mono ?_; rintro e w2 ⟨rfl, n, rfl⟩) | (go_at_call 61; refine (impl_within.calls _ _ _ _ _ A4.out).mono ?_; rintro e w2 ⟨rfl, n, rfl⟩))
    repeat (go_quiet (fail); try go_wp2)
    go_ret
    exact ⟨rfl, From.out⟩
  | true =>
    cases b2 with
    | false =>
      obtain rfl : false = r := HQ.out
      clear HQ H5 HR HM
      go_enter Tryd.func40, Tryd.ntmps40
      go_wp2_with (first | ((with_reducible refine gate_dst (N := 1) rfl ?_); (try (refine gate_guard (by rfl) ?_; dsimp only)); refine box_event rfl (N := 1) rfl (cs := #[.slice A0_0 l0_0.length c0_0, .int .i64 a0_1, .slice A0_2 l0_2.length c0_2, .int .i64 a0_3, .int .i64 a0_4, .slice A0_5 l0_5.length c0_5]) (t := 44) (by first | (go_simp; done) | (go_simp; rfl)) ?_; intro g hg w1 hk hb; have j1 := Born.mk hg; have j2 := Bel.mk hb; have j3 := Blk.mk hk; clear hg hb hk) | (go_at_call 68; refine (impl_WorkOk.calls _ _ _ _ _ _ _ _ _ Rd.out LeI.out Rd.out LeI.out A1.out).mono ?_; rintro e w2 ⟨rfl, hb⟩; have jb := Bel.mk hb; clear hb) | (go_at_call 69; refine (impl_LogOk.calls k _ _ _ _ _ Rd.out LeI.out A2.out).mono ?_; rintro e w2 ⟨rfl, hb⟩; have jb := Bel.mk hb; clear hb) | (go_at_call 60; refine (impl_isWarmth.calls _ _ _ A3.out).mono ?_; rintro e w2 ⟨rfl, n, rfl⟩) | (go_at_call 61; refine (impl_within.calls _ _ _ _ _ A4.out).mono ?_; rintro e w2 ⟨rfl, n, rfl⟩))
      repeat (go_quiet (fail); try go_wp2)
      go_ret
      exact ⟨rfl, From.out⟩
    | true =>
      cases b3 with
      | false =>
        obtain rfl : false = r := HQ.out
        clear HQ H5 HR HM
        go_enter Tryd.func40, Tryd.ntmps40
        go_wp2_with (first | ((with_reducible refine gate_dst (N := 1) rfl ?_); (try (refine gate_guard (by rfl) ?_; dsimp only)); refine box_event rfl (N := 1) rfl (cs := #[.slice A0_0 l0_0.length c0_0, .int .i64 a0_1, .slice A0_2 l0_2.length c0_2, .int .i64 a0_3, .int .i64 a0_4, .slice A0_5 l0_5.length c0_5]) (t := 44) (by first | (go_simp; done) | (go_simp; rfl)) ?_; intro g hg w1 hk hb; have j1 := Born.mk hg; have j2 := Bel.mk hb; have j3 := Blk.mk hk; clear hg hb hk) | (go_at_call 68; refine (impl_WorkOk.calls _ _ _ _ _ _ _ _ _ Rd.out LeI.out Rd.out LeI.out A1.out).mono ?_; rintro e w2 ⟨rfl, hb⟩; have jb := Bel.mk hb; clear hb) | (go_at_call 69; refine (impl_LogOk.calls k _ _ _ _ _ Rd.out LeI.out A2.out).mono ?_; rintro e w2 ⟨rfl, hb⟩; have jb := Bel.mk hb; clear hb) | (go_at_call 60; refine (impl_isWarmth.calls _ _ _ A3.out).mono ?_; rintro e w2 ⟨rfl, n, rfl⟩) | (go_at_call 61; refine (impl_within.calls _ _ _ _ _ A4.out).mono ?_; rintro e w2 ⟨rfl, n, rfl⟩))
        repeat (go_quiet (fail); try go_wp2)
        go_ret
        exact ⟨rfl, From.out⟩
      | true =>
        cases b4 with
        | false =>
          obtain rfl : false = r := HQ.out
          clear HQ H5 HR HM
          go_enter Tryd.func40, Tryd.ntmps40
          go_wp2_with (first | ((with_reducible refine gate_dst (N := 1) rfl ?_); (try (refine gate_guard (by rfl) ?_; dsimp only)); refine box_event rfl (N := 1) rfl (cs := #[.slice A0_0 l0_0.length c0_0, .int .i64 a0_1, .slice A0_2 l0_2.length c0_2, .int .i64 a0_3, .int .i64 a0_4, .slice A0_5 l0_5.length c0_5]) (t := 44) (by first | (go_simp; done) | (go_simp; rfl)) ?_; intro g hg w1 hk hb; have j1 := Born.mk hg; have j2 := Bel.mk hb; have j3 := Blk.mk hk; clear hg hb hk) | (go_at_call 68; refine (impl_WorkOk.calls _ _ _ _ _ _ _ _ _ Rd.out LeI.out Rd.out LeI.out A1.out).mono ?_; rintro e w2 ⟨rfl, hb⟩; have jb := Bel.mk hb; clear hb) | (go_at_call 69; refine (impl_LogOk.calls k _ _ _ _ _ Rd.out LeI.out A2.out).mono ?_; rintro e w2 ⟨rfl, hb⟩; have jb := Bel.mk hb; clear hb) | (go_at_call 60; refine (impl_isWarmth.calls _ _ _ A3.out).mono ?_; rintro e w2 ⟨rfl, n, rfl⟩) | (go_at_call 61; refine (impl_within.calls _ _ _ _ _ A4.out).mono ?_; rintro e w2 ⟨rfl, n, rfl⟩))
          repeat (go_quiet (fail); try go_wp2)
          go_ret
          exact ⟨rfl, From.out⟩
        | true =>
          obtain rfl : b5 = r := HQ.out
          by_cases hz : l0_5.length = 0
          · have z1 : ((l0_5.length : Int) == 0) = true := beq_iff_eq.mpr (by omega)
            have z2 : ((l0_5.length : Int) != 0) = false := bne_eq_false_iff_eq.mpr (by omega)
            have z3 : decide ((l0_5.length : Int) = 0) = true := decide_eq_true (by omega)
            obtain rfl : true = b5 := by rw [← H5.out]; exact (decide_eq_true (.inl hz)).symm
            clear HQ H5 HR HM hz
            go_enter Tryd.func40, Tryd.ntmps40
            go_wp2_with (first | ((with_reducible refine gate_dst (N := 1) rfl ?_); (try (refine gate_guard (by rfl) ?_; dsimp only)); refine box_event rfl (N := 1) rfl (cs := #[.slice A0_0 l0_0.length c0_0, .int .i64 a0_1, .slice A0_2 l0_2.length c0_2, .int .i64 a0_3, .int .i64 a0_4, .slice A0_5 l0_5.length c0_5]) (t := 44) (by first | (go_simp; done) | (go_simp; rfl)) ?_; intro g hg w1 hk hb; have j1 := Born.mk hg; have j2 := Bel.mk hb; have j3 := Blk.mk hk; clear hg hb hk) | (go_at_call 68; refine (impl_WorkOk.calls _ _ _ _ _ _ _ _ _ Rd.out LeI.out Rd.out LeI.out A1.out).mono ?_; rintro e w2 ⟨rfl, hb⟩; have jb := Bel.mk hb; clear hb) | (go_at_call 69; refine (impl_LogOk.calls k _ _ _ _ _ Rd.out LeI.out A2.out).mono ?_; rintro e w2 ⟨rfl, hb⟩; have jb := Bel.mk hb; clear hb) | (go_at_call 60; refine (impl_isWarmth.calls _ _ _ A3.out).mono ?_; rintro e w2 ⟨rfl, n, rfl⟩) | (go_at_call 61; refine (impl_within.calls _ _ _ _ _ A4.out).mono ?_; rintro e w2 ⟨rfl, n, rfl⟩))
            repeat (go_quiet (fail); try go_wp2)
            go_ret
            exact ⟨rfl, From.out⟩
          · obtain ⟨j, hj⟩ : ∃ j, j + 1 = l0_5.length := ⟨l0_5.length - 1, by omega⟩
            have z1 : ((l0_5.length : Int) == 0) = false := beq_eq_false_iff_ne.mpr (by omega)
            have z2 : ((l0_5.length : Int) != 0) = true := bne_iff_ne.mpr (by omega)
            have z3 : decide ((l0_5.length : Int) = 0) = false := decide_eq_false (by omega)
            have hM := HM.out
            have hw1 : wrap64 ((l0_5.length : Int) - 1) = (j : Int) := by unfold wrap64; omega
            have hw2 : IntKind.i64.wrap ((l0_5.length : Int) - 1) = (j : Int) := by rw [i64_w]; exact hw1
            have hj1 : (j : Int) < (l0_5.length : Int) := by omega
            have hj2 : j < l0_5.length := by omega
            obtain ⟨ad2, e2, _, _, _, hy3⟩ := at_T85 HR.out (j : Int) (by omega) (by omega)
            subst e2
            obtain ⟨y, hy⟩ : ∃ y, rd_T85 l0_5 (j : Int) = y := ⟨_, rfl⟩
            rw [hy] at hy3
            simp only [Int.toNat_natCast] at hy3
            have j4 : CelR w _ _ := ⟨hy3⟩
            have h6 : decide (y.f2 ≤ a0_4) = b5 := by
              rw [← H5.out, ← hy]
              refine decide_eq_decide.mpr ?_
              unfold Q.lastOk
              rw [show l0_5.length - 1 = j by omega]
              simp [rd_T85, hz]
            have h7 : decide (a0_4 ≥ y.f2) = b5 := h6
            clear HQ H5 HR HM hM hy hy3 hz hj
            go_enter Tryd.func40, Tryd.ntmps40
            go_wp2_with (first | ((with_reducible refine gate_dst (N := 1) rfl ?_); (try (refine gate_guard (by rfl) ?_; dsimp only)); refine box_event rfl (N := 1) rfl (cs := #[.slice A0_0 l0_0.length c0_0, .int .i64 a0_1, .slice A0_2 l0_2.length c0_2, .int .i64 a0_3, .int .i64 a0_4, .slice (some ad2) l0_5.length c0_5]) (t := 44) (by first | (go_simp; done) | (go_simp; rfl)) ?_; intro g hg w1 hk hb; have j1 := Born.mk hg; have j2 := Bel.mk hb; have j3 := Blk.mk hk; clear hg hb hk) | (go_at_call 68; refine (impl_WorkOk.calls _ _ _ _ _ _ _ _ _ Rd.out LeI.out Rd.out LeI.out A1.out).mono ?_; rintro e w2 ⟨rfl, hb⟩; have jb := Bel.mk hb; clear hb) | (go_at_call 69; refine (impl_LogOk.calls k _ _ _ _ _ Rd.out LeI.out A2.out).mono ?_; rintro e w2 ⟨rfl, hb⟩; have jb := Bel.mk hb; clear hb) | (go_at_call 60; refine (impl_isWarmth.calls _ _ _ A3.out).mono ?_; rintro e w2 ⟨rfl, n, rfl⟩) | (go_at_call 61; refine (impl_within.calls _ _ _ _ _ A4.out).mono ?_; rintro e w2 ⟨rfl, n, rfl⟩))
            repeat (go_quiet (fail); try go_wp2)
            go_ret
            exact ⟨by first | rfl | (simp [h6]; done), From.out⟩
end Go.Proofs.YtojiighpkppckaaDoor.P


namespace Go.Proofs.YtojiighpkppckaaDoor.P
open Go.RowKit Go.Proofs.YtojiighpkppckaaDoorW.PrintWords Go.Proofs.YtojiighpkppckaaDoorW.PrintLast Go.Proofs.YtojiighpkppckaaDoorW.PrintMore Go.Proofs.YtojiighpkppckaaDoor.V
attribute [local go_sem] cell_b frozen_b
attribute [local go_sem] max2_int min2_int max_two min_two max_three min_three max_four min_four
set_option linter.unusedVariables false
set_option linter.unusedSimpArgs false
def impl_FormatShop.l0 : Nat → List ByteArray → List (S85) → Int → Int → Option (List ByteArray)
  | 0, _, _, _, _ => none
  | k + 1, x3, x32, x33, x34 => if x34 < x33 then (if 0 ≤ x34 then (if x34 < (x32.length : Int) then ((impl_words.f k (([(rd_T85 x32 x34).f0.f0, (rd_T85 x32 x34).f0.f1, (rd_T85 x32 x34).f1, (rd_T85 x32 x34).f2] : List Int))).bind fun t869 => (if x3.length < 8796093022208 then (impl_FormatShop.l0 k (x3 ++ [t869]) x32 x33 (wrap64 (x34 + 1))) else (none))) else (none)) else (none)) else (some x3)
def impl_FormatShop.f (k : Nat) (l0_0 : List (S145)) (a0_1 : Int) (l0_2 : List Int) (a0_3 : Int) (a0_4 : Int) (l0_5 : List (S85)) : Option (List ByteArray) := (impl_ShopOk.f k l0_0 a0_1 l0_2 a0_3 a0_4 l0_5).bind fun t847 => (if t847 = true then ((impl_words.f k l0_2).bind fun t848 => (if 8 + t848.size ≤ 9223372036854775807 then ((impl_words.f k (([a0_1] : List Int))).bind fun t852 => (if 5 + t852.size ≤ 9223372036854775807 then ((impl_words.f k (([a0_3] : List Int))).bind fun t856 => (if 7 + t856.size ≤ 9223372036854775807 then ((impl_words.f k (([a0_4] : List Int))).bind fun t860 => (if 7 + t860.size ≤ 9223372036854775807 then (impl_FormatShop.l0 k (([(⟨#[112, 105, 116, 99, 104, 101, 115, 32]⟩ : ByteArray) ++ t848, (⟨#[100, 111, 110, 101, 32]⟩ : ByteArray) ++ t852, (⟨#[119, 97, 114, 109, 116, 104, 32]⟩ : ByteArray) ++ t856, (⟨#[109, 111, 109, 101, 110, 116, 32]⟩ : ByteArray) ++ t860] : List ByteArray)) l0_5 (l0_5.length : Int) 0) else (none))) else (none))) else (none))) else (none))) else (some ([] : List ByteArray)))
def impl_FormatShop.T3 : Bool × List (List Nat × List Nat) := (true, [([], []), ([0], [0]), ([1], [1]), ([2], [2]), ([3], [3]), ([], []), ([5], [5]), ([6], [6]), ([7], [7]), ([8, 3], [8]), ([9], [9]), ([], []), ([11], [11]), ([12], [12]), ([13, 9], [13]), ([14], [14]), ([], []), ([16], [16]), ([17], [17]), ([18, 14], [18]), ([19], [19]), ([4, 10, 15, 20], [4, 10, 15, 20]), ([21, 19, 0, 1, 2, 3, 4, 5, 6, 7, 8, 9, 10, 11, 12, 13, 14, 15, 16, 17, 18, 19, 20, 21], [21])])
def impl_FormatShop.B3 : List Nat := [0, 1, 3, 7, 15, 0, 32, 96, 224, 495, 1007, 0, 2048, 6144, 15343, 31727, 0, 65536, 196608, 490479, 1014767, 2097151, 4194303]
theorem impl_FormatShop.tab3 : rtab .any (opsOf Tryd.f18 3) = impl_FormatShop.T3 := by kernel_rfl
theorem impl_FormatShop.bits3 : waitsOk impl_FormatShop.T3.2 impl_FormatShop.B3 = true := by kernel_rfl
set_option maxHeartbeats 8000000 in
set_option maxRecDepth 100000 in
theorem impl_FormatShop.calls (k : Nat) (A0_0 : Option Addr) (c0_0 : Nat) (l0_0 : List (S145)) (a0_1 : Int) (A0_2 : Option Addr) (c0_2 : Nat) (l0_2 : List Int) (a0_3 : Int) (a0_4 : Int) (A0_5 : Option Addr) (c0_5 : Nat) (l0_5 : List (S85)) (r : List ByteArray) (w : World) (hr0_0 : Kd.C k145 w A0_0 l0_0.length l0_0) (hc0_0 : l0_0.length ≤ c0_0) (hr0_2 : Kd.C (Kd.int .i64) w A0_2 l0_2.length l0_2) (hc0_2 : l0_2.length ≤ c0_2) (hr0_5 : Kd.C k85 w A0_5 l0_5.length l0_5) (hc0_5 : l0_5.length ≤ c0_5) (h : impl_FormatShop.f k l0_0 a0_1 l0_2 a0_3 a0_4 l0_5 = some r) (ht_ : Aside0 (Tab w)) :
    Calls Tryd.prog 18 #[.agg #[.slice A0_0 l0_0.length c0_0, .int .i64 a0_1, .slice A0_2 l0_2.length c0_2, .int .i64 a0_3, .int .i64 a0_4, .slice A0_5 l0_5.length c0_5]] w fun e w' => ∃ v0_ : Value, e = .returned (v0_) ∧ Kd.R Kd.string 9 w' w.heap.size (fun _ => True) v0_ r ∧ Below w.heap.size w w' := by
  have hu44 := Tryd.underlying44
  have hu85 := Tryd.underlying85
  have HR0_0 := Aside0.mk hr0_0
  have HC0_0 := Aside0.mk hc0_0
  clear hr0_0 hc0_0
  have HR0_2 := Aside0.mk hr0_2
  have HC0_2 := Aside0.mk hc0_2
  clear hr0_2 hc0_2
  have HR0_5 := Aside0.mk hr0_5
  have HC0_5 := Aside0.mk hc0_5
  clear hr0_5 hc0_5
  have HB := Aside0.mk (Below.refl w.heap.size w)
  have H : ((impl_ShopOk.f k l0_0 a0_1 l0_2 a0_3 a0_4 l0_5).bind fun t847 => (if t847 = true then ((impl_words.f k l0_2).bind fun t848 => (if 8 + t848.size ≤ 9223372036854775807 then ((impl_words.f k (([a0_1] : List Int))).bind fun t852 => (if 5 + t852.size ≤ 9223372036854775807 then ((impl_words.f k (([a0_3] : List Int))).bind fun t856 => (if 7 + t856.size ≤ 9223372036854775807 then ((impl_words.f k (([a0_4] : List Int))).bind fun t860 => (if 7 + t860.size ≤ 9223372036854775807 then (impl_FormatShop.l0 k (([(⟨#[112, 105, 116, 99, 104, 101, 115, 32]⟩ : ByteArray) ++ t848, (⟨#[100, 111, 110, 101, 32]⟩ : ByteArray) ++ t852, (⟨#[119, 97, 114, 109, 116, 104, 32]⟩ : ByteArray) ++ t856, (⟨#[109, 111, 109, 101, 110, 116, 32]⟩ : ByteArray) ++ t860] : List ByteArray)) l0_5 (l0_5.length : Int) 0) else (none))) else (none))) else (none))) else (none))) else (some ([] : List ByteArray)))) = some r := h
  clear h
  replace H := Option.bind_eq_some_iff.mp H
  obtain ⟨t847, A20, H⟩ := H
  (try dsimp only at H)
  have A2 := Aside0.mk A20
  clear A20
  by_cases c3 : t847 = true
  · subst c3
    rw [if_pos rfl] at H
    replace H := Option.bind_eq_some_iff.mp H
    obtain ⟨t848, A40, H⟩ := H
    (try dsimp only at H)
    have A4 := Aside0.mk A40
    clear A40
    by_cases c5 : 8 + t848.size ≤ 9223372036854775807
    · rw [if_pos c5] at H
      have c5b0 := eq_true c5
      have c5b1 : decide (8 + t848.size ≤ 9223372036854775807) = true := decide_eq_true c5
      try have c5b2 : (9223372036854775807 < 8 + t848.size) = False := eq_false (Nat.not_lt.2 c5)
      obtain ⟨y849, hy849⟩ : ∃ y_ : List Int, y_ = (([a0_1] : List Int)) := ⟨_, rfl⟩
      replace H : ((impl_words.f k y849).bind fun t852 => (if 5 + t852.size ≤ 9223372036854775807 then ((impl_words.f k (([a0_3] : List Int))).bind fun t856 => (if 7 + t856.size ≤ 9223372036854775807 then ((impl_words.f k (([a0_4] : List Int))).bind fun t860 => (if 7 + t860.size ≤ 9223372036854775807 then (impl_FormatShop.l0 k (([(⟨#[112, 105, 116, 99, 104, 101, 115, 32]⟩ : ByteArray) ++ t848, (⟨#[100, 111, 110, 101, 32]⟩ : ByteArray) ++ t852, (⟨#[119, 97, 114, 109, 116, 104, 32]⟩ : ByteArray) ++ t856, (⟨#[109, 111, 109, 101, 110, 116, 32]⟩ : ByteArray) ++ t860] : List ByteArray)) l0_5 (l0_5.length : Int) 0) else (none))) else (none))) else (none))) = some r := by first | (rw [hy849]; with_reducible exact H) | (have H2_ := (Option.bind_some _ _).symm.trans H; rw [hy849]; with_reducible exact H2_) | (have H2_ := (Option.bind_some _ _).symm.trans H; with_reducible exact H2_) | with_reducible exact H | (rw [hy849]; exact H) | exact H
      have Ny849 := Aside0.mk hy849
      clear hy849
      replace H := Option.bind_eq_some_iff.mp H
      obtain ⟨t852, A60, H⟩ := H
      (try dsimp only at H)
      have A6 := Aside0.mk A60
      clear A60
      by_cases c7 : 5 + t852.size ≤ 9223372036854775807
      · rw [if_pos c7] at H
        have c7b0 := eq_true c7
        have c7b1 : decide (5 + t852.size ≤ 9223372036854775807) = true := decide_eq_true c7
        try have c7b2 : (9223372036854775807 < 5 + t852.size) = False := eq_false (Nat.not_lt.2 c7)
        obtain ⟨y853, hy853⟩ : ∃ y_ : List Int, y_ = (([a0_3] : List Int)) := ⟨_, rfl⟩
        replace H : ((impl_words.f k y853).bind fun t856 => (if 7 + t856.size ≤ 9223372036854775807 then ((impl_words.f k (([a0_4] : List Int))).bind fun t860 => (if 7 + t860.size ≤ 9223372036854775807 then (impl_FormatShop.l0 k (([(⟨#[112, 105, 116, 99, 104, 101, 115, 32]⟩ : ByteArray) ++ t848, (⟨#[100, 111, 110, 101, 32]⟩ : ByteArray) ++ t852, (⟨#[119, 97, 114, 109, 116, 104, 32]⟩ : ByteArray) ++ t856, (⟨#[109, 111, 109, 101, 110, 116, 32]⟩ : ByteArray) ++ t860] : List ByteArray)) l0_5 (l0_5.length : Int) 0) else (none))) else (none))) = some r := by first | (rw [hy853]; with_reducible exact H) | (have H2_ := (Option.bind_some _ _).symm.trans H; rw [hy853]; with_reducible exact H2_) | (have H2_ := (Option.bind_some _ _).symm.trans H; with_reducible exact H2_) | with_reducible exact H | (rw [hy853]; exact H) | exact H
        have Ny853 := Aside0.mk hy853
        clear hy853
        replace H := Option.bind_eq_some_iff.mp H
        obtain ⟨t856, A80, H⟩ := H
        (try dsimp only at H)
        have A8 := Aside0.mk A80
        clear A80
        by_cases c9 : 7 + t856.size ≤ 9223372036854775807
        · rw [if_pos c9] at H
          have c9b0 := eq_true c9
          have c9b1 : decide (7 + t856.size ≤ 9223372036854775807) = true := decide_eq_true c9
          try have c9b2 : (9223372036854775807 < 7 + t856.size) = False := eq_false (Nat.not_lt.2 c9)
          obtain ⟨y857, hy857⟩ : ∃ y_ : List Int, y_ = (([a0_4] : List Int)) := ⟨_, rfl⟩
          replace H : ((impl_words.f k y857).bind fun t860 => (if 7 + t860.size ≤ 9223372036854775807 then (impl_FormatShop.l0 k (([(⟨#[112, 105, 116, 99, 104, 101, 115, 32]⟩ : ByteArray) ++ t848, (⟨#[100, 111, 110, 101, 32]⟩ : ByteArray) ++ t852, (⟨#[119, 97, 114, 109, 116, 104, 32]⟩ : ByteArray) ++ t856, (⟨#[109, 111, 109, 101, 110, 116, 32]⟩ : ByteArray) ++ t860] : List ByteArray)) l0_5 (l0_5.length : Int) 0) else (none))) = some r := by first | (rw [hy857]; with_reducible exact H) | (have H2_ := (Option.bind_some _ _).symm.trans H; rw [hy857]; with_reducible exact H2_) | (have H2_ := (Option.bind_some _ _).symm.trans H; with_reducible exact H2_) | with_reducible exact H | (rw [hy857]; exact H) | exact H
          have Ny857 := Aside0.mk hy857
          clear hy857
          replace H := Option.bind_eq_some_iff.mp H
          obtain ⟨t860, A100, H⟩ := H
          (try dsimp only at H)
          have A10 := Aside0.mk A100
          clear A100
          by_cases c11 : 7 + t860.size ≤ 9223372036854775807
          · rw [if_pos c11] at H
            have c11b0 := eq_true c11
            have c11b1 : decide (7 + t860.size ≤ 9223372036854775807) = true := decide_eq_true c11
            try have c11b2 : (9223372036854775807 < 7 + t860.size) = False := eq_false (Nat.not_lt.2 c11)
            obtain ⟨y861, hy861⟩ : ∃ y_ : List ByteArray, y_ = (([(⟨#[112, 105, 116, 99, 104, 101, 115, 32]⟩ : ByteArray) ++ t848, (⟨#[100, 111, 110, 101, 32]⟩ : ByteArray) ++ t852, (⟨#[119, 97, 114, 109, 116, 104, 32]⟩ : ByteArray) ++ t856, (⟨#[109, 111, 109, 101, 110, 116, 32]⟩ : ByteArray) ++ t860] : List ByteArray)) := ⟨_, rfl⟩
            replace H : (impl_FormatShop.l0 k y861 l0_5 (l0_5.length : Int) 0) = some r := by first | (rw [hy861]; with_reducible exact H) | (have H2_ := (Option.bind_some _ _).symm.trans H; rw [hy861]; with_reducible exact H2_) | (have H2_ := (Option.bind_some _ _).symm.trans H; with_reducible exact H2_) | with_reducible exact H | (rw [hy861]; exact H) | exact H
            have Ny861 := Aside0.mk hy861
            clear hy861
            have H' := Aside0.mk H
            clear H
            go_enter Tryd.func18, Tryd.ntmps18
            try go_wp2_with (first | ((with_reducible refine gate_dst (N := 1) rfl ?_); refine box_event ?hg (N := 1) ?hd (cs := #[.slice A0_0 l0_0.length c0_0, .int .i64 a0_1, .slice A0_2 l0_2.length c0_2, .int .i64 a0_3, .int .i64 a0_4, .slice A0_5 l0_5.length c0_5]) (t := 44) ?hr ?_; (case hd => rfl); (case hg => rfl); (case hr => first | (go_simp; done) | (go_simp; rfl)); intro gb846 hg w12 hbox hb; have n0_ := Aside0.mk (below_step (oB HB) hb); have n1_ := Aside0.mk (hbox); have n2_ := Aside0.mk ((by rw [hg]; exact (below_size (oB HB)) : w.heap.size ≤ gb846)); have n3_ := Aside0.mk ((by rw [hg]; exact (below_size (oB HB)) : w.heap.size ≤ gb846)); clear HB; have HB := n0_; have BK846 := n1_; have GW846 := n2_; have GE846 := n3_; clear n0_ n1_ n2_ n3_; clear hb hbox hg; have hcz13_0 : w12.cell? ⟨gb846, 0, none⟩ = some (.slice A0_0 l0_0.length c0_0) := (blk_cell BK846.out 0).trans rfl; have hcz13_1 : w12.cell? ⟨gb846, 1, none⟩ = some (.int .i64 a0_1) := (blk_cell BK846.out 1).trans rfl; have hcz13_2 : w12.cell? ⟨gb846, 2, none⟩ = some (.slice A0_2 l0_2.length c0_2) := (blk_cell BK846.out 2).trans rfl; have hcz13_3 : w12.cell? ⟨gb846, 3, none⟩ = some (.int .i64 a0_3) := (blk_cell BK846.out 3).trans rfl; have hcz13_4 : w12.cell? ⟨gb846, 4, none⟩ = some (.int .i64 a0_4) := (blk_cell BK846.out 4).trans rfl; have hcz13_5 : w12.cell? ⟨gb846, 5, none⟩ = some (.slice A0_5 l0_5.length c0_5) := (blk_cell BK846.out 5).trans rfl; have hfz13_0 := blk_frozen BK846.out 0; have hfz13_1 := blk_frozen BK846.out 1; have hfz13_2 := blk_frozen BK846.out 2; have hfz13_3 := blk_frozen BK846.out 3; have hfz13_4 := blk_frozen BK846.out 4; have hfz13_5 := blk_frozen BK846.out 5) | ((with_reducible refine gate_callee (f := 40) rfl ?_); refine goesL_ (some 7) rfl rfl Tryd.func40 (by kernel_rfl) rfl #[.agg #[.slice A0_0 l0_0.length c0_0, .int .i64 a0_1, .slice A0_2 l0_2.length c0_2, .int .i64 a0_3, .int .i64 a0_4, .slice A0_5 l0_5.length c0_5]] rfl (by (try simp only [List.map_toArray, List.map_cons, List.map_nil]); first | done | rfl | (simp only [List.length_drop, List.length_take]; rfl)) ?_; (with_reducible refine (impl_ShopOk.calls k _ _ l0_0 a0_1 _ _ l0_2 a0_3 a0_4 _ _ l0_5 true _ ?side1 ?side2 ?side3 ?side4 ?side5 ?side6 A2.out).mono ?_); (case side1 => exact oc_ HR0_0.out); (case side2 => exact HC0_0.out); (case side3 => exact oc_ HR0_2.out); (case side4 => exact HC0_2.out); (case side5 => exact oc_ HR0_5.out); (case side6 => exact HC0_5.out); rintro e w14 ⟨rfl, hb⟩; refine ⟨_, rfl, ?_⟩; have n0_ := Aside0.mk (blk_below (g := gb846) (o := .cells #[.slice A0_0 l0_0.length c0_0, .int .i64 a0_1, .slice A0_2 l0_2.length c0_2, .int .i64 a0_3, .int .i64 a0_4, .slice A0_5 l0_5.length c0_5] 44 (0, 0)) (oK BK846) hb); have n1_ := Aside0.mk (below_step (oB HB) hb); clear BK846; clear HB; have BK846 := n0_; have HB := n1_; clear n0_ n1_; (try clear hb); (try clear hb2); (try clear hk); (try clear hi)))
            have n0_ := Aside0.mk (blk_drew BK846.out)
            have n1_ := Aside0.mk (below_drew1 HB.out)
            clear BK846
            clear HB
            have BK846 := n0_
            have HB := n1_
            clear n0_ n1_
            refine start_ (n := 23) (S := fun w' => True) (ds := []) #[false, false, false, false, false, false, false, false, false, false, false, false, false, false, false, false, false, false, false, false, false, false, false] (by kernel_rfl) rfl rfl trivial (fun hHeld => ?_); refine with_tabW impl_FormatShop.tab3 impl_FormatShop.bits3 (fun HT_ HW_ => ?_)
            generalize w14.drew = w15 at BK846 HB hHeld ⊢
            refine pure_ (i := 0) (N := some 9) (v := ?_) (a' := ?_) #[true, false, false, false, false, false, false, false, false, false, false, false, false, false, false, false, false, false, false, false, false, false, false] rfl rfl (any_of HT_.out (by kernel_rfl)) (fun _ _ _ h => h) (Or.inl ⟨by rfl, ?_⟩) ?_ ?_
            rotate_left
            · intro w'
              go_simp
              with_reducible rfl
            rotate_left
            · simp only [Act.put, List.setIfInBounds_toArray, List.set_cons_zero, List.set_cons_succ, i64_w, i32_w]
              rfl
            refine pure_ (i := 1) (N := some 10) (v := ?_) (a' := ?_) #[true, true, false, false, false, false, false, false, false, false, false, false, false, false, false, false, false, false, false, false, false, false, false] rfl rfl (any_of HT_.out (by kernel_rfl)) (fun _ _ _ h => h) (Or.inl ⟨by rfl, ?_⟩) ?_ ?_
            rotate_left
            · intro w'
              go_simp
              with_reducible rfl
            rotate_left
            · simp only [Act.put, List.setIfInBounds_toArray, List.set_cons_zero, List.set_cons_succ, i64_w, i32_w]
              rfl
            refine pure_ (i := 5) (N := some 14) (v := ?_) (a' := ?_) #[true, true, false, false, false, true, false, false, false, false, false, false, false, false, false, false, false, false, false, false, false, false, false] rfl rfl (any_of HT_.out (by kernel_rfl)) (fun _ _ _ h => h) (Or.inl ⟨by rfl, ?_⟩) ?_ ?_
            rotate_left
            · intro w'
              go_simp
              with_reducible rfl
            rotate_left
            · simp only [Act.put, List.setIfInBounds_toArray, List.set_cons_zero, List.set_cons_succ, i64_w, i32_w]
              rfl
            refine pure_ (i := 6) (N := some 15) (v := ?_) (a' := ?_) #[true, true, false, false, false, true, true, false, false, false, false, false, false, false, false, false, false, false, false, false, false, false, false] rfl rfl (any_of HT_.out (by kernel_rfl)) (fun _ _ _ h => h) (Or.inl ⟨by rfl, ?_⟩) ?_ ?_
            rotate_left
            · intro w'
              go_simp
              with_reducible rfl
            rotate_left
            · simp only [Act.put, List.setIfInBounds_toArray, List.set_cons_zero, List.set_cons_succ, i64_w, i32_w]
              rfl
            refine pure_ (i := 11) (N := some 20) (v := ?_) (a' := ?_) #[true, true, false, false, false, true, true, false, false, false, false, true, false, false, false, false, false, false, false, false, false, false, false] rfl rfl (any_of HT_.out (by kernel_rfl)) (fun _ _ _ h => h) (Or.inl ⟨by rfl, ?_⟩) ?_ ?_
            rotate_left
            · intro w'
              go_simp
              with_reducible rfl
            rotate_left
            · simp only [Act.put, List.setIfInBounds_toArray, List.set_cons_zero, List.set_cons_succ, i64_w, i32_w]
              rfl
            refine pure_ (i := 16) (N := some 25) (v := ?_) (a' := ?_) #[true, true, false, false, false, true, true, false, false, false, false, true, false, false, false, false, true, false, false, false, false, false, false] rfl rfl (any_of HT_.out (by kernel_rfl)) (fun _ _ _ h => h) (Or.inl ⟨by rfl, ?_⟩) ?_ ?_
            rotate_left
            · intro w'
              go_simp
              with_reducible rfl
            rotate_left
            · simp only [Act.put, List.setIfInBounds_toArray, List.set_cons_zero, List.set_cons_succ, i64_w, i32_w]
              rfl
            refine inv_at [2, 3, 4, 7, 8, 9, 10, 12, 13, 14, 15, 17, 18, 19, 20, 21, 22] (fun a0_ b a w' => ∃ (v850 : Value) (v854 : Value) (v858 : Value) (v862 : Value) (m22_ : Value), a = putSel a0_ b [(2, 11, .slice A0_2 l0_2.length c0_2), (3, 12, .string t848), (4, 13, .string ((⟨#[112, 105, 116, 99, 104, 101, 115, 32]⟩ : ByteArray) ++ t848)), (7, 16, .int .i64 a0_1), (8, 17, v850), (9, 18, .string t852), (10, 19, .string ((⟨#[100, 111, 110, 101, 32]⟩ : ByteArray) ++ t852)), (12, 21, .int .i64 a0_3), (13, 22, v854), (14, 23, .string t856), (15, 24, .string ((⟨#[119, 97, 114, 109, 116, 104, 32]⟩ : ByteArray) ++ t856)), (17, 26, .int .i64 a0_4), (18, 27, v858), (19, 28, .string t860), (20, 29, .string ((⟨#[109, 111, 109, 101, 110, 116, 32]⟩ : ByteArray) ++ t860)), (21, 30, v862), (22, 3, m22_)] ∧ (w'.heap[gb846]? = some (.cells #[.slice A0_0 l0_0.length c0_0, .int .i64 a0_1, .slice A0_2 l0_2.length c0_2, .int .i64 a0_3, .int .i64 a0_4, .slice A0_5 l0_5.length c0_5] 44 (0, 0))) ∧ (Below w.heap.size w w') ∧ (b 8 = true → Kd.R (Kd.int .i64) 3 w' w.heap.size (fun _ => True) v850 y849) ∧ (b 13 = true → Kd.R (Kd.int .i64) 3 w' w.heap.size (fun _ => True) v854 y853) ∧ (b 18 = true → Kd.R (Kd.int .i64) 3 w' w.heap.size (fun _ => True) v858 y857) ∧ (b 21 = true → Kd.R Kd.string 9 w' w.heap.size (fun _ => True) v862 y861) ∧ (b 22 = true → (m22_ : Value) = v862)) HT_.out HW_.out (by kernel_rfl) (by kernel_rfl) ?_ ?_ ?_
            · exact ⟨.bool false, .bool false, .bool false, .bool false, .bool false, by simp only [putSel, Bool.false_eq_true, if_false], BK846.out, HB.out, fun h_ => absurd h_ (by decide), fun h_ => absurd h_ (by decide), fun h_ => absurd h_ (by decide), fun h_ => absurd h_ (by decide), fun h_ => absurd h_ (by decide)⟩
            · skip
              clear BK846 HB
              refine steps_cons ?_ ?_
              · rintro b a w' ⟨v850, v854, v858, v862, m22_, ha, Q_BK846, Q_HB, Q_HO851, Q_HO855, Q_HO859, Q_HO863, Q_X22_⟩ hb_ hon hoff
                refine ⟨_, rfl, fun K hK => ?_⟩
                have e10 : a.tmps[10]? = some (.pointer (some ⟨gb846, 2, none⟩)) := by rw [ha]; exact (putSel_off rfl).trans rfl
                replace ha := Aside0.mk ha
                have BK846 := Aside0.mk Q_BK846
                have HB := Aside0.mk Q_HB
                have hc0_ : w'.cell? ⟨gb846, 0, none⟩ = some (.slice A0_0 l0_0.length c0_0) := (blk_cell BK846.out 0).trans rfl
                have hc1_ : w'.cell? ⟨gb846, 1, none⟩ = some (.int .i64 a0_1) := (blk_cell BK846.out 1).trans rfl
                have hc2_ : w'.cell? ⟨gb846, 2, none⟩ = some (.slice A0_2 l0_2.length c0_2) := (blk_cell BK846.out 2).trans rfl
                have hc3_ : w'.cell? ⟨gb846, 3, none⟩ = some (.int .i64 a0_3) := (blk_cell BK846.out 3).trans rfl
                have hc4_ : w'.cell? ⟨gb846, 4, none⟩ = some (.int .i64 a0_4) := (blk_cell BK846.out 4).trans rfl
                have hc5_ : w'.cell? ⟨gb846, 5, none⟩ = some (.slice A0_5 l0_5.length c0_5) := (blk_cell BK846.out 5).trans rfl
                refine value_ (w1 := w') (v := .slice A0_2 l0_2.length c0_2) (by rfl) rfl ?_ ?_
                · go_simp
                  (try simp only [i64_w])
                  try rfl
                refine hK.out _ _ ⟨v850, v854, v858, v862, m22_, (by rw [ha.out]; exact putSel_upk 0 hb_ rfl rfl rfl), Q_BK846, Q_HB, Q_HO851, Q_HO855, Q_HO859, fun h0_ => absurd ((hoff 21 (by kernel_rfl)).symm.trans h0_) (by decide), fun h0_ => absurd ((hoff 22 (by kernel_rfl)).symm.trans h0_) (by decide)⟩
              refine steps_cons ?_ ?_
              · rintro b a w' ⟨v850, v854, v858, v862, m22_, ha, Q_BK846, Q_HB, Q_HO851, Q_HO855, Q_HO859, Q_HO863, Q_X22_⟩ hb_ hon hoff
                refine ⟨_, rfl, fun K hK => ?_⟩
                have e11 : a.tmps[11]? = some (.slice A0_2 l0_2.length c0_2) := by rw [ha]; exact putSel_on (e := (2, 11, .slice A0_2 l0_2.length c0_2)) 0 rfl rfl (hon 2 (by kernel_rfl)) rfl
                replace ha := Aside0.mk ha
                have BK846 := Aside0.mk Q_BK846
                have HB := Aside0.mk Q_HB
                refine goes_ Tryd.func34 (by kernel_rfl) rfl #[.slice A0_2 l0_2.length c0_2] (by rfl) rfl rfl (by first | (simp only [List.map_toArray, List.map_cons, List.map_nil, Act.eval, Array.getD_eq_getD_getElem?, Option.getD_some, e11]; done) | (simp only [List.map_toArray, List.map_cons, List.map_nil, Act.eval, Array.getD_eq_getD_getElem?, Option.getD_some, e11]; rfl)) ?_
                with_reducible refine (impl_words.calls k _ _ l0_2 t848 _ ?side1 ?side2 A4.out ?sideT).mono ?_
                (case sideT => exact ⟨tab_on ht_.out (oB HB)⟩)
                (case side1 => exact oc_ HR0_2.out)
                (case side2 => exact HC0_2.out)
                rintro e w16 ⟨rfl, hb⟩
                refine ⟨_, rfl, ?_⟩
                have n0_ := Aside0.mk (blk_below (g := gb846) (o := .cells #[.slice A0_0 l0_0.length c0_0, .int .i64 a0_1, .slice A0_2 l0_2.length c0_2, .int .i64 a0_3, .int .i64 a0_4, .slice A0_5 l0_5.length c0_5] 44 (0, 0)) (oK BK846) hb)
                have n1_ := Aside0.mk (below_step (oB HB) hb)
                have z_HO851 := fun (h0_ : b 8 = true) => (show Kd.R (Kd.int .i64) 3 w16 w.heap.size (fun _ => True) v850 y849 from by first | exact (Kd.R_below (by (with_reducible repeat (first | apply Kd.R_alloc | apply Kd.R_drewN | apply Kd.R_drew)); exact (Q_HO851 h0_)) hb) | exact Kd.R_mono (Kd.R_below (by (with_reducible repeat (first | apply Kd.R_alloc | apply Kd.R_drewN | apply Kd.R_drew)); exact (Q_HO851 h0_)) hb) (fun _ h_ => by first | trivial | exact h_ | exact h_.1))
                have z_HO855 := fun (h0_ : b 13 = true) => (show Kd.R (Kd.int .i64) 3 w16 w.heap.size (fun _ => True) v854 y853 from by first | exact (Kd.R_below (by (with_reducible repeat (first | apply Kd.R_alloc | apply Kd.R_drewN | apply Kd.R_drew)); exact (Q_HO855 h0_)) hb) | exact Kd.R_mono (Kd.R_below (by (with_reducible repeat (first | apply Kd.R_alloc | apply Kd.R_drewN | apply Kd.R_drew)); exact (Q_HO855 h0_)) hb) (fun _ h_ => by first | trivial | exact h_ | exact h_.1))
                have z_HO859 := fun (h0_ : b 18 = true) => (show Kd.R (Kd.int .i64) 3 w16 w.heap.size (fun _ => True) v858 y857 from by first | exact (Kd.R_below (by (with_reducible repeat (first | apply Kd.R_alloc | apply Kd.R_drewN | apply Kd.R_drew)); exact (Q_HO859 h0_)) hb) | exact Kd.R_mono (Kd.R_below (by (with_reducible repeat (first | apply Kd.R_alloc | apply Kd.R_drewN | apply Kd.R_drew)); exact (Q_HO859 h0_)) hb) (fun _ h_ => by first | trivial | exact h_ | exact h_.1))
                clear BK846
                clear HB
                have BK846 := n0_
                have HB := n1_
                clear n0_ n1_
                (try clear hb)
                (try clear hb2)
                (try clear hk)
                (try clear hi)
                refine hK.out _ _ ⟨v850, v854, v858, v862, m22_, (by rw [ha.out]; exact putSel_upk 1 hb_ rfl rfl rfl), (oK BK846), (oB HB), z_HO851, z_HO855, z_HO859, fun h0_ => absurd ((hoff 21 (by kernel_rfl)).symm.trans h0_) (by decide), fun h0_ => absurd ((hoff 22 (by kernel_rfl)).symm.trans h0_) (by decide)⟩
              refine steps_cons ?_ ?_
              · rintro b a w' ⟨v850, v854, v858, v862, m22_, ha, Q_BK846, Q_HB, Q_HO851, Q_HO855, Q_HO859, Q_HO863, Q_X22_⟩ hb_ hon hoff
                refine ⟨_, rfl, fun K hK => ?_⟩
                have e12 : a.tmps[12]? = some (.string t848) := by rw [ha]; exact putSel_on (e := (3, 12, .string t848)) 1 rfl rfl (hon 3 (by kernel_rfl)) rfl
                replace ha := Aside0.mk ha
                have BK846 := Aside0.mk Q_BK846
                have HB := Aside0.mk Q_HB
                refine value_ (w1 := w') (v := .string ((⟨#[112, 105, 116, 99, 104, 101, 115, 32]⟩ : ByteArray) ++ t848)) (by rfl) rfl ?_ ?_
                · go_simp
                  (try simp only [i64_w])
                  try rfl
                refine hK.out _ _ ⟨v850, v854, v858, v862, m22_, (by rw [ha.out]; exact putSel_upk 2 hb_ rfl rfl rfl), Q_BK846, Q_HB, Q_HO851, Q_HO855, Q_HO859, fun h0_ => absurd ((hoff 21 (by kernel_rfl)).symm.trans h0_) (by decide), fun h0_ => absurd ((hoff 22 (by kernel_rfl)).symm.trans h0_) (by decide)⟩
              refine steps_cons ?_ ?_
              · rintro b a w' ⟨v850, v854, v858, v862, m22_, ha, Q_BK846, Q_HB, Q_HO851, Q_HO855, Q_HO859, Q_HO863, Q_X22_⟩ hb_ hon hoff
                refine ⟨_, rfl, fun K hK => ?_⟩
                have e15 : a.tmps[15]? = some (.pointer (some ⟨gb846, 1, none⟩)) := by rw [ha]; exact (putSel_off rfl).trans rfl
                replace ha := Aside0.mk ha
                have BK846 := Aside0.mk Q_BK846
                have HB := Aside0.mk Q_HB
                have hc0_ : w'.cell? ⟨gb846, 0, none⟩ = some (.slice A0_0 l0_0.length c0_0) := (blk_cell BK846.out 0).trans rfl
                have hc1_ : w'.cell? ⟨gb846, 1, none⟩ = some (.int .i64 a0_1) := (blk_cell BK846.out 1).trans rfl
                have hc2_ : w'.cell? ⟨gb846, 2, none⟩ = some (.slice A0_2 l0_2.length c0_2) := (blk_cell BK846.out 2).trans rfl
                have hc3_ : w'.cell? ⟨gb846, 3, none⟩ = some (.int .i64 a0_3) := (blk_cell BK846.out 3).trans rfl
                have hc4_ : w'.cell? ⟨gb846, 4, none⟩ = some (.int .i64 a0_4) := (blk_cell BK846.out 4).trans rfl
                have hc5_ : w'.cell? ⟨gb846, 5, none⟩ = some (.slice A0_5 l0_5.length c0_5) := (blk_cell BK846.out 5).trans rfl
                refine value_ (w1 := w') (v := .int .i64 a0_1) (by rfl) rfl ?_ ?_
                · go_simp
                  (try simp only [i64_w])
                  try rfl
                refine hK.out _ _ ⟨v850, v854, v858, v862, m22_, (by rw [ha.out]; exact putSel_upk 3 hb_ rfl rfl rfl), Q_BK846, Q_HB, fun h0_ => absurd ((hoff 8 (by kernel_rfl)).symm.trans h0_) (by decide), Q_HO855, Q_HO859, fun h0_ => absurd ((hoff 21 (by kernel_rfl)).symm.trans h0_) (by decide), fun h0_ => absurd ((hoff 22 (by kernel_rfl)).symm.trans h0_) (by decide)⟩
              refine steps_cons ?_ ?_
              · rintro b a w' ⟨v850, v854, v858, v862, m22_, ha, Q_BK846, Q_HB, Q_HO851, Q_HO855, Q_HO859, Q_HO863, Q_X22_⟩ hb_ hon hoff
                refine ⟨_, rfl, fun K hK => ?_⟩
                have e16 : a.tmps[16]? = some (.int .i64 a0_1) := by rw [ha]; exact putSel_on (e := (7, 16, .int .i64 a0_1)) 3 rfl rfl (hon 7 (by kernel_rfl)) rfl
                replace ha := Aside0.mk ha
                have BK846 := Aside0.mk Q_BK846
                have HB := Aside0.mk Q_HB
                refine Kd.R_lit_step (Kd.int .i64) _ 3 ?hg (N := 17) ?hd (xs := ([a0_1] : List Int)) (inner := [.int .i64 a0_1]) (ok := fun _ => True) (okp := fun _ => True) ?hr ?hp (fun _ hk => hk) trivial (Below.refl _ _) (Nat.le_refl _) (by simp) ?_; (case hd => rfl); (case hg => rfl); (case hr => first | (go_simp; done) | (go_simp; rfl)); (case hp => exact (Reps.one (show Kd.M (Kd.int .i64) _ _ _ a0_1 [.int .i64 a0_1] from rfl) (Reps.none _ _)))
                intro v850 w16 ho17 hb hg_ hnew_
                clear hg_ hnew_
                (first | rw [← Ny849.out] at ho17 | (simp only [Int.reduceToNat] at ho17; rw [← Ny849.out] at ho17))
                have n0_ := Aside0.mk (Kd.R_lower ho17 (below_size (oB HB)))
                have n1_ := Aside0.mk (blk_below (g := gb846) (o := .cells #[.slice A0_0 l0_0.length c0_0, .int .i64 a0_1, .slice A0_2 l0_2.length c0_2, .int .i64 a0_3, .int .i64 a0_4, .slice A0_5 l0_5.length c0_5] 44 (0, 0)) (oK BK846) hb)
                have n2_ := Aside0.mk (below_step (oB HB) hb)
                have z_HO855 := fun (h0_ : b 13 = true) => (show Kd.R (Kd.int .i64) 3 w16 w.heap.size (fun _ => True) v854 y853 from by first | exact (Kd.R_elder' (by (with_reducible repeat (first | apply Kd.R_alloc | apply Kd.R_drewN | apply Kd.R_drew)); exact (Q_HO855 h0_)) (Kd.R_base ho17) hb) | exact Kd.R_mono (Kd.R_elder' (by (with_reducible repeat (first | apply Kd.R_alloc | apply Kd.R_drewN | apply Kd.R_drew)); exact (Q_HO855 h0_)) (Kd.R_base ho17) hb) (fun _ h_ => by first | trivial | exact h_ | exact h_.1))
                have z_HO859 := fun (h0_ : b 18 = true) => (show Kd.R (Kd.int .i64) 3 w16 w.heap.size (fun _ => True) v858 y857 from by first | exact (Kd.R_elder' (by (with_reducible repeat (first | apply Kd.R_alloc | apply Kd.R_drewN | apply Kd.R_drew)); exact (Q_HO859 h0_)) (Kd.R_base ho17) hb) | exact Kd.R_mono (Kd.R_elder' (by (with_reducible repeat (first | apply Kd.R_alloc | apply Kd.R_drewN | apply Kd.R_drew)); exact (Q_HO859 h0_)) (Kd.R_base ho17) hb) (fun _ h_ => by first | trivial | exact h_ | exact h_.1))
                clear BK846
                clear HB
                have HO851 := n0_
                have BK846 := n1_
                have HB := n2_
                clear n0_ n1_ n2_
                clear hb ho17
                refine hK.out _ _ ⟨v850, v854, v858, v862, m22_, (by rw [ha.out]; exact putSel_upk 4 hb_ rfl rfl rfl), (oK BK846), (oB HB), fun _ => (oR HO851), z_HO855, z_HO859, fun h0_ => absurd ((hoff 21 (by kernel_rfl)).symm.trans h0_) (by decide), fun h0_ => absurd ((hoff 22 (by kernel_rfl)).symm.trans h0_) (by decide)⟩
              refine steps_cons ?_ ?_
              · rintro b a w' ⟨v850, v854, v858, v862, m22_, ha, Q_BK846, Q_HB, Q_HO851, Q_HO855, Q_HO859, Q_HO863, Q_X22_⟩ hb_ hon hoff
                refine ⟨_, rfl, fun K hK => ?_⟩
                have e17 : a.tmps[17]? = some (v850) := by rw [ha]; exact putSel_on (e := (8, 17, v850)) 4 rfl rfl (hon 8 (by kernel_rfl)) rfl
                replace ha := Aside0.mk ha
                have BK846 := Aside0.mk Q_BK846
                have HB := Aside0.mk Q_HB
                have HO851 := Aside0.mk (Q_HO851 (hon 8 (by kernel_rfl)))
                obtain ⟨Ao20, co20, eo20⟩ := Kd.R_slice HO851.out
                (first | subst eo20 | (injection eo20 with f1_ f2_ f3_; have f4_ := f1_.symm; have f5_ := f3_.symm; clear f1_ f2_ f3_; subst f4_; subst f5_))
                refine goes_ Tryd.func34 (by kernel_rfl) rfl #[.slice Ao20 y849.length co20] (by rfl) rfl rfl (by first | (simp only [List.map_toArray, List.map_cons, List.map_nil, Act.eval, Array.getD_eq_getD_getElem?, Option.getD_some, e17]; done) | (simp only [List.map_toArray, List.map_cons, List.map_nil, Act.eval, Array.getD_eq_getD_getElem?, Option.getD_some, e17]; rfl)) ?_
                with_reducible refine (impl_words.calls k _ _ y849 t852 _ ?side1 ?side2 A6.out ?sideT).mono ?_
                (case sideT => exact ⟨tab_on ht_.out (oB HB)⟩)
                (case side1 => repeat (first | exact (Kd.R_reads' HO851.out).2.2 | (with_reducible refine Kd.C_alloc ?_ _) | (with_reducible refine Kd.C_drewN ?_ _) | (with_reducible refine Kd.C_drew ?_)))
                (case side2 => exact (Kd.R_reads' HO851.out).2.1)
                rintro e w21 ⟨rfl, hb⟩
                refine ⟨_, rfl, ?_⟩
                have n0_ := Aside0.mk (Kd.R_below (oR HO851) hb)
                have n1_ := Aside0.mk (blk_below (g := gb846) (o := .cells #[.slice A0_0 l0_0.length c0_0, .int .i64 a0_1, .slice A0_2 l0_2.length c0_2, .int .i64 a0_3, .int .i64 a0_4, .slice A0_5 l0_5.length c0_5] 44 (0, 0)) (oK BK846) hb)
                have n2_ := Aside0.mk (below_step (oB HB) hb)
                have z_HO855 := fun (h0_ : b 13 = true) => (show Kd.R (Kd.int .i64) 3 w21 w.heap.size (fun _ => True) v854 y853 from by first | exact (Kd.R_below (by (with_reducible repeat (first | apply Kd.R_alloc | apply Kd.R_drewN | apply Kd.R_drew)); exact (Q_HO855 h0_)) hb) | exact Kd.R_mono (Kd.R_below (by (with_reducible repeat (first | apply Kd.R_alloc | apply Kd.R_drewN | apply Kd.R_drew)); exact (Q_HO855 h0_)) hb) (fun _ h_ => by first | trivial | exact h_ | exact h_.1))
                have z_HO859 := fun (h0_ : b 18 = true) => (show Kd.R (Kd.int .i64) 3 w21 w.heap.size (fun _ => True) v858 y857 from by first | exact (Kd.R_below (by (with_reducible repeat (first | apply Kd.R_alloc | apply Kd.R_drewN | apply Kd.R_drew)); exact (Q_HO859 h0_)) hb) | exact Kd.R_mono (Kd.R_below (by (with_reducible repeat (first | apply Kd.R_alloc | apply Kd.R_drewN | apply Kd.R_drew)); exact (Q_HO859 h0_)) hb) (fun _ h_ => by first | trivial | exact h_ | exact h_.1))
                clear HO851
                clear BK846
                clear HB
                have HO851 := n0_
                have BK846 := n1_
                have HB := n2_
                clear n0_ n1_ n2_
                (try clear hb)
                (try clear hb2)
                (try clear hk)
                (try clear hi)
                refine hK.out _ _ ⟨.slice Ao20 y849.length co20, v854, v858, v862, m22_, (by rw [ha.out]; exact putSel_upk 5 hb_ rfl rfl rfl), (oK BK846), (oB HB), fun _ => (oR HO851), z_HO855, z_HO859, fun h0_ => absurd ((hoff 21 (by kernel_rfl)).symm.trans h0_) (by decide), fun h0_ => absurd ((hoff 22 (by kernel_rfl)).symm.trans h0_) (by decide)⟩
              refine steps_cons ?_ ?_
              · rintro b a w' ⟨v850, v854, v858, v862, m22_, ha, Q_BK846, Q_HB, Q_HO851, Q_HO855, Q_HO859, Q_HO863, Q_X22_⟩ hb_ hon hoff
                refine ⟨_, rfl, fun K hK => ?_⟩
                have e18 : a.tmps[18]? = some (.string t852) := by rw [ha]; exact putSel_on (e := (9, 18, .string t852)) 5 rfl rfl (hon 9 (by kernel_rfl)) rfl
                replace ha := Aside0.mk ha
                have BK846 := Aside0.mk Q_BK846
                have HB := Aside0.mk Q_HB
                have HO851 := Aside0.mk (Q_HO851 (hon 8 (by kernel_rfl)))
                refine value_ (w1 := w') (v := .string ((⟨#[100, 111, 110, 101, 32]⟩ : ByteArray) ++ t852)) (by rfl) rfl ?_ ?_
                · go_simp
                  (try simp only [i64_w])
                  try rfl
                refine hK.out _ _ ⟨v850, v854, v858, v862, m22_, (by rw [ha.out]; exact putSel_upk 6 hb_ rfl rfl rfl), Q_BK846, Q_HB, Q_HO851, Q_HO855, Q_HO859, fun h0_ => absurd ((hoff 21 (by kernel_rfl)).symm.trans h0_) (by decide), fun h0_ => absurd ((hoff 22 (by kernel_rfl)).symm.trans h0_) (by decide)⟩
              refine steps_cons ?_ ?_
              · rintro b a w' ⟨v850, v854, v858, v862, m22_, ha, Q_BK846, Q_HB, Q_HO851, Q_HO855, Q_HO859, Q_HO863, Q_X22_⟩ hb_ hon hoff
                refine ⟨_, rfl, fun K hK => ?_⟩
                have e20 : a.tmps[20]? = some (.pointer (some ⟨gb846, 3, none⟩)) := by rw [ha]; exact (putSel_off rfl).trans rfl
                replace ha := Aside0.mk ha
                have BK846 := Aside0.mk Q_BK846
                have HB := Aside0.mk Q_HB
                have hc0_ : w'.cell? ⟨gb846, 0, none⟩ = some (.slice A0_0 l0_0.length c0_0) := (blk_cell BK846.out 0).trans rfl
                have hc1_ : w'.cell? ⟨gb846, 1, none⟩ = some (.int .i64 a0_1) := (blk_cell BK846.out 1).trans rfl
                have hc2_ : w'.cell? ⟨gb846, 2, none⟩ = some (.slice A0_2 l0_2.length c0_2) := (blk_cell BK846.out 2).trans rfl
                have hc3_ : w'.cell? ⟨gb846, 3, none⟩ = some (.int .i64 a0_3) := (blk_cell BK846.out 3).trans rfl
                have hc4_ : w'.cell? ⟨gb846, 4, none⟩ = some (.int .i64 a0_4) := (blk_cell BK846.out 4).trans rfl
                have hc5_ : w'.cell? ⟨gb846, 5, none⟩ = some (.slice A0_5 l0_5.length c0_5) := (blk_cell BK846.out 5).trans rfl
                refine value_ (w1 := w') (v := .int .i64 a0_3) (by rfl) rfl ?_ ?_
                · go_simp
                  (try simp only [i64_w])
                  try rfl
                refine hK.out _ _ ⟨v850, v854, v858, v862, m22_, (by rw [ha.out]; exact putSel_upk 7 hb_ rfl rfl rfl), Q_BK846, Q_HB, Q_HO851, fun h0_ => absurd ((hoff 13 (by kernel_rfl)).symm.trans h0_) (by decide), Q_HO859, fun h0_ => absurd ((hoff 21 (by kernel_rfl)).symm.trans h0_) (by decide), fun h0_ => absurd ((hoff 22 (by kernel_rfl)).symm.trans h0_) (by decide)⟩
              refine steps_cons ?_ ?_
              · rintro b a w' ⟨v850, v854, v858, v862, m22_, ha, Q_BK846, Q_HB, Q_HO851, Q_HO855, Q_HO859, Q_HO863, Q_X22_⟩ hb_ hon hoff
                refine ⟨_, rfl, fun K hK => ?_⟩
                have e21 : a.tmps[21]? = some (.int .i64 a0_3) := by rw [ha]; exact putSel_on (e := (12, 21, .int .i64 a0_3)) 7 rfl rfl (hon 12 (by kernel_rfl)) rfl
                replace ha := Aside0.mk ha
                have BK846 := Aside0.mk Q_BK846
                have HB := Aside0.mk Q_HB
                refine Kd.R_lit_step (Kd.int .i64) _ 3 ?hg (N := 22) ?hd (xs := ([a0_3] : List Int)) (inner := [.int .i64 a0_3]) (ok := fun _ => True) (okp := fun _ => True) ?hr ?hp (fun _ hk => hk) trivial (Below.refl _ _) (Nat.le_refl _) (by simp) ?_; (case hd => rfl); (case hg => rfl); (case hr => first | (go_simp; done) | (go_simp; rfl)); (case hp => exact (Reps.one (show Kd.M (Kd.int .i64) _ _ _ a0_3 [.int .i64 a0_3] from rfl) (Reps.none _ _)))
                intro v854 w16 ho17 hb hg_ hnew_
                clear hg_ hnew_
                (first | rw [← Ny853.out] at ho17 | (simp only [Int.reduceToNat] at ho17; rw [← Ny853.out] at ho17))
                have n0_ := Aside0.mk (Kd.R_lower ho17 (below_size (oB HB)))
                have n1_ := Aside0.mk (blk_below (g := gb846) (o := .cells #[.slice A0_0 l0_0.length c0_0, .int .i64 a0_1, .slice A0_2 l0_2.length c0_2, .int .i64 a0_3, .int .i64 a0_4, .slice A0_5 l0_5.length c0_5] 44 (0, 0)) (oK BK846) hb)
                have n2_ := Aside0.mk (below_step (oB HB) hb)
                have z_HO851 := fun (h0_ : b 8 = true) => (show Kd.R (Kd.int .i64) 3 w16 w.heap.size (fun _ => True) v850 y849 from by first | exact (Kd.R_elder' (by (with_reducible repeat (first | apply Kd.R_alloc | apply Kd.R_drewN | apply Kd.R_drew)); exact (Q_HO851 h0_)) (Kd.R_base ho17) hb) | exact Kd.R_mono (Kd.R_elder' (by (with_reducible repeat (first | apply Kd.R_alloc | apply Kd.R_drewN | apply Kd.R_drew)); exact (Q_HO851 h0_)) (Kd.R_base ho17) hb) (fun _ h_ => by first | trivial | exact h_ | exact h_.1))
                have z_HO859 := fun (h0_ : b 18 = true) => (show Kd.R (Kd.int .i64) 3 w16 w.heap.size (fun _ => True) v858 y857 from by first | exact (Kd.R_elder' (by (with_reducible repeat (first | apply Kd.R_alloc | apply Kd.R_drewN | apply Kd.R_drew)); exact (Q_HO859 h0_)) (Kd.R_base ho17) hb) | exact Kd.R_mono (Kd.R_elder' (by (with_reducible repeat (first | apply Kd.R_alloc | apply Kd.R_drewN | apply Kd.R_drew)); exact (Q_HO859 h0_)) (Kd.R_base ho17) hb) (fun _ h_ => by first | trivial | exact h_ | exact h_.1))
                clear BK846
                clear HB
                have HO855 := n0_
                have BK846 := n1_
                have HB := n2_
                clear n0_ n1_ n2_
                clear hb ho17
                refine hK.out _ _ ⟨v850, v854, v858, v862, m22_, (by rw [ha.out]; exact putSel_upk 8 hb_ rfl rfl rfl), (oK BK846), (oB HB), z_HO851, fun _ => (oR HO855), z_HO859, fun h0_ => absurd ((hoff 21 (by kernel_rfl)).symm.trans h0_) (by decide), fun h0_ => absurd ((hoff 22 (by kernel_rfl)).symm.trans h0_) (by decide)⟩
              refine steps_cons ?_ ?_
              · rintro b a w' ⟨v850, v854, v858, v862, m22_, ha, Q_BK846, Q_HB, Q_HO851, Q_HO855, Q_HO859, Q_HO863, Q_X22_⟩ hb_ hon hoff
                refine ⟨_, rfl, fun K hK => ?_⟩
                have e22 : a.tmps[22]? = some (v854) := by rw [ha]; exact putSel_on (e := (13, 22, v854)) 8 rfl rfl (hon 13 (by kernel_rfl)) rfl
                replace ha := Aside0.mk ha
                have BK846 := Aside0.mk Q_BK846
                have HB := Aside0.mk Q_HB
                have HO851 := Aside0.mk (Q_HO851 (hon 8 (by kernel_rfl)))
                have HO855 := Aside0.mk (Q_HO855 (hon 13 (by kernel_rfl)))
                obtain ⟨Ao24, co24, eo24⟩ := Kd.R_slice HO855.out
                (first | subst eo24 | (injection eo24 with f1_ f2_ f3_; have f4_ := f1_.symm; have f5_ := f3_.symm; clear f1_ f2_ f3_; subst f4_; subst f5_))
                refine goes_ Tryd.func34 (by kernel_rfl) rfl #[.slice Ao24 y853.length co24] (by rfl) rfl rfl (by first | (simp only [List.map_toArray, List.map_cons, List.map_nil, Act.eval, Array.getD_eq_getD_getElem?, Option.getD_some, e22]; done) | (simp only [List.map_toArray, List.map_cons, List.map_nil, Act.eval, Array.getD_eq_getD_getElem?, Option.getD_some, e22]; rfl)) ?_
                with_reducible refine (impl_words.calls k _ _ y853 t856 _ ?side1 ?side2 A8.out ?sideT).mono ?_
                (case sideT => exact ⟨tab_on ht_.out (oB HB)⟩)
                (case side1 => repeat (first | exact (Kd.R_reads' HO855.out).2.2 | (with_reducible refine Kd.C_alloc ?_ _) | (with_reducible refine Kd.C_drewN ?_ _) | (with_reducible refine Kd.C_drew ?_)))
                (case side2 => exact (Kd.R_reads' HO855.out).2.1)
                rintro e w25 ⟨rfl, hb⟩
                refine ⟨_, rfl, ?_⟩
                have n0_ := Aside0.mk (Kd.R_below (oR HO851) hb)
                have n1_ := Aside0.mk (Kd.R_below (oR HO855) hb)
                have n2_ := Aside0.mk (blk_below (g := gb846) (o := .cells #[.slice A0_0 l0_0.length c0_0, .int .i64 a0_1, .slice A0_2 l0_2.length c0_2, .int .i64 a0_3, .int .i64 a0_4, .slice A0_5 l0_5.length c0_5] 44 (0, 0)) (oK BK846) hb)
                have n3_ := Aside0.mk (below_step (oB HB) hb)
                have z_HO859 := fun (h0_ : b 18 = true) => (show Kd.R (Kd.int .i64) 3 w25 w.heap.size (fun _ => True) v858 y857 from by first | exact (Kd.R_below (by (with_reducible repeat (first | apply Kd.R_alloc | apply Kd.R_drewN | apply Kd.R_drew)); exact (Q_HO859 h0_)) hb) | exact Kd.R_mono (Kd.R_below (by (with_reducible repeat (first | apply Kd.R_alloc | apply Kd.R_drewN | apply Kd.R_drew)); exact (Q_HO859 h0_)) hb) (fun _ h_ => by first | trivial | exact h_ | exact h_.1))
                clear HO851
                clear HO855
                clear BK846
                clear HB
                have HO851 := n0_
                have HO855 := n1_
                have BK846 := n2_
                have HB := n3_
                clear n0_ n1_ n2_ n3_
                (try clear hb)
                (try clear hb2)
                (try clear hk)
                (try clear hi)
                refine hK.out _ _ ⟨v850, .slice Ao24 y853.length co24, v858, v862, m22_, (by rw [ha.out]; exact putSel_upk 9 hb_ rfl rfl rfl), (oK BK846), (oB HB), fun _ => (oR HO851), fun _ => (oR HO855), z_HO859, fun h0_ => absurd ((hoff 21 (by kernel_rfl)).symm.trans h0_) (by decide), fun h0_ => absurd ((hoff 22 (by kernel_rfl)).symm.trans h0_) (by decide)⟩
              refine steps_cons ?_ ?_
              · rintro b a w' ⟨v850, v854, v858, v862, m22_, ha, Q_BK846, Q_HB, Q_HO851, Q_HO855, Q_HO859, Q_HO863, Q_X22_⟩ hb_ hon hoff
                refine ⟨_, rfl, fun K hK => ?_⟩
                have e23 : a.tmps[23]? = some (.string t856) := by rw [ha]; exact putSel_on (e := (14, 23, .string t856)) 9 rfl rfl (hon 14 (by kernel_rfl)) rfl
                replace ha := Aside0.mk ha
                have BK846 := Aside0.mk Q_BK846
                have HB := Aside0.mk Q_HB
                have HO851 := Aside0.mk (Q_HO851 (hon 8 (by kernel_rfl)))
                have HO855 := Aside0.mk (Q_HO855 (hon 13 (by kernel_rfl)))
                refine value_ (w1 := w') (v := .string ((⟨#[119, 97, 114, 109, 116, 104, 32]⟩ : ByteArray) ++ t856)) (by rfl) rfl ?_ ?_
                · go_simp
                  (try simp only [i64_w])
                  try rfl
                refine hK.out _ _ ⟨v850, v854, v858, v862, m22_, (by rw [ha.out]; exact putSel_upk 10 hb_ rfl rfl rfl), Q_BK846, Q_HB, Q_HO851, Q_HO855, Q_HO859, fun h0_ => absurd ((hoff 21 (by kernel_rfl)).symm.trans h0_) (by decide), fun h0_ => absurd ((hoff 22 (by kernel_rfl)).symm.trans h0_) (by decide)⟩
              refine steps_cons ?_ ?_
              · rintro b a w' ⟨v850, v854, v858, v862, m22_, ha, Q_BK846, Q_HB, Q_HO851, Q_HO855, Q_HO859, Q_HO863, Q_X22_⟩ hb_ hon hoff
                refine ⟨_, rfl, fun K hK => ?_⟩
                have e25 : a.tmps[25]? = some (.pointer (some ⟨gb846, 4, none⟩)) := by rw [ha]; exact (putSel_off rfl).trans rfl
                replace ha := Aside0.mk ha
                have BK846 := Aside0.mk Q_BK846
                have HB := Aside0.mk Q_HB
                have hc0_ : w'.cell? ⟨gb846, 0, none⟩ = some (.slice A0_0 l0_0.length c0_0) := (blk_cell BK846.out 0).trans rfl
                have hc1_ : w'.cell? ⟨gb846, 1, none⟩ = some (.int .i64 a0_1) := (blk_cell BK846.out 1).trans rfl
                have hc2_ : w'.cell? ⟨gb846, 2, none⟩ = some (.slice A0_2 l0_2.length c0_2) := (blk_cell BK846.out 2).trans rfl
                have hc3_ : w'.cell? ⟨gb846, 3, none⟩ = some (.int .i64 a0_3) := (blk_cell BK846.out 3).trans rfl
                have hc4_ : w'.cell? ⟨gb846, 4, none⟩ = some (.int .i64 a0_4) := (blk_cell BK846.out 4).trans rfl
                have hc5_ : w'.cell? ⟨gb846, 5, none⟩ = some (.slice A0_5 l0_5.length c0_5) := (blk_cell BK846.out 5).trans rfl
                refine value_ (w1 := w') (v := .int .i64 a0_4) (by rfl) rfl ?_ ?_
                · go_simp
                  (try simp only [i64_w])
                  try rfl
                refine hK.out _ _ ⟨v850, v854, v858, v862, m22_, (by rw [ha.out]; exact putSel_upk 11 hb_ rfl rfl rfl), Q_BK846, Q_HB, Q_HO851, Q_HO855, fun h0_ => absurd ((hoff 18 (by kernel_rfl)).symm.trans h0_) (by decide), fun h0_ => absurd ((hoff 21 (by kernel_rfl)).symm.trans h0_) (by decide), fun h0_ => absurd ((hoff 22 (by kernel_rfl)).symm.trans h0_) (by decide)⟩
              refine steps_cons ?_ ?_
              · rintro b a w' ⟨v850, v854, v858, v862, m22_, ha, Q_BK846, Q_HB, Q_HO851, Q_HO855, Q_HO859, Q_HO863, Q_X22_⟩ hb_ hon hoff
                refine ⟨_, rfl, fun K hK => ?_⟩
                have e26 : a.tmps[26]? = some (.int .i64 a0_4) := by rw [ha]; exact putSel_on (e := (17, 26, .int .i64 a0_4)) 11 rfl rfl (hon 17 (by kernel_rfl)) rfl
                replace ha := Aside0.mk ha
                have BK846 := Aside0.mk Q_BK846
                have HB := Aside0.mk Q_HB
                refine Kd.R_lit_step (Kd.int .i64) _ 3 ?hg (N := 27) ?hd (xs := ([a0_4] : List Int)) (inner := [.int .i64 a0_4]) (ok := fun _ => True) (okp := fun _ => True) ?hr ?hp (fun _ hk => hk) trivial (Below.refl _ _) (Nat.le_refl _) (by simp) ?_; (case hd => rfl); (case hg => rfl); (case hr => first | (go_simp; done) | (go_simp; rfl)); (case hp => exact (Reps.one (show Kd.M (Kd.int .i64) _ _ _ a0_4 [.int .i64 a0_4] from rfl) (Reps.none _ _)))
                intro v858 w16 ho17 hb hg_ hnew_
                clear hg_ hnew_
                (first | rw [← Ny857.out] at ho17 | (simp only [Int.reduceToNat] at ho17; rw [← Ny857.out] at ho17))
                have n0_ := Aside0.mk (Kd.R_lower ho17 (below_size (oB HB)))
                have n1_ := Aside0.mk (blk_below (g := gb846) (o := .cells #[.slice A0_0 l0_0.length c0_0, .int .i64 a0_1, .slice A0_2 l0_2.length c0_2, .int .i64 a0_3, .int .i64 a0_4, .slice A0_5 l0_5.length c0_5] 44 (0, 0)) (oK BK846) hb)
                have n2_ := Aside0.mk (below_step (oB HB) hb)
                have z_HO851 := fun (h0_ : b 8 = true) => (show Kd.R (Kd.int .i64) 3 w16 w.heap.size (fun _ => True) v850 y849 from by first | exact (Kd.R_elder' (by (with_reducible repeat (first | apply Kd.R_alloc | apply Kd.R_drewN | apply Kd.R_drew)); exact (Q_HO851 h0_)) (Kd.R_base ho17) hb) | exact Kd.R_mono (Kd.R_elder' (by (with_reducible repeat (first | apply Kd.R_alloc | apply Kd.R_drewN | apply Kd.R_drew)); exact (Q_HO851 h0_)) (Kd.R_base ho17) hb) (fun _ h_ => by first | trivial | exact h_ | exact h_.1))
                have z_HO855 := fun (h0_ : b 13 = true) => (show Kd.R (Kd.int .i64) 3 w16 w.heap.size (fun _ => True) v854 y853 from by first | exact (Kd.R_elder' (by (with_reducible repeat (first | apply Kd.R_alloc | apply Kd.R_drewN | apply Kd.R_drew)); exact (Q_HO855 h0_)) (Kd.R_base ho17) hb) | exact Kd.R_mono (Kd.R_elder' (by (with_reducible repeat (first | apply Kd.R_alloc | apply Kd.R_drewN | apply Kd.R_drew)); exact (Q_HO855 h0_)) (Kd.R_base ho17) hb) (fun _ h_ => by first | trivial | exact h_ | exact h_.1))
                clear BK846
                clear HB
                have HO859 := n0_
                have BK846 := n1_
                have HB := n2_
                clear n0_ n1_ n2_
                clear hb ho17
                refine hK.out _ _ ⟨v850, v854, v858, v862, m22_, (by rw [ha.out]; exact putSel_upk 12 hb_ rfl rfl rfl), (oK BK846), (oB HB), z_HO851, z_HO855, fun _ => (oR HO859), fun h0_ => absurd ((hoff 21 (by kernel_rfl)).symm.trans h0_) (by decide), fun h0_ => absurd ((hoff 22 (by kernel_rfl)).symm.trans h0_) (by decide)⟩
              refine steps_cons ?_ ?_
              · rintro b a w' ⟨v850, v854, v858, v862, m22_, ha, Q_BK846, Q_HB, Q_HO851, Q_HO855, Q_HO859, Q_HO863, Q_X22_⟩ hb_ hon hoff
                refine ⟨_, rfl, fun K hK => ?_⟩
                have e27 : a.tmps[27]? = some (v858) := by rw [ha]; exact putSel_on (e := (18, 27, v858)) 12 rfl rfl (hon 18 (by kernel_rfl)) rfl
                replace ha := Aside0.mk ha
                have BK846 := Aside0.mk Q_BK846
                have HB := Aside0.mk Q_HB
                have HO851 := Aside0.mk (Q_HO851 (hon 8 (by kernel_rfl)))
                have HO855 := Aside0.mk (Q_HO855 (hon 13 (by kernel_rfl)))
                have HO859 := Aside0.mk (Q_HO859 (hon 18 (by kernel_rfl)))
                obtain ⟨Ao28, co28, eo28⟩ := Kd.R_slice HO859.out
                (first | subst eo28 | (injection eo28 with f1_ f2_ f3_; have f4_ := f1_.symm; have f5_ := f3_.symm; clear f1_ f2_ f3_; subst f4_; subst f5_))
                refine goes_ Tryd.func34 (by kernel_rfl) rfl #[.slice Ao28 y857.length co28] (by rfl) rfl rfl (by first | (simp only [List.map_toArray, List.map_cons, List.map_nil, Act.eval, Array.getD_eq_getD_getElem?, Option.getD_some, e27]; done) | (simp only [List.map_toArray, List.map_cons, List.map_nil, Act.eval, Array.getD_eq_getD_getElem?, Option.getD_some, e27]; rfl)) ?_
                with_reducible refine (impl_words.calls k _ _ y857 t860 _ ?side1 ?side2 A10.out ?sideT).mono ?_
                (case sideT => exact ⟨tab_on ht_.out (oB HB)⟩)
                (case side1 => repeat (first | exact (Kd.R_reads' HO859.out).2.2 | (with_reducible refine Kd.C_alloc ?_ _) | (with_reducible refine Kd.C_drewN ?_ _) | (with_reducible refine Kd.C_drew ?_)))
                (case side2 => exact (Kd.R_reads' HO859.out).2.1)
                rintro e w29 ⟨rfl, hb⟩
                refine ⟨_, rfl, ?_⟩
                have n0_ := Aside0.mk (Kd.R_below (oR HO851) hb)
                have n1_ := Aside0.mk (Kd.R_below (oR HO855) hb)
                have n2_ := Aside0.mk (Kd.R_below (oR HO859) hb)
                have n3_ := Aside0.mk (blk_below (g := gb846) (o := .cells #[.slice A0_0 l0_0.length c0_0, .int .i64 a0_1, .slice A0_2 l0_2.length c0_2, .int .i64 a0_3, .int .i64 a0_4, .slice A0_5 l0_5.length c0_5] 44 (0, 0)) (oK BK846) hb)
                have n4_ := Aside0.mk (below_step (oB HB) hb)
                clear HO851
                clear HO855
                clear HO859
                clear BK846
                clear HB
                have HO851 := n0_
                have HO855 := n1_
                have HO859 := n2_
                have BK846 := n3_
                have HB := n4_
                clear n0_ n1_ n2_ n3_ n4_
                (try clear hb)
                (try clear hb2)
                (try clear hk)
                (try clear hi)
                refine hK.out _ _ ⟨v850, v854, .slice Ao28 y857.length co28, v862, m22_, (by rw [ha.out]; exact putSel_upk 13 hb_ rfl rfl rfl), (oK BK846), (oB HB), fun _ => (oR HO851), fun _ => (oR HO855), fun _ => (oR HO859), fun h0_ => absurd ((hoff 21 (by kernel_rfl)).symm.trans h0_) (by decide), fun h0_ => absurd ((hoff 22 (by kernel_rfl)).symm.trans h0_) (by decide)⟩
              refine steps_cons ?_ ?_
              · rintro b a w' ⟨v850, v854, v858, v862, m22_, ha, Q_BK846, Q_HB, Q_HO851, Q_HO855, Q_HO859, Q_HO863, Q_X22_⟩ hb_ hon hoff
                refine ⟨_, rfl, fun K hK => ?_⟩
                have e28 : a.tmps[28]? = some (.string t860) := by rw [ha]; exact putSel_on (e := (19, 28, .string t860)) 13 rfl rfl (hon 19 (by kernel_rfl)) rfl
                replace ha := Aside0.mk ha
                have BK846 := Aside0.mk Q_BK846
                have HB := Aside0.mk Q_HB
                have HO851 := Aside0.mk (Q_HO851 (hon 8 (by kernel_rfl)))
                have HO855 := Aside0.mk (Q_HO855 (hon 13 (by kernel_rfl)))
                have HO859 := Aside0.mk (Q_HO859 (hon 18 (by kernel_rfl)))
                refine value_ (w1 := w') (v := .string ((⟨#[109, 111, 109, 101, 110, 116, 32]⟩ : ByteArray) ++ t860)) (by rfl) rfl ?_ ?_
                · go_simp
                  (try simp only [i64_w])
                  try rfl
                refine hK.out _ _ ⟨v850, v854, v858, v862, m22_, (by rw [ha.out]; exact putSel_upk 14 hb_ rfl rfl rfl), Q_BK846, Q_HB, Q_HO851, Q_HO855, Q_HO859, fun h0_ => absurd ((hoff 21 (by kernel_rfl)).symm.trans h0_) (by decide), fun h0_ => absurd ((hoff 22 (by kernel_rfl)).symm.trans h0_) (by decide)⟩
              refine steps_cons ?_ ?_
              · rintro b a w' ⟨v850, v854, v858, v862, m22_, ha, Q_BK846, Q_HB, Q_HO851, Q_HO855, Q_HO859, Q_HO863, Q_X22_⟩ hb_ hon hoff
                refine ⟨_, rfl, fun K hK => ?_⟩
                have e13 : a.tmps[13]? = some (.string ((⟨#[112, 105, 116, 99, 104, 101, 115, 32]⟩ : ByteArray) ++ t848)) := by rw [ha]; exact putSel_on (e := (4, 13, .string ((⟨#[112, 105, 116, 99, 104, 101, 115, 32]⟩ : ByteArray) ++ t848))) 2 rfl rfl (hon 4 (by kernel_rfl)) rfl
                have e19 : a.tmps[19]? = some (.string ((⟨#[100, 111, 110, 101, 32]⟩ : ByteArray) ++ t852)) := by rw [ha]; exact putSel_on (e := (10, 19, .string ((⟨#[100, 111, 110, 101, 32]⟩ : ByteArray) ++ t852))) 6 rfl rfl (hon 10 (by kernel_rfl)) rfl
                have e24 : a.tmps[24]? = some (.string ((⟨#[119, 97, 114, 109, 116, 104, 32]⟩ : ByteArray) ++ t856)) := by rw [ha]; exact putSel_on (e := (15, 24, .string ((⟨#[119, 97, 114, 109, 116, 104, 32]⟩ : ByteArray) ++ t856))) 10 rfl rfl (hon 15 (by kernel_rfl)) rfl
                have e29 : a.tmps[29]? = some (.string ((⟨#[109, 111, 109, 101, 110, 116, 32]⟩ : ByteArray) ++ t860)) := by rw [ha]; exact putSel_on (e := (20, 29, .string ((⟨#[109, 111, 109, 101, 110, 116, 32]⟩ : ByteArray) ++ t860))) 14 rfl rfl (hon 20 (by kernel_rfl)) rfl
                replace ha := Aside0.mk ha
                have BK846 := Aside0.mk Q_BK846
                have HB := Aside0.mk Q_HB
                have HO851 := Aside0.mk (Q_HO851 (hon 8 (by kernel_rfl)))
                have HO855 := Aside0.mk (Q_HO855 (hon 13 (by kernel_rfl)))
                have HO859 := Aside0.mk (Q_HO859 (hon 18 (by kernel_rfl)))
                refine Kd.R_lit_step Kd.string _ 9 ?hg (N := 30) ?hd (xs := ([(⟨#[112, 105, 116, 99, 104, 101, 115, 32]⟩ : ByteArray) ++ t848, (⟨#[100, 111, 110, 101, 32]⟩ : ByteArray) ++ t852, (⟨#[119, 97, 114, 109, 116, 104, 32]⟩ : ByteArray) ++ t856, (⟨#[109, 111, 109, 101, 110, 116, 32]⟩ : ByteArray) ++ t860] : List ByteArray)) (inner := [.string ((⟨#[112, 105, 116, 99, 104, 101, 115, 32]⟩ : ByteArray) ++ t848), .string ((⟨#[100, 111, 110, 101, 32]⟩ : ByteArray) ++ t852), .string ((⟨#[119, 97, 114, 109, 116, 104, 32]⟩ : ByteArray) ++ t856), .string ((⟨#[109, 111, 109, 101, 110, 116, 32]⟩ : ByteArray) ++ t860)]) (ok := fun _ => True) (okp := fun _ => True) ?hr ?hp (fun _ hk => hk) trivial (Below.refl _ _) (Nat.le_refl _) (by simp) ?_; (case hd => rfl); (case hg => rfl); (case hr => first | (go_simp; done) | (go_simp; rfl)); (case hp => exact (Reps.one (show Kd.M Kd.string _ _ _ ((⟨#[112, 105, 116, 99, 104, 101, 115, 32]⟩ : ByteArray) ++ t848) [.string ((⟨#[112, 105, 116, 99, 104, 101, 115, 32]⟩ : ByteArray) ++ t848)] from rfl) (Reps.one (show Kd.M Kd.string _ _ _ ((⟨#[100, 111, 110, 101, 32]⟩ : ByteArray) ++ t852) [.string ((⟨#[100, 111, 110, 101, 32]⟩ : ByteArray) ++ t852)] from rfl) (Reps.one (show Kd.M Kd.string _ _ _ ((⟨#[119, 97, 114, 109, 116, 104, 32]⟩ : ByteArray) ++ t856) [.string ((⟨#[119, 97, 114, 109, 116, 104, 32]⟩ : ByteArray) ++ t856)] from rfl) (Reps.one (show Kd.M Kd.string _ _ _ ((⟨#[109, 111, 109, 101, 110, 116, 32]⟩ : ByteArray) ++ t860) [.string ((⟨#[109, 111, 109, 101, 110, 116, 32]⟩ : ByteArray) ++ t860)] from rfl) (Reps.none _ _))))))
                intro v862 w30 ho31 hb hg_ hnew_
                clear hg_ hnew_
                (first | rw [← Ny861.out] at ho31 | (simp only [Int.reduceToNat] at ho31; rw [← Ny861.out] at ho31))
                have n0_ := Aside0.mk (Kd.R_below (oR HO851) hb)
                have n1_ := Aside0.mk (Kd.R_below (oR HO855) hb)
                have n2_ := Aside0.mk (Kd.R_below (oR HO859) hb)
                have n3_ := Aside0.mk (Kd.R_lower ho31 (below_size (oB HB)))
                have n4_ := Aside0.mk (blk_below (g := gb846) (o := .cells #[.slice A0_0 l0_0.length c0_0, .int .i64 a0_1, .slice A0_2 l0_2.length c0_2, .int .i64 a0_3, .int .i64 a0_4, .slice A0_5 l0_5.length c0_5] 44 (0, 0)) (oK BK846) hb)
                have n5_ := Aside0.mk (below_step (oB HB) hb)
                clear HO851
                clear HO855
                clear HO859
                clear BK846
                clear HB
                have HO851 := n0_
                have HO855 := n1_
                have HO859 := n2_
                have HO863 := n3_
                have BK846 := n4_
                have HB := n5_
                clear n0_ n1_ n2_ n3_ n4_ n5_
                clear hb ho31
                refine hK.out _ _ ⟨v850, v854, v858, v862, m22_, (by rw [ha.out]; exact putSel_upk 15 hb_ rfl rfl rfl), (oK BK846), (oB HB), fun _ => (oR HO851), fun _ => (oR HO855), fun _ => (oR HO859), fun _ => (oR HO863), fun h0_ => absurd ((hoff 22 (by kernel_rfl)).symm.trans h0_) (by decide)⟩
              refine steps_cons ?_ ?_
              · rintro b a w' ⟨v850, v854, v858, v862, m22_, ha, Q_BK846, Q_HB, Q_HO851, Q_HO855, Q_HO859, Q_HO863, Q_X22_⟩ hb_ hon hoff
                refine ⟨_, rfl, fun K hK => ?_⟩
                have e30 : a.tmps[30]? = some (v862) := by rw [ha]; exact putSel_on (e := (21, 30, v862)) 15 rfl rfl (hon 21 (by kernel_rfl)) rfl
                replace ha := Aside0.mk ha
                have BK846 := Aside0.mk Q_BK846
                have HB := Aside0.mk Q_HB
                have HO851 := Aside0.mk (Q_HO851 (hon 8 (by kernel_rfl)))
                have HO855 := Aside0.mk (Q_HO855 (hon 13 (by kernel_rfl)))
                have HO859 := Aside0.mk (Q_HO859 (hon 18 (by kernel_rfl)))
                have HO863 := Aside0.mk (Q_HO863 (hon 21 (by kernel_rfl)))
                refine value_ (w1 := w') (v := v862) (by rfl) rfl ?_ ?_
                · go_simp
                  (try simp only [i64_w])
                  try rfl
                refine hK.out _ _ ⟨v850, v854, v858, v862, (v862), (by rw [ha.out]; exact putSel_upk 16 hb_ rfl rfl rfl), Q_BK846, Q_HB, Q_HO851, Q_HO855, Q_HO859, Q_HO863, fun _ => rfl⟩
              exact steps_nil
            rintro b a w31 hall ⟨v850, v854, v858, v862, m22_, ha, Q_BK846, Q_HB, Q_HO851, Q_HO855, Q_HO859, Q_HO863, Q_X22_⟩
            clear BK846 HB
            have hb2_ := hall 2 (by kernel_rfl)
            have hb3_ := hall 3 (by kernel_rfl)
            have hb4_ := hall 4 (by kernel_rfl)
            have hb7_ := hall 7 (by kernel_rfl)
            have hb8_ := hall 8 (by kernel_rfl)
            have hb9_ := hall 9 (by kernel_rfl)
            have hb10_ := hall 10 (by kernel_rfl)
            have hb12_ := hall 12 (by kernel_rfl)
            have hb13_ := hall 13 (by kernel_rfl)
            have hb14_ := hall 14 (by kernel_rfl)
            have hb15_ := hall 15 (by kernel_rfl)
            have hb17_ := hall 17 (by kernel_rfl)
            have hb18_ := hall 18 (by kernel_rfl)
            have hb19_ := hall 19 (by kernel_rfl)
            have hb20_ := hall 20 (by kernel_rfl)
            have hb21_ := hall 21 (by kernel_rfl)
            have hb22_ := hall 22 (by kernel_rfl)
            subst ha
            obtain rfl := Q_X22_ hb22_
            simp only [putSel, hb2_, hb3_, hb4_, hb7_, hb8_, hb9_, hb10_, hb12_, hb13_, hb14_, hb15_, hb17_, hb18_, hb19_, hb20_, hb21_, hb22_, if_true, Act.put, List.setIfInBounds_toArray, List.set_cons_zero, List.set_cons_succ]
            have BK846 := Aside0.mk Q_BK846
            clear Q_BK846
            have HB := Aside0.mk Q_HB
            clear Q_HB
            have HO851 := Aside0.mk (Q_HO851 hb8_)
            clear Q_HO851
            have HO855 := Aside0.mk (Q_HO855 hb13_)
            clear Q_HO855
            have HO859 := Aside0.mk (Q_HO859 hb18_)
            clear Q_HO859
            have HO863 := Aside0.mk (Q_HO863 hb21_)
            clear Q_HO863
            clear hall hb2_ hb3_ hb4_ hb7_ hb8_ hb9_ hb10_ hb12_ hb13_ hb14_ hb15_ hb17_ hb18_ hb19_ hb20_ hb21_ hb22_
            have hcz32_0 : w31.cell? ⟨gb846, 0, none⟩ = some (.slice A0_0 l0_0.length c0_0) := (blk_cell BK846.out 0).trans rfl
            have hcz32_1 : w31.cell? ⟨gb846, 1, none⟩ = some (.int .i64 a0_1) := (blk_cell BK846.out 1).trans rfl
            have hcz32_2 : w31.cell? ⟨gb846, 2, none⟩ = some (.slice A0_2 l0_2.length c0_2) := (blk_cell BK846.out 2).trans rfl
            have hcz32_3 : w31.cell? ⟨gb846, 3, none⟩ = some (.int .i64 a0_3) := (blk_cell BK846.out 3).trans rfl
            have hcz32_4 : w31.cell? ⟨gb846, 4, none⟩ = some (.int .i64 a0_4) := (blk_cell BK846.out 4).trans rfl
            have hcz32_5 : w31.cell? ⟨gb846, 5, none⟩ = some (.slice A0_5 l0_5.length c0_5) := (blk_cell BK846.out 5).trans rfl
            have hfz32_0 := blk_frozen BK846.out 0
            have hfz32_1 := blk_frozen BK846.out 1
            have hfz32_2 := blk_frozen BK846.out 2
            have hfz32_3 := blk_frozen BK846.out 3
            have hfz32_4 := blk_frozen BK846.out 4
            have hfz32_5 := blk_frozen BK846.out 5
            try go_wp2
            go_loopg [3, 34] k (fun kq v3 v34 w' => ∃ (x3_1 : List ByteArray) (x34_1 : Int), v34 = .int .i64 x34_1 ∧ Aside0 (impl_FormatShop.l0 kq x3_1 l0_5 (l0_5.length : Int) x34_1 = some r) ∧ Aside0 (kq ≤ k) ∧ Aside0 (Kd.R Kd.string 9 w' w.heap.size (fun _ => True) v3 x3_1) ∧ Aside0 (w'.heap[gb846]? = some (.cells #[(.slice A0_0 l0_0.length c0_0), .int .i64 a0_1, (.slice A0_2 l0_2.length c0_2), .int .i64 a0_3, .int .i64 a0_4, (.slice A0_5 l0_5.length c0_5)] 44 (0, 0))) ∧ Aside0 (Below w.heap.size w w'))
            case atStart => exact ⟨(y861), (0), (by first | rfl | (simp; done) | (simp [*]; done)), H', ⟨Nat.le_refl _⟩, ⟨oR HO863⟩, ⟨oK BK846⟩, ⟨oB HB⟩⟩
            case round =>
              clear H'
              try clear c1
              try clear c2
              try clear p2
              try clear c3
              try clear c4
              try clear c5
              try clear c5b0
              try clear c5b1
              try clear c5b2
              try clear c7
              try clear c7b0
              try clear c7b1
              try clear c7b2
              try clear c9
              try clear c9b0
              try clear c9b1
              try clear c9b2
              try clear c11
              try clear c11b0
              try clear c11b1
              try clear c11b2
              try clear c18
              try clear hcz13_0
              try clear hcz13_1
              try clear hcz13_2
              try clear hcz13_3
              try clear hcz13_4
              try clear hcz13_5
              try clear hcz32_0
              try clear hcz32_1
              try clear hcz32_2
              try clear hcz32_3
              try clear hcz32_4
              try clear hcz32_5
              try clear hfz13_0
              try clear hfz13_1
              try clear hfz13_2
              try clear hfz13_3
              try clear hfz13_4
              try clear hfz13_5
              try clear hfz32_0
              try clear hfz32_1
              try clear hfz32_2
              try clear hfz32_3
              try clear hfz32_4
              try clear hfz32_5
              obtain ⟨x3_1, x34_1, rfl, HA, HK1, HO_3, BK846, HB⟩ := hrel
              cases gk with
              | zero => exact absurd HA.out (by simp [impl_FormatShop.l0])
              | succ k1 =>
                have H := HA.out
                clear HA
                simp only [impl_FormatShop.l0] at H
                by_cases c33 : x34_1 < (l0_5.length : Int)
                · rw [if_pos c33] at H
                  have c33b0 : decide (x34_1 < (l0_5.length : Int)) = true := decide_eq_true c33
                  clear c33
                  by_cases c34 : 0 ≤ x34_1
                  · rw [if_pos c34] at H
                    have c34b0 : decide (0 ≤ x34_1) = true := decide_eq_true c34
                    clear c34
                    by_cases c35 : x34_1 < (l0_5.length : Int)
                    · rw [if_pos c35] at H
                      have c35b0 : decide (x34_1 < (l0_5.length : Int)) = true := decide_eq_true c35
                      clear c35
                      obtain ⟨y866, hy866⟩ : ∃ y_ : List Int, y_ = (([(rd_T85 l0_5 x34_1).f0.f0, (rd_T85 l0_5 x34_1).f0.f1, (rd_T85 l0_5 x34_1).f1, (rd_T85 l0_5 x34_1).f2] : List Int)) := ⟨_, rfl⟩
                      replace H : ((impl_words.f k1 y866).bind fun t869 => (if x3_1.length < 8796093022208 then (impl_FormatShop.l0 k1 (x3_1 ++ [t869]) l0_5 (l0_5.length : Int) (wrap64 (x34_1 + 1))) else (none))) = some r := by first | (rw [hy866]; with_reducible exact H) | (have H2_ := (Option.bind_some _ _).symm.trans H; rw [hy866]; with_reducible exact H2_) | (have H2_ := (Option.bind_some _ _).symm.trans H; with_reducible exact H2_) | with_reducible exact H | (rw [hy866]; exact H) | exact H
                      have Ny866 := Aside0.mk hy866
                      clear hy866
                      replace H := Option.bind_eq_some_iff.mp H
                      obtain ⟨t869, A360, H⟩ := H
                      (try dsimp only at H)
                      have A36 := Aside0.mk A360
                      clear A360
                      by_cases c37 : x3_1.length < 8796093022208
                      · rw [if_pos c37] at H
                        have LMc37 := Aside0.mk c37
                        clear c37
                        obtain ⟨y870, hy870⟩ : ∃ y_ : List ByteArray, y_ = (x3_1 ++ [t869]) := ⟨_, rfl⟩
                        replace H : (impl_FormatShop.l0 k1 y870 l0_5 (l0_5.length : Int) (wrap64 (x34_1 + 1))) = some r := by first | (rw [hy870]; with_reducible exact H) | (have H2_ := (Option.bind_some _ _).symm.trans H; rw [hy870]; with_reducible exact H2_) | (have H2_ := (Option.bind_some _ _).symm.trans H; with_reducible exact H2_) | with_reducible exact H | (rw [hy870]; exact H) | exact H
                        have Ny870 := Aside0.mk hy870
                        clear hy870
                        have H' := Aside0.mk H
                        clear H
                        have p864 : 0 ≤ (x34_1 : Int) := of_decide_eq_true (by first | (with_reducible assumption) | assumption)
                        have q864 : x34_1 < (l0_5.length : Int) := of_decide_eq_true (by first | (with_reducible assumption) | assumption)
                        obtain ⟨ad864, e864, hx864_0, hx864_1, hx864_2, hx864_3⟩ := at_T85 HR0_5.out x34_1 p864 q864
                        cases e864
                        replace hx864_0 := (HB.out.cell (World.block_lt_of_cell? w _ hx864_0)).trans hx864_0
                        replace hx864_1 := (HB.out.cell (World.block_lt_of_cell? w _ hx864_1)).trans hx864_1
                        replace hx864_2 := (HB.out.cell (World.block_lt_of_cell? w _ hx864_2)).trans hx864_2
                        replace hx864_3 := (HB.out.cell (World.block_lt_of_cell? w _ hx864_3)).trans hx864_3
                        replace p864 := eq_true p864
                        replace q864 := eq_true q864
                        go_wp2_with (first | ((with_reducible refine gate_dst (N := 5) rfl ?_); refine box_event ?hg (N := 5) ?hd (cs := #[.int .i64 0, .int .i64 0, .int .i64 0, .int .i64 0]) (t := 85) ?hr ?_; (case hd => rfl); (case hg => rfl); (case hr => first | (go_simp; done) | (go_simp; rfl)); intro gb865 hg w38 hbox hb; have n0_ := Aside0.mk (Kd.R_below (oR HO_3) hb); have n1_ := Aside0.mk (blk_below (g := gb846) (o := .cells #[.slice A0_0 l0_0.length c0_0, .int .i64 a0_1, .slice A0_2 l0_2.length c0_2, .int .i64 a0_3, .int .i64 a0_4, .slice (some ad864) l0_5.length c0_5] 44 (0, 0)) (oK BK846) hb); have n2_ := Aside0.mk (below_step (oB HB) hb); have n3_ := Aside0.mk (hbox); have n4_ := Aside0.mk ((by rw [hg]; exact (below_size (oB HB)) : w.heap.size ≤ gb865)); have n5_ := Aside0.mk ((by rw [hg]; exact (below_size (oB HB)) : w.heap.size ≤ gb865)); have n6_ := Aside0.mk ((by rw [hg]; exact Nat.ne_of_lt (blk_lt (g := gb846) (o := .cells #[.slice A0_0 l0_0.length c0_0, .int .i64 a0_1, .slice A0_2 l0_2.length c0_2, .int .i64 a0_3, .int .i64 a0_4, .slice (some ad864) l0_5.length c0_5] 44 (0, 0)) (oK BK846)) : gb846 ≠ gb865)); have n7_ := Aside0.mk ((by rw [hg]; exact Nat.ne_of_gt (blk_lt (g := gb846) (o := .cells #[.slice A0_0 l0_0.length c0_0, .int .i64 a0_1, .slice A0_2 l0_2.length c0_2, .int .i64 a0_3, .int .i64 a0_4, .slice (some ad864) l0_5.length c0_5] 44 (0, 0)) (oK BK846)) : gb865 ≠ gb846)); clear HO_3; clear BK846; clear HB; have HO_3 := n0_; have BK846 := n1_; have HB := n2_; have BK865 := n3_; have GW865 := n4_; have GE865 := n5_; have NB846_865 := n6_; have NB865_846 := n7_; clear n0_ n1_ n2_ n3_ n4_ n5_ n6_ n7_; clear hb hbox hg; have hnb39 := NB865_846.out; have hnc39 := NB846_865.out; have hcz40_0 : w38.cell? ⟨gb865, 0, none⟩ = some (.int .i64 0) := (blk_cell BK865.out 0).trans rfl; have hcz40_1 : w38.cell? ⟨gb865, 1, none⟩ = some (.int .i64 0) := (blk_cell BK865.out 1).trans rfl; have hcz40_2 : w38.cell? ⟨gb865, 2, none⟩ = some (.int .i64 0) := (blk_cell BK865.out 2).trans rfl; have hcz40_3 : w38.cell? ⟨gb865, 3, none⟩ = some (.int .i64 0) := (blk_cell BK865.out 3).trans rfl; have hfz40_0 := blk_frozen BK865.out 0; have hfz40_1 := blk_frozen BK865.out 1; have hfz40_2 := blk_frozen BK865.out 2; have hfz40_3 := blk_frozen BK865.out 3) | ((with_reducible refine gate_dst (N := 49) rfl ?_); refine Kd.R_lit (Kd.int .i64) _ 3 ?hg (N := 49) ?hd (xs := ([(rd_T85 l0_5 x34_1).f0.f0, (rd_T85 l0_5 x34_1).f0.f1, (rd_T85 l0_5 x34_1).f1, (rd_T85 l0_5 x34_1).f2] : List Int)) (inner := [.int .i64 ((rd_T85 l0_5 x34_1).f0.f0), .int .i64 ((rd_T85 l0_5 x34_1).f0.f1), .int .i64 ((rd_T85 l0_5 x34_1).f1), .int .i64 ((rd_T85 l0_5 x34_1).f2)]) (ok := fun _ => True) (okp := fun _ => True) ?hr ?hp (fun _ hk => hk) trivial (Below.refl _ _) (Nat.le_refl _) (by simp) ?_; (case hd => rfl); (case hg => rfl); (case hr => first | (go_simp; done) | (go_simp; rfl)); (case hp => exact (Reps.one (show Kd.M (Kd.int .i64) _ _ _ ((rd_T85 l0_5 x34_1).f0.f0) [.int .i64 ((rd_T85 l0_5 x34_1).f0.f0)] from rfl) (Reps.one (show Kd.M (Kd.int .i64) _ _ _ ((rd_T85 l0_5 x34_1).f0.f1) [.int .i64 ((rd_T85 l0_5 x34_1).f0.f1)] from rfl) (Reps.one (show Kd.M (Kd.int .i64) _ _ _ ((rd_T85 l0_5 x34_1).f1) [.int .i64 ((rd_T85 l0_5 x34_1).f1)] from rfl) (Reps.one (show Kd.M (Kd.int .i64) _ _ _ ((rd_T85 l0_5 x34_1).f2) [.int .i64 ((rd_T85 l0_5 x34_1).f2)] from rfl) (Reps.none _ _)))))); intro v867 w41 ho42 hb hg_ hnew_; clear hg_ hnew_; (first | rw [← Ny866.out] at ho42 | (simp only [Int.reduceToNat] at ho42; rw [← Ny866.out] at ho42)); have n0_ := Aside0.mk (Kd.R_below (by (with_reducible repeat (first | apply Kd.R_alloc | apply Kd.R_drewN | apply Kd.R_drew)); exact (Kd.R_mono (Kd.R_far (p := ⟨gb865, 3, none⟩) (Kd.R_far (p := ⟨gb865, 2, none⟩) (Kd.R_far (p := ⟨gb865, 1, none⟩) (Kd.R_far (p := ⟨gb865, 0, none⟩) (Kd.R_types HO_3.out BK865.out (by decide)) (fun _ hk => hk.2) (.int .i64 ((rd_T85 l0_5 x34_1).f0.f0))) (fun _ hk => hk.2) (.int .i64 ((rd_T85 l0_5 x34_1).f0.f1))) (fun _ hk => hk.2) (.int .i64 ((rd_T85 l0_5 x34_1).f1))) (fun _ hk => hk.2) (.int .i64 ((rd_T85 l0_5 x34_1).f2))) (fun _ h_ => h_.1))) hb); have n1_ := Aside0.mk (Kd.R_lower ho42 (below_size (oB HB))); have n2_ := Aside0.mk (blk_below (g := gb846) (o := .cells #[.slice A0_0 l0_0.length c0_0, .int .i64 a0_1, .slice A0_2 l0_2.length c0_2, .int .i64 a0_3, .int .i64 a0_4, .slice (some ad864) l0_5.length c0_5] 44 (0, 0)) (by (with_reducible repeat (first | refine blk_drewN ?_ _ | refine blk_drew ?_ | refine blk_alloc ?_ _)); refine blk_far ?_ NB846_865.out _; (with_reducible repeat (first | refine blk_drewN ?_ _ | refine blk_drew ?_ | refine blk_alloc ?_ _)); refine blk_far ?_ NB846_865.out _; (with_reducible repeat (first | refine blk_drewN ?_ _ | refine blk_drew ?_ | refine blk_alloc ?_ _)); refine blk_far ?_ NB846_865.out _; (with_reducible repeat (first | refine blk_drewN ?_ _ | refine blk_drew ?_ | refine blk_alloc ?_ _)); refine blk_far ?_ NB846_865.out _; (with_reducible repeat (first | refine blk_drewN ?_ _ | refine blk_drew ?_ | refine blk_alloc ?_ _)); exact BK846.out) hb); have n3_ := Aside0.mk (blk_below (g := gb865) (o := .cells #[.int .i64 ((rd_T85 l0_5 x34_1).f0.f0), .int .i64 ((rd_T85 l0_5 x34_1).f0.f1), .int .i64 ((rd_T85 l0_5 x34_1).f1), .int .i64 ((rd_T85 l0_5 x34_1).f2)] 85 (0, 0)) (by (with_reducible repeat (first | refine blk_drewN ?_ _ | refine blk_drew ?_ | refine blk_alloc ?_ _)); refine blk_put (cs := #[.int .i64 ((rd_T85 l0_5 x34_1).f0.f0), .int .i64 ((rd_T85 l0_5 x34_1).f0.f1), .int .i64 ((rd_T85 l0_5 x34_1).f1), .int .i64 0]) ?_ 3 _ rfl; (with_reducible repeat (first | refine blk_drewN ?_ _ | refine blk_drew ?_ | refine blk_alloc ?_ _)); refine blk_put (cs := #[.int .i64 ((rd_T85 l0_5 x34_1).f0.f0), .int .i64 ((rd_T85 l0_5 x34_1).f0.f1), .int .i64 0, .int .i64 0]) ?_ 2 _ rfl; (with_reducible repeat (first | refine blk_drewN ?_ _ | refine blk_drew ?_ | refine blk_alloc ?_ _)); refine blk_put (cs := #[.int .i64 ((rd_T85 l0_5 x34_1).f0.f0), .int .i64 0, .int .i64 0, .int .i64 0]) ?_ 1 _ rfl; (with_reducible repeat (first | refine blk_drewN ?_ _ | refine blk_drew ?_ | refine blk_alloc ?_ _)); refine blk_put (cs := #[.int .i64 0, .int .i64 0, .int .i64 0, .int .i64 0]) ?_ 0 _ rfl; (with_reducible repeat (first | refine blk_drewN ?_ _ | refine blk_drew ?_ | refine blk_alloc ?_ _)); exact BK865.out) hb); have n4_ := Aside0.mk (below_step (oB HB) hb); clear HO_3; clear BK846; clear BK865; clear HB; have HO_3 := n0_; have HO868 := n1_; have BK846 := n2_; have BK865 := n3_; have HB := n4_; clear n0_ n1_ n2_ n3_ n4_; clear hb ho42; obtain ⟨Ao43, co43, eo43⟩ := Kd.R_slice HO868.out; subst eo43) | ((with_reducible refine gate_callee (f := 34) rfl ?_); refine goesL_ (some 50) rfl rfl Tryd.func34 (by kernel_rfl) rfl #[.slice Ao43 y866.length co43] rfl (by (try simp only [List.map_toArray, List.map_cons, List.map_nil]); first | done | rfl | (simp only [List.length_drop, List.length_take]; rfl)) ?_; (with_reducible refine (impl_words.calls k1 _ _ y866 t869 _ ?side1 ?side2 A36.out ?sideT).mono ?_); (case sideT => exact ⟨tab_on ht_.out (oB HB)⟩); (case side1 => repeat (first | exact (Kd.R_reads' HO868.out).2.2 | (with_reducible refine Kd.C_alloc ?_ _) | (with_reducible refine Kd.C_drewN ?_ _) | (with_reducible refine Kd.C_drew ?_))); (case side2 => exact (Kd.R_reads' HO868.out).2.1); rintro e w44 ⟨rfl, hb⟩; refine ⟨_, rfl, ?_⟩; have n0_ := Aside0.mk (Kd.R_below (oR HO_3) hb); have n1_ := Aside0.mk (Kd.R_below (oR HO868) hb); have n2_ := Aside0.mk (blk_below (g := gb846) (o := .cells #[.slice A0_0 l0_0.length c0_0, .int .i64 a0_1, .slice A0_2 l0_2.length c0_2, .int .i64 a0_3, .int .i64 a0_4, .slice (some ad864) l0_5.length c0_5] 44 (0, 0)) (oK BK846) hb); have n3_ := Aside0.mk (blk_below (g := gb865) (o := .cells #[.int .i64 ((rd_T85 l0_5 x34_1).f0.f0), .int .i64 ((rd_T85 l0_5 x34_1).f0.f1), .int .i64 ((rd_T85 l0_5 x34_1).f1), .int .i64 ((rd_T85 l0_5 x34_1).f2)] 85 (0, 0)) (oK BK865) hb); have n4_ := Aside0.mk (below_step (oB HB) hb); clear HO_3; clear HO868; clear BK846; clear BK865; clear HB; have HO_3 := n0_; have HO868 := n1_; have BK846 := n2_; have BK865 := n3_; have HB := n4_; clear n0_ n1_ n2_ n3_ n4_; (try clear hb); (try clear hb2); (try clear hk); (try clear hi)) | ((with_reducible refine gate_builtin (b := .append) (xs := #[.tmp 38, .tmp 51]) rfl ?_); at_builtin; refine Kd.R_append Kd.string (w0 := w) w.heap.size rfl (.tmp 38) (.tmp 51) 47 9 (.string ⟨#[]⟩) 16 rfl Tryd.underlying47 info9 rfl (by decide) (by omega) u3 x3_1 t869 [.string t869] (fun _ => True) (fun _ => False) rfl rfl ?aP (fun _ hk => hk.elim) ?aF ?aO ?aB ?aS ?aL ?_; (case aP => exact rfl); (case aB => exact (oB HB)); (case aF => exact (fun _ _ => trivial)); (case aO => exact (oR HO_3)); (case aS => exact (below_size (oB HB))); (case aL => have := LMc37.out; omega); intro v871 w45 ho hb hg hat; rw [← Ny870.out] at ho; have n0_ := Aside0.mk (blk_grown (g := gb846) (o := .cells #[.slice A0_0 l0_0.length c0_0, .int .i64 a0_1, .slice A0_2 l0_2.length c0_2, .int .i64 a0_3, .int .i64 a0_4, .slice (some ad864) l0_5.length c0_5] 44 (0, 0)) (oK BK846) hg (Kd.R_ne HO_3.out BK846.out (by decide))); have n1_ := Aside0.mk (blk_grown (g := gb865) (o := .cells #[.int .i64 ((rd_T85 l0_5 x34_1).f0.f0), .int .i64 ((rd_T85 l0_5 x34_1).f0.f1), .int .i64 ((rd_T85 l0_5 x34_1).f1), .int .i64 ((rd_T85 l0_5 x34_1).f2)] 85 (0, 0)) (oK BK865) hg (Kd.R_ne HO_3.out BK865.out (by decide))); have n2_ := Aside0.mk (Kd.R_over' (oR HO868) (Kd.R_typed (oR HO_3)) (by decide) hg); have n3_ := Aside0.mk (hb); have n4_ := Aside0.mk (ho); clear BK846; clear BK865; clear HO868; clear HB; clear HO_3; have BK846 := n0_; have BK865 := n1_; have HO868 := n2_; have HB := n3_; have HO872 := n4_; clear n0_ n1_ n2_ n3_ n4_; clear ho hb hg hat))
                        go_roundg k1
                        case measure => have := HK1.out; omega
                        case rel => exact ⟨(y870), (wrap64 (x34_1 + 1)), (by first | rfl | (simp; done) | (simp [*]; done)), H', ⟨by have := HK1.out; omega⟩, ⟨oR HO872⟩, ⟨oK BK846⟩, ⟨oB HB⟩⟩
                      · rw [if_neg c37] at H
                        exact absurd H (by simp)
                    · rw [if_neg c35] at H
                      exact absurd H (by simp)
                  · rw [if_neg c34] at H
                    exact absurd H (by simp)
                · rw [if_neg c33] at H
                  have c33b0 : decide (x34_1 < (l0_5.length : Int)) = false := decide_eq_false c33
                  clear c33
                  obtain rfl := Option.some.inj H
                  go_wp2
                  go_ret
                  exact ⟨_, by first | rfl | (simp [errW_none, errW_some] <;> rfl) | (simp [*, errW_none, errW_some] <;> rfl), oR HO_3, oB HB⟩
          · rw [if_neg c11] at H
            exact absurd H (by simp)
        · rw [if_neg c9] at H
          exact absurd H (by simp)
      · rw [if_neg c7] at H
        exact absurd H (by simp)
    · rw [if_neg c5] at H
      exact absurd H (by simp)
  · replace c3 := Bool.eq_false_iff.mpr c3
    subst c3
    rw [if_neg (show ¬ (false = true) by decide)] at H
    obtain rfl := Option.some.inj H
    go_enter Tryd.func18, Tryd.ntmps18
    go_wp2_with (first | ((with_reducible refine gate_dst (N := 1) rfl ?_); refine box_event ?hg (N := 1) ?hd (cs := #[.slice A0_0 l0_0.length c0_0, .int .i64 a0_1, .slice A0_2 l0_2.length c0_2, .int .i64 a0_3, .int .i64 a0_4, .slice A0_5 l0_5.length c0_5]) (t := 44) ?hr ?_; (case hd => rfl); (case hg => rfl); (case hr => first | (go_simp; done) | (go_simp; rfl)); intro gb846 hg w46 hbox hb; have n0_ := Aside0.mk (below_step (oB HB) hb); have n1_ := Aside0.mk (hbox); have n2_ := Aside0.mk ((by rw [hg]; exact (below_size (oB HB)) : w.heap.size ≤ gb846)); have n3_ := Aside0.mk ((by rw [hg]; exact (below_size (oB HB)) : w.heap.size ≤ gb846)); clear HB; have HB := n0_; have BK846 := n1_; have GW846 := n2_; have GE846 := n3_; clear n0_ n1_ n2_ n3_; clear hb hbox hg; have hcz47_0 : w46.cell? ⟨gb846, 0, none⟩ = some (.slice A0_0 l0_0.length c0_0) := (blk_cell BK846.out 0).trans rfl; have hcz47_1 : w46.cell? ⟨gb846, 1, none⟩ = some (.int .i64 a0_1) := (blk_cell BK846.out 1).trans rfl; have hcz47_2 : w46.cell? ⟨gb846, 2, none⟩ = some (.slice A0_2 l0_2.length c0_2) := (blk_cell BK846.out 2).trans rfl; have hcz47_3 : w46.cell? ⟨gb846, 3, none⟩ = some (.int .i64 a0_3) := (blk_cell BK846.out 3).trans rfl; have hcz47_4 : w46.cell? ⟨gb846, 4, none⟩ = some (.int .i64 a0_4) := (blk_cell BK846.out 4).trans rfl; have hcz47_5 : w46.cell? ⟨gb846, 5, none⟩ = some (.slice A0_5 l0_5.length c0_5) := (blk_cell BK846.out 5).trans rfl; have hfz47_0 := blk_frozen BK846.out 0; have hfz47_1 := blk_frozen BK846.out 1; have hfz47_2 := blk_frozen BK846.out 2; have hfz47_3 := blk_frozen BK846.out 3; have hfz47_4 := blk_frozen BK846.out 4; have hfz47_5 := blk_frozen BK846.out 5) | ((with_reducible refine gate_callee (f := 40) rfl ?_); refine goesL_ (some 7) rfl rfl Tryd.func40 (by kernel_rfl) rfl #[.agg #[.slice A0_0 l0_0.length c0_0, .int .i64 a0_1, .slice A0_2 l0_2.length c0_2, .int .i64 a0_3, .int .i64 a0_4, .slice A0_5 l0_5.length c0_5]] rfl (by (try simp only [List.map_toArray, List.map_cons, List.map_nil]); first | done | rfl | (simp only [List.length_drop, List.length_take]; rfl)) ?_; (with_reducible refine (impl_ShopOk.calls k _ _ l0_0 a0_1 _ _ l0_2 a0_3 a0_4 _ _ l0_5 false _ ?side1 ?side2 ?side3 ?side4 ?side5 ?side6 A2.out).mono ?_); (case side1 => exact oc_ HR0_0.out); (case side2 => exact HC0_0.out); (case side3 => exact oc_ HR0_2.out); (case side4 => exact HC0_2.out); (case side5 => exact oc_ HR0_5.out); (case side6 => exact HC0_5.out); rintro e w48 ⟨rfl, hb⟩; refine ⟨_, rfl, ?_⟩; have n0_ := Aside0.mk (blk_below (g := gb846) (o := .cells #[.slice A0_0 l0_0.length c0_0, .int .i64 a0_1, .slice A0_2 l0_2.length c0_2, .int .i64 a0_3, .int .i64 a0_4, .slice A0_5 l0_5.length c0_5] 44 (0, 0)) (oK BK846) hb); have n1_ := Aside0.mk (below_step (oB HB) hb); clear BK846; clear HB; have BK846 := n0_; have HB := n1_; clear n0_ n1_; (try clear hb); (try clear hb2); (try clear hk); (try clear hi)))
    go_ret
    exact ⟨_, by first | rfl | (simp [errW_none, errW_some] <;> rfl) | (simp [*, errW_none, errW_some] <;> rfl), by first | exact Kd.R_nil _ _ _ _ _ | exact Kd.N_nil _ _ _ _ _ | exact Kd.V_nil _ _ _ _ _ | exact Kd.Q_nil _ _ _ _ _ | exact Kd.S_nil _ _ _ _ _, oB HB⟩
end Go.Proofs.YtojiighpkppckaaDoor.P


namespace Go.Proofs.YtojiighpkppckaaDoor.P
open Go.RowKit Go.Proofs.YtojiighpkppckaaDoorW.PrintWords Go.Proofs.YtojiighpkppckaaDoorW.PrintLast Go.Proofs.YtojiighpkppckaaDoorW.PrintMore
attribute [local go_sem] max2_int min2_int max_two min_two max_three min_three max_four min_four
set_option linter.unusedVariables false
set_option linter.unusedSimpArgs false
def laws_szStepS.f (l0 : List (S148)) (a1 : Int) : Option (Int) := if (wrap64 (a1 - (l0.length : Int))) < 0 then (some (-1)) else (some (wrap64 (a1 - (l0.length : Int))))
set_option maxHeartbeats 8000000 in
set_option maxRecDepth 100000 in
theorem laws_szStepS.calls (A0 : Option Addr) (c0 : Nat) (l0 : List (S148)) (a1 : Int) (r : Int) (w : World) (hr0 : Kd.C k148 w A0 l0.length l0) (hc0 : l0.length ≤ c0) (h : laws_szStepS.f l0 a1 = some r) :
    Calls Tryd.prog 71 #[.slice A0 l0.length c0, .int .i64 a1] w fun e w' => e = .returned (.int .i64 r) ∧ Drawn0 w w' := by
  have HR0 := Aside0.mk hr0
  have HC0 := Aside0.mk hc0
  clear hr0 hc0
  have H : (if (wrap64 (a1 - (l0.length : Int))) < 0 then (some (-1)) else (some (wrap64 (a1 - (l0.length : Int))))) = some r := h
  clear h
  by_cases c3 : (wrap64 (a1 - (l0.length : Int))) < 0
  · rw [if_pos c3] at H
    have c3b0 : decide ((wrap64 (a1 - (l0.length : Int))) < 0) = true := decide_eq_true c3
    clear c3
    obtain rfl := Option.some.inj H
    go_enter Tryd.func71, Tryd.ntmps71
    go_wp2
    go_ret
    exact ⟨by first | rfl | (simp; done) | (simp [*]; done), by repeat (first | exact Drawn0.refl _ | apply Drawn0.step)⟩
  · rw [if_neg c3] at H
    have c3b0 : decide ((wrap64 (a1 - (l0.length : Int))) < 0) = false := decide_eq_false c3
    clear c3
    obtain rfl := Option.some.inj H
    go_enter Tryd.func71, Tryd.ntmps71
    go_wp2
    go_ret
    exact ⟨by first | rfl | (simp; done) | (simp [*]; done), by repeat (first | exact Drawn0.refl _ | apply Drawn0.step)⟩
end Go.Proofs.YtojiighpkppckaaDoor.P


namespace Go.Proofs.YtojiighpkppckaaDoor.P
open Go.RowKit Go.Proofs.YtojiighpkppckaaDoorW.PrintWords Go.Proofs.YtojiighpkppckaaDoorW.PrintLast Go.Proofs.YtojiighpkppckaaDoorW.PrintMore
attribute [local go_sem] max2_int min2_int max_two min_two max_three min_three max_four min_four
set_option linter.unusedVariables false
set_option linter.unusedSimpArgs false
def laws_szIntS.f (l0 : List Int) (a1 : Int) : Option (Int) := if (wrap64 (a1 - (l0.length : Int))) < 0 then (some (-1)) else (some (wrap64 (a1 - (l0.length : Int))))
set_option maxHeartbeats 8000000 in
set_option maxRecDepth 100000 in
theorem laws_szIntS.calls (A0 : Option Addr) (c0 : Nat) (l0 : List Int) (a1 : Int) (r : Int) (w : World) (hr0 : Kd.C (Kd.int .i64) w A0 l0.length l0) (hc0 : l0.length ≤ c0) (h : laws_szIntS.f l0 a1 = some r) :
    Calls Tryd.prog 72 #[.slice A0 l0.length c0, .int .i64 a1] w fun e w' => e = .returned (.int .i64 r) ∧ Drawn0 w w' := by
  have HR0 := Aside0.mk hr0
  have HC0 := Aside0.mk hc0
  clear hr0 hc0
  have H : (if (wrap64 (a1 - (l0.length : Int))) < 0 then (some (-1)) else (some (wrap64 (a1 - (l0.length : Int))))) = some r := h
  clear h
  by_cases c3 : (wrap64 (a1 - (l0.length : Int))) < 0
  · rw [if_pos c3] at H
    have c3b0 : decide ((wrap64 (a1 - (l0.length : Int))) < 0) = true := decide_eq_true c3
    clear c3
    obtain rfl := Option.some.inj H
    go_enter Tryd.func72, Tryd.ntmps72
    go_wp2
    go_ret
    exact ⟨by first | rfl | (simp; done) | (simp [*]; done), by repeat (first | exact Drawn0.refl _ | apply Drawn0.step)⟩
  · rw [if_neg c3] at H
    have c3b0 : decide ((wrap64 (a1 - (l0.length : Int))) < 0) = false := decide_eq_false c3
    clear c3
    obtain rfl := Option.some.inj H
    go_enter Tryd.func72, Tryd.ntmps72
    go_wp2
    go_ret
    exact ⟨by first | rfl | (simp; done) | (simp [*]; done), by repeat (first | exact Drawn0.refl _ | apply Drawn0.step)⟩
end Go.Proofs.YtojiighpkppckaaDoor.P


namespace Go.Proofs.YtojiighpkppckaaDoor.P
open Go.RowKit Go.Proofs.YtojiighpkppckaaDoorW.PrintWords Go.Proofs.YtojiighpkppckaaDoorW.PrintLast Go.Proofs.YtojiighpkppckaaDoorW.PrintMore Go.Proofs.YtojiighpkppckaaDoor.V
attribute [local go_sem] cell_b frozen_b
attribute [local go_sem] max2_int min2_int max_two min_two max_three min_three max_four min_four
set_option linter.unusedVariables false
set_option linter.unusedSimpArgs false
def laws_szWork.f (l0_0 : List (S148)) (a0_1 : Int) (l0_2 : List Int) (a1 : Int) : Option (Int) := (laws_szStepS.f l0_0 a1).bind fun t903 => (if t903 < 0 then (some (-1)) else ((laws_szIntS.f l0_2 t903).bind fun t904 => (if t904 < 0 then (some (-1)) else (some t904))))
set_option maxHeartbeats 8000000 in
set_option maxRecDepth 100000 in
set_option synthInstance.maxHeartbeats 400000 in
set_option synthInstance.maxSize 100000 in
theorem laws_szWork.calls (A0_0 : Option Addr) (c0_0 : Nat) (l0_0 : List (S148)) (a0_1 : Int) (A0_2 : Option Addr) (c0_2 : Nat) (l0_2 : List Int) (a1 : Int) (r : Int) (w : World) (hr0_0 : Kd.C k148 w A0_0 l0_0.length l0_0) (hc0_0 : l0_0.length ≤ c0_0) (hr0_2 : Kd.C (Kd.int .i64) w A0_2 l0_2.length l0_2) (hc0_2 : l0_2.length ≤ c0_2) (h : laws_szWork.f l0_0 a0_1 l0_2 a1 = some r) :
    Calls Tryd.prog 42 #[.agg #[.slice A0_0 l0_0.length c0_0, .int .i64 a0_1, .slice A0_2 l0_2.length c0_2], .int .i64 a1] w fun e w' => e = .returned (.int .i64 r) ∧ Below w.heap.size w w' := by
  have ihr0_0 := RdE.mk hr0_0
  have ihc0_0 := LeI.mk hc0_0
  have ihr0_2 := RdE.mk hr0_2
  have ihc0_2 := LeI.mk hc0_2
  clear hr0_0 hc0_0 hr0_2 hc0_2
  unfold laws_szWork.f at h
  have hu52 := Tryd.underlying52
  (repeat' first | ((with_reducible replace h := ite_some h); rcases h with ⟨hc, h⟩ | ⟨hc, h⟩ <;> first | exact (none_some h).elim | exact absurd hc (by decide) | subst hc | (replace hc := Bool.eq_false_iff.mpr hc; subst hc) | (have hd := beq_iff_eq.mpr hc; have he := bne_eq_false_iff_eq.mpr hc; clear hc) | (have hd := beq_eq_false_iff_ne.mpr hc; have he := bne_iff_ne.mpr hc) | (have hd := decide_eq_false hc) | (have hd := decide_eq_true hc) | skip))
  all_goals go_enter Tryd.func42, Tryd.ntmps42
  all_goals go_wp2_with (first
    | ((with_reducible refine gate_dst (N := 2) rfl ?_); refine box_event rfl (N := 2) rfl (cs := #[.slice A0_0 l0_0.length c0_0, .int .i64 a0_1, .slice A0_2 l0_2.length c0_2]) (t := 52) (by first | (go_simp; done) | (go_simp; rfl)) ?_; intro g hg w1 hk hb; have j1 := Born.mk hg; have j2 := Bel.mk hb; have j3 := Blk.mk hk; clear hg hb hk)
    | (go_at_call 71; replace h := Option.bind_eq_some_iff.mp h; obtain ⟨t, A, h⟩ := h; (try dsimp only at h); refine (laws_szStepS.calls _ _ _ _ _ _ Rd.out LeI.out A).mono ?_; rintro e w2 ⟨rfl, n, rfl⟩; clear A; (repeat' first | ((with_reducible replace h := ite_some h); rcases h with ⟨hc, h⟩ | ⟨hc, h⟩ <;> first | exact (none_some h).elim | exact absurd hc (by decide) | subst hc | (replace hc := Bool.eq_false_iff.mpr hc; subst hc) | (have hd := beq_iff_eq.mpr hc; have he := bne_eq_false_iff_eq.mpr hc; clear hc) | (have hd := beq_eq_false_iff_ne.mpr hc; have he := bne_iff_ne.mpr hc) | (have hd := decide_eq_false hc) | (have hd := decide_eq_true hc) | skip)))
    | (go_at_call 72; replace h := Option.bind_eq_some_iff.mp h; obtain ⟨t, A, h⟩ := h; (try dsimp only at h); refine (laws_szIntS.calls _ _ _ _ _ _ Rd.out LeI.out A).mono ?_; rintro e w2 ⟨rfl, n, rfl⟩; clear A; (repeat' first | ((with_reducible replace h := ite_some h); rcases h with ⟨hc, h⟩ | ⟨hc, h⟩ <;> first | exact (none_some h).elim | exact absurd hc (by decide) | subst hc | (replace hc := Bool.eq_false_iff.mpr hc; subst hc) | (have hd := beq_iff_eq.mpr hc; have he := bne_eq_false_iff_eq.mpr hc; clear hc) | (have hd := beq_eq_false_iff_ne.mpr hc; have he := bne_iff_ne.mpr hc) | (have hd := decide_eq_false hc) | (have hd := decide_eq_true hc) | skip))))
  all_goals (repeat' first | ((with_reducible replace h := ite_some h); rcases h with ⟨hc, h⟩ | ⟨hc, h⟩ <;> first | exact (none_some h).elim | exact absurd hc (by decide) | subst hc | (replace hc := Bool.eq_false_iff.mpr hc; subst hc) | (have hd := beq_iff_eq.mpr hc; have he := bne_eq_false_iff_eq.mpr hc; clear hc) | (have hd := beq_eq_false_iff_ne.mpr hc; have he := bne_iff_ne.mpr hc) | (have hd := decide_eq_false hc) | (have hd := decide_eq_true hc) | skip))
  all_goals obtain rfl := Option.some.inj h
  all_goals go_ret
  all_goals exact ⟨rfl, From.out⟩
end Go.Proofs.YtojiighpkppckaaDoor.P


namespace Go.Proofs.YtojiighpkppckaaDoor.P
open Go.RowKit Go.Proofs.YtojiighpkppckaaDoorW.PrintWords Go.Proofs.YtojiighpkppckaaDoorW.PrintLast Go.Proofs.YtojiighpkppckaaDoorW.PrintMore
attribute [local go_sem] max2_int min2_int max_two min_two max_three min_three max_four min_four
set_option linter.unusedVariables false
set_option linter.unusedSimpArgs false
def laws_szEntryS.f (l0 : List (S119)) (a1 : Int) : Option (Int) := if (wrap64 (a1 - (l0.length : Int))) < 0 then (some (-1)) else (some (wrap64 (a1 - (l0.length : Int))))
set_option maxHeartbeats 8000000 in
set_option maxRecDepth 100000 in
theorem laws_szEntryS.calls (A0 : Option Addr) (c0 : Nat) (l0 : List (S119)) (a1 : Int) (r : Int) (w : World) (hr0 : Kd.C k119 w A0 l0.length l0) (hc0 : l0.length ≤ c0) (h : laws_szEntryS.f l0 a1 = some r) :
    Calls Tryd.prog 43 #[.slice A0 l0.length c0, .int .i64 a1] w fun e w' => e = .returned (.int .i64 r) ∧ Drawn0 w w' := by
  have HR0 := Aside0.mk hr0
  have HC0 := Aside0.mk hc0
  clear hr0 hc0
  have H : (if (wrap64 (a1 - (l0.length : Int))) < 0 then (some (-1)) else (some (wrap64 (a1 - (l0.length : Int))))) = some r := h
  clear h
  by_cases c3 : (wrap64 (a1 - (l0.length : Int))) < 0
  · rw [if_pos c3] at H
    have c3b0 : decide ((wrap64 (a1 - (l0.length : Int))) < 0) = true := decide_eq_true c3
    clear c3
    obtain rfl := Option.some.inj H
    go_enter Tryd.func43, Tryd.ntmps43
    go_wp2
    go_ret
    exact ⟨by first | rfl | (simp; done) | (simp [*]; done), by repeat (first | exact Drawn0.refl _ | apply Drawn0.step)⟩
  · rw [if_neg c3] at H
    have c3b0 : decide ((wrap64 (a1 - (l0.length : Int))) < 0) = false := decide_eq_false c3
    clear c3
    obtain rfl := Option.some.inj H
    go_enter Tryd.func43, Tryd.ntmps43
    go_wp2
    go_ret
    exact ⟨by first | rfl | (simp; done) | (simp [*]; done), by repeat (first | exact Drawn0.refl _ | apply Drawn0.step)⟩
end Go.Proofs.YtojiighpkppckaaDoor.P


namespace Go.Proofs.YtojiighpkppckaaDoor.P
open Go.RowKit Go.Proofs.YtojiighpkppckaaDoorW.PrintWords Go.Proofs.YtojiighpkppckaaDoorW.PrintLast Go.Proofs.YtojiighpkppckaaDoorW.PrintMore Go.Proofs.YtojiighpkppckaaDoor.V
attribute [local go_sem] cell_b frozen_b
attribute [local go_sem] max2_int min2_int max_two min_two max_three min_three max_four min_four
set_option linter.unusedVariables false
set_option linter.unusedSimpArgs false
def laws_szShop.f (l0_0 : List (S148)) (a0_1 : Int) (l0_2 : List Int) (a0_3 : Int) (a0_4 : Int) (l0_5 : List (S119)) (a1 : Int) : Option (Int) := (laws_szWork.f l0_0 a0_1 l0_2 a1).bind fun t906 => (if t906 < 0 then (some (-1)) else ((laws_szEntryS.f l0_5 t906).bind fun t907 => (if t907 < 0 then (some (-1)) else (some t907))))
set_option maxHeartbeats 8000000 in
set_option maxRecDepth 100000 in
set_option synthInstance.maxHeartbeats 400000 in
set_option synthInstance.maxSize 100000 in
theorem laws_szShop.calls (A0_0 : Option Addr) (c0_0 : Nat) (l0_0 : List (S148)) (a0_1 : Int) (A0_2 : Option Addr) (c0_2 : Nat) (l0_2 : List Int) (a0_3 : Int) (a0_4 : Int) (A0_5 : Option Addr) (c0_5 : Nat) (l0_5 : List (S119)) (a1 : Int) (r : Int) (w : World) (hr0_0 : Kd.C k148 w A0_0 l0_0.length l0_0) (hc0_0 : l0_0.length ≤ c0_0) (hr0_2 : Kd.C (Kd.int .i64) w A0_2 l0_2.length l0_2) (hc0_2 : l0_2.length ≤ c0_2) (hr0_5 : Kd.C k119 w A0_5 l0_5.length l0_5) (hc0_5 : l0_5.length ≤ c0_5) (h : laws_szShop.f l0_0 a0_1 l0_2 a0_3 a0_4 l0_5 a1 = some r) :
    Calls Tryd.prog 20 #[.agg #[.slice A0_0 l0_0.length c0_0, .int .i64 a0_1, .slice A0_2 l0_2.length c0_2, .int .i64 a0_3, .int .i64 a0_4, .slice A0_5 l0_5.length c0_5], .int .i64 a1] w fun e w' => e = .returned (.int .i64 r) ∧ Below w.heap.size w w' := by
  have ihr0_0 := RdE.mk hr0_0
  have ihc0_0 := LeI.mk hc0_0
  have ihr0_2 := RdE.mk hr0_2
  have ihc0_2 := LeI.mk hc0_2
  have ihr0_5 := RdE.mk hr0_5
  have ihc0_5 := LeI.mk hc0_5
  clear hr0_0 hc0_0 hr0_2 hc0_2 hr0_5 hc0_5
  unfold laws_szShop.f at h
  have hu55 := Tryd.underlying55
  (repeat' first | ((with_reducible replace h := ite_some h); rcases h with ⟨hc, h⟩ | ⟨hc, h⟩ <;> first | exact (none_some h).elim | exact absurd hc (by decide) | subst hc | (replace hc := Bool.eq_false_iff.mpr hc; subst hc) | (have hd := beq_iff_eq.mpr hc; have he := bne_eq_false_iff_eq.mpr hc; clear hc) | (have hd := beq_eq_false_iff_ne.mpr hc; have he := bne_iff_ne.mpr hc) | (have hd := decide_eq_false hc) | (have hd := decide_eq_true hc) | skip))
  all_goals go_enter Tryd.func20, Tryd.ntmps20
  all_goals go_wp2_with (first
    | ((with_reducible refine gate_dst (N := 2) rfl ?_); refine box_event rfl (N := 2) rfl (cs := #[.slice A0_0 l0_0.length c0_0, .int .i64 a0_1, .slice A0_2 l0_2.length c0_2, .int .i64 a0_3, .int .i64 a0_4, .slice A0_5 l0_5.length c0_5]) (t := 55) (by first | (go_simp; done) | (go_simp; rfl)) ?_; intro g hg w1 hk hb; have j1 := Born.mk hg; have j2 := Bel.mk hb; have j3 := Blk.mk hk; clear hg hb hk)
    | (go_at_call 42; replace h := Option.bind_eq_some_iff.mp h; obtain ⟨t, A, h⟩ := h; (try dsimp only at h); refine (laws_szWork.calls _ _ _ _ _ _ _ _ _ _ Rd.out LeI.out Rd.out LeI.out A).mono ?_; rintro e w2 ⟨rfl, hb⟩; have jb := Bel.mk hb; clear A hb; (repeat' first | ((with_reducible replace h := ite_some h); rcases h with ⟨hc, h⟩ | ⟨hc, h⟩ <;> first | exact (none_some h).elim | exact absurd hc (by decide) | subst hc | (replace hc := Bool.eq_false_iff.mpr hc; subst hc) | (have hd := beq_iff_eq.mpr hc; have he := bne_eq_false_iff_eq.mpr hc; clear hc) | (have hd := beq_eq_false_iff_ne.mpr hc; have he := bne_iff_ne.mpr hc) | (have hd := decide_eq_false hc) | (have hd := decide_eq_true hc) | skip)))
    | (go_at_call 43; replace h := Option.bind_eq_some_iff.mp h; obtain ⟨t, A, h⟩ := h; (try dsimp only at h); refine (laws_szEntryS.calls _ _ _ _ _ _ Rd.out LeI.out A).mono ?_; rintro e w2 ⟨rfl, n, rfl⟩; clear A; (repeat' first | ((with_reducible replace h := ite_some h); rcases h with ⟨hc, h⟩ | ⟨hc, h⟩ <;> first | exact (none_some h).elim | exact absurd hc (by decide) | subst hc | (replace hc := Bool.eq_false_iff.mpr hc; subst hc) | (have hd := beq_iff_eq.mpr hc; have he := bne_eq_false_iff_eq.mpr hc; clear hc) | (have hd := beq_eq_false_iff_ne.mpr hc; have he := bne_iff_ne.mpr hc) | (have hd := decide_eq_false hc) | (have hd := decide_eq_true hc) | skip))))
  all_goals (repeat' first | ((with_reducible replace h := ite_some h); rcases h with ⟨hc, h⟩ | ⟨hc, h⟩ <;> first | exact (none_some h).elim | exact absurd hc (by decide) | subst hc | (replace hc := Bool.eq_false_iff.mpr hc; subst hc) | (have hd := beq_iff_eq.mpr hc; have he := bne_eq_false_iff_eq.mpr hc; clear hc) | (have hd := beq_eq_false_iff_ne.mpr hc; have he := bne_iff_ne.mpr hc) | (have hd := decide_eq_false hc) | (have hd := decide_eq_true hc) | skip))
  all_goals obtain rfl := Option.some.inj h
  all_goals go_ret
  all_goals exact ⟨rfl, From.out⟩
end Go.Proofs.YtojiighpkppckaaDoor.P


namespace Go.Proofs.YtojiighpkppckaaDoor.P
open Go.RowKit Go.Proofs.YtojiighpkppckaaDoorW.PrintWords Go.Proofs.YtojiighpkppckaaDoorW.PrintLast Go.Proofs.YtojiighpkppckaaDoorW.PrintMore
attribute [local go_sem] max2_int min2_int max_two min_two max_three min_three max_four min_four
set_option linter.unusedVariables false
set_option linter.unusedSimpArgs false
def spec_l01Figure.f (a0 : Int) : Option (Int) := if a0 < 10 then (some ((wrap64 (48 + a0)) % 256)) else (some ((wrap64 ((wrap64 (97 + a0)) - 10)) % 256))
set_option maxHeartbeats 8000000 in
set_option maxRecDepth 100000 in
theorem spec_l01Figure.calls (a0 : Int) (r : Int) (w : World) (h : spec_l01Figure.f a0 = some r) :
    Calls Tryd.prog 59 #[.int .i64 a0] w fun e w' => e = .returned (.int .u8 r) ∧ Drawn0 w w' := by
  have H : (if a0 < 10 then (some ((wrap64 (48 + a0)) % 256)) else (some ((wrap64 ((wrap64 (97 + a0)) - 10)) % 256))) = some r := h
  clear h
  by_cases c2 : a0 < 10
  · rw [if_pos c2] at H
    have c2b0 : decide (a0 < 10) = true := decide_eq_true c2
    clear c2
    obtain rfl := Option.some.inj H
    go_enter Tryd.func59, Tryd.ntmps59
    go_wp2
    go_ret
    exact ⟨by first | rfl | (simp; done) | (simp [*]; done), by repeat (first | exact Drawn0.refl _ | apply Drawn0.step)⟩
  · rw [if_neg c2] at H
    have c2b0 : decide (a0 < 10) = false := decide_eq_false c2
    clear c2
    obtain rfl := Option.some.inj H
    go_enter Tryd.func59, Tryd.ntmps59
    go_wp2
    go_ret
    exact ⟨by first | rfl | (simp; done) | (simp [*]; done), by repeat (first | exact Drawn0.refl _ | apply Drawn0.step)⟩
end Go.Proofs.YtojiighpkppckaaDoor.P


namespace Go.Proofs.YtojiighpkppckaaDoor.P
open Go.RowKit Go.Proofs.YtojiighpkppckaaDoorW.PrintWords Go.Proofs.YtojiighpkppckaaDoorW.PrintLast Go.Proofs.YtojiighpkppckaaDoorW.PrintMore
attribute [local go_sem] max2_int min2_int max_two min_two max_three min_three max_four min_four
set_option linter.unusedVariables false
set_option linter.unusedSimpArgs false
def spec_FormatInt.l0 : Nat → Int → Bool → ByteArray → Option (ByteArray)
  | 0, _, _, _ => none
  | k + 1, x0, x3, x4 => if x0 = 0 then (if x3 = true then (if 1 + x4.size ≤ 9223372036854775807 then (some ((⟨#[45]⟩ : ByteArray) ++ x4)) else (none)) else (some x4)) else (if (Int.tmod x0 10) < 0 then ((spec_l01Figure.f (wrap64 (-(Int.tmod x0 10)))).bind fun t109 => ((some (([t109] : List Int) : List Int)).bind fun y110 => (if (strOfNums y110).size + x4.size ≤ 9223372036854775807 then (spec_FormatInt.l0 k (wrap64 (Int.tdiv x0 10)) x3 ((strOfNums y110) ++ x4)) else (none)))) else ((spec_l01Figure.f (Int.tmod x0 10)).bind fun t113 => ((some (([t113] : List Int) : List Int)).bind fun y114 => (if (strOfNums y114).size + x4.size ≤ 9223372036854775807 then (spec_FormatInt.l0 k (wrap64 (Int.tdiv x0 10)) x3 ((strOfNums y114) ++ x4)) else (none)))))
def spec_FormatInt.f (k : Nat) (a0 : Int) : Option (ByteArray) := if a0 = 0 then (some (⟨#[48]⟩ : ByteArray)) else (spec_FormatInt.l0 k a0 (decide (a0 < 0)) (⟨#[]⟩ : ByteArray))
set_option maxHeartbeats 8000000 in
set_option maxRecDepth 100000 in
theorem spec_FormatInt.calls (k : Nat) (a0 : Int) (r : ByteArray) (w : World) (h : spec_FormatInt.f k a0 = some r) :
    Calls Tryd.prog 32 #[.int .i64 a0] w fun e w' => e = .returned (.string r) ∧ Below w.heap.size w w' := by
  have HB := Aside0.mk (Below.refl w.heap.size w)
  have H : (if a0 = 0 then (some (⟨#[48]⟩ : ByteArray)) else (spec_FormatInt.l0 k a0 (decide (a0 < 0)) (⟨#[]⟩ : ByteArray))) = some r := h
  clear h
  by_cases c2 : a0 = 0
  · rw [if_pos c2] at H
    have c2b0 : (a0 == 0) = true := beq_iff_eq.mpr c2
    have c2b1 : (a0 != 0) = false := bne_eq_false_iff_eq.mpr c2
    clear c2
    obtain rfl := Option.some.inj H
    go_enter Tryd.func32, Tryd.ntmps32
    go_wp2
    go_ret
    exact ⟨by first | rfl | (simp [errW_none, errW_some] <;> rfl) | (simp [*, errW_none, errW_some] <;> rfl), oB HB⟩
  · rw [if_neg c2] at H
    have c2b0 : (a0 == 0) = false := beq_eq_false_iff_ne.mpr c2
    have c2b1 : (a0 != 0) = true := bne_iff_ne.mpr c2
    obtain ⟨bq_, hbq_⟩ : ∃ b, decide (a0 < 0) = b := ⟨_, rfl⟩
    rw [hbq_] at H
    have H' := Aside0.mk H
    clear H
    go_enter Tryd.func32, Tryd.ntmps32
    go_wp2
    go_loopg [0, 4] k (fun kq v0 v4 w' => ∃ (x0_1 : Int) (x4_1 : ByteArray), v0 = .int .i64 x0_1 ∧ v4 = .string x4_1 ∧ Aside0 (spec_FormatInt.l0 kq x0_1 bq_ x4_1 = some r) ∧ Aside0 (kq ≤ k) ∧ Aside0 (Below w.heap.size w w'))
    case atStart => exact ⟨(a0), ((⟨#[]⟩ : ByteArray)), (by first | rfl | (simp; done) | (simp [*]; done)), (by first | rfl | (simp; done) | (simp [*]; done)), H', ⟨Nat.le_refl _⟩, ⟨oB HB⟩⟩
    case round =>
      clear H'
      try clear hbq_
      try clear c2
      try clear c2b0
      try clear c2b1
      try clear p2
      obtain ⟨x0_1, x4_1, rfl, rfl, HA, HK1, HB⟩ := hrel
      cases gk with
      | zero => exact absurd HA.out (by simp [spec_FormatInt.l0])
      | succ k1 =>
        have H := HA.out
        clear HA
        simp only [spec_FormatInt.l0] at H
        by_cases c3 : x0_1 = 0
        · rw [if_pos c3] at H
          have c3b0 : (x0_1 == 0) = true := beq_iff_eq.mpr c3
          have c3b1 : (x0_1 != 0) = false := bne_eq_false_iff_eq.mpr c3
          clear c3
          by_cases c4 : bq_ = true
          · rw [if_pos c4] at H
            subst c4
            by_cases c5 : 1 + x4_1.size ≤ 9223372036854775807
            · rw [if_pos c5] at H
              have c5b0 := eq_true c5
              have c5b1 : decide (1 + x4_1.size ≤ 9223372036854775807) = true := decide_eq_true c5
              try have c5b2 : (9223372036854775807 < 1 + x4_1.size) = False := eq_false (Nat.not_lt.2 c5)
              obtain rfl := Option.some.inj H
              go_wp2
              go_ret
              exact ⟨by first | rfl | (simp [errW_none, errW_some] <;> rfl) | (simp [*, errW_none, errW_some] <;> rfl), oB HB⟩
            · rw [if_neg c5] at H
              exact absurd H (by simp)
          · rw [if_neg c4] at H
            obtain rfl : bq_ = false := by simpa using c4
            obtain rfl := Option.some.inj H
            go_wp2
            go_ret
            exact ⟨by first | rfl | (simp [errW_none, errW_some] <;> rfl) | (simp [*, errW_none, errW_some] <;> rfl), oB HB⟩
        · rw [if_neg c3] at H
          have c3b0 : (x0_1 == 0) = false := beq_eq_false_iff_ne.mpr c3
          have c3b1 : (x0_1 != 0) = true := bne_iff_ne.mpr c3
          by_cases c6 : (Int.tmod x0_1 10) < 0
          · rw [if_pos c6] at H
            have c6b0 : decide ((Int.tmod x0_1 10) < 0) = true := decide_eq_true c6
            clear c6
            replace H := Option.bind_eq_some_iff.mp H
            obtain ⟨t109, A70, H⟩ := H
            (try dsimp only at H)
            have A7 := Aside0.mk A70
            clear A70
            obtain ⟨y110, hy110⟩ : ∃ y_ : List Int, y_ = (([t109] : List Int)) := ⟨_, rfl⟩
            replace H : (if (strOfNums y110).size + x4_1.size ≤ 9223372036854775807 then (spec_FormatInt.l0 k1 (wrap64 (Int.tdiv x0_1 10)) bq_ ((strOfNums y110) ++ x4_1)) else (none)) = some r := by first | (rw [hy110]; with_reducible exact H) | (have H2_ := (Option.bind_some _ _).symm.trans H; rw [hy110]; with_reducible exact H2_) | (have H2_ := (Option.bind_some _ _).symm.trans H; with_reducible exact H2_) | with_reducible exact H | (rw [hy110]; exact H) | exact H
            have Ny110 := Aside0.mk hy110
            clear hy110
            by_cases c8 : (strOfNums y110).size + x4_1.size ≤ 9223372036854775807
            · rw [if_pos c8] at H
              have c8b0 := eq_true c8
              have c8b1 : decide ((strOfNums y110).size + x4_1.size ≤ 9223372036854775807) = true := decide_eq_true c8
              try have c8b2 : (9223372036854775807 < (strOfNums y110).size + x4_1.size) = False := eq_false (Nat.not_lt.2 c8)
              have H' := Aside0.mk H
              clear H
              go_wp2_with (first | ((with_reducible refine gate_callee (f := 59) rfl ?_); refine goesL_ (some 19) rfl rfl Tryd.func59 (by kernel_rfl) rfl #[.int .i64 (wrap64 (-(Int.tmod x0_1 10)))] rfl (by (try simp only [List.map_toArray, List.map_cons, List.map_nil]); first | done | rfl | (simp only [List.length_drop, List.length_take]; rfl)) ?_; (with_reducible refine (spec_l01Figure.calls (wrap64 (-(Int.tmod x0_1 10))) t109 _ A7.out).mono ?_); rintro e w' ⟨rfl, ⟨nd, rfl⟩⟩; refine ⟨_, rfl, ?_⟩) | ((with_reducible refine gate_dst (N := 20) rfl ?_); refine Kd.R_lit (Kd.int .u8) _ 5 ?hg (N := 20) ?hd (xs := ([t109] : List Int)) (inner := [.int .u8 t109]) (ok := fun _ => True) (okp := fun _ => True) ?hr ?hp (fun _ hk => hk) trivial (Below.refl _ _) (Nat.le_refl _) (by simp) ?_; (case hd => rfl); (case hg => rfl); (case hr => first | (go_simp; done) | (go_simp; rfl)); (case hp => exact (Reps.one (show Kd.M (Kd.int .u8) _ _ _ t109 [.int .u8 t109] from rfl) (Reps.none _ _))); intro v111 w9 ho10 hb hg_ hnew_; clear hg_ hnew_; (first | rw [← Ny110.out] at ho10 | (simp only [Int.reduceToNat] at ho10; rw [← Ny110.out] at ho10)); have n0_ := Aside0.mk (Kd.R_lower ho10 (below_size (oB HB))); have n1_ := Aside0.mk (below_step (oB HB) hb); clear HB; have HO112 := n0_; have HB := n1_; clear n0_ n1_; clear hb ho10; have hcv11 := own_string (P := Tryd.prog) Tryd.underlying36 Tryd.underlying5 Tryd.underlying9 (Kd.own_of_R HO112.out)))
              go_roundg k1
              case measure => have := HK1.out; omega
              case rel => exact ⟨(wrap64 (Int.tdiv x0_1 10)), ((strOfNums y110) ++ x4_1), (by first | rfl | (simp; done) | (simp [*]; done)), (by first | rfl | (simp; done) | (simp [*]; done)), H', ⟨by have := HK1.out; omega⟩, ⟨oB HB⟩⟩
            · rw [if_neg c8] at H
              exact absurd H (by simp)
          · rw [if_neg c6] at H
            have c6b0 : decide ((Int.tmod x0_1 10) < 0) = false := decide_eq_false c6
            clear c6
            replace H := Option.bind_eq_some_iff.mp H
            obtain ⟨t113, A120, H⟩ := H
            (try dsimp only at H)
            have A12 := Aside0.mk A120
            clear A120
            obtain ⟨y114, hy114⟩ : ∃ y_ : List Int, y_ = (([t113] : List Int)) := ⟨_, rfl⟩
            replace H : (if (strOfNums y114).size + x4_1.size ≤ 9223372036854775807 then (spec_FormatInt.l0 k1 (wrap64 (Int.tdiv x0_1 10)) bq_ ((strOfNums y114) ++ x4_1)) else (none)) = some r := by first | (rw [hy114]; with_reducible exact H) | (have H2_ := (Option.bind_some _ _).symm.trans H; rw [hy114]; with_reducible exact H2_) | (have H2_ := (Option.bind_some _ _).symm.trans H; with_reducible exact H2_) | with_reducible exact H | (rw [hy114]; exact H) | exact H
            have Ny114 := Aside0.mk hy114
            clear hy114
            by_cases c13 : (strOfNums y114).size + x4_1.size ≤ 9223372036854775807
            · rw [if_pos c13] at H
              have c13b0 := eq_true c13
              have c13b1 : decide ((strOfNums y114).size + x4_1.size ≤ 9223372036854775807) = true := decide_eq_true c13
              try have c13b2 : (9223372036854775807 < (strOfNums y114).size + x4_1.size) = False := eq_false (Nat.not_lt.2 c13)
              have H' := Aside0.mk H
              clear H
              go_wp2_with (first | ((with_reducible refine gate_callee (f := 59) rfl ?_); refine goesL_ (some 19) rfl rfl Tryd.func59 (by kernel_rfl) rfl #[.int .i64 (Int.tmod x0_1 10)] rfl (by (try simp only [List.map_toArray, List.map_cons, List.map_nil]); first | done | rfl | (simp only [List.length_drop, List.length_take]; rfl)) ?_; (with_reducible refine (spec_l01Figure.calls (Int.tmod x0_1 10) t113 _ A12.out).mono ?_); rintro e w' ⟨rfl, ⟨nd, rfl⟩⟩; refine ⟨_, rfl, ?_⟩) | ((with_reducible refine gate_dst (N := 20) rfl ?_); refine Kd.R_lit (Kd.int .u8) _ 5 ?hg (N := 20) ?hd (xs := ([t113] : List Int)) (inner := [.int .u8 t113]) (ok := fun _ => True) (okp := fun _ => True) ?hr ?hp (fun _ hk => hk) trivial (Below.refl _ _) (Nat.le_refl _) (by simp) ?_; (case hd => rfl); (case hg => rfl); (case hr => first | (go_simp; done) | (go_simp; rfl)); (case hp => exact (Reps.one (show Kd.M (Kd.int .u8) _ _ _ t113 [.int .u8 t113] from rfl) (Reps.none _ _))); intro v115 w14 ho15 hb hg_ hnew_; clear hg_ hnew_; (first | rw [← Ny114.out] at ho15 | (simp only [Int.reduceToNat] at ho15; rw [← Ny114.out] at ho15)); have n0_ := Aside0.mk (Kd.R_lower ho15 (below_size (oB HB))); have n1_ := Aside0.mk (below_step (oB HB) hb); clear HB; have HO116 := n0_; have HB := n1_; clear n0_ n1_; clear hb ho15; have hcv16 := own_string (P := Tryd.prog) Tryd.underlying36 Tryd.underlying5 Tryd.underlying9 (Kd.own_of_R HO116.out)))
              go_roundg k1
              case measure => have := HK1.out; omega
              case rel => exact ⟨(wrap64 (Int.tdiv x0_1 10)), ((strOfNums y114) ++ x4_1), (by first | rfl | (simp; done) | (simp [*]; done)), (by first | rfl | (simp; done) | (simp [*]; done)), H', ⟨by have := HK1.out; omega⟩, ⟨oB HB⟩⟩
            · rw [if_neg c13] at H
              exact absurd H (by simp)
end Go.Proofs.YtojiighpkppckaaDoor.P


namespace Go.Proofs.YtojiighpkppckaaDoor.P
open Go.RowKit Go.Proofs.YtojiighpkppckaaDoorW.PrintWords Go.Proofs.YtojiighpkppckaaDoorW.PrintLast Go.Proofs.YtojiighpkppckaaDoorW.PrintMore
attribute [local go_sem] max2_int min2_int max_two min_two max_three min_three max_four min_four
set_option linter.unusedVariables false
set_option linter.unusedSimpArgs false
def spec_l01In.f (a0 : Int) (a1 : Int) (a2 : Int) : Option (Bool) := if a0 ≥ a1 then (some (decide (a0 ≤ a2))) else (some false)
set_option maxHeartbeats 8000000 in
set_option maxRecDepth 100000 in
theorem spec_l01In.calls (a0 : Int) (a1 : Int) (a2 : Int) (r : Bool) (w : World) (h : spec_l01In.f a0 a1 a2 = some r) :
    Calls Tryd.prog 54 #[.int .i64 a0, .int .i64 a1, .int .i64 a2] w fun e w' => e = .returned (.bool r) ∧ Drawn0 w w' := by
  have H : (if a0 ≥ a1 then (some (decide (a0 ≤ a2))) else (some false)) = some r := h
  clear h
  by_cases c4 : a0 ≥ a1
  · rw [if_pos c4] at H
    have c4b0 : decide (a1 ≤ a0) = true := decide_eq_true c4
    clear c4
    obtain rfl := Option.some.inj H
    go_enter Tryd.func54, Tryd.ntmps54
    go_wp2
    go_ret
    exact ⟨by first | rfl | (simp; done) | (simp [*]; done), by repeat (first | exact Drawn0.refl _ | apply Drawn0.step)⟩
  · rw [if_neg c4] at H
    have c4b0 : decide (a1 ≤ a0) = false := decide_eq_false c4
    clear c4
    obtain rfl := Option.some.inj H
    go_enter Tryd.func54, Tryd.ntmps54
    go_wp2
    go_ret
    exact ⟨by first | rfl | (simp; done) | (simp [*]; done), by repeat (first | exact Drawn0.refl _ | apply Drawn0.step)⟩
end Go.Proofs.YtojiighpkppckaaDoor.P


namespace Go.Proofs.YtojiighpkppckaaDoor.P
open Go.RowKit Go.Proofs.YtojiighpkppckaaDoorW.PrintWords Go.Proofs.YtojiighpkppckaaDoorW.PrintLast Go.Proofs.YtojiighpkppckaaDoorW.PrintMore
attribute [local go_sem] max2_int min2_int max_two min_two max_three min_three max_four min_four
set_option linter.unusedVariables false
set_option linter.unusedSimpArgs false
def stepOkS (x : S145) (t : List Bool) : Bool :=
  (decide (x.f2 = 1) || decide (x.f2 = 2)) && (decide (0 ≤ x.f3 ∧ x.f3 ≤ 5000) && (decide (0 ≤ x.f0 ∧ x.f0 ≤ 11) && (decide (0 ≤ x.f1 ∧ x.f1 ≤ 11) && (decide (x.f1 = (x.f0 + 1) % 12) && (t.getD x.f0.toNat false && !t.getD x.f1.toNat false)))))
def planGoS : List S145 → List Bool → Bool
  | [], _ => true
  | x :: r, t => stepOkS x t && planGoS r (t.set x.f1.toNat true)
def planOkS (l : List S145) : Bool := planGoS l (true :: List.replicate 11 false) && decide (l.length ≤ 11)
theorem count_put {t : List Bool} {k : Nat} (hk : k < t.length) (h : t.getD k false = false) : (t.set k true).count true = t.count true + 1 := by
  rw [List.count_set hk]
  simp [List.getD_eq_getElem?_getD, hk] at h
  simp [h]
def spec_PlanOk.f (l0 : List (S145)) : Option (Bool) := some (planOkS l0)
set_option maxHeartbeats 8000000 in
set_option maxRecDepth 100000 in
theorem spec_PlanOk.calls (A0 : Option Addr) (c0 : Nat) (l0 : List (S145)) (r : Bool) (w : World) (hr0 : Kd.C k145 w A0 l0.length l0) (hc0 : l0.length ≤ c0) (h : spec_PlanOk.f l0 = some r) :
    Calls Tryd.prog 102 #[.slice A0 l0.length c0] w fun e w' => e = .returned (.bool r) ∧ Below w.heap.size w w' := by
  have hu67 := Tryd.underlying145
  have H := Option.some.inj h
  clear h
  go_enter Tryd.func102, Tryd.ntmps102
  go_wp2_with (first | ((with_reducible refine gate_dst (N := 6) rfl ?_); refine Kd.R_make Kd.bool _ 4 rfl (N := 6) rfl 174 _ _ rfl 12 rfl rfl Tryd.underlying174 (.bool false) 1 info4 rfl (by decide) (by omega) false (ok := fun _ => True) (okp := fun _ => True) rfl (fun _ hk => hk) trivial (by omega) (by omega) (Below.refl _ _) (Nat.le_refl _) ?_; intro v105 w5 ho6 hb hg_ hnew_; clear hg_ hnew_; have HB := Aside0.mk hb; obtain ⟨go4, co4, eo4, gb4, gl4, cl4, HG4⟩ := Kd.R_form ho6 (by decide); subst eo4; have HO := Aside0.mk ho6; have GB := Aside0.mk gb4; clear ho6 gl4 cl4 HG4 hb gb4; have qi4 : (0 < (List.replicate (Int.toNat 12) false).length) = True := eq_true (by decide); obtain ⟨hx4, hf4⟩ := Kd.R_celln false HO.out (0 : Int) (by omega) (by decide); simp only [Int.toNat_zero] at hx4 hf4))
  go_loopg [4] (l0.length + 1) (fun kq v4 w' => ∃ (i : Nat) (tn : List Bool), v4 = .int .i64 (i : Int) ∧ Aside0 (i + kq = l0.length + 1) ∧ Aside0 (i ≤ l0.length) ∧ Aside0 (tn.length = 12) ∧ Aside0 (tn.count true = i + 1) ∧ Aside0 (Kd.R Kd.bool 4 w' w.heap.size (fun _ => True) (.slice (some ⟨go4, 0, none⟩) 12 co4) tn) ∧ Aside0 ((planGoS (l0.drop i) tn && decide (l0.length ≤ 11)) = r) ∧ Aside0 (Below w.heap.size w w'))
  case atStart =>
    exact ⟨0, true :: List.replicate 11 false, rfl, ⟨by omega⟩, ⟨by omega⟩, ⟨rfl⟩, ⟨by decide⟩, ⟨(Kd.R_putg HO.out (0 : Int) true).1⟩, ⟨by rw [← H]; rfl⟩, ⟨below_set HB.out GB.out⟩⟩
  case round =>
    obtain ⟨i, tn, rfl, HK, HI, HT, HN, HA, HP, HB⟩ := hrel
    clear HO qi4 hx4 hf4
    by_cases hlt : i < l0.length
    rotate_left
    · have hb3 : decide ((i : Int) < (l0.length : Int)) = false := decide_eq_false (by omega)
      have hb4 : decide (i < l0.length) = false := decide_eq_false (by omega)
      have h1 := HP.out
      rw [List.drop_eq_nil_of_le (by omega)] at h1
      by_cases h11 : l0.length ≤ 11
      · obtain rfl : true = r := by rw [← h1]; simp [planGoS, h11]
        have hb5 : decide ((l0.length : Int) ≤ 11) = true := decide_eq_true (by omega)
        have hb6 : decide (l0.length ≤ 11) = true := decide_eq_true (by omega)
        clear h1
        go_wp2
        go_ret
        exact ⟨rfl, HB.out⟩
      · obtain rfl : false = r := by rw [← h1]; simp [planGoS, h11]
        have hb5 : decide ((l0.length : Int) ≤ 11) = false := decide_eq_false (by omega)
        have hb6 : decide (l0.length ≤ 11) = false := decide_eq_false (by omega)
        clear h1
        go_wp2
        go_ret
        exact ⟨rfl, HB.out⟩
    · have hb3 : decide ((i : Int) < (l0.length : Int)) = true := decide_eq_true (by omega)
      have hb4 : decide (i < l0.length) = true := decide_eq_true (by omega)
      obtain ⟨ad, e, hx0, hx1, hx2, hx3⟩ := at_T145 hr0 (i : Int) (by omega) (by omega)
      cases e
      replace hx0 := (HB.out.cell (World.block_lt_of_cell? w _ hx0)).trans hx0
      replace hx1 := (HB.out.cell (World.block_lt_of_cell? w _ hx1)).trans hx1
      replace hx2 := (HB.out.cell (World.block_lt_of_cell? w _ hx2)).trans hx2
      replace hx3 := (HB.out.cell (World.block_lt_of_cell? w _ hx3)).trans hx3
      obtain ⟨x, hx⟩ : ∃ x, rd_T145 l0 (i : Int) = x := ⟨_, rfl⟩
      rw [hx] at hx0 hx1 hx2 hx3
      simp only [Int.toNat_natCast] at hx0 hx1 hx2 hx3
      have hd : (planGoS (l0.drop i) tn && decide (l0.length ≤ 11)) = (stepOkS x tn && (planGoS (l0.drop (i + 1)) (tn.set x.f1.toNat true) && decide (l0.length ≤ 11))) := by
        rw [List.drop_eq_getElem_cons hlt]
        have e0 : l0[i] = x := by rw [← hx]; simp [rd_T145, List.getD_eq_getElem?_getD, hlt]
        rw [e0]; show (stepOkS x tn && planGoS _ _ && _) = _; rw [Bool.and_assoc]
      have HX := Aside0.mk hx
      clear hx
      have HD := Aside0.mk hd
      clear hd
      have win : ∀ (a b c : Int) (d : Bool) (W : World), decide (b ≤ a ∧ a ≤ c) = d → Calls Tryd.prog 54 #[.int .i64 a, .int .i64 b, .int .i64 c] W fun e w' => e = .returned (.bool d) ∧ Drawn0 W w' := fun a b c d W hd =>
        spec_l01In.calls a b c d W (by rw [← hd]; unfold spec_l01In.f; by_cases hh : b ≤ a <;> simp [hh])
      have tc : ∀ k, k < 12 → ∀ o : Obj, (wr.alloc o).cell? ⟨go4, k, none⟩ = some (.bool (tn.getD k false)) := fun k hk o => by
        have h9 := (Kd.R_celln false (Kd.R_alloc HA.out o) (k : Int) (by omega) (by omega)).1
        simpa [rdOf] using h9
      have tf : ∀ k, k < 12 → ∀ o : Obj, (wr.alloc o).frozen? ⟨go4, k, none⟩ = false := fun k hk o => by
        have h9 := (Kd.R_celln false (Kd.R_alloc HA.out o) (k : Int) (by omega) (by omega)).2
        simpa using h9
      by_cases q0 : x.f2 = 1 ∨ x.f2 = 2
      rotate_left
      · have W0 := Aside0.mk fun W => win x.f2 1 2 false W (decide_eq_false (by omega))
        have Q1 := Aside0.mk q0
        clear q0 win tc tf
        go_wp2_with (first | (go_at_call 54; (with_reducible refine (W0.out _).mono ?_); rintro e w' ⟨rfl, ⟨nd, rfl⟩⟩))
        all_goals
          obtain rfl : false = r := by
            rw [← HP.out, HD.out]; have := Q1.out; simp only [not_or] at this; simp [stepOkS, this.1, this.2]
          go_ret
          exact ⟨rfl, by repeat (first | exact HB.out | apply below_alloc | apply pw_below_drewN | apply below_drew1)⟩
      have W0 := Aside0.mk fun W => win x.f2 1 2 true W (decide_eq_true (by omega))
      have Q0 := Aside0.mk q0
      clear q0
      by_cases q1 : 0 ≤ x.f3 ∧ x.f3 ≤ 5000
      rotate_left
      · have W1 := Aside0.mk fun W => win x.f3 0 5000 false W (decide_eq_false q1)
        have Q1 := Aside0.mk q1
        clear q1 win tc tf
        go_wp2_with (first | (go_at_call 54; (with_reducible refine (W0.out _).mono ?_); rintro e w' ⟨rfl, ⟨nd, rfl⟩⟩) | (go_at_call 54; (with_reducible refine (W1.out _).mono ?_); rintro e w' ⟨rfl, ⟨nd, rfl⟩⟩))
        all_goals
          obtain rfl : false = r := by
            rw [← HP.out, HD.out]; simp [stepOkS, Q1.out]
          go_ret
          exact ⟨rfl, by repeat (first | exact HB.out | apply below_alloc | apply pw_below_drewN | apply below_drew1)⟩
      have W1 := Aside0.mk fun W => win x.f3 0 5000 true W (decide_eq_true q1)
      by_cases q2 : 0 ≤ x.f0 ∧ x.f0 ≤ 11
      rotate_left
      · have W2 := Aside0.mk fun W => win x.f0 0 11 false W (decide_eq_false q2)
        have Q1 := Aside0.mk q2
        clear q1 q2 win tc tf
        go_wp2_with (first | (go_at_call 54; (with_reducible refine (W0.out _).mono ?_); rintro e w' ⟨rfl, ⟨nd, rfl⟩⟩) | (go_at_call 54; (with_reducible refine (W1.out _).mono ?_); rintro e w' ⟨rfl, ⟨nd, rfl⟩⟩) | (go_at_call 54; (with_reducible refine (W2.out _).mono ?_); rintro e w' ⟨rfl, ⟨nd, rfl⟩⟩))
        all_goals
          obtain rfl : false = r := by
            rw [← HP.out, HD.out]; simp [stepOkS, Q1.out]
          go_ret
          exact ⟨rfl, by repeat (first | exact HB.out | apply below_alloc | apply pw_below_drewN | apply below_drew1)⟩
      have W2 := Aside0.mk fun W => win x.f0 0 11 true W (decide_eq_true q2)
      clear win
      obtain ⟨q2a, q2b⟩ := q2
      have Q13 := Aside0.mk q1
      clear q1
      by_cases q4 : x.f1 = (x.f0 + 1) % 12
      rotate_left
      · have q4a : (x.f1 == (x.f0 + 1) % 12) = false := beq_eq_false_iff_ne.mpr q4
        have q4b : (x.f1 != (x.f0 + 1) % 12) = true := bne_iff_ne.mpr q4
        have Q4 := Aside0.mk q4
        clear q4 tc tf
        go_wp2_with (first | (go_at_call 54; (with_reducible refine (W0.out _).mono ?_); rintro e w' ⟨rfl, ⟨nd, rfl⟩⟩) | (go_at_call 54; (with_reducible refine (W1.out _).mono ?_); rintro e w' ⟨rfl, ⟨nd, rfl⟩⟩) | (go_at_call 54; (with_reducible refine (W2.out _).mono ?_); rintro e w' ⟨rfl, ⟨nd, rfl⟩⟩))
        all_goals
          obtain rfl : false = r := by
            rw [← HP.out, HD.out]; simp [stepOkS, Q4.out]
          go_ret
          exact ⟨rfl, by repeat (first | exact HB.out | apply below_alloc | apply pw_below_drewN | apply below_drew1)⟩
      have q4a : (x.f1 == (x.f0 + 1) % 12) = true := beq_iff_eq.mpr q4
      have q4b : (x.f1 != (x.f0 + 1) % 12) = false := bne_eq_false_iff_eq.mpr q4
      have q3a : 0 ≤ x.f1 := by omega
      have q3b : x.f1 ≤ 11 := by omega
      have Q4 := Aside0.mk q4
      clear q4
      have hc0 := tc x.f0.toNat (by omega)
      have hc1 := tc x.f1.toNat (by omega)
      have hfz := tf x.f1.toNat (by omega)
      clear tc tf
      obtain ⟨b0, hb0⟩ : ∃ b, tn.getD x.f0.toNat false = b := ⟨_, rfl⟩
      obtain ⟨b1, hb1⟩ : ∃ b, tn.getD x.f1.toNat false = b := ⟨_, rfl⟩
      rw [hb0] at hc0
      rw [hb1] at hc1
      have B0 := Aside0.mk hb0
      have B1 := Aside0.mk hb1
      clear hb0 hb1
      have qa := decide_eq_true q2a
      have qb : decide (x.f0 < 12) = true := decide_eq_true (by omega)
      have qc := decide_eq_true q3a
      have qd : decide (x.f1 < 12) = true := decide_eq_true (by omega)
      go_wp2_with (first | (go_at_call 54; (with_reducible refine (W0.out _).mono ?_); rintro e w' ⟨rfl, ⟨nd, rfl⟩⟩) | (go_at_call 54; (with_reducible refine (W1.out _).mono ?_); rintro e w' ⟨rfl, ⟨nd, rfl⟩⟩) | (go_at_call 54; (with_reducible refine (W2.out _).mono ?_); rintro e w' ⟨rfl, ⟨nd, rfl⟩⟩))
      all_goals first
        | (go_ret
           have e : false = r := by
             have h3 := B0.out; have h4 := B1.out
             rw [← HP.out, HD.out]; unfold stepOkS; rw [h3, h4]; simp [*]
           subst e
           exact ⟨rfl, by repeat (first | exact HB.out | apply below_alloc | apply pw_below_drewN | apply below_drew1)⟩)
        | (go_roundg (gk - 1)
           case measure => have := HK.out; omega
           case rel =>
             have hi : i ≤ 11 := by have h1 := HN.out; have h2 := HT.out; have h3 := @List.count_le_length _ _ true tn; omega
             have hn : (tn.set x.f1.toNat true).count true = i + 1 + 1 := by rw [count_put (by have := HT.out; omega) (by rw [B1.out]; first | assumption | simp [*]), HN.out]
             refine ⟨i + 1, tn.set x.f1.toNat true, by rw [show wrap64 ((i : Int) + 1) = ((i + 1 : Nat) : Int) by unfold wrap64; omega], ⟨by have := HK.out; omega⟩, ⟨by omega⟩, ⟨by rw [List.length_set]; exact HT.out⟩, ⟨hn⟩, ⟨?_⟩, ⟨?_⟩, ⟨?_⟩⟩
             · refine (Kd.R_putg ?_ x.f1 true).1
               with_reducible repeat (first | apply Kd.R_alloc | apply Kd.R_drewN | apply Kd.R_drew)
               exact HA.out
             · rw [← HP.out, HD.out]
               have e : stepOkS x tn = true := by
                 have h0 := Q0.out; have h1 := Q4.out; have h2 := Q13.out; have h3 := B0.out; have h4 := B1.out
                 unfold stepOkS; rw [h3, h4]; simp [*]; omega
               rw [e, Bool.true_and]
             · refine below_set ?_ GB.out
               repeat (first | exact HB.out | apply below_alloc | apply pw_below_drewN | apply below_drew1))
end Go.Proofs.YtojiighpkppckaaDoor.P


namespace Go.Proofs.YtojiighpkppckaaDoor.P
open Go.RowKit Go.Proofs.YtojiighpkppckaaDoorW.PrintWords Go.Proofs.YtojiighpkppckaaDoorW.PrintLast Go.Proofs.YtojiighpkppckaaDoorW.PrintMore
attribute [local go_sem] max2_int min2_int max_two min_two max_three min_three max_four min_four
set_option linter.unusedVariables false
set_option linter.unusedSimpArgs false
def spec_l18Pitch.f (a0 : Int) : Option (Bool) := (spec_l01In.f a0 1 10000000).bind fun t263 => (some t263)
set_option maxHeartbeats 8000000 in
set_option maxRecDepth 100000 in
theorem spec_l18Pitch.calls (a0 : Int) (r : Bool) (w : World) (h : spec_l18Pitch.f a0 = some r) :
    Calls Tryd.prog 104 #[.int .i64 a0] w fun e w' => e = .returned (.bool r) ∧ Drawn0 w w' := by
  have H : ((spec_l01In.f a0 1 10000000).bind fun t263 => (some t263)) = some r := h
  clear h
  replace H := Option.bind_eq_some_iff.mp H
  obtain ⟨t263, A20, H⟩ := H
  (try dsimp only at H)
  have A2 := Aside0.mk A20
  clear A20
  obtain rfl := Option.some.inj H
  go_enter Tryd.func104, Tryd.ntmps104
  go_wp2_with (first | ((with_reducible refine gate_callee (f := 54) rfl ?_); refine goesL_ (some 4) rfl rfl Tryd.func54 (by kernel_rfl) rfl #[.int .i64 a0, .int .i64 1, .int .i64 10000000] rfl (by (try simp only [List.map_toArray, List.map_cons, List.map_nil]); first | done | rfl | (simp only [List.length_drop, List.length_take]; rfl)) ?_; (with_reducible refine (spec_l01In.calls a0 1 10000000 t263 _ A2.out).mono ?_); rintro e w' ⟨rfl, ⟨nd, rfl⟩⟩; refine ⟨_, rfl, ?_⟩))
  go_ret
  exact ⟨by first | rfl | (simp; done) | (simp [*]; done), by repeat (first | exact Drawn0.refl _ | apply Drawn0.step)⟩
end Go.Proofs.YtojiighpkppckaaDoor.P


namespace Go.Proofs.YtojiighpkppckaaDoor.P
open Go.RowKit Go.Proofs.YtojiighpkppckaaDoorW.PrintWords Go.Proofs.YtojiighpkppckaaDoorW.PrintLast Go.Proofs.YtojiighpkppckaaDoorW.PrintMore
attribute [local go_sem] max2_int min2_int max_two min_two max_three min_three max_four min_four
set_option linter.unusedVariables false
set_option linter.unusedSimpArgs false
def spec_l20Step.l0 : Nat → List (S145) → Int → Int → Option (Int)
  | 0, _, _, _ => none
  | k + 1, x0, x1, x5 => if x5 < (x0.length : Int) then (if 0 ≤ x5 then (if ((rd_T145 x0 x5).f1) = x1 then (some x5) else (spec_l20Step.l0 k x0 x1 (wrap64 (x5 + 1)))) else (none)) else (some (-1))
def spec_l20Step.f (k : Nat) (l0 : List (S145)) (a1 : Int) : Option (Int) := spec_l20Step.l0 k l0 a1 0
set_option maxHeartbeats 8000000 in
set_option maxRecDepth 100000 in
theorem spec_l20Step.calls (k : Nat) (A0 : Option Addr) (c0 : Nat) (l0 : List (S145)) (a1 : Int) (r : Int) (w : World) (hr0 : Kd.C k145 w A0 l0.length l0) (hc0 : l0.length ≤ c0) (h : spec_l20Step.f k l0 a1 = some r) :
    Calls Tryd.prog 103 #[.slice A0 l0.length c0, .int .i64 a1] w fun e w' => e = .returned (.int .i64 r) ∧ Drawn0 w w' := by
  have HR0 := Aside0.mk hr0
  have HC0 := Aside0.mk hc0
  clear hr0 hc0
  have H : (spec_l20Step.l0 k l0 a1 0) = some r := h
  clear h
  have H' := Aside0.mk H
  clear H
  go_enter Tryd.func103, Tryd.ntmps103
  go_wp2
  go_loopg [5] k (fun kq v5 w' => ∃ (x5_1 : Int), v5 = .int .i64 x5_1 ∧ Aside0 (spec_l20Step.l0 kq l0 a1 x5_1 = some r) ∧ Aside0 (kq ≤ k) ∧ Drawn0 w w')
  case atStart => exact ⟨(0), (by first | rfl | (simp; done) | (simp [*]; done)), H', ⟨Nat.le_refl _⟩, by repeat (first | exact Drawn0.refl _ | apply Drawn0.step)⟩
  case round =>
    clear H'
    try clear c1
    try clear p2
    obtain ⟨x5_1, rfl, HA, HK1, ⟨m1, rfl⟩⟩ := hrel
    cases gk with
    | zero => exact absurd HA.out (by simp [spec_l20Step.l0])
    | succ k1 =>
      have H := HA.out
      clear HA
      simp only [spec_l20Step.l0] at H
      by_cases c3 : x5_1 < (l0.length : Int)
      · rw [if_pos c3] at H
        have c3b0 : decide (x5_1 < (l0.length : Int)) = true := decide_eq_true c3
        clear c3
        by_cases c4 : 0 ≤ x5_1
        · rw [if_pos c4] at H
          have c4b0 : decide (0 ≤ x5_1) = true := decide_eq_true c4
          clear c4
          by_cases c5 : ((rd_T145 l0 x5_1).f1) = a1
          · rw [if_pos c5] at H
            have c5b0 : (((rd_T145 l0 x5_1).f1) == a1) = true := beq_iff_eq.mpr c5
            have c5b1 : (((rd_T145 l0 x5_1).f1) != a1) = false := bne_eq_false_iff_eq.mpr c5
            clear c5
            obtain rfl := Option.some.inj H
            have p375 : 0 ≤ (x5_1 : Int) := of_decide_eq_true (by first | (with_reducible assumption) | assumption)
            have q375 : x5_1 < (l0.length : Int) := of_decide_eq_true (by first | (with_reducible assumption) | assumption)
            obtain ⟨ad375, e375, hx375_0, hx375_1, hx375_2, hx375_3⟩ := at_T145 HR0.out x5_1 p375 q375
            cases e375
            replace p375 := eq_true p375
            replace q375 := eq_true q375
            go_wp2
            go_ret
            exact ⟨by first | rfl | (simp; done) | (simp [*]; done), by repeat (first | exact Drawn0.refl _ | apply Drawn0.step)⟩
          · rw [if_neg c5] at H
            have c5b0 : (((rd_T145 l0 x5_1).f1) == a1) = false := beq_eq_false_iff_ne.mpr c5
            have c5b1 : (((rd_T145 l0 x5_1).f1) != a1) = true := bne_iff_ne.mpr c5
            have H' := Aside0.mk H
            clear H
            have p375 : 0 ≤ (x5_1 : Int) := of_decide_eq_true (by first | (with_reducible assumption) | assumption)
            have q375 : x5_1 < (l0.length : Int) := of_decide_eq_true (by first | (with_reducible assumption) | assumption)
            obtain ⟨ad375, e375, hx375_0, hx375_1, hx375_2, hx375_3⟩ := at_T145 HR0.out x5_1 p375 q375
            cases e375
            replace p375 := eq_true p375
            replace q375 := eq_true q375
            go_wp2
            go_roundg k1
            case measure => have := HK1.out; omega
            case rel => exact ⟨(wrap64 (x5_1 + 1)), (by first | rfl | (simp; done) | (simp [*]; done)), H', ⟨by have := HK1.out; omega⟩, by repeat (first | exact Drawn0.refl _ | apply Drawn0.step)⟩
        · rw [if_neg c4] at H
          exact absurd H (by simp)
      · rw [if_neg c3] at H
        have c3b0 : decide (x5_1 < (l0.length : Int)) = false := decide_eq_false c3
        clear c3
        obtain rfl := Option.some.inj H
        go_wp2
        go_ret
        exact ⟨by first | rfl | (simp; done) | (simp [*]; done), by repeat (first | exact Drawn0.refl _ | apply Drawn0.step)⟩
end Go.Proofs.YtojiighpkppckaaDoor.P


namespace Go.Proofs.YtojiighpkppckaaDoor.P
open Go.RowKit Go.Proofs.YtojiighpkppckaaDoorW.PrintWords Go.Proofs.YtojiighpkppckaaDoorW.PrintLast Go.Proofs.YtojiighpkppckaaDoorW.PrintMore
attribute [local go_sem] max2_int min2_int max_two min_two max_three min_three max_four min_four
set_option linter.unusedVariables false
set_option linter.unusedSimpArgs false
mutual
def spec_WorkOk.j0 : Nat → Bool → List (S145) → Int → List Int → Option (Bool)
  | 0, _, _, _, _ => none
  | k + 1, x24, x377000, x377001, x377002 => if x24 = true then (some false) else (spec_WorkOk.l0 k 0 x377000 x377001 x377002)
def spec_WorkOk.l0 : Nat → Int → List (S145) → Int → List Int → Option (Bool)
  | 0, _, _, _, _ => none
  | k + 1, x3, x377000, x377001, x377002 => if x3 < 12 then ((spec_l20Step.f k x377000 x3).bind fun t379 => (if x3 = 0 then (if 0 ≤ x3 then (if x3 < (x377002.length : Int) then ((spec_l18Pitch.f (rd x377002 x3)).bind fun t381 => (if t381 = true then (spec_WorkOk.l0 k (wrap64 (x3 + 1)) x377000 x377001 x377002) else (some false))) else (none)) else (none)) else (if t379 ≥ 0 then (if t379 < x377001 then (if 0 ≤ x3 then (if x3 < (x377002.length : Int) then ((spec_l18Pitch.f (rd x377002 x3)).bind fun t383 => (if t383 = true then (spec_WorkOk.l0 k (wrap64 (x3 + 1)) x377000 x377001 x377002) else (some false))) else (none)) else (none)) else (if 0 ≤ x3 then (if x3 < (x377002.length : Int) then (if (rd x377002 x3) = 0 then (spec_WorkOk.l0 k (wrap64 (x3 + 1)) x377000 x377001 x377002) else (some false)) else (none)) else (none))) else (if 0 ≤ x3 then (if x3 < (x377002.length : Int) then (if (rd x377002 x3) = 0 then (spec_WorkOk.l0 k (wrap64 (x3 + 1)) x377000 x377001 x377002) else (some false)) else (none)) else (none))))) else (some true)
end
def spec_WorkOk.f (k : Nat) (l0_0 : List (S145)) (a0_1 : Int) (l0_2 : List Int) : Option (Bool) := (spec_PlanOk.f l0_0).bind fun t377 => (if t377 = true then ((spec_l01In.f a0_1 0 (l0_0.length : Int)).bind fun t378 => (if t378 = true then (spec_WorkOk.j0 k ((l0_2.length : Int) != 12) l0_0 a0_1 l0_2) else (spec_WorkOk.j0 k true l0_0 a0_1 l0_2))) else (spec_WorkOk.j0 k true l0_0 a0_1 l0_2))
set_option maxHeartbeats 8000000 in
set_option maxRecDepth 100000 in
theorem spec_WorkOk.calls (k : Nat) (A0_0 : Option Addr) (c0_0 : Nat) (l0_0 : List (S145)) (a0_1 : Int) (A0_2 : Option Addr) (c0_2 : Nat) (l0_2 : List Int) (r : Bool) (w : World) (hr0_0 : Kd.C k145 w A0_0 l0_0.length l0_0) (hc0_0 : l0_0.length ≤ c0_0) (hr0_2 : Kd.C (Kd.int .i64) w A0_2 l0_2.length l0_2) (hc0_2 : l0_2.length ≤ c0_2) (h : spec_WorkOk.f k l0_0 a0_1 l0_2 = some r) :
    Calls Tryd.prog 73 #[.agg #[.slice A0_0 l0_0.length c0_0, .int .i64 a0_1, .slice A0_2 l0_2.length c0_2]] w fun e w' => e = .returned (.bool r) ∧ Below w.heap.size w w' := by
  have hu41 := Tryd.underlying41
  have HR0_0 := Aside0.mk hr0_0
  have HC0_0 := Aside0.mk hc0_0
  clear hr0_0 hc0_0
  have HR0_2 := Aside0.mk hr0_2
  have HC0_2 := Aside0.mk hc0_2
  clear hr0_2 hc0_2
  have HB := Aside0.mk (Below.refl w.heap.size w)
  have H : ((spec_PlanOk.f l0_0).bind fun t377 => (if t377 = true then ((spec_l01In.f a0_1 0 (l0_0.length : Int)).bind fun t378 => (if t378 = true then (spec_WorkOk.j0 k ((l0_2.length : Int) != 12) l0_0 a0_1 l0_2) else (spec_WorkOk.j0 k true l0_0 a0_1 l0_2))) else (spec_WorkOk.j0 k true l0_0 a0_1 l0_2))) = some r := h
  clear h
  have HC2 := Aside0.mk H
  clear H
  go_enter Tryd.func73, Tryd.ntmps73
  go_upto_region 1 with (first | ((with_reducible refine gate_dst (N := 1) rfl ?_); (try (refine gate_guard (by rfl) ?_; dsimp only)); refine box_event ?hg (N := 1) ?hd (cs := #[.slice A0_0 l0_0.length c0_0, .int .i64 a0_1, .slice A0_2 l0_2.length c0_2]) (t := 41) ?hr ?_; (case hd => rfl); (case hg => rfl); (case hr => first | (go_simp; done) | (go_simp; rfl)); intro gb376 hg w3 hbox hb; have n0_ := Aside0.mk (below_step (oB HB) hb); have n1_ := Aside0.mk (hbox); have n2_ := Aside0.mk ((by rw [hg]; exact (below_size (oB HB)) : w.heap.size ≤ gb376)); have n3_ := Aside0.mk ((by rw [hg]; exact (below_size (oB HB)) : w.heap.size ≤ gb376)); clear HB; have HB := n0_; have BK376 := n1_; have GW376 := n2_; have GE376 := n3_; clear n0_ n1_ n2_ n3_; clear hb hbox hg))
  (try simp only [Act.put, List.setIfInBounds_toArray, List.set_cons_zero, List.set_cons_succ])
  go_cut [24] (fun v24 wc => ∃ (kq : Nat) (x24_1 : Bool), v24 = .bool x24_1 ∧ Aside0 (spec_WorkOk.j0 kq x24_1 l0_0 a0_1 l0_2 = some r) ∧ Aside0 (kq ≤ k) ∧ Aside0 (wc.heap[gb376]? = some (.cells #[(.slice A0_0 l0_0.length c0_0), .int .i64 a0_1, (.slice A0_2 l0_2.length c0_2)] 41 (0, 0))) ∧ Aside0 (Below w.heap.size w wc))
  case first =>
    have H := HC2.out
    clear HC2
    replace H := Option.bind_eq_some_iff.mp H
    obtain ⟨t377, A40, H⟩ := H
    (try dsimp only at H)
    have A4 := Aside0.mk A40
    clear A40
    by_cases c5 : t377 = true
    · subst c5
      rw [if_pos rfl] at H
      replace H := Option.bind_eq_some_iff.mp H
      obtain ⟨t378, A60, H⟩ := H
      (try dsimp only at H)
      have A6 := Aside0.mk A60
      clear A60
      by_cases c7 : t378 = true
      · subst c7
        rw [if_pos rfl] at H
        have H' := Aside0.mk H
        clear H
        have hcz8_0 : w3.cell? ⟨gb376, 0, none⟩ = some (.slice A0_0 l0_0.length c0_0) := (blk_cell BK376.out 0).trans rfl
        have hcz8_1 : w3.cell? ⟨gb376, 1, none⟩ = some (.int .i64 a0_1) := (blk_cell BK376.out 1).trans rfl
        have hcz8_2 : w3.cell? ⟨gb376, 2, none⟩ = some (.slice A0_2 l0_2.length c0_2) := (blk_cell BK376.out 2).trans rfl
        have hfz8_0 := blk_frozen BK376.out 0
        have hfz8_1 := blk_frozen BK376.out 1
        have hfz8_2 := blk_frozen BK376.out 2
        go_wp2_with (first | ((with_reducible refine gate_callee (f := 102) rfl ?_); refine goesL_ (some 8) rfl rfl Tryd.func102 (by kernel_rfl) rfl #[.slice A0_0 l0_0.length c0_0] rfl (by (try simp only [List.map_toArray, List.map_cons, List.map_nil]); first | done | rfl | (simp only [List.length_drop, List.length_take]; rfl)) ?_; (with_reducible refine (spec_PlanOk.calls _ _ l0_0 true _ ?side1 ?side2 A4.out).mono ?_); (case side1 => exact oc_ HR0_0.out); (case side2 => exact HC0_0.out); rintro e w9 ⟨rfl, hb⟩; refine ⟨_, rfl, ?_⟩; have n0_ := Aside0.mk (blk_below (g := gb376) (o := .cells #[.slice A0_0 l0_0.length c0_0, .int .i64 a0_1, .slice A0_2 l0_2.length c0_2] 41 (0, 0)) (oK BK376) hb); have n1_ := Aside0.mk (below_step (oB HB) hb); clear BK376; clear HB; have BK376 := n0_; have HB := n1_; clear n0_ n1_; (try clear hb); (try clear hb2); (try clear hk); (try clear hi); have hcz10_0 : w9.cell? ⟨gb376, 0, none⟩ = some (.slice A0_0 l0_0.length c0_0) := (blk_cell BK376.out 0).trans rfl; have hcz10_1 : w9.cell? ⟨gb376, 1, none⟩ = some (.int .i64 a0_1) := (blk_cell BK376.out 1).trans rfl; have hcz10_2 : w9.cell? ⟨gb376, 2, none⟩ = some (.slice A0_2 l0_2.length c0_2) := (blk_cell BK376.out 2).trans rfl; have hfz10_0 := blk_frozen BK376.out 0; have hfz10_1 := blk_frozen BK376.out 1; have hfz10_2 := blk_frozen BK376.out 2) | (go_at_call 54; (with_reducible refine (spec_l01In.calls a0_1 0 (l0_0.length : Int) true _ A6.out).mono ?_); rintro e w' ⟨rfl, ⟨nd, rfl⟩⟩))
        go_meet
        case rel => exact ⟨_, (((l0_2.length : Int) != 12)), (by first | rfl | (simp; done) | (simp [*]; done)), H', ⟨by first | omega | exact Nat.le_refl _⟩, ⟨oK BK376⟩, ⟨oB HB⟩⟩
      · replace c7 := Bool.eq_false_iff.mpr c7
        subst c7
        rw [if_neg (show ¬ (false = true) by decide)] at H
        have H' := Aside0.mk H
        clear H
        have hcz11_0 : w3.cell? ⟨gb376, 0, none⟩ = some (.slice A0_0 l0_0.length c0_0) := (blk_cell BK376.out 0).trans rfl
        have hcz11_1 : w3.cell? ⟨gb376, 1, none⟩ = some (.int .i64 a0_1) := (blk_cell BK376.out 1).trans rfl
        have hcz11_2 : w3.cell? ⟨gb376, 2, none⟩ = some (.slice A0_2 l0_2.length c0_2) := (blk_cell BK376.out 2).trans rfl
        have hfz11_0 := blk_frozen BK376.out 0
        have hfz11_1 := blk_frozen BK376.out 1
        have hfz11_2 := blk_frozen BK376.out 2
        go_wp2_with (first | ((with_reducible refine gate_callee (f := 102) rfl ?_); refine goesL_ (some 8) rfl rfl Tryd.func102 (by kernel_rfl) rfl #[.slice A0_0 l0_0.length c0_0] rfl (by (try simp only [List.map_toArray, List.map_cons, List.map_nil]); first | done | rfl | (simp only [List.length_drop, List.length_take]; rfl)) ?_; (with_reducible refine (spec_PlanOk.calls _ _ l0_0 true _ ?side1 ?side2 A4.out).mono ?_); (case side1 => exact oc_ HR0_0.out); (case side2 => exact HC0_0.out); rintro e w12 ⟨rfl, hb⟩; refine ⟨_, rfl, ?_⟩; have n0_ := Aside0.mk (blk_below (g := gb376) (o := .cells #[.slice A0_0 l0_0.length c0_0, .int .i64 a0_1, .slice A0_2 l0_2.length c0_2] 41 (0, 0)) (oK BK376) hb); have n1_ := Aside0.mk (below_step (oB HB) hb); clear BK376; clear HB; have BK376 := n0_; have HB := n1_; clear n0_ n1_; (try clear hb); (try clear hb2); (try clear hk); (try clear hi); have hcz13_0 : w12.cell? ⟨gb376, 0, none⟩ = some (.slice A0_0 l0_0.length c0_0) := (blk_cell BK376.out 0).trans rfl; have hcz13_1 : w12.cell? ⟨gb376, 1, none⟩ = some (.int .i64 a0_1) := (blk_cell BK376.out 1).trans rfl; have hcz13_2 : w12.cell? ⟨gb376, 2, none⟩ = some (.slice A0_2 l0_2.length c0_2) := (blk_cell BK376.out 2).trans rfl; have hfz13_0 := blk_frozen BK376.out 0; have hfz13_1 := blk_frozen BK376.out 1; have hfz13_2 := blk_frozen BK376.out 2) | (go_at_call 54; (with_reducible refine (spec_l01In.calls a0_1 0 (l0_0.length : Int) false _ A6.out).mono ?_); rintro e w' ⟨rfl, ⟨nd, rfl⟩⟩))
        go_meet
        case rel => exact ⟨_, (true), (by first | rfl | (simp; done) | (simp [*]; done)), H', ⟨by first | omega | exact Nat.le_refl _⟩, ⟨oK BK376⟩, ⟨oB HB⟩⟩
    · replace c5 := Bool.eq_false_iff.mpr c5
      subst c5
      rw [if_neg (show ¬ (false = true) by decide)] at H
      have H' := Aside0.mk H
      clear H
      have hcz14_0 : w3.cell? ⟨gb376, 0, none⟩ = some (.slice A0_0 l0_0.length c0_0) := (blk_cell BK376.out 0).trans rfl
      have hcz14_1 : w3.cell? ⟨gb376, 1, none⟩ = some (.int .i64 a0_1) := (blk_cell BK376.out 1).trans rfl
      have hcz14_2 : w3.cell? ⟨gb376, 2, none⟩ = some (.slice A0_2 l0_2.length c0_2) := (blk_cell BK376.out 2).trans rfl
      have hfz14_0 := blk_frozen BK376.out 0
      have hfz14_1 := blk_frozen BK376.out 1
      have hfz14_2 := blk_frozen BK376.out 2
      go_wp2_with (first | ((with_reducible refine gate_callee (f := 102) rfl ?_); refine goesL_ (some 8) rfl rfl Tryd.func102 (by kernel_rfl) rfl #[.slice A0_0 l0_0.length c0_0] rfl (by (try simp only [List.map_toArray, List.map_cons, List.map_nil]); first | done | rfl | (simp only [List.length_drop, List.length_take]; rfl)) ?_; (with_reducible refine (spec_PlanOk.calls _ _ l0_0 false _ ?side1 ?side2 A4.out).mono ?_); (case side1 => exact oc_ HR0_0.out); (case side2 => exact HC0_0.out); rintro e w15 ⟨rfl, hb⟩; refine ⟨_, rfl, ?_⟩; have n0_ := Aside0.mk (blk_below (g := gb376) (o := .cells #[.slice A0_0 l0_0.length c0_0, .int .i64 a0_1, .slice A0_2 l0_2.length c0_2] 41 (0, 0)) (oK BK376) hb); have n1_ := Aside0.mk (below_step (oB HB) hb); clear BK376; clear HB; have BK376 := n0_; have HB := n1_; clear n0_ n1_; (try clear hb); (try clear hb2); (try clear hk); (try clear hi)))
      go_meet
      case rel => exact ⟨_, (true), (by first | rfl | (simp; done) | (simp [*]; done)), H', ⟨by first | omega | exact Nat.le_refl _⟩, ⟨oK BK376⟩, ⟨oB HB⟩⟩
  case rest =>
    clear HC2
    try clear c1
    try clear p2
    try clear c5
    try clear c7
    try clear c10
    try clear hcz10_0
    try clear hcz10_1
    try clear hcz10_2
    try clear hcz11_0
    try clear hcz11_1
    try clear hcz11_2
    try clear hcz13_0
    try clear hcz13_1
    try clear hcz13_2
    try clear hcz14_0
    try clear hcz14_1
    try clear hcz14_2
    try clear hcz8_0
    try clear hcz8_1
    try clear hcz8_2
    try clear hfz10_0
    try clear hfz10_1
    try clear hfz10_2
    try clear hfz11_0
    try clear hfz11_1
    try clear hfz11_2
    try clear hfz13_0
    try clear hfz13_1
    try clear hfz13_2
    try clear hfz14_0
    try clear hfz14_1
    try clear hfz14_2
    try clear hfz8_0
    try clear hfz8_1
    try clear hfz8_2
    obtain ⟨kq, x24_1, rfl, HA, HJ1, BK376, HB⟩ := hcut
    cases kq with
    | zero => exact absurd HA.out (by simp [spec_WorkOk.j0])
    | succ kj1 =>
      have H := HA.out
      clear HA
      simp only [spec_WorkOk.j0] at H
      by_cases c16 : x24_1 = true
      · subst c16
        rw [if_pos rfl] at H
        obtain rfl := Option.some.inj H
        go_wp2
        go_ret
        exact ⟨by first | rfl | (simp [errW_none, errW_some] <;> rfl) | (simp [*, errW_none, errW_some] <;> rfl), oB HB⟩
      · replace c16 := Bool.eq_false_iff.mpr c16
        subst c16
        rw [if_neg (show ¬ (false = true) by decide)] at H
        have H' := Aside0.mk H
        clear H
        go_wp2
        go_loopg [3] kj1 (fun kq v3 w' => ∃ (x3_2 : Int), v3 = .int .i64 x3_2 ∧ Aside0 (spec_WorkOk.l0 kq x3_2 l0_0 a0_1 l0_2 = some r) ∧ Aside0 (kq ≤ kj1) ∧ Aside0 (w'.heap[gb376]? = some (.cells #[(.slice A0_0 l0_0.length c0_0), .int .i64 a0_1, (.slice A0_2 l0_2.length c0_2)] 41 (0, 0))) ∧ Aside0 (Below w.heap.size w w'))
        case atStart => exact ⟨(0), (by first | rfl | (simp; done) | (simp [*]; done)), H', ⟨Nat.le_refl _⟩, ⟨oK BK376⟩, ⟨oB HB⟩⟩
        case round =>
          clear H'
          try clear c1
          try clear p2
          try clear c5
          try clear c7
          try clear c10
          try clear c16
          try clear hcz10_0
          try clear hcz10_1
          try clear hcz10_2
          try clear hcz11_0
          try clear hcz11_1
          try clear hcz11_2
          try clear hcz13_0
          try clear hcz13_1
          try clear hcz13_2
          try clear hcz14_0
          try clear hcz14_1
          try clear hcz14_2
          try clear hcz8_0
          try clear hcz8_1
          try clear hcz8_2
          try clear hfz10_0
          try clear hfz10_1
          try clear hfz10_2
          try clear hfz11_0
          try clear hfz11_1
          try clear hfz11_2
          try clear hfz13_0
          try clear hfz13_1
          try clear hfz13_2
          try clear hfz14_0
          try clear hfz14_1
          try clear hfz14_2
          try clear hfz8_0
          try clear hfz8_1
          try clear hfz8_2
          try clear p2
          obtain ⟨x3_2, rfl, HA, HK2, BK376, HB⟩ := hrel
          cases gk with
          | zero => exact absurd HA.out (by simp [spec_WorkOk.l0])
          | succ k2 =>
            have H := HA.out
            clear HA
            simp only [spec_WorkOk.l0] at H
            by_cases c17 : x3_2 < 12
            · rw [if_pos c17] at H
              have c17b0 : decide (x3_2 < 12) = true := decide_eq_true c17
              clear c17
              replace H := Option.bind_eq_some_iff.mp H
              obtain ⟨t379, A180, H⟩ := H
              (try dsimp only at H)
              have A18 := Aside0.mk A180
              clear A180
              by_cases c19 : x3_2 = 0
              · rw [if_pos c19] at H
                have c19b0 : (x3_2 == 0) = true := beq_iff_eq.mpr c19
                have c19b1 : (x3_2 != 0) = false := bne_eq_false_iff_eq.mpr c19
                clear c19
                by_cases c20 : 0 ≤ x3_2
                · rw [if_pos c20] at H
                  have c20b0 : decide (0 ≤ x3_2) = true := decide_eq_true c20
                  clear c20
                  by_cases c21 : x3_2 < (l0_2.length : Int)
                  · rw [if_pos c21] at H
                    have c21b0 : decide (x3_2 < (l0_2.length : Int)) = true := decide_eq_true c21
                    clear c21
                    replace H := Option.bind_eq_some_iff.mp H
                    obtain ⟨t381, A220, H⟩ := H
                    (try dsimp only at H)
                    have A22 := Aside0.mk A220
                    clear A220
                    by_cases c23 : t381 = true
                    · subst c23
                      rw [if_pos rfl] at H
                      have H' := Aside0.mk H
                      clear H
                      have hcz24_0 : wr.cell? ⟨gb376, 0, none⟩ = some (.slice A0_0 l0_0.length c0_0) := (blk_cell BK376.out 0).trans rfl
                      have hcz24_1 : wr.cell? ⟨gb376, 1, none⟩ = some (.int .i64 a0_1) := (blk_cell BK376.out 1).trans rfl
                      have hcz24_2 : wr.cell? ⟨gb376, 2, none⟩ = some (.slice A0_2 l0_2.length c0_2) := (blk_cell BK376.out 2).trans rfl
                      have hfz24_0 := blk_frozen BK376.out 0
                      have hfz24_1 := blk_frozen BK376.out 1
                      have hfz24_2 := blk_frozen BK376.out 2
                      go_wp2_with (first | ((with_reducible refine gate_callee (f := 103) rfl ?_); refine goesL_ (some 32) rfl rfl Tryd.func103 (by kernel_rfl) rfl #[.slice A0_0 l0_0.length c0_0, .int .i64 x3_2] rfl (by (try simp only [List.map_toArray, List.map_cons, List.map_nil]); first | done | rfl | (simp only [List.length_drop, List.length_take]; rfl)) ?_; (with_reducible refine (spec_l20Step.calls k2 _ _ l0_0 x3_2 t379 _ ?side1 ?side2 A18.out).mono ?_); (case side1 => exact oc_ HR0_0.out); (case side2 => exact HC0_0.out); rintro e w' ⟨rfl, ⟨nd, rfl⟩⟩; refine ⟨_, rfl, ?_⟩; have p380 : 0 ≤ (x3_2 : Int) := of_decide_eq_true (by first | (with_reducible assumption) | assumption); have q380 : x3_2 < (l0_2.length : Int) := of_decide_eq_true (by first | (with_reducible assumption) | assumption); obtain ⟨ad380, e380, hx380_0⟩ := Kd.at_int HR0_2.out x3_2 p380 q380; cases e380; replace hx380_0 := (HB.out.cell (World.block_lt_of_cell? w _ hx380_0)).trans hx380_0; replace p380 := eq_true p380; replace q380 := eq_true q380) | (go_at_call 104; (with_reducible refine (spec_l18Pitch.calls (rd l0_2 x3_2) true _ A22.out).mono ?_); rintro e w' ⟨rfl, ⟨nd, rfl⟩⟩))
                      go_roundg k2
                      case measure => have := HJ1.out; have := HK2.out; omega
                      case rel => exact ⟨(wrap64 (x3_2 + 1)), (by first | rfl | (simp; done) | (simp [*]; done)), H', ⟨by have := HJ1.out; have := HK2.out; omega⟩, ⟨oK BK376⟩, ⟨oB HB⟩⟩
                    · replace c23 := Bool.eq_false_iff.mpr c23
                      subst c23
                      rw [if_neg (show ¬ (false = true) by decide)] at H
                      obtain rfl := Option.some.inj H
                      have hcz25_0 : wr.cell? ⟨gb376, 0, none⟩ = some (.slice A0_0 l0_0.length c0_0) := (blk_cell BK376.out 0).trans rfl
                      have hcz25_1 : wr.cell? ⟨gb376, 1, none⟩ = some (.int .i64 a0_1) := (blk_cell BK376.out 1).trans rfl
                      have hcz25_2 : wr.cell? ⟨gb376, 2, none⟩ = some (.slice A0_2 l0_2.length c0_2) := (blk_cell BK376.out 2).trans rfl
                      have hfz25_0 := blk_frozen BK376.out 0
                      have hfz25_1 := blk_frozen BK376.out 1
                      have hfz25_2 := blk_frozen BK376.out 2
                      go_wp2_with (first | ((with_reducible refine gate_callee (f := 103) rfl ?_); refine goesL_ (some 32) rfl rfl Tryd.func103 (by kernel_rfl) rfl #[.slice A0_0 l0_0.length c0_0, .int .i64 x3_2] rfl (by (try simp only [List.map_toArray, List.map_cons, List.map_nil]); first | done | rfl | (simp only [List.length_drop, List.length_take]; rfl)) ?_; (with_reducible refine (spec_l20Step.calls k2 _ _ l0_0 x3_2 t379 _ ?side1 ?side2 A18.out).mono ?_); (case side1 => exact oc_ HR0_0.out); (case side2 => exact HC0_0.out); rintro e w' ⟨rfl, ⟨nd, rfl⟩⟩; refine ⟨_, rfl, ?_⟩; have p380 : 0 ≤ (x3_2 : Int) := of_decide_eq_true (by first | (with_reducible assumption) | assumption); have q380 : x3_2 < (l0_2.length : Int) := of_decide_eq_true (by first | (with_reducible assumption) | assumption); obtain ⟨ad380, e380, hx380_0⟩ := Kd.at_int HR0_2.out x3_2 p380 q380; cases e380; replace hx380_0 := (HB.out.cell (World.block_lt_of_cell? w _ hx380_0)).trans hx380_0; replace p380 := eq_true p380; replace q380 := eq_true q380) | (go_at_call 104; (with_reducible refine (spec_l18Pitch.calls (rd l0_2 x3_2) false _ A22.out).mono ?_); rintro e w' ⟨rfl, ⟨nd, rfl⟩⟩))
                      go_ret
                      exact ⟨by first | rfl | (simp [errW_none, errW_some] <;> rfl) | (simp [*, errW_none, errW_some] <;> rfl), oB HB⟩
                  · rw [if_neg c21] at H
                    exact absurd H (by simp)
                · rw [if_neg c20] at H
                  exact absurd H (by simp)
              · rw [if_neg c19] at H
                have c19b0 : (x3_2 == 0) = false := beq_eq_false_iff_ne.mpr c19
                have c19b1 : (x3_2 != 0) = true := bne_iff_ne.mpr c19
                by_cases c26 : t379 ≥ 0
                · rw [if_pos c26] at H
                  have c26b0 : decide (0 ≤ t379) = true := decide_eq_true c26
                  clear c26
                  by_cases c27 : t379 < a0_1
                  · rw [if_pos c27] at H
                    have c27b0 : decide (t379 < a0_1) = true := decide_eq_true c27
                    clear c27
                    by_cases c28 : 0 ≤ x3_2
                    · rw [if_pos c28] at H
                      have c28b0 : decide (0 ≤ x3_2) = true := decide_eq_true c28
                      clear c28
                      by_cases c29 : x3_2 < (l0_2.length : Int)
                      · rw [if_pos c29] at H
                        have c29b0 : decide (x3_2 < (l0_2.length : Int)) = true := decide_eq_true c29
                        clear c29
                        replace H := Option.bind_eq_some_iff.mp H
                        obtain ⟨t383, A300, H⟩ := H
                        (try dsimp only at H)
                        have A30 := Aside0.mk A300
                        clear A300
                        by_cases c31 : t383 = true
                        · subst c31
                          rw [if_pos rfl] at H
                          have H' := Aside0.mk H
                          clear H
                          have hcz32_0 : wr.cell? ⟨gb376, 0, none⟩ = some (.slice A0_0 l0_0.length c0_0) := (blk_cell BK376.out 0).trans rfl
                          have hcz32_1 : wr.cell? ⟨gb376, 1, none⟩ = some (.int .i64 a0_1) := (blk_cell BK376.out 1).trans rfl
                          have hcz32_2 : wr.cell? ⟨gb376, 2, none⟩ = some (.slice A0_2 l0_2.length c0_2) := (blk_cell BK376.out 2).trans rfl
                          have hfz32_0 := blk_frozen BK376.out 0
                          have hfz32_1 := blk_frozen BK376.out 1
                          have hfz32_2 := blk_frozen BK376.out 2
                          go_wp2_with (first | ((with_reducible refine gate_callee (f := 103) rfl ?_); refine goesL_ (some 32) rfl rfl Tryd.func103 (by kernel_rfl) rfl #[.slice A0_0 l0_0.length c0_0, .int .i64 x3_2] rfl (by (try simp only [List.map_toArray, List.map_cons, List.map_nil]); first | done | rfl | (simp only [List.length_drop, List.length_take]; rfl)) ?_; (with_reducible refine (spec_l20Step.calls k2 _ _ l0_0 x3_2 t379 _ ?side1 ?side2 A18.out).mono ?_); (case side1 => exact oc_ HR0_0.out); (case side2 => exact HC0_0.out); rintro e w' ⟨rfl, ⟨nd, rfl⟩⟩; refine ⟨_, rfl, ?_⟩; have p382 : 0 ≤ (x3_2 : Int) := of_decide_eq_true (by first | (with_reducible assumption) | assumption); have q382 : x3_2 < (l0_2.length : Int) := of_decide_eq_true (by first | (with_reducible assumption) | assumption); obtain ⟨ad382, e382, hx382_0⟩ := Kd.at_int HR0_2.out x3_2 p382 q382; cases e382; replace hx382_0 := (HB.out.cell (World.block_lt_of_cell? w _ hx382_0)).trans hx382_0; replace p382 := eq_true p382; replace q382 := eq_true q382) | (go_at_call 104; (with_reducible refine (spec_l18Pitch.calls (rd l0_2 x3_2) true _ A30.out).mono ?_); rintro e w' ⟨rfl, ⟨nd, rfl⟩⟩))
                          go_roundg k2
                          case measure => have := HJ1.out; have := HK2.out; omega
                          case rel => exact ⟨(wrap64 (x3_2 + 1)), (by first | rfl | (simp; done) | (simp [*]; done)), H', ⟨by have := HJ1.out; have := HK2.out; omega⟩, ⟨oK BK376⟩, ⟨oB HB⟩⟩
                        · replace c31 := Bool.eq_false_iff.mpr c31
                          subst c31
                          rw [if_neg (show ¬ (false = true) by decide)] at H
                          obtain rfl := Option.some.inj H
                          have hcz33_0 : wr.cell? ⟨gb376, 0, none⟩ = some (.slice A0_0 l0_0.length c0_0) := (blk_cell BK376.out 0).trans rfl
                          have hcz33_1 : wr.cell? ⟨gb376, 1, none⟩ = some (.int .i64 a0_1) := (blk_cell BK376.out 1).trans rfl
                          have hcz33_2 : wr.cell? ⟨gb376, 2, none⟩ = some (.slice A0_2 l0_2.length c0_2) := (blk_cell BK376.out 2).trans rfl
                          have hfz33_0 := blk_frozen BK376.out 0
                          have hfz33_1 := blk_frozen BK376.out 1
                          have hfz33_2 := blk_frozen BK376.out 2
                          go_wp2_with (first | ((with_reducible refine gate_callee (f := 103) rfl ?_); refine goesL_ (some 32) rfl rfl Tryd.func103 (by kernel_rfl) rfl #[.slice A0_0 l0_0.length c0_0, .int .i64 x3_2] rfl (by (try simp only [List.map_toArray, List.map_cons, List.map_nil]); first | done | rfl | (simp only [List.length_drop, List.length_take]; rfl)) ?_; (with_reducible refine (spec_l20Step.calls k2 _ _ l0_0 x3_2 t379 _ ?side1 ?side2 A18.out).mono ?_); (case side1 => exact oc_ HR0_0.out); (case side2 => exact HC0_0.out); rintro e w' ⟨rfl, ⟨nd, rfl⟩⟩; refine ⟨_, rfl, ?_⟩; have p382 : 0 ≤ (x3_2 : Int) := of_decide_eq_true (by first | (with_reducible assumption) | assumption); have q382 : x3_2 < (l0_2.length : Int) := of_decide_eq_true (by first | (with_reducible assumption) | assumption); obtain ⟨ad382, e382, hx382_0⟩ := Kd.at_int HR0_2.out x3_2 p382 q382; cases e382; replace hx382_0 := (HB.out.cell (World.block_lt_of_cell? w _ hx382_0)).trans hx382_0; replace p382 := eq_true p382; replace q382 := eq_true q382) | (go_at_call 104; (with_reducible refine (spec_l18Pitch.calls (rd l0_2 x3_2) false _ A30.out).mono ?_); rintro e w' ⟨rfl, ⟨nd, rfl⟩⟩))
                          go_ret
                          exact ⟨by first | rfl | (simp [errW_none, errW_some] <;> rfl) | (simp [*, errW_none, errW_some] <;> rfl), oB HB⟩
                      · rw [if_neg c29] at H
                        exact absurd H (by simp)
                    · rw [if_neg c28] at H
                      exact absurd H (by simp)
                  · rw [if_neg c27] at H
                    have c27b0 : decide (t379 < a0_1) = false := decide_eq_false c27
                    clear c27
                    by_cases c34 : 0 ≤ x3_2
                    · rw [if_pos c34] at H
                      have c34b0 : decide (0 ≤ x3_2) = true := decide_eq_true c34
                      clear c34
                      by_cases c35 : x3_2 < (l0_2.length : Int)
                      · rw [if_pos c35] at H
                        have c35b0 : decide (x3_2 < (l0_2.length : Int)) = true := decide_eq_true c35
                        clear c35
                        by_cases c36 : (rd l0_2 x3_2) = 0
                        · rw [if_pos c36] at H
                          have c36b0 : ((rd l0_2 x3_2) == 0) = true := beq_iff_eq.mpr c36
                          have c36b1 : ((rd l0_2 x3_2) != 0) = false := bne_eq_false_iff_eq.mpr c36
                          clear c36
                          have H' := Aside0.mk H
                          clear H
                          have hcz37_0 : wr.cell? ⟨gb376, 0, none⟩ = some (.slice A0_0 l0_0.length c0_0) := (blk_cell BK376.out 0).trans rfl
                          have hcz37_1 : wr.cell? ⟨gb376, 1, none⟩ = some (.int .i64 a0_1) := (blk_cell BK376.out 1).trans rfl
                          have hcz37_2 : wr.cell? ⟨gb376, 2, none⟩ = some (.slice A0_2 l0_2.length c0_2) := (blk_cell BK376.out 2).trans rfl
                          have hfz37_0 := blk_frozen BK376.out 0
                          have hfz37_1 := blk_frozen BK376.out 1
                          have hfz37_2 := blk_frozen BK376.out 2
                          go_wp2_with (first | ((with_reducible refine gate_callee (f := 103) rfl ?_); refine goesL_ (some 32) rfl rfl Tryd.func103 (by kernel_rfl) rfl #[.slice A0_0 l0_0.length c0_0, .int .i64 x3_2] rfl (by (try simp only [List.map_toArray, List.map_cons, List.map_nil]); first | done | rfl | (simp only [List.length_drop, List.length_take]; rfl)) ?_; (with_reducible refine (spec_l20Step.calls k2 _ _ l0_0 x3_2 t379 _ ?side1 ?side2 A18.out).mono ?_); (case side1 => exact oc_ HR0_0.out); (case side2 => exact HC0_0.out); rintro e w' ⟨rfl, ⟨nd, rfl⟩⟩; refine ⟨_, rfl, ?_⟩; have p384 : 0 ≤ (x3_2 : Int) := of_decide_eq_true (by first | (with_reducible assumption) | assumption); have q384 : x3_2 < (l0_2.length : Int) := of_decide_eq_true (by first | (with_reducible assumption) | assumption); obtain ⟨ad384, e384, hx384_0⟩ := Kd.at_int HR0_2.out x3_2 p384 q384; cases e384; replace hx384_0 := (HB.out.cell (World.block_lt_of_cell? w _ hx384_0)).trans hx384_0; replace p384 := eq_true p384; replace q384 := eq_true q384))
                          go_roundg k2
                          case measure => have := HJ1.out; have := HK2.out; omega
                          case rel => exact ⟨(wrap64 (x3_2 + 1)), (by first | rfl | (simp; done) | (simp [*]; done)), H', ⟨by have := HJ1.out; have := HK2.out; omega⟩, ⟨oK BK376⟩, ⟨oB HB⟩⟩
                        · rw [if_neg c36] at H
                          have c36b0 : ((rd l0_2 x3_2) == 0) = false := beq_eq_false_iff_ne.mpr c36
                          have c36b1 : ((rd l0_2 x3_2) != 0) = true := bne_iff_ne.mpr c36
                          obtain rfl := Option.some.inj H
                          have hcz38_0 : wr.cell? ⟨gb376, 0, none⟩ = some (.slice A0_0 l0_0.length c0_0) := (blk_cell BK376.out 0).trans rfl
                          have hcz38_1 : wr.cell? ⟨gb376, 1, none⟩ = some (.int .i64 a0_1) := (blk_cell BK376.out 1).trans rfl
                          have hcz38_2 : wr.cell? ⟨gb376, 2, none⟩ = some (.slice A0_2 l0_2.length c0_2) := (blk_cell BK376.out 2).trans rfl
                          have hfz38_0 := blk_frozen BK376.out 0
                          have hfz38_1 := blk_frozen BK376.out 1
                          have hfz38_2 := blk_frozen BK376.out 2
                          go_wp2_with (first | ((with_reducible refine gate_callee (f := 103) rfl ?_); refine goesL_ (some 32) rfl rfl Tryd.func103 (by kernel_rfl) rfl #[.slice A0_0 l0_0.length c0_0, .int .i64 x3_2] rfl (by (try simp only [List.map_toArray, List.map_cons, List.map_nil]); first | done | rfl | (simp only [List.length_drop, List.length_take]; rfl)) ?_; (with_reducible refine (spec_l20Step.calls k2 _ _ l0_0 x3_2 t379 _ ?side1 ?side2 A18.out).mono ?_); (case side1 => exact oc_ HR0_0.out); (case side2 => exact HC0_0.out); rintro e w' ⟨rfl, ⟨nd, rfl⟩⟩; refine ⟨_, rfl, ?_⟩; have p384 : 0 ≤ (x3_2 : Int) := of_decide_eq_true (by first | (with_reducible assumption) | assumption); have q384 : x3_2 < (l0_2.length : Int) := of_decide_eq_true (by first | (with_reducible assumption) | assumption); obtain ⟨ad384, e384, hx384_0⟩ := Kd.at_int HR0_2.out x3_2 p384 q384; cases e384; replace hx384_0 := (HB.out.cell (World.block_lt_of_cell? w _ hx384_0)).trans hx384_0; replace p384 := eq_true p384; replace q384 := eq_true q384))
                          go_ret
                          exact ⟨by first | rfl | (simp [errW_none, errW_some] <;> rfl) | (simp [*, errW_none, errW_some] <;> rfl), oB HB⟩
                      · rw [if_neg c35] at H
                        exact absurd H (by simp)
                    · rw [if_neg c34] at H
                      exact absurd H (by simp)
                · rw [if_neg c26] at H
                  have c26b0 : decide (0 ≤ t379) = false := decide_eq_false c26
                  clear c26
                  by_cases c39 : 0 ≤ x3_2
                  · rw [if_pos c39] at H
                    have c39b0 : decide (0 ≤ x3_2) = true := decide_eq_true c39
                    clear c39
                    by_cases c40 : x3_2 < (l0_2.length : Int)
                    · rw [if_pos c40] at H
                      have c40b0 : decide (x3_2 < (l0_2.length : Int)) = true := decide_eq_true c40
                      clear c40
                      by_cases c41 : (rd l0_2 x3_2) = 0
                      · rw [if_pos c41] at H
                        have c41b0 : ((rd l0_2 x3_2) == 0) = true := beq_iff_eq.mpr c41
                        have c41b1 : ((rd l0_2 x3_2) != 0) = false := bne_eq_false_iff_eq.mpr c41
                        clear c41
                        have H' := Aside0.mk H
                        clear H
                        have hcz42_0 : wr.cell? ⟨gb376, 0, none⟩ = some (.slice A0_0 l0_0.length c0_0) := (blk_cell BK376.out 0).trans rfl
                        have hcz42_1 : wr.cell? ⟨gb376, 1, none⟩ = some (.int .i64 a0_1) := (blk_cell BK376.out 1).trans rfl
                        have hcz42_2 : wr.cell? ⟨gb376, 2, none⟩ = some (.slice A0_2 l0_2.length c0_2) := (blk_cell BK376.out 2).trans rfl
                        have hfz42_0 := blk_frozen BK376.out 0
                        have hfz42_1 := blk_frozen BK376.out 1
                        have hfz42_2 := blk_frozen BK376.out 2
                        go_wp2_with (first | ((with_reducible refine gate_callee (f := 103) rfl ?_); refine goesL_ (some 32) rfl rfl Tryd.func103 (by kernel_rfl) rfl #[.slice A0_0 l0_0.length c0_0, .int .i64 x3_2] rfl (by (try simp only [List.map_toArray, List.map_cons, List.map_nil]); first | done | rfl | (simp only [List.length_drop, List.length_take]; rfl)) ?_; (with_reducible refine (spec_l20Step.calls k2 _ _ l0_0 x3_2 t379 _ ?side1 ?side2 A18.out).mono ?_); (case side1 => exact oc_ HR0_0.out); (case side2 => exact HC0_0.out); rintro e w' ⟨rfl, ⟨nd, rfl⟩⟩; refine ⟨_, rfl, ?_⟩; have p385 : 0 ≤ (x3_2 : Int) := of_decide_eq_true (by first | (with_reducible assumption) | assumption); have q385 : x3_2 < (l0_2.length : Int) := of_decide_eq_true (by first | (with_reducible assumption) | assumption); obtain ⟨ad385, e385, hx385_0⟩ := Kd.at_int HR0_2.out x3_2 p385 q385; cases e385; replace hx385_0 := (HB.out.cell (World.block_lt_of_cell? w _ hx385_0)).trans hx385_0; replace p385 := eq_true p385; replace q385 := eq_true q385))
                        go_roundg k2
                        case measure => have := HJ1.out; have := HK2.out; omega
                        case rel => exact ⟨(wrap64 (x3_2 + 1)), (by first | rfl | (simp; done) | (simp [*]; done)), H', ⟨by have := HJ1.out; have := HK2.out; omega⟩, ⟨oK BK376⟩, ⟨oB HB⟩⟩
                      · rw [if_neg c41] at H
                        have c41b0 : ((rd l0_2 x3_2) == 0) = false := beq_eq_false_iff_ne.mpr c41
                        have c41b1 : ((rd l0_2 x3_2) != 0) = true := bne_iff_ne.mpr c41
                        obtain rfl := Option.some.inj H
                        have hcz43_0 : wr.cell? ⟨gb376, 0, none⟩ = some (.slice A0_0 l0_0.length c0_0) := (blk_cell BK376.out 0).trans rfl
                        have hcz43_1 : wr.cell? ⟨gb376, 1, none⟩ = some (.int .i64 a0_1) := (blk_cell BK376.out 1).trans rfl
                        have hcz43_2 : wr.cell? ⟨gb376, 2, none⟩ = some (.slice A0_2 l0_2.length c0_2) := (blk_cell BK376.out 2).trans rfl
                        have hfz43_0 := blk_frozen BK376.out 0
                        have hfz43_1 := blk_frozen BK376.out 1
                        have hfz43_2 := blk_frozen BK376.out 2
                        go_wp2_with (first | ((with_reducible refine gate_callee (f := 103) rfl ?_); refine goesL_ (some 32) rfl rfl Tryd.func103 (by kernel_rfl) rfl #[.slice A0_0 l0_0.length c0_0, .int .i64 x3_2] rfl (by (try simp only [List.map_toArray, List.map_cons, List.map_nil]); first | done | rfl | (simp only [List.length_drop, List.length_take]; rfl)) ?_; (with_reducible refine (spec_l20Step.calls k2 _ _ l0_0 x3_2 t379 _ ?side1 ?side2 A18.out).mono ?_); (case side1 => exact oc_ HR0_0.out); (case side2 => exact HC0_0.out); rintro e w' ⟨rfl, ⟨nd, rfl⟩⟩; refine ⟨_, rfl, ?_⟩; have p385 : 0 ≤ (x3_2 : Int) := of_decide_eq_true (by first | (with_reducible assumption) | assumption); have q385 : x3_2 < (l0_2.length : Int) := of_decide_eq_true (by first | (with_reducible assumption) | assumption); obtain ⟨ad385, e385, hx385_0⟩ := Kd.at_int HR0_2.out x3_2 p385 q385; cases e385; replace hx385_0 := (HB.out.cell (World.block_lt_of_cell? w _ hx385_0)).trans hx385_0; replace p385 := eq_true p385; replace q385 := eq_true q385))
                        go_ret
                        exact ⟨by first | rfl | (simp [errW_none, errW_some] <;> rfl) | (simp [*, errW_none, errW_some] <;> rfl), oB HB⟩
                    · rw [if_neg c40] at H
                      exact absurd H (by simp)
                  · rw [if_neg c39] at H
                    exact absurd H (by simp)
            · rw [if_neg c17] at H
              have c17b0 : decide (x3_2 < 12) = false := decide_eq_false c17
              clear c17
              obtain rfl := Option.some.inj H
              go_wp2
              go_ret
              exact ⟨by first | rfl | (simp [errW_none, errW_some] <;> rfl) | (simp [*, errW_none, errW_some] <;> rfl), oB HB⟩
end Go.Proofs.YtojiighpkppckaaDoor.P

