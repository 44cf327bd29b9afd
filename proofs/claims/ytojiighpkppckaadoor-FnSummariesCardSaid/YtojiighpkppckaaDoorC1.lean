/- What functions of the program come to (f), that their calls come to just this (calls), and the plain laws over lists and numbers. No condition but those of the given row. -/
import Derived.Test.YtojiighpkppckaaDoorC0
import Derived.Test.YtojiighpkppckaaDoorProg
import Derived.Below
import Derived.Deep.Draws
import Derived.Deep.AppendLies
import Derived.Maps.AppendAt
import Derived.OwnWalk
import Derived.Laws.BytesArg
import Derived.Laws.MakeOwn
import Derived.Laws.OwnMore
import Derived.Deep.OwnRows
import Derived.Tactics
import Derived.Lib.ConvBytes
import Derived.Laws.Slices
import Derived.WalkKit
import Derived.KernelRfl
import Derived.RowKit3
import Derived.Deep.LoopGhost
import Derived.Deep.QuietTactic
import Derived.BigQuiet
import Derived.WideLaws
import Derived.Deep.DeepCutAuto
import Derived.Deep.CutBlock
import Derived.Deep.RegionHeld3
import Derived.Laws.Rows
import Derived.Lib.AppendStr
import Derived.ArgAppend
import Derived.Laws.IdiomCopy
import Derived.OrdersHeld
import Derived.Laws.BitsLemmas
import Derived.RowKit
import Derived.Lib.AppendIntMem
import Derived.Shelf.Strconv.Itoa3
import Derived.Shelf.Strings.BuilderK
import Derived.Shelf.Strings.OnBuilder
namespace Go.Proofs.YtojiighpkppckaaDoor.P
open Go.RowKit Go.Proofs.YtojiighpkppckaaDoorW.PrintWords Go.Proofs.YtojiighpkppckaaDoorW.PrintLast Go.Proofs.YtojiighpkppckaaDoorW.PrintMore
attribute [local go_sem] max2_int min2_int max_two min_two max_three min_three max_four min_four
set_option linter.unusedVariables false
set_option linter.unusedSimpArgs false
def errW : Option Int → Value
 | none => .nilIface
 | some c => .iface 153 (.int .i64 c)
theorem errW_none : errW none = .nilIface := rfl
theorem errW_some (c : Int) : errW (some c) = .iface 153 (.int .i64 c) := rfl
theorem info3 : (Tryd.prog.info? 3).map (fun i => (i.zero, i.size, i.bytes)) = some (some (.int .i64 0), 1, 8) := by kernel_rfl
theorem info4 : (Tryd.prog.info? 4).map (fun i => (i.zero, i.size, i.bytes)) = some (some (.bool false), 1, 1) := by kernel_rfl
theorem info9 : (Tryd.prog.info? 9).map (fun i => (i.zero, i.size, i.bytes)) = some (some (.string ⟨#[]⟩), 1, 16) := by kernel_rfl
theorem info26 : (Tryd.prog.info? 26).map (fun i => (i.zero, i.size, i.bytes)) = some (some (.agg #[(.int .i64 0), (.int .i64 0), (.int .i64 0), (.int .i64 0)]), 4, 32) := by kernel_rfl
theorem info85 : (Tryd.prog.info? 85).map (fun i => (i.zero, i.size, i.bytes)) = some (some (.agg #[(.int .i64 0), (.int .i64 0), (.int .i64 0), (.int .i64 0)]), 4, 32) := by kernel_rfl
theorem info145 : (Tryd.prog.info? 145).map (fun i => (i.zero, i.size, i.bytes)) = some (some (.agg #[(.int .i64 0), (.int .i64 0), (.int .i64 0), (.int .i64 0)]), 4, 32) := by kernel_rfl
structure S26 where
 f0 : Int
 f1 : Int
 f2 : Int
 f3 : Int
def k26 : Kd S26 := Kd.iso (Kd.pair (Kd.int .i64) (Kd.pair (Kd.int .i64) (Kd.pair (Kd.int .i64) (Kd.int .i64)))) (fun x : S26 => (x.f0, x.f1, x.f2, x.f3))
theorem k26_mkM (w : World) (base : Nat) (ok : Nat → Prop) (x : S26)  : k26.M w base ok x [.int .i64 x.f0, .int .i64 x.f1, .int .i64 x.f2, .int .i64 x.f3] := ⟨[.int .i64 x.f0], [.int .i64 x.f1, .int .i64 x.f2, .int .i64 x.f3], rfl, rfl, ⟨[.int .i64 x.f1], [.int .i64 x.f2, .int .i64 x.f3], rfl, rfl, ⟨[.int .i64 x.f2], [.int .i64 x.f3], rfl, rfl, rfl⟩⟩⟩
structure S145 where
 f0 : Int
 f1 : Int
 f2 : Int
 f3 : Int
def z145 : S145 := ⟨(0 : Int), (0 : Int), (0 : Int), (0 : Int)⟩
def k145 : Kd S145 := Kd.iso (Kd.pair (Kd.int .i64) (Kd.pair (Kd.int .i64) (Kd.pair (Kd.int .i64) (Kd.int .i64)))) (fun x : S145 => (x.f0, x.f1, x.f2, x.f3))
theorem k145_open {w : World} {x : S145} {cs : List Value} (h : k145.K w x cs) : cs = [.int .i64 x.f0, .int .i64 x.f1, .int .i64 x.f2, .int .i64 x.f3] := by
 obtain ⟨_, _, rfl, rfl, ⟨_, _, rfl, rfl, ⟨_, _, rfl, rfl, rfl⟩⟩⟩ := h
 exact rfl
theorem k145_openM {w : World} {base : Nat} {ok : Nat → Prop} {x : S145} {cs : List Value} (h : k145.M w base ok x cs) : cs = [.int .i64 x.f0, .int .i64 x.f1, .int .i64 x.f2, .int .i64 x.f3] := by
 obtain ⟨_, _, rfl, rfl, ⟨_, _, rfl, rfl, ⟨_, _, rfl, rfl, rfl⟩⟩⟩ := h
 exact rfl
theorem k145_mkM (w : World) (base : Nat) (ok : Nat → Prop) (x : S145)  : k145.M w base ok x [.int .i64 x.f0, .int .i64 x.f1, .int .i64 x.f2, .int .i64 x.f3] := ⟨[.int .i64 x.f0], [.int .i64 x.f1, .int .i64 x.f2, .int .i64 x.f3], rfl, rfl, ⟨[.int .i64 x.f1], [.int .i64 x.f2, .int .i64 x.f3], rfl, rfl, ⟨[.int .i64 x.f2], [.int .i64 x.f3], rfl, rfl, rfl⟩⟩⟩
def rd_T145 (xs : List S145) (i : Int) : S145 := xs.getD i.toNat z145
theorem at_T145 {w : World} {A : Option Addr} {n : Nat} {xs : List S145} (h : Kd.C k145 w A n xs) (i : Int) (h0 : 0 ≤ i) (h1 : i < n) : ∃ ad , A = some ad ∧ w.cell? (ad.add (i.toNat * 4)) = some (.int .i64 (rd_T145 xs i).f0) ∧ w.cell? ⟨(ad.add (i.toNat * 4)).block, (ad.add (i.toNat * 4)).off + 1, none⟩ = some (.int .i64 (rd_T145 xs i).f1) ∧ w.cell? ⟨(ad.add (i.toNat * 4)).block, (ad.add (i.toNat * 4)).off + 2, none⟩ = some (.int .i64 (rd_T145 xs i).f2) ∧ w.cell? ⟨(ad.add (i.toNat * 4)).block, (ad.add (i.toNat * 4)).off + 3, none⟩ = some (.int .i64 (rd_T145 xs i).f3) := by
 obtain ⟨ad, c, e, _, hK, hc0⟩ := Kd.C_get h z145 i h0 h1
 have hc : ∀ j u, c[j]? = some u → w.cell? (ad.add (i.toNat * 4 + j)) = some u := hc0
 obtain rfl := k145_open hK
 exact ⟨ad, e, hc 0 _ rfl, by rw [← add_field _ _ 1 (by omega)]; exact hc 1 _ rfl, by rw [← add_field _ _ 2 (by omega)]; exact hc 2 _ rfl, by rw [← add_field _ _ 3 (by omega)]; exact hc 3 _ rfl⟩
structure S83 where
 f0 : Int
 f1 : Int
def z83 : S83 := ⟨(0 : Int), (0 : Int)⟩
def k83 : Kd S83 := Kd.iso (Kd.pair (Kd.int .i64) (Kd.int .i64)) (fun x : S83 => (x.f0, x.f1))
theorem k83_open {w : World} {x : S83} {cs : List Value} (h : k83.K w x cs) : cs = [.int .i64 x.f0, .int .i64 x.f1] := by
 obtain ⟨_, _, rfl, rfl, rfl⟩ := h
 exact rfl
theorem k83_mkM (w : World) (base : Nat) (ok : Nat → Prop) (x : S83)  : k83.M w base ok x [.int .i64 x.f0, .int .i64 x.f1] := ⟨[.int .i64 x.f0], [.int .i64 x.f1], rfl, rfl, rfl⟩
structure S85 where
 f0 : S83
 f1 : Int
 f2 : Int
def z85 : S85 := ⟨z83, (0 : Int), (0 : Int)⟩
def k85 : Kd S85 := Kd.iso (Kd.pair k83 (Kd.pair (Kd.int .i64) (Kd.int .i64))) (fun x : S85 => (x.f0, x.f1, x.f2))
theorem k85_open {w : World} {x : S85} {cs : List Value} (h : k85.K w x cs) : cs = [.int .i64 x.f0.f0, .int .i64 x.f0.f1, .int .i64 x.f1, .int .i64 x.f2] := by
 obtain ⟨_, _, rfl, s0, ⟨_, _, rfl, rfl, rfl⟩⟩ := h
 obtain rfl := k83_open s0
 exact rfl
theorem k85_mkM (w : World) (base : Nat) (ok : Nat → Prop) (x : S85)  : k85.M w base ok x [.int .i64 x.f0.f0, .int .i64 x.f0.f1, .int .i64 x.f1, .int .i64 x.f2] := ⟨[.int .i64 x.f0.f0, .int .i64 x.f0.f1], [.int .i64 x.f1, .int .i64 x.f2], rfl, (k83_mkM w base ok x.f0 ), ⟨[.int .i64 x.f1], [.int .i64 x.f2], rfl, rfl, rfl⟩⟩
def rd_T85 (xs : List S85) (i : Int) : S85 := xs.getD i.toNat z85
theorem at_T85 {w : World} {A : Option Addr} {n : Nat} {xs : List S85} (h : Kd.C k85 w A n xs) (i : Int) (h0 : 0 ≤ i) (h1 : i < n) : ∃ ad , A = some ad ∧ w.cell? (ad.add (i.toNat * 4)) = some (.int .i64 (rd_T85 xs i).f0.f0) ∧ w.cell? ⟨(ad.add (i.toNat * 4)).block, (ad.add (i.toNat * 4)).off + 1, none⟩ = some (.int .i64 (rd_T85 xs i).f0.f1) ∧ w.cell? ⟨(ad.add (i.toNat * 4)).block, (ad.add (i.toNat * 4)).off + 2, none⟩ = some (.int .i64 (rd_T85 xs i).f1) ∧ w.cell? ⟨(ad.add (i.toNat * 4)).block, (ad.add (i.toNat * 4)).off + 3, none⟩ = some (.int .i64 (rd_T85 xs i).f2) := by
 obtain ⟨ad, c, e, _, hK, hc0⟩ := Kd.C_get h z85 i h0 h1
 have hc : ∀ j u, c[j]? = some u → w.cell? (ad.add (i.toNat * 4 + j)) = some u := hc0
 obtain rfl := k85_open hK
 exact ⟨ad, e, hc 0 _ rfl, by rw [← add_field _ _ 1 (by omega)]; exact hc 1 _ rfl, by rw [← add_field _ _ 2 (by omega)]; exact hc 2 _ rfl, by rw [← add_field _ _ 3 (by omega)]; exact hc 3 _ rfl⟩
end Go.Proofs.YtojiighpkppckaaDoor.P
namespace Go.Proofs.YtojiighpkppckaaDoorW.PrintLast
open Go.RowKit Go.Proofs.YtojiighpkppckaaDoorW.PrintWords
set_option linter.unusedVariables false
section
variable {P : Program} {ops : Array Oper} {Q : Exit → Act → World → Prop} {md : Region.Mode} {S : World → Prop} {ds : List Nat} {T : Bool × List (List Nat × List Nat)} {B : List Nat} {oi oj : Oper} {v : Value} {fuel : Nat} {l l' lj : Array Bool} {a a' : Act} {w : World}
theorem pA (i : Nat) (N : Option Tmp) (HT : rtab md ops = T) (h : wpAnyLast P md ops Q S ds fuel l' a' w) (hi : ops[i]? = some oi := by rfl) (hN : oi.dst = N := by rfl)
    (hl : l.setIfInBounds i true = l' := by simp only [List.setIfInBounds_toArray, List.set_cons_zero, List.set_cons_succ]; rfl) (hc : anyT T l.toList l'.toList i = true := by kernel_rfl)
    (hQ : ∀ c a w, Q (.panic c) (a.put oi.dst v) w → Q (.panic c) a w := by exact fun _ _ _ h => h) (hw : Region.wanted oi (yielded ops a.tmps) = true := by rfl)
    (hy : ∀ w', (execOp a.eval oi).run P w' = .ok (.value v) w' := by intro w'; go_simp; with_reducible rfl) (ha : a.put N v = a' := by simp only [Act.put, List.setIfInBounds_toArray, List.set_cons_zero, List.set_cons_succ, i64_w, i32_w]; rfl) :
    wpAnyLast P md ops Q S ds (fuel + 1) l a w := pure_ l' hi hN (any_of HT hc) hQ (Or.inl ⟨hw, hy⟩) ha h
theorem pU (i : Nat) (N : Option Tmp) (HT : rtab md ops = T) (h : wpAnyLast P md ops Q S ds fuel l' a' w) (hi : ops[i]? = some oi := by rfl) (hN : oi.dst = N := by rfl)
    (hl : l.setIfInBounds i true = l' := by simp only [List.setIfInBounds_toArray, List.set_cons_zero, List.set_cons_succ]; rfl) (hc : anyT T l.toList l'.toList i = true := by kernel_rfl)
    (hQ : ∀ c a w, Q (.panic c) (a.put oi.dst undef) w → Q (.panic c) a w := by exact fun _ _ _ h => h) (hw : Region.wanted oi (yielded ops a.tmps) = false := by rfl)
    (ha : a.put N undef = a' := by simp only [Act.put, List.setIfInBounds_toArray, List.set_cons_zero, List.set_cons_succ, i64_w, i32_w]; rfl) :
    wpAnyLast P md ops Q S ds (fuel + 1) l a w := pure_ (v := undef) l' hi hN (any_of HT hc) hQ (Or.inr ⟨hw, rfl⟩) ha h
theorem pT (i : Nat) (N : Option Tmp) (HT : rtab md ops = T) (HW : waitsOk T.2 B = true) (hS : S w) (h : wpAnyLast P md ops Q S ds fuel l' a' w) (hi : ops[i]? = some oi := by rfl) (hN : oi.dst = N := by rfl)
    (hl : l.setIfInBounds i true = l' := by simp only [List.setIfInBounds_toArray, List.set_cons_zero, List.set_cons_succ]; rfl) (hc : takeW T B ds l.toList l'.toList i = true := by kernel_rfl)
    (hQ : ∀ c a w, Q (.panic c) (a.put oi.dst v) w → Q (.panic c) a w := by exact fun _ _ _ h => h) (hw : Region.wanted oi (yielded ops a.tmps) = true := by rfl)
    (hy : ∀ w', S w' → (execOp a.eval oi).run P w' = .ok (.value v) w' := by intro w' s_; (try dsimp only at s_); repeat (have := s_.1; replace s_ := s_.2); go_simp; with_reducible rfl) (ha : a.put N v = a' := by simp only [Act.put, List.setIfInBounds_toArray, List.set_cons_zero, List.set_cons_succ, i64_w, i32_w]; rfl) :
    wpAnyLast P md ops Q S ds (fuel + 1) l a w := take_ l' hi hN (take_ofW HT HW hc) hQ (Or.inl ⟨hw, hy⟩) hS ha h
theorem gL {rest : List Oper} {f : FuncId} {fn : Func} {os : Array Operand} {ts : Array TypeId} (N : Option Tmp) (hf : P.funcs[f]? = some fn) (args : Array Value)
    (h : Calls P f args w fun e w' => ∃ v, e = .returned v ∧ wpList P ops Q rest (a.put N v) w') (hd : oi.dst = N := by rfl) (hg : oi.guard = none := by rfl) (hname : (fn.name == "runtime.NumGoroutine") = false := by kernel_rfl) (hb : fn.body.isSome = true := by rfl)
    (hop : oi.op = .call { callee := .value (.func f), args := os, argTypes := ts } := by rfl) (hargs : os.map a.eval = args := by (try simp only [List.map_toArray, List.map_cons, List.map_nil]); first | done | rfl | (simp only [List.length_drop, List.length_take]; rfl)) :
    wpList P ops Q (oi :: rest) a w := goesL_ N hd hg hf hname hb args hop hargs h
end
end Go.Proofs.YtojiighpkppckaaDoorW.PrintLast
namespace Go.Proofs.YtojiighpkppckaaDoor.P
open Go.RowKit Go.Proofs.YtojiighpkppckaaDoorW.PrintWords Go.Proofs.YtojiighpkppckaaDoorW.PrintLast Go.Proofs.YtojiighpkppckaaDoorW.PrintMore
theorem oKe {w W W' : World} {g : Nat} {row : Option Nat} (h : Aside0 (KeepBut w W g row)) (k : KeepBut w W g row → KeepBut w W' g row := by intro h_; repeat (first | (with_reducible first | exact h_ | apply KeepBut.set_ | apply keep_drewN | apply keep_drew | apply keep_alloc | refine keep_far ?_ (Aside0.out (self := by assumption)) _) | exact h_)) : KeepBut w W' g row := k h.out
theorem nB {p q : Prop} (h : p) (k : p → q := by intro h_; first | exact h_ | (rw [add_block]; exact h_) | (show (Addr.add _ _).block ≠ _; rw [add_block]; exact h_) | (dsimp only; exact h_)) : q := k h
theorem nD {w : World} {a : Addr} {v : Value} {g : Nat} {q : Prop} (h : w.cell? a = some v) (hg : w.heap.size ≤ g) (k : a.block ≠ g → q := by intro h_; first | exact h_ | (rw [add_block] at h_; exact h_) | (rw [add_block]; first | exact h_ | (rw [add_block] at h_; exact h_)) | (show (Addr.add _ _).block ≠ _; rw [add_block]; first | exact h_ | (rw [add_block] at h_; exact h_)) | (dsimp only; first | exact h_ | (rw [add_block] at h_; exact h_))) : q := k (Nat.ne_of_lt (Nat.lt_of_lt_of_le (World.block_lt_of_cell? _ _ h) hg))
theorem cF {w W : World} {a : Addr} {g : Nat} {v : Option Value} (hn : a.block ≠ g) (h : w.cell? a = v) (k : a.block ≠ g → w.cell? a = v → W.cell? a = v := by intro n_ h_; repeat (first | (with_reducible exact h_) | refine (cell_far (p := ⟨_, _, none⟩) n_ _).trans ?_)) : W.cell? a = v := k hn h
theorem nL {w W : World} {g g2 : Nat} {o : Obj} (_h : Aside0 (w.heap[g]? = some o)) (hg : g2 = W.heap.size) [k : Aside0 (W.heap[g]? = some o)] : g ≠ g2 := by rw [hg]; exact Nat.ne_of_lt (blk_lt k.out)
theorem nG {w W : World} {g g2 : Nat} {o : Obj} (_h : Aside0 (w.heap[g]? = some o)) (hg : g2 = W.heap.size) [k : Aside0 (W.heap[g]? = some o)] : g2 ≠ g := by rw [hg]; exact Nat.ne_of_gt (blk_lt k.out)
theorem bb {w W W1 : World} {g : Nat} {o : Obj} (_h : Aside0 (w.heap[g]? = some o)) (hb : Below W.heap.size W W1) [k : Aside0 (W.heap[g]? = some o)] : W1.heap[g]? = some o := blk_below k.out hb
theorem bg {w W W1 : World} {g : Nat} {o : Obj} {row : Option Nat} (_h : Aside0 (w.heap[g]? = some o)) (hw : W.grownBy W1 row) (hne : some g ≠ row) [k : Aside0 (W.heap[g]? = some o)] : W1.heap[g]? = some o := blk_grown k.out hw hne
theorem cz {w : World} {g : Nat} {cs : Array Value} {t : TypeId} {v : Value} (h : Aside0 (w.heap[g]? = some (.cells cs t (0, 0)))) (i : Nat) (e : cs[i]? = some v := by (simp only [List.getElem?_toArray, List.getElem?_cons_zero, List.getElem?_cons_succ]); try rfl) : w.cell? ⟨g, i, none⟩ = some v := (blk_cell h.out i).trans e
theorem A_ {p : Prop} (h : p) : Aside0 p := ⟨h⟩
theorem eR {p : Prop} (h : p := by first | rfl | (simp [errW_none, errW_some] <;> rfl) | (simp [*, errW_none, errW_some] <;> rfl)) : p := h
theorem bX {P : Program} {ops : Array Oper} {rest : List Oper} {o : Oper} {a : Act} {Q : Exit → Act → World → Prop} {W : World} {N : Tmp} {cs : Array Value} {t : TypeId} (h : ∀ g, g = W.heap.size → ∀ w1, w1.heap[g]? = some (.cells cs t (0, 0)) → Below W.heap.size W w1 → wpList P ops Q rest (a.put o.dst (.pointer (some ⟨g, 0, none⟩))) w1)
    (hgd : o.guard = none := by rfl) (hd : o.dst = some N := by rfl) (hrun : (execOp a.eval o).run P W = .ok (.value (.pointer (some ⟨W.heap.size, 0, none⟩))) (W.alloc (.cells cs t (0, 0))) := by first | (go_simp; done) | (go_simp; rfl)) : wpList P ops Q (o :: rest) a W := box_event hgd hd hrun h
end Go.Proofs.YtojiighpkppckaaDoor.P


namespace Go.Proofs.YtojiighpkppckaaDoor.V
set_option linter.unusedVariables false
open Go.RowKit Go.Proofs.YtojiighpkppckaaDoorW.PrintWords
class From (w0 W : World) : Prop where out : Below w0.heap.size w0 W
class Bel (w : outParam World) (W : World) : Prop where out : Below w.heap.size w W
class Born (w : outParam World) (g : Nat) : Prop where out : g = w.heap.size
class Blk (W : World) (g : Nat) (cs : outParam (Array Value)) (t : outParam TypeId) : Prop where out : W.heap[g]? = some (.cells cs t (0, 0))
class Sz (w0 W : World) : Prop where out : w0.heap.size ≤ W.heap.size
class Nw (w0 : World) (g : Nat) : Prop where out : w0.heap.size ≤ g
class NeB (g g' : Nat) : Prop where out : g ≠ g'
class LeI (n c : Nat) : Prop where out : n ≤ c
class RdE {α : Type} (d : Kd α) (w0 : outParam World) (A : Option Addr) (xs : outParam (List α)) : Prop where out : d.C w0 A xs.length xs
class Rd {α : Type} (d : Kd α) (W : World) (A : Option Addr) (xs : List α) : Prop where out : d.C W A xs.length xs
class RowE {α : Type} (d : Kd α) (e : outParam Nat) (w1 w2 : outParam World) (A : Option Addr) (c : outParam Nat) (xs : outParam (List α)) : Prop where out : d.R e w2 w1.heap.size (fun _ => True) (.slice A xs.length c) xs
class Keep (w1 w2 W : World) : Prop where out : ∀ k, w1.heap.size ≤ k → k < w2.heap.size → W.heap[k]? = w2.heap[k]?
class Off (w1 w2 : World) (g : Nat) : Prop where out : g < w1.heap.size ∨ w2.heap.size ≤ g
section
variable {w0 w1 w2 w W W' : World} {g g' : Nat} {cs cs' : Array Value} {t t' : TypeId} {o : Obj} {n i : Nat} {v : Value}
instance : From w w := ⟨Below.refl _ _⟩
instance [h : From w0 W] : From w0 (W.alloc o) := ⟨below_alloc h.out _⟩
instance [h : From w0 W] : From w0 W.drew := ⟨below_drew1 h.out⟩
instance [h : From w0 W] : From w0 (W.drewN n) := ⟨pw_below_drewN h.out _⟩
instance [h : From w0 W] [hg : Nw w0 g] : From w0 (W.setCell ⟨g, i, none⟩ v) := ⟨below_set h.out hg.out⟩
instance [h : Bel w W] [k : From w0 w] : From w0 W := ⟨below_step k.out h.out⟩
instance : Sz w w := ⟨Nat.le_refl _⟩
instance [h : Sz w0 W] : Sz w0 (W.alloc o) := ⟨Nat.le_trans h.out (by simp)⟩
instance [h : Sz w0 W] : Sz w0 W.drew := ⟨h.out⟩
instance [h : Sz w0 W] : Sz w0 (W.drewN n) := ⟨h.out⟩
instance {p : Addr} [h : Sz w0 W] : Sz w0 (W.setCell p v) := ⟨by simpa using h.out⟩
instance [h : Bel w W] [k : Sz w0 w] : Sz w0 W := ⟨Nat.le_trans k.out h.out.size⟩
instance [h : Born W g] [k : Sz w0 W] : Nw w0 g := ⟨by rw [h.out]; exact k.out⟩
instance [h : Blk W g cs t] : Blk (W.alloc o) g cs t := ⟨blk_alloc h.out _⟩
instance [h : Blk W g cs t] : Blk W.drew g cs t := ⟨h.out⟩
instance [h : Blk W g cs t] : Blk (W.drewN n) g cs t := ⟨h.out⟩
instance [h : Blk W g cs t] [k : NeB g g'] : Blk (W.setCell ⟨g', i, none⟩ v) g cs t := ⟨blk_far h.out k.out _⟩
instance [h : Blk W g cs t] : Blk (W.setCell ⟨g, i, none⟩ v) g (cs.setIfInBounds i v) t := ⟨blk_set h.out _ _⟩
instance [h : Bel w W] [k : Blk w g cs t] : Blk W g cs t := ⟨blk_below k.out h.out⟩
instance [h : Born W g'] [k : Blk W g cs t] : NeB g g' := ⟨by rw [h.out]; exact Nat.ne_of_lt (blk_lt k.out)⟩
instance [h : Born W g] [k : Blk W g' cs t] : NeB g g' := ⟨by rw [h.out]; exact Nat.ne_of_gt (blk_lt k.out)⟩
theorem cell_b (W : World) (g i : Nat) [h : Blk W g cs t] : W.cell? ⟨g, i, none⟩ = cs[i]? := blk_cell h.out i
theorem frozen_b (W : World) (g i : Nat) [h : Blk W g cs t] : W.frozen? ⟨g, i, none⟩ = false := blk_frozen h.out i
instance : Keep w1 w2 w2 := ⟨fun _ _ _ => rfl⟩
theorem keep_lt (h : Keep w1 w2 W) {k : Nat} (h1 : w1.heap.size ≤ k) (h2 : k < w2.heap.size) : k < W.heap.size := by
  have := h.out k h1 h2
  rw [Array.getElem?_eq_getElem h2] at this
  exact (Array.getElem?_eq_some_iff.1 this).1
instance [h : Keep w1 w2 W] : Keep w1 w2 (W.alloc o) := ⟨fun k h1 h2 => (Below.heap_alloc W o k (keep_lt h h1 h2)).trans (h.out k h1 h2)⟩
instance [h : Keep w1 w2 W] : Keep w1 w2 W.drew := ⟨h.out⟩
instance [h : Keep w1 w2 W] : Keep w1 w2 (W.drewN n) := ⟨h.out⟩
instance [h : Bel w W] [k : Keep w1 w2 w] : Keep w1 w2 W := ⟨fun j h1 h2 => (h.out.block j (keep_lt k h1 h2)).trans (k.out j h1 h2)⟩
instance [h : Keep w1 w2 W] [k : Off w1 w2 g] : Keep w1 w2 (W.setCell ⟨g, i, none⟩ v) := ⟨fun j h1 h2 => (Below.heap_setCell W _ v j (by have := k.out; show j ≠ g; omega)).trans (h.out j h1 h2)⟩
instance [h : Blk w1 g cs t] : Off w1 w2 g := ⟨.inl (blk_lt h.out)⟩
instance [h : Nw w2 g] : Off w1 w2 g := ⟨.inr h.out⟩
section
variable {α : Type} {d : Kd α} {e : Nat} {A : Option Addr} {c : Nat} {xs : List α}
instance [h : RdE d w0 A xs] [k : From w0 W] : Rd d W A xs := ⟨Kd.C_below h.out k.out⟩
theorem row_ [h : RowE d e w1 w2 A c xs] [k : Keep w1 w2 W] : d.R e W w1.heap.size (fun _ => True) (.slice A xs.length c) xs :=
  Kd.R_mono (Kd.R_move (Kd.R_bound h.out) (fun j hj => k.out j hj.2.1 hj.2.2.1)) (fun _ _ => trivial)
theorem rowRd [h : RowE d e w1 w2 A c xs] [k : Keep w1 w2 W] : d.C W A xs.length xs := (Kd.R_reads' (row_ (h := h) (k := k))).2.2
instance [h : RowE d e w1 w2 A c xs] [k : Keep w1 w2 W] : Rd d W A xs := ⟨rowRd (h := h) (k := k)⟩
theorem rowLe (h : RowE d e w1 w2 A c xs) : xs.length ≤ c := (Kd.R_reads' h.out).2.1
theorem rowFin [h : RowE d e w1 w2 A c xs] [k : Keep w1 w2 W] [l : From w w1] : d.R e W w.heap.size (fun _ => True) (.slice A xs.length c) xs := Kd.R_lower (row_ (h := h) (k := k)) l.out.size
end
class Sin (w0 : outParam World) (W : World) : Prop where out : Below w0.heap.size w0 W
instance {w0 w W : World} [h : Sin w0 W] [k : Sz w w0] : Sz w W := ⟨Nat.le_trans k.out h.out.size⟩
instance {w0 w W : World} [h : Sin w0 W] [k : From w w0] : From w W := ⟨below_step k.out h.out⟩
instance {w0 W : World} {g : Nat} {cs : Array Value} {t : TypeId} [h : Sin w0 W] [k : Blk w0 g cs t] : Blk W g cs t := ⟨blk_below k.out h.out⟩
instance {w0 w1 w2 W : World} [h : Sin w0 W] [k : Keep w1 w2 w0] : Keep w1 w2 W := ⟨fun j h1 h2 => (h.out.block j (keep_lt k h1 h2)).trans (k.out j h1 h2)⟩
class SinB (B : outParam Nat) (w0 : outParam World) (W : World) : Prop where out : B ≤ w0.heap.size ∧ Below B w0 W
class LtB (g B : Nat) : Prop where out : g < B
class FromB (B : Nat) (w0 W : World) : Prop where out : B ≤ w0.heap.size ∧ Below B w0 W
section
variable {w0 w W W1 : World} {g g' B i n : Nat} {cs : Array Value} {t : TypeId} {o : Obj} {v : Value}
instance [h : Born W g'] [k : Blk W g cs t] : LtB g g' := ⟨by rw [h.out]; exact blk_lt k.out⟩
instance [h : SinB B w0 W] [k : Blk w0 g cs t] [l : LtB g B] : Blk W g cs t := ⟨(h.out.2.block g l.out).trans k.out⟩
instance [h : SinB B w0 W] [k : Sz w w0] : Sz w W := ⟨Nat.le_trans k.out h.out.2.size⟩
instance [h : SinB B w0 W] [k : From w w0] [l : Nw w B] : From w W := ⟨below_weaken k.out l.out h.out.2⟩
instance [k : Blk w0 g cs t] : FromB g w0 w0 := ⟨⟨Nat.le_of_lt (blk_lt k.out), Below.refl _ _⟩⟩
instance [h : FromB B w0 W] : FromB B w0 (W.alloc o) := ⟨⟨h.out.1, h.out.2.alloc (Nat.le_trans h.out.1 h.out.2.size) _⟩⟩
instance [h : FromB B w0 W] : FromB B w0 W.drew := ⟨⟨h.out.1, h.out.2.drew⟩⟩
instance [h : FromB B w0 W] : FromB B w0 (W.drewN n) := ⟨⟨h.out.1, pw_below_drewN h.out.2 _⟩⟩
instance [k : Bel w W] [h : FromB B w0 w] : FromB B w0 W := ⟨⟨h.out.1, below_then h.out.2 (Nat.le_trans h.out.1 h.out.2.size) k.out⟩⟩
instance [h : FromB g w0 W] : FromB g w0 (W.setCell ⟨g, i, none⟩ v) := ⟨⟨h.out.1, h.out.2.setCell (Nat.le_refl _) _⟩⟩
instance [h : FromB B w0 W] [l : LtB B g'] : FromB B w0 (W.setCell ⟨g', i, none⟩ v) := ⟨⟨h.out.1, h.out.2.setCell (Nat.le_of_lt l.out) _⟩⟩
instance [k : SinB B w0 W] : FromB B w0 W := ⟨k.out⟩
end
theorem region_st {P : Program} {id : Nat} {ops : Array Oper} {Q : Exit → Act → World → Prop} {a : Act} {W : World} (N : Nat) {g : Nat} (hp : a.tmps.getD N undef = .pointer (some ⟨g, 0, none⟩))
    (h : ∀ g', g' = g → ∀ w3, Bel W w3 → (Code.region id ops true).wp P Q a w3) : (Code.region id ops true).wp P Q a W := h g rfl W ⟨Below.refl _ _⟩
theorem region_at {P : Program} {id : Nat} {ops : Array Oper} {Q : Exit → Act → World → Prop} {a : Act} {W : World} (h : ∀ w3, Bel W w3 → (Code.region id ops true).wp P Q a w3) : (Code.region id ops true).wp P Q a W := h W ⟨Below.refl _ _⟩
class Mk (W : outParam World) (W' : World) (w1 w2 : outParam World) : Prop where out : Kept W W' (fun k => w1.heap.size ≤ k ∧ k < w2.heap.size)
class Dis (a b w1 w2 : World) : Prop where out : b.heap.size ≤ w1.heap.size ∨ w2.heap.size ≤ a.heap.size
section
variable {a b w1 w2 W W' : World} {g : Nat} {cs : Array Value} {t : TypeId}
instance [h : Sz b w1] : Dis a b w1 w2 := ⟨.inl h.out⟩
instance [h : Sz w2 a] : Dis a b w1 w2 := ⟨.inr h.out⟩
instance {w0 : World} [m : Mk W W' a b] [h : Sz w0 W] : Sz w0 W' := ⟨Nat.le_trans h.out m.out.1⟩
instance [m : Mk W W' a b] [h : Keep w1 w2 W] [d : Dis a b w1 w2] : Keep w1 w2 W' :=
  ⟨fun k h1 h2 => (m.out.2 k (keep_lt h h1 h2) (fun hk => by have := d.out; omega)).trans (h.out k h1 h2)⟩
instance [m : Mk W W' a b] [h : Blk W g cs t] [d : Off a b g] : Blk W' g cs t := ⟨(m.out.2 g (blk_lt h.out) (fun hk => by have := d.out; omega)).trans h.out⟩
end
theorem none_some {α : Type} {r : α} (h : none = some r) : False := by cases h
theorem ite_some {α : Type} {c : Prop} [Decidable c] {x y : Option α} {r : α} (h : (if c then x else y) = some r) : (c ∧ x = some r) ∨ (¬ c ∧ y = some r) := by
  by_cases hc : c
  · exact .inl ⟨hc, by rwa [if_pos hc] at h⟩
  · exact .inr ⟨hc, by rwa [if_neg hc] at h⟩
end
end Go.Proofs.YtojiighpkppckaaDoor.V


namespace Go.Proofs.YtojiighpkppckaaDoor.P
open Go.RowKit Go.Proofs.YtojiighpkppckaaDoorW.PrintWords Go.Proofs.YtojiighpkppckaaDoor.V
abbrev Tab (w : World) : Prop := Go.Lib.TabIs Tryd.prog w "internal/strconv.uint64pow10" .u64 Go.Lib.pow10Tab
theorem tab_on {w W : World} (h : Tab w) (hb : Below w.heap.size w W) : Tab W := Go.Lib.tabBelow_of_tabIs h W hb
end Go.Proofs.YtojiighpkppckaaDoor.P


namespace Go.Proofs.YtojiighpkppckaaDoor.P
open Go.Shelf
def st171_ren : Go.Shelf.Ren := ⟨fun | 171 => 41 | 243 => 70 | 246 => 101 | 283 => 123 | 284 => 124 | 285 => 125 | 286 => 126 | 129 => 140 | 317 => 139 | 318 => 141 | 319 => 142 | 320 => 143 | 337 => 151 | 338 => 152 | n => n, fun | 3 => 3 | 9 => 9 | 2 => 2 | 4 => 4 | 171 => 168 | 0 => 0 | 53 => 169 | 37 => 36 | 5 => 5 | 173 => 172 | 212 => 192 | 51 => 193 | 20 => 20 | 213 => 194 | 46 => 167 | 232 => 204 | 233 => 205 | n => n, fun | 17 => 2 | 18 => 4 | 19 => 5 | n => n⟩
theorem st171 : Go.Proofs.LaysM.n171 Tryd.prog st171_ren := {
  mixed := by kernel_rfl
  f129 := Tryd.func140.trans (congrArg some (by kernel_rfl))
  f171 := Tryd.func41.trans (congrArg some (by kernel_rfl))
  f243 := Tryd.func70.trans (congrArg some (by kernel_rfl))
  f246 := Tryd.func101.trans (congrArg some (by kernel_rfl))
  f283 := Tryd.func123.trans (congrArg some (by kernel_rfl))
  f284 := Tryd.func124.trans (congrArg some (by kernel_rfl))
  f285 := Tryd.func125.trans (congrArg some (by kernel_rfl))
  f286 := Tryd.func126.trans (congrArg some (by kernel_rfl))
  f317 := Tryd.func139.trans (congrArg some (by kernel_rfl))
  f318 := Tryd.func141.trans (congrArg some (by kernel_rfl))
  f319 := Tryd.func142.trans (congrArg some (by kernel_rfl))
  f320 := Tryd.func143.trans (congrArg some (by kernel_rfl))
  f337 := Tryd.func151.trans (congrArg some (by kernel_rfl))
  f338 := Tryd.func152.trans (congrArg some (by kernel_rfl))
  t0 := Tryd.underlying0
  a0 := Tryd.isAgg0
  z0 := Tryd.sizeOf0
  v0 := Tryd.zeroValue0
  t2 := Tryd.underlying2
  a2 := Tryd.isAgg2
  z2 := Tryd.sizeOf2
  v2 := Tryd.zeroValue2
  t3 := Tryd.underlying3
  a3 := Tryd.isAgg3
  z3 := Tryd.sizeOf3
  v3 := Tryd.zeroValue3
  t4 := Tryd.underlying4
  a4 := Tryd.isAgg4
  z4 := Tryd.sizeOf4
  v4 := Tryd.zeroValue4
  t5 := Tryd.underlying5
  a5 := Tryd.isAgg5
  z5 := Tryd.sizeOf5
  v5 := Tryd.zeroValue5
  t9 := Tryd.underlying9
  a9 := Tryd.isAgg9
  z9 := Tryd.sizeOf9
  v9 := Tryd.zeroValue9
  t20 := Tryd.underlying20
  a20 := Tryd.isAgg20
  z20 := Tryd.sizeOf20
  v20 := Tryd.zeroValue20
  t37 := Tryd.underlying36
  a37 := Tryd.isAgg36
  z37 := Tryd.sizeOf36
  v37 := Tryd.zeroValue36
  t46 := Tryd.underlying167
  a46 := Tryd.isAgg167
  z46 := Tryd.sizeOf167
  v46 := Tryd.zeroValue167
  t51 := Tryd.underlying193
  a51 := Tryd.isAgg193
  z51 := Tryd.sizeOf193
  v51 := Tryd.zeroValue193
  t53 := Tryd.underlying169
  a53 := Tryd.isAgg169
  z53 := Tryd.sizeOf169
  v53 := Tryd.zeroValue169
  t171 := Tryd.underlying168
  a171 := Tryd.isAgg168
  z171 := Tryd.sizeOf168
  v171 := Tryd.zeroValue168
  t173 := Tryd.underlying172
  a173 := Tryd.isAgg172
  z173 := Tryd.sizeOf172
  v173 := Tryd.zeroValue172
  t212 := Tryd.underlying192
  a212 := Tryd.isAgg192
  z212 := Tryd.sizeOf192
  v212 := Tryd.zeroValue192
  t213 := Tryd.underlying194
  a213 := Tryd.isAgg194
  z213 := Tryd.sizeOf194
  t232 := Tryd.underlying204
  a232 := Tryd.isAgg204
  z232 := Tryd.sizeOf204
  v232 := Tryd.zeroValue204
  t233 := Tryd.underlying205
  a233 := Tryd.isAgg205
  z233 := Tryd.sizeOf205
  v233 := Tryd.zeroValue205
  g17 := by kernel_rfl
  g18 := by kernel_rfl
  g19 := by kernel_rfl
  i0 := by kernel_rfl
  i2 := by kernel_rfl
  i3 := by kernel_rfl
  i4 := by kernel_rfl
  i5 := by kernel_rfl
  i9 := by kernel_rfl
  i20 := by kernel_rfl
  i37 := by kernel_rfl
  i46 := by kernel_rfl
  i51 := by kernel_rfl
  i53 := by kernel_rfl
  i171 := by kernel_rfl
  i173 := by kernel_rfl
  i212 := by kernel_rfl
  i232 := by kernel_rfl
  i233 := by kernel_rfl
  m17 := by kernel_rfl
  m18 := by kernel_rfl
  m19 := by kernel_rfl }
def st156_ren : Go.Shelf.Ren := ⟨fun | 156 => 58 | 165 => 87 | 166 => 35 | 169 => 36 | 240 => 62 | 241 => 115 | 276 => 88 | 277 => 133 | n => n, fun | 31 => 47 | 9 => 9 | 3 => 3 | 4 => 4 | 0 => 0 | 20 => 20 | 72 => 71 | 76 => 74 | 70 => 69 | 37 => 36 | 75 => 73 | 127 => 103 | 164 => 129 | 5 => 5 | 80 => 76 | n => n, fun | n => n⟩
theorem st156 : Go.Proofs.Lays.n156 Tryd.prog st156_ren := {
  mixed := by kernel_rfl
  f156 := Tryd.func58.trans (congrArg some (by kernel_rfl))
  f165 := Tryd.func87.trans (congrArg some (by kernel_rfl))
  f166 := Tryd.func35.trans (congrArg some (by kernel_rfl))
  f169 := Tryd.func36.trans (congrArg some (by kernel_rfl))
  f240 := Tryd.func62.trans (congrArg some (by kernel_rfl))
  f241 := Tryd.func115.trans (congrArg some (by kernel_rfl))
  f276 := Tryd.func88.trans (congrArg some (by kernel_rfl))
  f277 := Tryd.func133.trans (congrArg some (by kernel_rfl))
  t0 := Tryd.underlying0
  a0 := Tryd.isAgg0
  z0 := Tryd.sizeOf0
  v0 := Tryd.zeroValue0
  t3 := Tryd.underlying3
  a3 := Tryd.isAgg3
  z3 := Tryd.sizeOf3
  v3 := Tryd.zeroValue3
  t4 := Tryd.underlying4
  a4 := Tryd.isAgg4
  z4 := Tryd.sizeOf4
  v4 := Tryd.zeroValue4
  t9 := Tryd.underlying9
  a9 := Tryd.isAgg9
  z9 := Tryd.sizeOf9
  v9 := Tryd.zeroValue9
  t20 := Tryd.underlying20
  a20 := Tryd.isAgg20
  z20 := Tryd.sizeOf20
  v20 := Tryd.zeroValue20
  t31 := Tryd.underlying47
  a31 := Tryd.isAgg47
  z31 := Tryd.sizeOf47
  v31 := Tryd.zeroValue47
  t37 := Tryd.underlying36
  a37 := Tryd.isAgg36
  z37 := Tryd.sizeOf36
  v37 := Tryd.zeroValue36
  t70 := Tryd.underlying69
  a70 := Tryd.isAgg69
  z70 := Tryd.sizeOf69
  v70 := Tryd.zeroValue69
  t72 := Tryd.underlying71
  a72 := Tryd.isAgg71
  z72 := Tryd.sizeOf71
  v72 := Tryd.zeroValue71
  t75 := Tryd.underlying73
  a75 := Tryd.isAgg73
  z75 := Tryd.sizeOf73
  v75 := Tryd.zeroValue73
  t76 := Tryd.underlying74
  a76 := Tryd.isAgg74
  z76 := Tryd.sizeOf74
  v76 := Tryd.zeroValue74
  t127 := Tryd.underlying103
  a127 := Tryd.isAgg103
  z127 := Tryd.sizeOf103
  v127 := Tryd.zeroValue103
  t164 := Tryd.underlying129
  a164 := Tryd.isAgg129
  z164 := Tryd.sizeOf129
  v164 := Tryd.zeroValue129 }
theorem sx156 : Builder.Extra Tryd.prog st156_ren := {
  sizeBuilder := by kernel_rfl
  liesBuilder := by kernel_rfl
  t5 := Tryd.underlying5
  a5 := Tryd.isAgg5
  z5 := Tryd.sizeOf5
  v5 := Tryd.zeroValue5
  infoByte := by kernel_rfl
  cellsByte := by kernel_rfl
  sizeByte := by kernel_rfl
  neB5 := by decide }
end Go.Proofs.YtojiighpkppckaaDoor.P


namespace Go.Proofs.YtojiighpkppckaaDoor.P
open Go.RowKit Go.Proofs.YtojiighpkppckaaDoorW.PrintWords Go.Proofs.YtojiighpkppckaaDoorW.PrintLast Go.Proofs.YtojiighpkppckaaDoorW.PrintMore Go.Proofs.YtojiighpkppckaaDoor.V
attribute [local go_sem] cell_b frozen_b
attribute [local go_sem] max2_int min2_int max_two min_two max_three min_three max_four min_four
set_option linter.unusedVariables false
set_option linter.unusedSimpArgs false
def impl_FormatInt.f (a0 : Int) : Option (ByteArray) := if -9223372036854775808 ≤ a0 ∧ a0 ≤ 9223372036854775807 then some ⟨(Go.Lib.itoa a0).toArray⟩ else none
set_option maxRecDepth 100000 in
theorem impl_FormatInt.calls (a0 : Int) (r : ByteArray) (w : World) (h : impl_FormatInt.f a0 = some r) (ht_ : Aside0 (Tab w)) :
  Calls Tryd.prog 19 #[.int .i64 a0] w fun e w' => e = .returned (.string r) ∧ Below w.heap.size w w' := by
 unfold impl_FormatInt.f at h
 by_cases hc : -9223372036854775808 ≤ a0 ∧ a0 ≤ 9223372036854775807
 ·rw [if_pos hc] at h
  obtain rfl := Option.some.inj h
  go_enter Tryd.func19, Tryd.ntmps19
  go_wp2_with (go_at_call 41; refine (Any.strconv_Itoa st171 a0 hc.1 hc.2 _ ht_.out).mono ?_; rintro e w' ⟨rfl, k, os, rfl⟩)
  go_ret
  exact ⟨rfl, Go.Lib.below_grow _ _ (Nat.le_refl _) _ _⟩
 ·rw [if_neg hc] at h; cases h
end Go.Proofs.YtojiighpkppckaaDoor.P


namespace Go.Proofs.YtojiighpkppckaaDoor.P
open Go.RowKit Go.Proofs.YtojiighpkppckaaDoorW.PrintWords Go.Proofs.YtojiighpkppckaaDoorW.PrintLast Go.Proofs.YtojiighpkppckaaDoorW.PrintMore
attribute [local go_sem] max2_int min2_int max_two min_two max_three min_three max_four min_four
set_option linter.unusedVariables false
set_option linter.unusedSimpArgs false
def laws_big.f (l0 : List Int) : Option (Bool) := some (decide ((l0.length : Int) > 1048576))
set_option maxHeartbeats 8000000 in
set_option maxRecDepth 100000 in
theorem laws_big.calls (A0 : Option Addr) (c0 : Nat) (l0 : List Int) (r : Bool) (w : World) (hr0 : Kd.C (Kd.int .u8) w A0 l0.length l0) (hc0 : l0.length ≤ c0) (h : laws_big.f l0 = some r) :
  Calls Tryd.prog 16 #[.slice A0 l0.length c0] w fun e w' => e = .returned (.bool r) ∧ Drawn0 w w' := by
 have HR0 := A_ hr0
 have HC0 := A_ hc0
 clear hr0 hc0
 have H : (some (decide ((l0.length : Int) > 1048576))) = some r := h
 clear h
 obtain rfl := Option.some.inj H
 go_enter Tryd.func16, Tryd.ntmps16
 go_wp2
 go_ret
 exact ⟨by first | rfl | (simp; done) | (simp [*]; done), by repeat (first | exact Drawn0.refl _ | apply Drawn0.step)⟩
end Go.Proofs.YtojiighpkppckaaDoor.P


namespace Go.Proofs.YtojiighpkppckaaDoor.P
open Go.RowKit Go.Proofs.YtojiighpkppckaaDoorW.PrintWords Go.Proofs.YtojiighpkppckaaDoorW.PrintLast Go.Proofs.YtojiighpkppckaaDoorW.PrintMore
attribute [local go_sem] max2_int min2_int max_two min_two max_three min_three max_four min_four
set_option linter.unusedVariables false
set_option linter.unusedSimpArgs false
def IsS105 (w0 W : World) (g : Nat) (f0 : List Int) (f1 : Int) (f2 : Int) : Prop := ∃ A0 c0, W.heap[g]? = some (.cells #[.slice A0 f0.length c0, .int .i64 f1, .int .i64 f2] 105 (0, 0)) ∧ w0.heap.size ≤ g ∧ Kd.C (Kd.int .u8) w0 A0 f0.length f0
theorem IsS105.grown {w0 W : World} {g : Nat} {f0 : List Int} {f1 : Int} {f2 : Int} {W1 : World} {row : Option Nat} (h : IsS105 w0 W g f0 f1 f2) (hw : W.grownBy W1 row) (hne : some g ≠ row) : IsS105 w0 W1 g f0 f1 f2 := by
 obtain ⟨A0, c0, hb, hg, hr0⟩ := h
 exact ⟨A0, c0, blk_grown hb hw hne, hg, hr0⟩
theorem IsS105.below {w0 W : World} {g : Nat} {f0 : List Int} {f1 : Int} {f2 : Int} {W1 : World} (h : IsS105 w0 W g f0 f1 f2) (hw : Below W.heap.size W W1) : IsS105 w0 W1 g f0 f1 f2 := h.grown (grown_of_below hw none) (by simp)
theorem IsS105.alloc {w0 W : World} {g : Nat} {f0 : List Int} {f1 : Int} {f2 : Int} (h : IsS105 w0 W g f0 f1 f2) (o : Obj) : IsS105 w0 (W.alloc o) g f0 f1 f2 := h.below (below_alloc (Below.refl _ _) o)
theorem IsS105.drewN {w0 W : World} {g : Nat} {f0 : List Int} {f1 : Int} {f2 : Int} (h : IsS105 w0 W g f0 f1 f2) (m : Nat) : IsS105 w0 (W.drewN m) g f0 f1 f2 := h
theorem IsS105.drew {w0 W : World} {g : Nat} {f0 : List Int} {f1 : Int} {f2 : Int} (h : IsS105 w0 W g f0 f1 f2) : IsS105 w0 W.drew g f0 f1 f2 := h
theorem IsS105.apart {w0 W : World} {g : Nat} {f0 : List Int} {f1 : Int} {f2 : Int} {α : Type} {d : Kd α} {e : Nat} {base : Nat} {ok : Nat → Prop} {v : Value} {xs : List α} (h : IsS105 w0 W g f0 f1 f2) (ho : d.R e W base ok v xs) (ht : ∀ q, q ∈ e :: d.E → q ≠ 105) : d.R e W base (fun k => ok k ∧ k ≠ g) v xs := by
 obtain ⟨A0, c0, hb, hg, hr0⟩ := h
 exact Kd.R_types ho hb ht
theorem IsS105.own_ne {w0 W : World} {g : Nat} {f0 : List Int} {f1 : Int} {f2 : Int} {α : Type} {d : Kd α} {e : Nat} {base : Nat} {ok : Nat → Prop} {v : Value} {xs : List α} (h : IsS105 w0 W g f0 f1 f2) (ho : d.R e W base ok v xs) (ht : e ≠ 105) : some g ≠ v.ownBlock := by
 obtain ⟨A0, c0, hb, hg, hr0⟩ := h
 exact Kd.R_ne ho hb ht
theorem IsS105.lt {w0 W : World} {g : Nat} {f0 : List Int} {f1 : Int} {f2 : Int} (h : IsS105 w0 W g f0 f1 f2) : g < W.heap.size := by
 obtain ⟨A0, c0, hb, hg, hr0⟩ := h
 exact blk_lt hb
theorem IsS105.ge {w0 W : World} {g : Nat} {f0 : List Int} {f1 : Int} {f2 : Int} (h : IsS105 w0 W g f0 f1 f2) : w0.heap.size ≤ g := by
 obtain ⟨A0, c0, hb, hg, hr0⟩ := h
 exact hg
theorem IsS105.ne_blk {w0 W : World} {g : Nat} {f0 : List Int} {f1 : Int} {f2 : Int} {a : Nat} {cs : Array Value} {t : TypeId} {fr : Nat × Nat} (h : IsS105 w0 W g f0 f1 f2) (hb2 : W.heap[a]? = some (.cells cs t fr)) (ht : t ≠ 105) : g ≠ a := by
 obtain ⟨A0, c0, hb, hg, hr0⟩ := h
 rintro rfl
 rw [hb] at hb2
 injection hb2 with hb2
 injection hb2 with _ ht2
 exact ht ht2.symm
theorem IsS105.far {w0 W : World} {g : Nat} {f0 : List Int} {f1 : Int} {f2 : Int} {p : Addr} (h : IsS105 w0 W g f0 f1 f2) (hne : g ≠ p.block) (u : Value) : IsS105 w0 (W.setCell p u) g f0 f1 f2 := by
 obtain ⟨A0, c0, hb, hg, hr0⟩ := h
 exact ⟨A0, c0, blk_far hb hne u, hg, hr0⟩
theorem cellS105_0 {W : World} {g : Nat} {A0 : Option Addr} {c0 : Nat} {f0 : List Int} {f1 : Int} {f2 : Int} (h : W.heap[g]? = some (.cells #[.slice A0 f0.length c0, .int .i64 f1, .int .i64 f2] 105 (0, 0))) : W.cell? ⟨g, 0, none⟩ = some (.slice A0 f0.length c0) := (blk_cell h 0).trans rfl
theorem cellS105_1 {W : World} {g : Nat} {A0 : Option Addr} {c0 : Nat} {f0 : List Int} {f1 : Int} {f2 : Int} (h : W.heap[g]? = some (.cells #[.slice A0 f0.length c0, .int .i64 f1, .int .i64 f2] 105 (0, 0))) : W.cell? ⟨g, 1, none⟩ = some (.int .i64 f1) := (blk_cell h 1).trans rfl
theorem IsS105.set_1 {w0 W : World} {g : Nat} {f0 : List Int} {f1 : Int} {f2 : Int} (h : IsS105 w0 W g f0 f1 f2) (x : Int) : IsS105 w0 (W.setCell ⟨g, 1, none⟩ (.int .i64 x)) g f0 x f2 := by
 obtain ⟨A0, c0, hb, hg, hr0⟩ := h
 exact ⟨A0, c0, by simpa using blk_set hb 1 (.int .i64 x), hg, hr0⟩
theorem cellS105_2 {W : World} {g : Nat} {A0 : Option Addr} {c0 : Nat} {f0 : List Int} {f1 : Int} {f2 : Int} (h : W.heap[g]? = some (.cells #[.slice A0 f0.length c0, .int .i64 f1, .int .i64 f2] 105 (0, 0))) : W.cell? ⟨g, 2, none⟩ = some (.int .i64 f2) := (blk_cell h 2).trans rfl
theorem IsS105.set_2 {w0 W : World} {g : Nat} {f0 : List Int} {f1 : Int} {f2 : Int} (h : IsS105 w0 W g f0 f1 f2) (x : Int) : IsS105 w0 (W.setCell ⟨g, 2, none⟩ (.int .i64 x)) g f0 f1 x := by
 obtain ⟨A0, c0, hb, hg, hr0⟩ := h
 exact ⟨A0, c0, by simpa using blk_set hb 2 (.int .i64 x), hg, hr0⟩
theorem oI105 {p q : Prop} (h : Aside0 p) (k : p → q := by intro h_; repeat (first | (with_reducible first | exact h_ | apply IsS105.alloc | apply IsS105.drewN | apply IsS105.drew | apply IsS105.set_1 | apply IsS105.set_2 | refine IsS105.far ?_ (Aside0.out (self := by assumption)) _) | exact h_)) : q := k h.out
theorem oB105 {p q : Prop} (h : Aside0 p) (k : p → q := by intro h_; repeat (first | (with_reducible first | exact h_ | apply below_alloc | apply pw_below_drewN | apply below_drew1 | refine below_set ?_ (Aside0.out (self := by assumption)) | refine below_set ?_ (by (try dsimp only); exact IsS105.ge (Aside0.out (self := by assumption)))) | exact h_)) : q := k h.out
def spec_l01New.l0 : Nat → List Int → Int → Int → Option (List Int × Int × Int)
 | 0, _, _, _ => none
 | k + 1, x0, x3, x4 => if x4 < (x0.length : Int) then (if x4 < 4000 then (if 0 ≤ x4 then (spec_l01New.l0 k x0 (Go.bits .and .i64 (wrap64 ((wrap64 ((wrap64 (x3 * 131)) + (wrap64 (rd x0 x4)))) + 7)) 1073741823) (wrap64 (x4 + 1))) else (none)) else (some (x0, 0, x3))) else (some (x0, 0, x3))
def spec_l01New.f (k : Nat) (l0 : List Int) : Option (List Int × Int × Int) := spec_l01New.l0 k l0 (wrap64 (98939 + (l0.length : Int))) 0
set_option maxHeartbeats 8000000 in
set_option maxRecDepth 100000 in
theorem spec_l01New.calls (k : Nat) (A0 : Option Addr) (c0 : Nat) (l0 : List Int) (r1 : List Int) (r2 : Int) (r3 : Int) (w0 w : World) (hB : Below w0.heap.size w0 w) (hr0 : Kd.C (Kd.int .u8) w0 A0 l0.length l0) (hc0 : l0.length ≤ c0) (h : spec_l01New.f k l0 = some (r1, r2, r3)) :
  Calls Tryd.prog 37 #[.slice A0 l0.length c0] w fun e w' => ∃ g_ : Nat, e = .returned (.pointer (some ⟨g_, 0, none⟩)) ∧ IsS105 w0 w' g_ r1 r2 r3 ∧ Below w0.heap.size w0 w' ∧ Below w.heap.size w w' := by
 have hu105 := Tryd.underlying105
 have HR0 := A_ hr0
 have HC0 := A_ hc0
 clear hr0 hc0
 have HBW := A_ (Below.refl w.heap.size w)
 have HW0 := A_ hB.size
 have HB := A_ hB
 clear hB
 have H : (spec_l01New.l0 k l0 (wrap64 (98939 + (l0.length : Int))) 0) = some (r1, r2, r3) := h
 clear h
 have H' := A_ H
 clear H
 go_enter Tryd.func37, Tryd.ntmps37
 go_wp2
 go_loopg [3, 4] k (fun kq v3 v4 w' => ∃ (x3_1 : Int) (x4_1 : Int), v3 = .int .i64 x3_1 ∧ v4 = .int .i64 x4_1 ∧ Aside0 (spec_l01New.l0 kq l0 x3_1 x4_1 = some (r1, r2, r3)) ∧ Aside0 (kq ≤ k) ∧ Aside0 (Below w0.heap.size w0 w') ∧ Aside0 (Below w.heap.size w w'))
 case atStart => exact ⟨(wrap64 (98939 + (l0.length : Int))), (0), (by first | rfl | (simp; done) | (simp [*]; done)), (by first | rfl | (simp; done) | (simp [*]; done)), H', ⟨Nat.le_refl _⟩, ⟨oB HB⟩, ⟨HBW.out⟩⟩
 case round =>
  clear H' HB HBW
  obtain ⟨x3_1, x4_1, rfl, rfl, HA, HK1, HB, HBW⟩ := hrel
  cases gk with
  | zero => exact absurd HA.out (by simp [spec_l01New.l0])
  | succ k1 =>
   have H := HA.out
   clear HA
   simp only [spec_l01New.l0] at H
   by_cases c2 : x4_1 < (l0.length : Int)
   ·rw [if_pos c2] at H
    have c2b0 : decide (x4_1 < (l0.length : Int)) = true := decide_eq_true c2
    clear c2
    by_cases c3 : x4_1 < 4000
    ·rw [if_pos c3] at H
     have c3b0 : decide (x4_1 < 4000) = true := decide_eq_true c3
     clear c3
     by_cases c4 : 0 ≤ x4_1
     ·rw [if_pos c4] at H
      have c4b0 : decide (0 ≤ x4_1) = true := decide_eq_true c4
      clear c4
      have H' := A_ H
      clear H
      have p241 : 0 ≤ (x4_1 : Int) := of_decide_eq_true (by first | (with_reducible assumption) | assumption)
      have q241 : x4_1 < (l0.length : Int) := of_decide_eq_true (by first | (with_reducible assumption) | assumption)
      obtain ⟨ad241, e241, hx241_0⟩ := Kd.at_int HR0.out x4_1 p241 q241
      cases e241
      replace hx241_0 := pw_cell_below HB.out hx241_0
      replace p241 := eq_true p241
      replace q241 := eq_true q241
      go_wp2
      go_roundg k1
      case measure => have := HK1.out; omega
      case rel => exact ⟨(Go.bits .and .i64 (wrap64 ((wrap64 ((wrap64 (x3_1 * 131)) + (wrap64 (rd l0 x4_1)))) + 7)) 1073741823), (wrap64 (x4_1 + 1)), (by first | rfl | (simp; done) | (simp [*]; done)), (by first | rfl | (simp; done) | (simp [*]; done)), H', ⟨by have := HK1.out; omega⟩, ⟨oB HB⟩, HBW⟩
     ·rw [if_neg c4] at H
      exact absurd H (by simp)
    ·rw [if_neg c3] at H
     have c3b0 : decide (x4_1 < 4000) = false := decide_eq_false c3
     clear c3
     simp only [Option.some.injEq, Prod.mk.injEq] at H
     obtain ⟨rfl, rfl, rfl⟩ := H
     go_wp2
     go_ret
     exact ⟨_, rfl, ⟨_, _, by simpa using heap_alloc_new _ _, HB.out.size, HR0.out⟩, below_alloc HB.out _, below_alloc HBW.out _⟩
   ·rw [if_neg c2] at H
    have c2b0 : decide (x4_1 < (l0.length : Int)) = false := decide_eq_false c2
    clear c2
    simp only [Option.some.injEq, Prod.mk.injEq] at H
    obtain ⟨rfl, rfl, rfl⟩ := H
    go_wp2
    go_ret
    exact ⟨_, rfl, ⟨_, _, by simpa using heap_alloc_new _ _, HB.out.size, HR0.out⟩, below_alloc HB.out _, below_alloc HBW.out _⟩
end Go.Proofs.YtojiighpkppckaaDoor.P


namespace Go.Proofs.YtojiighpkppckaaDoor.P
open Go.RowKit Go.Proofs.YtojiighpkppckaaDoorW.PrintWords Go.Proofs.YtojiighpkppckaaDoorW.PrintLast Go.Proofs.YtojiighpkppckaaDoorW.PrintMore
attribute [local go_sem] max2_int min2_int max_two min_two max_three min_three max_four min_four
set_option linter.unusedVariables false
set_option linter.unusedSimpArgs false
def spec_l01Byte.f (s0_0 : List Int) (s0_1 : Int) (s0_2 : Int) : Option (Int × Int × Int) := if s0_1 < (s0_0.length : Int) then (if 0 ≤ s0_1 then (some (Go.bits .and .i64 (wrap64 ((Go.bits .and .i64 (Go.bits .xor .i64 ((wrap64 ((wrap64 (s0_2 * 6364136223846793005)) + 1442695040888963407)) / 8589934592) ((wrap64 ((wrap64 (s0_2 * 6364136223846793005)) + 1442695040888963407)) / 35184372088832)) 255) + (wrap64 (rd s0_0 s0_1)))) 255, wrap64 (s0_1 + 1), wrap64 ((wrap64 (s0_2 * 6364136223846793005)) + 1442695040888963407))) else (none)) else (some (Go.bits .and .i64 (Go.bits .xor .i64 ((wrap64 ((wrap64 (s0_2 * 6364136223846793005)) + 1442695040888963407)) / 8589934592) ((wrap64 ((wrap64 (s0_2 * 6364136223846793005)) + 1442695040888963407)) / 35184372088832)) 255, s0_1, wrap64 ((wrap64 (s0_2 * 6364136223846793005)) + 1442695040888963407)))
set_option maxHeartbeats 8000000 in
set_option maxRecDepth 100000 in
theorem spec_l01Byte.calls (g : Nat) (s0_0 : List Int) (s0_1 : Int) (s0_2 : Int) (r1 : Int) (r2 : Int) (r3 : Int) (w0 w : World) (hI : IsS105 w0 w g s0_0 s0_1 s0_2) (hB : Below w0.heap.size w0 w) (h : spec_l01Byte.f s0_0 s0_1 s0_2 = some (r1, r2, r3)) :
  Calls Tryd.prog 97 #[.pointer (some ⟨g, 0, none⟩)] w fun e w' => e = .returned (.int .i64 r1) ∧ IsS105 w0 w' g s0_0 r2 r3 ∧ Below w0.heap.size w0 w' ∧ KeepBut w w' g none := by
 have HI0 := A_ hI
 have HK := A_ (KeepBut.refl w g none)
 have HL := A_ hB.size
 clear hI
 have HW0 := A_ hB.size
 have HB := A_ hB
 clear hB
 have H : (if s0_1 < (s0_0.length : Int) then (if 0 ≤ s0_1 then (some (Go.bits .and .i64 (wrap64 ((Go.bits .and .i64 (Go.bits .xor .i64 ((wrap64 ((wrap64 (s0_2 * 6364136223846793005)) + 1442695040888963407)) / 8589934592) ((wrap64 ((wrap64 (s0_2 * 6364136223846793005)) + 1442695040888963407)) / 35184372088832)) 255) + (wrap64 (rd s0_0 s0_1)))) 255, wrap64 (s0_1 + 1), wrap64 ((wrap64 (s0_2 * 6364136223846793005)) + 1442695040888963407))) else (none)) else (some (Go.bits .and .i64 (Go.bits .xor .i64 ((wrap64 ((wrap64 (s0_2 * 6364136223846793005)) + 1442695040888963407)) / 8589934592) ((wrap64 ((wrap64 (s0_2 * 6364136223846793005)) + 1442695040888963407)) / 35184372088832)) 255, s0_1, wrap64 ((wrap64 (s0_2 * 6364136223846793005)) + 1442695040888963407)))) = some (r1, r2, r3) := h
 clear h
 by_cases c2 : s0_1 < (s0_0.length : Int)
 ·rw [if_pos c2] at H
  have c2b0 : decide (s0_1 < (s0_0.length : Int)) = true := decide_eq_true c2
  clear c2
  by_cases c3 : 0 ≤ s0_1
  ·rw [if_pos c3] at H
   have c3b0 : decide (0 ≤ s0_1) = true := decide_eq_true c3
   clear c3
   simp only [Option.some.injEq, Prod.mk.injEq] at H
   obtain ⟨rfl, rfl, rfl⟩ := H
   obtain ⟨ASz4_0, cSz4_0, HGz4, hgz4, HSz4_0⟩ := HI0.out
   have hcz4_0 := cellS105_0 HGz4
   have hcz4_1 := cellS105_1 HGz4
   have hcz4_2 := cellS105_2 HGz4
   have hfz4_1 := blk_frozen HGz4 1
   have hfz4_2 := blk_frozen HGz4 2
   clear HGz4 hgz4
   have p244 : 0 ≤ (s0_1 : Int) := of_decide_eq_true (by first | (with_reducible assumption) | assumption)
   have q244 : s0_1 < (s0_0.length : Int) := of_decide_eq_true (by first | (with_reducible assumption) | assumption)
   obtain ⟨ad244, e244, hx244_0⟩ := Kd.at_int HSz4_0 s0_1 p244 q244
   cases e244
   have hn244_0 : ad244.block ≠ g := Nat.ne_of_lt (Nat.lt_of_lt_of_le (by have := World.block_lt_of_cell? _ _ hx244_0; first | rwa [add_block] at this | exact this) (IsS105.ge HI0.out))
   replace hx244_0 := pw_cell_below HB.out hx244_0
   replace hx244_0 := (cell_far (p := ⟨g, 2, none⟩) (by first | (rw [add_block]; exact hn244_0) | (show (Addr.add _ _).block ≠ _; rw [add_block]; exact hn244_0) | exact hn244_0) (.int .i64 (wrap64 ((wrap64 (s0_2 * 6364136223846793005)) + 1442695040888963407)))).trans hx244_0
   (try have hy244_0 := fun (n_ : Nat) => (show (((w.drewN n_).setCell ⟨g, 2, none⟩ (.int .i64 (wrap64 ((wrap64 (s0_2 * 6364136223846793005)) + 1442695040888963407))))).cell? _ = some _ from hx244_0))
   clear hn244_0
   replace p244 := eq_true p244
   replace q244 := eq_true q244
   go_enter Tryd.func97, Tryd.ntmps97
   go_wp2
   repeat (go_quiet (fail); try go_wp2)
   go_ret
   exact ⟨eR, oI105 HI0, oB105 HB, oKe HK⟩
  ·rw [if_neg c3] at H
   exact absurd H (by simp)
 ·rw [if_neg c2] at H
  have c2b0 : decide (s0_1 < (s0_0.length : Int)) = false := decide_eq_false c2
  clear c2
  simp only [Option.some.injEq, Prod.mk.injEq] at H
  obtain ⟨rfl, rfl, rfl⟩ := H
  obtain ⟨ASz5_0, cSz5_0, HGz5, hgz5, HSz5_0⟩ := HI0.out
  have hcz5_0 := cellS105_0 HGz5
  have hcz5_1 := cellS105_1 HGz5
  have hcz5_2 := cellS105_2 HGz5
  have hfz5_1 := blk_frozen HGz5 1
  have hfz5_2 := blk_frozen HGz5 2
  clear HGz5 hgz5
  go_enter Tryd.func97, Tryd.ntmps97
  go_wp2
  repeat (go_quiet (fail); try go_wp2)
  go_ret
  exact ⟨eR, oI105 HI0, oB105 HB, oKe HK⟩
end Go.Proofs.YtojiighpkppckaaDoor.P


namespace Go.Proofs.YtojiighpkppckaaDoor.P
open Go.RowKit Go.Proofs.YtojiighpkppckaaDoorW.PrintWords Go.Proofs.YtojiighpkppckaaDoorW.PrintLast Go.Proofs.YtojiighpkppckaaDoorW.PrintMore
attribute [local go_sem] max2_int min2_int max_two min_two max_three min_three max_four min_four
set_option linter.unusedVariables false
set_option linter.unusedSimpArgs false
def spec_l01Below.f (s0_0 : List Int) (s0_1 : Int) (s0_2 : Int) (a1 : Int) : Option (Int × Int × Int) := if a1 ≤ 0 then (some (0, s0_1, s0_2)) else (if a1 ≤ 256 then ((spec_l01Byte.f s0_0 s0_1 s0_2).bind fun bt245 => (if a1 = 0 then (none) else (some (Int.tmod bt245.1 a1, bt245.2.1, bt245.2.2)))) else ((spec_l01Byte.f s0_0 s0_1 s0_2).bind fun bt248 => ((spec_l01Byte.f s0_0 bt248.2.1 bt248.2.2).bind fun bt251 => ((spec_l01Byte.f s0_0 bt251.2.1 bt251.2.2).bind fun bt254 => ((spec_l01Byte.f s0_0 bt254.2.1 bt254.2.2).bind fun bt257 => (if a1 = 0 then (none) else (some (Int.tmod (wrap64 ((wrap64 ((wrap64 ((wrap64 (bt248.1 * 16777216)) + (wrap64 (bt251.1 * 65536)))) + (wrap64 (bt254.1 * 256)))) + bt257.1)) a1, bt257.2.1, bt257.2.2))))))))
set_option maxHeartbeats 8000000 in
set_option maxRecDepth 100000 in
theorem spec_l01Below.calls (g : Nat) (s0_0 : List Int) (s0_1 : Int) (s0_2 : Int) (a1 : Int) (r1 : Int) (r2 : Int) (r3 : Int) (w0 w : World) (hI : IsS105 w0 w g s0_0 s0_1 s0_2) (hB : Below w0.heap.size w0 w) (h : spec_l01Below.f s0_0 s0_1 s0_2 a1 = some (r1, r2, r3)) :
  Calls Tryd.prog 66 #[.pointer (some ⟨g, 0, none⟩), .int .i64 a1] w fun e w' => e = .returned (.int .i64 r1) ∧ IsS105 w0 w' g s0_0 r2 r3 ∧ Below w0.heap.size w0 w' ∧ KeepBut w w' g none := by
 have HI0 := A_ hI
 have HK := A_ (KeepBut.refl w g none)
 have HL := A_ hB.size
 clear hI
 have HW0 := A_ hB.size
 have HB := A_ hB
 clear hB
 have H : (if a1 ≤ 0 then (some (0, s0_1, s0_2)) else (if a1 ≤ 256 then ((spec_l01Byte.f s0_0 s0_1 s0_2).bind fun bt245 => (if a1 = 0 then (none) else (some (Int.tmod bt245.1 a1, bt245.2.1, bt245.2.2)))) else ((spec_l01Byte.f s0_0 s0_1 s0_2).bind fun bt248 => ((spec_l01Byte.f s0_0 bt248.2.1 bt248.2.2).bind fun bt251 => ((spec_l01Byte.f s0_0 bt251.2.1 bt251.2.2).bind fun bt254 => ((spec_l01Byte.f s0_0 bt254.2.1 bt254.2.2).bind fun bt257 => (if a1 = 0 then (none) else (some (Int.tmod (wrap64 ((wrap64 ((wrap64 ((wrap64 (bt248.1 * 16777216)) + (wrap64 (bt251.1 * 65536)))) + (wrap64 (bt254.1 * 256)))) + bt257.1)) a1, bt257.2.1, bt257.2.2))))))))) = some (r1, r2, r3) := h
 clear h
 by_cases c3 : a1 ≤ 0
 ·rw [if_pos c3] at H
  have c3b0 : decide (a1 ≤ 0) = true := decide_eq_true c3
  clear c3
  simp only [Option.some.injEq, Prod.mk.injEq] at H
  obtain ⟨rfl, rfl, rfl⟩ := H
  go_enter Tryd.func66, Tryd.ntmps66
  go_wp2
  go_ret
  exact ⟨eR, oI105 HI0, oB105 HB, oKe HK⟩
 ·rw [if_neg c3] at H
  have c3b0 : decide (a1 ≤ 0) = false := decide_eq_false c3
  clear c3
  by_cases c4 : a1 ≤ 256
  ·rw [if_pos c4] at H
   have c4b0 : decide (a1 ≤ 256) = true := decide_eq_true c4
   clear c4
   replace H := Option.bind_eq_some_iff.mp H
   obtain ⟨⟨t245, t246, t247⟩, A50, H⟩ := H
   (try dsimp only at H)
   have A5 := A_ A50
   clear A50
   by_cases c6 : a1 = 0
   ·rw [if_pos c6] at H
    exact absurd H (by simp)
   ·rw [if_neg c6] at H
    have c6b0 : (a1 == 0) = false := beq_eq_false_iff_ne.mpr c6
    have c6b1 : (a1 != 0) = true := bne_iff_ne.mpr c6
    simp only [Option.some.injEq, Prod.mk.injEq] at H
    obtain ⟨rfl, rfl, rfl⟩ := H
    go_enter Tryd.func66, Tryd.ntmps66
    go_wp2_with (first | ((with_reducible refine gate_callee (f := 97) rfl ?_); refine gL (some 14) Tryd.func97 #[.pointer (some ⟨g, 0, none⟩)] ?_; (with_reducible refine (spec_l01Byte.calls g s0_0 s0_1 s0_2 t245 t246 t247 w0 _ ?side1 ?side2 A5.out).mono ?_); (case side1 => exact oI105 HI0); (case side2 => exact oB105 HB); rintro e w7 ⟨rfl, hi, hb, hk⟩; refine ⟨_, rfl, ?_⟩; have n0_ := A_ (KeepBut.trans (oKe HK) hk (.inl rfl)); have n1_ := A_ (hb); have n2_ := A_ (hi); clear HK; clear HB; clear HI0; have HK := n0_; have HB := n1_; have HI0 := n2_; clear n0_ n1_ n2_; (try clear hb); (try clear hb2); (try clear hk); (try clear hi)))
    go_ret
    exact ⟨eR, oI105 HI0, oB105 HB, oKe HK⟩
  ·rw [if_neg c4] at H
   have c4b0 : decide (a1 ≤ 256) = false := decide_eq_false c4
   clear c4
   replace H := Option.bind_eq_some_iff.mp H
   obtain ⟨⟨t248, t249, t250⟩, A80, H⟩ := H
   (try dsimp only at H)
   have A8 := A_ A80
   clear A80
   replace H := Option.bind_eq_some_iff.mp H
   obtain ⟨⟨t251, t252, t253⟩, A90, H⟩ := H
   (try dsimp only at H)
   have A9 := A_ A90
   clear A90
   replace H := Option.bind_eq_some_iff.mp H
   obtain ⟨⟨t254, t255, t256⟩, A100, H⟩ := H
   (try dsimp only at H)
   have A10 := A_ A100
   clear A100
   replace H := Option.bind_eq_some_iff.mp H
   obtain ⟨⟨t257, t258, t259⟩, A110, H⟩ := H
   (try dsimp only at H)
   have A11 := A_ A110
   clear A110
   by_cases c12 : a1 = 0
   ·rw [if_pos c12] at H
    exact absurd H (by simp)
   ·rw [if_neg c12] at H
    have c12b0 : (a1 == 0) = false := beq_eq_false_iff_ne.mpr c12
    have c12b1 : (a1 != 0) = true := bne_iff_ne.mpr c12
    simp only [Option.some.injEq, Prod.mk.injEq] at H
    obtain ⟨rfl, rfl, rfl⟩ := H
    go_enter Tryd.func66, Tryd.ntmps66
    go_wp2_with (first | ((with_reducible refine gate_callee (f := 97) rfl ?_); refine gL (some 18) Tryd.func97 #[.pointer (some ⟨g, 0, none⟩)] ?_; (with_reducible refine (spec_l01Byte.calls g s0_0 s0_1 s0_2 t248 t249 t250 w0 _ ?side1 ?side2 A8.out).mono ?_); (case side1 => exact oI105 HI0); (case side2 => exact oB105 HB); rintro e w13 ⟨rfl, hi, hb, hk⟩; refine ⟨_, rfl, ?_⟩; have n0_ := A_ (KeepBut.trans (oKe HK) hk (.inl rfl)); have n1_ := A_ (hb); have n2_ := A_ (hi); clear HK; clear HB; clear HI0; have HK := n0_; have HB := n1_; have HI0 := n2_; clear n0_ n1_ n2_; (try clear hb); (try clear hb2); (try clear hk); (try clear hi)) | ((with_reducible refine gate_callee (f := 97) rfl ?_); refine gL (some 20) Tryd.func97 #[.pointer (some ⟨g, 0, none⟩)] ?_; (with_reducible refine (spec_l01Byte.calls g s0_0 t249 t250 t251 t252 t253 w0 _ ?side1 ?side2 A9.out).mono ?_); (case side1 => exact oI105 HI0); (case side2 => exact oB105 HB); rintro e w14 ⟨rfl, hi, hb, hk⟩; refine ⟨_, rfl, ?_⟩; have n0_ := A_ (KeepBut.trans (oKe HK) hk (.inl rfl)); have n1_ := A_ (hb); have n2_ := A_ (hi); clear HK; clear HB; clear HI0; have HK := n0_; have HB := n1_; have HI0 := n2_; clear n0_ n1_ n2_; (try clear hb); (try clear hb2); (try clear hk); (try clear hi)) | ((with_reducible refine gate_callee (f := 97) rfl ?_); refine gL (some 22) Tryd.func97 #[.pointer (some ⟨g, 0, none⟩)] ?_; (with_reducible refine (spec_l01Byte.calls g s0_0 t252 t253 t254 t255 t256 w0 _ ?side1 ?side2 A10.out).mono ?_); (case side1 => exact oI105 HI0); (case side2 => exact oB105 HB); rintro e w15 ⟨rfl, hi, hb, hk⟩; refine ⟨_, rfl, ?_⟩; have n0_ := A_ (KeepBut.trans (oKe HK) hk (.inl rfl)); have n1_ := A_ (hb); have n2_ := A_ (hi); clear HK; clear HB; clear HI0; have HK := n0_; have HB := n1_; have HI0 := n2_; clear n0_ n1_ n2_; (try clear hb); (try clear hb2); (try clear hk); (try clear hi)) | ((with_reducible refine gate_callee (f := 97) rfl ?_); refine gL (some 24) Tryd.func97 #[.pointer (some ⟨g, 0, none⟩)] ?_; (with_reducible refine (spec_l01Byte.calls g s0_0 t255 t256 t257 t258 t259 w0 _ ?side1 ?side2 A11.out).mono ?_); (case side1 => exact oI105 HI0); (case side2 => exact oB105 HB); rintro e w16 ⟨rfl, hi, hb, hk⟩; refine ⟨_, rfl, ?_⟩; have n0_ := A_ (KeepBut.trans (oKe HK) hk (.inl rfl)); have n1_ := A_ (hb); have n2_ := A_ (hi); clear HK; clear HB; clear HI0; have HK := n0_; have HB := n1_; have HI0 := n2_; clear n0_ n1_ n2_; (try clear hb); (try clear hb2); (try clear hk); (try clear hi)))
    go_ret
    exact ⟨eR, oI105 HI0, oB105 HB, oKe HK⟩
end Go.Proofs.YtojiighpkppckaaDoor.P


namespace Go.Proofs.YtojiighpkppckaaDoor.P
open Go.RowKit Go.Proofs.YtojiighpkppckaaDoorW.PrintWords Go.Proofs.YtojiighpkppckaaDoorW.PrintLast Go.Proofs.YtojiighpkppckaaDoorW.PrintMore
attribute [local go_sem] max2_int min2_int max_two min_two max_three min_three max_four min_four
set_option linter.unusedVariables false
set_option linter.unusedSimpArgs false
def spec_l01Once.f (s0_0 : List Int) (s0_1 : Int) (s0_2 : Int) (a1 : Int) : Option (Bool × Int × Int) := (spec_l01Below.f s0_0 s0_1 s0_2 a1).bind fun bt260 => (some ((bt260.1 == 0), bt260.2.1, bt260.2.2))
set_option maxHeartbeats 8000000 in
set_option maxRecDepth 100000 in
theorem spec_l01Once.calls (g : Nat) (s0_0 : List Int) (s0_1 : Int) (s0_2 : Int) (a1 : Int) (r1 : Bool) (r2 : Int) (r3 : Int) (w0 w : World) (hI : IsS105 w0 w g s0_0 s0_1 s0_2) (hB : Below w0.heap.size w0 w) (h : spec_l01Once.f s0_0 s0_1 s0_2 a1 = some (r1, r2, r3)) :
  Calls Tryd.prog 63 #[.pointer (some ⟨g, 0, none⟩), .int .i64 a1] w fun e w' => e = .returned (.bool r1) ∧ IsS105 w0 w' g s0_0 r2 r3 ∧ Below w0.heap.size w0 w' ∧ KeepBut w w' g none := by
 have HI0 := A_ hI
 have HK := A_ (KeepBut.refl w g none)
 have HL := A_ hB.size
 clear hI
 have HW0 := A_ hB.size
 have HB := A_ hB
 clear hB
 have H : ((spec_l01Below.f s0_0 s0_1 s0_2 a1).bind fun bt260 => (some ((bt260.1 == 0), bt260.2.1, bt260.2.2))) = some (r1, r2, r3) := h
 clear h
 replace H := Option.bind_eq_some_iff.mp H
 obtain ⟨⟨t260, t261, t262⟩, A30, H⟩ := H
 (try dsimp only at H)
 have A3 := A_ A30
 clear A30
 simp only [Option.some.injEq, Prod.mk.injEq] at H
 obtain ⟨rfl, rfl, rfl⟩ := H
 go_enter Tryd.func63, Tryd.ntmps63
 go_wp2_with (first | ((with_reducible refine gate_callee (f := 66) rfl ?_); refine gL (some 7) Tryd.func66 #[.pointer (some ⟨g, 0, none⟩), .int .i64 a1] ?_; (with_reducible refine (spec_l01Below.calls g s0_0 s0_1 s0_2 a1 t260 t261 t262 w0 _ ?side1 ?side2 A3.out).mono ?_); (case side1 => exact oI105 HI0); (case side2 => exact oB105 HB); rintro e w4 ⟨rfl, hi, hb, hk⟩; refine ⟨_, rfl, ?_⟩; have n0_ := A_ (KeepBut.trans (oKe HK) hk (.inl rfl)); have n1_ := A_ (hb); have n2_ := A_ (hi); clear HK; clear HB; clear HI0; have HK := n0_; have HB := n1_; have HI0 := n2_; clear n0_ n1_ n2_; (try clear hb); (try clear hb2); (try clear hk); (try clear hi)))
 go_ret
 exact ⟨eR, oI105 HI0, oB105 HB, oKe HK⟩
end Go.Proofs.YtojiighpkppckaaDoor.P


namespace Go.Proofs.YtojiighpkppckaaDoor.P
open Go.RowKit Go.Proofs.YtojiighpkppckaaDoorW.PrintWords Go.Proofs.YtojiighpkppckaaDoorW.PrintLast Go.Proofs.YtojiighpkppckaaDoorW.PrintMore
attribute [local go_sem] max2_int min2_int max_two min_two max_three min_three max_four min_four
set_option linter.unusedVariables false
set_option linter.unusedSimpArgs false
def spec_l01In.f (a0 : Int) (a1 : Int) (a2 : Int) : Option (Bool) := if a0 ≥ a1 then (some (decide (a0 ≤ a2))) else (some false)
set_option maxHeartbeats 8000000 in
set_option maxRecDepth 100000 in
theorem spec_l01In.calls (a0 : Int) (a1 : Int) (a2 : Int) (r : Bool) (w : World) (h : spec_l01In.f a0 a1 a2 = some r) :
  Calls Tryd.prog 54 #[.int .i64 a0, .int .i64 a1, .int .i64 a2] w fun e w' => e = .returned (.bool r) ∧ Drawn0 w w' := by
 have H : (if a0 ≥ a1 then (some (decide (a0 ≤ a2))) else (some false)) = some r := h
 clear h
 by_cases c4 : a0 ≥ a1
 ·rw [if_pos c4] at H
  have c4b0 : decide (a1 ≤ a0) = true := decide_eq_true c4
  clear c4
  obtain rfl := Option.some.inj H
  go_enter Tryd.func54, Tryd.ntmps54
  go_wp2
  go_ret
  exact ⟨by first | rfl | (simp; done) | (simp [*]; done), by repeat (first | exact Drawn0.refl _ | apply Drawn0.step)⟩
 ·rw [if_neg c4] at H
  have c4b0 : decide (a1 ≤ a0) = false := decide_eq_false c4
  clear c4
  obtain rfl := Option.some.inj H
  go_enter Tryd.func54, Tryd.ntmps54
  go_wp2
  go_ret
  exact ⟨by first | rfl | (simp; done) | (simp [*]; done), by repeat (first | exact Drawn0.refl _ | apply Drawn0.step)⟩
end Go.Proofs.YtojiighpkppckaaDoor.P


namespace Go.Proofs.YtojiighpkppckaaDoor.P
open Go.RowKit Go.Proofs.YtojiighpkppckaaDoorW.PrintWords Go.Proofs.YtojiighpkppckaaDoorW.PrintLast Go.Proofs.YtojiighpkppckaaDoorW.PrintMore
attribute [local go_sem] max2_int min2_int max_two min_two max_three min_three max_four min_four
set_option linter.unusedVariables false
set_option linter.unusedSimpArgs false
def stepOkS (x : S145) (t : List Bool) : Bool :=
  (decide (x.f2 = 1) || decide (x.f2 = 2)) && (decide (0 ≤ x.f3 ∧ x.f3 ≤ 5000) && (decide (0 ≤ x.f0 ∧ x.f0 ≤ 11) && (decide (0 ≤ x.f1 ∧ x.f1 ≤ 11) && (decide (x.f1 = (x.f0 + 1) % 12) && (t.getD x.f0.toNat false && !t.getD x.f1.toNat false)))))
def planGoS : List S145 → List Bool → Bool
  | [], _ => true
  | x :: r, t => stepOkS x t && planGoS r (t.set x.f1.toNat true)
def planOkS (l : List S145) : Bool := planGoS l (true :: List.replicate 11 false) && decide (l.length ≤ 11)
theorem count_put {t : List Bool} {k : Nat} (hk : k < t.length) (h : t.getD k false = false) : (t.set k true).count true = t.count true + 1 := by
  rw [List.count_set hk]
  simp [List.getD_eq_getElem?_getD, hk] at h
  simp [h]
def spec_PlanOk.f (l0 : List (S145)) : Option (Bool) := some (planOkS l0)
set_option maxHeartbeats 8000000 in
set_option maxRecDepth 100000 in
theorem spec_PlanOk.calls (A0 : Option Addr) (c0 : Nat) (l0 : List (S145)) (r : Bool) (w : World) (hr0 : Kd.C k145 w A0 l0.length l0) (hc0 : l0.length ≤ c0) (h : spec_PlanOk.f l0 = some r) :
    Calls Tryd.prog 102 #[.slice A0 l0.length c0] w fun e w' => e = .returned (.bool r) ∧ Below w.heap.size w w' := by
  have hu67 := Tryd.underlying145
  have H := Option.some.inj h
  clear h
  go_enter Tryd.func102, Tryd.ntmps102
  go_wp2_with (first | ((with_reducible refine gate_dst (N := 6) rfl ?_); refine Kd.R_make Kd.bool _ 4 rfl (N := 6) rfl 174 _ _ rfl 12 rfl rfl Tryd.underlying174 (.bool false) 1 info4 rfl (by decide) (by omega) false (ok := fun _ => True) (okp := fun _ => True) rfl (fun _ hk => hk) trivial (by omega) (by omega) (Below.refl _ _) (Nat.le_refl _) ?_; intro v105 w5 ho6 hb hg_ hnew_; clear hg_ hnew_; have HB := A_ hb; obtain ⟨go4, co4, eo4, gb4, gl4, cl4, HG4⟩ := Kd.R_form ho6 (by decide); subst eo4; have HO := A_ ho6; have GB := A_ gb4; clear ho6 gl4 cl4 HG4 hb gb4; have qi4 : (0 < (List.replicate (Int.toNat 12) false).length) = True := eq_true (by decide); obtain ⟨hx4, hf4⟩ := Kd.R_celln false HO.out (0 : Int) (by omega) (by decide); simp only [Int.toNat_zero] at hx4 hf4))
  go_loopg [4] (l0.length + 1) (fun kq v4 w' => ∃ (i : Nat) (tn : List Bool), v4 = .int .i64 (i : Int) ∧ Aside0 (i + kq = l0.length + 1) ∧ Aside0 (i ≤ l0.length) ∧ Aside0 (tn.length = 12) ∧ Aside0 (tn.count true = i + 1) ∧ Aside0 (Kd.R Kd.bool 4 w' w.heap.size (fun _ => True) (.slice (some ⟨go4, 0, none⟩) 12 co4) tn) ∧ Aside0 ((planGoS (l0.drop i) tn && decide (l0.length ≤ 11)) = r) ∧ Aside0 (Below w.heap.size w w'))
  case atStart =>
    exact ⟨0, true :: List.replicate 11 false, rfl, ⟨by omega⟩, ⟨by omega⟩, ⟨rfl⟩, ⟨by decide⟩, ⟨(Kd.R_putg HO.out (0 : Int) true).1⟩, ⟨by rw [← H]; rfl⟩, ⟨below_set HB.out GB.out⟩⟩
  case round =>
    obtain ⟨i, tn, rfl, HK, HI, HT, HN, HA, HP, HB⟩ := hrel
    clear HO qi4 hx4 hf4
    by_cases hlt : i < l0.length
    rotate_left
    · have hb3 : decide ((i : Int) < (l0.length : Int)) = false := decide_eq_false (by omega)
      have hb4 : decide (i < l0.length) = false := decide_eq_false (by omega)
      have h1 := HP.out
      rw [List.drop_eq_nil_of_le (by omega)] at h1
      by_cases h11 : l0.length ≤ 11
      · obtain rfl : true = r := by rw [← h1]; simp [planGoS, h11]
        have hb5 : decide ((l0.length : Int) ≤ 11) = true := decide_eq_true (by omega)
        have hb6 : decide (l0.length ≤ 11) = true := decide_eq_true (by omega)
        clear h1
        go_wp2
        go_ret
        exact ⟨rfl, HB.out⟩
      · obtain rfl : false = r := by rw [← h1]; simp [planGoS, h11]
        have hb5 : decide ((l0.length : Int) ≤ 11) = false := decide_eq_false (by omega)
        have hb6 : decide (l0.length ≤ 11) = false := decide_eq_false (by omega)
        clear h1
        go_wp2
        go_ret
        exact ⟨rfl, HB.out⟩
    · have hb3 : decide ((i : Int) < (l0.length : Int)) = true := decide_eq_true (by omega)
      have hb4 : decide (i < l0.length) = true := decide_eq_true (by omega)
      obtain ⟨ad, e, hx0, hx1, hx2, hx3⟩ := at_T145 hr0 (i : Int) (by omega) (by omega)
      cases e
      replace hx0 := (HB.out.cell (World.block_lt_of_cell? w _ hx0)).trans hx0
      replace hx1 := (HB.out.cell (World.block_lt_of_cell? w _ hx1)).trans hx1
      replace hx2 := (HB.out.cell (World.block_lt_of_cell? w _ hx2)).trans hx2
      replace hx3 := (HB.out.cell (World.block_lt_of_cell? w _ hx3)).trans hx3
      obtain ⟨x, hx⟩ : ∃ x, rd_T145 l0 (i : Int) = x := ⟨_, rfl⟩
      rw [hx] at hx0 hx1 hx2 hx3
      simp only [Int.toNat_natCast] at hx0 hx1 hx2 hx3
      have hd : (planGoS (l0.drop i) tn && decide (l0.length ≤ 11)) = (stepOkS x tn && (planGoS (l0.drop (i + 1)) (tn.set x.f1.toNat true) && decide (l0.length ≤ 11))) := by
        rw [List.drop_eq_getElem_cons hlt]
        have e0 : l0[i] = x := by rw [← hx]; simp [rd_T145, List.getD_eq_getElem?_getD, hlt]
        rw [e0]; show (stepOkS x tn && planGoS _ _ && _) = _; rw [Bool.and_assoc]
      have HX := A_ hx
      clear hx
      have HD := A_ hd
      clear hd
      have win : ∀ (a b c : Int) (d : Bool) (W : World), decide (b ≤ a ∧ a ≤ c) = d → Calls Tryd.prog 54 #[.int .i64 a, .int .i64 b, .int .i64 c] W fun e w' => e = .returned (.bool d) ∧ Drawn0 W w' := fun a b c d W hd =>
        spec_l01In.calls a b c d W (by rw [← hd]; unfold spec_l01In.f; by_cases hh : b ≤ a <;> simp [hh])
      have tc : ∀ k, k < 12 → ∀ o : Obj, (wr.alloc o).cell? ⟨go4, k, none⟩ = some (.bool (tn.getD k false)) := fun k hk o => by
        have h9 := (Kd.R_celln false (Kd.R_alloc HA.out o) (k : Int) (by omega) (by omega)).1
        simpa [rdOf] using h9
      have tf : ∀ k, k < 12 → ∀ o : Obj, (wr.alloc o).frozen? ⟨go4, k, none⟩ = false := fun k hk o => by
        have h9 := (Kd.R_celln false (Kd.R_alloc HA.out o) (k : Int) (by omega) (by omega)).2
        simpa using h9
      by_cases q0 : x.f2 = 1 ∨ x.f2 = 2
      rotate_left
      · have W0 := A_ fun W => win x.f2 1 2 false W (decide_eq_false (by omega))
        have Q1 := A_ q0
        clear q0 win tc tf
        go_wp2_with (first | (go_at_call 54; (with_reducible refine (W0.out _).mono ?_); rintro e w' ⟨rfl, ⟨nd, rfl⟩⟩))
        all_goals
          obtain rfl : false = r := by
            rw [← HP.out, HD.out]; have := Q1.out; simp only [not_or] at this; simp [stepOkS, this.1, this.2]
          go_ret
          exact ⟨rfl, by repeat (first | exact HB.out | apply below_alloc | apply pw_below_drewN | apply below_drew1)⟩
      have W0 := A_ fun W => win x.f2 1 2 true W (decide_eq_true (by omega))
      have Q0 := A_ q0
      clear q0
      by_cases q1 : 0 ≤ x.f3 ∧ x.f3 ≤ 5000
      rotate_left
      · have W1 := A_ fun W => win x.f3 0 5000 false W (decide_eq_false q1)
        have Q1 := A_ q1
        clear q1 win tc tf
        go_wp2_with (first | (go_at_call 54; (with_reducible refine (W0.out _).mono ?_); rintro e w' ⟨rfl, ⟨nd, rfl⟩⟩) | (go_at_call 54; (with_reducible refine (W1.out _).mono ?_); rintro e w' ⟨rfl, ⟨nd, rfl⟩⟩))
        all_goals
          obtain rfl : false = r := by
            rw [← HP.out, HD.out]; simp [stepOkS, Q1.out]
          go_ret
          exact ⟨rfl, by repeat (first | exact HB.out | apply below_alloc | apply pw_below_drewN | apply below_drew1)⟩
      have W1 := A_ fun W => win x.f3 0 5000 true W (decide_eq_true q1)
      by_cases q2 : 0 ≤ x.f0 ∧ x.f0 ≤ 11
      rotate_left
      · have W2 := A_ fun W => win x.f0 0 11 false W (decide_eq_false q2)
        have Q1 := A_ q2
        clear q1 q2 win tc tf
        go_wp2_with (first | (go_at_call 54; (with_reducible refine (W0.out _).mono ?_); rintro e w' ⟨rfl, ⟨nd, rfl⟩⟩) | (go_at_call 54; (with_reducible refine (W1.out _).mono ?_); rintro e w' ⟨rfl, ⟨nd, rfl⟩⟩) | (go_at_call 54; (with_reducible refine (W2.out _).mono ?_); rintro e w' ⟨rfl, ⟨nd, rfl⟩⟩))
        all_goals
          obtain rfl : false = r := by
            rw [← HP.out, HD.out]; simp [stepOkS, Q1.out]
          go_ret
          exact ⟨rfl, by repeat (first | exact HB.out | apply below_alloc | apply pw_below_drewN | apply below_drew1)⟩
      have W2 := A_ fun W => win x.f0 0 11 true W (decide_eq_true q2)
      clear win
      obtain ⟨q2a, q2b⟩ := q2
      have Q13 := A_ q1
      clear q1
      by_cases q4 : x.f1 = (x.f0 + 1) % 12
      rotate_left
      · have q4a : (x.f1 == (x.f0 + 1) % 12) = false := beq_eq_false_iff_ne.mpr q4
        have q4b : (x.f1 != (x.f0 + 1) % 12) = true := bne_iff_ne.mpr q4
        have Q4 := A_ q4
        clear q4 tc tf
        go_wp2_with (first | (go_at_call 54; (with_reducible refine (W0.out _).mono ?_); rintro e w' ⟨rfl, ⟨nd, rfl⟩⟩) | (go_at_call 54; (with_reducible refine (W1.out _).mono ?_); rintro e w' ⟨rfl, ⟨nd, rfl⟩⟩) | (go_at_call 54; (with_reducible refine (W2.out _).mono ?_); rintro e w' ⟨rfl, ⟨nd, rfl⟩⟩))
        all_goals
          obtain rfl : false = r := by
            rw [← HP.out, HD.out]; simp [stepOkS, Q4.out]
          go_ret
          exact ⟨rfl, by repeat (first | exact HB.out | apply below_alloc | apply pw_below_drewN | apply below_drew1)⟩
      have q4a : (x.f1 == (x.f0 + 1) % 12) = true := beq_iff_eq.mpr q4
      have q4b : (x.f1 != (x.f0 + 1) % 12) = false := bne_eq_false_iff_eq.mpr q4
      have q3a : 0 ≤ x.f1 := by omega
      have q3b : x.f1 ≤ 11 := by omega
      have Q4 := A_ q4
      clear q4
      have hc0 := tc x.f0.toNat (by omega)
      have hc1 := tc x.f1.toNat (by omega)
      have hfz := tf x.f1.toNat (by omega)
      clear tc tf
      obtain ⟨b0, hb0⟩ : ∃ b, tn.getD x.f0.toNat false = b := ⟨_, rfl⟩
      obtain ⟨b1, hb1⟩ : ∃ b, tn.getD x.f1.toNat false = b := ⟨_, rfl⟩
      rw [hb0] at hc0
      rw [hb1] at hc1
      have B0 := A_ hb0
      have B1 := A_ hb1
      clear hb0 hb1
      have qa := decide_eq_true q2a
      have qb : decide (x.f0 < 12) = true := decide_eq_true (by omega)
      have qc := decide_eq_true q3a
      have qd : decide (x.f1 < 12) = true := decide_eq_true (by omega)
      go_wp2_with (first | (go_at_call 54; (with_reducible refine (W0.out _).mono ?_); rintro e w' ⟨rfl, ⟨nd, rfl⟩⟩) | (go_at_call 54; (with_reducible refine (W1.out _).mono ?_); rintro e w' ⟨rfl, ⟨nd, rfl⟩⟩) | (go_at_call 54; (with_reducible refine (W2.out _).mono ?_); rintro e w' ⟨rfl, ⟨nd, rfl⟩⟩))
      all_goals first
        | (go_ret
           have e : false = r := by
             have h3 := B0.out; have h4 := B1.out
             rw [← HP.out, HD.out]; unfold stepOkS; rw [h3, h4]; simp [*]
           subst e
           exact ⟨rfl, by repeat (first | exact HB.out | apply below_alloc | apply pw_below_drewN | apply below_drew1)⟩)
        | (go_roundg (gk - 1)
           case measure => have := HK.out; omega
           case rel =>
             have hi : i ≤ 11 := by have h1 := HN.out; have h2 := HT.out; have h3 := @List.count_le_length _ _ true tn; omega
             have hn : (tn.set x.f1.toNat true).count true = i + 1 + 1 := by rw [count_put (by have := HT.out; omega) (by rw [B1.out]; first | assumption | simp [*]), HN.out]
             refine ⟨i + 1, tn.set x.f1.toNat true, by rw [show wrap64 ((i : Int) + 1) = ((i + 1 : Nat) : Int) by unfold wrap64; omega], ⟨by have := HK.out; omega⟩, ⟨by omega⟩, ⟨by rw [List.length_set]; exact HT.out⟩, ⟨hn⟩, ⟨?_⟩, ⟨?_⟩, ⟨?_⟩⟩
             · refine (Kd.R_putg ?_ x.f1 true).1
               with_reducible repeat (first | apply Kd.R_alloc | apply Kd.R_drewN | apply Kd.R_drew)
               exact HA.out
             · rw [← HP.out, HD.out]
               have e : stepOkS x tn = true := by
                 have h0 := Q0.out; have h1 := Q4.out; have h2 := Q13.out; have h3 := B0.out; have h4 := B1.out
                 unfold stepOkS; rw [h3, h4]; simp [*]; omega
               rw [e, Bool.true_and]
             · refine below_set ?_ GB.out
               repeat (first | exact HB.out | apply below_alloc | apply pw_below_drewN | apply below_drew1))
end Go.Proofs.YtojiighpkppckaaDoor.P


namespace Go.Proofs.YtojiighpkppckaaDoor.P
open Go.RowKit Go.Proofs.YtojiighpkppckaaDoorW.PrintWords Go.Proofs.YtojiighpkppckaaDoorW.PrintLast Go.Proofs.YtojiighpkppckaaDoorW.PrintMore
attribute [local go_sem] max2_int min2_int max_two min_two max_three min_three max_four min_four
set_option linter.unusedVariables false
set_option linter.unusedSimpArgs false
def spec_l18Pitch.f (a0 : Int) : Option (Bool) := (spec_l01In.f a0 1 10000000).bind fun t263 => (some t263)
set_option maxHeartbeats 8000000 in
set_option maxRecDepth 100000 in
theorem spec_l18Pitch.calls (a0 : Int) (r : Bool) (w : World) (h : spec_l18Pitch.f a0 = some r) :
  Calls Tryd.prog 104 #[.int .i64 a0] w fun e w' => e = .returned (.bool r) ∧ Drawn0 w w' := by
 have H : ((spec_l01In.f a0 1 10000000).bind fun t263 => (some t263)) = some r := h
 clear h
 replace H := Option.bind_eq_some_iff.mp H
 obtain ⟨t263, A20, H⟩ := H
 (try dsimp only at H)
 have A2 := A_ A20
 clear A20
 obtain rfl := Option.some.inj H
 go_enter Tryd.func104, Tryd.ntmps104
 go_wp2_with (first | ((with_reducible refine gate_callee (f := 54) rfl ?_); refine gL (some 4) Tryd.func54 #[.int .i64 a0, .int .i64 1, .int .i64 10000000] ?_; (with_reducible refine (spec_l01In.calls a0 1 10000000 t263 _ A2.out).mono ?_); rintro e w' ⟨rfl, ⟨nd, rfl⟩⟩; refine ⟨_, rfl, ?_⟩))
 go_ret
 exact ⟨by first | rfl | (simp; done) | (simp [*]; done), by repeat (first | exact Drawn0.refl _ | apply Drawn0.step)⟩
end Go.Proofs.YtojiighpkppckaaDoor.P


namespace Go.Proofs.YtojiighpkppckaaDoor.P
open Go.RowKit Go.Proofs.YtojiighpkppckaaDoorW.PrintWords Go.Proofs.YtojiighpkppckaaDoorW.PrintLast Go.Proofs.YtojiighpkppckaaDoorW.PrintMore
attribute [local go_sem] max2_int min2_int max_two min_two max_three min_three max_four min_four
set_option linter.unusedVariables false
set_option linter.unusedSimpArgs false
mutual
def spec_TunedPitch.j0 : Nat → Int → Int → Int → Bool → Option (Int)
 | 0, _, _, _, _ => none
 | k + 1, x0, x1, x2, x15 => if x15 = true then (some 0) else (if x1 = 1 then ((spec_l18Pitch.f (wrap64 (Int.tdiv (mx 0 (wrap64 ((wrap64 (3 * x0)) - x2))) 2))).bind fun t266 => (if t266 = true then (some (wrap64 (Int.tdiv (mx 0 (wrap64 ((wrap64 (3 * x0)) - x2))) 2))) else (some 0))) else (if x1 = 2 then ((spec_l18Pitch.f (wrap64 (Int.tdiv (mx 0 (wrap64 ((wrap64 (3 * x0)) - x2))) 4))).bind fun t267 => (if t267 = true then (some (wrap64 (Int.tdiv (mx 0 (wrap64 ((wrap64 (3 * x0)) - x2))) 4))) else (some 0))) else (if x1 = 3 then (spec_TunedPitch.j1 k x0 x1 x2 0 (x2 == 0)) else (spec_TunedPitch.j1 k x0 x1 x2 0 false))))
def spec_TunedPitch.j1 : Nat → Int → Int → Int → Int → Bool → Option (Int)
 | 0, _, _, _, _, _ => none
 | k + 1, x0, x1, x2, x7, x34 => if x34 = true then ((spec_l18Pitch.f (wrap64 (2 * x0))).bind fun t268 => (if t268 = true then (some (wrap64 (2 * x0))) else (some 0))) else (if x1 = 4 then (spec_TunedPitch.j2 k x0 x7 (x2 == 0)) else (spec_TunedPitch.j2 k x0 x7 false))
def spec_TunedPitch.j2 : Nat → Int → Int → Bool → Option (Int)
 | 0, _, _, _ => none
 | k + 1, x0, x7, x43 => if x43 = true then ((spec_l18Pitch.f (wrap64 (Int.tdiv x0 2))).bind fun t269 => (if t269 = true then (some (wrap64 (Int.tdiv x0 2))) else (some 0))) else ((spec_l18Pitch.f x7).bind fun t270 => (if t270 = true then (some x7) else (some 0)))
end
def spec_TunedPitch.f (k : Nat) (a0 : Int) (a1 : Int) (a2 : Int) : Option (Int) := (spec_l18Pitch.f a0).bind fun t264 => (if t264 = true then ((spec_l01In.f a2 0 100000).bind fun t265 => (spec_TunedPitch.j0 k a0 a1 a2 (!t265))) else (spec_TunedPitch.j0 k a0 a1 a2 true))
set_option maxHeartbeats 8000000 in
set_option maxRecDepth 100000 in
theorem spec_TunedPitch.calls (k : Nat) (a0 : Int) (a1 : Int) (a2 : Int) (r : Int) (w : World) (h : spec_TunedPitch.f k a0 a1 a2 = some r) :
  Calls Tryd.prog 138 #[.int .i64 a0, .int .i64 a1, .int .i64 a2] w fun e w' => e = .returned (.int .i64 r) ∧ Below w.heap.size w w' := by
 have HB := A_ (Below.refl w.heap.size w)
 have H : ((spec_l18Pitch.f a0).bind fun t264 => (if t264 = true then ((spec_l01In.f a2 0 100000).bind fun t265 => (spec_TunedPitch.j0 k a0 a1 a2 (!t265))) else (spec_TunedPitch.j0 k a0 a1 a2 true))) = some r := h
 clear h
 have HC4 := A_ H
 clear H
 go_enter Tryd.func138, Tryd.ntmps138
 go_upto_region 1 with (fail)
 go_cut [15] (fun v15 wc => ∃ (kq : Nat) (x15_3 : Bool), v15 = .bool x15_3 ∧ Aside0 (spec_TunedPitch.j0 kq a0 a1 a2 x15_3 = some r) ∧ Aside0 (kq ≤ k) ∧ Aside0 (Below w.heap.size w wc))
 case first =>
  have H := HC4.out
  clear HC4
  replace H := Option.bind_eq_some_iff.mp H
  obtain ⟨t264, A50, H⟩ := H
  (try dsimp only at H)
  have A5 := A_ A50
  clear A50
  by_cases c6 : t264 = true
  ·subst c6
   rw [if_pos rfl] at H
   replace H := Option.bind_eq_some_iff.mp H
   obtain ⟨t265, A70, H⟩ := H
   (try dsimp only at H)
   have A7 := A_ A70
   clear A70
   have H' := A_ H
   clear H
   go_wp2_with (first | ((with_reducible refine gate_callee (f := 104) rfl ?_); refine gL (some 9) Tryd.func104 #[.int .i64 a0] ?_; (with_reducible refine (spec_l18Pitch.calls a0 true _ A5.out).mono ?_); rintro e w' ⟨rfl, ⟨nd, rfl⟩⟩; refine ⟨_, rfl, ?_⟩) | (go_at_call 54; (with_reducible refine (spec_l01In.calls a2 0 100000 t265 _ A7.out).mono ?_); rintro e w' ⟨rfl, ⟨nd, rfl⟩⟩))
   go_meet
   case rel => exact ⟨_, (!t265), (by first | rfl | (simp; done) | (simp [*]; done)), H', ⟨by first | omega | exact Nat.le_refl _⟩, ⟨oB HB⟩⟩
  ·replace c6 := Bool.eq_false_iff.mpr c6
   subst c6
   rw [if_neg (show ¬ (false = true) by decide)] at H
   have H' := A_ H
   clear H
   go_wp2_with (first | ((with_reducible refine gate_callee (f := 104) rfl ?_); refine gL (some 9) Tryd.func104 #[.int .i64 a0] ?_; (with_reducible refine (spec_l18Pitch.calls a0 false _ A5.out).mono ?_); rintro e w' ⟨rfl, ⟨nd, rfl⟩⟩; refine ⟨_, rfl, ?_⟩))
   go_meet
   case rel => exact ⟨_, (true), (by first | rfl | (simp; done) | (simp [*]; done)), H', ⟨by first | omega | exact Nat.le_refl _⟩, ⟨oB HB⟩⟩
 case rest =>
  clear HC4
  try clear c1
  try clear p2
  try clear c6
  obtain ⟨kq, x15_3, rfl, HA, HJ3, HB⟩ := hcut
  cases kq with
  | zero => exact absurd HA.out (by simp [spec_TunedPitch.j0])
  | succ kj3 =>
   have H := HA.out
   clear HA
   simp only [spec_TunedPitch.j0] at H
   by_cases c8 : x15_3 = true
   ·subst c8
    rw [if_pos rfl] at H
    obtain rfl := Option.some.inj H
    go_wp2
    go_ret
    exact ⟨eR, oB HB⟩
   ·replace c8 := Bool.eq_false_iff.mpr c8
    subst c8
    rw [if_neg (show ¬ (false = true) by decide)] at H
    by_cases c9 : a1 = 1
    ·rw [if_pos c9] at H
     have c9b0 : (a1 == 1) = true := beq_iff_eq.mpr c9
     have c9b1 : (a1 != 1) = false := bne_eq_false_iff_eq.mpr c9
     clear c9
     obtain ⟨ji10, hji10⟩ : ∃ j_ : Int, (mx 0 (wrap64 ((wrap64 (3 * a0)) - a2))) = j_ := ⟨_, rfl⟩
     replace H : ((spec_l18Pitch.f (wrap64 (Int.tdiv (ji10) 2))).bind fun t266 => (if t266 = true then (some (wrap64 (Int.tdiv (ji10) 2))) else (some 0))) = some r := by first | (rw [hji10] at H; exact H) | (simp only [hji10] at H ⊢; exact H)
     have hji10_ : (if 0 < (wrap64 ((wrap64 (3 * a0)) - a2)) then (wrap64 ((wrap64 (3 * a0)) - a2)) else 0) = ji10 := hji10
     replace H := Option.bind_eq_some_iff.mp H
     obtain ⟨t266, A110, H⟩ := H
     (try dsimp only at H)
     have A11 := A_ A110
     clear A110
     by_cases c12 : t266 = true
     ·subst c12
      rw [if_pos rfl] at H
      obtain rfl := Option.some.inj H
      go_wp2_with (first | ((with_reducible refine gate_callee (f := 104) rfl ?_); refine goesL_ (some 53) rfl rfl Tryd.func104 (by kernel_rfl) rfl #[.int .i64 (wrap64 (Int.tdiv (ji10) 2))] rfl (by (try simp only [List.map_toArray, List.map_cons, List.map_nil]); first | done | (simp only [hji10]; rfl) | rfl | (simp only [List.length_drop, List.length_take]; rfl)) ?_; (with_reducible refine (spec_l18Pitch.calls (wrap64 (Int.tdiv (ji10) 2)) true _ A11.out).mono ?_); rintro e w' ⟨rfl, ⟨nd, rfl⟩⟩; refine ⟨_, rfl, ?_⟩))
      go_ret
      exact ⟨by first | rfl | (simp [errW_none, errW_some] <;> rfl) | (simp only [← hji10]; first | rfl | (simp [errW_none, errW_some] <;> rfl)) | (simp [*, errW_none, errW_some] <;> rfl), oB HB⟩
     ·replace c12 := Bool.eq_false_iff.mpr c12
      subst c12
      rw [if_neg (show ¬ (false = true) by decide)] at H
      obtain rfl := Option.some.inj H
      go_wp2_with (first | ((with_reducible refine gate_callee (f := 104) rfl ?_); refine goesL_ (some 53) rfl rfl Tryd.func104 (by kernel_rfl) rfl #[.int .i64 (wrap64 (Int.tdiv (ji10) 2))] rfl (by (try simp only [List.map_toArray, List.map_cons, List.map_nil]); first | done | (simp only [hji10]; rfl) | rfl | (simp only [List.length_drop, List.length_take]; rfl)) ?_; (with_reducible refine (spec_l18Pitch.calls (wrap64 (Int.tdiv (ji10) 2)) false _ A11.out).mono ?_); rintro e w' ⟨rfl, ⟨nd, rfl⟩⟩; refine ⟨_, rfl, ?_⟩))
      go_ret
      exact ⟨by first | rfl | (simp [errW_none, errW_some] <;> rfl) | (simp only [← hji10]; first | rfl | (simp [errW_none, errW_some] <;> rfl)) | (simp [*, errW_none, errW_some] <;> rfl), oB HB⟩
    ·rw [if_neg c9] at H
     have c9b0 : (a1 == 1) = false := beq_eq_false_iff_ne.mpr c9
     have c9b1 : (a1 != 1) = true := bne_iff_ne.mpr c9
     by_cases c13 : a1 = 2
     ·rw [if_pos c13] at H
      have c13b0 : (a1 == 2) = true := beq_iff_eq.mpr c13
      have c13b1 : (a1 != 2) = false := bne_eq_false_iff_eq.mpr c13
      clear c13
      obtain ⟨ji14, hji14⟩ : ∃ j_ : Int, (mx 0 (wrap64 ((wrap64 (3 * a0)) - a2))) = j_ := ⟨_, rfl⟩
      replace H : ((spec_l18Pitch.f (wrap64 (Int.tdiv (ji14) 4))).bind fun t267 => (if t267 = true then (some (wrap64 (Int.tdiv (ji14) 4))) else (some 0))) = some r := by first | (rw [hji14] at H; exact H) | (simp only [hji14] at H ⊢; exact H)
      have hji14_ : (if 0 < (wrap64 ((wrap64 (3 * a0)) - a2)) then (wrap64 ((wrap64 (3 * a0)) - a2)) else 0) = ji14 := hji14
      replace H := Option.bind_eq_some_iff.mp H
      obtain ⟨t267, A150, H⟩ := H
      (try dsimp only at H)
      have A15 := A_ A150
      clear A150
      by_cases c16 : t267 = true
      ·subst c16
       rw [if_pos rfl] at H
       obtain rfl := Option.some.inj H
       go_wp2_with (first | ((with_reducible refine gate_callee (f := 104) rfl ?_); refine goesL_ (some 53) rfl rfl Tryd.func104 (by kernel_rfl) rfl #[.int .i64 (wrap64 (Int.tdiv (ji14) 4))] rfl (by (try simp only [List.map_toArray, List.map_cons, List.map_nil]); first | done | (simp only [hji14]; rfl) | rfl | (simp only [List.length_drop, List.length_take]; rfl)) ?_; (with_reducible refine (spec_l18Pitch.calls (wrap64 (Int.tdiv (ji14) 4)) true _ A15.out).mono ?_); rintro e w' ⟨rfl, ⟨nd, rfl⟩⟩; refine ⟨_, rfl, ?_⟩))
       go_ret
       exact ⟨by first | rfl | (simp [errW_none, errW_some] <;> rfl) | (simp only [← hji14]; first | rfl | (simp [errW_none, errW_some] <;> rfl)) | (simp [*, errW_none, errW_some] <;> rfl), oB HB⟩
      ·replace c16 := Bool.eq_false_iff.mpr c16
       subst c16
       rw [if_neg (show ¬ (false = true) by decide)] at H
       obtain rfl := Option.some.inj H
       go_wp2_with (first | ((with_reducible refine gate_callee (f := 104) rfl ?_); refine goesL_ (some 53) rfl rfl Tryd.func104 (by kernel_rfl) rfl #[.int .i64 (wrap64 (Int.tdiv (ji14) 4))] rfl (by (try simp only [List.map_toArray, List.map_cons, List.map_nil]); first | done | (simp only [hji14]; rfl) | rfl | (simp only [List.length_drop, List.length_take]; rfl)) ?_; (with_reducible refine (spec_l18Pitch.calls (wrap64 (Int.tdiv (ji14) 4)) false _ A15.out).mono ?_); rintro e w' ⟨rfl, ⟨nd, rfl⟩⟩; refine ⟨_, rfl, ?_⟩))
       go_ret
       exact ⟨by first | rfl | (simp [errW_none, errW_some] <;> rfl) | (simp only [← hji14]; first | rfl | (simp [errW_none, errW_some] <;> rfl)) | (simp [*, errW_none, errW_some] <;> rfl), oB HB⟩
     ·rw [if_neg c13] at H
      have c13b0 : (a1 == 2) = false := beq_eq_false_iff_ne.mpr c13
      have c13b1 : (a1 != 2) = true := bne_iff_ne.mpr c13
      have HC17 := A_ H
      clear H
      go_upto_region 8 with (fail)
      go_cut [34] (fun v34 wc => ∃ (kq : Nat) (x34_16 : Bool), v34 = .bool x34_16 ∧ Aside0 (spec_TunedPitch.j1 kq a0 a1 a2 0 x34_16 = some r) ∧ Aside0 (kq ≤ kj3) ∧ Aside0 (Below w.heap.size w wc))
      case first =>
       have H := HC17.out
       clear HC17
       by_cases c18 : a1 = 3
       ·rw [if_pos c18] at H
        have c18b0 : (a1 == 3) = true := beq_iff_eq.mpr c18
        have c18b1 : (a1 != 3) = false := bne_eq_false_iff_eq.mpr c18
        clear c18
        (first | rw [c18b0] | (simp only [i64_w, i32_w]; rw [c18b0]) | skip)
        have H' := A_ H
        clear H
        go_wp2
        go_meet
        case rel => exact ⟨_, ((a2 == 0)), (by first | rfl | (simp; done) | (simp [*]; done)), H', ⟨by have := HJ3.out; first | omega | exact Nat.le_refl _⟩, ⟨oB HB⟩⟩
       ·rw [if_neg c18] at H
        have c18b0 : (a1 == 3) = false := beq_eq_false_iff_ne.mpr c18
        have c18b1 : (a1 != 3) = true := bne_iff_ne.mpr c18
        (first | rw [c18b0] | (simp only [i64_w, i32_w]; rw [c18b0]) | skip)
        have H' := A_ H
        clear H
        go_wp2
        go_meet
        case rel => exact ⟨_, (false), (by first | rfl | (simp; done) | (simp [*]; done)), H', ⟨by have := HJ3.out; first | omega | exact Nat.le_refl _⟩, ⟨oB HB⟩⟩
      case rest =>
       clear HC17
       try clear c1
       try clear p2
       try clear c6
       try clear p6
       try clear c8
       try clear c9
       try clear c9b0
       try clear c9b1
       try clear c10
       try clear c12
       try clear c13
       try clear c13b0
       try clear c13b1
       try clear c16
       try clear c18
       try clear c18b0
       try clear c18b1
       try clear p2
       obtain ⟨kq, x34_16, rfl, HA, HJ16, HB⟩ := hcut
       cases kq with
       | zero => exact absurd HA.out (by simp [spec_TunedPitch.j1])
       | succ kj16 =>
        have H := HA.out
        clear HA
        simp only [spec_TunedPitch.j1] at H
        by_cases c19 : x34_16 = true
        ·subst c19
         rw [if_pos rfl] at H
         replace H := Option.bind_eq_some_iff.mp H
         obtain ⟨t268, A200, H⟩ := H
         (try dsimp only at H)
         have A20 := A_ A200
         clear A200
         by_cases c21 : t268 = true
         ·subst c21
          rw [if_pos rfl] at H
          obtain rfl := Option.some.inj H
          go_wp2_with (first | ((with_reducible refine gate_callee (f := 104) rfl ?_); refine gL (some 53) Tryd.func104 #[.int .i64 (wrap64 (2 * a0))] ?_; (with_reducible refine (spec_l18Pitch.calls (wrap64 (2 * a0)) true _ A20.out).mono ?_); rintro e w' ⟨rfl, ⟨nd, rfl⟩⟩; refine ⟨_, rfl, ?_⟩))
          go_ret
          exact ⟨eR, oB HB⟩
         ·replace c21 := Bool.eq_false_iff.mpr c21
          subst c21
          rw [if_neg (show ¬ (false = true) by decide)] at H
          obtain rfl := Option.some.inj H
          go_wp2_with (first | ((with_reducible refine gate_callee (f := 104) rfl ?_); refine gL (some 53) Tryd.func104 #[.int .i64 (wrap64 (2 * a0))] ?_; (with_reducible refine (spec_l18Pitch.calls (wrap64 (2 * a0)) false _ A20.out).mono ?_); rintro e w' ⟨rfl, ⟨nd, rfl⟩⟩; refine ⟨_, rfl, ?_⟩))
          go_ret
          exact ⟨eR, oB HB⟩
        ·replace c19 := Bool.eq_false_iff.mpr c19
         subst c19
         rw [if_neg (show ¬ (false = true) by decide)] at H
         have HC22 := A_ H
         clear H
         go_upto_region 10 with (fail)
         go_cut [43] (fun v43 wc => ∃ (kq : Nat) (x43_21 : Bool), v43 = .bool x43_21 ∧ Aside0 (spec_TunedPitch.j2 kq a0 0 x43_21 = some r) ∧ Aside0 (kq ≤ kj16) ∧ Aside0 (Below w.heap.size w wc))
         case first =>
          have H := HC22.out
          clear HC22
          by_cases c23 : a1 = 4
          ·rw [if_pos c23] at H
           have c23b0 : (a1 == 4) = true := beq_iff_eq.mpr c23
           have c23b1 : (a1 != 4) = false := bne_eq_false_iff_eq.mpr c23
           clear c23
           (first | rw [c23b0] | (simp only [i64_w, i32_w]; rw [c23b0]) | skip)
           have H' := A_ H
           clear H
           go_wp2
           go_meet
           case rel => exact ⟨_, ((a2 == 0)), (by first | rfl | (simp; done) | (simp [*]; done)), H', ⟨by have := HJ3.out; have := HJ16.out; first | omega | exact Nat.le_refl _⟩, ⟨oB HB⟩⟩
          ·rw [if_neg c23] at H
           have c23b0 : (a1 == 4) = false := beq_eq_false_iff_ne.mpr c23
           have c23b1 : (a1 != 4) = true := bne_iff_ne.mpr c23
           (first | rw [c23b0] | (simp only [i64_w, i32_w]; rw [c23b0]) | skip)
           have H' := A_ H
           clear H
           go_wp2
           go_meet
           case rel => exact ⟨_, (false), (by first | rfl | (simp; done) | (simp [*]; done)), H', ⟨by have := HJ3.out; have := HJ16.out; first | omega | exact Nat.le_refl _⟩, ⟨oB HB⟩⟩
         case rest =>
          clear HC22
          try clear c1
          try clear c2
          try clear p2
          try clear c6
          try clear p6
          try clear c8
          try clear c9
          try clear c9b0
          try clear c9b1
          try clear c10
          try clear c12
          try clear c13
          try clear c13b0
          try clear c13b1
          try clear c16
          try clear c18
          try clear c18b0
          try clear c18b1
          try clear c19
          try clear c21
          try clear c23
          try clear c23b0
          try clear c23b1
          try clear p2
          try clear p6
          obtain ⟨kq, x43_21, rfl, HA, HJ21, HB⟩ := hcut
          cases kq with
          | zero => exact absurd HA.out (by simp [spec_TunedPitch.j2])
          | succ kj21 =>
           have H := HA.out
           clear HA
           simp only [spec_TunedPitch.j2] at H
           by_cases c24 : x43_21 = true
           ·subst c24
            rw [if_pos rfl] at H
            replace H := Option.bind_eq_some_iff.mp H
            obtain ⟨t269, A250, H⟩ := H
            (try dsimp only at H)
            have A25 := A_ A250
            clear A250
            by_cases c26 : t269 = true
            ·subst c26
             rw [if_pos rfl] at H
             obtain rfl := Option.some.inj H
             go_wp2_with (first | ((with_reducible refine gate_callee (f := 104) rfl ?_); refine gL (some 53) Tryd.func104 #[.int .i64 (wrap64 (Int.tdiv a0 2))] ?_; (with_reducible refine (spec_l18Pitch.calls (wrap64 (Int.tdiv a0 2)) true _ A25.out).mono ?_); rintro e w' ⟨rfl, ⟨nd, rfl⟩⟩; refine ⟨_, rfl, ?_⟩))
             go_ret
             exact ⟨eR, oB HB⟩
            ·replace c26 := Bool.eq_false_iff.mpr c26
             subst c26
             rw [if_neg (show ¬ (false = true) by decide)] at H
             obtain rfl := Option.some.inj H
             go_wp2_with (first | ((with_reducible refine gate_callee (f := 104) rfl ?_); refine gL (some 53) Tryd.func104 #[.int .i64 (wrap64 (Int.tdiv a0 2))] ?_; (with_reducible refine (spec_l18Pitch.calls (wrap64 (Int.tdiv a0 2)) false _ A25.out).mono ?_); rintro e w' ⟨rfl, ⟨nd, rfl⟩⟩; refine ⟨_, rfl, ?_⟩))
             go_ret
             exact ⟨eR, oB HB⟩
           ·replace c24 := Bool.eq_false_iff.mpr c24
            subst c24
            rw [if_neg (show ¬ (false = true) by decide)] at H
            replace H := Option.bind_eq_some_iff.mp H
            obtain ⟨t270, A270, H⟩ := H
            (try dsimp only at H)
            have A27 := A_ A270
            clear A270
            by_cases c28 : t270 = true
            ·subst c28
             rw [if_pos rfl] at H
             obtain rfl := Option.some.inj H
             go_wp2_with (first | ((with_reducible refine gate_callee (f := 104) rfl ?_); refine gL (some 53) Tryd.func104 #[.int .i64 0] ?_; (with_reducible refine (spec_l18Pitch.calls 0 true _ A27.out).mono ?_); rintro e w' ⟨rfl, ⟨nd, rfl⟩⟩; refine ⟨_, rfl, ?_⟩))
             go_ret
             exact ⟨eR, oB HB⟩
            ·replace c28 := Bool.eq_false_iff.mpr c28
             subst c28
             rw [if_neg (show ¬ (false = true) by decide)] at H
             obtain rfl := Option.some.inj H
             go_wp2_with (first | ((with_reducible refine gate_callee (f := 104) rfl ?_); refine gL (some 53) Tryd.func104 #[.int .i64 0] ?_; (with_reducible refine (spec_l18Pitch.calls 0 false _ A27.out).mono ?_); rintro e w' ⟨rfl, ⟨nd, rfl⟩⟩; refine ⟨_, rfl, ?_⟩))
             go_ret
             exact ⟨eR, oB HB⟩
end Go.Proofs.YtojiighpkppckaaDoor.P


namespace Go.Proofs.YtojiighpkppckaaDoor.P
open Go.RowKit Go.Proofs.YtojiighpkppckaaDoorW.PrintWords Go.Proofs.YtojiighpkppckaaDoorW.PrintLast Go.Proofs.YtojiighpkppckaaDoorW.PrintMore
attribute [local go_sem] max2_int min2_int max_two min_two max_three min_three max_four min_four
set_option linter.unusedVariables false
set_option linter.unusedSimpArgs false
mutual
def spec_RunPlan.j0 : Nat → Int → List (S145) → Bool → Option (List Int × Bool)
 | 0, _, _, _ => none
 | k + 1, x0, x1, x16 => if x16 = true then (some ((([] : List Int)), false)) else (if 12 ≤ 35184372088832 then ((some (List.replicate 12 0 : List Int)).bind fun y276 => (if 0 < (y276.length : Int) then (spec_RunPlan.l0 k x1 (y276.set (0 : Int).toNat x0) 0) else (none))) else (none))
def spec_RunPlan.l0 : Nat → List (S145) → List Int → Int → Option (List Int × Bool)
 | 0, _, _, _ => none
 | k + 1, x1, x6, x7 => if x7 < (x1.length : Int) then (if 0 ≤ x7 then (if 0 ≤ ((rd_T145 x1 x7).f0) then (if ((rd_T145 x1 x7).f0) < (x6.length : Int) then ((spec_TunedPitch.f k (rd x6 ((rd_T145 x1 x7).f0)) ((rd_T145 x1 x7).f2) ((rd_T145 x1 x7).f3)).bind fun t284 => (if t284 = 0 then (some ((([] : List Int)), false)) else (if 0 ≤ ((rd_T145 x1 x7).f1) then (if ((rd_T145 x1 x7).f1) < (x6.length : Int) then (spec_RunPlan.l0 k x1 (x6.set (((rd_T145 x1 x7).f1) : Int).toNat t284) (wrap64 (x7 + 1))) else (none)) else (none)))) else (none)) else (none)) else (none)) else (some (x6, true))
end
def spec_RunPlan.f (k : Nat) (a0 : Int) (l1 : List (S145)) : Option (List Int × Bool) := (spec_PlanOk.f l1).bind fun t271 => (if t271 = true then ((spec_l18Pitch.f a0).bind fun t272 => (spec_RunPlan.j0 k a0 l1 (!t272))) else (spec_RunPlan.j0 k a0 l1 true))
def spec_RunPlan.T8 : Bool × List (List Nat × List Nat) := (true, [([], []), ([], []), ([], []), ([1, 2], [1, 2]), ([3], [3]), ([4], [4]), ([0, 5], [0, 5]), ([6], [6]), ([], []), ([], []), ([8, 9], [8, 9]), ([10], [10]), ([11], [11]), ([], []), ([], []), ([13, 14], [13, 14]), ([15], [15]), ([16], [16]), ([7, 12, 17], [7, 12, 17]), ([18, 18, 0, 1, 2, 3, 4, 5, 6, 7, 8, 9, 10, 11, 12, 13, 14, 15, 16, 17, 18], [18])])
def spec_RunPlan.B8 : List Nat := [0, 0, 0, 6, 14, 30, 63, 127, 0, 0, 768, 1792, 3840, 0, 0, 24576, 57344, 122880, 262143, 524287]
theorem spec_RunPlan.tab8 : rtab .any (opsOf Tryd.f134 8) = spec_RunPlan.T8 := by kernel_rfl
theorem spec_RunPlan.bits8 : waitsOk spec_RunPlan.T8.2 spec_RunPlan.B8 = true := by kernel_rfl
set_option maxHeartbeats 8000000 in
set_option maxRecDepth 100000 in
theorem spec_RunPlan.calls (k : Nat) (a0 : Int) (A1 : Option Addr) (c1 : Nat) (l1 : List (S145)) (r1 : List Int) (r2 : Bool) (w : World) (hr1 : Kd.C k145 w A1 l1.length l1) (hc1 : l1.length ≤ c1) (h : spec_RunPlan.f k a0 l1 = some (r1, r2)) :
  Calls Tryd.prog 134 #[.int .i64 a0, .slice A1 l1.length c1] w fun e w' => ∃ v0_ : Value, e = .returned (.tuple #[v0_, .bool r2]) ∧ Kd.R (Kd.int .i64) 3 w' w.heap.size (fun _ => True) v0_ r1 ∧ Below w.heap.size w w' := by
 have HR1 := A_ hr1
 have HC1 := A_ hc1
 clear hr1 hc1
 have HB := A_ (Below.refl w.heap.size w)
 have H : ((spec_PlanOk.f l1).bind fun t271 => (if t271 = true then ((spec_l18Pitch.f a0).bind fun t272 => (spec_RunPlan.j0 k a0 l1 (!t272))) else (spec_RunPlan.j0 k a0 l1 true))) = some (r1, r2) := h
 clear h
 have HC3 := A_ H
 clear H
 go_enter Tryd.func134, Tryd.ntmps134
 go_upto_region 1 with (fail)
 go_cut [16] (fun v16 wc => ∃ (kq : Nat) (x16_2 : Bool), v16 = .bool x16_2 ∧ Aside0 (spec_RunPlan.j0 kq a0 l1 x16_2 = some (r1, r2)) ∧ Aside0 (kq ≤ k) ∧ Aside0 (Below w.heap.size w wc))
 case first =>
  have H := HC3.out
  clear HC3
  replace H := Option.bind_eq_some_iff.mp H
  obtain ⟨t271, A40, H⟩ := H
  (try dsimp only at H)
  have A4 := A_ A40
  clear A40
  by_cases c5 : t271 = true
  ·subst c5
   rw [if_pos rfl] at H
   replace H := Option.bind_eq_some_iff.mp H
   obtain ⟨t272, A60, H⟩ := H
   (try dsimp only at H)
   have A6 := A_ A60
   clear A60
   have H' := A_ H
   clear H
   go_wp2_with (first | ((with_reducible refine gate_callee (f := 102) rfl ?_); refine gL (some 10) Tryd.func102 #[.slice A1 l1.length c1] ?_; (with_reducible refine (spec_PlanOk.calls _ _ l1 true _ ?side1 ?side2 A4.out).mono ?_); (case side1 => exact oc_ HR1.out); (case side2 => exact HC1.out); rintro e w7 ⟨rfl, hb⟩; refine ⟨_, rfl, ?_⟩; have n0_ := A_ (below_step (oB HB) hb); clear HB; have HB := n0_; clear n0_; (try clear hb); (try clear hb2); (try clear hk); (try clear hi)) | (go_at_call 104; (with_reducible refine (spec_l18Pitch.calls a0 t272 _ A6.out).mono ?_); rintro e w' ⟨rfl, ⟨nd, rfl⟩⟩))
   go_meet
   case rel => exact ⟨_, (!t272), (by first | rfl | (simp; done) | (simp [*]; done)), H', ⟨by first | omega | exact Nat.le_refl _⟩, ⟨oB HB⟩⟩
  ·replace c5 := Bool.eq_false_iff.mpr c5
   subst c5
   rw [if_neg (show ¬ (false = true) by decide)] at H
   have H' := A_ H
   clear H
   go_wp2_with (first | ((with_reducible refine gate_callee (f := 102) rfl ?_); refine gL (some 10) Tryd.func102 #[.slice A1 l1.length c1] ?_; (with_reducible refine (spec_PlanOk.calls _ _ l1 false _ ?side1 ?side2 A4.out).mono ?_); (case side1 => exact oc_ HR1.out); (case side2 => exact HC1.out); rintro e w8 ⟨rfl, hb⟩; refine ⟨_, rfl, ?_⟩; have n0_ := A_ (below_step (oB HB) hb); clear HB; have HB := n0_; clear n0_; (try clear hb); (try clear hb2); (try clear hk); (try clear hi)))
   go_meet
   case rel => exact ⟨_, (true), (by first | rfl | (simp; done) | (simp [*]; done)), H', ⟨by first | omega | exact Nat.le_refl _⟩, ⟨oB HB⟩⟩
 case rest =>
  clear HC3
  try clear c1
  try clear p2
  try clear c5
  obtain ⟨kq, x16_2, rfl, HA, HJ2, HB⟩ := hcut
  cases kq with
  | zero => exact absurd HA.out (by simp [spec_RunPlan.j0])
  | succ kj2 =>
   have H := HA.out
   clear HA
   simp only [spec_RunPlan.j0] at H
   by_cases c9 : x16_2 = true
   ·subst c9
    rw [if_pos rfl] at H
    obtain ⟨y273, hy273⟩ : ∃ y_ : List Int, y_ = (([] : List Int)) := ⟨_, rfl⟩
    replace H : (some (y273, false)) = some (r1, r2) := by first | (rw [hy273]; with_reducible exact H) | (have H2_ := (Option.bind_some _ _).symm.trans H; rw [hy273]; with_reducible exact H2_) | (have H2_ := (Option.bind_some _ _).symm.trans H; with_reducible exact H2_) | with_reducible exact H | (rw [hy273]; exact H) | exact H
    have Ny273 := A_ hy273
    clear hy273
    simp only [Option.some.injEq, Prod.mk.injEq] at H
    obtain ⟨rfl, rfl⟩ := H
    go_wp2_with (first | ((with_reducible refine gate_dst (N := 17) rfl ?_); refine Kd.R_lit (Kd.int .i64) _ 3 ?hg (N := 17) ?hd (xs := ([] : List Int)) (inner := []) (ok := fun _ => True) (okp := fun _ => True) ?hr ?hp (fun _ hk => hk) trivial (Below.refl _ _) (Nat.le_refl _) (by simp) ?_; (case hd => rfl); (case hg => rfl); (case hr => first | (go_simp; done) | (go_simp; rfl)); (case hp => exact (Reps.none _ _)); intro v274 w10 ho11 hb hg_ hnew_; clear hg_ hnew_; (first | rw [← Ny273.out] at ho11 | (simp only [Int.reduceToNat] at ho11; rw [← Ny273.out] at ho11)); have n0_ := A_ (Kd.R_lower ho11 (below_size (oB HB))); have n1_ := A_ (below_step (oB HB) hb); clear HB; have HO275 := n0_; have HB := n1_; clear n0_ n1_; clear hb ho11))
    go_ret2
    exact ⟨_, eR, oR HO275, oB HB⟩
   ·replace c9 := Bool.eq_false_iff.mpr c9
    subst c9
    rw [if_neg (show ¬ (false = true) by decide)] at H
    by_cases c12 : 12 ≤ 35184372088832
    ·rw [if_pos c12] at H
     have c12b0 := eq_true c12
     have c12b1 : decide (12 ≤ 35184372088832) = true := decide_eq_true c12
     clear c12
     obtain ⟨y276, hy276⟩ : ∃ y_ : List Int, y_ = (List.replicate 12 0) := ⟨_, rfl⟩
     replace H : (if 0 < (y276.length : Int) then (spec_RunPlan.l0 kj2 l1 (y276.set (0 : Int).toNat a0) 0) else (none)) = some (r1, r2) := by first | (rw [hy276]; with_reducible exact H) | (have H2_ := (Option.bind_some _ _).symm.trans H; rw [hy276]; with_reducible exact H2_) | (have H2_ := (Option.bind_some _ _).symm.trans H; with_reducible exact H2_) | with_reducible exact H | (rw [hy276]; exact H) | exact H
     have Ny276 := A_ hy276
     clear hy276
     by_cases c13 : 0 < (y276.length : Int)
     ·rw [if_pos c13] at H
      have c13b0 : decide (0 < (y276.length : Int)) = true := decide_eq_true c13
      have c13b1 : decide (0 < y276.length) = true := decide_eq_true (by omega)
      clear c13
      obtain ⟨y279, hy279⟩ : ∃ y_ : List Int, y_ = (y276.set (0 : Int).toNat a0) := ⟨_, rfl⟩
      replace H : (spec_RunPlan.l0 kj2 l1 y279 0) = some (r1, r2) := by first | (rw [hy279]; with_reducible exact H) | (have H2_ := (Option.bind_some _ _).symm.trans H; rw [hy279]; with_reducible exact H2_) | (have H2_ := (Option.bind_some _ _).symm.trans H; with_reducible exact H2_) | with_reducible exact H | (rw [hy279]; exact H) | exact H
      have Ny279 := A_ hy279
      clear hy279
      have H' := A_ H
      clear H
      go_wp2_with (first | ((with_reducible refine gate_dst (N := 18) rfl ?_); refine Kd.R_make (Kd.int .i64) _ 3 rfl (N := 18) rfl 39 _ _ rfl 12 rfl rfl Tryd.underlying39 (.int .i64 0) 8 info3 rfl (by decide) (by omega) 0 (ok := fun _ => True) (okp := fun _ => True) rfl (fun _ hk => hk) trivial (by omega) (by omega) (Below.refl _ _) (Nat.le_refl _) ?_; intro v277 w15 ho16 hb hg_ hnew_; clear hg_ hnew_; (first | rw [← Ny276.out] at ho16 | (simp only [Int.reduceToNat] at ho16; rw [← Ny276.out] at ho16)); have n0_ := A_ (Kd.R_lower ho16 (below_size (oB HB))); have n1_ := A_ (below_step (oB HB) hb); clear HB; have HO278 := n0_; have HB := n1_; clear n0_ n1_; clear hb ho16; have p14 : 0 ≤ (0 : Int) := (by omega); have q14 : (0 : Int) < ((y276.length : Int) : Int) := of_decide_eq_true (by first | (with_reducible assumption) | assumption); have qi14 : (0 < y276.length) = True := eq_true (by omega); obtain ⟨go14, co14, eo14, gb14, gl14, cl14, HG14⟩ := Kd.R_form HO278.out (by omega); (first | cases eo14 | (injection eo14 with ea_ en_ ec_; (first | subst ea_ | (injection ea_ with ea_; subst ea_)); subst ec_; clear en_)); have GB14 := A_ gb14; have GG14 := A_ HG14; clear gb14 gl14 HG14; obtain ⟨hx14_0, hf14_0⟩ := Kd.R_celln 0 HO278.out (0 : Int) p14 q14; (try rw [show ((0 : Int)).toNat = 0 from rfl] at hx14_0); (try simp only [Nat.reduceMul, Nat.zero_mul, Nat.zero_add, Nat.reduceAdd] at hx14_0); (try rw [show ((0 : Int)).toNat = 0 from rfl] at hf14_0); (try simp only [Nat.reduceMul, Nat.zero_mul, Nat.zero_add, Nat.reduceAdd] at hf14_0); replace p14 := eq_true p14; replace q14 := eq_true q14; obtain ⟨hy17_, hz17_⟩ := Kd.R_celln 0 HO278.out (0 : Int) (by omega) (of_decide_eq_true (by first | (with_reducible assumption) | assumption)); (try simp only [Int.reduceToNat, Int.toNat_zero, Int.toNat_ofNat, Nat.reduceMul, Nat.zero_mul, Nat.zero_add] at hy17_ hz17_); (try rw [show ((0 : Int)).toNat = 0 from rfl] at hy17_); (try rw [show ((0 : Int)).toNat = 0 from rfl] at hz17_); have HP17 := Kd.R_putg HO278.out (0 : Int) a0) | ((with_reducible refine gate_store (t := 3) (p := 21) rfl ?_); refine store_event (t := 3) (p := 21) (v := ?vo_w18) (w1 := (w15.setCell ⟨go14, (0 : Int).toNat, none⟩ (.int .i64 a0))) ?hg ?ho ?hn ?hr ?_; (case ho => rfl); (case hg => rfl); (case hn => rfl); (case hr => first | (go_simp; done) | (go_simp; rfl)); intro w18 hw; have hg : w15.grownBy w18 (some go14) := (by rw [hw]; exact HP17.2); have hp_ : Kd.R (Kd.int .i64) 3 w18 w.heap.size (fun _ => True) (.slice (some ⟨go14, 0, none⟩) y276.length co14) y279 := (by rw [hw, Ny279.out]; exact HP17.1); clear HP17; have n0_ := A_ (hp_); have n1_ := A_ ((by rw [hw]; exact below_set (HB.out) GB14.out : Below w.heap.size w w18)); clear HO278; clear HB; have HO278 := n0_; have HB := n1_; clear n0_ n1_; clear hg hw hp_))
      go_loopg [7] kj2 (fun kq v7 w' => ∃ (x6_2 : List Int) (x7_2 : Int), v7 = .int .i64 x7_2 ∧ Aside0 (spec_RunPlan.l0 kq l1 x6_2 x7_2 = some (r1, r2)) ∧ Aside0 (kq ≤ kj2) ∧ Aside0 (Kd.R (Kd.int .i64) 3 w' w.heap.size (fun _ => True) (.slice (some ⟨go14, 0, none⟩) y276.length co14) x6_2) ∧ Aside0 (Below w.heap.size w w'))
      case atStart => exact ⟨(y279), (0), (by first | rfl | (simp; done) | (simp [*]; done)), H', ⟨Nat.le_refl _⟩, ⟨oR HO278⟩, ⟨oB HB⟩⟩
      case round =>
       clear H'
       try clear c1
       try clear p1
       try clear q1
       try clear hx1
       try clear qi1
       try clear p2
       try clear c5
       try clear c9
       try clear c10
       try clear c12
       try clear c12b0
       try clear c12b1
       try clear c13
       try clear c13b0
       try clear c13b1
       try clear p14
       try clear q14
       try clear hx14
       try clear qi14
       try clear hf14
       try clear hx14_0
       try clear p14
       try clear p2
       try clear q14
       obtain ⟨x6_2, x7_2, rfl, HA, HK2, HO_6, HB⟩ := hrel
       have hl6_2 := (Kd.R_reads' HO_6.out).1
       rw [hl6_2] at HO_6
       (try simp only [hl6_2])
       cases gk with
       | zero => exact absurd HA.out (by simp [spec_RunPlan.l0])
       | succ k2 =>
        have H := HA.out
        clear HA
        simp only [spec_RunPlan.l0] at H
        by_cases c19 : x7_2 < (l1.length : Int)
        ·rw [if_pos c19] at H
         have c19b0 : decide (x7_2 < (l1.length : Int)) = true := decide_eq_true c19
         clear c19
         by_cases c20 : 0 ≤ x7_2
         ·rw [if_pos c20] at H
          have c20b0 : decide (0 ≤ x7_2) = true := decide_eq_true c20
          clear c20
          by_cases c21 : 0 ≤ ((rd_T145 l1 x7_2).f0)
          ·rw [if_pos c21] at H
           have c21b0 : decide (0 ≤ ((rd_T145 l1 x7_2).f0)) = true := decide_eq_true c21
           clear c21
           by_cases c22 : ((rd_T145 l1 x7_2).f0) < (x6_2.length : Int)
           ·rw [if_pos c22] at H
            have c22b0 : decide (((rd_T145 l1 x7_2).f0) < (x6_2.length : Int)) = true := decide_eq_true c22
            clear c22
            replace H := Option.bind_eq_some_iff.mp H
            obtain ⟨t284, A230, H⟩ := H
            (try dsimp only at H)
            have A23 := A_ A230
            clear A230
            by_cases c24 : t284 = 0
            ·rw [if_pos c24] at H
             have c24b0 : (t284 == 0) = true := beq_iff_eq.mpr c24
             have c24b1 : (t284 != 0) = false := bne_eq_false_iff_eq.mpr c24
             clear c24
             obtain ⟨y285, hy285⟩ : ∃ y_ : List Int, y_ = (([] : List Int)) := ⟨_, rfl⟩
             replace H : (some (y285, false)) = some (r1, r2) := by first | (rw [hy285]; with_reducible exact H) | (have H2_ := (Option.bind_some _ _).symm.trans H; rw [hy285]; with_reducible exact H2_) | (have H2_ := (Option.bind_some _ _).symm.trans H; with_reducible exact H2_) | with_reducible exact H | (rw [hy285]; exact H) | exact H
             have Ny285 := A_ hy285
             clear hy285
             simp only [Option.some.injEq, Prod.mk.injEq] at H
             obtain ⟨rfl, rfl⟩ := H
             try go_wp2
             have n0_ := A_ (Kd.R_drew HO_6.out)
             have n1_ := A_ (below_drew1 HB.out)
             clear HO_6
             clear HB
             have HO_6 := n0_
             have HB := n1_
             clear n0_ n1_
             have p280 : 0 ≤ (x7_2 : Int) := of_decide_eq_true (by first | (with_reducible assumption) | assumption)
             have q280 : x7_2 < (l1.length : Int) := of_decide_eq_true (by first | (with_reducible assumption) | assumption)
             obtain ⟨ad280, e280, hx280_0, hx280_1, hx280_2, hx280_3⟩ := at_T145 HR1.out x7_2 p280 q280
             have hw280_3 := hx280_3
             have hw280_2 := hx280_2
             have hw280_1 := hx280_1
             have hw280_0 := hx280_0
             cases e280
             replace hx280_0 := (HB.out.cell (World.block_lt_of_cell? w _ hx280_0)).trans hx280_0
             replace hx280_1 := (HB.out.cell (World.block_lt_of_cell? w _ hx280_1)).trans hx280_1
             replace hx280_2 := (HB.out.cell (World.block_lt_of_cell? w _ hx280_2)).trans hx280_2
             replace hx280_3 := (HB.out.cell (World.block_lt_of_cell? w _ hx280_3)).trans hx280_3
             replace p280 := eq_true p280
             replace q280 := eq_true q280
             have p281 : 0 ≤ (((rd_T145 l1 x7_2).f0) : Int) := of_decide_eq_true (by first | (with_reducible assumption) | assumption)
             have q281 : ((rd_T145 l1 x7_2).f0) < (x6_2.length : Int) := of_decide_eq_true (by first | (with_reducible assumption) | assumption)
             obtain ⟨ad281, e281, hx281_0⟩ := Kd.at_int (Kd.R_reads' HO_6.out).2.2 ((rd_T145 l1 x7_2).f0) p281 q281
             obtain rfl : (⟨go14, 0, none⟩ : Addr) = ad281 := (by injection e281)
             (first | simp only [add_plain] at hx281_0 | simp only [add_at] at hx281_0 | simp only [Addr.add, Nat.zero_add] at hx281_0 | skip)
             replace p281 := eq_true p281
             replace q281 := eq_true q281
             have p282 : 0 ≤ (x7_2 : Int) := of_decide_eq_true (by first | (with_reducible assumption) | assumption)
             have q282 : x7_2 < (l1.length : Int) := of_decide_eq_true (by first | (with_reducible assumption) | assumption)
             obtain ⟨ad282, e282, hx282_0, hx282_1, hx282_2, hx282_3⟩ := at_T145 HR1.out x7_2 p282 q282
             have hw282_3 := hx282_3
             have hw282_2 := hx282_2
             have hw282_1 := hx282_1
             have hw282_0 := hx282_0
             obtain rfl : ad280 = ad282 := (by injection e282)
             replace hx282_0 := (HB.out.cell (World.block_lt_of_cell? w _ hx282_0)).trans hx282_0
             replace hx282_1 := (HB.out.cell (World.block_lt_of_cell? w _ hx282_1)).trans hx282_1
             replace hx282_2 := (HB.out.cell (World.block_lt_of_cell? w _ hx282_2)).trans hx282_2
             replace hx282_3 := (HB.out.cell (World.block_lt_of_cell? w _ hx282_3)).trans hx282_3
             replace p282 := eq_true p282
             replace q282 := eq_true q282
             have p283 : 0 ≤ (x7_2 : Int) := of_decide_eq_true (by first | (with_reducible assumption) | assumption)
             have q283 : x7_2 < (l1.length : Int) := of_decide_eq_true (by first | (with_reducible assumption) | assumption)
             obtain ⟨ad283, e283, hx283_0, hx283_1, hx283_2, hx283_3⟩ := at_T145 HR1.out x7_2 p283 q283
             have hw283_3 := hx283_3
             have hw283_2 := hx283_2
             have hw283_1 := hx283_1
             have hw283_0 := hx283_0
             obtain rfl : ad280 = ad283 := (by injection e283)
             replace hx283_0 := (HB.out.cell (World.block_lt_of_cell? w _ hx283_0)).trans hx283_0
             replace hx283_1 := (HB.out.cell (World.block_lt_of_cell? w _ hx283_1)).trans hx283_1
             replace hx283_2 := (HB.out.cell (World.block_lt_of_cell? w _ hx283_2)).trans hx283_2
             replace hx283_3 := (HB.out.cell (World.block_lt_of_cell? w _ hx283_3)).trans hx283_3
             replace p283 := eq_true p283
             replace q283 := eq_true q283
             refine start_ (n := 20) (S := fun w' => w'.cell? (ad280.add ((x7_2).toNat * 4)) = some (.int .i64 ((rd_T145 l1 x7_2).f0)) ∧ w'.cell? ⟨(ad280.add ((x7_2).toNat * 4)).block, (ad280.add ((x7_2).toNat * 4)).off + 1, none⟩ = some (.int .i64 ((rd_T145 l1 x7_2).f1)) ∧ w'.cell? ⟨(ad280.add ((x7_2).toNat * 4)).block, (ad280.add ((x7_2).toNat * 4)).off + 2, none⟩ = some (.int .i64 ((rd_T145 l1 x7_2).f2)) ∧ w'.cell? ⟨(ad280.add ((x7_2).toNat * 4)).block, (ad280.add ((x7_2).toNat * 4)).off + 3, none⟩ = some (.int .i64 ((rd_T145 l1 x7_2).f3)) ∧ w'.cell? ⟨go14, (((rd_T145 l1 x7_2).f0)).toNat, none⟩ = some (.int .i64 (rd x6_2 ((rd_T145 l1 x7_2).f0))) ∧ w'.cell? (ad280.add ((x7_2).toNat * 4)) = some (.int .i64 ((rd_T145 l1 x7_2).f0)) ∧ w'.cell? ⟨(ad280.add ((x7_2).toNat * 4)).block, (ad280.add ((x7_2).toNat * 4)).off + 1, none⟩ = some (.int .i64 ((rd_T145 l1 x7_2).f1)) ∧ w'.cell? ⟨(ad280.add ((x7_2).toNat * 4)).block, (ad280.add ((x7_2).toNat * 4)).off + 2, none⟩ = some (.int .i64 ((rd_T145 l1 x7_2).f2)) ∧ w'.cell? ⟨(ad280.add ((x7_2).toNat * 4)).block, (ad280.add ((x7_2).toNat * 4)).off + 3, none⟩ = some (.int .i64 ((rd_T145 l1 x7_2).f3)) ∧ w'.cell? (ad280.add ((x7_2).toNat * 4)) = some (.int .i64 ((rd_T145 l1 x7_2).f0)) ∧ w'.cell? ⟨(ad280.add ((x7_2).toNat * 4)).block, (ad280.add ((x7_2).toNat * 4)).off + 1, none⟩ = some (.int .i64 ((rd_T145 l1 x7_2).f1)) ∧ w'.cell? ⟨(ad280.add ((x7_2).toNat * 4)).block, (ad280.add ((x7_2).toNat * 4)).off + 2, none⟩ = some (.int .i64 ((rd_T145 l1 x7_2).f2)) ∧ w'.cell? ⟨(ad280.add ((x7_2).toNat * 4)).block, (ad280.add ((x7_2).toNat * 4)).off + 3, none⟩ = some (.int .i64 ((rd_T145 l1 x7_2).f3))) (ds := []) #[false, false, false, false, false, false, false, false, false, false, false, false, false, false, false, false, false, false, false, false] (by kernel_rfl) rfl rfl ⟨((HB.out.cell (World.block_lt_of_cell? w _ hw280_0)).trans hw280_0), ((HB.out.cell (World.block_lt_of_cell? w _ hw280_1)).trans hw280_1), ((HB.out.cell (World.block_lt_of_cell? w _ hw280_2)).trans hw280_2), ((HB.out.cell (World.block_lt_of_cell? w _ hw280_3)).trans hw280_3), hx281_0, ((HB.out.cell (World.block_lt_of_cell? w _ hw282_0)).trans hw282_0), ((HB.out.cell (World.block_lt_of_cell? w _ hw282_1)).trans hw282_1), ((HB.out.cell (World.block_lt_of_cell? w _ hw282_2)).trans hw282_2), ((HB.out.cell (World.block_lt_of_cell? w _ hw282_3)).trans hw282_3), ((HB.out.cell (World.block_lt_of_cell? w _ hw283_0)).trans hw283_0), ((HB.out.cell (World.block_lt_of_cell? w _ hw283_1)).trans hw283_1), ((HB.out.cell (World.block_lt_of_cell? w _ hw283_2)).trans hw283_2), ((HB.out.cell (World.block_lt_of_cell? w _ hw283_3)).trans hw283_3)⟩ (fun hHeld => ?_); refine with_tabW spec_RunPlan.tab8 spec_RunPlan.bits8 (fun HT_ HW_ => ?_)
             generalize wr.drew = w25 at HO_6 HB hx280_0 hx280_1 hx280_2 hx280_3 hx281_0 hx282_0 hx282_1 hx282_2 hx282_3 hx283_0 hx283_1 hx283_2 hx283_3 hHeld ⊢
             refine pA 0 (some 28) HT_.out ?_
             refine pA 1 (some 29) HT_.out ?_
             refine pA 2 (some 30) HT_.out ?_
             refine pA 3 (some 31) HT_.out ?_
             refine pA 4 (some 32) HT_.out ?_
             refine pA 8 (some 36) HT_.out ?_
             refine pA 9 (some 37) HT_.out ?_
             refine pA 10 (some 38) HT_.out ?_
             refine pA 11 (some 39) HT_.out ?_
             refine pA 13 (some 41) HT_.out ?_
             refine pA 14 (some 42) HT_.out ?_
             refine pA 15 (some 43) HT_.out ?_
             refine pA 16 (some 44) HT_.out ?_
             refine pT 5 (some 33) HT_.out HW_.out hHeld ?_
             refine pA 6 (some 34) HT_.out ?_
             refine pT 7 (some 35) HT_.out HW_.out hHeld ?_
             refine pT 12 (some 40) HT_.out HW_.out hHeld ?_
             refine pT 17 (some 45) HT_.out HW_.out hHeld ?_
             refine one_ (i := 18) (N := some 46) #[true, true, true, true, true, true, true, true, true, true, true, true, true, true, true, true, true, true, true, false] rfl rfl (one_of HT_.out (by kernel_rfl)) (by decide) (fun K hK => ?_)
             refine goes_ Tryd.func138 (by kernel_rfl) rfl #[.int .i64 (rd x6_2 ((rd_T145 l1 x7_2).f0)), .int .i64 ((rd_T145 l1 x7_2).f2), .int .i64 ((rd_T145 l1 x7_2).f3)] (by rfl) rfl rfl (by (try simp only [List.map_toArray, List.map_cons, List.map_nil]); first | done | rfl | (simp only [List.length_drop, List.length_take]; rfl)) ?_
             with_reducible refine (spec_TunedPitch.calls k2 (rd x6_2 ((rd_T145 l1 x7_2).f0)) ((rd_T145 l1 x7_2).f2) ((rd_T145 l1 x7_2).f3) t284 _ A23.out).mono ?_
             rintro e w26 ⟨rfl, hb⟩
             have HS4_ := (hb.cell (World.block_lt_of_cell? _ _ (hHeld.2.2.2.2.1))).trans (hHeld.2.2.2.2.1)
             refine ⟨_, rfl, ?_⟩
             have n0_ := A_ (Kd.R_below (oR HO_6) hb)
             have n1_ := A_ (below_step (oB HB) hb)
             clear HO_6
             clear HB
             have HO_6 := n0_
             have HB := n1_
             clear n0_ n1_
             (try clear hb)
             (try clear hb2)
             (try clear hk)
             (try clear hi)
             refine hK.out _ _ ⟨((HB.out.cell (World.block_lt_of_cell? w _ hw280_0)).trans hw280_0), ((HB.out.cell (World.block_lt_of_cell? w _ hw280_1)).trans hw280_1), ((HB.out.cell (World.block_lt_of_cell? w _ hw280_2)).trans hw280_2), ((HB.out.cell (World.block_lt_of_cell? w _ hw280_3)).trans hw280_3), HS4_, ((HB.out.cell (World.block_lt_of_cell? w _ hw282_0)).trans hw282_0), ((HB.out.cell (World.block_lt_of_cell? w _ hw282_1)).trans hw282_1), ((HB.out.cell (World.block_lt_of_cell? w _ hw282_2)).trans hw282_2), ((HB.out.cell (World.block_lt_of_cell? w _ hw282_3)).trans hw282_3), ((HB.out.cell (World.block_lt_of_cell? w _ hw283_0)).trans hw283_0), ((HB.out.cell (World.block_lt_of_cell? w _ hw283_1)).trans hw283_1), ((HB.out.cell (World.block_lt_of_cell? w _ hw283_2)).trans hw283_2), ((HB.out.cell (World.block_lt_of_cell? w _ hw283_3)).trans hw283_3)⟩ (fun hHeld => ?_)
             clear hK K
             refine norm_ (a' := ?_) ?_ ?_
             rotate_left
             ·show Act.put _ (some 46) _ = _
              simp only [Act.put, List.setIfInBounds_toArray, List.set_cons_zero, List.set_cons_succ, i64_w, i32_w]
              rfl
             refine pA 19 (some 8) HT_.out ?_
             refine done_ (done_of HT_.out (by kernel_rfl)) ?_
             try go_wp2_with (first | ((with_reducible refine gate_dst (N := 49) rfl ?_); refine Kd.R_lit (Kd.int .i64) _ 3 ?hg (N := 49) ?hd (xs := ([] : List Int)) (inner := []) (ok := fun _ => True) (okp := fun _ => True) ?hr ?hp (fun _ hk => hk) trivial (Below.refl _ _) (Nat.le_refl _) (by simp) ?_; (case hd => rfl); (case hg => rfl); (case hr => first | (go_simp; done) | (go_simp; rfl)); (case hp => exact (Reps.none _ _)); intro v286 w27 ho28 hb hg_ hnew_; clear hg_ hnew_; (first | rw [← Ny285.out] at ho28 | (simp only [Int.reduceToNat] at ho28; rw [← Ny285.out] at ho28)); have n0_ := A_ (Kd.R_elder' (oR HO_6) (Kd.R_base ho28) hb); have n1_ := A_ (Kd.R_lower (Kd.R_new' ho28 (Kd.R_lt (oR HO_6))) (below_size (oB HB))); have n2_ := A_ (below_step (oB HB) hb); clear HO_6; clear HB; have HO_6 := n0_; have HO287 := n1_; have HB := n2_; clear n0_ n1_ n2_; clear hb ho28))
             go_ret2
             exact ⟨_, eR, by (with_reducible repeat (first | apply Kd.R_alloc | apply Kd.R_drewN | apply Kd.R_drew)); exact Kd.R_mono HO287.out (fun _ hk => trivial), oB HB⟩
            ·rw [if_neg c24] at H
             have c24b0 : (t284 == 0) = false := beq_eq_false_iff_ne.mpr c24
             have c24b1 : (t284 != 0) = true := bne_iff_ne.mpr c24
             by_cases c29 : 0 ≤ ((rd_T145 l1 x7_2).f1)
             ·rw [if_pos c29] at H
              have c29b0 : decide (0 ≤ ((rd_T145 l1 x7_2).f1)) = true := decide_eq_true c29
              clear c29
              by_cases c30 : ((rd_T145 l1 x7_2).f1) < (x6_2.length : Int)
              ·rw [if_pos c30] at H
               have c30b0 : decide (((rd_T145 l1 x7_2).f1) < (x6_2.length : Int)) = true := decide_eq_true c30
               clear c30
               obtain ⟨y289, hy289⟩ : ∃ y_ : List Int, y_ = (x6_2.set (((rd_T145 l1 x7_2).f1) : Int).toNat t284) := ⟨_, rfl⟩
               replace H : (spec_RunPlan.l0 k2 l1 y289 (wrap64 (x7_2 + 1))) = some (r1, r2) := by first | (rw [hy289]; with_reducible exact H) | (have H2_ := (Option.bind_some _ _).symm.trans H; rw [hy289]; with_reducible exact H2_) | (have H2_ := (Option.bind_some _ _).symm.trans H; with_reducible exact H2_) | with_reducible exact H | (rw [hy289]; exact H) | exact H
               have Ny289 := A_ hy289
               clear hy289
               have H' := A_ H
               clear H
               try go_wp2
               have n0_ := A_ (Kd.R_drew HO_6.out)
               have n1_ := A_ (below_drew1 HB.out)
               clear HO_6
               clear HB
               have HO_6 := n0_
               have HB := n1_
               clear n0_ n1_
               have p280 : 0 ≤ (x7_2 : Int) := of_decide_eq_true (by first | (with_reducible assumption) | assumption)
               have q280 : x7_2 < (l1.length : Int) := of_decide_eq_true (by first | (with_reducible assumption) | assumption)
               obtain ⟨ad280, e280, hx280_0, hx280_1, hx280_2, hx280_3⟩ := at_T145 HR1.out x7_2 p280 q280
               have hw280_3 := hx280_3
               have hw280_2 := hx280_2
               have hw280_1 := hx280_1
               have hw280_0 := hx280_0
               cases e280
               replace hx280_0 := (HB.out.cell (World.block_lt_of_cell? w _ hx280_0)).trans hx280_0
               replace hx280_1 := (HB.out.cell (World.block_lt_of_cell? w _ hx280_1)).trans hx280_1
               replace hx280_2 := (HB.out.cell (World.block_lt_of_cell? w _ hx280_2)).trans hx280_2
               replace hx280_3 := (HB.out.cell (World.block_lt_of_cell? w _ hx280_3)).trans hx280_3
               replace p280 := eq_true p280
               replace q280 := eq_true q280
               have p281 : 0 ≤ (((rd_T145 l1 x7_2).f0) : Int) := of_decide_eq_true (by first | (with_reducible assumption) | assumption)
               have q281 : ((rd_T145 l1 x7_2).f0) < (x6_2.length : Int) := of_decide_eq_true (by first | (with_reducible assumption) | assumption)
               obtain ⟨ad281, e281, hx281_0⟩ := Kd.at_int (Kd.R_reads' HO_6.out).2.2 ((rd_T145 l1 x7_2).f0) p281 q281
               obtain rfl : (⟨go14, 0, none⟩ : Addr) = ad281 := (by injection e281)
               (first | simp only [add_plain] at hx281_0 | simp only [add_at] at hx281_0 | simp only [Addr.add, Nat.zero_add] at hx281_0 | skip)
               replace p281 := eq_true p281
               replace q281 := eq_true q281
               have p282 : 0 ≤ (x7_2 : Int) := of_decide_eq_true (by first | (with_reducible assumption) | assumption)
               have q282 : x7_2 < (l1.length : Int) := of_decide_eq_true (by first | (with_reducible assumption) | assumption)
               obtain ⟨ad282, e282, hx282_0, hx282_1, hx282_2, hx282_3⟩ := at_T145 HR1.out x7_2 p282 q282
               have hw282_3 := hx282_3
               have hw282_2 := hx282_2
               have hw282_1 := hx282_1
               have hw282_0 := hx282_0
               obtain rfl : ad280 = ad282 := (by injection e282)
               replace hx282_0 := (HB.out.cell (World.block_lt_of_cell? w _ hx282_0)).trans hx282_0
               replace hx282_1 := (HB.out.cell (World.block_lt_of_cell? w _ hx282_1)).trans hx282_1
               replace hx282_2 := (HB.out.cell (World.block_lt_of_cell? w _ hx282_2)).trans hx282_2
               replace hx282_3 := (HB.out.cell (World.block_lt_of_cell? w _ hx282_3)).trans hx282_3
               replace p282 := eq_true p282
               replace q282 := eq_true q282
               have p283 : 0 ≤ (x7_2 : Int) := of_decide_eq_true (by first | (with_reducible assumption) | assumption)
               have q283 : x7_2 < (l1.length : Int) := of_decide_eq_true (by first | (with_reducible assumption) | assumption)
               obtain ⟨ad283, e283, hx283_0, hx283_1, hx283_2, hx283_3⟩ := at_T145 HR1.out x7_2 p283 q283
               have hw283_3 := hx283_3
               have hw283_2 := hx283_2
               have hw283_1 := hx283_1
               have hw283_0 := hx283_0
               obtain rfl : ad280 = ad283 := (by injection e283)
               replace hx283_0 := (HB.out.cell (World.block_lt_of_cell? w _ hx283_0)).trans hx283_0
               replace hx283_1 := (HB.out.cell (World.block_lt_of_cell? w _ hx283_1)).trans hx283_1
               replace hx283_2 := (HB.out.cell (World.block_lt_of_cell? w _ hx283_2)).trans hx283_2
               replace hx283_3 := (HB.out.cell (World.block_lt_of_cell? w _ hx283_3)).trans hx283_3
               replace p283 := eq_true p283
               replace q283 := eq_true q283
               refine start_ (n := 20) (S := fun w' => w'.cell? (ad280.add ((x7_2).toNat * 4)) = some (.int .i64 ((rd_T145 l1 x7_2).f0)) ∧ w'.cell? ⟨(ad280.add ((x7_2).toNat * 4)).block, (ad280.add ((x7_2).toNat * 4)).off + 1, none⟩ = some (.int .i64 ((rd_T145 l1 x7_2).f1)) ∧ w'.cell? ⟨(ad280.add ((x7_2).toNat * 4)).block, (ad280.add ((x7_2).toNat * 4)).off + 2, none⟩ = some (.int .i64 ((rd_T145 l1 x7_2).f2)) ∧ w'.cell? ⟨(ad280.add ((x7_2).toNat * 4)).block, (ad280.add ((x7_2).toNat * 4)).off + 3, none⟩ = some (.int .i64 ((rd_T145 l1 x7_2).f3)) ∧ w'.cell? ⟨go14, (((rd_T145 l1 x7_2).f0)).toNat, none⟩ = some (.int .i64 (rd x6_2 ((rd_T145 l1 x7_2).f0))) ∧ w'.cell? (ad280.add ((x7_2).toNat * 4)) = some (.int .i64 ((rd_T145 l1 x7_2).f0)) ∧ w'.cell? ⟨(ad280.add ((x7_2).toNat * 4)).block, (ad280.add ((x7_2).toNat * 4)).off + 1, none⟩ = some (.int .i64 ((rd_T145 l1 x7_2).f1)) ∧ w'.cell? ⟨(ad280.add ((x7_2).toNat * 4)).block, (ad280.add ((x7_2).toNat * 4)).off + 2, none⟩ = some (.int .i64 ((rd_T145 l1 x7_2).f2)) ∧ w'.cell? ⟨(ad280.add ((x7_2).toNat * 4)).block, (ad280.add ((x7_2).toNat * 4)).off + 3, none⟩ = some (.int .i64 ((rd_T145 l1 x7_2).f3)) ∧ w'.cell? (ad280.add ((x7_2).toNat * 4)) = some (.int .i64 ((rd_T145 l1 x7_2).f0)) ∧ w'.cell? ⟨(ad280.add ((x7_2).toNat * 4)).block, (ad280.add ((x7_2).toNat * 4)).off + 1, none⟩ = some (.int .i64 ((rd_T145 l1 x7_2).f1)) ∧ w'.cell? ⟨(ad280.add ((x7_2).toNat * 4)).block, (ad280.add ((x7_2).toNat * 4)).off + 2, none⟩ = some (.int .i64 ((rd_T145 l1 x7_2).f2)) ∧ w'.cell? ⟨(ad280.add ((x7_2).toNat * 4)).block, (ad280.add ((x7_2).toNat * 4)).off + 3, none⟩ = some (.int .i64 ((rd_T145 l1 x7_2).f3))) (ds := []) #[false, false, false, false, false, false, false, false, false, false, false, false, false, false, false, false, false, false, false, false] (by kernel_rfl) rfl rfl ⟨((HB.out.cell (World.block_lt_of_cell? w _ hw280_0)).trans hw280_0), ((HB.out.cell (World.block_lt_of_cell? w _ hw280_1)).trans hw280_1), ((HB.out.cell (World.block_lt_of_cell? w _ hw280_2)).trans hw280_2), ((HB.out.cell (World.block_lt_of_cell? w _ hw280_3)).trans hw280_3), hx281_0, ((HB.out.cell (World.block_lt_of_cell? w _ hw282_0)).trans hw282_0), ((HB.out.cell (World.block_lt_of_cell? w _ hw282_1)).trans hw282_1), ((HB.out.cell (World.block_lt_of_cell? w _ hw282_2)).trans hw282_2), ((HB.out.cell (World.block_lt_of_cell? w _ hw282_3)).trans hw282_3), ((HB.out.cell (World.block_lt_of_cell? w _ hw283_0)).trans hw283_0), ((HB.out.cell (World.block_lt_of_cell? w _ hw283_1)).trans hw283_1), ((HB.out.cell (World.block_lt_of_cell? w _ hw283_2)).trans hw283_2), ((HB.out.cell (World.block_lt_of_cell? w _ hw283_3)).trans hw283_3)⟩ (fun hHeld => ?_); refine with_tabW spec_RunPlan.tab8 spec_RunPlan.bits8 (fun HT_ HW_ => ?_)
               generalize wr.drew = w32 at HO_6 HB hx280_0 hx280_1 hx280_2 hx280_3 hx281_0 hx282_0 hx282_1 hx282_2 hx282_3 hx283_0 hx283_1 hx283_2 hx283_3 hHeld ⊢
               refine pA 0 (some 28) HT_.out ?_
               refine pA 1 (some 29) HT_.out ?_
               refine pA 2 (some 30) HT_.out ?_
               refine pA 3 (some 31) HT_.out ?_
               refine pA 4 (some 32) HT_.out ?_
               refine pA 8 (some 36) HT_.out ?_
               refine pA 9 (some 37) HT_.out ?_
               refine pA 10 (some 38) HT_.out ?_
               refine pA 11 (some 39) HT_.out ?_
               refine pA 13 (some 41) HT_.out ?_
               refine pA 14 (some 42) HT_.out ?_
               refine pA 15 (some 43) HT_.out ?_
               refine pA 16 (some 44) HT_.out ?_
               refine pT 5 (some 33) HT_.out HW_.out hHeld ?_
               refine pA 6 (some 34) HT_.out ?_
               refine pT 7 (some 35) HT_.out HW_.out hHeld ?_
               refine pT 12 (some 40) HT_.out HW_.out hHeld ?_
               refine pT 17 (some 45) HT_.out HW_.out hHeld ?_
               refine one_ (i := 18) (N := some 46) #[true, true, true, true, true, true, true, true, true, true, true, true, true, true, true, true, true, true, true, false] rfl rfl (one_of HT_.out (by kernel_rfl)) (by decide) (fun K hK => ?_)
               refine goes_ Tryd.func138 (by kernel_rfl) rfl #[.int .i64 (rd x6_2 ((rd_T145 l1 x7_2).f0)), .int .i64 ((rd_T145 l1 x7_2).f2), .int .i64 ((rd_T145 l1 x7_2).f3)] (by rfl) rfl rfl (by (try simp only [List.map_toArray, List.map_cons, List.map_nil]); first | done | rfl | (simp only [List.length_drop, List.length_take]; rfl)) ?_
               with_reducible refine (spec_TunedPitch.calls k2 (rd x6_2 ((rd_T145 l1 x7_2).f0)) ((rd_T145 l1 x7_2).f2) ((rd_T145 l1 x7_2).f3) t284 _ A23.out).mono ?_
               rintro e w33 ⟨rfl, hb⟩
               have HS4_ := (hb.cell (World.block_lt_of_cell? _ _ (hHeld.2.2.2.2.1))).trans (hHeld.2.2.2.2.1)
               refine ⟨_, rfl, ?_⟩
               have n0_ := A_ (Kd.R_below (oR HO_6) hb)
               have n1_ := A_ (below_step (oB HB) hb)
               clear HO_6
               clear HB
               have HO_6 := n0_
               have HB := n1_
               clear n0_ n1_
               (try clear hb)
               (try clear hb2)
               (try clear hk)
               (try clear hi)
               refine hK.out _ _ ⟨((HB.out.cell (World.block_lt_of_cell? w _ hw280_0)).trans hw280_0), ((HB.out.cell (World.block_lt_of_cell? w _ hw280_1)).trans hw280_1), ((HB.out.cell (World.block_lt_of_cell? w _ hw280_2)).trans hw280_2), ((HB.out.cell (World.block_lt_of_cell? w _ hw280_3)).trans hw280_3), HS4_, ((HB.out.cell (World.block_lt_of_cell? w _ hw282_0)).trans hw282_0), ((HB.out.cell (World.block_lt_of_cell? w _ hw282_1)).trans hw282_1), ((HB.out.cell (World.block_lt_of_cell? w _ hw282_2)).trans hw282_2), ((HB.out.cell (World.block_lt_of_cell? w _ hw282_3)).trans hw282_3), ((HB.out.cell (World.block_lt_of_cell? w _ hw283_0)).trans hw283_0), ((HB.out.cell (World.block_lt_of_cell? w _ hw283_1)).trans hw283_1), ((HB.out.cell (World.block_lt_of_cell? w _ hw283_2)).trans hw283_2), ((HB.out.cell (World.block_lt_of_cell? w _ hw283_3)).trans hw283_3)⟩ (fun hHeld => ?_)
               clear hK K
               refine norm_ (a' := ?_) ?_ ?_
               rotate_left
               ·show Act.put _ (some 46) _ = _
                simp only [Act.put, List.setIfInBounds_toArray, List.set_cons_zero, List.set_cons_succ, i64_w, i32_w]
                rfl
               refine pA 19 (some 8) HT_.out ?_
               refine done_ (done_of HT_.out (by kernel_rfl)) ?_
               have p288 : 0 ≤ (x7_2 : Int) := of_decide_eq_true (by first | (with_reducible assumption) | assumption)
               have q288 : x7_2 < (l1.length : Int) := of_decide_eq_true (by first | (with_reducible assumption) | assumption)
               obtain ⟨ad288, e288, hx288_0, hx288_1, hx288_2, hx288_3⟩ := at_T145 HR1.out x7_2 p288 q288
               obtain rfl : ad280 = ad288 := (by injection e288)
               replace hx288_0 := (HB.out.cell (World.block_lt_of_cell? w _ hx288_0)).trans hx288_0
               replace hx288_1 := (HB.out.cell (World.block_lt_of_cell? w _ hx288_1)).trans hx288_1
               replace hx288_2 := (HB.out.cell (World.block_lt_of_cell? w _ hx288_2)).trans hx288_2
               replace hx288_3 := (HB.out.cell (World.block_lt_of_cell? w _ hx288_3)).trans hx288_3
               replace p288 := eq_true p288
               replace q288 := eq_true q288
               have p31 : 0 ≤ (((rd_T145 l1 x7_2).f1) : Int) := of_decide_eq_true (by first | (with_reducible assumption) | assumption)
               have q31 : (((rd_T145 l1 x7_2).f1) : Int) < ((x6_2.length : Int) : Int) := of_decide_eq_true (by first | (with_reducible assumption) | assumption)
               obtain ⟨hx31_0, hf31_0⟩ := Kd.R_celln 0 HO_6.out (((rd_T145 l1 x7_2).f1) : Int) p31 q31
               replace p31 := eq_true p31
               replace q31 := eq_true q31
               obtain ⟨hy34_, hz34_⟩ := Kd.R_celln 0 HO_6.out (((rd_T145 l1 x7_2).f1) : Int) (of_decide_eq_true (by first | (with_reducible assumption) | assumption)) (of_decide_eq_true (by first | (with_reducible assumption) | assumption))
               have HP34 := Kd.R_putg HO_6.out (((rd_T145 l1 x7_2).f1) : Int) t284
               try go_wp2_with (first | ((with_reducible refine gate_store (t := 3) (p := 57) rfl ?_); refine store_event (t := 3) (p := 57) (v := ?vo_w35) (w1 := (w33.setCell ⟨go14, (((rd_T145 l1 x7_2).f1) : Int).toNat, none⟩ (.int .i64 t284))) ?hg ?ho ?hn ?hr ?_; (case ho => rfl); (case hg => rfl); (case hn => rfl); (case hr => first | (go_simp; done) | (go_simp; rfl)); intro w35 hw; have hg : w33.grownBy w35 (some go14) := (by rw [hw]; exact HP34.2); have hp_ : Kd.R (Kd.int .i64) 3 w35 w.heap.size (fun _ => True) (.slice (some ⟨go14, 0, none⟩) x6_2.length co14) y289 := (by rw [hw, Ny289.out]; exact HP34.1); clear HP34; have n0_ := A_ (hp_); have n1_ := A_ ((by rw [hw]; exact below_set (HB.out) GB14.out : Below w.heap.size w w35)); clear HO_6; clear HB; have HO_6 := n0_; have HB := n1_; clear n0_ n1_; clear hg hw hp_))
               (try simp only [← hl6_2])
               go_roundg k2
               case measure => have := HJ2.out; have := HK2.out; omega
               case rel => exact ⟨(y289), (wrap64 (x7_2 + 1)), (by first | rfl | (simp; done) | (simp [*]; done)), H', ⟨by have := HJ2.out; have := HK2.out; omega⟩, ⟨by (try simp only [hl6_2]); (with_reducible repeat (first | apply Kd.R_alloc | apply Kd.R_drewN | apply Kd.R_drew)); exact HO_6.out⟩, ⟨oB HB⟩⟩
              ·rw [if_neg c30] at H
               exact absurd H (by simp)
             ·rw [if_neg c29] at H
              exact absurd H (by simp)
           ·rw [if_neg c22] at H
            exact absurd H (by simp)
          ·rw [if_neg c21] at H
           exact absurd H (by simp)
         ·rw [if_neg c20] at H
          exact absurd H (by simp)
        ·rw [if_neg c19] at H
         have c19b0 : decide (x7_2 < (l1.length : Int)) = false := decide_eq_false c19
         clear c19
         simp only [Option.some.injEq, Prod.mk.injEq] at H
         obtain ⟨rfl, rfl⟩ := H
         go_wp2
         go_ret2
         exact ⟨_, eR, oR HO_6, oB HB⟩
     ·rw [if_neg c13] at H
      exact absurd H (by simp)
    ·rw [if_neg c12] at H
     exact absurd H (by simp)
end Go.Proofs.YtojiighpkppckaaDoor.P


namespace Go.Proofs.YtojiighpkppckaaDoor.P
open Go.RowKit Go.Proofs.YtojiighpkppckaaDoorW.PrintWords Go.Proofs.YtojiighpkppckaaDoorW.PrintLast Go.Proofs.YtojiighpkppckaaDoorW.PrintMore
attribute [local go_sem] max2_int min2_int max_two min_two max_three min_three max_four min_four
set_option linter.unusedVariables false
set_option linter.unusedSimpArgs false
def spec_l19Copy.f (l0 : List (S145)) : Option ((List (S145))) := (some (([] : List (S145)) : List (S145))).bind fun y290 => (if y290.length + l0.length < 4398046511104 then (some (y290 ++ l0)) else (none))
set_option maxHeartbeats 8000000 in
set_option maxRecDepth 100000 in
theorem spec_l19Copy.calls (A0 : Option Addr) (c0 : Nat) (l0 : List (S145)) (r : List (S145)) (w : World) (hr0 : Kd.C k145 w A0 l0.length l0) (hc0 : l0.length ≤ c0) (h : spec_l19Copy.f l0 = some r) :
  Calls Tryd.prog 135 #[.slice A0 l0.length c0] w fun e w' => ∃ v0_ : Value, e = .returned (v0_) ∧ Kd.R k145 145 w' w.heap.size (fun _ => True) v0_ r ∧ Below w.heap.size w w' := by
 have HR0 := A_ hr0
 have HC0 := A_ hc0
 clear hr0 hc0
 have HB := A_ (Below.refl w.heap.size w)
 have H : ((some (([] : List (S145)) : List (S145))).bind fun y290 => (if y290.length + l0.length < 4398046511104 then (some (y290 ++ l0)) else (none))) = some r := h
 clear h
 obtain ⟨y290, hy290⟩ : ∃ y_ : List (S145), y_ = (([] : List (S145))) := ⟨_, rfl⟩
 replace H : (if y290.length + l0.length < 4398046511104 then (some (y290 ++ l0)) else (none)) = some r := by first | (rw [hy290]; with_reducible exact H) | (have H2_ := (Option.bind_some _ _).symm.trans H; rw [hy290]; with_reducible exact H2_) | (have H2_ := (Option.bind_some _ _).symm.trans H; with_reducible exact H2_) | with_reducible exact H | (rw [hy290]; exact H) | exact H
 have Ny290 := A_ hy290
 clear hy290
 by_cases c2 : y290.length + l0.length < 4398046511104
 ·rw [if_pos c2] at H
  have LMc2 := A_ c2
  clear c2
  obtain ⟨y293, hy293⟩ : ∃ y_ : List (S145), y_ = (y290 ++ l0) := ⟨_, rfl⟩
  replace H : (some y293) = some r := by first | (rw [hy293]; with_reducible exact H) | (have H2_ := (Option.bind_some _ _).symm.trans H; rw [hy293]; with_reducible exact H2_) | (have H2_ := (Option.bind_some _ _).symm.trans H; with_reducible exact H2_) | with_reducible exact H | (rw [hy293]; exact H) | exact H
  have Ny293 := A_ hy293
  clear hy293
  obtain rfl := Option.some.inj H
  go_enter Tryd.func135, Tryd.ntmps135
  go_wp2_with (first | ((with_reducible refine gate_dst (N := 3) rfl ?_); refine Kd.R_lit k145 _ 145 ?hg (N := 3) ?hd (xs := ([] : List (S145))) (inner := []) (ok := fun _ => True) (okp := fun _ => True) ?hr ?hp (fun _ hk => hk) trivial (Below.refl _ _) (Nat.le_refl _) (by simp) ?_; (case hd => rfl); (case hg => rfl); (case hr => first | (go_simp; done) | (go_simp; rfl)); (case hp => exact (Reps.none _ _)); intro v291 w3 ho4 hb hg_ hnew_; clear hg_ hnew_; (first | rw [← Ny290.out] at ho4 | (simp only [Int.reduceToNat] at ho4; rw [← Ny290.out] at ho4)); have n0_ := A_ (Kd.R_lower ho4 (below_size (oB HB))); have n1_ := A_ (below_step (oB HB) hb); clear HB; have HO292 := n0_; have HB := n1_; clear n0_ n1_; clear hb ho4) | ((with_reducible refine gate_builtin (b := .append) (xs := #[.tmp 3, .tmp 4]) rfl ?_); at_builtin; refine Kd.R_append_rows k145 (w0 := w) w.heap.size rfl (.tmp 3) (.tmp 4) 38 145 (.agg #[(.int .i64 0), (.int .i64 0), (.int .i64 0), (.int .i64 0)]) 32 rfl Tryd.underlying38 info145 rfl (by decide) (by omega) v291 y290 l0 _ _ _ (fun _ => True) (fun _ => False) rfl rfl ?aO ?aR (fun _ _ h => h) (fun _ h => h.elim) ?aF ?aB ?aS ?aL ?_; (case aR => exact oc_ HR0.out); (case aB => exact (oB HB)); (case aF => exact (fun _ _ => trivial)); (case aO => exact (oR HO292)); (case aS => exact (below_size (oB HB))); (case aL => have := LMc2.out; omega); intro v294 w5 ho hb hg hat; rw [← Ny293.out] at ho; have n0_ := A_ (hb); have n1_ := A_ (ho); clear HB; clear HO292; have HB := n0_; have HO295 := n1_; clear n0_ n1_; clear ho hb hg hat))
  go_ret
  exact ⟨_, eR, oR HO295, oB HB⟩
 ·rw [if_neg c2] at H
  exact absurd H (by simp)
end Go.Proofs.YtojiighpkppckaaDoor.P


namespace Go.Proofs.YtojiighpkppckaaDoor.P
open Go.RowKit Go.Proofs.YtojiighpkppckaaDoorW.PrintWords Go.Proofs.YtojiighpkppckaaDoorW.PrintLast Go.Proofs.YtojiighpkppckaaDoorW.PrintMore
attribute [local go_sem] max2_int min2_int max_two min_two max_three min_three max_four min_four
set_option linter.unusedVariables false
set_option linter.unusedSimpArgs false
def spec_NewWork.f (k : Nat) (a0 : Int) (l1 : List (S145)) : Option ((List (S145)) × Int × List Int × Bool) := (spec_RunPlan.f k a0 l1).bind fun bt297 => (if bt297.2 = true then ((spec_l19Copy.f l1).bind fun t301 => (if 12 ≤ 35184372088832 then ((some (List.replicate 12 0 : List Int)).bind fun y304 => (if 0 < (y304.length : Int) then (some (t301, 0, (y304.set (0 : Int).toNat a0), true)) else (none))) else (none))) else (some (([] : List (S145)), 0, ([] : List Int), false)))
set_option maxHeartbeats 8000000 in
set_option maxRecDepth 100000 in
theorem spec_NewWork.calls (k : Nat) (a0 : Int) (A1 : Option Addr) (c1 : Nat) (l1 : List (S145)) (r1 : List (S145)) (r2 : Int) (r3 : List Int) (r4 : Bool) (w : World) (hr1 : Kd.C k145 w A1 l1.length l1) (hc1 : l1.length ≤ c1) (h : spec_NewWork.f k a0 l1 = some (r1, r2, r3, r4)) :
  Calls Tryd.prog 116 #[.int .i64 a0, .slice A1 l1.length c1] w fun e w' => ∃ v0_ v2_ : Value, e = .returned (.tuple #[.agg #[v0_, .int .i64 r2, v2_], .bool r4]) ∧ Kd.R k145 145 w' w.heap.size (fun _ => True) v0_ r1 ∧ Kd.R (Kd.int .i64) 3 w' w.heap.size (fun _ => True) v2_ r3 ∧ Below w.heap.size w w' := by
 have hu41 := Tryd.underlying41
 have HR1 := A_ hr1
 have HC1 := A_ hc1
 clear hr1 hc1
 have HB := A_ (Below.refl w.heap.size w)
 have H : ((spec_RunPlan.f k a0 l1).bind fun bt297 => (if bt297.2 = true then ((spec_l19Copy.f l1).bind fun t301 => (if 12 ≤ 35184372088832 then ((some (List.replicate 12 0 : List Int)).bind fun y304 => (if 0 < (y304.length : Int) then (some (t301, 0, (y304.set (0 : Int).toNat a0), true)) else (none))) else (none))) else (some (([] : List (S145)), 0, ([] : List Int), false)))) = some (r1, r2, r3, r4) := h
 clear h
 replace H := Option.bind_eq_some_iff.mp H
 obtain ⟨⟨t297, t298⟩, A30, H⟩ := H
 (try dsimp only at H)
 have A3 := A_ A30
 clear A30
 by_cases c4 : t298 = true
 ·subst c4
  rw [if_pos rfl] at H
  replace H := Option.bind_eq_some_iff.mp H
  obtain ⟨t301, A50, H⟩ := H
  (try dsimp only at H)
  have A5 := A_ A50
  clear A50
  by_cases c6 : 12 ≤ 35184372088832
  ·rw [if_pos c6] at H
   have c6b0 := eq_true c6
   have c6b1 : decide (12 ≤ 35184372088832) = true := decide_eq_true c6
   clear c6
   obtain ⟨y304, hy304⟩ : ∃ y_ : List Int, y_ = (List.replicate 12 0) := ⟨_, rfl⟩
   replace H : (if 0 < (y304.length : Int) then (some (t301, 0, (y304.set (0 : Int).toNat a0), true)) else (none)) = some (r1, r2, r3, r4) := by first | (rw [hy304]; with_reducible exact H) | (have H2_ := (Option.bind_some _ _).symm.trans H; rw [hy304]; with_reducible exact H2_) | (have H2_ := (Option.bind_some _ _).symm.trans H; with_reducible exact H2_) | with_reducible exact H | (rw [hy304]; exact H) | exact H
   have Ny304 := A_ hy304
   clear hy304
   by_cases c7 : 0 < (y304.length : Int)
   ·rw [if_pos c7] at H
    have c7b0 : decide (0 < (y304.length : Int)) = true := decide_eq_true c7
    have c7b1 : decide (0 < y304.length) = true := decide_eq_true (by omega)
    clear c7
    obtain ⟨y308, hy308⟩ : ∃ y_ : List Int, y_ = (y304.set (0 : Int).toNat a0) := ⟨_, rfl⟩
    replace H : (some (t301, 0, y308, true)) = some (r1, r2, r3, r4) := by first | (rw [hy308]; with_reducible exact H) | (have H2_ := (Option.bind_some _ _).symm.trans H; rw [hy308]; with_reducible exact H2_) | (have H2_ := (Option.bind_some _ _).symm.trans H; with_reducible exact H2_) | with_reducible exact H | (rw [hy308]; exact H) | exact H
    have Ny308 := A_ hy308
    clear hy308
    simp only [Option.some.injEq, Prod.mk.injEq] at H
    obtain ⟨rfl, rfl, rfl, rfl⟩ := H
    go_enter Tryd.func116, Tryd.ntmps116
    try go_wp2_with (first | ((with_reducible refine gate_dst (N := 4) rfl ?_); refine bX (N := 4) (cs := #[.slice none 0 0, .int .i64 0, .slice none 0 0]) (t := 41) ?_; intro gb296 hg w9 hbox hb; have n0_ := A_ (below_step (oB HB) hb); have n1_ := A_ (hbox); have n2_ := A_ ((by rw [hg]; exact (below_size (oB HB)) : w.heap.size ≤ gb296)); have n3_ := A_ ((by rw [hg]; exact (below_size (oB HB)) : w.heap.size ≤ gb296)); clear HB; have HB := n0_; have BK296 := n1_; have GW296 := n2_; have GE296 := n3_; clear n0_ n1_ n2_ n3_; clear hb hbox hg) | ((with_reducible refine gate_callee (f := 134) rfl ?_); refine gL (some 12) Tryd.func134 #[.int .i64 a0, .slice A1 l1.length c1] ?_; (with_reducible refine (spec_RunPlan.calls k a0 _ _ l1 t297 true _ ?side1 ?side2 A3.out).mono ?_); (case side1 => exact oc_ HR1.out); (case side2 => exact HC1.out); rintro e w10 ⟨v299, rfl, ho0, hb⟩; refine ⟨_, rfl, ?_⟩; have n0_ := A_ (Kd.R_lower ho0 (below_size (oB HB))); have n1_ := A_ (bb BK296 hb); have n2_ := A_ (below_step (oB HB) hb); clear BK296; clear HB; have HO300 := n0_; have BK296 := n1_; have HB := n2_; clear n0_ n1_ n2_; (try clear hb); (try clear hb2); (try clear hk); (try clear hi); (try clear ho0)))
    have n0_ := A_ (Kd.R_drew HO300.out)
    have n1_ := A_ (blk_drew BK296.out)
    have n2_ := A_ (below_drew1 HB.out)
    clear HO300
    clear BK296
    clear HB
    have HO300 := n0_
    have BK296 := n1_
    have HB := n2_
    clear n0_ n1_ n2_
    refine start_ (n := 6) (S := fun w' => True) (ds := []) #[false, false, false, false, false, false] (by kernel_rfl) rfl rfl trivial (fun hHeld => ?_)
    generalize w10.drew = w11 at HO300 BK296 HB hHeld ⊢
    refine pure_ (i := 0) (N := some 18) (v := ?_) (a' := ?_) #[true, false, false, false, false, false] rfl rfl (by kernel_rfl) (fun _ _ _ h => h) (Or.inl ⟨by rfl, ?_⟩) ?_ ?_
    rotate_left
    ·intro w'
     go_simp
     with_reducible rfl
    rotate_left
    ·simp only [Act.put, List.setIfInBounds_toArray, List.set_cons_zero, List.set_cons_succ, i64_w, i32_w]
     rfl
    refine join_ (σ := Value × Value × Nat) 1 #[true, true, true, true, true, false] (fun s_ => [(19, s_.1), (20, s_.2.1), (8, .pointer (some ⟨s_.2.2, 0, none⟩)), (21, .agg #[s_.1, .int .i64 0, s_.2.1])]) (fun s_ w' => (Kd.R (Kd.int .i64) 3 w' w.heap.size (fun k_ => some k_ ≠ (s_.2.1 : Value).ownBlock) v299 t297) ∧ (Kd.R k145 145 w' w.heap.size (fun _ => True) s_.1 t301) ∧ (Kd.R (Kd.int .i64) 3 w' w.heap.size (fun k_ => some k_ ≠ (v299 : Value).ownBlock) s_.2.1 y304) ∧ (w'.heap[gb296]? = some (.cells #[.slice none 0 0, .int .i64 0, .slice none 0 0] 41 (0, 0))) ∧ (w'.heap[s_.2.2]? = some (.cells #[.slice none 0 0, .int .i64 0, .slice none 0 0] 41 (0, 0))) ∧ (w.heap.size ≤ s_.2.2) ∧ (w.heap.size ≤ s_.2.2) ∧ (gb296 ≠ s_.2.2) ∧ (s_.2.2 ≠ gb296) ∧ (Below w.heap.size w w')) ?_ ?_
    rotate_left
    ·intro hJ1_2_4
     refine join_ (σ := Value × Value) 2 #[true, true, true, true, false, false] (fun s_ => [(19, s_.1), (20, s_.2), (21, .agg #[s_.1, .int .i64 0, s_.2])]) (fun s_ w' => (Kd.R (Kd.int .i64) 3 w' w.heap.size (fun k_ => some k_ ≠ (s_.2 : Value).ownBlock) v299 t297) ∧ (Kd.R k145 145 w' w.heap.size (fun _ => True) s_.1 t301) ∧ (Kd.R (Kd.int .i64) 3 w' w.heap.size (fun k_ => some k_ ≠ (v299 : Value).ownBlock) s_.2 y304) ∧ (w'.heap[gb296]? = some (.cells #[.slice none 0 0, .int .i64 0, .slice none 0 0] 41 (0, 0))) ∧ (Below w.heap.size w w')) ?_ ?_
     rotate_left
     ·intro hJ1_2
      refine join_ (σ := Value × Nat) 3 #[true, true, false, false, true, false] (fun s_ => [(19, s_.1), (8, .pointer (some ⟨s_.2, 0, none⟩))]) (fun s_ w' => (Kd.R (Kd.int .i64) 3 w' w.heap.size (fun _ => True) v299 t297) ∧ (Kd.R k145 145 w' w.heap.size (fun _ => True) s_.1 t301) ∧ (w'.heap[gb296]? = some (.cells #[.slice none 0 0, .int .i64 0, .slice none 0 0] 41 (0, 0))) ∧ (w'.heap[s_.2]? = some (.cells #[.slice none 0 0, .int .i64 0, .slice none 0 0] 41 (0, 0))) ∧ (w.heap.size ≤ s_.2) ∧ (w.heap.size ≤ s_.2) ∧ (gb296 ≠ s_.2) ∧ (s_.2 ≠ gb296) ∧ (Below w.heap.size w w')) ?_ ?_
      rotate_left
      ·intro hJ1_4
       refine join_ (σ := Value × Nat) 3 #[true, false, true, false, true, false] (fun s_ => [(20, s_.1), (8, .pointer (some ⟨s_.2, 0, none⟩))]) (fun s_ w' => (Kd.R (Kd.int .i64) 3 w' w.heap.size (fun k_ => some k_ ≠ (s_.1 : Value).ownBlock) v299 t297) ∧ (Kd.R (Kd.int .i64) 3 w' w.heap.size (fun k_ => some k_ ≠ (v299 : Value).ownBlock) s_.1 y304) ∧ (w'.heap[gb296]? = some (.cells #[.slice none 0 0, .int .i64 0, .slice none 0 0] 41 (0, 0))) ∧ (w'.heap[s_.2]? = some (.cells #[.slice none 0 0, .int .i64 0, .slice none 0 0] 41 (0, 0))) ∧ (w.heap.size ≤ s_.2) ∧ (w.heap.size ≤ s_.2) ∧ (gb296 ≠ s_.2) ∧ (s_.2 ≠ gb296) ∧ (Below w.heap.size w w')) ?_ ?_
       rotate_left
       ·intro hJ2_4
        refine join_ (σ := Value) 4 #[true, true, false, false, false, false] (fun s_ => [(19, s_)]) (fun s_ w' => (Kd.R (Kd.int .i64) 3 w' w.heap.size (fun _ => True) v299 t297) ∧ (Kd.R k145 145 w' w.heap.size (fun _ => True) s_ t301) ∧ (w'.heap[gb296]? = some (.cells #[.slice none 0 0, .int .i64 0, .slice none 0 0] 41 (0, 0))) ∧ (Below w.heap.size w w')) ?_ ?_
        rotate_left
        ·intro hJ1
         refine join_ (σ := Value) 4 #[true, false, true, false, false, false] (fun s_ => [(20, s_)]) (fun s_ w' => (Kd.R (Kd.int .i64) 3 w' w.heap.size (fun k_ => some k_ ≠ (s_ : Value).ownBlock) v299 t297) ∧ (Kd.R (Kd.int .i64) 3 w' w.heap.size (fun k_ => some k_ ≠ (v299 : Value).ownBlock) s_ y304) ∧ (w'.heap[gb296]? = some (.cells #[.slice none 0 0, .int .i64 0, .slice none 0 0] 41 (0, 0))) ∧ (Below w.heap.size w w')) ?_ ?_
         rotate_left
         ·intro hJ2
          refine join_ (σ := Nat) 4 #[true, false, false, false, true, false] (fun s_ => [(8, .pointer (some ⟨s_, 0, none⟩))]) (fun s_ w' => (Kd.R (Kd.int .i64) 3 w' w.heap.size (fun _ => True) v299 t297) ∧ (w'.heap[gb296]? = some (.cells #[.slice none 0 0, .int .i64 0, .slice none 0 0] 41 (0, 0))) ∧ (w'.heap[s_]? = some (.cells #[.slice none 0 0, .int .i64 0, .slice none 0 0] 41 (0, 0))) ∧ (w.heap.size ≤ s_) ∧ (w.heap.size ≤ s_) ∧ (gb296 ≠ s_) ∧ (s_ ≠ gb296) ∧ (Below w.heap.size w w')) ?_ ?_
          rotate_left
          ·intro hJ4
           refine three_ (i := 1) (j := 2) (k := 4) (Ni := some 19) (Nj := some 20) (Nk := some 8) #[true, true, false, false, false, false] #[true, false, true, false, false, false] #[true, false, false, false, true, false] rfl rfl rfl rfl rfl rfl (by kernel_rfl) (by decide) (by decide) (by decide) (fun K hK => ?_) (fun K hK => ?_) (fun K hK => ?_)
           ·skip
            refine goes_ Tryd.func135 (by kernel_rfl) rfl #[.slice A1 l1.length c1] (by rfl) rfl rfl (by (try simp only [List.map_toArray, List.map_cons, List.map_nil]); first | done | rfl | (simp only [List.length_drop, List.length_take]; rfl)) ?_
            with_reducible refine (spec_l19Copy.calls _ _ l1 t301 _ ?side1 ?side2 A5.out).mono ?_
            (case side1 => exact oc_ HR1.out)
            (case side2 => exact HC1.out)
            rintro e w12 ⟨v302, rfl, ho0, hb⟩
            refine ⟨_, rfl, ?_⟩
            have n0_ := A_ (Kd.R_below (oR HO300) hb)
            have n1_ := A_ (Kd.R_lower ho0 (below_size (oB HB)))
            have n2_ := A_ (bb BK296 hb)
            have n3_ := A_ (below_step (oB HB) hb)
            clear HO300
            clear BK296
            clear HB
            have HO300 := n0_
            have HO303 := n1_
            have BK296 := n2_
            have HB := n3_
            clear n0_ n1_ n2_ n3_
            (try clear hb)
            (try clear hb2)
            (try clear hk)
            (try clear hi)
            (try clear ho0)
            refine hK.out _ _ trivial (fun hHeld => ?_)
            clear hK K
            refine norm_ (a' := ?_) ?_ ?_
            rotate_left
            ·show Act.put _ (some 19) _ = _
             simp only [Act.put, List.setIfInBounds_toArray, List.set_cons_zero, List.set_cons_succ, i64_w, i32_w]
             rfl
            exact norm_ (by first | (simp only [putAll, Act.put, List.setIfInBounds_toArray, List.set_cons_zero, List.set_cons_succ]; done) | (simp only [putAll, Act.put, List.setIfInBounds_toArray, List.set_cons_zero, List.set_cons_succ]; rfl)) (hJ1 (v302) _ ⟨(oR HO300), (oR HO303), (oK BK296), (oB HB)⟩)
           ·skip
            refine Kd.R_make_step (Kd.int .i64) _ 3 (by rfl) (N := 20) rfl 39 _ _ rfl 12 rfl rfl Tryd.underlying39 (.int .i64 0) 8 info3 rfl (by decide) (by omega) 0 (ok := fun _ => True) (okp := fun _ => True) rfl (fun _ hk => hk) trivial (by omega) (by omega) (Below.refl _ _) (Nat.le_refl _) ?_
            intro v305 w12 ho13 hb hg_ hnew_
            clear hg_ hnew_
            (first | rw [← Ny304.out] at ho13 | (simp only [Int.reduceToNat] at ho13; rw [← Ny304.out] at ho13))
            have n0_ := A_ (Kd.R_elder' (oR HO300) (Kd.R_base ho13) hb)
            have n1_ := A_ (Kd.R_lower (Kd.R_new' ho13 (Kd.R_lt (oR HO300))) (below_size (oB HB)))
            have n2_ := A_ (bb BK296 hb)
            have n3_ := A_ (below_step (oB HB) hb)
            clear HO300
            clear BK296
            clear HB
            have HO300 := n0_
            have HO306 := n1_
            have BK296 := n2_
            have HB := n3_
            clear n0_ n1_ n2_ n3_
            clear hb ho13
            refine hK.out _ _ trivial (fun hHeld => ?_)
            clear hK K
            refine norm_ (a' := ?_) ?_ ?_
            rotate_left
            ·show Act.put _ (some 20) _ = _
             simp only [Act.put, List.setIfInBounds_toArray, List.set_cons_zero, List.set_cons_succ, i64_w, i32_w]
             rfl
            exact norm_ (by first | (simp only [putAll, Act.put, List.setIfInBounds_toArray, List.set_cons_zero, List.set_cons_succ]; done) | (simp only [putAll, Act.put, List.setIfInBounds_toArray, List.set_cons_zero, List.set_cons_succ]; rfl)) (hJ2 (v305) _ ⟨(by (with_reducible repeat (first | apply Kd.R_alloc | apply Kd.R_drewN | apply Kd.R_drew)); exact Kd.R_mono HO300.out (fun _ hk => hk.2)), (by (with_reducible repeat (first | apply Kd.R_alloc | apply Kd.R_drewN | apply Kd.R_drew)); exact Kd.R_mono HO306.out (fun _ hk => hk.2)), (oK BK296), (oB HB)⟩)
           ·skip
            refine box_step ?hg (N := 8) ?hd (cs := #[.slice none 0 0, .int .i64 0, .slice none 0 0]) (t := 41) ?hr ?_; (case hd => rfl); (case hg => rfl); (case hr => first | (go_simp; done) | (go_simp; rfl))
            intro gb307 hg w12 hbox hb
            have n0_ := A_ (Kd.R_below (oR HO300) hb)
            have n1_ := A_ (bb BK296 hb)
            have n2_ := A_ (below_step (oB HB) hb)
            have n3_ := A_ (hbox)
            have n4_ := A_ ((by rw [hg]; exact (below_size (oB HB)) : w.heap.size ≤ gb307))
            have n5_ := A_ ((by rw [hg]; exact (below_size (oB HB)) : w.heap.size ≤ gb307))
            have n6_ := A_ (nL BK296 hg)
            have n7_ := A_ (nG BK296 hg)
            clear HO300
            clear BK296
            clear HB
            have HO300 := n0_
            have BK296 := n1_
            have HB := n2_
            have BK307 := n3_
            have GW307 := n4_
            have GE307 := n5_
            have NB296_307 := n6_
            have NB307_296 := n7_
            clear n0_ n1_ n2_ n3_ n4_ n5_ n6_ n7_
            clear hb hbox hg
            refine hK.out _ _ trivial (fun hHeld => ?_)
            clear hK K
            refine norm_ (a' := ?_) ?_ ?_
            rotate_left
            ·show Act.put _ (some 8) _ = _
             simp only [Act.put, List.setIfInBounds_toArray, List.set_cons_zero, List.set_cons_succ, i64_w, i32_w]
             rfl
            exact norm_ (by first | (simp only [putAll, Act.put, List.setIfInBounds_toArray, List.set_cons_zero, List.set_cons_succ]; done) | (simp only [putAll, Act.put, List.setIfInBounds_toArray, List.set_cons_zero, List.set_cons_succ]; rfl)) (hJ4 (gb307) _ ⟨(oR HO300), (oK BK296), (oK BK307), GW307.out, GE307.out, NB296_307.out, NB307_296.out, (oB HB)⟩)
          ·skip
           rintro gb307 w13 ⟨h0_, h1_, h2_, h3_, h4_, h5_, h6_, h7_⟩
           have n0_ : Aside0 (Kd.R (Kd.int .i64) 3 w13 w.heap.size (fun _ => True) v299 t297) := ⟨h0_⟩
           have n1_ : Aside0 (w13.heap[gb296]? = some (.cells #[.slice none 0 0, .int .i64 0, .slice none 0 0] 41 (0, 0))) := ⟨h1_⟩
           have n2_ : Aside0 (w13.heap[gb307]? = some (.cells #[.slice none 0 0, .int .i64 0, .slice none 0 0] 41 (0, 0))) := ⟨h2_⟩
           have n3_ : Aside0 (w.heap.size ≤ gb307) := ⟨h3_⟩
           have n4_ : Aside0 (w.heap.size ≤ gb307) := ⟨h4_⟩
           have n5_ : Aside0 (gb296 ≠ gb307) := ⟨h5_⟩
           have n6_ : Aside0 (gb307 ≠ gb296) := ⟨h6_⟩
           have n7_ : Aside0 (Below w.heap.size w w13) := ⟨h7_⟩
           clear HO300
           clear BK296
           clear HB
           clear h0_ h1_ h2_ h3_ h4_ h5_ h6_ h7_
           have HO300 := n0_
           have BK296 := n1_
           have BK307 := n2_
           have GW307 := n3_
           have GE307 := n4_
           have NB296_307 := n5_
           have NB307_296 := n6_
           have HB := n7_
           clear n0_ n1_ n2_ n3_ n4_ n5_ n6_ n7_
           have hHeld := trivial
           refine norm_ (a' := ?_) ?_ ?_
           rotate_left
           ·simp only [putAll, Act.put, List.setIfInBounds_toArray, List.set_cons_zero, List.set_cons_succ]
            rfl
           refine two_ (i := 1) (j := 2) (Ni := some 19) (Nj := some 20) #[true, true, false, false, true, false] #[true, false, true, false, true, false] rfl rfl rfl rfl (by kernel_rfl) (by decide) (by decide) (fun K hK => ?_) (fun K hK => ?_)
           ·skip
            refine goes_ Tryd.func135 (by kernel_rfl) rfl #[.slice A1 l1.length c1] (by rfl) rfl rfl (by (try simp only [List.map_toArray, List.map_cons, List.map_nil]); first | done | rfl | (simp only [List.length_drop, List.length_take]; rfl)) ?_
            with_reducible refine (spec_l19Copy.calls _ _ l1 t301 _ ?side1 ?side2 A5.out).mono ?_
            (case side1 => exact oc_ HR1.out)
            (case side2 => exact HC1.out)
            rintro e w14 ⟨v302, rfl, ho0, hb⟩
            refine ⟨_, rfl, ?_⟩
            have n0_ := A_ (Kd.R_below (oR HO300) hb)
            have n1_ := A_ (Kd.R_lower ho0 (below_size (oB HB)))
            have n2_ := A_ (bb BK296 hb)
            have n3_ := A_ (bb BK307 hb)
            have n4_ := A_ (below_step (oB HB) hb)
            clear HO300
            clear BK296
            clear BK307
            clear HB
            have HO300 := n0_
            have HO303 := n1_
            have BK296 := n2_
            have BK307 := n3_
            have HB := n4_
            clear n0_ n1_ n2_ n3_ n4_
            (try clear hb)
            (try clear hb2)
            (try clear hk)
            (try clear hi)
            (try clear ho0)
            refine hK.out _ _ trivial (fun hHeld => ?_)
            clear hK K
            refine norm_ (a' := ?_) ?_ ?_
            rotate_left
            ·show Act.put _ (some 19) _ = _
             simp only [Act.put, List.setIfInBounds_toArray, List.set_cons_zero, List.set_cons_succ, i64_w, i32_w]
             rfl
            exact norm_ (by first | (simp only [putAll, Act.put, List.setIfInBounds_toArray, List.set_cons_zero, List.set_cons_succ]; done) | (simp only [putAll, Act.put, List.setIfInBounds_toArray, List.set_cons_zero, List.set_cons_succ]; rfl)) (hJ1_4 (v302, gb307) _ ⟨(oR HO300), (oR HO303), (oK BK296), (oK BK307), GW307.out, GE307.out, NB296_307.out, NB307_296.out, (oB HB)⟩)
           ·skip
            refine Kd.R_make_step (Kd.int .i64) _ 3 (by rfl) (N := 20) rfl 39 _ _ rfl 12 rfl rfl Tryd.underlying39 (.int .i64 0) 8 info3 rfl (by decide) (by omega) 0 (ok := fun _ => True) (okp := fun _ => True) rfl (fun _ hk => hk) trivial (by omega) (by omega) (Below.refl _ _) (Nat.le_refl _) ?_
            intro v305 w14 ho15 hb hg_ hnew_
            clear hg_ hnew_
            (first | rw [← Ny304.out] at ho15 | (simp only [Int.reduceToNat] at ho15; rw [← Ny304.out] at ho15))
            have n0_ := A_ (Kd.R_elder' (oR HO300) (Kd.R_base ho15) hb)
            have n1_ := A_ (Kd.R_lower (Kd.R_new' ho15 (Kd.R_lt (oR HO300))) (below_size (oB HB)))
            have n2_ := A_ (bb BK296 hb)
            have n3_ := A_ (bb BK307 hb)
            have n4_ := A_ (below_step (oB HB) hb)
            clear HO300
            clear BK296
            clear BK307
            clear HB
            have HO300 := n0_
            have HO306 := n1_
            have BK296 := n2_
            have BK307 := n3_
            have HB := n4_
            clear n0_ n1_ n2_ n3_ n4_
            clear hb ho15
            refine hK.out _ _ trivial (fun hHeld => ?_)
            clear hK K
            refine norm_ (a' := ?_) ?_ ?_
            rotate_left
            ·show Act.put _ (some 20) _ = _
             simp only [Act.put, List.setIfInBounds_toArray, List.set_cons_zero, List.set_cons_succ, i64_w, i32_w]
             rfl
            exact norm_ (by first | (simp only [putAll, Act.put, List.setIfInBounds_toArray, List.set_cons_zero, List.set_cons_succ]; done) | (simp only [putAll, Act.put, List.setIfInBounds_toArray, List.set_cons_zero, List.set_cons_succ]; rfl)) (hJ2_4 (v305, gb307) _ ⟨(by (with_reducible repeat (first | apply Kd.R_alloc | apply Kd.R_drewN | apply Kd.R_drew)); exact Kd.R_mono HO300.out (fun _ hk => hk.2)), (by (with_reducible repeat (first | apply Kd.R_alloc | apply Kd.R_drewN | apply Kd.R_drew)); exact Kd.R_mono HO306.out (fun _ hk => hk.2)), (oK BK296), (oK BK307), GW307.out, GE307.out, NB296_307.out, NB307_296.out, (oB HB)⟩)
         ·skip
          rintro v305 w14 ⟨h0_, h1_, h2_, h3_⟩
          have n0_ : Aside0 (Kd.R (Kd.int .i64) 3 w14 w.heap.size (fun k_ => some k_ ≠ (v305 : Value).ownBlock) v299 t297) := ⟨h0_⟩
          have n1_ : Aside0 (Kd.R (Kd.int .i64) 3 w14 w.heap.size (fun k_ => some k_ ≠ (v299 : Value).ownBlock) v305 y304) := ⟨h1_⟩
          have n2_ : Aside0 (w14.heap[gb296]? = some (.cells #[.slice none 0 0, .int .i64 0, .slice none 0 0] 41 (0, 0))) := ⟨h2_⟩
          have n3_ : Aside0 (Below w.heap.size w w14) := ⟨h3_⟩
          clear HO300
          clear BK296
          clear HB
          clear h0_ h1_ h2_ h3_
          have HO300 := n0_
          have HO306 := n1_
          have BK296 := n2_
          have HB := n3_
          clear n0_ n1_ n2_ n3_
          have hHeld := trivial
          refine norm_ (a' := ?_) ?_ ?_
          rotate_left
          ·simp only [putAll, Act.put, List.setIfInBounds_toArray, List.set_cons_zero, List.set_cons_succ]
           rfl
          refine two_ (i := 1) (j := 4) (Ni := some 19) (Nj := some 8) #[true, true, true, false, false, false] #[true, false, true, false, true, false] rfl rfl rfl rfl (by kernel_rfl) (by decide) (by decide) (fun K hK => ?_) (fun K hK => ?_)
          ·skip
           refine goes_ Tryd.func135 (by kernel_rfl) rfl #[.slice A1 l1.length c1] (by rfl) rfl rfl (by (try simp only [List.map_toArray, List.map_cons, List.map_nil]); first | done | rfl | (simp only [List.length_drop, List.length_take]; rfl)) ?_
           with_reducible refine (spec_l19Copy.calls _ _ l1 t301 _ ?side1 ?side2 A5.out).mono ?_
           (case side1 => exact oc_ HR1.out)
           (case side2 => exact HC1.out)
           rintro e w15 ⟨v302, rfl, ho0, hb⟩
           refine ⟨_, rfl, ?_⟩
           have n0_ := A_ (Kd.R_below (oR HO300) hb)
           have n1_ := A_ (Kd.R_below (oR HO306) hb)
           have n2_ := A_ (Kd.R_lower ho0 (below_size (oB HB)))
           have n3_ := A_ (bb BK296 hb)
           have n4_ := A_ (below_step (oB HB) hb)
           clear HO300
           clear HO306
           clear BK296
           clear HB
           have HO300 := n0_
           have HO306 := n1_
           have HO303 := n2_
           have BK296 := n3_
           have HB := n4_
           clear n0_ n1_ n2_ n3_ n4_
           (try clear hb)
           (try clear hb2)
           (try clear hk)
           (try clear hi)
           (try clear ho0)
           obtain ⟨Ao16, co16, eo16⟩ := Kd.R_slice HO306.out
           (first | subst eo16 | (injection eo16 with f1_ f2_ f3_; have f4_ := f1_.symm; have f5_ := f3_.symm; clear f1_ f2_ f3_; subst f4_; subst f5_))
           obtain ⟨Ao17, co17, eo17⟩ := Kd.R_slice HO303.out
           (first | subst eo17 | (injection eo17 with f1_ f2_ f3_; have f4_ := f1_.symm; have f5_ := f3_.symm; clear f1_ f2_ f3_; subst f4_; subst f5_))
           refine hK.out _ _ trivial (fun hHeld => ?_)
           clear hK K
           refine norm_ (a' := ?_) ?_ ?_
           rotate_left
           ·show Act.put _ (some 19) _ = _
            simp only [Act.put, List.setIfInBounds_toArray, List.set_cons_zero, List.set_cons_succ, i64_w, i32_w]
            rfl
           refine pure_ (i := 3) (N := some 21) (v := ?_) (a' := ?_) #[true, true, true, true, false, false] rfl rfl (by kernel_rfl) (fun _ _ _ h => h) (Or.inl ⟨by rfl, ?_⟩) ?_ ?_
           rotate_left
           ·intro w'
            go_simp
            with_reducible rfl
           rotate_left
           ·simp only [Act.put, List.setIfInBounds_toArray, List.set_cons_zero, List.set_cons_succ, i64_w, i32_w]
            rfl
           exact norm_ (by first | (simp only [putAll, Act.put, List.setIfInBounds_toArray, List.set_cons_zero, List.set_cons_succ]; done) | (simp only [putAll, Act.put, List.setIfInBounds_toArray, List.set_cons_zero, List.set_cons_succ]; rfl)) (hJ1_2 (.slice Ao17 t301.length co17, .slice Ao16 y304.length co16) _ ⟨(oR HO300), (oR HO303), (oR HO306), (oK BK296), (oB HB)⟩)
          ·skip
           refine box_step ?hg (N := 8) ?hd (cs := #[.slice none 0 0, .int .i64 0, .slice none 0 0]) (t := 41) ?hr ?_; (case hd => rfl); (case hg => rfl); (case hr => first | (go_simp; done) | (go_simp; rfl))
           intro gb307 hg w15 hbox hb
           have n0_ := A_ (Kd.R_below (oR HO300) hb)
           have n1_ := A_ (Kd.R_below (oR HO306) hb)
           have n2_ := A_ (bb BK296 hb)
           have n3_ := A_ (below_step (oB HB) hb)
           have n4_ := A_ (hbox)
           have n5_ := A_ ((by rw [hg]; exact (below_size (oB HB)) : w.heap.size ≤ gb307))
           have n6_ := A_ ((by rw [hg]; exact (below_size (oB HB)) : w.heap.size ≤ gb307))
           have n7_ := A_ (nL BK296 hg)
           have n8_ := A_ (nG BK296 hg)
           clear HO300
           clear HO306
           clear BK296
           clear HB
           have HO300 := n0_
           have HO306 := n1_
           have BK296 := n2_
           have HB := n3_
           have BK307 := n4_
           have GW307 := n5_
           have GE307 := n6_
           have NB296_307 := n7_
           have NB307_296 := n8_
           clear n0_ n1_ n2_ n3_ n4_ n5_ n6_ n7_ n8_
           clear hb hbox hg
           refine hK.out _ _ trivial (fun hHeld => ?_)
           clear hK K
           refine norm_ (a' := ?_) ?_ ?_
           rotate_left
           ·show Act.put _ (some 8) _ = _
            simp only [Act.put, List.setIfInBounds_toArray, List.set_cons_zero, List.set_cons_succ, i64_w, i32_w]
            rfl
           exact norm_ (by first | (simp only [putAll, Act.put, List.setIfInBounds_toArray, List.set_cons_zero, List.set_cons_succ]; done) | (simp only [putAll, Act.put, List.setIfInBounds_toArray, List.set_cons_zero, List.set_cons_succ]; rfl)) (hJ2_4 (v305, gb307) _ ⟨(oR HO300), (oR HO306), (oK BK296), (oK BK307), GW307.out, GE307.out, NB296_307.out, NB307_296.out, (oB HB)⟩)
        ·skip
         rintro v302 w13 ⟨h0_, h1_, h2_, h3_⟩
         have n0_ : Aside0 (Kd.R (Kd.int .i64) 3 w13 w.heap.size (fun _ => True) v299 t297) := ⟨h0_⟩
         have n1_ : Aside0 (Kd.R k145 145 w13 w.heap.size (fun _ => True) v302 t301) := ⟨h1_⟩
         have n2_ : Aside0 (w13.heap[gb296]? = some (.cells #[.slice none 0 0, .int .i64 0, .slice none 0 0] 41 (0, 0))) := ⟨h2_⟩
         have n3_ : Aside0 (Below w.heap.size w w13) := ⟨h3_⟩
         clear HO300
         clear BK296
         clear HB
         clear h0_ h1_ h2_ h3_
         have HO300 := n0_
         have HO303 := n1_
         have BK296 := n2_
         have HB := n3_
         clear n0_ n1_ n2_ n3_
         have hHeld := trivial
         refine norm_ (a' := ?_) ?_ ?_
         rotate_left
         ·simp only [putAll, Act.put, List.setIfInBounds_toArray, List.set_cons_zero, List.set_cons_succ]
          rfl
         refine two_ (i := 2) (j := 4) (Ni := some 20) (Nj := some 8) #[true, true, true, false, false, false] #[true, true, false, false, true, false] rfl rfl rfl rfl (by kernel_rfl) (by decide) (by decide) (fun K hK => ?_) (fun K hK => ?_)
         ·skip
          refine Kd.R_make_step (Kd.int .i64) _ 3 (by rfl) (N := 20) rfl 39 _ _ rfl 12 rfl rfl Tryd.underlying39 (.int .i64 0) 8 info3 rfl (by decide) (by omega) 0 (ok := fun _ => True) (okp := fun _ => True) rfl (fun _ hk => hk) trivial (by omega) (by omega) (Below.refl _ _) (Nat.le_refl _) ?_
          intro v305 w14 ho15 hb hg_ hnew_
          clear hg_ hnew_
          (first | rw [← Ny304.out] at ho15 | (simp only [Int.reduceToNat] at ho15; rw [← Ny304.out] at ho15))
          have n0_ := A_ (Kd.R_elder' (oR HO300) (Kd.R_base ho15) hb)
          have n1_ := A_ (Kd.R_below (oR HO303) hb)
          have n2_ := A_ (Kd.R_lower (Kd.R_new' ho15 (Kd.R_lt (oR HO300))) (below_size (oB HB)))
          have n3_ := A_ (bb BK296 hb)
          have n4_ := A_ (below_step (oB HB) hb)
          clear HO300
          clear HO303
          clear BK296
          clear HB
          have HO300 := n0_
          have HO303 := n1_
          have HO306 := n2_
          have BK296 := n3_
          have HB := n4_
          clear n0_ n1_ n2_ n3_ n4_
          clear hb ho15
          obtain ⟨Ao16, co16, eo16⟩ := Kd.R_slice HO306.out
          (first | subst eo16 | (injection eo16 with f1_ f2_ f3_; have f4_ := f1_.symm; have f5_ := f3_.symm; clear f1_ f2_ f3_; subst f4_; subst f5_))
          obtain ⟨Ao17, co17, eo17⟩ := Kd.R_slice HO303.out
          (first | subst eo17 | (injection eo17 with f1_ f2_ f3_; have f4_ := f1_.symm; have f5_ := f3_.symm; clear f1_ f2_ f3_; subst f4_; subst f5_))
          refine hK.out _ _ trivial (fun hHeld => ?_)
          clear hK K
          refine norm_ (a' := ?_) ?_ ?_
          rotate_left
          ·show Act.put _ (some 20) _ = _
           simp only [Act.put, List.setIfInBounds_toArray, List.set_cons_zero, List.set_cons_succ, i64_w, i32_w]
           rfl
          refine pure_ (i := 3) (N := some 21) (v := ?_) (a' := ?_) #[true, true, true, true, false, false] rfl rfl (by kernel_rfl) (fun _ _ _ h => h) (Or.inl ⟨by rfl, ?_⟩) ?_ ?_
          rotate_left
          ·intro w'
           go_simp
           with_reducible rfl
          rotate_left
          ·simp only [Act.put, List.setIfInBounds_toArray, List.set_cons_zero, List.set_cons_succ, i64_w, i32_w]
           rfl
          exact norm_ (by first | (simp only [putAll, Act.put, List.setIfInBounds_toArray, List.set_cons_zero, List.set_cons_succ]; done) | (simp only [putAll, Act.put, List.setIfInBounds_toArray, List.set_cons_zero, List.set_cons_succ]; rfl)) (hJ1_2 (.slice Ao17 t301.length co17, .slice Ao16 y304.length co16) _ ⟨(by (with_reducible repeat (first | apply Kd.R_alloc | apply Kd.R_drewN | apply Kd.R_drew)); exact Kd.R_mono HO300.out (fun _ hk => hk.2)), (oR HO303), (by (with_reducible repeat (first | apply Kd.R_alloc | apply Kd.R_drewN | apply Kd.R_drew)); exact Kd.R_mono HO306.out (fun _ hk => hk.2)), (oK BK296), (oB HB)⟩)
         ·skip
          refine box_step ?hg (N := 8) ?hd (cs := #[.slice none 0 0, .int .i64 0, .slice none 0 0]) (t := 41) ?hr ?_; (case hd => rfl); (case hg => rfl); (case hr => first | (go_simp; done) | (go_simp; rfl))
          intro gb307 hg w14 hbox hb
          have n0_ := A_ (Kd.R_below (oR HO300) hb)
          have n1_ := A_ (Kd.R_below (oR HO303) hb)
          have n2_ := A_ (bb BK296 hb)
          have n3_ := A_ (below_step (oB HB) hb)
          have n4_ := A_ (hbox)
          have n5_ := A_ ((by rw [hg]; exact (below_size (oB HB)) : w.heap.size ≤ gb307))
          have n6_ := A_ ((by rw [hg]; exact (below_size (oB HB)) : w.heap.size ≤ gb307))
          have n7_ := A_ (nL BK296 hg)
          have n8_ := A_ (nG BK296 hg)
          clear HO300
          clear HO303
          clear BK296
          clear HB
          have HO300 := n0_
          have HO303 := n1_
          have BK296 := n2_
          have HB := n3_
          have BK307 := n4_
          have GW307 := n5_
          have GE307 := n6_
          have NB296_307 := n7_
          have NB307_296 := n8_
          clear n0_ n1_ n2_ n3_ n4_ n5_ n6_ n7_ n8_
          clear hb hbox hg
          refine hK.out _ _ trivial (fun hHeld => ?_)
          clear hK K
          refine norm_ (a' := ?_) ?_ ?_
          rotate_left
          ·show Act.put _ (some 8) _ = _
           simp only [Act.put, List.setIfInBounds_toArray, List.set_cons_zero, List.set_cons_succ, i64_w, i32_w]
           rfl
          exact norm_ (by first | (simp only [putAll, Act.put, List.setIfInBounds_toArray, List.set_cons_zero, List.set_cons_succ]; done) | (simp only [putAll, Act.put, List.setIfInBounds_toArray, List.set_cons_zero, List.set_cons_succ]; rfl)) (hJ1_4 (v302, gb307) _ ⟨(oR HO300), (oR HO303), (oK BK296), (oK BK307), GW307.out, GE307.out, NB296_307.out, NB307_296.out, (oB HB)⟩)
       ·skip
        rintro ⟨v305, gb307⟩ w15 ⟨h0_, h1_, h2_, h3_, h4_, h5_, h6_, h7_, h8_⟩
        have n0_ : Aside0 (Kd.R (Kd.int .i64) 3 w15 w.heap.size (fun k_ => some k_ ≠ (v305 : Value).ownBlock) v299 t297) := ⟨h0_⟩
        have n1_ : Aside0 (Kd.R (Kd.int .i64) 3 w15 w.heap.size (fun k_ => some k_ ≠ (v299 : Value).ownBlock) v305 y304) := ⟨h1_⟩
        have n2_ : Aside0 (w15.heap[gb296]? = some (.cells #[.slice none 0 0, .int .i64 0, .slice none 0 0] 41 (0, 0))) := ⟨h2_⟩
        have n3_ : Aside0 (w15.heap[gb307]? = some (.cells #[.slice none 0 0, .int .i64 0, .slice none 0 0] 41 (0, 0))) := ⟨h3_⟩
        have n4_ : Aside0 (w.heap.size ≤ gb307) := ⟨h4_⟩
        have n5_ : Aside0 (w.heap.size ≤ gb307) := ⟨h5_⟩
        have n6_ : Aside0 (gb296 ≠ gb307) := ⟨h6_⟩
        have n7_ : Aside0 (gb307 ≠ gb296) := ⟨h7_⟩
        have n8_ : Aside0 (Below w.heap.size w w15) := ⟨h8_⟩
        clear HO300
        clear BK296
        clear HB
        clear h0_ h1_ h2_ h3_ h4_ h5_ h6_ h7_ h8_
        have HO300 := n0_
        have HO306 := n1_
        have BK296 := n2_
        have BK307 := n3_
        have GW307 := n4_
        have GE307 := n5_
        have NB296_307 := n6_
        have NB307_296 := n7_
        have HB := n8_
        clear n0_ n1_ n2_ n3_ n4_ n5_ n6_ n7_ n8_
        have hHeld := trivial
        refine norm_ (a' := ?_) ?_ ?_
        rotate_left
        ·simp only [putAll, Act.put, List.setIfInBounds_toArray, List.set_cons_zero, List.set_cons_succ]
         rfl
        refine one_ (i := 1) (N := some 19) #[true, true, true, false, true, false] rfl rfl (by kernel_rfl) (by decide) (fun K hK => ?_)
        refine goes_ Tryd.func135 (by kernel_rfl) rfl #[.slice A1 l1.length c1] (by rfl) rfl rfl (by (try simp only [List.map_toArray, List.map_cons, List.map_nil]); first | done | rfl | (simp only [List.length_drop, List.length_take]; rfl)) ?_
        with_reducible refine (spec_l19Copy.calls _ _ l1 t301 _ ?side1 ?side2 A5.out).mono ?_
        (case side1 => exact oc_ HR1.out)
        (case side2 => exact HC1.out)
        rintro e w16 ⟨v302, rfl, ho0, hb⟩
        refine ⟨_, rfl, ?_⟩
        have n0_ := A_ (Kd.R_below (oR HO300) hb)
        have n1_ := A_ (Kd.R_below (oR HO306) hb)
        have n2_ := A_ (Kd.R_lower ho0 (below_size (oB HB)))
        have n3_ := A_ (bb BK296 hb)
        have n4_ := A_ (bb BK307 hb)
        have n5_ := A_ (below_step (oB HB) hb)
        clear HO300
        clear HO306
        clear BK296
        clear BK307
        clear HB
        have HO300 := n0_
        have HO306 := n1_
        have HO303 := n2_
        have BK296 := n3_
        have BK307 := n4_
        have HB := n5_
        clear n0_ n1_ n2_ n3_ n4_ n5_
        (try clear hb)
        (try clear hb2)
        (try clear hk)
        (try clear hi)
        (try clear ho0)
        obtain ⟨Ao17, co17, eo17⟩ := Kd.R_slice HO306.out
        (first | subst eo17 | (injection eo17 with f1_ f2_ f3_; have f4_ := f1_.symm; have f5_ := f3_.symm; clear f1_ f2_ f3_; subst f4_; subst f5_))
        obtain ⟨Ao18, co18, eo18⟩ := Kd.R_slice HO303.out
        (first | subst eo18 | (injection eo18 with f1_ f2_ f3_; have f4_ := f1_.symm; have f5_ := f3_.symm; clear f1_ f2_ f3_; subst f4_; subst f5_))
        refine hK.out _ _ trivial (fun hHeld => ?_)
        clear hK K
        refine norm_ (a' := ?_) ?_ ?_
        rotate_left
        ·show Act.put _ (some 19) _ = _
         simp only [Act.put, List.setIfInBounds_toArray, List.set_cons_zero, List.set_cons_succ, i64_w, i32_w]
         rfl
        refine pure_ (i := 3) (N := some 21) (v := ?_) (a' := ?_) #[true, true, true, true, true, false] rfl rfl (by kernel_rfl) (fun _ _ _ h => h) (Or.inl ⟨by rfl, ?_⟩) ?_ ?_
        rotate_left
        ·intro w'
         go_simp
         with_reducible rfl
        rotate_left
        ·simp only [Act.put, List.setIfInBounds_toArray, List.set_cons_zero, List.set_cons_succ, i64_w, i32_w]
         rfl
        exact norm_ (by first | (simp only [putAll, Act.put, List.setIfInBounds_toArray, List.set_cons_zero, List.set_cons_succ]; done) | (simp only [putAll, Act.put, List.setIfInBounds_toArray, List.set_cons_zero, List.set_cons_succ]; rfl)) (hJ1_2_4 (.slice Ao18 t301.length co18, .slice Ao17 y304.length co17, gb307) _ ⟨(oR HO300), (oR HO303), (oR HO306), (oK BK296), (oK BK307), GW307.out, GE307.out, NB296_307.out, NB307_296.out, (oB HB)⟩)
      ·skip
       rintro ⟨v302, gb307⟩ w14 ⟨h0_, h1_, h2_, h3_, h4_, h5_, h6_, h7_, h8_⟩
       have n0_ : Aside0 (Kd.R (Kd.int .i64) 3 w14 w.heap.size (fun _ => True) v299 t297) := ⟨h0_⟩
       have n1_ : Aside0 (Kd.R k145 145 w14 w.heap.size (fun _ => True) v302 t301) := ⟨h1_⟩
       have n2_ : Aside0 (w14.heap[gb296]? = some (.cells #[.slice none 0 0, .int .i64 0, .slice none 0 0] 41 (0, 0))) := ⟨h2_⟩
       have n3_ : Aside0 (w14.heap[gb307]? = some (.cells #[.slice none 0 0, .int .i64 0, .slice none 0 0] 41 (0, 0))) := ⟨h3_⟩
       have n4_ : Aside0 (w.heap.size ≤ gb307) := ⟨h4_⟩
       have n5_ : Aside0 (w.heap.size ≤ gb307) := ⟨h5_⟩
       have n6_ : Aside0 (gb296 ≠ gb307) := ⟨h6_⟩
       have n7_ : Aside0 (gb307 ≠ gb296) := ⟨h7_⟩
       have n8_ : Aside0 (Below w.heap.size w w14) := ⟨h8_⟩
       clear HO300
       clear BK296
       clear HB
       clear h0_ h1_ h2_ h3_ h4_ h5_ h6_ h7_ h8_
       have HO300 := n0_
       have HO303 := n1_
       have BK296 := n2_
       have BK307 := n3_
       have GW307 := n4_
       have GE307 := n5_
       have NB296_307 := n6_
       have NB307_296 := n7_
       have HB := n8_
       clear n0_ n1_ n2_ n3_ n4_ n5_ n6_ n7_ n8_
       have hHeld := trivial
       refine norm_ (a' := ?_) ?_ ?_
       rotate_left
       ·simp only [putAll, Act.put, List.setIfInBounds_toArray, List.set_cons_zero, List.set_cons_succ]
        rfl
       refine one_ (i := 2) (N := some 20) #[true, true, true, false, true, false] rfl rfl (by kernel_rfl) (by decide) (fun K hK => ?_)
       refine Kd.R_make_step (Kd.int .i64) _ 3 (by rfl) (N := 20) rfl 39 _ _ rfl 12 rfl rfl Tryd.underlying39 (.int .i64 0) 8 info3 rfl (by decide) (by omega) 0 (ok := fun _ => True) (okp := fun _ => True) rfl (fun _ hk => hk) trivial (by omega) (by omega) (Below.refl _ _) (Nat.le_refl _) ?_
       intro v305 w15 ho16 hb hg_ hnew_
       clear hg_ hnew_
       (first | rw [← Ny304.out] at ho16 | (simp only [Int.reduceToNat] at ho16; rw [← Ny304.out] at ho16))
       have n0_ := A_ (Kd.R_elder' (oR HO300) (Kd.R_base ho16) hb)
       have n1_ := A_ (Kd.R_below (oR HO303) hb)
       have n2_ := A_ (Kd.R_lower (Kd.R_new' ho16 (Kd.R_lt (oR HO300))) (below_size (oB HB)))
       have n3_ := A_ (bb BK296 hb)
       have n4_ := A_ (bb BK307 hb)
       have n5_ := A_ (below_step (oB HB) hb)
       clear HO300
       clear HO303
       clear BK296
       clear BK307
       clear HB
       have HO300 := n0_
       have HO303 := n1_
       have HO306 := n2_
       have BK296 := n3_
       have BK307 := n4_
       have HB := n5_
       clear n0_ n1_ n2_ n3_ n4_ n5_
       clear hb ho16
       obtain ⟨Ao17, co17, eo17⟩ := Kd.R_slice HO306.out
       (first | subst eo17 | (injection eo17 with f1_ f2_ f3_; have f4_ := f1_.symm; have f5_ := f3_.symm; clear f1_ f2_ f3_; subst f4_; subst f5_))
       obtain ⟨Ao18, co18, eo18⟩ := Kd.R_slice HO303.out
       (first | subst eo18 | (injection eo18 with f1_ f2_ f3_; have f4_ := f1_.symm; have f5_ := f3_.symm; clear f1_ f2_ f3_; subst f4_; subst f5_))
       refine hK.out _ _ trivial (fun hHeld => ?_)
       clear hK K
       refine norm_ (a' := ?_) ?_ ?_
       rotate_left
       ·show Act.put _ (some 20) _ = _
        simp only [Act.put, List.setIfInBounds_toArray, List.set_cons_zero, List.set_cons_succ, i64_w, i32_w]
        rfl
       refine pure_ (i := 3) (N := some 21) (v := ?_) (a' := ?_) #[true, true, true, true, true, false] rfl rfl (by kernel_rfl) (fun _ _ _ h => h) (Or.inl ⟨by rfl, ?_⟩) ?_ ?_
       rotate_left
       ·intro w'
        go_simp
        with_reducible rfl
       rotate_left
       ·simp only [Act.put, List.setIfInBounds_toArray, List.set_cons_zero, List.set_cons_succ, i64_w, i32_w]
        rfl
       exact norm_ (by first | (simp only [putAll, Act.put, List.setIfInBounds_toArray, List.set_cons_zero, List.set_cons_succ]; done) | (simp only [putAll, Act.put, List.setIfInBounds_toArray, List.set_cons_zero, List.set_cons_succ]; rfl)) (hJ1_2_4 (.slice Ao18 t301.length co18, .slice Ao17 y304.length co17, gb307) _ ⟨(by (with_reducible repeat (first | apply Kd.R_alloc | apply Kd.R_drewN | apply Kd.R_drew)); exact Kd.R_mono HO300.out (fun _ hk => hk.2)), (oR HO303), (by (with_reducible repeat (first | apply Kd.R_alloc | apply Kd.R_drewN | apply Kd.R_drew)); exact Kd.R_mono HO306.out (fun _ hk => hk.2)), (oK BK296), (oK BK307), GW307.out, GE307.out, NB296_307.out, NB307_296.out, (oB HB)⟩)
     ·skip
      rintro ⟨v302, v305⟩ w17 ⟨h0_, h1_, h2_, h3_, h4_⟩
      have n0_ : Aside0 (Kd.R (Kd.int .i64) 3 w17 w.heap.size (fun k_ => some k_ ≠ (v305 : Value).ownBlock) v299 t297) := ⟨h0_⟩
      have n1_ : Aside0 (Kd.R k145 145 w17 w.heap.size (fun _ => True) v302 t301) := ⟨h1_⟩
      have n2_ : Aside0 (Kd.R (Kd.int .i64) 3 w17 w.heap.size (fun k_ => some k_ ≠ (v299 : Value).ownBlock) v305 y304) := ⟨h2_⟩
      have n3_ : Aside0 (w17.heap[gb296]? = some (.cells #[.slice none 0 0, .int .i64 0, .slice none 0 0] 41 (0, 0))) := ⟨h3_⟩
      have n4_ : Aside0 (Below w.heap.size w w17) := ⟨h4_⟩
      clear HO300
      clear BK296
      clear HB
      clear h0_ h1_ h2_ h3_ h4_
      have HO300 := n0_
      have HO303 := n1_
      have HO306 := n2_
      have BK296 := n3_
      have HB := n4_
      clear n0_ n1_ n2_ n3_ n4_
      have hHeld := trivial
      obtain ⟨Ao18, co18, eo18⟩ := Kd.R_slice HO306.out
      (first | subst eo18 | (injection eo18 with f1_ f2_ f3_; have f4_ := f1_.symm; have f5_ := f3_.symm; clear f1_ f2_ f3_; subst f4_; subst f5_))
      obtain ⟨Ao19, co19, eo19⟩ := Kd.R_slice HO303.out
      (first | subst eo19 | (injection eo19 with f1_ f2_ f3_; have f4_ := f1_.symm; have f5_ := f3_.symm; clear f1_ f2_ f3_; subst f4_; subst f5_))
      refine norm_ (a' := ?_) ?_ ?_
      rotate_left
      ·simp only [putAll, Act.put, List.setIfInBounds_toArray, List.set_cons_zero, List.set_cons_succ]
       rfl
      refine one_ (i := 4) (N := some 8) #[true, true, true, true, true, false] rfl rfl (by kernel_rfl) (by decide) (fun K hK => ?_)
      refine box_step ?hg (N := 8) ?hd (cs := #[.slice none 0 0, .int .i64 0, .slice none 0 0]) (t := 41) ?hr ?_; (case hd => rfl); (case hg => rfl); (case hr => first | (go_simp; done) | (go_simp; rfl))
      intro gb307 hg w20 hbox hb
      have n0_ := A_ (Kd.R_below (oR HO300) hb)
      have n1_ := A_ (Kd.R_below (oR HO303) hb)
      have n2_ := A_ (Kd.R_below (oR HO306) hb)
      have n3_ := A_ (bb BK296 hb)
      have n4_ := A_ (below_step (oB HB) hb)
      have n5_ := A_ (hbox)
      have n6_ := A_ ((by rw [hg]; exact (below_size (oB HB)) : w.heap.size ≤ gb307))
      have n7_ := A_ ((by rw [hg]; exact (below_size (oB HB)) : w.heap.size ≤ gb307))
      have n8_ := A_ (nL BK296 hg)
      have n9_ := A_ (nG BK296 hg)
      clear HO300
      clear HO303
      clear HO306
      clear BK296
      clear HB
      have HO300 := n0_
      have HO303 := n1_
      have HO306 := n2_
      have BK296 := n3_
      have HB := n4_
      have BK307 := n5_
      have GW307 := n6_
      have GE307 := n7_
      have NB296_307 := n8_
      have NB307_296 := n9_
      clear n0_ n1_ n2_ n3_ n4_ n5_ n6_ n7_ n8_ n9_
      clear hb hbox hg
      refine hK.out _ _ trivial (fun hHeld => ?_)
      clear hK K
      refine norm_ (a' := ?_) ?_ ?_
      rotate_left
      ·show Act.put _ (some 8) _ = _
       simp only [Act.put, List.setIfInBounds_toArray, List.set_cons_zero, List.set_cons_succ, i64_w, i32_w]
       rfl
      exact norm_ (by first | (simp only [putAll, Act.put, List.setIfInBounds_toArray, List.set_cons_zero, List.set_cons_succ]; done) | (simp only [putAll, Act.put, List.setIfInBounds_toArray, List.set_cons_zero, List.set_cons_succ]; rfl)) (hJ1_2_4 (.slice Ao19 t301.length co19, .slice Ao18 y304.length co18, gb307) _ ⟨(oR HO300), (oR HO303), (oR HO306), (oK BK296), (oK BK307), GW307.out, GE307.out, NB296_307.out, NB307_296.out, (oB HB)⟩)
    rintro ⟨v302, v305, gb307⟩ w18 ⟨h0_, h1_, h2_, h3_, h4_, h5_, h6_, h7_, h8_, h9_⟩
    have n0_ : Aside0 (Kd.R (Kd.int .i64) 3 w18 w.heap.size (fun k_ => some k_ ≠ (v305 : Value).ownBlock) v299 t297) := ⟨h0_⟩
    have n1_ : Aside0 (Kd.R k145 145 w18 w.heap.size (fun _ => True) v302 t301) := ⟨h1_⟩
    have n2_ : Aside0 (Kd.R (Kd.int .i64) 3 w18 w.heap.size (fun k_ => some k_ ≠ (v299 : Value).ownBlock) v305 y304) := ⟨h2_⟩
    have n3_ : Aside0 (w18.heap[gb296]? = some (.cells #[.slice none 0 0, .int .i64 0, .slice none 0 0] 41 (0, 0))) := ⟨h3_⟩
    have n4_ : Aside0 (w18.heap[gb307]? = some (.cells #[.slice none 0 0, .int .i64 0, .slice none 0 0] 41 (0, 0))) := ⟨h4_⟩
    have n5_ : Aside0 (w.heap.size ≤ gb307) := ⟨h5_⟩
    have n6_ : Aside0 (w.heap.size ≤ gb307) := ⟨h6_⟩
    have n7_ : Aside0 (gb296 ≠ gb307) := ⟨h7_⟩
    have n8_ : Aside0 (gb307 ≠ gb296) := ⟨h8_⟩
    have n9_ : Aside0 (Below w.heap.size w w18) := ⟨h9_⟩
    clear HO300
    clear BK296
    clear HB
    clear h0_ h1_ h2_ h3_ h4_ h5_ h6_ h7_ h8_ h9_
    have HO300 := n0_
    have HO303 := n1_
    have HO306 := n2_
    have BK296 := n3_
    have BK307 := n4_
    have GW307 := n5_
    have GE307 := n6_
    have NB296_307 := n7_
    have NB307_296 := n8_
    have HB := n9_
    clear n0_ n1_ n2_ n3_ n4_ n5_ n6_ n7_ n8_ n9_
    have hHeld := trivial
    obtain ⟨Ao19, co19, eo19⟩ := Kd.R_slice HO306.out
    (first | subst eo19 | (injection eo19 with f1_ f2_ f3_; have f4_ := f1_.symm; have f5_ := f3_.symm; clear f1_ f2_ f3_; subst f4_; subst f5_))
    obtain ⟨Ao20, co20, eo20⟩ := Kd.R_slice HO303.out
    (first | subst eo20 | (injection eo20 with f1_ f2_ f3_; have f4_ := f1_.symm; have f5_ := f3_.symm; clear f1_ f2_ f3_; subst f4_; subst f5_))
    refine norm_ (a' := ?_) ?_ ?_
    rotate_left
    ·simp only [putAll, Act.put, List.setIfInBounds_toArray, List.set_cons_zero, List.set_cons_succ]
     rfl
    refine one_ (i := 5) (N := none) #[true, true, true, true, true, true] rfl rfl (by kernel_rfl) (by decide) (fun K hK => ?_)
    have hs21 := cz BK307 0
    have hfs21 := blk_frozen BK307.out 0
    have hns21_0 := NB296_307.out
    have hms21_0 := NB307_296.out
    have hs22 := cz BK307 1
    have hfs22 := blk_frozen BK307.out 1
    have hns22_0 := NB296_307.out
    have hms22_0 := NB307_296.out
    have hs23 := cz BK307 2
    have hfs23 := blk_frozen BK307.out 2
    have hns23_0 := NB296_307.out
    have hms23_0 := NB307_296.out
    refine skip_ (w1 := ?_) (by rfl) rfl ?_ ?_
    rotate_left
    ·go_simp
     rfl
    refine hK.out _ _ trivial (fun hHeld => ?_)
    clear hK K
    refine done_ (by kernel_rfl) ?_
    have n0_ : Aside0 (Kd.R (Kd.int .i64) 3 (((w18.setCell ⟨gb307, 0, none⟩ (.slice Ao20 t301.length co20)).setCell ⟨gb307, 1, none⟩ (.int .i64 0)).setCell ⟨gb307, 2, none⟩ (.slice Ao19 y304.length co19)) w.heap.size (fun k_ => some k_ ≠ (.slice Ao19 y304.length co19 : Value).ownBlock) v299 t297) := ⟨by (with_reducible repeat (first | apply Kd.R_alloc | apply Kd.R_drewN | apply Kd.R_drew)); exact Kd.R_mono (Kd.R_far (p := ⟨gb307, 2, none⟩) (Kd.R_far (p := ⟨gb307, 1, none⟩) (Kd.R_far (p := ⟨gb307, 0, none⟩) (Kd.R_types HO300.out BK307.out (by decide)) (fun _ hk => hk.2) (.slice Ao20 t301.length co20)) (fun _ hk => hk.2) (.int .i64 0)) (fun _ hk => hk.2) (.slice Ao19 y304.length co19)) (fun _ hk => hk.1)⟩
    have n1_ : Aside0 (Kd.R k145 145 (((w18.setCell ⟨gb307, 0, none⟩ (.slice Ao20 t301.length co20)).setCell ⟨gb307, 1, none⟩ (.int .i64 0)).setCell ⟨gb307, 2, none⟩ (.slice Ao19 y304.length co19)) w.heap.size (fun _ => True) (.slice Ao20 t301.length co20) t301) := ⟨by (with_reducible repeat (first | apply Kd.R_alloc | apply Kd.R_drewN | apply Kd.R_drew)); exact Kd.R_mono (Kd.R_far (p := ⟨gb307, 2, none⟩) (Kd.R_far (p := ⟨gb307, 1, none⟩) (Kd.R_far (p := ⟨gb307, 0, none⟩) (Kd.R_types HO303.out BK307.out (by decide)) (fun _ hk => hk.2) (.slice Ao20 t301.length co20)) (fun _ hk => hk.2) (.int .i64 0)) (fun _ hk => hk.2) (.slice Ao19 y304.length co19)) (fun _ hk => trivial)⟩
    have n2_ : Aside0 (Kd.R (Kd.int .i64) 3 (((w18.setCell ⟨gb307, 0, none⟩ (.slice Ao20 t301.length co20)).setCell ⟨gb307, 1, none⟩ (.int .i64 0)).setCell ⟨gb307, 2, none⟩ (.slice Ao19 y304.length co19)) w.heap.size (fun k_ => some k_ ≠ (v299 : Value).ownBlock) (.slice Ao19 y304.length co19) y304) := ⟨by (with_reducible repeat (first | apply Kd.R_alloc | apply Kd.R_drewN | apply Kd.R_drew)); exact Kd.R_mono (Kd.R_far (p := ⟨gb307, 2, none⟩) (Kd.R_far (p := ⟨gb307, 1, none⟩) (Kd.R_far (p := ⟨gb307, 0, none⟩) (Kd.R_types HO306.out BK307.out (by decide)) (fun _ hk => hk.2) (.slice Ao20 t301.length co20)) (fun _ hk => hk.2) (.int .i64 0)) (fun _ hk => hk.2) (.slice Ao19 y304.length co19)) (fun _ hk => hk.1)⟩
    have n3_ : Aside0 ((((w18.setCell ⟨gb307, 0, none⟩ (.slice Ao20 t301.length co20)).setCell ⟨gb307, 1, none⟩ (.int .i64 0)).setCell ⟨gb307, 2, none⟩ (.slice Ao19 y304.length co19)).heap[gb296]? = some (.cells #[.slice none 0 0, .int .i64 0, .slice none 0 0] 41 (0, 0))) := ⟨by (with_reducible repeat (first | refine blk_drewN ?_ _ | refine blk_drew ?_ | refine blk_alloc ?_ _)); refine blk_far ?_ NB296_307.out _; (with_reducible repeat (first | refine blk_drewN ?_ _ | refine blk_drew ?_ | refine blk_alloc ?_ _)); refine blk_far ?_ NB296_307.out _; (with_reducible repeat (first | refine blk_drewN ?_ _ | refine blk_drew ?_ | refine blk_alloc ?_ _)); refine blk_far ?_ NB296_307.out _; (with_reducible repeat (first | refine blk_drewN ?_ _ | refine blk_drew ?_ | refine blk_alloc ?_ _)); exact BK296.out⟩
    have n4_ : Aside0 ((((w18.setCell ⟨gb307, 0, none⟩ (.slice Ao20 t301.length co20)).setCell ⟨gb307, 1, none⟩ (.int .i64 0)).setCell ⟨gb307, 2, none⟩ (.slice Ao19 y304.length co19)).heap[gb307]? = some (.cells #[.slice Ao20 t301.length co20, .int .i64 0, .slice Ao19 y304.length co19] 41 (0, 0))) := ⟨by (with_reducible repeat (first | refine blk_drewN ?_ _ | refine blk_drew ?_ | refine blk_alloc ?_ _)); refine blk_put (cs := #[.slice Ao20 t301.length co20, .int .i64 0, .slice none 0 0]) ?_ 2 _ rfl; (with_reducible repeat (first | refine blk_drewN ?_ _ | refine blk_drew ?_ | refine blk_alloc ?_ _)); refine blk_put (cs := #[.slice Ao20 t301.length co20, .int .i64 0, .slice none 0 0]) ?_ 1 _ rfl; (with_reducible repeat (first | refine blk_drewN ?_ _ | refine blk_drew ?_ | refine blk_alloc ?_ _)); refine blk_put (cs := #[.slice none 0 0, .int .i64 0, .slice none 0 0]) ?_ 0 _ rfl; (with_reducible repeat (first | refine blk_drewN ?_ _ | refine blk_drew ?_ | refine blk_alloc ?_ _)); exact BK307.out⟩
    have n5_ : Aside0 (Below w.heap.size w (((w18.setCell ⟨gb307, 0, none⟩ (.slice Ao20 t301.length co20)).setCell ⟨gb307, 1, none⟩ (.int .i64 0)).setCell ⟨gb307, 2, none⟩ (.slice Ao19 y304.length co19))) := ⟨oB HB⟩
    (try clear HO300)
    (try clear HO303)
    (try clear HO306)
    (try clear BK296)
    (try clear BK307)
    (try clear HB)
    generalize (((w18.setCell ⟨gb307, 0, none⟩ (.slice Ao20 t301.length co20)).setCell ⟨gb307, 1, none⟩ (.int .i64 0)).setCell ⟨gb307, 2, none⟩ (.slice Ao19 y304.length co19)) = w24 at n0_ n1_ n2_ n3_ n4_ n5_ ⊢
    have HO300 := n0_
    have HO303 := n1_
    have HO306 := n2_
    have BK296 := n3_
    have BK307 := n4_
    have HB := n5_
    clear n0_ n1_ n2_ n3_ n4_ n5_
    have hnb25 := NB307_296.out
    have hnc25 := NB296_307.out
    have hcz26_0 := cz BK307 0
    have hcz26_1 := cz BK307 1
    have hcz26_2 := cz BK307 2
    have hfz26_0 := blk_frozen BK307.out 0
    have hfz26_1 := blk_frozen BK307.out 1
    have hfz26_2 := blk_frozen BK307.out 2
    have p8 : 0 ≤ (0 : Int) := (by omega)
    have q8 : (0 : Int) < ((y304.length : Int) : Int) := of_decide_eq_true (by first | (with_reducible assumption) | assumption)
    have qi8 : (0 < y304.length) = True := eq_true (by omega)
    obtain ⟨go8, co8, eo8, gb8, gl8, cl8, HG8⟩ := Kd.R_form HO306.out (by omega)
    (first | cases eo8 | (injection eo8 with ea_ en_ ec_; (first | subst ea_ | (injection ea_ with ea_; subst ea_)); subst ec_; clear en_))
    have GB8 := A_ gb8
    have GG8 := A_ HG8
    clear gb8 gl8 HG8
    obtain ⟨hx8_0, hf8_0⟩ := Kd.R_celln 0 HO306.out (0 : Int) p8 q8
    (try rw [show ((0 : Int)).toNat = 0 from rfl] at hx8_0)
    (try simp only [Nat.reduceMul, Nat.zero_mul, Nat.zero_add, Nat.reduceAdd] at hx8_0)
    (try rw [show ((0 : Int)).toNat = 0 from rfl] at hf8_0)
    (try simp only [Nat.reduceMul, Nat.zero_mul, Nat.zero_add, Nat.reduceAdd] at hf8_0)
    replace p8 := eq_true p8
    replace q8 := eq_true q8
    obtain ⟨hy27_, hz27_⟩ := Kd.R_celln 0 HO306.out (0 : Int) (by omega) (of_decide_eq_true (by first | (with_reducible assumption) | assumption))
    (try simp only [Int.reduceToNat, Int.toNat_zero, Int.toNat_ofNat, Nat.reduceMul, Nat.zero_mul, Nat.zero_add] at hy27_ hz27_)
    (try rw [show ((0 : Int)).toNat = 0 from rfl] at hy27_)
    (try rw [show ((0 : Int)).toNat = 0 from rfl] at hz27_)
    have HP27 := Kd.R_putg HO306.out (0 : Int) a0
    try go_wp2_with (first | ((with_reducible refine gate_store (t := 3) (p := 25) rfl ?_); refine store_event (t := 3) (p := 25) (v := ?vo_w28) (w1 := (w24.setCell ⟨go8, (0 : Int).toNat, none⟩ (.int .i64 a0))) ?hg ?ho ?hn ?hr ?_; (case ho => rfl); (case hg => rfl); (case hn => rfl); (case hr => first | (go_simp; done) | (go_simp; rfl)); intro w28 hw; have hg : w24.grownBy w28 (some go8) := (by rw [hw]; exact HP27.2); have hp_ : Kd.R (Kd.int .i64) 3 w28 w.heap.size (fun k_ => some k_ ≠ (v299 : Value).ownBlock) (.slice (some ⟨go8, 0, none⟩) y304.length co19) y308 := (by rw [hw, Ny308.out]; exact HP27.1); clear HP27; have n0_ := A_ (bg BK296 hg (Kd.R_ne HO306.out BK296.out (by decide))); have n1_ := A_ (Kd.R_after (v := (.slice (some ⟨go8, 0, none⟩) y304.length co19)) (v1 := (.slice (some ⟨go8, 0, none⟩) y304.length co19)) (ok := (fun _ => True)) (by (with_reducible repeat (first | apply Kd.R_alloc | apply Kd.R_drewN | apply Kd.R_drew)); exact Kd.R_mono HO300.out (fun _ hk => ⟨trivial, hk⟩)) hg (.inl rfl)); have n2_ := A_ (Kd.R_over' (v := (.slice (some ⟨go8, 0, none⟩) y304.length co19)) (oR HO303) (Kd.R_typed HO306.out) (by decide) hg); have n3_ := A_ (hp_); have n4_ := A_ (bg BK307 hg (Kd.R_ne HO306.out BK307.out (by decide))); have n5_ := A_ ((by rw [hw]; exact below_set (HB.out) GB8.out : Below w.heap.size w w28)); clear BK296; clear HO300; clear HO303; clear HO306; clear BK307; clear HB; have BK296 := n0_; have HO300 := n1_; have HO303 := n2_; have HO306 := n3_; have BK307 := n4_; have HB := n5_; clear n0_ n1_ n2_ n3_ n4_ n5_; clear hg hw hp_; have hcz29_0 := cz BK307 0; have hcz29_1 := cz BK307 1; have hcz29_2 := cz BK307 2; have hfz29_0 := blk_frozen BK307.out 0; have hfz29_1 := blk_frozen BK307.out 1; have hfz29_2 := blk_frozen BK307.out 2; have hcz30_0 := cz BK296 0; have hcz30_1 := cz BK296 1; have hcz30_2 := cz BK296 2; have hfz30_0 := blk_frozen BK296.out 0; have hfz30_1 := blk_frozen BK296.out 1; have hfz30_2 := blk_frozen BK296.out 2))
    refine bodyPost_ret (results_ct rfl _ _ gb296 41 #[.slice Ao20 t301.length co20, .int .i64 0, .slice (some ⟨go8, 0, none⟩) y304.length co19] (0, 0) _ rfl (by (with_reducible repeat (first | refine blk_drewN ?_ _ | refine blk_drew ?_ | refine blk_alloc ?_ _)); refine blk_put (cs := #[.slice Ao20 t301.length co20, .int .i64 0, .slice none 0 0]) ?_ 2 _ rfl; (with_reducible repeat (first | refine blk_drewN ?_ _ | refine blk_drew ?_ | refine blk_alloc ?_ _)); refine blk_put (cs := #[.slice Ao20 t301.length co20, .int .i64 0, .slice none 0 0]) ?_ 1 _ rfl; (with_reducible repeat (first | refine blk_drewN ?_ _ | refine blk_drew ?_ | refine blk_alloc ?_ _)); refine blk_put (cs := #[.slice none 0 0, .int .i64 0, .slice none 0 0]) ?_ 0 _ rfl; (with_reducible repeat (first | refine blk_drewN ?_ _ | refine blk_drew ?_ | refine blk_alloc ?_ _)); exact BK296.out) Tryd.underlying41 rfl (by kernel_rfl)) rfl ?_
    exact ⟨_, _, eR, by (with_reducible repeat (first | apply Kd.R_alloc | apply Kd.R_drewN | apply Kd.R_drew)); exact Kd.R_mono (Kd.R_far (p := ⟨gb296, 2, none⟩) (Kd.R_far (p := ⟨gb296, 1, none⟩) (Kd.R_far (p := ⟨gb296, 0, none⟩) (Kd.R_types HO303.out BK296.out (by decide)) (fun _ hk => hk.2) (.slice Ao20 t301.length co20)) (fun _ hk => hk.2) (.int .i64 0)) (fun _ hk => hk.2) (.slice (some ⟨go8, 0, none⟩) y304.length co19)) (fun _ hk => trivial), by (with_reducible repeat (first | apply Kd.R_alloc | apply Kd.R_drewN | apply Kd.R_drew)); exact Kd.R_mono (Kd.R_far (p := ⟨gb296, 2, none⟩) (Kd.R_far (p := ⟨gb296, 1, none⟩) (Kd.R_far (p := ⟨gb296, 0, none⟩) (Kd.R_types HO306.out BK296.out (by decide)) (fun _ hk => hk.2) (.slice Ao20 t301.length co20)) (fun _ hk => hk.2) (.int .i64 0)) (fun _ hk => hk.2) (.slice (some ⟨go8, 0, none⟩) y304.length co19)) (fun _ hk => trivial), oB HB⟩
   ·rw [if_neg c7] at H
    exact absurd H (by simp)
  ·rw [if_neg c6] at H
   exact absurd H (by simp)
 ·replace c4 := Bool.eq_false_iff.mpr c4
  subst c4
  rw [if_neg (show ¬ (false = true) by decide)] at H
  simp only [Option.some.injEq, Prod.mk.injEq] at H
  obtain ⟨rfl, rfl, rfl, rfl⟩ := H
  go_enter Tryd.func116, Tryd.ntmps116
  go_wp2_with (first | ((with_reducible refine gate_dst (N := 4) rfl ?_); refine bX (N := 4) (cs := #[.slice none 0 0, .int .i64 0, .slice none 0 0]) (t := 41) ?_; intro gb296 hg w31 hbox hb; have n0_ := A_ (below_step (oB HB) hb); have n1_ := A_ (hbox); have n2_ := A_ ((by rw [hg]; exact (below_size (oB HB)) : w.heap.size ≤ gb296)); have n3_ := A_ ((by rw [hg]; exact (below_size (oB HB)) : w.heap.size ≤ gb296)); clear HB; have HB := n0_; have BK296 := n1_; have GW296 := n2_; have GE296 := n3_; clear n0_ n1_ n2_ n3_; clear hb hbox hg) | ((with_reducible refine gate_callee (f := 134) rfl ?_); refine gL (some 12) Tryd.func134 #[.int .i64 a0, .slice A1 l1.length c1] ?_; (with_reducible refine (spec_RunPlan.calls k a0 _ _ l1 t297 false _ ?side1 ?side2 A3.out).mono ?_); (case side1 => exact oc_ HR1.out); (case side2 => exact HC1.out); rintro e w32 ⟨v299, rfl, ho0, hb⟩; refine ⟨_, rfl, ?_⟩; have n0_ := A_ (Kd.R_lower ho0 (below_size (oB HB))); have n1_ := A_ (bb BK296 hb); have n2_ := A_ (below_step (oB HB) hb); clear BK296; clear HB; have HO300 := n0_; have BK296 := n1_; have HB := n2_; clear n0_ n1_ n2_; (try clear hb); (try clear hb2); (try clear hk); (try clear hi); (try clear ho0); have hcz33_0 := cz BK296 0; have hcz33_1 := cz BK296 1; have hcz33_2 := cz BK296 2; have hfz33_0 := blk_frozen BK296.out 0; have hfz33_1 := blk_frozen BK296.out 1; have hfz33_2 := blk_frozen BK296.out 2))
  refine bodyPost_ret (results_ct rfl _ _ gb296 41 #[.slice none 0 0, .int .i64 0, .slice none 0 0] (0, 0) _ rfl (by (with_reducible repeat (first | refine blk_drewN ?_ _ | refine blk_drew ?_ | refine blk_alloc ?_ _)); refine blk_put (cs := #[.slice none 0 0, .int .i64 0, .slice none 0 0]) ?_ 2 _ rfl; (with_reducible repeat (first | refine blk_drewN ?_ _ | refine blk_drew ?_ | refine blk_alloc ?_ _)); refine blk_put (cs := #[.slice none 0 0, .int .i64 0, .slice none 0 0]) ?_ 1 _ rfl; (with_reducible repeat (first | refine blk_drewN ?_ _ | refine blk_drew ?_ | refine blk_alloc ?_ _)); refine blk_put (cs := #[.slice none 0 0, .int .i64 0, .slice none 0 0]) ?_ 0 _ rfl; (with_reducible repeat (first | refine blk_drewN ?_ _ | refine blk_drew ?_ | refine blk_alloc ?_ _)); exact BK296.out) Tryd.underlying41 rfl (by kernel_rfl)) rfl ?_
  exact ⟨_, _, eR, by first | exact Kd.R_nil _ _ _ _ _ | exact Kd.N_nil _ _ _ _ _ | exact Kd.V_nil _ _ _ _ _ | exact Kd.Q_nil _ _ _ _ _ | exact Kd.S_nil _ _ _ _ _, by first | exact Kd.R_nil _ _ _ _ _ | exact Kd.N_nil _ _ _ _ _ | exact Kd.V_nil _ _ _ _ _ | exact Kd.Q_nil _ _ _ _ _ | exact Kd.S_nil _ _ _ _ _, oB HB⟩
end Go.Proofs.YtojiighpkppckaaDoor.P


namespace Go.Proofs.YtojiighpkppckaaDoor.P
open Go.RowKit Go.Proofs.YtojiighpkppckaaDoorW.PrintWords Go.Proofs.YtojiighpkppckaaDoorW.PrintLast Go.Proofs.YtojiighpkppckaaDoorW.PrintMore Go.Proofs.YtojiighpkppckaaDoor.V
attribute [local go_sem] cell_b frozen_b
attribute [local go_sem] max2_int min2_int max_two min_two max_three min_three max_four min_four
set_option linter.unusedVariables false
set_option linter.unusedSimpArgs false
def spec_NewShop.f (k : Nat) (a0 : Int) (l1 : List (S145)) : Option ((List (S145)) × Int × List Int × Int × Int × (List (S85)) × Bool) := (spec_NewWork.f k a0 l1).bind fun bt310 => (if bt310.2.2.2 = true then (some (bt310.1, bt310.2.1, bt310.2.2.1, 15, 0, ([] : List (S85)), true)) else (some (([] : List (S145)), 0, ([] : List Int), 0, 0, ([] : List (S85)), false)))
set_option maxHeartbeats 8000000 in
set_option maxRecDepth 100000 in
set_option synthInstance.maxHeartbeats 400000 in
set_option synthInstance.maxSize 100000 in
theorem spec_NewShop.calls (k : Nat) (a0 : Int) (A1 : Option Addr) (c1 : Nat) (l1 : List (S145)) (r1 : List (S145)) (r2 : Int) (r3 : List Int) (r4 : Int) (r5 : Int) (r6 : List (S85)) (r7 : Bool) (w : World) (hr1 : Kd.C k145 w A1 l1.length l1) (hc1 : l1.length ≤ c1) (h : spec_NewShop.f k a0 l1 = some (r1, r2, r3, r4, r5, r6, r7)) :
  Calls Tryd.prog 89 #[.int .i64 a0, .slice A1 l1.length c1] w fun e w' => ∃ v0_ v2_ v5_ : Value, e = .returned (.tuple #[.agg #[v0_, .int .i64 r2, v2_, .int .i64 r4, .int .i64 r5, v5_], .bool r7]) ∧ Kd.R k145 145 w' w.heap.size (fun _ => True) v0_ r1 ∧ Kd.R (Kd.int .i64) 3 w' w.heap.size (fun _ => True) v2_ r3 ∧ Kd.R k85 85 w' w.heap.size (fun _ => True) v5_ r6 ∧ Below w.heap.size w w' := by
 have ihr1 := RdE.mk hr1
 have ihc1 := LeI.mk hc1
 clear hr1 hc1
 unfold spec_NewShop.f at h
 have hu41 := Tryd.underlying41
 have hu44 := Tryd.underlying44
 (repeat' first | ((with_reducible replace h := ite_some h); rcases h with ⟨hc, h⟩ | ⟨hc, h⟩ <;> first | exact (none_some h).elim | exact absurd hc (by decide) | subst hc | (replace hc := Bool.eq_false_iff.mpr hc; subst hc) | (have hd := beq_iff_eq.mpr hc; have he := bne_eq_false_iff_eq.mpr hc; clear hc) | (have hd := beq_eq_false_iff_ne.mpr hc; have he := bne_iff_ne.mpr hc) | (have hd := decide_eq_false hc) | (have hd := decide_eq_true hc) | skip))
 all_goals go_enter Tryd.func89, Tryd.ntmps89
 all_goals go_wp2_with (first
  | ((with_reducible refine gate_dst (N := 4) rfl ?_); refine box_event rfl (N := 4) rfl (cs := #[.slice none 0 0, .int .i64 0, .slice none 0 0, .int .i64 0, .int .i64 0, .slice none 0 0]) (t := 44) (by first | (go_simp; done) | (go_simp; rfl)) ?_; intro g hg w1 hk hb; have j1 := Born.mk hg; have j2 := Bel.mk hb; have j3 := Blk.mk hk; clear hg hb hk)
  | ((with_reducible refine gate_dst (N := 6) rfl ?_); refine box_event rfl (N := 6) rfl (cs := #[.slice none 0 0, .int .i64 0, .slice none 0 0]) (t := 41) (by first | (go_simp; done) | (go_simp; rfl)) ?_; intro g hg w1 hk hb; have j1 := Born.mk hg; have j2 := Bel.mk hb; have j3 := Blk.mk hk; clear hg hb hk)
  | (go_at_call 116; replace h := Option.bind_eq_some_iff.mp h; obtain ⟨⟨t1, t2, t3, t4⟩, A, h⟩ := h; (try dsimp only at h); refine (spec_NewWork.calls _ _ _ _ _ _ _ _ _ _ Rd.out LeI.out A).mono ?_; rintro e w2 ⟨v0, v1, rfl, ho0, ho1, hb⟩; obtain ⟨B0, b0, rfl⟩ := Kd.R_slice ho0; have j0 := RowE.mk ho0; have q0 := LeI.mk (rowLe j0); obtain ⟨B1, b1, rfl⟩ := Kd.R_slice ho1; have j1 := RowE.mk ho1; have q1 := LeI.mk (rowLe j1); have jb := Bel.mk hb; clear A ho0 ho1 hb; (repeat' first | ((with_reducible replace h := ite_some h); rcases h with ⟨hc, h⟩ | ⟨hc, h⟩ <;> first | exact (none_some h).elim | exact absurd hc (by decide) | subst hc | (replace hc := Bool.eq_false_iff.mpr hc; subst hc) | (have hd := beq_iff_eq.mpr hc; have he := bne_eq_false_iff_eq.mpr hc; clear hc) | (have hd := beq_eq_false_iff_ne.mpr hc; have he := bne_iff_ne.mpr hc) | (have hd := decide_eq_false hc) | (have hd := decide_eq_true hc) | skip))))
 all_goals (repeat' first | ((with_reducible replace h := ite_some h); rcases h with ⟨hc, h⟩ | ⟨hc, h⟩ <;> first | exact (none_some h).elim | exact absurd hc (by decide) | subst hc | (replace hc := Bool.eq_false_iff.mpr hc; subst hc) | (have hd := beq_iff_eq.mpr hc; have he := bne_eq_false_iff_eq.mpr hc; clear hc) | (have hd := beq_eq_false_iff_ne.mpr hc; have he := bne_iff_ne.mpr hc) | (have hd := decide_eq_false hc) | (have hd := decide_eq_true hc) | skip))
 all_goals simp only [Option.some.injEq, Prod.mk.injEq] at h
 all_goals obtain ⟨rfl, rfl, rfl, rfl, rfl, rfl, rfl⟩ := h
 all_goals refine bodyPost_ret (results_ct rfl _ _ _ _ _ (0, 0) _ rfl Blk.out Tryd.underlying44 rfl (by kernel_rfl)) rfl ?_
 all_goals exact ⟨_, _, _, rfl, (by first | exact rowFin | exact Kd.R_nil _ _ _ _ _), (by first | exact rowFin | exact Kd.R_nil _ _ _ _ _), (by first | exact rowFin | exact Kd.R_nil _ _ _ _ _), From.out⟩
end Go.Proofs.YtojiighpkppckaaDoor.P


namespace Go.Proofs.YtojiighpkppckaaDoor.P
open Go.RowKit Go.Proofs.YtojiighpkppckaaDoorW.PrintWords Go.Proofs.YtojiighpkppckaaDoorW.PrintLast Go.Proofs.YtojiighpkppckaaDoorW.PrintMore
attribute [local go_sem] max2_int min2_int max_two min_two max_three min_three max_four min_four
set_option linter.unusedVariables false
set_option linter.unusedSimpArgs false
def spec_UsualPlan.l0 : Nat → Int → List (S145) → Int → Option ((List (S145)))
 | 0, _, _, _ => none
 | k + 1, x0, x3, x4 => if x4 < 11 then ((spec_l01In.f x0 0 5000).bind fun t322 => (if t322 = true then ((some (([1, 2, 1, 2, 1, 2, 2, 1, 2, 1, 2] : List Int) : List Int)).bind fun y323 => (if 0 ≤ x4 then (if x4 < (y323.length : Int) then (if x3.length < 4398046511104 then (spec_UsualPlan.l0 k x0 (x3 ++ [(⟨x4, wrap64 (x4 + 1), rd y323 x4, x0⟩ : S145)]) (wrap64 (x4 + 1))) else (none)) else (none)) else (none))) else (some x3))) else (some x3)
def spec_UsualPlan.f (k : Nat) (a0 : Int) : Option ((List (S145))) := spec_UsualPlan.l0 k a0 (([] : List (S145))) 0
set_option maxHeartbeats 8000000 in
set_option maxRecDepth 100000 in
theorem spec_UsualPlan.calls (k : Nat) (a0 : Int) (r : List (S145)) (w : World) (h : spec_UsualPlan.f k a0 = some r) :
  Calls Tryd.prog 90 #[.int .i64 a0] w fun e w' => ∃ v0_ : Value, e = .returned (v0_) ∧ Kd.R k145 145 w' w.heap.size (fun _ => True) v0_ r ∧ Below w.heap.size w w' := by
 have hu145 := Tryd.underlying145
 have HB := A_ (Below.refl w.heap.size w)
 have H : (spec_UsualPlan.l0 k a0 (([] : List (S145))) 0) = some r := h
 clear h
 obtain ⟨y319, hy319⟩ : ∃ y_ : List (S145), y_ = (([] : List (S145))) := ⟨_, rfl⟩
 replace H : (spec_UsualPlan.l0 k a0 y319 0) = some r := by first | (rw [hy319]; with_reducible exact H) | (have H2_ := (Option.bind_some _ _).symm.trans H; rw [hy319]; with_reducible exact H2_) | (have H2_ := (Option.bind_some _ _).symm.trans H; with_reducible exact H2_) | with_reducible exact H | (rw [hy319]; exact H) | exact H
 have Ny319 := A_ hy319
 clear hy319
 have H' := A_ H
 clear H
 go_enter Tryd.func90, Tryd.ntmps90
 go_wp2_with (first | ((with_reducible refine gate_dst (N := 6) rfl ?_); refine Kd.R_lit k145 _ 145 ?hg (N := 6) ?hd (xs := ([] : List (S145))) (inner := []) (ok := fun _ => True) (okp := fun _ => True) ?hr ?hp (fun _ hk => hk) trivial (Below.refl _ _) (Nat.le_refl _) (by simp) ?_; (case hd => rfl); (case hg => rfl); (case hr => first | (go_simp; done) | (go_simp; rfl)); (case hp => exact (Reps.none _ _)); intro v320 w2 ho3 hb hg_ hnew_; clear hg_ hnew_; (first | rw [← Ny319.out] at ho3 | (simp only [Int.reduceToNat] at ho3; rw [← Ny319.out] at ho3)); have n0_ := A_ (Kd.R_lower ho3 (below_size (oB HB))); have n1_ := A_ (below_step (oB HB) hb); clear HB; have HO321 := n0_; have HB := n1_; clear n0_ n1_; clear hb ho3))
 go_loopg [3, 4] k (fun kq v3 v4 w' => ∃ (x3_1 : List (S145)) (x4_1 : Int), v4 = .int .i64 x4_1 ∧ Aside0 (spec_UsualPlan.l0 kq a0 x3_1 x4_1 = some r) ∧ Aside0 (kq ≤ k) ∧ Aside0 (Kd.R k145 145 w' w.heap.size (fun _ => True) v3 x3_1) ∧ Aside0 (Below w.heap.size w w'))
 case atStart => exact ⟨(y319), (0), (by first | rfl | (simp; done) | (simp [*]; done)), H', ⟨Nat.le_refl _⟩, ⟨oR HO321⟩, ⟨oB HB⟩⟩
 case round =>
  clear H'
  try clear p2
  obtain ⟨x3_1, x4_1, rfl, HA, HK1, HO_3, HB⟩ := hrel
  cases gk with
  | zero => exact absurd HA.out (by simp [spec_UsualPlan.l0])
  | succ k1 =>
   have H := HA.out
   clear HA
   simp only [spec_UsualPlan.l0] at H
   by_cases c4 : x4_1 < 11
   ·rw [if_pos c4] at H
    have c4b0 : decide (x4_1 < 11) = true := decide_eq_true c4
    clear c4
    replace H := Option.bind_eq_some_iff.mp H
    obtain ⟨t322, A50, H⟩ := H
    (try dsimp only at H)
    have A5 := A_ A50
    clear A50
    by_cases c6 : t322 = true
    ·subst c6
     rw [if_pos rfl] at H
     obtain ⟨y323, hy323⟩ : ∃ y_ : List Int, y_ = (([1, 2, 1, 2, 1, 2, 2, 1, 2, 1, 2] : List Int)) := ⟨_, rfl⟩
     replace H : (if 0 ≤ x4_1 then (if x4_1 < (y323.length : Int) then (if x3_1.length < 4398046511104 then (spec_UsualPlan.l0 k1 a0 (x3_1 ++ [(⟨x4_1, wrap64 (x4_1 + 1), rd y323 x4_1, a0⟩ : S145)]) (wrap64 (x4_1 + 1))) else (none)) else (none)) else (none)) = some r := by first | (rw [hy323]; with_reducible exact H) | (have H2_ := (Option.bind_some _ _).symm.trans H; rw [hy323]; with_reducible exact H2_) | (have H2_ := (Option.bind_some _ _).symm.trans H; with_reducible exact H2_) | with_reducible exact H | (rw [hy323]; exact H) | exact H
     have Ny323 := A_ hy323
     clear hy323
     by_cases c7 : 0 ≤ x4_1
     ·rw [if_pos c7] at H
      have c7b0 : decide (0 ≤ x4_1) = true := decide_eq_true c7
      clear c7
      by_cases c8 : x4_1 < (y323.length : Int)
      ·rw [if_pos c8] at H
       have c8b0 : decide (x4_1 < (y323.length : Int)) = true := decide_eq_true c8
       clear c8
       by_cases c9 : x3_1.length < 4398046511104
       ·rw [if_pos c9] at H
        have LMc9 := A_ c9
        clear c9
        obtain ⟨y327, hy327⟩ : ∃ y_ : List (S145), y_ = (x3_1 ++ [(⟨x4_1, wrap64 (x4_1 + 1), rd y323 x4_1, a0⟩ : S145)]) := ⟨_, rfl⟩
        replace H : (spec_UsualPlan.l0 k1 a0 y327 (wrap64 (x4_1 + 1))) = some r := by first | (rw [hy327]; with_reducible exact H) | (have H2_ := (Option.bind_some _ _).symm.trans H; rw [hy327]; with_reducible exact H2_) | (have H2_ := (Option.bind_some _ _).symm.trans H; with_reducible exact H2_) | with_reducible exact H | (rw [hy327]; exact H) | exact H
        have Ny327 := A_ hy327
        clear hy327
        have H' := A_ H
        clear H
        go_wp2_with (first | (go_at_call 54; (with_reducible refine (spec_l01In.calls a0 0 5000 true _ A5.out).mono ?_); rintro e w' ⟨rfl, ⟨nd, rfl⟩⟩) | ((with_reducible refine gate_dst (N := 15) rfl ?_); refine Kd.R_lit (Kd.int .i64) _ 3 ?hg (N := 15) ?hd (xs := ([1, 2, 1, 2, 1, 2, 2, 1, 2, 1, 2] : List Int)) (inner := [.int .i64 1, .int .i64 2, .int .i64 1, .int .i64 2, .int .i64 1, .int .i64 2, .int .i64 2, .int .i64 1, .int .i64 2, .int .i64 1, .int .i64 2]) (ok := fun _ => True) (okp := fun _ => True) ?hr ?hp (fun _ hk => hk) trivial (Below.refl _ _) (Nat.le_refl _) (by simp) ?_; (case hd => rfl); (case hg => rfl); (case hr => first | (go_simp; done) | (go_simp; rfl)); (case hp => exact (Reps.one (show Kd.M (Kd.int .i64) _ _ _ 1 [.int .i64 1] from rfl) (Reps.one (show Kd.M (Kd.int .i64) _ _ _ 2 [.int .i64 2] from rfl) (Reps.one (show Kd.M (Kd.int .i64) _ _ _ 1 [.int .i64 1] from rfl) (Reps.one (show Kd.M (Kd.int .i64) _ _ _ 2 [.int .i64 2] from rfl) (Reps.one (show Kd.M (Kd.int .i64) _ _ _ 1 [.int .i64 1] from rfl) (Reps.one (show Kd.M (Kd.int .i64) _ _ _ 2 [.int .i64 2] from rfl) (Reps.one (show Kd.M (Kd.int .i64) _ _ _ 2 [.int .i64 2] from rfl) (Reps.one (show Kd.M (Kd.int .i64) _ _ _ 1 [.int .i64 1] from rfl) (Reps.one (show Kd.M (Kd.int .i64) _ _ _ 2 [.int .i64 2] from rfl) (Reps.one (show Kd.M (Kd.int .i64) _ _ _ 1 [.int .i64 1] from rfl) (Reps.one (show Kd.M (Kd.int .i64) _ _ _ 2 [.int .i64 2] from rfl) (Reps.none _ _))))))))))))); intro v324 w10 ho11 hb hg_ hnew_; clear hg_ hnew_; (first | rw [← Ny323.out] at ho11 | (simp only [Int.reduceToNat] at ho11; rw [← Ny323.out] at ho11)); have n0_ := A_ (Kd.R_below (oR HO_3) hb); have n1_ := A_ (Kd.R_lower ho11 (below_size (oB HB))); have n2_ := A_ (below_step (oB HB) hb); clear HO_3; clear HB; have HO_3 := n0_; have HO325 := n1_; have HB := n2_; clear n0_ n1_ n2_; clear hb ho11; obtain ⟨Ao12, co12, eo12⟩ := Kd.R_slice HO325.out; subst eo12; have p326 : 0 ≤ (x4_1 : Int) := of_decide_eq_true (by first | (with_reducible assumption) | assumption); have q326 : x4_1 < (y323.length : Int) := of_decide_eq_true (by first | (with_reducible assumption) | assumption); obtain ⟨ad326, e326, hx326_0⟩ := Kd.at_int (Kd.R_reads' HO325.out).2.2 x4_1 p326 q326; cases e326; replace p326 := eq_true p326; replace q326 := eq_true q326) | ((with_reducible refine gate_builtin (b := .append) (xs := #[.tmp 19, .tmp 26]) rfl ?_); at_builtin; refine Kd.R_append k145 (w0 := w) w.heap.size rfl (.tmp 19) (.tmp 26) 38 145 (.agg #[(.int .i64 0), (.int .i64 0), (.int .i64 0), (.int .i64 0)]) 32 rfl Tryd.underlying38 info145 rfl (by decide) (by omega) u3 x3_1 (⟨x4_1, wrap64 (x4_1 + 1), rd y323 x4_1, a0⟩ : S145) [.int .i64 x4_1, .int .i64 (wrap64 (x4_1 + 1)), .int .i64 (rd y323 x4_1), .int .i64 a0] (fun _ => True) (fun _ => False) rfl rfl ?aP (fun _ hk => hk.elim) ?aF ?aO ?aB ?aS ?aL ?_; (case aP => exact k145_mkM _ _ _ (⟨x4_1, wrap64 (x4_1 + 1), rd y323 x4_1, a0⟩ : S145)); (case aB => exact (oB HB)); (case aF => exact (fun _ _ => trivial)); (case aO => exact (oR HO_3)); (case aS => exact (below_size (oB HB))); (case aL => have := LMc9.out; omega); intro v328 w13 ho hb hg hat; rw [← Ny327.out] at ho; have n0_ := A_ (Kd.R_over' (oR HO325) (Kd.R_typed (oR HO_3)) (by decide) hg); have n1_ := A_ (hb); have n2_ := A_ (ho); clear HO325; clear HB; clear HO_3; have HO325 := n0_; have HB := n1_; have HO329 := n2_; clear n0_ n1_ n2_; clear ho hb hg hat))
        go_roundg k1
        case measure => have := HK1.out; omega
        case rel => exact ⟨(y327), (wrap64 (x4_1 + 1)), (by first | rfl | (simp; done) | (simp [*]; done)), H', ⟨by have := HK1.out; omega⟩, ⟨oR HO329⟩, ⟨oB HB⟩⟩
       ·rw [if_neg c9] at H
        exact absurd H (by simp)
      ·rw [if_neg c8] at H
       exact absurd H (by simp)
     ·rw [if_neg c7] at H
      exact absurd H (by simp)
    ·replace c6 := Bool.eq_false_iff.mpr c6
     subst c6
     rw [if_neg (show ¬ (false = true) by decide)] at H
     obtain rfl := Option.some.inj H
     go_wp2_with (first | (go_at_call 54; (with_reducible refine (spec_l01In.calls a0 0 5000 false _ A5.out).mono ?_); rintro e w' ⟨rfl, ⟨nd, rfl⟩⟩))
     go_ret
     exact ⟨_, eR, oR HO_3, oB HB⟩
   ·rw [if_neg c4] at H
    have c4b0 : decide (x4_1 < 11) = false := decide_eq_false c4
    clear c4
    obtain rfl := Option.some.inj H
    go_wp2
    go_ret
    exact ⟨_, eR, oR HO_3, oB HB⟩
end Go.Proofs.YtojiighpkppckaaDoor.P


namespace Go.Proofs.YtojiighpkppckaaDoor.P
open Go.RowKit Go.Proofs.YtojiighpkppckaaDoorW.PrintWords Go.Proofs.YtojiighpkppckaaDoorW.PrintLast Go.Proofs.YtojiighpkppckaaDoorW.PrintMore Go.Proofs.YtojiighpkppckaaDoor.V
attribute [local go_sem] cell_b frozen_b
attribute [local go_sem] max2_int min2_int max_two min_two max_three min_three max_four min_four
set_option linter.unusedVariables false
set_option linter.unusedSimpArgs false
def spec_SampleShop.f (k : Nat)  : Option ((List (S145)) × Int × List Int × Int × Int × (List (S85))) := (spec_UsualPlan.f k 700).bind fun t331 => ((spec_NewShop.f k 264000 t331).bind fun bt334 => (some (bt334.1, bt334.2.1, bt334.2.2.1, bt334.2.2.2.1, bt334.2.2.2.2.1, bt334.2.2.2.2.2.1)))
set_option maxHeartbeats 8000000 in
set_option maxRecDepth 100000 in
set_option synthInstance.maxHeartbeats 400000 in
set_option synthInstance.maxSize 100000 in
theorem spec_SampleShop.calls (k : Nat)  (r1 : List (S145)) (r2 : Int) (r3 : List Int) (r4 : Int) (r5 : Int) (r6 : List (S85)) (w : World) (h : spec_SampleShop.f k  = some (r1, r2, r3, r4, r5, r6)) :
  Calls Tryd.prog 64 #[] w fun e w' => ∃ v0_ v2_ v5_ : Value, e = .returned (.agg #[v0_, .int .i64 r2, v2_, .int .i64 r4, .int .i64 r5, v5_]) ∧ Kd.R k145 145 w' w.heap.size (fun _ => True) v0_ r1 ∧ Kd.R (Kd.int .i64) 3 w' w.heap.size (fun _ => True) v2_ r3 ∧ Kd.R k85 85 w' w.heap.size (fun _ => True) v5_ r6 ∧ Below w.heap.size w w' := by
 unfold spec_SampleShop.f at h
 have hu44 := Tryd.underlying44
 (repeat' first | ((with_reducible replace h := ite_some h); rcases h with ⟨hc, h⟩ | ⟨hc, h⟩ <;> first | exact (none_some h).elim | exact absurd hc (by decide) | subst hc | (replace hc := Bool.eq_false_iff.mpr hc; subst hc) | (have hd := beq_iff_eq.mpr hc; have he := bne_eq_false_iff_eq.mpr hc; clear hc) | (have hd := beq_eq_false_iff_ne.mpr hc; have he := bne_iff_ne.mpr hc) | (have hd := decide_eq_false hc) | (have hd := decide_eq_true hc) | skip))
 all_goals go_enter Tryd.func64, Tryd.ntmps64
 all_goals go_wp2_with (first
  | ((with_reducible refine gate_dst (N := 0) rfl ?_); refine box_event rfl (N := 0) rfl (cs := #[.slice none 0 0, .int .i64 0, .slice none 0 0, .int .i64 0, .int .i64 0, .slice none 0 0]) (t := 44) (by first | (go_simp; done) | (go_simp; rfl)) ?_; intro g hg w1 hk hb; have j1 := Born.mk hg; have j2 := Bel.mk hb; have j3 := Blk.mk hk; clear hg hb hk)
  | ((with_reducible refine gate_dst (N := 1) rfl ?_); refine box_event rfl (N := 1) rfl (cs := #[.slice none 0 0, .int .i64 0, .slice none 0 0, .int .i64 0, .int .i64 0, .slice none 0 0]) (t := 44) (by first | (go_simp; done) | (go_simp; rfl)) ?_; intro g hg w1 hk hb; have j1 := Born.mk hg; have j2 := Bel.mk hb; have j3 := Blk.mk hk; clear hg hb hk)
  | (go_at_call 90; replace h := Option.bind_eq_some_iff.mp h; obtain ⟨t, A, h⟩ := h; (try dsimp only at h); refine (spec_UsualPlan.calls _ _ _ _ A).mono ?_; rintro e w2 ⟨v0, rfl, ho0, hb⟩; obtain ⟨B0, b0, rfl⟩ := Kd.R_slice ho0; have j0 := RowE.mk ho0; have q0 := LeI.mk (rowLe j0); have jb := Bel.mk hb; clear A ho0 hb; (repeat' first | ((with_reducible replace h := ite_some h); rcases h with ⟨hc, h⟩ | ⟨hc, h⟩ <;> first | exact (none_some h).elim | exact absurd hc (by decide) | subst hc | (replace hc := Bool.eq_false_iff.mpr hc; subst hc) | (have hd := beq_iff_eq.mpr hc; have he := bne_eq_false_iff_eq.mpr hc; clear hc) | (have hd := beq_eq_false_iff_ne.mpr hc; have he := bne_iff_ne.mpr hc) | (have hd := decide_eq_false hc) | (have hd := decide_eq_true hc) | skip)); (try have hn : decide (0 < t.length) = true := decide_eq_true (by omega)); (try have hn : decide (0 < t.length) = false := decide_eq_false (by omega)))
  | (go_at_call 89; replace h := Option.bind_eq_some_iff.mp h; obtain ⟨⟨t1, t2, t3, t4, t5, t6, t7⟩, A, h⟩ := h; (try dsimp only at h); refine (spec_NewShop.calls _ _ _ _ _ _ _ _ _ _ _ _ _ Rd.out LeI.out A).mono ?_; rintro e w2 ⟨v0, v1, v2, rfl, ho0, ho1, ho2, hb⟩; obtain ⟨B0, b0, rfl⟩ := Kd.R_slice ho0; have j0 := RowE.mk ho0; have q0 := LeI.mk (rowLe j0); obtain ⟨B1, b1, rfl⟩ := Kd.R_slice ho1; have j1 := RowE.mk ho1; have q1 := LeI.mk (rowLe j1); obtain ⟨B2, b2, rfl⟩ := Kd.R_slice ho2; have j2 := RowE.mk ho2; have q2 := LeI.mk (rowLe j2); have jb := Bel.mk hb; clear A ho0 ho1 ho2 hb; (repeat' first | ((with_reducible replace h := ite_some h); rcases h with ⟨hc, h⟩ | ⟨hc, h⟩ <;> first | exact (none_some h).elim | exact absurd hc (by decide) | subst hc | (replace hc := Bool.eq_false_iff.mpr hc; subst hc) | (have hd := beq_iff_eq.mpr hc; have he := bne_eq_false_iff_eq.mpr hc; clear hc) | (have hd := beq_eq_false_iff_ne.mpr hc; have he := bne_iff_ne.mpr hc) | (have hd := decide_eq_false hc) | (have hd := decide_eq_true hc) | skip))))
 all_goals (repeat' first | ((with_reducible replace h := ite_some h); rcases h with ⟨hc, h⟩ | ⟨hc, h⟩ <;> first | exact (none_some h).elim | exact absurd hc (by decide) | subst hc | (replace hc := Bool.eq_false_iff.mpr hc; subst hc) | (have hd := beq_iff_eq.mpr hc; have he := bne_eq_false_iff_eq.mpr hc; clear hc) | (have hd := beq_eq_false_iff_ne.mpr hc; have he := bne_iff_ne.mpr hc) | (have hd := decide_eq_false hc) | (have hd := decide_eq_true hc) | skip))
 all_goals simp only [Option.some.injEq, Prod.mk.injEq] at h
 all_goals obtain ⟨rfl, rfl, rfl, rfl, rfl, rfl⟩ := h
 all_goals refine bodyPost_ret (results_cell_row rfl _ _ _ _ _ (0, 0) _ rfl Blk.out Tryd.underlying44 rfl (by kernel_rfl)) rfl ?_
 all_goals exact ⟨_, _, _, rfl, (by first | exact rowFin | exact Kd.R_nil _ _ _ _ _), (by first | exact rowFin | exact Kd.R_nil _ _ _ _ _), (by first | exact rowFin | exact Kd.R_nil _ _ _ _ _), From.out⟩
end Go.Proofs.YtojiighpkppckaaDoor.P


namespace Go.Proofs.YtojiighpkppckaaDoor.P
open Go.RowKit Go.Proofs.YtojiighpkppckaaDoorW.PrintWords Go.Proofs.YtojiighpkppckaaDoorW.PrintLast Go.Proofs.YtojiighpkppckaaDoorW.PrintMore
attribute [local go_sem] max2_int min2_int max_two min_two max_three min_three max_four min_four
set_option linter.unusedVariables false
set_option linter.unusedSimpArgs false
def spec_l01PickInt.f (s0_0 : List Int) (s0_1 : Int) (s0_2 : Int) (l1 : List Int) : Option (Int × Int × Int) := (spec_l01Below.f s0_0 s0_1 s0_2 (l1.length : Int)).bind fun bt348 => (if 0 ≤ bt348.1 then (if bt348.1 < (l1.length : Int) then (some (rd l1 bt348.1, bt348.2.1, bt348.2.2)) else (none)) else (none))
set_option maxHeartbeats 8000000 in
set_option maxRecDepth 100000 in
theorem spec_l01PickInt.calls (g : Nat) (s0_0 : List Int) (s0_1 : Int) (s0_2 : Int) (A1 : Option Addr) (c1 : Nat) (l1 : List Int) (r1 : Int) (r2 : Int) (r3 : Int) (w0 w : World) (hI : IsS105 w0 w g s0_0 s0_1 s0_2) (hB : Below w0.heap.size w0 w) (hr1 : Kd.C (Kd.int .i64) w A1 l1.length l1) (hc1 : l1.length ≤ c1) (hf1 : ∀ ad, A1 = some ad → 0 < l1.length → ad.block ≠ g) (h : spec_l01PickInt.f s0_0 s0_1 s0_2 l1 = some (r1, r2, r3)) :
  Calls Tryd.prog 98 #[.pointer (some ⟨g, 0, none⟩), .slice A1 l1.length c1] w fun e w' => e = .returned (.int .i64 r1) ∧ IsS105 w0 w' g s0_0 r2 r3 ∧ Below w0.heap.size w0 w' ∧ KeepBut w w' g none := by
 have HR1 := A_ hr1
 have HC1 := A_ hc1
 clear hr1 hc1
 have HI0 := A_ hI
 have HK := A_ (KeepBut.refl w g none)
 have HL := A_ hB.size
 clear hI
 have HW0 := A_ hB.size
 have HB := A_ hB
 clear hB
 have H : ((spec_l01Below.f s0_0 s0_1 s0_2 (l1.length : Int)).bind fun bt348 => (if 0 ≤ bt348.1 then (if bt348.1 < (l1.length : Int) then (some (rd l1 bt348.1, bt348.2.1, bt348.2.2)) else (none)) else (none))) = some (r1, r2, r3) := h
 clear h
 replace H := Option.bind_eq_some_iff.mp H
 obtain ⟨⟨t348, t349, t350⟩, A30, H⟩ := H
 (try dsimp only at H)
 have A3 := A_ A30
 clear A30
 by_cases c4 : 0 ≤ t348
 ·rw [if_pos c4] at H
  have c4b0 : decide (0 ≤ t348) = true := decide_eq_true c4
  clear c4
  by_cases c5 : t348 < (l1.length : Int)
  ·rw [if_pos c5] at H
   have c5b0 : decide (t348 < (l1.length : Int)) = true := decide_eq_true c5
   clear c5
   simp only [Option.some.injEq, Prod.mk.injEq] at H
   obtain ⟨rfl, rfl, rfl⟩ := H
   go_enter Tryd.func98, Tryd.ntmps98
   go_wp2_with (first | ((with_reducible refine gate_callee (f := 66) rfl ?_); refine gL (some 9) Tryd.func66 #[.pointer (some ⟨g, 0, none⟩), .int .i64 (l1.length : Int)] ?_; (with_reducible refine (spec_l01Below.calls g s0_0 s0_1 s0_2 (l1.length : Int) t348 t349 t350 w0 _ ?side1 ?side2 A3.out).mono ?_); (case side1 => exact oI105 HI0); (case side2 => exact oB105 HB); rintro e w6 ⟨rfl, hi, hb, hk⟩; refine ⟨_, rfl, ?_⟩; have n0_ := A_ (KeepBut.trans (oKe HK) hk (.inl rfl)); have n1_ := A_ (hb); have n2_ := A_ (hi); clear HK; clear HB; clear HI0; have HK := n0_; have HB := n1_; have HI0 := n2_; clear n0_ n1_ n2_; (try clear hb); (try clear hb2); (try clear hk); (try clear hi); have p351 : 0 ≤ (t348 : Int) := of_decide_eq_true (by first | (with_reducible assumption) | assumption); have q351 : t348 < (l1.length : Int) := of_decide_eq_true (by first | (with_reducible assumption) | assumption); obtain ⟨ad351, e351, hx351_0⟩ := Kd.at_int HR1.out t348 p351 q351; cases e351; replace hx351_0 := keep_cell HK.out hx351_0 (by first | (rw [add_block]; exact hf1 _ rfl (by omega)) | exact hf1 _ rfl (by omega) | exact hf1 ad351 rfl (by omega)); replace p351 := eq_true p351; replace q351 := eq_true q351))
   go_ret
   exact ⟨eR, oI105 HI0, oB105 HB, oKe HK⟩
  ·rw [if_neg c5] at H
   exact absurd H (by simp)
 ·rw [if_neg c4] at H
  exact absurd H (by simp)
end Go.Proofs.YtojiighpkppckaaDoor.P


namespace Go.Proofs.YtojiighpkppckaaDoor.P
open Go.RowKit Go.Proofs.YtojiighpkppckaaDoorW.PrintWords Go.Proofs.YtojiighpkppckaaDoorW.PrintLast Go.Proofs.YtojiighpkppckaaDoorW.PrintMore
attribute [local go_sem] max2_int min2_int max_two min_two max_three min_three max_four min_four
set_option linter.unusedVariables false
set_option linter.unusedSimpArgs false
def spec_l19Plan.l0 : Nat → List (S145) → Int → List Int → Int → Int → Option ((List (S145)) × Int × Int)
 | 0, _, _, _, _, _ => none
 | k + 1, x3, x4, x1000, x1001, x1002 => if x4 < (x3.length : Int) then ((spec_l01Below.f x1000 x1001 x1002 1500).bind fun bt367 => (if 0 ≤ x4 then ((some (x3.set (x4 : Int).toNat (⟨(rd_T145 x3 x4).f0, (rd_T145 x3 x4).f1, (rd_T145 x3 x4).f2, bt367.1⟩ : S145) : List (S145))).bind fun y370 => ((spec_l01Once.f x1000 bt367.2.1 bt367.2.2 5).bind fun bt371 => (if bt371.1 = true then (spec_l19Plan.l0 k (y370.set (x4 : Int).toNat (⟨(rd_T145 y370 x4).f0, (rd_T145 y370 x4).f1, 2, (rd_T145 y370 x4).f3⟩ : S145)) (wrap64 (x4 + 1)) x1000 bt371.2.1 bt371.2.2) else (spec_l19Plan.l0 k y370 (wrap64 (x4 + 1)) x1000 bt371.2.1 bt371.2.2)))) else (none))) else ((spec_l01Below.f x1000 x1001 x1002 12).bind fun bt355 => ((spec_l01PickInt.f x1000 bt355.2.1 bt355.2.2 (([11, 11, 11, bt355.1] : List Int))).bind fun bt361 => (if 0 ≤ bt361.1 then (if bt361.1 ≤ (x3.length : Int) then (some ((x3.take (bt361.1 : Int).toNat), bt361.2.1, bt361.2.2)) else (none)) else (none))))
def spec_l19Plan.f (k : Nat) (s0_0 : List Int) (s0_1 : Int) (s0_2 : Int) : Option ((List (S145)) × Int × Int) := (spec_UsualPlan.f k 0).bind fun t352 => (spec_l19Plan.l0 k t352 0 s0_0 s0_1 s0_2)
set_option maxHeartbeats 8000000 in
set_option maxRecDepth 100000 in
theorem spec_l19Plan.calls (k : Nat) (g : Nat) (s0_0 : List Int) (s0_1 : Int) (s0_2 : Int) (r1 : List (S145)) (r2 : Int) (r3 : Int) (w0 w : World) (hI : IsS105 w0 w g s0_0 s0_1 s0_2) (hB : Below w0.heap.size w0 w) (h : spec_l19Plan.f k s0_0 s0_1 s0_2 = some (r1, r2, r3)) :
  Calls Tryd.prog 91 #[.pointer (some ⟨g, 0, none⟩)] w fun e w' => ∃ v0_ : Value, e = .returned (v0_) ∧ Kd.R k145 145 w' w.heap.size (fun _ => True) v0_ r1 ∧ IsS105 w0 w' g s0_0 r2 r3 ∧ Below w0.heap.size w0 w' ∧ KeepBut w w' g none := by
 have HI0 := A_ hI
 have HK := A_ (KeepBut.refl w g none)
 have HL := A_ hB.size
 clear hI
 have HW0 := A_ hB.size
 have HB := A_ hB
 clear hB
 have H : ((spec_UsualPlan.f k 0).bind fun t352 => (spec_l19Plan.l0 k t352 0 s0_0 s0_1 s0_2)) = some (r1, r2, r3) := h
 clear h
 replace H := Option.bind_eq_some_iff.mp H
 obtain ⟨t352, A20, H⟩ := H
 (try dsimp only at H)
 have A2 := A_ A20
 clear A20
 have H' := A_ H
 clear H
 go_enter Tryd.func91, Tryd.ntmps91
 go_wp2_with (first | ((with_reducible refine gate_callee (f := 90) rfl ?_); refine gL (some 5) Tryd.func90 #[.int .i64 0] ?_; (with_reducible refine (spec_UsualPlan.calls k 0 t352 _ A2.out).mono ?_); rintro e w3 ⟨v353, rfl, ho0, hb⟩; refine ⟨_, rfl, ?_⟩; have n0_ := A_ (Kd.R_lower ho0 (keep_size (w := w) (g := g) (row := none) (by repeat (first | (with_reducible first | exact HK.out | apply KeepBut.set_ | apply keep_drewN | apply keep_drew | apply keep_alloc) | exact HK.out)))); have n1_ := A_ (IsS105.below (oI105 HI0) hb); have n2_ := A_ (KeepBut.trans (oKe HK) (KeepBut.of_below hb g none) (.inl rfl)); have n3_ := A_ (below_step (oB105 HB) hb); clear HI0; clear HK; clear HB; have HO354 := n0_; have HI0 := n1_; have HK := n2_; have HB := n3_; clear n0_ n1_ n2_ n3_; (try clear hb); (try clear hb2); (try clear hk); (try clear hi); (try clear ho0)))
 go_loopg [4] k (fun kq v4 w' => ∃ (x3_1 : List (S145)) (x4_1 : Int) (x1001_1 : Int) (x1002_1 : Int), v4 = .int .i64 x4_1 ∧ Aside0 (spec_l19Plan.l0 kq x3_1 x4_1 s0_0 x1001_1 x1002_1 = some (r1, r2, r3)) ∧ Aside0 (kq ≤ k) ∧ Aside0 (Kd.R k145 145 w' w.heap.size (fun _ => True) v353 x3_1) ∧ Aside0 (IsS105 w0 w' g s0_0 x1001_1 x1002_1) ∧ Aside0 (KeepBut w w' g none) ∧ Aside0 (Below w0.heap.size w0 w'))
 case atStart => exact ⟨(t352), (0), (s0_1), (s0_2), (by first | rfl | (simp; done) | (simp [*]; done)), H', ⟨Nat.le_refl _⟩, ⟨oR HO354⟩, ⟨oI105 HI0⟩, ⟨oKe HK⟩, ⟨oB105 HB⟩⟩
 case round =>
  clear H'
  try clear p2
  obtain ⟨x3_1, x4_1, x1001_1, x1002_1, rfl, HA, HK1, HO_3, HI0, HK, HB⟩ := hrel
  cases gk with
  | zero => exact absurd HA.out (by simp [spec_l19Plan.l0])
  | succ k1 =>
   have H := HA.out
   clear HA
   simp only [spec_l19Plan.l0] at H
   by_cases c4 : x4_1 < (x3_1.length : Int)
   ·rw [if_pos c4] at H
    have c4b0 : decide (x4_1 < (x3_1.length : Int)) = true := decide_eq_true c4
    clear c4
    replace H := Option.bind_eq_some_iff.mp H
    obtain ⟨⟨t367, t368, t369⟩, A50, H⟩ := H
    (try dsimp only at H)
    have A5 := A_ A50
    clear A50
    by_cases c6 : 0 ≤ x4_1
    ·rw [if_pos c6] at H
     have c6b0 : decide (0 ≤ x4_1) = true := decide_eq_true c6
     clear c6
     obtain ⟨y370, hy370⟩ : ∃ y_ : List (S145), y_ = (x3_1.set (x4_1 : Int).toNat (⟨(rd_T145 x3_1 x4_1).f0, (rd_T145 x3_1 x4_1).f1, (rd_T145 x3_1 x4_1).f2, t367⟩ : S145)) := ⟨_, rfl⟩
     replace H : ((spec_l01Once.f s0_0 t368 t369 5).bind fun bt371 => (if bt371.1 = true then (spec_l19Plan.l0 k1 (y370.set (x4_1 : Int).toNat (⟨(rd_T145 y370 x4_1).f0, (rd_T145 y370 x4_1).f1, 2, (rd_T145 y370 x4_1).f3⟩ : S145)) (wrap64 (x4_1 + 1)) s0_0 bt371.2.1 bt371.2.2) else (spec_l19Plan.l0 k1 y370 (wrap64 (x4_1 + 1)) s0_0 bt371.2.1 bt371.2.2))) = some (r1, r2, r3) := by first | (rw [hy370]; with_reducible exact H) | (have H2_ := (Option.bind_some _ _).symm.trans H; rw [hy370]; with_reducible exact H2_) | (have H2_ := (Option.bind_some _ _).symm.trans H; with_reducible exact H2_) | with_reducible exact H | (rw [hy370]; exact H) | exact H
     have Ny370 := A_ hy370
     clear hy370
     replace H := Option.bind_eq_some_iff.mp H
     obtain ⟨⟨t371, t372, t373⟩, A80, H⟩ := H
     (try dsimp only at H)
     have A8 := A_ A80
     clear A80
     by_cases c9 : t371 = true
     ·subst c9
      rw [if_pos rfl] at H
      obtain ⟨y374, hy374⟩ : ∃ y_ : List (S145), y_ = (y370.set (x4_1 : Int).toNat (⟨(rd_T145 y370 x4_1).f0, (rd_T145 y370 x4_1).f1, 2, (rd_T145 y370 x4_1).f3⟩ : S145)) := ⟨_, rfl⟩
      replace H : (spec_l19Plan.l0 k1 y374 (wrap64 (x4_1 + 1)) s0_0 t372 t373) = some (r1, r2, r3) := by first | (rw [hy374]; with_reducible exact H) | (have H2_ := (Option.bind_some _ _).symm.trans H; rw [hy374]; with_reducible exact H2_) | (have H2_ := (Option.bind_some _ _).symm.trans H; with_reducible exact H2_) | with_reducible exact H | (rw [hy374]; exact H) | exact H
      have Ny374 := A_ hy374
      clear hy374
      have H' := A_ H
      clear H
      obtain ⟨Ao11, co11, eo11⟩ := Kd.R_slice HO_3.out
      subst eo11
      go_wp2_with (first | ((with_reducible refine gate_callee (f := 66) rfl ?_); refine gL (some 15) Tryd.func66 #[.pointer (some ⟨g, 0, none⟩), .int .i64 1500] ?_; (with_reducible refine (spec_l01Below.calls g s0_0 x1001_1 x1002_1 1500 t367 t368 t369 w0 _ ?side1 ?side2 A5.out).mono ?_); (case side1 => exact oI105 HI0); (case side2 => exact oB105 HB); rintro e w12 ⟨rfl, hi, hb, hk⟩; refine ⟨_, rfl, ?_⟩; have n0_ := A_ (Kd.R_mono (Kd.R_keep (IsS105.apart (show IsS105 w0 _ g s0_0 x1001_1 x1002_1 from oI105 HI0) (oR HO_3) (by decide)) hk (fun _ h => h.2)) (fun _ h => h.1)); have n1_ := A_ (KeepBut.trans (oKe HK) hk (.inl rfl)); have n2_ := A_ (hb); have n3_ := A_ (hi); clear HO_3; clear HK; clear HB; clear HI0; have HO_3 := n0_; have HK := n1_; have HB := n2_; have HI0 := n3_; clear n0_ n1_ n2_ n3_; (try clear hb); (try clear hb2); (try clear hk); (try clear hi); have p7 : 0 ≤ (x4_1 : Int) := of_decide_eq_true (by first | (with_reducible assumption) | assumption); have q7 : (x4_1 : Int) < ((x3_1.length : Int) : Int) := of_decide_eq_true (by first | (with_reducible assumption) | assumption); obtain ⟨go7, co7, eo7, gb7, gl7, cl7, HG7⟩ := Kd.R_form HO_3.out (by omega); (first | cases eo7 | (injection eo7 with ea_ en_ ec_; (first | subst ea_ | (injection ea_ with ea_; subst ea_)); subst ec_; clear en_)); have GB7 := A_ gb7; have GG7 := A_ HG7; clear gb7 gl7 HG7; obtain ⟨ce7, hcl7, hM7, hcc7, hfr7⟩ := Kd.R_elem HO_3.out z145 (x4_1 : Int) p7 q7; obtain rfl := k145_openM hM7; have hx7_0 : w12.cell? ⟨go7, (x4_1 : Int).toNat * 4, none⟩ = some (.int .i64 ((rd_T145 x3_1 x4_1).f0)) := hcc7 0 _ rfl; have hx7_1 : w12.cell? ⟨go7, (x4_1 : Int).toNat * 4 + 1, none⟩ = some (.int .i64 ((rd_T145 x3_1 x4_1).f1)) := hcc7 1 _ rfl; have hx7_2 : w12.cell? ⟨go7, (x4_1 : Int).toNat * 4 + 2, none⟩ = some (.int .i64 ((rd_T145 x3_1 x4_1).f2)) := hcc7 2 _ rfl; have hx7_3 : w12.cell? ⟨go7, (x4_1 : Int).toNat * 4 + 3, none⟩ = some (.int .i64 ((rd_T145 x3_1 x4_1).f3)) := hcc7 3 _ rfl; have hf7_0 : w12.frozen? ⟨go7, (x4_1 : Int).toNat * 4, none⟩ = false := hfr7 0; have hf7_1 : w12.frozen? ⟨go7, (x4_1 : Int).toNat * 4 + 1, none⟩ = false := hfr7 1; have hf7_2 : w12.frozen? ⟨go7, (x4_1 : Int).toNat * 4 + 2, none⟩ = false := hfr7 2; have hf7_3 : w12.frozen? ⟨go7, (x4_1 : Int).toNat * 4 + 3, none⟩ = false := hfr7 3; clear hcl7 hcc7 hfr7 hM7; replace p7 := eq_true p7; replace q7 := eq_true q7; have HX13 := A_ (show Kd.R k145 145 w12 w.heap.size (fun _ => True) (.slice (some ⟨go7, 0, none⟩) x3_1.length co11) x3_1 from (oR HO_3)); obtain ⟨ce13, hcl13, hM13, hcc13, hfr13⟩ := Kd.R_elem HX13.out z145 (x4_1 : Int) (of_decide_eq_true (by first | (with_reducible assumption) | assumption)) (by have h_ : (x4_1 : Int) < ((x3_1.length : Int) : Int) := of_decide_eq_true (by first | (with_reducible assumption) | assumption); first | exact h_ | (have e_ := (Kd.R_reads' HO_3.out).1; omega) | simpa using h_); obtain rfl := k145_openM hM13; have HP13 := Kd.R_seg HX13.out (x4_1 : Int) (of_decide_eq_true (by first | (with_reducible assumption) | assumption)) (by have h_ : (x4_1 : Int) < ((x3_1.length : Int) : Int) := of_decide_eq_true (by first | (with_reducible assumption) | assumption); first | exact h_ | (have e_ := (Kd.R_reads' HO_3.out).1; omega) | simpa using h_) (seg := [.int .i64 t367]) (j := 3) hcl13 hcc13 (show 4 ≤ 4 from by decide) (x' := (⟨(rd_T145 x3_1 x4_1).f0, (rd_T145 x3_1 x4_1).f1, (rd_T145 x3_1 x4_1).f2, t367⟩ : S145)) (k145_mkM _ _ _ (⟨(rd_T145 x3_1 x4_1).f0, (rd_T145 x3_1 x4_1).f1, (rd_T145 x3_1 x4_1).f2, t367⟩ : S145) ) (fun _ hk => hk); have hx13_3 := hcc13 3 _ rfl; (try simp only [show (k145).sz = 4 from rfl, Nat.mul_one, Nat.add_zero] at hx13_3); have hf13_3 := hfr13 3; (try simp only [show (k145).sz = 4 from rfl, Nat.mul_one, Nat.add_zero] at hf13_3); clear hcl13 hcc13 hfr13 hM13) | ((with_reducible refine gate_store (t := 3) (p := 17) rfl ?_); refine store_event (t := 3) (p := 17) (v := ?vo_w14) (w1 := (w12.setCell ⟨go7, (x4_1 : Int).toNat * 4 + 3, none⟩ (.int .i64 t367))) ?hg ?ho ?hn ?hr ?_; (case ho => rfl); (case hg => rfl); (case hn => rfl); (case hr => first | (go_simp; done) | (go_simp; rfl)); intro w14 hw; have hg : w12.grownBy w14 (some go7) := (by rw [hw]; exact HP13.2); have hp_ : Kd.R k145 145 w14 w.heap.size (fun _ => True) (.slice (some ⟨go7, 0, none⟩) x3_1.length co11) y370 := (by rw [hw, Ny370.out]; exact HP13.1); clear HP13; have n0_ := A_ (hp_); have n1_ := A_ (IsS105.grown (oI105 HI0) hg (IsS105.own_ne HI0.out HO_3.out (by decide))); have n2_ := A_ ((by rw [hw]; exact below_set (HB.out) (Nat.le_trans HL.out GB7.out) : Below w0.heap.size w0 w14)); have n3_ := A_ (KeepBut.trans (oKe HK) (KeepBut.of_grown hg g) (Kd.R_base2 HO_3.out)); clear HO_3; clear HI0; clear HB; clear HK; have HO_3 := n0_; have HI0 := n1_; have HB := n2_; have HK := n3_; clear n0_ n1_ n2_ n3_; clear hg hw hp_) | ((with_reducible refine gate_callee (f := 63) rfl ?_); refine gL (some 19) Tryd.func63 #[.pointer (some ⟨g, 0, none⟩), .int .i64 5] ?_; (with_reducible refine (spec_l01Once.calls g s0_0 t368 t369 5 true t372 t373 w0 _ ?side1 ?side2 A8.out).mono ?_); (case side1 => exact oI105 HI0); (case side2 => exact oB105 HB); rintro e w15 ⟨rfl, hi, hb, hk⟩; refine ⟨_, rfl, ?_⟩; have n0_ := A_ (Kd.R_mono (Kd.R_keep (IsS105.apart (show IsS105 w0 _ g s0_0 t368 t369 from oI105 HI0) (oR HO_3) (by decide)) hk (fun _ h => h.2)) (fun _ h => h.1)); have n1_ := A_ (KeepBut.trans (oKe HK) hk (.inl rfl)); have n2_ := A_ (hb); have n3_ := A_ (hi); clear HO_3; clear HK; clear HB; clear HI0; have HO_3 := n0_; have HK := n1_; have HB := n2_; have HI0 := n3_; clear n0_ n1_ n2_ n3_; (try clear hb); (try clear hb2); (try clear hk); (try clear hi); have p10 : 0 ≤ (x4_1 : Int) := of_decide_eq_true (by first | (with_reducible assumption) | assumption); have q10 : (x4_1 : Int) < ((x3_1.length : Int) : Int) := of_decide_eq_true (by first | (with_reducible assumption) | assumption); obtain ⟨ce10, hcl10, hM10, hcc10, hfr10⟩ := Kd.R_elem HO_3.out z145 (x4_1 : Int) p10 q10; obtain rfl := k145_openM hM10; have hx10_0 : w15.cell? ⟨go7, (x4_1 : Int).toNat * 4, none⟩ = some (.int .i64 ((rd_T145 y370 x4_1).f0)) := hcc10 0 _ rfl; have hx10_1 : w15.cell? ⟨go7, (x4_1 : Int).toNat * 4 + 1, none⟩ = some (.int .i64 ((rd_T145 y370 x4_1).f1)) := hcc10 1 _ rfl; have hx10_2 : w15.cell? ⟨go7, (x4_1 : Int).toNat * 4 + 2, none⟩ = some (.int .i64 ((rd_T145 y370 x4_1).f2)) := hcc10 2 _ rfl; have hx10_3 : w15.cell? ⟨go7, (x4_1 : Int).toNat * 4 + 3, none⟩ = some (.int .i64 ((rd_T145 y370 x4_1).f3)) := hcc10 3 _ rfl; have hf10_0 : w15.frozen? ⟨go7, (x4_1 : Int).toNat * 4, none⟩ = false := hfr10 0; have hf10_1 : w15.frozen? ⟨go7, (x4_1 : Int).toNat * 4 + 1, none⟩ = false := hfr10 1; have hf10_2 : w15.frozen? ⟨go7, (x4_1 : Int).toNat * 4 + 2, none⟩ = false := hfr10 2; have hf10_3 : w15.frozen? ⟨go7, (x4_1 : Int).toNat * 4 + 3, none⟩ = false := hfr10 3; clear hcl10 hcc10 hfr10 hM10; replace p10 := eq_true p10; replace q10 := eq_true q10; have HX16 := A_ (show Kd.R k145 145 w15 w.heap.size (fun _ => True) (.slice (some ⟨go7, 0, none⟩) x3_1.length co11) y370 from (oR HO_3)); obtain ⟨ce16, hcl16, hM16, hcc16, hfr16⟩ := Kd.R_elem HX16.out z145 (x4_1 : Int) (of_decide_eq_true (by first | (with_reducible assumption) | assumption)) (by have h_ : (x4_1 : Int) < ((x3_1.length : Int) : Int) := of_decide_eq_true (by first | (with_reducible assumption) | assumption); first | exact h_ | (have e_ := (Kd.R_reads' HO_3.out).1; omega) | simpa using h_); obtain rfl := k145_openM hM16; have HP16 := Kd.R_seg HX16.out (x4_1 : Int) (of_decide_eq_true (by first | (with_reducible assumption) | assumption)) (by have h_ : (x4_1 : Int) < ((x3_1.length : Int) : Int) := of_decide_eq_true (by first | (with_reducible assumption) | assumption); first | exact h_ | (have e_ := (Kd.R_reads' HO_3.out).1; omega) | simpa using h_) (seg := [.int .i64 2]) (j := 2) hcl16 hcc16 (show 3 ≤ 4 from by decide) (x' := (⟨(rd_T145 y370 x4_1).f0, (rd_T145 y370 x4_1).f1, 2, (rd_T145 y370 x4_1).f3⟩ : S145)) (k145_mkM _ _ _ (⟨(rd_T145 y370 x4_1).f0, (rd_T145 y370 x4_1).f1, 2, (rd_T145 y370 x4_1).f3⟩ : S145) ) (fun _ hk => hk); have hx16_2 := hcc16 2 _ rfl; (try simp only [show (k145).sz = 4 from rfl, Nat.mul_one, Nat.add_zero] at hx16_2); have hf16_2 := hfr16 2; (try simp only [show (k145).sz = 4 from rfl, Nat.mul_one, Nat.add_zero] at hf16_2); clear hcl16 hcc16 hfr16 hM16) | ((with_reducible refine gate_store (t := 3) (p := 23) rfl ?_); refine store_event (t := 3) (p := 23) (v := ?vo_w17) (w1 := (w15.setCell ⟨go7, (x4_1 : Int).toNat * 4 + 2, none⟩ (.int .i64 2))) ?hg ?ho ?hn ?hr ?_; (case ho => rfl); (case hg => rfl); (case hn => rfl); (case hr => first | (go_simp; done) | (go_simp; rfl)); intro w17 hw; have hg : w15.grownBy w17 (some go7) := (by rw [hw]; exact HP16.2); have hp_ : Kd.R k145 145 w17 w.heap.size (fun _ => True) (.slice (some ⟨go7, 0, none⟩) x3_1.length co11) y374 := (by rw [hw, Ny374.out]; exact HP16.1); clear HP16; have n0_ := A_ (hp_); have n1_ := A_ (IsS105.grown (oI105 HI0) hg (IsS105.own_ne HI0.out HO_3.out (by decide))); have n2_ := A_ ((by rw [hw]; exact below_set (HB.out) (Nat.le_trans HL.out GB7.out) : Below w0.heap.size w0 w17)); have n3_ := A_ (KeepBut.trans (oKe HK) (KeepBut.of_grown hg g) (Kd.R_base2 HO_3.out)); clear HO_3; clear HI0; clear HB; clear HK; have HO_3 := n0_; have HI0 := n1_; have HB := n2_; have HK := n3_; clear n0_ n1_ n2_ n3_; clear hg hw hp_))
      go_roundg k1
      case measure => have := HK1.out; omega
      case rel => exact ⟨(y374), (wrap64 (x4_1 + 1)), (t372), (t373), (by first | rfl | (simp; done) | (simp [*]; done)), H', ⟨by have := HK1.out; omega⟩, ⟨oR HO_3⟩, ⟨oI105 HI0⟩, ⟨oKe HK⟩, ⟨oB105 HB⟩⟩
     ·replace c9 := Bool.eq_false_iff.mpr c9
      subst c9
      rw [if_neg (show ¬ (false = true) by decide)] at H
      have H' := A_ H
      clear H
      obtain ⟨Ao18, co18, eo18⟩ := Kd.R_slice HO_3.out
      subst eo18
      go_wp2_with (first | ((with_reducible refine gate_callee (f := 66) rfl ?_); refine gL (some 15) Tryd.func66 #[.pointer (some ⟨g, 0, none⟩), .int .i64 1500] ?_; (with_reducible refine (spec_l01Below.calls g s0_0 x1001_1 x1002_1 1500 t367 t368 t369 w0 _ ?side1 ?side2 A5.out).mono ?_); (case side1 => exact oI105 HI0); (case side2 => exact oB105 HB); rintro e w19 ⟨rfl, hi, hb, hk⟩; refine ⟨_, rfl, ?_⟩; have n0_ := A_ (Kd.R_mono (Kd.R_keep (IsS105.apart (show IsS105 w0 _ g s0_0 x1001_1 x1002_1 from oI105 HI0) (oR HO_3) (by decide)) hk (fun _ h => h.2)) (fun _ h => h.1)); have n1_ := A_ (KeepBut.trans (oKe HK) hk (.inl rfl)); have n2_ := A_ (hb); have n3_ := A_ (hi); clear HO_3; clear HK; clear HB; clear HI0; have HO_3 := n0_; have HK := n1_; have HB := n2_; have HI0 := n3_; clear n0_ n1_ n2_ n3_; (try clear hb); (try clear hb2); (try clear hk); (try clear hi); have p7 : 0 ≤ (x4_1 : Int) := of_decide_eq_true (by first | (with_reducible assumption) | assumption); have q7 : (x4_1 : Int) < ((x3_1.length : Int) : Int) := of_decide_eq_true (by first | (with_reducible assumption) | assumption); obtain ⟨go7, co7, eo7, gb7, gl7, cl7, HG7⟩ := Kd.R_form HO_3.out (by omega); (first | cases eo7 | (injection eo7 with ea_ en_ ec_; (first | subst ea_ | (injection ea_ with ea_; subst ea_)); subst ec_; clear en_)); have GB7 := A_ gb7; have GG7 := A_ HG7; clear gb7 gl7 HG7; obtain ⟨ce7, hcl7, hM7, hcc7, hfr7⟩ := Kd.R_elem HO_3.out z145 (x4_1 : Int) p7 q7; obtain rfl := k145_openM hM7; have hx7_0 : w19.cell? ⟨go7, (x4_1 : Int).toNat * 4, none⟩ = some (.int .i64 ((rd_T145 x3_1 x4_1).f0)) := hcc7 0 _ rfl; have hx7_1 : w19.cell? ⟨go7, (x4_1 : Int).toNat * 4 + 1, none⟩ = some (.int .i64 ((rd_T145 x3_1 x4_1).f1)) := hcc7 1 _ rfl; have hx7_2 : w19.cell? ⟨go7, (x4_1 : Int).toNat * 4 + 2, none⟩ = some (.int .i64 ((rd_T145 x3_1 x4_1).f2)) := hcc7 2 _ rfl; have hx7_3 : w19.cell? ⟨go7, (x4_1 : Int).toNat * 4 + 3, none⟩ = some (.int .i64 ((rd_T145 x3_1 x4_1).f3)) := hcc7 3 _ rfl; have hf7_0 : w19.frozen? ⟨go7, (x4_1 : Int).toNat * 4, none⟩ = false := hfr7 0; have hf7_1 : w19.frozen? ⟨go7, (x4_1 : Int).toNat * 4 + 1, none⟩ = false := hfr7 1; have hf7_2 : w19.frozen? ⟨go7, (x4_1 : Int).toNat * 4 + 2, none⟩ = false := hfr7 2; have hf7_3 : w19.frozen? ⟨go7, (x4_1 : Int).toNat * 4 + 3, none⟩ = false := hfr7 3; clear hcl7 hcc7 hfr7 hM7; replace p7 := eq_true p7; replace q7 := eq_true q7; have HX20 := A_ (show Kd.R k145 145 w19 w.heap.size (fun _ => True) (.slice (some ⟨go7, 0, none⟩) x3_1.length co18) x3_1 from (oR HO_3)); obtain ⟨ce20, hcl20, hM20, hcc20, hfr20⟩ := Kd.R_elem HX20.out z145 (x4_1 : Int) (of_decide_eq_true (by first | (with_reducible assumption) | assumption)) (by have h_ : (x4_1 : Int) < ((x3_1.length : Int) : Int) := of_decide_eq_true (by first | (with_reducible assumption) | assumption); first | exact h_ | (have e_ := (Kd.R_reads' HO_3.out).1; omega) | simpa using h_); obtain rfl := k145_openM hM20; have HP20 := Kd.R_seg HX20.out (x4_1 : Int) (of_decide_eq_true (by first | (with_reducible assumption) | assumption)) (by have h_ : (x4_1 : Int) < ((x3_1.length : Int) : Int) := of_decide_eq_true (by first | (with_reducible assumption) | assumption); first | exact h_ | (have e_ := (Kd.R_reads' HO_3.out).1; omega) | simpa using h_) (seg := [.int .i64 t367]) (j := 3) hcl20 hcc20 (show 4 ≤ 4 from by decide) (x' := (⟨(rd_T145 x3_1 x4_1).f0, (rd_T145 x3_1 x4_1).f1, (rd_T145 x3_1 x4_1).f2, t367⟩ : S145)) (k145_mkM _ _ _ (⟨(rd_T145 x3_1 x4_1).f0, (rd_T145 x3_1 x4_1).f1, (rd_T145 x3_1 x4_1).f2, t367⟩ : S145) ) (fun _ hk => hk); have hx20_3 := hcc20 3 _ rfl; (try simp only [show (k145).sz = 4 from rfl, Nat.mul_one, Nat.add_zero] at hx20_3); have hf20_3 := hfr20 3; (try simp only [show (k145).sz = 4 from rfl, Nat.mul_one, Nat.add_zero] at hf20_3); clear hcl20 hcc20 hfr20 hM20) | ((with_reducible refine gate_store (t := 3) (p := 17) rfl ?_); refine store_event (t := 3) (p := 17) (v := ?vo_w21) (w1 := (w19.setCell ⟨go7, (x4_1 : Int).toNat * 4 + 3, none⟩ (.int .i64 t367))) ?hg ?ho ?hn ?hr ?_; (case ho => rfl); (case hg => rfl); (case hn => rfl); (case hr => first | (go_simp; done) | (go_simp; rfl)); intro w21 hw; have hg : w19.grownBy w21 (some go7) := (by rw [hw]; exact HP20.2); have hp_ : Kd.R k145 145 w21 w.heap.size (fun _ => True) (.slice (some ⟨go7, 0, none⟩) x3_1.length co18) y370 := (by rw [hw, Ny370.out]; exact HP20.1); clear HP20; have n0_ := A_ (hp_); have n1_ := A_ (IsS105.grown (oI105 HI0) hg (IsS105.own_ne HI0.out HO_3.out (by decide))); have n2_ := A_ ((by rw [hw]; exact below_set (HB.out) (Nat.le_trans HL.out GB7.out) : Below w0.heap.size w0 w21)); have n3_ := A_ (KeepBut.trans (oKe HK) (KeepBut.of_grown hg g) (Kd.R_base2 HO_3.out)); clear HO_3; clear HI0; clear HB; clear HK; have HO_3 := n0_; have HI0 := n1_; have HB := n2_; have HK := n3_; clear n0_ n1_ n2_ n3_; clear hg hw hp_) | ((with_reducible refine gate_callee (f := 63) rfl ?_); refine gL (some 19) Tryd.func63 #[.pointer (some ⟨g, 0, none⟩), .int .i64 5] ?_; (with_reducible refine (spec_l01Once.calls g s0_0 t368 t369 5 false t372 t373 w0 _ ?side1 ?side2 A8.out).mono ?_); (case side1 => exact oI105 HI0); (case side2 => exact oB105 HB); rintro e w22 ⟨rfl, hi, hb, hk⟩; refine ⟨_, rfl, ?_⟩; have n0_ := A_ (Kd.R_mono (Kd.R_keep (IsS105.apart (show IsS105 w0 _ g s0_0 t368 t369 from oI105 HI0) (oR HO_3) (by decide)) hk (fun _ h => h.2)) (fun _ h => h.1)); have n1_ := A_ (KeepBut.trans (oKe HK) hk (.inl rfl)); have n2_ := A_ (hb); have n3_ := A_ (hi); clear HO_3; clear HK; clear HB; clear HI0; have HO_3 := n0_; have HK := n1_; have HB := n2_; have HI0 := n3_; clear n0_ n1_ n2_ n3_; (try clear hb); (try clear hb2); (try clear hk); (try clear hi)))
      go_roundg k1
      case measure => have := HK1.out; omega
      case rel => exact ⟨(y370), (wrap64 (x4_1 + 1)), (t372), (t373), (by first | rfl | (simp; done) | (simp [*]; done)), H', ⟨by have := HK1.out; omega⟩, ⟨oR HO_3⟩, ⟨oI105 HI0⟩, ⟨oKe HK⟩, ⟨oB105 HB⟩⟩
    ·rw [if_neg c6] at H
     exact absurd H (by simp)
   ·rw [if_neg c4] at H
    have c4b0 : decide (x4_1 < (x3_1.length : Int)) = false := decide_eq_false c4
    clear c4
    replace H := Option.bind_eq_some_iff.mp H
    obtain ⟨⟨t355, t356, t357⟩, A230, H⟩ := H
    (try dsimp only at H)
    have A23 := A_ A230
    clear A230
    obtain ⟨y358, hy358⟩ : ∃ y_ : List Int, y_ = (([11, 11, 11, t355] : List Int)) := ⟨_, rfl⟩
    replace H : ((spec_l01PickInt.f s0_0 t356 t357 y358).bind fun bt361 => (if 0 ≤ bt361.1 then (if bt361.1 ≤ (x3_1.length : Int) then (some ((x3_1.take (bt361.1 : Int).toNat), bt361.2.1, bt361.2.2)) else (none)) else (none))) = some (r1, r2, r3) := by first | (rw [hy358]; with_reducible exact H) | (have H2_ := (Option.bind_some _ _).symm.trans H; rw [hy358]; with_reducible exact H2_) | (have H2_ := (Option.bind_some _ _).symm.trans H; with_reducible exact H2_) | with_reducible exact H | (rw [hy358]; exact H) | exact H
    have Ny358 := A_ hy358
    clear hy358
    replace H := Option.bind_eq_some_iff.mp H
    obtain ⟨⟨t361, t362, t363⟩, A240, H⟩ := H
    (try dsimp only at H)
    have A24 := A_ A240
    clear A240
    by_cases c25 : 0 ≤ t361
    ·rw [if_pos c25] at H
     have c25b0 := eq_true c25
     have c25b1 : decide (0 ≤ t361) = true := decide_eq_true c25
     clear c25
     by_cases c26 : t361 ≤ (x3_1.length : Int)
     ·rw [if_pos c26] at H
      have c26b0 := eq_true c26
      have c26b1 : decide (t361 ≤ (x3_1.length : Int)) = true := decide_eq_true c26
      clear c26
      obtain ⟨y364, hy364⟩ : ∃ y_ : List (S145), y_ = (x3_1.take (t361 : Int).toNat) := ⟨_, rfl⟩
      replace H : (some (y364, t362, t363)) = some (r1, r2, r3) := by first | (rw [hy364]; with_reducible exact H) | (have H2_ := (Option.bind_some _ _).symm.trans H; rw [hy364]; with_reducible exact H2_) | (have H2_ := (Option.bind_some _ _).symm.trans H; with_reducible exact H2_) | with_reducible exact H | (rw [hy364]; exact H) | exact H
      have Ny364 := A_ hy364
      clear hy364
      simp only [Option.some.injEq, Prod.mk.injEq] at H
      obtain ⟨rfl, rfl, rfl⟩ := H
      obtain ⟨Ao27, co27, eo27⟩ := Kd.R_slice HO_3.out
      subst eo27
      go_wp2_with (first | ((with_reducible refine gate_callee (f := 66) rfl ?_); refine gL (some 27) Tryd.func66 #[.pointer (some ⟨g, 0, none⟩), .int .i64 12] ?_; (with_reducible refine (spec_l01Below.calls g s0_0 x1001_1 x1002_1 12 t355 t356 t357 w0 _ ?side1 ?side2 A23.out).mono ?_); (case side1 => exact oI105 HI0); (case side2 => exact oB105 HB); rintro e w28 ⟨rfl, hi, hb, hk⟩; refine ⟨_, rfl, ?_⟩; have n0_ := A_ (Kd.R_mono (Kd.R_keep (IsS105.apart (show IsS105 w0 _ g s0_0 x1001_1 x1002_1 from oI105 HI0) (oR HO_3) (by decide)) hk (fun _ h => h.2)) (fun _ h => h.1)); have n1_ := A_ (KeepBut.trans (oKe HK) hk (.inl rfl)); have n2_ := A_ (hb); have n3_ := A_ (hi); clear HO_3; clear HK; clear HB; clear HI0; have HO_3 := n0_; have HK := n1_; have HB := n2_; have HI0 := n3_; clear n0_ n1_ n2_ n3_; (try clear hb); (try clear hb2); (try clear hk); (try clear hi)) | ((with_reducible refine gate_dst (N := 28) rfl ?_); refine Kd.R_lit (Kd.int .i64) _ 3 ?hg (N := 28) ?hd (xs := ([11, 11, 11, t355] : List Int)) (inner := [.int .i64 11, .int .i64 11, .int .i64 11, .int .i64 t355]) (ok := fun _ => True) (okp := fun _ => True) ?hr ?hp (fun _ hk => hk) trivial (Below.refl _ _) (Nat.le_refl _) (by simp) ?_; (case hd => rfl); (case hg => rfl); (case hr => first | (go_simp; done) | (go_simp; rfl)); (case hp => exact (Reps.one (show Kd.M (Kd.int .i64) _ _ _ 11 [.int .i64 11] from rfl) (Reps.one (show Kd.M (Kd.int .i64) _ _ _ 11 [.int .i64 11] from rfl) (Reps.one (show Kd.M (Kd.int .i64) _ _ _ 11 [.int .i64 11] from rfl) (Reps.one (show Kd.M (Kd.int .i64) _ _ _ t355 [.int .i64 t355] from rfl) (Reps.none _ _)))))); intro v359 w29 ho30 hb hg_ hnew_; clear hg_ hnew_; (first | rw [← Ny358.out] at ho30 | (simp only [Int.reduceToNat] at ho30; rw [← Ny358.out] at ho30)); have n0_ := A_ (Kd.R_below (oR HO_3) hb); have n1_ := A_ (Kd.R_lower ho30 (keep_size (w := w) (g := g) (row := none) (by repeat (first | (with_reducible first | exact HK.out | apply KeepBut.set_ | apply keep_drewN | apply keep_drew | apply keep_alloc) | exact HK.out)))); have n2_ := A_ (IsS105.below (oI105 HI0) hb); have n3_ := A_ (KeepBut.trans (oKe HK) (KeepBut.of_below hb g none) (.inl rfl)); have n4_ := A_ (below_step (oB105 HB) hb); clear HO_3; clear HI0; clear HK; clear HB; have HO_3 := n0_; have HO360 := n1_; have HI0 := n2_; have HK := n3_; have HB := n4_; clear n0_ n1_ n2_ n3_ n4_; clear hb ho30; obtain ⟨Ao31, co31, eo31⟩ := Kd.R_slice HO360.out; subst eo31) | ((with_reducible refine gate_callee (f := 98) rfl ?_); refine gL (some 29) Tryd.func98 #[.pointer (some ⟨g, 0, none⟩), .slice Ao31 y358.length co31] ?_; (with_reducible refine (spec_l01PickInt.calls g s0_0 t356 t357 _ _ y358 t361 t362 t363 w0 _ ?side1 ?side2 ?side3 ?side4 ?side5 A24.out).mono ?_); (case side1 => exact oI105 HI0); (case side2 => exact oB105 HB); (case side3 => repeat (first | exact (Kd.R_reads' HO360.out).2.2 | (with_reducible refine Kd.C_alloc ?_ _) | (with_reducible refine Kd.C_drewN ?_ _) | (with_reducible refine Kd.C_drew ?_))); (case side4 => exact (Kd.R_reads' HO360.out).2.1); (case side5 => exact far_slice (IsS105.own_ne HI0.out HO360.out (by decide))); rintro e w32 ⟨rfl, hi, hb, hk⟩; refine ⟨_, rfl, ?_⟩; have n0_ := A_ (Kd.R_mono (Kd.R_keep (IsS105.apart (show IsS105 w0 _ g s0_0 t356 t357 from oI105 HI0) (oR HO_3) (by decide)) hk (fun _ h => h.2)) (fun _ h => h.1)); have n1_ := A_ (Kd.R_mono (Kd.R_keep (IsS105.apart (show IsS105 w0 _ g s0_0 t356 t357 from oI105 HI0) (oR HO360) (by decide)) hk (fun _ h => h.2)) (fun _ h => h.1)); have n2_ := A_ (KeepBut.trans (oKe HK) hk (.inl rfl)); have n3_ := A_ (hb); have n4_ := A_ (hi); clear HO_3; clear HO360; clear HK; clear HB; clear HI0; have HO_3 := n0_; have HO360 := n1_; have HK := n2_; have HB := n3_; have HI0 := n4_; clear n0_ n1_ n2_ n3_ n4_; (try clear hb); (try clear hb2); (try clear hk); (try clear hi); have q33 : (t361 : Int) ≤ ((x3_1.length : Int) : Int) := of_decide_eq_true (by first | (with_reducible assumption) | assumption); obtain ⟨i033, hi033, _, hsz33, _⟩ := info_parts info145; have hcut33 := cut_to (P := Tryd.prog) 38 145 .i64 Tryd.underlying38 hi033 Ao27 x3_1.length co27 t361 (of_decide_eq_true (by first | (with_reducible assumption) | assumption)) q33 (Kd.R_reads' HO_3.out).2.1; have hr33 := Kd.R_take (m := (t361 : Int).toNat) HO_3.out (by omega); have hy33 : y364.length = (t361 : Int).toNat := (by rw [Ny364.out, List.length_take]; omega); rw [← Ny364.out] at hr33; rw [← hy33] at hr33 hcut33; clear hy33 hi033 hsz33 HO_3; have HO366 := A_ hr33; clear hr33; replace q33 := eq_true q33))
      go_ret
      exact ⟨_, eR, oR HO366, oI105 HI0, oB105 HB, oKe HK⟩
     ·rw [if_neg c26] at H
      exact absurd H (by simp)
    ·rw [if_neg c25] at H
     exact absurd H (by simp)
end Go.Proofs.YtojiighpkppckaaDoor.P


namespace Go.Proofs.YtojiighpkppckaaDoor.Q
set_option linter.unusedVariables false
set_option linter.unusedSimpArgs false
open Go.RowKit Go.Proofs.YtojiighpkppckaaDoor.P
def entOk (e : S85) : Bool := decide (0 ≤ e.f0.f0 ∧ e.f0.f0 ≤ 3) && (decide (0 ≤ e.f0.f1 ∧ e.f0.f1 ≤ 39) && (decide (0 ≤ e.f1 ∧ e.f1 ≤ 2) && decide (0 ≤ e.f2 ∧ e.f2 ≤ 100000)))
def logGo : Int → List S85 → Bool
  | _, [] => true
  | p, e :: r => entOk e && (decide (p ≤ e.f2) && logGo e.f2 r)
def logOk (l : List S85) : Bool := logGo 0 l && decide (l.length ≤ 30)
def prevM (l : List S85) (i : Nat) : Int := if i = 0 then 0 else (l.getD (i - 1) z85).f2
theorem prevM_succ (l : List S85) (i : Nat) (h : i < l.length) : prevM l (i + 1) = l[i].f2 := by simp [prevM, List.getD_eq_getElem?_getD, h]
theorem prevM_pos (l : List S85) (i : Nat) (h0 : 0 < i) (h : i < l.length) : prevM l i = l[i - 1].f2 := by
  simp [prevM, List.getD_eq_getElem?_getD, show i ≠ 0 by omega, show i - 1 < l.length by omega]
theorem logGo_at (l : List S85) (i : Nat) (h : i < l.length) : logGo (prevM l i) (l.drop i) = (entOk l[i] && (decide (prevM l i ≤ l[i].f2) && logGo (prevM l (i + 1)) (l.drop (i + 1)))) := by
  rw [List.drop_eq_getElem_cons h, prevM_succ l i h]; rfl
end Go.Proofs.YtojiighpkppckaaDoor.Q


namespace Go.Proofs.YtojiighpkppckaaDoor.P
open Go.RowKit Go.Proofs.YtojiighpkppckaaDoorW.PrintWords Go.Proofs.YtojiighpkppckaaDoorW.PrintLast Go.Proofs.YtojiighpkppckaaDoorW.PrintMore
attribute [local go_sem] max2_int min2_int max_two min_two max_three min_three max_four min_four
set_option linter.unusedVariables false
set_option linter.unusedSimpArgs false
def impl_within.f (a0 : Int) (a1 : Int) (a2 : Int) : Option (Bool) := if a1 ≤ a0 then (some (decide (a0 ≤ a2))) else (some false)
set_option maxHeartbeats 8000000 in
set_option maxRecDepth 100000 in
theorem impl_within.calls (a0 : Int) (a1 : Int) (a2 : Int) (r : Bool) (w : World) (h : impl_within.f a0 a1 a2 = some r) :
  Calls Tryd.prog 61 #[.int .i64 a0, .int .i64 a1, .int .i64 a2] w fun e w' => e = .returned (.bool r) ∧ Drawn0 w w' := by
 have H : (if a1 ≤ a0 then (some (decide (a0 ≤ a2))) else (some false)) = some r := h
 clear h
 by_cases c4 : a1 ≤ a0
 ·rw [if_pos c4] at H
  have c4b0 : decide (a1 ≤ a0) = true := decide_eq_true c4
  clear c4
  obtain rfl := Option.some.inj H
  go_enter Tryd.func61, Tryd.ntmps61
  go_wp2
  go_ret
  exact ⟨by first | rfl | (simp; done) | (simp [*]; done), by repeat (first | exact Drawn0.refl _ | apply Drawn0.step)⟩
 ·rw [if_neg c4] at H
  have c4b0 : decide (a1 ≤ a0) = false := decide_eq_false c4
  clear c4
  obtain rfl := Option.some.inj H
  go_enter Tryd.func61, Tryd.ntmps61
  go_wp2
  go_ret
  exact ⟨by first | rfl | (simp; done) | (simp [*]; done), by repeat (first | exact Drawn0.refl _ | apply Drawn0.step)⟩
end Go.Proofs.YtojiighpkppckaaDoor.P


namespace Go.Proofs.YtojiighpkppckaaDoor.P
open Go.RowKit Go.Proofs.YtojiighpkppckaaDoorW.PrintWords Go.Proofs.YtojiighpkppckaaDoorW.PrintLast Go.Proofs.YtojiighpkppckaaDoorW.PrintMore
attribute [local go_sem] max2_int min2_int max_two min_two max_three min_three max_four min_four
set_option linter.unusedVariables false
set_option linter.unusedSimpArgs false
def stepOk (x : S145) (t : List Bool) : Bool :=
  (decide (x.f2 = 1) || decide (x.f2 = 2)) && (decide (0 ≤ x.f3 ∧ x.f3 ≤ 5000) && (decide (0 ≤ x.f0 ∧ x.f0 ≤ 11) && (decide (0 ≤ x.f1 ∧ x.f1 ≤ 11) && (decide (x.f1 = (x.f0 + 1) % 12) && (t.getD x.f0.toNat false && !t.getD x.f1.toNat false)))))
def planGo : List S145 → List Bool → Bool
  | [], _ => true
  | x :: r, t => stepOk x t && planGo r (t.set x.f1.toNat true)
def tuned0 : List Bool := true :: List.replicate 11 false
def planOk (l : List S145) : Bool := decide (l.length ≤ 11) && planGo l tuned0
def impl_PlanOk.f (l0 : List (S145)) : Option (Bool) := some (planOk l0)
set_option maxHeartbeats 8000000 in
set_option maxRecDepth 100000 in
theorem impl_PlanOk.calls (A0 : Option Addr) (c0 : Nat) (l0 : List (S145)) (r : Bool) (w : World) (hr0 : Kd.C k145 w A0 l0.length l0) (hc0 : l0.length ≤ c0) (h : impl_PlanOk.f l0 = some r) :
    Calls Tryd.prog 99 #[.slice A0 l0.length c0] w fun e w' => e = .returned (.bool r) ∧ Below w.heap.size w w' := by
  have H := Option.some.inj h
  clear h
  by_cases h11 : l0.length ≤ 11
  rotate_left
  · have hb : decide (11 < (l0.length : Int)) = true := decide_eq_true (by omega)
    have hb2 : decide (11 < l0.length) = true := decide_eq_true (by omega)
    obtain rfl : false = r := by rw [← H]; simp [planOk, h11]
    go_enter Tryd.func99, Tryd.ntmps99
    go_wp2
    go_ret
    exact ⟨rfl, Below.refl _ _⟩
  · have hb : decide (11 < (l0.length : Int)) = false := decide_eq_false (by omega)
    have hb2 : decide (11 < l0.length) = false := decide_eq_false (by omega)
    go_enter Tryd.func99, Tryd.ntmps99
    go_wp2
    go_loopg [12] (l0.length + 1) (fun kq v12 w' => ∃ (i : Nat) (tn : List Bool), v12 = .int .i64 (i : Int) ∧ Aside0 (i + kq = l0.length + 1) ∧ Aside0 (i ≤ l0.length) ∧ Aside0 (tn.length = 12) ∧ Aside0 (w'.heap[w.heap.size]? = some (.cells (tn.map Value.bool).toArray 143 (0, 0))) ∧ Aside0 (planGo (l0.drop i) tn = r) ∧ Aside0 (Below w.heap.size w w'))
    case atStart =>
      exact ⟨0, tuned0, rfl, ⟨by omega⟩, ⟨by omega⟩, ⟨rfl⟩, ⟨by rw [heap_alloc_new]; rfl⟩, ⟨by rw [← H]; simp [planOk, h11]⟩, ⟨below_alloc (Below.refl _ _) _⟩⟩
    case round =>
      obtain ⟨i, tn, rfl, HK, HI, HT, HA, HP, HB⟩ := hrel
      by_cases hlt : i < l0.length
      rotate_left
      · have hb3 : decide ((i : Int) < (l0.length : Int)) = false := decide_eq_false (by omega)
        have hb4 : decide (i < l0.length) = false := decide_eq_false (by omega)
        obtain rfl : true = r := by
          have h1 := HP.out
          rw [List.drop_eq_nil_of_le (by omega)] at h1
          exact h1
        go_wp2
        go_ret
        exact ⟨rfl, HB.out⟩
      · have hb3 : decide ((i : Int) < (l0.length : Int)) = true := decide_eq_true (by omega)
        have hb4 : decide (i < l0.length) = true := decide_eq_true (by omega)
        obtain ⟨ad, e, hx0, hx1, hx2, hx3⟩ := at_T145 hr0 (i : Int) (by omega) (by omega)
        cases e
        replace hx0 := (HB.out.cell (World.block_lt_of_cell? w _ hx0)).trans hx0
        replace hx1 := (HB.out.cell (World.block_lt_of_cell? w _ hx1)).trans hx1
        replace hx2 := (HB.out.cell (World.block_lt_of_cell? w _ hx2)).trans hx2
        replace hx3 := (HB.out.cell (World.block_lt_of_cell? w _ hx3)).trans hx3
        obtain ⟨x, hx⟩ : ∃ x, rd_T145 l0 (i : Int) = x := ⟨_, rfl⟩
        rw [hx] at hx0 hx1 hx2 hx3
        simp only [Int.toNat_natCast] at hx0 hx1 hx2 hx3
        have hd : planGo (l0.drop i) tn = (stepOk x tn && planGo (l0.drop (i + 1)) (tn.set x.f1.toNat true)) := by
          rw [List.drop_eq_getElem_cons hlt]
          have e0 : l0[i] = x := by rw [← hx]; simp [rd_T145, List.getD_eq_getElem?_getD, hlt]
          rw [e0]; rfl
        have HX := A_ hx
        clear hx
        have HD := A_ hd
        clear hd
        have win : ∀ (a b c : Int) (d : Bool) (W : World), decide (b ≤ a ∧ a ≤ c) = d → Calls Tryd.prog 61 #[.int .i64 a, .int .i64 b, .int .i64 c] W fun e w' => e = .returned (.bool d) ∧ Drawn0 W w' := fun a b c d W hd =>
          impl_within.calls a b c d W (by rw [← hd]; unfold impl_within.f; by_cases hh : b ≤ a <;> simp [hh])
        have tc : ∀ k, k < 12 → ∀ o : Obj, (wr.alloc o).cell? ⟨w.heap.size, k, none⟩ = some (.bool (tn.getD k false)) := fun k hk o => (blk_cell (blk_alloc HA.out o) k).trans (by have := HT.out; simp [List.getD_eq_getElem?_getD, show k < tn.length by omega])
        by_cases q1 : 0 ≤ x.f3 ∧ x.f3 ≤ 5000
        rotate_left
        · have W1 := A_ fun W => win x.f3 0 5000 false W (decide_eq_false q1)
          have Q1 := A_ q1
          clear q1 win tc
          go_wp2_with (first | (go_at_call 61; (with_reducible refine (W1.out _).mono ?_); rintro e w' ⟨rfl, ⟨nd, rfl⟩⟩))
          all_goals
            obtain rfl : false = r := by
              rw [← HP.out, HD.out]; simp [stepOk, Q1.out]
            go_ret
            exact ⟨rfl, by repeat (first | exact HB.out | apply below_alloc | apply pw_below_drewN | apply below_drew1)⟩
        have W1 := A_ fun W => win x.f3 0 5000 true W (decide_eq_true q1)
        by_cases q2 : 0 ≤ x.f0 ∧ x.f0 ≤ 11
        rotate_left
        · have W2 := A_ fun W => win x.f0 0 11 false W (decide_eq_false q2)
          have Q1 := A_ q2
          clear q1 q2 win tc
          go_wp2_with (first | (go_at_call 61; (with_reducible refine (W1.out _).mono ?_); rintro e w' ⟨rfl, ⟨nd, rfl⟩⟩) | (go_at_call 61; (with_reducible refine (W2.out _).mono ?_); rintro e w' ⟨rfl, ⟨nd, rfl⟩⟩))
          all_goals
            obtain rfl : false = r := by
              rw [← HP.out, HD.out]; simp [stepOk, Q1.out]
            go_ret
            exact ⟨rfl, by repeat (first | exact HB.out | apply below_alloc | apply pw_below_drewN | apply below_drew1)⟩
        have W2 := A_ fun W => win x.f0 0 11 true W (decide_eq_true q2)
        by_cases q3 : 0 ≤ x.f1 ∧ x.f1 ≤ 11
        rotate_left
        · have W3 := A_ fun W => win x.f1 0 11 false W (decide_eq_false q3)
          have Q1 := A_ q3
          clear q1 q2 q3 win tc
          go_wp2_with (first | (go_at_call 61; (with_reducible refine (W1.out _).mono ?_); rintro e w' ⟨rfl, ⟨nd, rfl⟩⟩) | (go_at_call 61; (with_reducible refine (W2.out _).mono ?_); rintro e w' ⟨rfl, ⟨nd, rfl⟩⟩) | (go_at_call 61; (with_reducible refine (W3.out _).mono ?_); rintro e w' ⟨rfl, ⟨nd, rfl⟩⟩))
          all_goals
            obtain rfl : false = r := by
              rw [← HP.out, HD.out]; simp [stepOk, Q1.out]
            go_ret
            exact ⟨rfl, by repeat (first | exact HB.out | apply below_alloc | apply pw_below_drewN | apply below_drew1)⟩
        have W3 := A_ fun W => win x.f1 0 11 true W (decide_eq_true q3)
        clear win
        obtain ⟨q2a, q2b⟩ := q2
        obtain ⟨q3a, q3b⟩ := q3
        have Q13 := A_ q1
        clear q1
        have hc0 := tc x.f0.toNat (by omega)
        have hc1 := tc x.f1.toNat (by omega)
        have hfz := fun o : Obj => blk_frozen (blk_alloc HA.out o) x.f1.toNat
        clear tc
        by_cases q4 : x.f1 = (x.f0 + 1) % 12
        rotate_left
        · have q4a : (x.f1 == (x.f0 + 1) % 12) = false := beq_eq_false_iff_ne.mpr q4
          have q4b : (x.f1 != (x.f0 + 1) % 12) = true := bne_iff_ne.mpr q4
          have Q4 := A_ q4
          clear q4 hc0 hc1 hfz
          go_wp2_with (first | (go_at_call 61; (with_reducible refine (W1.out _).mono ?_); rintro e w' ⟨rfl, ⟨nd, rfl⟩⟩) | (go_at_call 61; (with_reducible refine (W2.out _).mono ?_); rintro e w' ⟨rfl, ⟨nd, rfl⟩⟩) | (go_at_call 61; (with_reducible refine (W3.out _).mono ?_); rintro e w' ⟨rfl, ⟨nd, rfl⟩⟩))
          all_goals
            obtain rfl : false = r := by
              rw [← HP.out, HD.out]; simp [stepOk, Q4.out]
            go_ret
            exact ⟨rfl, by repeat (first | exact HB.out | apply below_alloc | apply pw_below_drewN | apply below_drew1)⟩
        have q4a : (x.f1 == (x.f0 + 1) % 12) = true := beq_iff_eq.mpr q4
        have q4b : (x.f1 != (x.f0 + 1) % 12) = false := bne_eq_false_iff_eq.mpr q4
        have Q4 := A_ q4
        clear q4
        obtain ⟨b0, hb0⟩ : ∃ b, tn.getD x.f0.toNat false = b := ⟨_, rfl⟩
        obtain ⟨b1, hb1⟩ : ∃ b, tn.getD x.f1.toNat false = b := ⟨_, rfl⟩
        rw [hb0] at hc0
        rw [hb1] at hc1
        have B0 := A_ hb0
        have B1 := A_ hb1
        clear hb0 hb1
        go_wp2_with (first | (go_at_call 61; (with_reducible refine (W1.out _).mono ?_); rintro e w' ⟨rfl, ⟨nd, rfl⟩⟩) | (go_at_call 61; (with_reducible refine (W2.out _).mono ?_); rintro e w' ⟨rfl, ⟨nd, rfl⟩⟩) | (go_at_call 61; (with_reducible refine (W3.out _).mono ?_); rintro e w' ⟨rfl, ⟨nd, rfl⟩⟩))
        all_goals first
          | (go_ret
             have e : false = r := by
               have h3 := B0.out; have h4 := B1.out
               rw [← HP.out, HD.out]; unfold stepOk; rw [h3, h4]; simp [*]
             subst e
             exact ⟨rfl, by repeat (first | exact HB.out | apply below_alloc | apply pw_below_drewN | apply below_drew1)⟩)
          | (go_roundg (gk - 1)
             case measure => have := HK.out; omega
             case rel =>
               refine ⟨i + 1, tn.set x.f1.toNat true, by go_num, ⟨by have := HK.out; omega⟩, ⟨by omega⟩, ⟨by rw [List.length_set]; exact HT.out⟩, ⟨?_⟩, ⟨?_⟩, ⟨?_⟩⟩
               · refine blk_put (cs := (tn.map Value.bool).toArray) ?_ x.f1.toNat (.bool true) ?_
                 · repeat (first | exact HA.out | refine blk_drewN ?_ _ | refine blk_drew ?_ | refine blk_alloc ?_ _)
                 · simp [List.map_set]
               · rw [← HP.out, HD.out]
                 have e : stepOk x tn = true := by
                   have h1 := Q4.out; have h2 := Q13.out; have h3 := B0.out; have h4 := B1.out
                   unfold stepOk; rw [h3, h4]; simp [*]; omega
                 rw [e, Bool.true_and]
               · refine below_set ?_ (Nat.le_refl _)
                 repeat (first | exact HB.out | apply below_alloc | apply pw_below_drewN | apply below_drew1))
end Go.Proofs.YtojiighpkppckaaDoor.P


namespace Go.Proofs.YtojiighpkppckaaDoor.P
open Go.RowKit Go.Proofs.YtojiighpkppckaaDoorW.PrintWords Go.Proofs.YtojiighpkppckaaDoorW.PrintLast Go.Proofs.YtojiighpkppckaaDoorW.PrintMore
attribute [local go_sem] max2_int min2_int max_two min_two max_three min_three max_four min_four
set_option linter.unusedVariables false
set_option linter.unusedSimpArgs false
def impl_isFine.f (a0 : Int) : Option (Bool) := (impl_within.f a0 1 10000000).bind fun t845 => (some t845)
set_option maxHeartbeats 8000000 in
set_option maxRecDepth 100000 in
theorem impl_isFine.calls (a0 : Int) (r : Bool) (w : World) (h : impl_isFine.f a0 = some r) :
  Calls Tryd.prog 100 #[.int .i64 a0] w fun e w' => e = .returned (.bool r) ∧ Drawn0 w w' := by
 have H : ((impl_within.f a0 1 10000000).bind fun t845 => (some t845)) = some r := h
 clear h
 replace H := Option.bind_eq_some_iff.mp H
 obtain ⟨t845, A20, H⟩ := H
 (try dsimp only at H)
 have A2 := A_ A20
 clear A20
 obtain rfl := Option.some.inj H
 go_enter Tryd.func100, Tryd.ntmps100
 go_wp2_with (first | ((with_reducible refine gate_callee (f := 61) rfl ?_); refine gL (some 4) Tryd.func61 #[.int .i64 a0, .int .i64 1, .int .i64 10000000] ?_; (with_reducible refine (impl_within.calls a0 1 10000000 t845 _ A2.out).mono ?_); rintro e w' ⟨rfl, ⟨nd, rfl⟩⟩; refine ⟨_, rfl, ?_⟩))
 go_ret
 exact ⟨by first | rfl | (simp; done) | (simp [*]; done), by repeat (first | exact Drawn0.refl _ | apply Drawn0.step)⟩
end Go.Proofs.YtojiighpkppckaaDoor.P

