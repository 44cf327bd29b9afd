/- What functions of the program come to (f), that their calls come to just this (calls), and the plain laws over lists and numbers. No condition but those of the given row. -/
import Derived.Test.YtnknnbpodpfljaaC1
import Derived.Deep.QuietTactic
import Derived.RangeFuncBox
import Derived.Deep.RegionHeld3
import Derived.Shelf.GgSortFunc.Insertion
import Derived.Sort.WalkA6
import Derived.Sort.WalkC
import Derived.Sort.LotC
import Derived.Shelf.SlSortFuncK.PdqK
namespace Go.Proofs.Ytnknnbpodpfljaa.P
open Go.RowKit Go.Proofs.YtnknnbpodpfljaaW.PrintWords Go.Proofs.YtnknnbpodpfljaaW.PrintLast Go.Proofs.YtnknnbpodpfljaaW.PrintMore Go.Proofs.Ytnknnbpodpfljaa.V
open Go.Maps (Keyed)
set_option linter.unusedVariables false
set_option linter.unusedSimpArgs false
abbrev boolR (v : Value) : Option (DataW Unit × List MemPlace) :=
  match v with
  | .bool b => some (.lit (.bool b), [])
  | _ => none
structure MapB (D : DataW Unit) (m : S31 → Bool) : Prop where
  isMap : Maps.IsMap D
  at_ : ∀ p : S31, wf64 p.f0 → wf64 p.f1 → ∀ z, D.atKey (pipeL p.f0 p.f1) z = if m p = true then .lit (.bool true) else z
theorem mapB_empty : MapB (.map []) (fun _ => false) := ⟨Maps.isMap_empty, fun _ _ _ _ => rfl⟩
theorem MapB.put {D : DataW Unit} {m : S31 → Bool} (h : MapB D m) (p : S31) (ha : wf64 p.f0) (hb : wf64 p.f1) :
    MapB (D.put (pipeL p.f0 p.f1) (.lit (.bool true))) (fun q => decide (q = p) || m q) := by
  refine ⟨h.isMap.put _ _, fun q hq0 hq1 z => ?_⟩
  by_cases e : q = p
  · subst e
    rw [Maps.atKey_put_same h.isMap (pipeKeyed.key (keyOf_pipe ha hb))]
    simp
  · have hne : pipeL q.f0 q.f1 ≠ pipeL p.f0 p.f1 := fun hh => e (by
      have := pipeL_inj hq0 hq1 ha hb hh
      exact pipe_ext this.1 this.2)
    rw [Maps.atKey_put_other hne, h.at_ q hq0 hq1]
    simp [e]
theorem zero_bool (w : World) : (zeroValue 4).run Try.prog w = .ok (.bool false) w := by kernel_rfl
theorem lookup_seen {w : World} {b n : Nat} {D : DataW Unit} {m : S31 → Bool} (h : w.ownsMap Try.prog 31 boolR b n D) (hD : MapB D m) (p : S31) (h0 : wf64 p.f0) (h1 : wf64 p.f1) :
    (Instr.lookup 74 (.map (some b)) (.agg #[.int .i64 p.f0, .int .i64 p.f1]) false).run Try.prog w = .ok (.bool (m p)) w := by
  obtain ⟨v, ps, hrun, hv⟩ := h.lookup pipeKeyed Try.underlying74 (zero_bool w) (show boolR (.bool false) = some (.lit (.bool false), []) from rfl) (keyOf_pipe h0 h1)
  rw [hD.at_ p h0 h1] at hv
  have hx : v = .bool (m p) := by
    cases v <;> simp [boolR] at hv
    rename_i b9
    obtain ⟨hv, _⟩ := hv
    cases hm : m p
    · rw [hm] at hv; simp at hv; rw [hv]
    · rw [hm] at hv; simp at hv; rw [hv]
  rw [hx] at hrun
  exact hrun
def enc2 (x : S31) : List Value := [.int .i64 x.f0, .int .i64 x.f1]
instance : Inhabited S31 := ⟨z31⟩
theorem plain2 : Plain k31 enc2 where
  len := fun _ => rfl
  pos := by decide
  of := fun {w base ok x cs} h => by
    obtain ⟨c0, c1, rfl, h0, h1⟩ := h
    rw [h0, h1]
    rfl
  make := fun w base ok x => k31_mkM w base ok x
set_option maxHeartbeats 4000000 in
set_option maxRecDepth 100000 in
theorem lessP_calls (blk off c Bs size : Nat) (W : World) (G : Nat → S31) (hs : W.cell? ⟨Bs, 0, none⟩ = some (.slice (some ⟨blk, off, none⟩) size c))
    (hc0 : ∀ t, t < size → W.cell? ⟨blk, off + t * 2, none⟩ = some (.int .i64 (G t).f0)) (hc1 : ∀ t, t < size → W.cell? ⟨blk, off + t * 2 + 1, none⟩ = some (.int .i64 (G t).f1)) (i j : Nat) (hi : i < size) (hj : j < size) (_hsz : size < 4611686018427387904) :
    Calls Try.prog 59 #[.int .i64 i, .int .i64 j, .pointer (some ⟨Bs, 0, none⟩)] W fun e w' => e = .returned (.bool (beforeP (G i) (G j))) ∧ ∃ q, w' = W.drewN q := by
  have ci := hc0 i hi
  have cj := hc0 j hj
  have di := hc1 i hi
  have dj := hc1 j hj
  obtain ⟨r, hr⟩ : ∃ r, beforeP (G i) (G j) = r := ⟨_, rfl⟩
  rw [hr]
  generalize G i = x at *
  generalize G j = y at *
  unfold beforeP at hr
  have hu := Try.underlying31
  clear hc0 hc1
  by_cases h1 : x.f0 = y.f0
  · rw [if_pos h1] at hr
    have h2 : decide (x.f0 < y.f0) = false := decide_eq_false (by omega)
    have h3 : (x.f0 == y.f0) = true := beq_iff_eq.mpr h1
    clear h1
    go_enter Try.func59, Try.ntmps59
    go_wp2
    go_quiet (fail)
    go_wp2
    go_ret
    exact ⟨rfl, nq, rfl⟩
  · rw [if_neg h1] at hr
    have h3 : (x.f0 == y.f0) = false := beq_eq_false_iff_ne.mpr h1
    clear h1
    cases r
    · go_enter Try.func59, Try.ntmps59
      go_wp2
      go_quiet (fail)
      go_wp2
      go_ret
      exact ⟨rfl, nq, rfl⟩
    · go_enter Try.func59, Try.ntmps59
      go_wp2
      go_quiet (fail)
      go_wp2
      go_ret
      exact ⟨rfl, nq, rfl⟩
noncomputable def svT2 : TypeInfo := (Try.prog.info? 25).get (by kernel_rfl)
noncomputable def svE2 : TypeInfo := (Try.prog.info? 31).get (by kernel_rfl)
theorem svK2 (n : Nat) (h2 : 2 ≤ n) : Lib.swapperK n svE2 25 = 9 := by
  have a : svE2.hasPointers = false := by kernel_rfl
  have b : svE2.bytes = 16 := by kernel_rfl
  have c : (n == 0) = false := by simp; omega
  have d : (n == 1) = false := by simp; omega
  simp [Lib.swapperK, a, b, c, d]
open Go.Sort Go.Lib in
theorem sort_pipes (w : World) (g cap bs base : Nat) (ok : Nat → Prop) (xs : List S31) (hR : k31.R 31 w base ok (.slice (some ⟨g, 0, none⟩) xs.length cap) xs) (hB : w.heap[bs]? = some (.cells #[.slice (some ⟨g, 0, none⟩) xs.length cap] 25 (0, 0)))
    (hne : bs ≠ g) (h2 : 2 ≤ xs.length) (hlt : xs.length < 1000000) :
    Calls Try.prog 48 #[.iface 25 (.slice (some ⟨g, 0, none⟩) xs.length cap), .func (.func 59) #[] #[.pointer (some ⟨bs, 0, none⟩)]] w fun e w' => e = .returned (.tuple #[]) ∧
      ∃ D : Array S31, PermIn 0 xs.length xs.toArray D ∧ SortedIn beforeP 0 xs.length D ∧ k31.R 31 w' base ok (.slice (some ⟨g, 0, none⟩) xs.length cap) D.toList ∧ w.grownBy w' (some g) := by
  have hH := holds_of_R plain2 hR
  have hblk : g < w.heap.size := by
    obtain ⟨_, inner, ho, _⟩ := hR
    rcases ho.2 with ⟨hn', _⟩ | ⟨g', cap', cur0, hv, hg, hh, _⟩
    · simp at hn'
    obtain ⟨e1, e2⟩ : g = g' ∧ cap = cap' := by simpa using hv
    subst e1 e2
    exact blk_lt hh
  have hless : LessReadsK Try.prog 59 #[.pointer (some ⟨bs, 0, none⟩)] enc2 2 beforeP g 0 xs.toArray.size w := by
    intro m os dk hs i j hi hj
    have e : sortWorldK enc2 2 w g 0 m dk os = putRowK enc2 2 (grow (Sort.ahead w m) os) g 0 dk := by
      unfold sortWorldK; rw [putRowK_grow _ _ (Sort.ahead w m) _ g 0 _ hblk]
    have hHg : HoldsK enc2 2 (grow (Sort.ahead w m) os) g 0 xs.toArray := holdsK_grow _ _ _ _ g 0 _ hblk (holdsK_ahead _ _ _ _ _ _ _ hH)
    have hd := holdsK_putRowK enc2 2 _ g 0 xs.toArray dk hHg hs
    refine lessP_calls g 0 cap bs xs.toArray.size _ (fun t => dk[t]!) ?_ (fun t ht => ?_) (fun t ht => ?_) i j hi hj (by simp; omega)
    · rw [e, cell?_putRowK_other _ _ _ g 0 dk _ (by exact hne), cell?_grow _ _ _ (by exact blk_lt hB)]
      simpa using blk_cell hB 0
    · rw [e]; exact (hd.cell (i := t) (c := 0) (by omega) (by omega)).1
    · rw [e]; exact (hd.cell (i := t) (c := 1) (by omega) (by omega)).1
  have key := Any.sort_Slice_cells_sorted sv6 25 31 svT2 svE2 (by kernel_rfl) (by kernel_rfl) (by kernel_rfl) (by kernel_rfl) 25 (fun _ => by kernel_rfl) enc2 2 (fun _ => rfl) (by kernel_rfl) (fun _ => by kernel_rfl)
    (fun x v hv => by simp [enc2] at hv; rcases hv with rfl | rfl <;> rfl) beforeP swo_beforeP 59 #[.pointer (some ⟨bs, 0, none⟩)]
    (enters_of Try.func59 (by kernel_rfl) rfl) g 0 cap xs.toArray (by simpa using h2) (by simp; omega) 75 (by rw [svK2 _ (by simpa using h2)]; kernel_rfl) false
    (fun args W => run_callFunc_extern Try.func75 (by kernel_rfl) (by kernel_rfl) (by kernel_rfl) (e := Extern.ReflectliteSwapper.swap false) (by kernel_rfl) args W) w hless hH hblk
  refine key.mono ?_
  rintro e w' ⟨he, d', n, os, hp, hso, rfl⟩
  have hsz : d'.size = xs.length := by have := hp.1; simpa using this
  obtain ⟨h8, h9⟩ := R_sorted plain2 hR n os d' hsz
  exact ⟨he, d', by simpa using hp, by simpa using hso, h8, h9⟩
open Go.Sort Go.Lib in
theorem sort_pipes_tiny (w : World) (A : Option Addr) (n cap bs : Nat) (h1 : n ≤ 1) :
    Calls Try.prog 48 #[.iface 25 (.slice A n cap), .func (.func 59) #[] #[.pointer (some ⟨bs, 0, none⟩)]] w fun e w' => e = .returned (.tuple #[]) ∧ RowKit.Below w.heap.size w w' := by
  have hK : n = 0 ∨ n = 1 := by omega
  have key : ∀ f, Try.prog.funcs.findIdx? (·.name == "internal/reflectlite" ++ ".Swapper$" ++ toString (swapperK n svE2 25)) = some f → Calls Try.prog 48 #[.iface 25 (.slice A n cap), .func (.func 59) #[] #[.pointer (some ⟨bs, 0, none⟩)]] w fun e w' => e = .returned (.tuple #[]) ∧ RowKit.Below w.heap.size w w' := by
    intro f hf
    refine (Any.sort_Slice_tiny sv6 25 31 svT2 svE2 (by kernel_rfl) (by kernel_rfl) (by kernel_rfl) (by kernel_rfl) 25 (fun _ => by kernel_rfl) A n cap h1 f hf _ _ _ w).mono ?_
    rintro e w' ⟨he, os, rfl⟩
    exact ⟨he, rfl, rfl, rfl, by simp, fun k hk => heap_grow_old _ _ hk⟩
  rcases hK with rfl | rfl
  · exact key 67 (by rw [show swapperK 0 svE2 25 = 1 from rfl]; kernel_rfl)
  · exact key 68 (by rw [show swapperK 1 svE2 25 = 2 from rfl]; kernel_rfl)
end Go.Proofs.Ytnknnbpodpfljaa.P


namespace Go.Proofs.Ytnknnbpodpfljaa.P
open Go.RowKit Go.Proofs.YtnknnbpodpfljaaW.PrintWords Go.Proofs.YtnknnbpodpfljaaW.PrintLast Go.Proofs.YtnknnbpodpfljaaW.PrintMore Go.Proofs.Ytnknnbpodpfljaa.V
open Go.Maps (Keyed)
set_option linter.unusedVariables false
set_option linter.unusedSimpArgs false
attribute [local go_sem] cell_b frozen_b
abbrev seenMap (w : World) (b n : Nat) (l : List S31) : Prop := ∃ D, w.ownsMap Try.prog 31 boolR b n D ∧ MapB D (fun p => decide (p ∈ l))
theorem seen_snoc {D : DataW Unit} {l : List S31} {p : S31} (h : MapB D (fun q => decide (q = p) || decide (q ∈ l))) : MapB D (fun q => decide (q ∈ l ++ [p])) := by
  have e : (fun q : S31 => decide (q = p) || decide (q ∈ l)) = fun q => decide (q ∈ l ++ [p]) := by
    funext q
    by_cases h1 : q = p <;> by_cases h2 : q ∈ l <;> simp [h1, h2]
  rw [e] at h
  exact h
set_option maxHeartbeats 8000000 in
set_option maxRecDepth 100000 in
set_option synthInstance.maxHeartbeats 400000 in
set_option synthInstance.maxSize 100000 in
theorem impl_pipesOf.calls_ok (A0 : Option Addr) (c0 : Nat) (l0 : List (S31)) (w : World) (hr0 : Kd.C k31 w A0 l0.length l0) (hc0 : l0.length ≤ c0) (hl : l0.length ≤ 100000) (hw : ∀ x ∈ l0, wf64 x.f0 ∧ wf64 x.f1) :
    Calls Try.prog 42 #[.slice A0 l0.length c0] w fun e w' => ∃ v0_ : Value, e = .returned (v0_) ∧ Kd.R k31 31 w' w.heap.size (fun _ => True) v0_ (pipesIn l0) ∧ Below w.heap.size w w' := by
  have HR0 := Aside0.mk hr0
  have HW := Aside0.mk hw
  have HB := Aside0.mk (Below.refl w.heap.size w)
  clear hr0 hw
  have HO := Aside0.mk (World.ownsMap_made w Try.prog 31 boolR)
  have hmm := @run_makeMap Try.prog
  have hu := Try.underlying31
  go_enter Try.func42, Try.ntmps42
  go_wp2
  have HX0 : Aside0 ((((w.alloc (.map #[] 0)).alloc (.cells #[] 31)).alloc (.cells #[.slice (some ⟨w.heap.size + 1, 0, none⟩) 0 0] 25)).heap[w.heap.size + 2]? = some (.cells #[.slice (some ⟨w.heap.size + 1, 0, none⟩) 0 0] 25 (0, 0))) := ⟨by have := blk_new ((w.alloc (.map #[] 0)).alloc (.cells #[] 31)) (.cells #[.slice (some ⟨w.heap.size + 1, 0, none⟩) 0 0] 25); simpa using this⟩
  have HRW : Aside0 (Kd.R k31 31 (((w.alloc (.map #[] 0)).alloc (.cells #[] 31)).alloc (.cells #[.slice (some ⟨w.heap.size + 1, 0, none⟩) 0 0] 25)) w.heap.size (fun j => j ≠ w.heap.size ∧ j ≠ w.heap.size + 2) (.slice (some ⟨w.heap.size + 1, 0, none⟩) 0 0) []) := ⟨by
    have h4 : (((w.alloc (.map #[] 0)).alloc (.cells #[] 31)).alloc (.cells #[.slice (some ⟨w.heap.size + 1, 0, none⟩) 0 0] 25)).heap[w.heap.size + 1]? = some (.cells #[] 31 (0, 0)) := by
      have := blk_alloc (blk_new (w.alloc (.map #[] 0)) (.cells #[] 31)) (.cells #[.slice (some ⟨w.heap.size + 1, 0, none⟩) 0 0] 25)
      simpa using this
    refine ⟨fun k hk => ?_, [], ⟨rfl, .inr ⟨w.heap.size + 1, 0, #[], rfl, by omega, h4, Nat.le_refl _, Nat.zero_le _, rfl, rfl⟩⟩, Reps.none _ _⟩
    obtain rfl : w.heap.size + 1 = k := by simpa [Value.ownBlock] using hk
    exact ⟨by omega, by omega⟩⟩
  have HS0 : Aside0 (seenMap (((w.alloc (.map #[] 0)).alloc (.cells #[] 31)).alloc (.cells #[.slice (some ⟨w.heap.size + 1, 0, none⟩) 0 0] 25)) w.heap.size 0 []) := ⟨⟨_, (HO.out.alloc _).alloc _, by
    have e : (fun p : S31 => decide (p ∈ ([] : List S31))) = fun _ => false := by funext p; simp
    rw [e]; exact mapB_empty⟩⟩
  go_loopg [11] (l0.length + 1) (fun kq v11 wr => ∃ (i : Nat) (v : Value) (xs : List S31), v11 = .int .i64 (i : Int) ∧ Aside0 (i + kq = l0.length + 1) ∧ Aside0 (i ≤ l0.length) ∧ Aside0 (xs = onceP (l0.take i)) ∧ Aside0 (xs.length ≤ i) ∧ Aside0 (seenMap wr w.heap.size xs.length xs) ∧ Aside0 (Kd.R k31 31 wr w.heap.size (fun j => j ≠ w.heap.size ∧ j ≠ w.heap.size + 2) v xs) ∧ Aside0 (wr.heap[w.heap.size + 2]? = some (.cells #[v] 25 (0, 0))) ∧ Aside0 (Below w.heap.size w wr))
  case atStart => exact ⟨0, _, [], rfl, ⟨by omega⟩, ⟨by omega⟩, ⟨rfl⟩, ⟨Nat.le_refl _⟩, HS0, HRW, HX0, ⟨below_alloc (below_alloc (below_alloc HB.out _) _) _⟩⟩
  case round =>
    clear HX0 HRW HS0 HB HO
    obtain ⟨i, v, xs, rfl, HI1, HI2, HX, HL, HM, HR, HBX, HB⟩ := hrel
    have hxl := HL.out
    have hil := HI2.out
    by_cases hlt : i < l0.length
    · have hb3 : decide ((i : Int) < (l0.length : Int)) = true := decide_eq_true (by omega)
      have hb4 : decide (i < l0.length) = true := decide_eq_true (by omega)
      obtain ⟨ad, e, hx0, hx1⟩ := at_T31 HR0.out (i : Int) (by omega) (by omega)
      cases e
      replace hx0 := (HB.out.cell (World.block_lt_of_cell? w _ hx0)).trans hx0
      replace hx1 := (HB.out.cell (World.block_lt_of_cell? w _ hx1)).trans hx1
      obtain ⟨x, hx⟩ : ∃ x, rd_T31 l0 (i : Int) = x := ⟨_, rfl⟩
      rw [hx] at hx0 hx1
      simp only [Int.toNat_natCast] at hx0 hx1
      have e0 : l0[i] = x := by rw [← hx]; simp [rd_T31, List.getD_eq_getElem?_getD, hlt]
      obtain ⟨q1, q2⟩ := HW.out x (by rw [← e0]; exact List.getElem_mem hlt)
      have HT : Aside0 (onceP (l0.take (i + 1)) = if x ∈ xs then xs else xs ++ [x]) := ⟨by rw [List.take_succ_eq_append_getElem hlt, e0, onceP_snoc, HX.out]⟩
      have HQ := Aside0.mk q1
      have HQ2 := Aside0.mk q2
      obtain ⟨D, hD, hD2⟩ := HM.out
      have HD := Aside0.mk hD
      have HD2 := Aside0.mk hD2
      have HLT := Aside0.mk hlt
      clear hx e0 HM
      by_cases hin : x ∈ xs
      · have hlk := fun o : Obj => lookup_seen (hD.alloc o) hD2 x q1 q2
        simp only [hin, decide_true] at hlk
        have HT' : Aside0 (onceP (l0.take (i + 1)) = xs) := ⟨by rw [HT.out, if_pos hin]⟩
        clear hD hD2 q1 q2 HT hin
        go_wp2
        go_roundg (l0.length - i)
        case measure => have := HI1.out; omega
        case rel => exact ⟨i + 1, v, xs, by go_num, ⟨by omega⟩, ⟨by omega⟩, ⟨HT'.out.symm⟩, ⟨by omega⟩, ⟨⟨D, HD.out.alloc _, HD2.out⟩⟩, ⟨Kd.R_alloc HR.out _⟩, ⟨blk_alloc HBX.out _⟩, ⟨below_alloc HB.out _⟩⟩
      · have hlk := fun o : Obj => lookup_seen (hD.alloc o) hD2 x q1 q2
        simp only [hin, decide_false] at hlk
        have HT' : Aside0 (onceP (l0.take (i + 1)) = xs ++ [x]) := ⟨by rw [HT.out, if_neg hin]⟩
        clear hD hD2 q1 q2 HT hin
        have hn1 : w.heap.size < wr.heap.size := by have := blk_lt HBX.out; omega
        go_upto_region 8 with (first | (at_mapUpdate; refine wpList_mapUpdate_own _ rfl _ _ _ 74 rfl 31 4 pipeKeyed Try.underlying74 boolR w.heap.size xs.length D rfl (HD.out.alloc _) (show xs.length < maxLen from Nat.lt_of_le_of_lt (show xs.length ≤ 100000 by omega) (by decide)) (pairV x.f0 x.f1) (.bool true) _ rfl rfl (keyOf_pipe HQ.out HQ2.out) (.lit (.bool true)) [] rfl ?_; intro w2 h2 hg2; have jE : Blk w2 wr.heap.size #[.int .i64 x.f0, .int .i64 x.f1] 31 := ⟨(hg2.block _ (by simp) (fun e => by have := Option.some.inj e; omega)).trans (blk_new wr _)⟩; have HX2 : Aside0 (w2.heap[w.heap.size + 2]? = some (.cells #[v] 25 (0, 0))) := ⟨(hg2.block _ (blk_lt (blk_alloc HBX.out _)) (fun e => by have := Option.some.inj e; omega)).trans (blk_alloc HBX.out _)⟩; have HR2 := Aside0.mk (Kd.R_grown (Kd.R_alloc HR.out _) hg2 (fun j hj e => hj.1 (Option.some.inj e))); have HB2 : Aside0 (Below w.heap.size w w2) := ⟨(below_alloc HB.out _).grown hg2 (below_alloc HB.out _).size (fun k hk => by cases hk; exact Nat.le_refl _)⟩; have H2 := Aside0.mk h2; have hs2 := hg2.size; clear h2 hg2))
        have jX := Blk.mk HX2.out
        go_wp2_with (first
          | (refine Kd.R_append k31 (w0 := w) w.heap.size rfl (.tmp 21) (.tmp 23) 25 31 (.agg #[(.int .i64 0), (.int .i64 0)]) 16 rfl Try.underlying25 info31 rfl (by decide) (by omega) v xs x [.int .i64 x.f0, .int .i64 x.f1] (fun j => j ≠ w.heap.size ∧ j ≠ w.heap.size + 2) (fun _ => False) rfl rfl ?aP (fun _ hk => hk.elim) ?aF ?aO ?aB ?aS ?aL ?_; (case aP => exact k31_mkM _ _ _ x); (case aB => exact HB2.out); (case aF => intro j hj; simp at hs2; have := blk_lt HX2.out; exact ⟨by omega, by omega⟩); (case aO => exact HR2.out); (case aS => exact HB2.out.size); (case aL => omega); intro v1 w6 ho hb hg hat; obtain ⟨B1, b1, rfl⟩ := Kd.R_slice ho; have HO := Aside0.mk ho; have HB6 := Aside0.mk hb; have HG6 := Aside0.mk hg; have j6 : Blk w6 (w.heap.size + 2) #[v] 25 := ⟨(HG6.out.block _ (blk_lt HX2.out) (fun e => (HR2.out.1 _ e.symm).2 rfl)).trans HX2.out⟩; clear ho hb hg))
        go_roundg (l0.length - i)
        case measure => have := HI1.out; omega
        case rel =>
          refine ⟨i + 1, .slice B1 (xs.length + 1) b1, xs ++ [x], by go_num, ⟨by omega⟩, ⟨by omega⟩, ⟨HT'.out.symm⟩, ⟨by simp only [List.length_append, List.length_singleton]; omega⟩, ⟨⟨D.put (pipeL x.f0 x.f1) (.lit (.bool true)), ?_, seen_snoc (HD2.out.put x HQ.out HQ2.out)⟩⟩, ⟨?_⟩, ⟨?_⟩, ⟨?_⟩⟩
          · simp only [List.length_append, List.length_singleton]
            exact (H2.out.kept HG6.out (fun e => (HR2.out.1 _ e.symm).1 rfl)).setCell (by show w.heap.size ≠ w.heap.size + 1 + 1; omega) _
          · exact Kd.R_far (by simpa using HO.out) (fun j hj => hj.2) _
          · exact blk_put j6.out 0 _ rfl
          · exact below_set HB6.out (by omega)
    · have hb3 : decide ((i : Int) < (l0.length : Int)) = false := decide_eq_false (by omega)
      have hb4 : decide (i < l0.length) = false := decide_eq_false (by omega)
      obtain rfl : i = l0.length := by omega
      have hxs : xs = onceP l0 := by have := HX.out; rwa [List.take_length] at this
      have hfin : ∀ D' : Array S31, Sort.PermIn 0 xs.length xs.toArray D' → Sort.SortedIn beforeP 0 xs.length D' → D'.toList = pipesIn l0 := fun D' hp hs => by
        obtain ⟨h8, h9⟩ := sorted_pairwise (lt := beforeP) (D := xs.toArray) (D' := D') (by simpa using hp) (by simpa using hs) (fun a _ c _ hne => beforeP_total hne) (by rw [hxs]; simpa using nodup_onceP l0)
        refine pipesIn_unique l0 _ h9 fun x => ?_
        rw [h8.mem_iff]
        rw [hxs]
        simpa using mem_onceP l0 x
      have HFIN := Aside0.mk hfin
      clear hfin hxs HX HM
      have jx := Blk.mk HBX.out
      by_cases h2 : 2 ≤ xs.length
      · obtain ⟨g, cap, rfl, hg1, hg2, _⟩ := Kd.R_form HR.out (by omega)
        have hne : w.heap.size + 2 ≠ g := fun e => (HR.out.1 g (by simp [Value.ownBlock])).2 e.symm
        go_wp2_with (first
          | (go_at_call 48; refine (sort_pipes wr g cap (w.heap.size + 2) w.heap.size _ xs HR.out HBX.out hne h2 (by omega)).mono ?_; rintro e w9 ⟨rfl, D9, hp, hso, hR9, hg9⟩; have jx9 : Blk w9 (w.heap.size + 2) #[.slice (some ⟨g, 0, none⟩) xs.length cap] 25 := ⟨(hg9.block _ (blk_lt HBX.out) (fun e => hne (Option.some.inj e))).trans HBX.out⟩; have H9 := Aside0.mk (HFIN.out D9 hp hso); have R9 := Aside0.mk hR9; have B9 : Aside0 (Below w.heap.size w w9) := ⟨HB.out.grown hg9 HB.out.size (fun k hk => by cases hk; exact hg1)⟩; clear hp hso hR9 hg9))
        go_ret
        refine ⟨_, rfl, ?_, B9.out⟩
        rw [← H9.out]
        exact Kd.R_mono R9.out (fun _ _ => trivial)
      · obtain ⟨A9, cap, rfl⟩ := Kd.R_slice HR.out
        go_wp2_with (first
          | (go_at_call 48; refine (sort_pipes_tiny wr A9 xs.length cap (w.heap.size + 2) (by omega)).mono ?_; rintro e w9 ⟨rfl, hb9⟩; have jb9 := Bel.mk hb9; have R9 := Aside0.mk (Kd.R_below HR.out hb9); have B9 : Aside0 (Below w.heap.size w w9) := ⟨below_step HB.out hb9⟩; clear hb9))
        go_ret
        refine ⟨_, rfl, ?_, B9.out⟩
        have hp : Sort.PermIn 0 xs.length xs.toArray xs.toArray := Sort.permIn_refl _ _ _
        have hso : Sort.SortedIn beforeP 0 xs.length xs.toArray := fun i j _ h1 h2 => by omega
        rw [← HFIN.out xs.toArray hp hso]
        exact Kd.R_mono R9.out (fun _ _ => trivial)
end Go.Proofs.Ytnknnbpodpfljaa.P


namespace Go.Proofs.Ytnknnbpodpfljaa.P
open Go.RowKit Go.Proofs.YtnknnbpodpfljaaW.PrintWords Go.Proofs.YtnknnbpodpfljaaW.PrintLast Go.Proofs.YtnknnbpodpfljaaW.PrintMore Go.Proofs.Ytnknnbpodpfljaa.V
open Go.Maps (Keyed)
set_option linter.unusedVariables false
set_option linter.unusedSimpArgs false
attribute [local go_sem] cell_b frozen_b
structure FoundP (m : S31 → Option S36) (f : Int) (left : Lit → Bool) (xs : List S31) : Prop where
  all : ∀ p ∈ xs, ∃ e, m p = some e ∧ e.f1 = f ∧ wf64 p.f0 ∧ wf64 p.f1
  got : ∀ (p : S31) (e : S36), wf64 p.f0 → wf64 p.f1 → m p = some e → e.f1 = f → left (pipeL p.f0 p.f1) = false → p ∈ xs
theorem FoundP.step {m : S31 → Option S36} {f : Int} {left : Lit → Bool} {xs : List S31} (h : FoundP m f left xs) (p : S31) (c : S36) (h0 : wf64 p.f0) (h1 : wf64 p.f1) (hm : m p = some c) :
    FoundP m f (fun z => left z && !z.sameKey (pipeL p.f0 p.f1)) (if c.f1 = f then xs ++ [p] else xs) := by
  have hold : ∀ q e, wf64 q.f0 → wf64 q.f1 → m q = some e → e.f1 = f → (left (pipeL q.f0 q.f1) && !(pipeL q.f0 q.f1).sameKey (pipeL p.f0 p.f1)) = false → q ∈ xs ∨ q = p := by
    intro q e q0 q1 hq hx hf
    rw [Bool.and_eq_false_iff] at hf
    rcases hf with hf | hf
    · exact .inl (h.got q e q0 q1 hq hx hf)
    · by_cases he : pipeL q.f0 q.f1 = pipeL p.f0 p.f1
      · obtain ⟨e0, e1⟩ := pipeL_inj q0 q1 h0 h1 he
        exact .inr (pipe_ext e0 e1)
      · rw [Maps.sameKey_ne he] at hf; cases hf
  by_cases hc : c.f1 = f
  · rw [if_pos hc]
    refine ⟨fun q hq => ?_, fun q e q0 q1 hq hx hf => ?_⟩
    · rcases List.mem_append.1 hq with hq | hq
      · exact h.all q hq
      · rw [List.mem_singleton] at hq
        subst hq
        exact ⟨c, hm, hc, h0, h1⟩
    · rcases hold q e q0 q1 hq hx hf with h' | h'
      · exact List.mem_append_left _ h'
      · rw [h']; simp
  · rw [if_neg hc]
    refine ⟨h.all, fun q e q0 q1 hq hx hf => ?_⟩
    rcases hold q e q0 q1 hq hx hf with h' | h'
    · exact h'
    · subst h'
      rw [hm] at hq
      obtain rfl := Option.some.inj hq
      exact absurd hx hc
set_option maxHeartbeats 8000000 in
set_option maxRecDepth 100000 in
set_option synthInstance.maxHeartbeats 400000 in
set_option synthInstance.maxSize 100000 in
theorem impl_FaultyPipes.calls_ok (k : Nat) (A0 : Option Addr) (c0 : Nat) (l0 : List (S36)) (f : Int) (w : World) (hr0 : Kd.C k36 w A0 l0.length l0) (hc0 : l0.length ≤ c0) (A : impl_LogOk.f k l0 = some true) (hl : l0.length ≤ 1000) (hw : ∀ x ∈ l0, wf64 x.f0.f0 ∧ wf64 x.f0.f1) (hf : f = 1 ∨ f = 2) :
    Calls Try.prog 17 #[.slice A0 l0.length c0, .int .i64 f] w fun e w' => ∃ v0_ : Value, e = .returned (v0_) ∧ Kd.R k31 31 w' w.heap.size (fun _ => True) v0_ (pipesUp l0 f) ∧ Below w.heap.size w w' := by
  have i0 := RdE.mk hr0
  have i1 := LeI.mk hc0
  have A := Aside0.mk A
  have HW := Aside0.mk hw
  have HF12 := Aside0.mk hf
  clear hr0 hc0 hw
  have hu74 := Try.underlying36
  have hu56 := Try.underlying31
  have hs12 : ((f != 1) = false ∧ (f == 1) = true) ∨ ((f != 1) = true ∧ (f != 2) = false) := by
    rcases hf with rfl | rfl
    · exact .inl ⟨rfl, rfl⟩
    · exact .inr ⟨rfl, rfl⟩
  clear hf
  rcases hs12 with ⟨hs1, hs2⟩ | ⟨hs1, hs2⟩
  all_goals go_enter Try.func17, Try.ntmps17
  all_goals go_wp2_with (first
    | (go_at_call 18; refine (impl_LogOk.calls k _ _ _ true _ Rd.out LeI.out A.out).mono ?_; rintro e w2 ⟨rfl, hb⟩; have jb := Bel.mk hb; clear hb)
    | (go_at_call 43; refine (impl_lastOf.calls _ _ _ _ Rd.out LeI.out hl HW.out).mono ?_; rintro e w3 ⟨b, rfl, hb1, hm, hb⟩; obtain ⟨D, hD, hD2⟩ := hm; have jb := Bel.mk hb; have HD := Aside0.mk hD; have HD2 := Aside0.mk hD2; have HB1 := Aside0.mk hb1; clear hb hb1 hD hD2)
    | (at_range; refine wpList_range_own _ rfl _ 60 rfl 31 36 pipeKeyed Try.underlying60 pipeR b l0.length D rfl HD.out ?_; intro w4 hrg hg hs; have HRG := Aside0.mk hrg; have HG := Aside0.mk hg; have HS := Aside0.mk hs; clear hrg hg hs))
  all_goals (
    go_frame
    have HSZ := Aside0.mk (HD.out.size_le)
    have HLB := Aside0.mk (HD.out.lt)
    have HGB : Aside0 (w2.heap.size + 1 ≤ w3.heap.size) := ⟨by have hs := (Bel.out (W := w3)).size; simpa using hs⟩
    have HGM : Aside0 (w2.heap.size + 1 ≤ b) := ⟨by have := HB1.out; simpa using this⟩
    have HGW : Aside0 (w.heap.size ≤ w2.heap.size) := ⟨Sz.out⟩
    have HB0 : Aside0 (Below w.heap.size w w4) := ⟨(From.out : Below w.heap.size w w3).grown HG.out (Sz.out : w.heap.size ≤ w3.heap.size) (fun k hk => by cases hk)⟩
    have HRW : Aside0 (Kd.R k31 31 w4 w.heap.size (fun j => j ≠ b ∧ j ≠ w3.heap.size) (.slice (some ⟨w2.heap.size, 0, none⟩) 0 0) []) := ⟨by
      have h3 : Blk w3 w2.heap.size #[] 31 := ⟨blk_below (blk_new w2 (.cells #[] 31 (0, 0))) (Bel.out (W := w3))⟩
      have h4 : w4.heap[w2.heap.size]? = some (.cells #[] 31 (0, 0)) := (HG.out.block _ (blk_lt h3.out) (by simp)).trans h3.out
      refine ⟨fun k hk => ?_, [], ⟨rfl, .inr ⟨w2.heap.size, 0, #[], rfl, HGW.out, h4, Nat.le_refl _, Nat.zero_le _, rfl, rfl⟩⟩, Reps.none _ _⟩
      obtain rfl : w2.heap.size = k := by simpa [Value.ownBlock] using hk
      exact ⟨by have := HGM.out; omega, by have := HGB.out; omega⟩⟩
    have HF0 : Aside0 (FoundP (lastMap l0) f (Maps.has D) []) := ⟨⟨fun x hx => by simp at hx, fun p e h0 h1 hm hx hf => by
      have e1 := Maps.atKey_of_not_has hf (.map [])
      have e2 := HD2.out.at_ p h0 h1 (.map [])
      rw [hm] at e2
      exact absurd (e1.symm.trans e2) (by simp [quadD])⟩⟩
    go_loopg [5] (Maps.size D + 1) (fun kq u wr => ∃ (left : Lit → Bool) (cnt : Nat) (v : Value) (xs : List S31), v = u ∧ Aside0 (kq = cnt + 1) ∧ Aside0 (xs.length + cnt ≤ Maps.size D) ∧ Aside0 (wr.ranges Try.prog 31 pipeR b w3.heap.size l0.length D left cnt) ∧ Aside0 (FoundP (lastMap l0) f left xs) ∧ Aside0 (Kd.R k31 31 wr w.heap.size (fun j => j ≠ b ∧ j ≠ w3.heap.size) v xs) ∧ Aside0 (Below w.heap.size w wr))
    case atStart => exact ⟨_, _, _, [], rfl, ⟨rfl⟩, ⟨by simp⟩, HRG, HF0, HRW, HB0⟩
    case round =>
      clear HRG HF0 HRW HB0 HG
      obtain ⟨left, cnt, v, xs, rfl, HK, HN, HRG, HF, HR, HB⟩ := hrel
      go_wp2_with (first
        | (at_next; refine wpList_next_ranges _ rfl _ rfl 31 pipeKeyed pipeR (fun p : S31 => pairV p.f0 p.f1) quadV (fun key kl h => by obtain ⟨a, b, rfl, _⟩ := keyOf_pipe_inv h; exact ⟨⟨a, b⟩, rfl⟩) (fun v y h => by obtain ⟨x, rfl, _⟩ := pipeR_inv h; exact ⟨x, rfl⟩) b w3.heap.size l0.length D left cnt rfl HRG.out ?_ ?_))
      rotate_left
      · intro p c kl y1 y2 w5 cnt1 hk hlk hv hat hrg1 hlt hg1 hs1 hen
        obtain ⟨p0, p1⟩ : wf64 p.f0 ∧ wf64 p.f1 := by
          obtain ⟨a, b', e, ha, hb⟩ := keyOf_pipe_inv hk
          simp [pairV] at e
          rw [e.1, e.2]
          exact ⟨ha, hb⟩
        obtain rfl : kl = pipeL p.f0 p.f1 := Option.some.inj (hk.symm.trans (keyOf_pipe p0 p1))
        obtain ⟨rfl, rfl⟩ : y1 = quadD c ∧ y2 = [] := by
          have := (pipeR_mk c).symm.trans hv
          simp at this
          exact ⟨this.1.symm, this.2⟩
        have hm := mapIs_key HD2.out p0 p1 hat
        have HST := Aside0.mk (HF.out.step p c p0 p1 hm)
        have HRG1 := Aside0.mk hrg1
        have HLT := Aside0.mk hlt
        have HG1 := Aside0.mk hg1
        clear hk hlk hv hat hrg1 hlt hg1 hs1 hm HF HRG
        simp only [pairV, quadV] at hen ⊢
        have HR1 := Aside0.mk (Kd.R_grown HR.out HG1.out (fun j hj e => hj.2 (Option.some.inj e)))
        have HB1' : Aside0 (Below w.heap.size w w5) := ⟨HB.out.grown HG1.out HB.out.size (fun k hk => by cases hk; have := HGB.out; have := HGW.out; omega)⟩
        clear HR HB
        by_cases hc : c.f1 = f
        · rw [if_pos hc] at HST
          have hd := beq_iff_eq.mpr hc
          go_upto_region 8 with (fail)
          generalize hW : (w5.alloc _).alloc _ = W
          have HR7 : Aside0 (Kd.R k31 31 W w.heap.size (fun j => j ≠ b ∧ j ≠ w3.heap.size) v xs) := ⟨by rw [← hW]; exact Kd.R_alloc (Kd.R_alloc HR1.out _) _⟩
          have HB7 : Aside0 (Below w.heap.size w W) := ⟨by rw [← hW]; exact below_alloc (below_alloc HB1'.out _) _⟩
          have HRG7 : Aside0 (W.ranges Try.prog 31 pipeR b w3.heap.size l0.length D _ cnt1) := ⟨by rw [← hW]; exact (HRG1.out.alloc _).alloc _⟩
          have HSZ7 : Aside0 (w3.heap.size + 1 ≤ W.heap.size) := ⟨HRG7.out.lt⟩
          have jP : Blk W w5.heap.size #[.int .i64 p.f0, .int .i64 p.f1] 31 := ⟨by rw [← hW]; exact blk_alloc (blk_new w5 _) _⟩
          clear hW HR1 HB1' HRG1
          go_wp2_with (first
            | (refine Kd.R_append k31 (w0 := w) w.heap.size rfl (.tmp 32) (.tmp 34) 25 31 (.agg #[(.int .i64 0), (.int .i64 0)]) 16 rfl Try.underlying25 info31 rfl (by decide) (by omega) v xs p [.int .i64 p.f0, .int .i64 p.f1] (fun j => j ≠ b ∧ j ≠ w3.heap.size) (fun _ => False) rfl rfl ?aP (fun _ hk => hk.elim) ?aF ?aO ?aB ?aS ?aL ?_; (case aP => exact k31_mkM _ _ _ p); (case aB => exact HB7.out); (case aF => intro j hj; have := HSZ7.out; have := HLB.out; exact ⟨by omega, by omega⟩); (case aO => exact HR7.out); (case aS => exact HB7.out.size); (case aL => have := HN.out; have := HSZ.out; omega); intro v1 w6 ho hb hg hat; obtain ⟨B1, b1, rfl⟩ := Kd.R_slice ho; have HO := Aside0.mk ho; have HB6 := Aside0.mk hb; have HG6 := Aside0.mk hg; clear ho hb hg))
          go_roundg (cnt1 + 1)
          case measure => have := HK.out; have := HLT.out; omega
          case rel =>
            refine ⟨_, cnt1, _, xs ++ [p], rfl, ⟨rfl⟩, ⟨by have := HN.out; have := HLT.out; simp only [List.length_append, List.length_singleton]; omega⟩, ⟨?_⟩, HST, ⟨by simpa using HO.out⟩, HB6⟩
            exact HRG7.out.kept HG6.out (fun e => (HR7.out.1 _ e.symm).1 rfl) (fun e => (HR7.out.1 _ e.symm).2 rfl)
        · rw [if_neg hc] at HST
          have hd := beq_eq_false_iff_ne.mpr hc
          go_wp2
          go_roundg (cnt1 + 1)
          case measure => have := HK.out; have := HLT.out; omega
          case rel =>
            exact ⟨_, cnt1, v, xs, rfl, ⟨rfl⟩, ⟨by have := HN.out; have := HLT.out; omega⟩, ⟨(HRG1.out.alloc _).alloc _⟩, HST, ⟨Kd.R_alloc (Kd.R_alloc HR1.out _) _⟩, ⟨below_alloc (below_alloc HB1'.out _) _⟩⟩
      · intro hc0 hl0
        have hwf : ∀ p ∈ xs, wf64 p.f0 ∧ wf64 p.f1 := fun p hp => by obtain ⟨_, _, _, h1, h2⟩ := HF.out.all p hp; exact ⟨h1, h2⟩
        have hfin : pipesIn xs = pipesUp l0 f := by
          refine sortedP_ext (sorted_pipesIn _) (sorted_pipesIn _) fun p => ?_
          rw [mem_pipesIn]
          show p ∈ xs ↔ p ∈ pipesUp l0 f
          rw [mem_pipesUp]
          constructor
          · intro hp
            obtain ⟨e, h1, h2, _, _⟩ := HF.out.all p hp
            obtain ⟨i, _, h4, h5, _⟩ := (Q.lastMap_iff l0 p e l0.length (Nat.le_refl _)).mp (by rw [List.take_length]; exact h1)
            refine ⟨⟨e, List.mem_of_getElem? h4, h5⟩, ?_⟩
            unfold faultOf
            rw [h1]
            exact h2
          · rintro ⟨⟨e, he, rfl⟩, hfo⟩
            unfold faultOf at hfo
            cases hm : lastMap l0 e.f0 with
            | none =>
              rw [hm] at hfo
              have := HF12.out
              simp [z36] at hfo
              omega
            | some e2 =>
              rw [hm] at hfo
              exact HF.out.got e.f0 e2 (HW.out e he).1 (HW.out e he).2 hm hfo (hl0 _)
        have hsmall : xs.length ≤ 100000 := by have := HN.out; have := HSZ.out; omega
        have HFIN := Aside0.mk hfin
        have HWF := Aside0.mk hwf
        obtain ⟨A9, c9, rfl⟩ := Kd.R_slice HR.out
        have hcc := (Kd.R_reads' HR.out).2
        clear hfin hwf HF HRG
        go_wp2_with (first
          | (go_at_call 42; refine (impl_pipesOf.calls_ok A9 c9 xs wr hcc.2 hcc.1 hsmall HWF.out).mono ?_; rintro e w9 ⟨v9, rfl, hR9, hb9⟩; have R9 := Aside0.mk hR9; have B9 : Aside0 (Below w.heap.size w w9) := ⟨below_step HB.out hb9⟩; clear hR9 hb9))
        go_ret
        refine ⟨_, rfl, ?_, B9.out⟩
        rw [← HFIN.out]
        exact Kd.R_lower R9.out HB.out.size)
theorem impl_FaultyPipes.calls_no (k : Nat) (A0 : Option Addr) (c0 : Nat) (l0 : List (S36)) (f : Int) (w : World) (hr0 : Kd.C k36 w A0 l0.length l0) (hc0 : l0.length ≤ c0) (A : impl_LogOk.f k l0 = some false) :
    Calls Try.prog 17 #[.slice A0 l0.length c0, .int .i64 f] w fun e w' => ∃ v0_ : Value, e = .returned (v0_) ∧ Kd.R k31 31 w' w.heap.size (fun _ => True) v0_ ([] : List S31) ∧ Below w.heap.size w w' := by
  have i0 := RdE.mk hr0
  have i1 := LeI.mk hc0
  have A := Aside0.mk A
  clear hr0 hc0
  go_enter Try.func17, Try.ntmps17
  go_wp2_with (first
    | (go_at_call 18; refine (impl_LogOk.calls k _ _ _ false _ Rd.out LeI.out A.out).mono ?_; rintro e w2 ⟨rfl, hb⟩; have jb := Bel.mk hb; clear hb))
  go_ret
  exact ⟨_, rfl, Kd.R_nil _ _ _ _ _, From.out⟩
theorem impl_FaultyPipes.calls_no2 (k : Nat) (A0 : Option Addr) (c0 : Nat) (l0 : List (S36)) (f : Int) (w : World) (hr0 : Kd.C k36 w A0 l0.length l0) (hc0 : l0.length ≤ c0) (A : impl_LogOk.f k l0 = some true) (hf : ¬ (f = 1 ∨ f = 2)) :
    Calls Try.prog 17 #[.slice A0 l0.length c0, .int .i64 f] w fun e w' => ∃ v0_ : Value, e = .returned (v0_) ∧ Kd.R k31 31 w' w.heap.size (fun _ => True) v0_ ([] : List S31) ∧ Below w.heap.size w w' := by
  have i0 := RdE.mk hr0
  have i1 := LeI.mk hc0
  have A := Aside0.mk A
  have h1 : (f != 1) = true := bne_iff_ne.mpr (by omega)
  have h2 : (f != 2) = true := bne_iff_ne.mpr (by omega)
  clear hr0 hc0 hf
  go_enter Try.func17, Try.ntmps17
  go_wp2_with (first
    | (go_at_call 18; refine (impl_LogOk.calls k _ _ _ true _ Rd.out LeI.out A.out).mono ?_; rintro e w2 ⟨rfl, hb⟩; have jb := Bel.mk hb; clear hb))
  go_ret
  exact ⟨_, rfl, Kd.R_nil _ _ _ _ _, From.out⟩
end Go.Proofs.Ytnknnbpodpfljaa.P


namespace Go.Proofs.Ytnknnbpodpfljaa.P
open Go.RowKit Go.Proofs.YtnknnbpodpfljaaW.PrintWords Go.Proofs.YtnknnbpodpfljaaW.PrintLast Go.Proofs.YtnknnbpodpfljaaW.PrintMore Go.Proofs.Ytnknnbpodpfljaa.V
attribute [local go_sem] cell_b frozen_b
attribute [local go_sem] max2_int min2_int max_two min_two max_three min_three max_four min_four
set_option linter.unusedVariables false
set_option linter.unusedSimpArgs false
def impl_FaultyPipes.f (l0 : List (S36)) (a1 : Int) : Option (List (S31)) := if l0.length ≤ 1048577 then some (if Q.logOk l0 = true ∧ (a1 = 1 ∨ a1 = 2) then pipesUp l0 a1 else []) else none
theorem impl_FaultyPipes.calls (A0 : Option Addr) (c0 : Nat) (l0 : List (S36)) (a1 : Int) (r : List (S31)) (w : World) (hr0 : Kd.C k36 w A0 l0.length l0) (hc0 : l0.length ≤ c0) (h : impl_FaultyPipes.f l0 a1 = some r) :
    Calls Try.prog 17 #[.slice A0 l0.length c0, .int .i64 a1] w fun e w' => ∃ v0_ : Value, e = .returned (v0_) ∧ Kd.R k31 31 w' w.heap.size (fun _ => True) v0_ r ∧ Below w.heap.size w w' := by
  unfold impl_FaultyPipes.f at h
  by_cases h0 : l0.length ≤ 1048577
  rotate_left
  · rw [if_neg h0] at h; cases h
  rw [if_pos h0] at h
  obtain ⟨k, hk⟩ := Q.logOk_impl l0 h0
  have A := hk k (Nat.le_refl _)
  by_cases hb : Q.logOk l0 = true
  · rw [hb] at A
    obtain ⟨h1, h2, h3⟩ := logOk_all hb
    by_cases hf : a1 = 1 ∨ a1 = 2
    · rw [if_pos ⟨hb, hf⟩] at h
      obtain rfl := Option.some.inj h
      exact impl_FaultyPipes.calls_ok k A0 c0 l0 a1 w hr0 hc0 A (by omega) h2 hf
    · rw [if_neg (fun hh => hf hh.2)] at h
      obtain rfl := Option.some.inj h
      exact impl_FaultyPipes.calls_no2 k A0 c0 l0 a1 w hr0 hc0 A hf
  · rw [if_neg (fun hh => hb hh.1)] at h
    rw [Bool.eq_false_iff.mpr hb] at A
    obtain rfl := Option.some.inj h
    exact impl_FaultyPipes.calls_no k A0 c0 l0 a1 w hr0 hc0 A
end Go.Proofs.Ytnknnbpodpfljaa.P


namespace Go.Proofs.Ytnknnbpodpfljaa.S
open Go.RowKit Go.Sort Go.Proofs.Ytnknnbpodpfljaa.P Go.Proofs.Ytnknnbpodpfljaa.Q Go.Proofs.Ytnknnbpodpfljaa.V Go.Proofs.YtnknnbpodpfljaaW.PrintWords
set_option linter.unusedVariables false
set_option linter.unusedSimpArgs false
attribute [local go_sem] cell_b frozen_b
abbrev E := S36
instance : Inhabited E := ⟨z36⟩
def enc4 (x : E) : List Value := [.int .i64 x.f0.f0, .int .i64 x.f0.f1, .int .i64 x.f1, .int .i64 x.f2]
abbrev val4 (x : E) : Value := .agg #[.int .i64 x.f0.f0, .int .i64 x.f0.f1, .int .i64 x.f1, .int .i64 x.f2]
class Cel (W : World) (a : Addr) (v : outParam Value) : Prop where out : W.cell? a = some v
section
variable {w w0 W : World} {a : Addr} {v : Value} {o : Obj} {n : Nat}
theorem cel_lt (h : Cel W a v) : a.block < W.heap.size := World.block_lt_of_cell? W a h.out
instance [h : Cel W a v] : Cel (W.alloc o) a v := ⟨((below_alloc (RowKit.Below.refl W.heap.size W) o).cell (cel_lt h)).trans h.out⟩
instance [h : Cel W a v] : Cel W.drew a v := ⟨h.out⟩
instance [h : Cel W a v] : Cel (W.drewN n) a v := ⟨h.out⟩
instance [b : Bel w W] [h : Cel w a v] : Cel W a v := ⟨(b.out.cell (cel_lt h)).trans h.out⟩
instance [b : Sin w0 W] [h : Cel w0 a v] : Cel W a v := ⟨(b.out.cell (cel_lt h)).trans h.out⟩
theorem cell_c (W : World) (a : Addr) {v : Value} [h : Cel W a v] : W.cell? a = some v := h.out
end
def Ftd (x : E) : Prop := x.f1 = 1 ∨ x.f1 = 2
theorem bne_t {a b : Int} (h : a ≠ b) : (a != b) = true := bne_iff_ne.mpr h
theorem bne_f {a b : Int} (h : a = b) : (a != b) = false := bne_eq_false_iff_eq.mpr h
set_option maxHeartbeats 8000000 in
set_option maxRecDepth 100000 in
set_option synthInstance.maxHeartbeats 400000 in
set_option synthInstance.maxSize 100000 in
theorem sooner_calls (a b : E) (w : World) (ha : Ftd a) (hb : Ftd b) :
    Calls Try.prog 50 #[val4 a, val4 b] w fun e w' => e = .returned (.bool (beforeE a b)) ∧ Below w.heap.size w w' := by
  obtain ⟨⟨a0, a1⟩, a2, a3⟩ := a
  obtain ⟨⟨b0, b1⟩, b2, b3⟩ := b
  obtain ⟨r, hr⟩ : ∃ r, beforeE ⟨⟨a0, a1⟩, a2, a3⟩ ⟨⟨b0, b1⟩, b2, b3⟩ = r := ⟨_, rfl⟩
  rw [hr]
  unfold Ftd at ha hb
  simp only at ha hb
  unfold beforeE at hr
  simp only at hr
  have hu := Try.underlying36
  have hu2 := Try.underlying31
  have done_ : ∀ {p q s : Prop} [Decidable p] [Decidable q] [Decidable s], True := fun {_ _ _} _ _ _ => trivial
  clear done_
  by_cases h1 : a2 = b2
  · rw [if_pos h1] at hr
    have h1 := bne_f h1
    by_cases h2 : a3 = b3
    · rw [if_pos h2] at hr
      have h2 := bne_f h2
      by_cases h3 : a0 = b0
      · rw [if_pos h3] at hr
        have h3 := bne_f h3
        clear ha hb
        go_enter Try.func50, Try.ntmps50
        go_wp2
        go_ret
        exact ⟨rfl, From.out⟩
      · rw [if_neg h3] at hr
        have h3 := bne_t h3
        clear ha hb
        go_enter Try.func50, Try.ntmps50
        go_wp2
        go_ret
        exact ⟨rfl, From.out⟩
    · rw [if_neg h2] at hr
      have h2 := bne_t h2
      clear ha hb
      go_enter Try.func50, Try.ntmps50
      go_wp2
      go_ret
      exact ⟨rfl, From.out⟩
  · rw [if_neg h1] at hr
    have h4 : (a2 == 2) = r := by rw [← hr, Bool.eq_iff_iff, beq_iff_eq, decide_eq_true_eq]; omega
    have h1 := bne_t h1
    clear ha hb hr
    go_enter Try.func50, Try.ntmps50
    go_wp2
    go_ret
    exact ⟨rfl, From.out⟩
structure SoC where
  g : Nat
  bs : Nat
  n : Nat
  c : Nat
  lb : Array Value
  sb : Array Value
class SoG (C : outParam SoC) : Prop where
  swap : SwapSwapsK Try.prog 75 C.sb enc4 4 C.g 0 C.n
  small : C.n < 50
  lb : C.lb = #[.pointer (some ⟨C.bs, 0, none⟩)]
  ne : C.bs ≠ C.g
structure SoAt (C : SoC) (W : World) (D : Array E) : Prop where
  hold : HoldsK enc4 4 W C.g 0 D
  size : D.size = C.n
  box : W.heap[C.bs]? = some (.cells #[.slice (some ⟨C.g, 0, none⟩) C.n C.c] 24 (0, 0))
  lt : C.g < W.heap.size
  shape : ∃ cur : Array Value, W.heap[C.g]? = some (.cells cur 36 (0, 0)) ∧ cur.size = C.c * 4
  ftd : ∀ x ∈ D, Ftd x
class So (C : outParam SoC) (W : World) (D : outParam (Array E)) : Prop where out : SoAt C W D
theorem SoAt.at_ {C : SoC} {W : World} {D : Array E} (h : SoAt C W D) (i : Nat) (hi : i < C.n) :
    W.cell? ⟨C.g, i * 4, none⟩ = some (.int .i64 D[i]!.f0.f0) ∧ W.cell? ⟨C.g, i * 4 + 1, none⟩ = some (.int .i64 D[i]!.f0.f1) ∧ W.cell? ⟨C.g, i * 4 + 2, none⟩ = some (.int .i64 D[i]!.f1) ∧ W.cell? ⟨C.g, i * 4 + 3, none⟩ = some (.int .i64 D[i]!.f2) := by
  have hi' : i < D.size := by rw [h.size]; exact hi
  have c0 := (h.hold.cell (i := i) (c := 0) hi' (by omega)).1
  have c1 := (h.hold.cell (i := i) (c := 1) hi' (by omega)).1
  have c2 := (h.hold.cell (i := i) (c := 2) hi' (by omega)).1
  have c3 := (h.hold.cell (i := i) (c := 3) hi' (by omega)).1
  simp only [Nat.zero_add, Nat.add_zero] at c0 c1 c2 c3
  exact ⟨c0, c1, c2, c3⟩
theorem SoAt.ftd' {C : SoC} {W : World} {D : Array E} (h : SoAt C W D) (i : Nat) (hi : i < C.n) : Ftd D[i]! := by
  have hi' : i < D.size := by rw [h.size]; exact hi
  rw [getElem!_pos D i hi']
  exact h.ftd _ (Array.getElem_mem hi')
attribute [local go_sem] cell_c
set_option maxHeartbeats 8000000 in
set_option maxRecDepth 100000 in
set_option synthInstance.maxHeartbeats 400000 in
set_option synthInstance.maxSize 100000 in
theorem less_calls (C : SoC) (w : World) (D : Array E) (h : SoAt C w D) (hlb : C.lb = #[.pointer (some ⟨C.bs, 0, none⟩)]) (hn : C.n < 50) (i j : Nat) (hi : i < C.n) (hj : j < C.n) :
    Calls Try.prog 49 (#[.int .i64 i, .int .i64 j] ++ C.lb) w fun e w' => e = .returned (.bool (beforeE D[i]! D[j]!)) ∧ Below w.heap.size w w' := by
  obtain ⟨i0, i1, i2, i3⟩ := h.at_ i hi
  obtain ⟨j0, j1, j2, j3⟩ := h.at_ j hj
  have fi := h.ftd' i hi
  have fj := h.ftd' j hj
  generalize D[i]! = x at *
  generalize D[j]! = y at *
  have hbx := h.box
  rw [hlb]
  obtain ⟨g, bs, n, c, lb, sb⟩ := C
  simp only at *
  have jB : Blk w bs #[.slice (some ⟨g, 0, none⟩) n c] 24 := ⟨hbx⟩
  have hs := fun W => sooner_calls x y W fi fj
  have HS := Aside0.mk hs
  have k0 := Cel.mk i0
  have k1 := Cel.mk i1
  have k2 := Cel.mk i2
  have k3 := Cel.mk i3
  have k4 := Cel.mk j0
  have k5 := Cel.mk j1
  have k6 := Cel.mk j2
  have k7 := Cel.mk j3
  clear i0 i1 i2 i3 j0 j1 j2 j3
  have hi1 : (0 : Int) ≤ (i : Int) := by omega
  have hi2 : (i : Int) < (n : Int) := by omega
  have hj1 : (0 : Int) ≤ (j : Int) := by omega
  have hj2 : (j : Int) < (n : Int) := by omega
  clear h hlb hbx hs fi fj hn hi hj
  have hu := Try.underlying36
  go_enter Try.func49, Try.ntmps49
  go_wp2
  refine region_at ?_
  intro w3 jw
  go_region_held3 (fun w' => Sin w3 w') (first | exact ⟨From.out⟩ | skip) (first | (go_at_call 50; refine (HS.out _).mono ?_; rintro e w2 ⟨rfl, hb⟩; have jb := Bel.mk hb; clear hb))
  all_goals go_wp2
  all_goals go_ret
  all_goals exact ⟨rfl, From.out⟩
end Go.Proofs.Ytnknnbpodpfljaa.S


namespace Go.Proofs.Ytnknnbpodpfljaa.S
open Go.RowKit Go.Sort Go.Proofs.Ytnknnbpodpfljaa.P Go.Proofs.Ytnknnbpodpfljaa.Q Go.Proofs.Ytnknnbpodpfljaa.V Go.Proofs.YtnknnbpodpfljaaW.PrintWords
set_option linter.unusedVariables false
set_option linter.unusedSimpArgs false
class Ix (i : Int) (n : Nat) : Prop where
  lo : 0 ≤ i
  hi : i < (n : Int)
theorem enc4_len (x : E) : (enc4 x).length = 4 := rfl
def swapW (C : SoC) (D : Array E) (W : World) (i j : Int) : World := (W.setCells C.g (0 + i.toNat * 4) (enc4 D[j.toNat]!)).setCells C.g (0 + j.toNat * 4) (enc4 D[i.toNat]!)
theorem swapW_eq {C : SoC} {W : World} {D : Array E} (h : SoAt C W D) (i j : Int) (hi : i.toNat < C.n) (hj : j.toNat < C.n) : swapW C D W i j = putRowK enc4 4 W C.g 0 (swp D i.toNat j.toNat) := by
  have := swap_worldK enc4 4 enc4_len W 0 0 C.g 0 D i.toNat j.toNat (by rw [h.size]; exact hi) (by rw [h.size]; exact hj)
  rw [show ((putRowK enc4 4 (Sort.ahead W 0) C.g 0 D).drewN 0) = W by
    rw [show ∀ X : World, X.drewN 0 = X from fun _ => rfl]
    exact putRowK_self enc4 4 W C.g 0 D h.hold] at this
  exact this
theorem mem_swp {D : Array E} {i j : Nat} {x : E} (h : x ∈ swp D i j) (hi : i < D.size) (hj : j < D.size) : x ∈ D := by
  obtain ⟨k, hk, rfl⟩ := Array.mem_iff_getElem.mp h
  have hk' : k < D.size := by simpa [size_swp] using hk
  rw [← getElem!_pos (swp D i j) k hk]
  by_cases e1 : k = j
  · subst e1; rw [swp_right D i k hk', getElem!_pos D i hi]; exact Array.getElem_mem hi
  · by_cases e2 : k = i
    · subst e2; rw [swp_left D k j hk' e1, getElem!_pos D j hj]; exact Array.getElem_mem hj
    · rw [swp_other D i j k e2 e1, getElem!_pos D k hk']; exact Array.getElem_mem hk'
theorem put_shape {W : World} {g : Nat} {D : Array E} {c : Nat} (h : ∃ cur : Array Value, W.heap[g]? = some (.cells cur 36 (0, 0)) ∧ cur.size = c) : ∃ cur : Array Value, (putRowK enc4 4 W g 0 D).heap[g]? = some (.cells cur 36 (0, 0)) ∧ cur.size = c := by
  obtain ⟨cur, hc, hs⟩ := h
  refine ⟨putCells id 0 (flatK enc4 4 D) cur, ?_, by simpa [putCells] using hs⟩
  unfold putRowK putRow
  rw [onCells_block, if_pos rfl, hc]
  rfl
class Fr (C : outParam SoC) (w0 W : World) : Prop where out : w0.grownBy W (some C.g)
section
variable {C : SoC} {w w0 W : World} {D : Array E} {o : Obj} {n x i : Nat} {v : Value} {cs : Array Value} {t : TypeId}
theorem SoAt.move (h : SoAt C w D) (hs : w.heap.size ≤ W.heap.size) (h1 : W.heap[C.g]? = w.heap[C.g]?) (h2 : W.heap[C.bs]? = w.heap[C.bs]?) : SoAt C W D :=
  ⟨fun j hj => by
    obtain ⟨a, b⟩ := h.hold j hj
    exact ⟨(World.cell?_of_block (a := ⟨C.g, 0 + j, none⟩) h1).trans a, (World.frozen?_of_block (a := ⟨C.g, 0 + j, none⟩) h1).trans b⟩, h.size, h2.trans h.box, Nat.lt_of_lt_of_le h.lt hs, by rw [h1]; exact h.shape, h.ftd⟩
theorem SoAt.bs_lt (h : SoAt C W D) : C.bs < W.heap.size := blk_lt h.box
theorem SoAt.below (h : SoAt C w D) (hb : RowKit.Below w.heap.size w W) : SoAt C W D := h.move hb.size (hb.block _ h.lt) (hb.block _ h.bs_lt)
instance [h : So C W D] : So C (W.alloc o) D := ⟨h.out.below (below_alloc (RowKit.Below.refl _ _) o)⟩
instance [h : So C W D] : So C W.drew D := ⟨h.out.below (below_drew1 (RowKit.Below.refl _ _))⟩
instance [h : So C W D] : So C (W.drewN n) D := ⟨h.out.below (pw_below_drewN (RowKit.Below.refl _ _) n)⟩
instance [b : Bel w W] [h : So C w D] : So C W D := ⟨h.out.below b.out⟩
instance [h : So C W D] [k : Born W x] : NeB x C.g := ⟨by rw [k.out]; exact Nat.ne_of_gt h.out.lt⟩
instance [h : So C W D] [k : Born W x] : NeB x C.bs := ⟨by rw [k.out]; exact Nat.ne_of_gt h.out.bs_lt⟩
instance [h : So C W D] [k : NeB x C.g] [l : NeB x C.bs] : So C (W.setCell ⟨x, i, none⟩ v) D :=
  ⟨h.out.move (by simp) (Below.heap_setCell W ⟨x, i, none⟩ v _ (Ne.symm k.out)) (Below.heap_setCell W ⟨x, i, none⟩ v _ (Ne.symm l.out))⟩
theorem swap_heap (h : SoAt C W D) (i j : Int) (hi : i.toNat < C.n) (hj : j.toNat < C.n) : W.grownBy (swapW C D W i j) (some C.g) := by
  rw [swapW_eq h i j hi hj]
  refine ⟨rfl, rfl, rfl, by simp [putRowK], fun k hk hne => ?_⟩
  unfold putRowK putRow
  rw [onCells_block, if_neg (fun hh => hne (by rw [hh]))]
theorem ix_nat {i : Int} {n : Nat} (h : Ix i n) : i.toNat < n := by have := h.lo; have := h.hi; omega
theorem so_swap [g : SoG C] (h : SoAt C W D) (i j : Int) (hi : i.toNat < C.n) (hj : j.toNat < C.n) : SoAt C (swapW C D W i j) (swp D i.toNat j.toNat) := by
  have hg := swap_heap h i j hi hj
  refine ⟨?_, by rw [size_swp]; exact h.size, (hg.block _ h.bs_lt (fun e => g.ne (Option.some.inj e))).trans h.box, Nat.lt_of_lt_of_le h.lt hg.size, by rw [swapW_eq h i j hi hj]; exact put_shape h.shape, fun x hx => h.ftd x (mem_swp hx (by rw [h.size]; exact hi) (by rw [h.size]; exact hj))⟩
  rw [swapW_eq h i j hi hj]
  exact holdsK_putRowK enc4 4 W C.g 0 D _ h.hold (size_swp _ _ _)
instance {i j : Int} [g : SoG C] [h : So C W D] [a : Ix i C.n] [b : Ix j C.n] : So C (swapW C D W i j) (swp D i.toNat j.toNat) := ⟨so_swap h.out i j (ix_nat a) (ix_nat b)⟩
instance {i j : Int} [h : So C W D] [k : Blk W x cs t] [l : NeB x C.g] [a : Ix i C.n] [b : Ix j C.n] : Blk (swapW C D W i j) x cs t := ⟨((swap_heap h.out i j (ix_nat a) (ix_nat b)).block x (blk_lt k.out) (fun e => l.out (Option.some.inj e))).trans k.out⟩
theorem swap_run (W : World) (i j : Int) [g : SoG C] [h : So C W D] [a : Ix i C.n] [b : Ix j C.n] : (callFunc 75 (#[.int .i64 i, .int .i64 j] ++ C.sb)).run Try.prog W = .ok (.value (.tuple #[])) (swapW C D W i j) := by
  have := g.swap W D h.out.hold h.out.size i.toNat j.toNat (ix_nat a) (ix_nat b)
  rw [show ((i.toNat : Nat) : Int) = i from Int.toNat_of_nonneg a.lo, show ((j.toNat : Nat) : Int) = j from Int.toNat_of_nonneg b.lo] at this
  exact this
theorem less_at [g : SoG C] [h : So C W D] (i j : Int) [a : Ix i C.n] [b : Ix j C.n] :
    Calls Try.prog 49 (#[.int .i64 i, .int .i64 j] ++ C.lb) W fun e w' => e = .returned (.bool (beforeE D[i.toNat]! D[j.toNat]!)) ∧ RowKit.Below W.heap.size W w' := by
  have := less_calls C W D h.out g.lb g.small i.toNat j.toNat (ix_nat a) (ix_nat b)
  rw [show ((i.toNat : Nat) : Int) = i from Int.toNat_of_nonneg a.lo, show ((j.toNat : Nat) : Int) = j from Int.toNat_of_nonneg b.lo] at this
  exact this
class Les (D : Array E) (i j : Int) (b : outParam Bool) : Prop where out : beforeE D[i.toNat]! D[j.toNat]! = b
theorem Les.of {D : Array E} {i j : Int} {b : Bool} {i' j' : Nat} (h : beforeE D[i']! D[j']! = b) (hi : i = i') (hj : j = j') : Les D i j b := ⟨by rw [hi, hj, Int.toNat_natCast, Int.toNat_natCast]; exact h⟩
theorem less_is {b : Bool} [g : SoG C] [h : So C W D] (i j : Int) [a : Ix i C.n] [k : Ix j C.n] [l : Les D i j b] :
    Calls Try.prog 49 (#[.int .i64 i, .int .i64 j] ++ C.lb) W fun e w' => e = .returned (.bool b) ∧ RowKit.Below W.heap.size W w' :=
  (less_at i j).mono fun e w' h => ⟨by rw [h.1, l.out], h.2⟩
theorem grownBy_trans {w0 w W : World} {r : Option Nat} (h : w0.grownBy w r) (k : w.grownBy W r) : w0.grownBy W r :=
  ⟨k.os.trans h.os, k.tape.trans h.tape, k.output.trans h.output, Nat.le_trans h.size k.size, fun j hj hne => (k.block j (Nat.lt_of_lt_of_le hj h.size) hne).trans (h.block j hj hne)⟩
theorem grownBy_below {w W : World} {r : Option Nat} (h : RowKit.Below w.heap.size w W) : w.grownBy W r := ⟨h.os, h.tape, h.output, h.size, fun j hj _ => h.block j hj⟩
instance [h : So C w D] : Fr C w w := ⟨grownBy_below (RowKit.Below.refl _ _)⟩
instance [h : Fr C w W] : Fr C w (W.alloc o) := ⟨grownBy_trans h.out (grownBy_below (below_alloc (RowKit.Below.refl _ _) o))⟩
instance [h : Fr C w W] : Fr C w W.drew := ⟨grownBy_trans h.out (grownBy_below (below_drew1 (RowKit.Below.refl _ _)))⟩
instance [h : Fr C w W] : Fr C w (W.drewN n) := ⟨grownBy_trans h.out (grownBy_below (pw_below_drewN (RowKit.Below.refl _ _) n))⟩
instance [b : Bel w W] [h : Fr C w0 w] : Fr C w0 W := ⟨grownBy_trans h.out (grownBy_below b.out)⟩
instance {i j : Int} [h : Fr C w0 W] [k : So C W D] [a : Ix i C.n] [b : Ix j C.n] : Fr C w0 (swapW C D W i j) := ⟨grownBy_trans h.out (swap_heap k.out i j (ix_nat a) (ix_nat b))⟩
class Gb (C : outParam SoC) (w : outParam World) (W : World) : Prop where out : w.grownBy W (some C.g)
instance [b : Gb C w W] [h : Fr C w0 w] : Fr C w0 W := ⟨grownBy_trans h.out b.out⟩
instance [b : Gb C w W] [h : Blk w x cs t] [l : NeB x C.g] : Blk W x cs t := ⟨(b.out.block x (blk_lt h.out) (fun e => l.out (Option.some.inj e))).trans h.out⟩
end
end Go.Proofs.Ytnknnbpodpfljaa.S


namespace Go.Proofs.Ytnknnbpodpfljaa.S
open Go.RowKit Go.Sort Go.Proofs.Ytnknnbpodpfljaa.P Go.Proofs.Ytnknnbpodpfljaa.Q Go.Proofs.Ytnknnbpodpfljaa.V Go.Proofs.YtnknnbpodpfljaaW.PrintWords
set_option linter.unusedVariables false
set_option linter.unusedSimpArgs false
attribute [local go_sem] cell_b frozen_b swap_run
abbrev datV (C : SoC) : Value := .agg #[.func (.func 49) #[] C.lb, .func (.func 75) #[] C.sb]
set_option maxHeartbeats 8000000 in
set_option maxRecDepth 100000 in
set_option synthInstance.maxHeartbeats 400000 in
set_option synthInstance.maxSize 100000 in
theorem insertion_calls (C : SoC) [SoG C] (w : World) (D : Array E) (h : SoAt C w D) (a b : Nat) (hab : a ≤ b) (hb : b ≤ C.n) :
    Calls Try.prog 78 #[datV C, .int .i64 a, .int .i64 b] w fun e w' => e = .returned (.tuple #[]) ∧ SoAt C w' (insertionSort beforeE D a b) ∧ w.grownBy w' (some C.g) := by
  have j0 := So.mk h
  have hsm := SoG.small (C := C)
  have jx : NeB w.heap.size C.g := ⟨Nat.ne_of_gt h.lt⟩
  clear h
  have hu := Try.underlying88
  go_enter Try.func78, Try.ntmps78
  go_wp2
  go_loopw [6] (fun vi wr => ∃ (i : Nat) (dk : Array E), vi = .int .i64 i ∧ Aside0 (a < i) ∧ Aside0 (i ≤ b + 1) ∧ So C wr dk ∧ Fr C w wr ∧ Blk wr w.heap.size #[.func (.func 49) #[] C.lb, .func (.func 75) #[] C.sb] 88 ∧ Aside0 (insOuter beforeE a b i dk = insOuter beforeE a b (a + 1) D)) (fun vi _ => b + 1 - (intOf vi).toNat)
  case atStart => exact ⟨a + 1, D, by go_num, ⟨by omega⟩, ⟨by omega⟩, inferInstance, inferInstance, ⟨blk_new w _⟩, ⟨rfl⟩⟩
  case round =>
    clear j0
    obtain ⟨i, dk, rfl, HA, HI, j1, j2, j3, HO⟩ := hrel
    by_cases hib : i < b
    · have hib1 : decide ((i : Int) < (b : Int)) = true := decide_eq_true (by omega)
      go_wp2
      go_loopw [7] (fun vj wr2 => ∃ (j : Nat) (dj : Array E), vj = .int .i64 j ∧ Aside0 (a ≤ j) ∧ Aside0 (j ≤ i) ∧ So C wr2 dj ∧ Fr C w wr2 ∧ Blk wr2 w.heap.size #[.func (.func 49) #[] C.lb, .func (.func 75) #[] C.sb] 88 ∧ Aside0 (insInner beforeE a j dj = insInner beforeE a i dk)) (fun vj _ => (intOf vj).toNat)
      case atStart => exact ⟨i, dk, rfl, ⟨by have := HA.out; omega⟩, ⟨Nat.le_refl _⟩, j1, j2, j3, ⟨rfl⟩⟩
      case round =>
        clear j1 j2 j3
        obtain ⟨j, dj, rfl, HAJ, HJI, j1, j2, j3, HN⟩ := hrel
        have hjb := HJI.out
        have haj := HAJ.out
        by_cases hja : a < j
        · have hja1 : decide ((a : Int) < (j : Int)) = true := decide_eq_true (by omega)
          have x1 : Ix (j : Int) C.n := ⟨by omega, by omega⟩
          have x2 : Ix ((j : Int) - 1) C.n := ⟨by omega, by omega⟩
          have e1 : ((j : Int) - 1).toNat = j - 1 := by omega
          cases hl : beforeE dj[j]! dj[j - 1]! with
          | true =>
            go_wp2_with (first | (go_at_call 49; refine (less_at _ _).mono ?_; rintro e w2 ⟨he, hb⟩; rw [Int.toNat_natCast, e1, hl] at he; subst he; have jb := Bel.mk hb; clear hb))
            refine ⟨⟨j - 1, swp dj j (j - 1), by congr 1; omega, ⟨by omega⟩, ⟨by omega⟩, ?_, inferInstance, inferInstance, ⟨?_⟩⟩, by simp [intOf]; omega⟩
            · have k : So C (swapW C dj w2 (j : Int) ((j : Int) - 1)) (swp dj (j : Int).toNat ((j : Int) - 1).toNat) := inferInstance
              rw [Int.toNat_natCast, e1] at k
              exact k
            · rw [← HN.out, insInner_go beforeE a j dj hja hl]
          | false =>
            go_wp2_with (first | (go_at_call 49; refine (less_at _ _).mono ?_; rintro e w2 ⟨he, hb⟩; rw [Int.toNat_natCast, e1, hl] at he; subst he; have jb := Bel.mk hb; clear hb))
            refine ⟨⟨i + 1, dj, by go_num, ⟨by have := HA.out; omega⟩, ⟨by omega⟩, inferInstance, inferInstance, inferInstance, ⟨?_⟩⟩, by simp [intOf]; omega⟩
            rw [← HO.out, insOuter_go beforeE a b i dk hib, ← HN.out, insInner_stop beforeE a j dj (.inr hl)]
        · have hja1 : decide ((a : Int) < (j : Int)) = false := decide_eq_false (by omega)
          go_wp2
          refine ⟨⟨i + 1, dj, by go_num, ⟨by have := HA.out; omega⟩, ⟨by omega⟩, inferInstance, inferInstance, inferInstance, ⟨?_⟩⟩, by simp [intOf]; omega⟩
          rw [← HO.out, insOuter_go beforeE a b i dk hib, ← HN.out, insInner_stop beforeE a j dj (.inl (by omega))]
    · have hib1 : decide ((i : Int) < (b : Int)) = false := decide_eq_false (by omega)
      go_wp2
      go_end0
      refine ⟨rfl, ?_, Fr.out⟩
      have := HO.out
      rw [insOuter_stop beforeE a b i dk hib] at this
      unfold insertionSort
      rw [← this]
      exact So.out
end Go.Proofs.Ytnknnbpodpfljaa.S


namespace Go.Proofs.Ytnknnbpodpfljaa.S
open Go.RowKit Go.Sort Go.Proofs.Ytnknnbpodpfljaa.P Go.Proofs.Ytnknnbpodpfljaa.Q Go.Proofs.Ytnknnbpodpfljaa.V Go.Proofs.YtnknnbpodpfljaaW.PrintWords
set_option linter.unusedVariables false
set_option linter.unusedSimpArgs false
attribute [local go_sem] cell_b frozen_b swap_run
abbrev datC (C : SoC) : Array Value := #[.func (.func 49) #[] C.lb, .func (.func 75) #[] C.sb]
theorem so_cast {C : SoC} {W : World} {D D' : Array E} (h : So C W D) (e : D = D') : SoAt C W D' := e ▸ h.out
set_option maxHeartbeats 8000000 in
set_option maxRecDepth 100000 in
set_option synthInstance.maxHeartbeats 400000 in
set_option synthInstance.maxSize 100000 in
theorem siftDown_calls (C : SoC) [SoG C] (w : World) (D : Array E) (h : SoAt C w D) (lo hi first : Nat) (hf : first + hi ≤ C.n) (hlo : lo ≤ C.n) :
    Calls Try.prog 86 #[datV C, .int .i64 lo, .int .i64 hi, .int .i64 first] w fun e w' => e = .returned (.tuple #[]) ∧ SoAt C w' (siftDown beforeE hi first lo D) ∧ w.grownBy w' (some C.g) := by
  have j0 := So.mk h
  have hsm := SoG.small (C := C)
  have jx : NeB w.heap.size C.g := ⟨Nat.ne_of_gt h.lt⟩
  clear h
  have hu := Try.underlying88
  go_enter Try.func86, Try.ntmps86
  go_wp2
  go_loopw [8] (fun v wr => ∃ (r : Nat) (dk : Array E), v = .int .i64 r ∧ Aside0 (r ≤ C.n) ∧ So C wr dk ∧ Fr C w wr ∧ Blk wr w.heap.size (datC C) 88 ∧ Aside0 (siftDown beforeE hi first r dk = siftDown beforeE hi first lo D)) (fun v _ => hi - (intOf v).toNat)
  case atStart => exact ⟨lo, D, rfl, ⟨hlo⟩, inferInstance, inferInstance, ⟨blk_new w _⟩, ⟨rfl⟩⟩
  case round =>
    clear j0
    obtain ⟨r, dk, rfl, HR, j1, j2, j3, HO⟩ := hrel
    have hrn := HR.out
    have huf := HO.out
    rw [siftDown] at huf
    by_cases c1 : 2 * r + 1 ≥ hi
    · rw [dif_pos c1] at huf
      have huf := Aside0.mk huf
      have d1 : decide ((hi : Int) ≤ 2 * (r : Int) + 1) = true := decide_eq_true (by omega)
      go_wp2
      go_end0
      exact ⟨rfl, so_cast j1 huf.out, Fr.out⟩
    rw [dif_neg c1] at huf
    have d1 : decide ((hi : Int) ≤ 2 * (r : Int) + 1) = false := decide_eq_false (by omega)
    have x1 : Ix ((first : Int) + (2 * (r : Int) + 1)) C.n := ⟨by omega, by omega⟩
    have x0 : Ix ((first : Int) + (r : Int)) C.n := ⟨by omega, by omega⟩
    by_cases c2 : 2 * r + 1 + 1 < hi
    · have d2 : decide (2 * (r : Int) + 1 + 1 < (hi : Int)) = true := decide_eq_true (by omega)
      have x2 : Ix ((first : Int) + (2 * (r : Int) + 1) + 1) C.n := ⟨by omega, by omega⟩
      have x3 : Ix ((first : Int) + (2 * (r : Int) + 1 + 1)) C.n := ⟨by omega, by omega⟩
      cases l1 : beforeE dk[first + (2 * r + 1)]! dk[first + (2 * r + 1) + 1]! with
      | true =>
        have y1 : Les dk ((first : Int) + (2 * (r : Int) + 1)) ((first : Int) + (2 * (r : Int) + 1) + 1) true := Les.of l1 (by omega) (by omega)
        rw [l1, decide_eq_true c2, Bool.and_self, if_pos rfl] at huf
        clear l1
        cases l2 : beforeE dk[first + r]! dk[first + (2 * r + 2)]! with
        | true =>
          have y2 : Les dk ((first : Int) + (r : Int)) ((first : Int) + (2 * (r : Int) + 1 + 1)) true := Les.of l2 (by omega) (by omega)
          rw [l2, if_neg (by decide), dif_pos c2] at huf
          have huf := Aside0.mk huf
          clear l2
          go_wp2_with (first | (go_at_call 49; refine (less_is _ _).mono ?_; rintro e w2 ⟨rfl, hb⟩; have jb := Bel.mk hb; clear hb))
          refine ⟨⟨2 * r + 2, swp dk (first + r) (first + (2 * r + 2)), by first | rfl | (congr 1; omega), ⟨by omega⟩, ⟨so_cast (D' := swp dk (first + r) (first + (2 * r + 2))) inferInstance (by first | rfl | (congr 1 <;> omega))⟩, inferInstance, inferInstance, huf⟩, by simp [intOf]; omega⟩
        | false =>
          have y2 : Les dk ((first : Int) + (r : Int)) ((first : Int) + (2 * (r : Int) + 1 + 1)) false := Les.of l2 (by omega) (by omega)
          rw [l2, if_pos (by decide)] at huf
          have huf := Aside0.mk huf
          clear l2
          go_wp2_with (first | (go_at_call 49; refine (less_is _ _).mono ?_; rintro e w2 ⟨rfl, hb⟩; have jb := Bel.mk hb; clear hb))
          ((try simp only [Exit.inBlock, Exit.then]); refine bodyPost_ret (results_none rfl _ _ _) rfl ?_)
          exact ⟨rfl, so_cast inferInstance huf.out, Fr.out⟩
      | false =>
        have y1 : Les dk ((first : Int) + (2 * (r : Int) + 1)) ((first : Int) + (2 * (r : Int) + 1) + 1) false := Les.of l1 (by omega) (by omega)
        rw [l1, Bool.and_false, if_neg (by decide)] at huf
        clear l1
        cases l2 : beforeE dk[first + r]! dk[first + (2 * r + 1)]! with
        | true =>
          have y2 : Les dk ((first : Int) + (r : Int)) ((first : Int) + (2 * (r : Int) + 1)) true := Les.of l2 (by omega) (by omega)
          rw [l2, if_neg (by decide)] at huf
          have huf := Aside0.mk huf
          clear l2
          go_wp2_with (first | (go_at_call 49; refine (less_is _ _).mono ?_; rintro e w2 ⟨rfl, hb⟩; have jb := Bel.mk hb; clear hb))
          refine ⟨⟨2 * r + 1, swp dk (first + r) (first + (2 * r + 1)), by first | rfl | (congr 1; omega), ⟨by omega⟩, ⟨so_cast (D' := swp dk (first + r) (first + (2 * r + 1))) inferInstance (by first | rfl | (congr 1 <;> omega))⟩, inferInstance, inferInstance, huf⟩, by simp [intOf]; omega⟩
        | false =>
          have y2 : Les dk ((first : Int) + (r : Int)) ((first : Int) + (2 * (r : Int) + 1)) false := Les.of l2 (by omega) (by omega)
          rw [l2, if_pos (by decide)] at huf
          have huf := Aside0.mk huf
          clear l2
          go_wp2_with (first | (go_at_call 49; refine (less_is _ _).mono ?_; rintro e w2 ⟨rfl, hb⟩; have jb := Bel.mk hb; clear hb))
          ((try simp only [Exit.inBlock, Exit.then]); refine bodyPost_ret (results_none rfl _ _ _) rfl ?_)
          exact ⟨rfl, so_cast inferInstance huf.out, Fr.out⟩
    · have d2 : decide (2 * (r : Int) + 1 + 1 < (hi : Int)) = false := decide_eq_false (by omega)
      rw [decide_eq_false c2, Bool.false_and, if_neg (by decide)] at huf
      cases l2 : beforeE dk[first + r]! dk[first + (2 * r + 1)]! with
      | true =>
        have y2 : Les dk ((first : Int) + (r : Int)) ((first : Int) + (2 * (r : Int) + 1)) true := Les.of l2 (by omega) (by omega)
        rw [l2, if_neg (by decide)] at huf
        have huf := Aside0.mk huf
        clear l2
        go_wp2_with (first | (go_at_call 49; refine (less_is _ _).mono ?_; rintro e w2 ⟨rfl, hb⟩; have jb := Bel.mk hb; clear hb))
        refine ⟨⟨2 * r + 1, swp dk (first + r) (first + (2 * r + 1)), by first | rfl | (congr 1; omega), ⟨by omega⟩, ⟨so_cast (D' := swp dk (first + r) (first + (2 * r + 1))) inferInstance (by first | rfl | (congr 1 <;> omega))⟩, inferInstance, inferInstance, huf⟩, by simp [intOf]; omega⟩
      | false =>
        have y2 : Les dk ((first : Int) + (r : Int)) ((first : Int) + (2 * (r : Int) + 1)) false := Les.of l2 (by omega) (by omega)
        rw [l2, if_pos (by decide)] at huf
        have huf := Aside0.mk huf
        clear l2
        go_wp2_with (first | (go_at_call 49; refine (less_is _ _).mono ?_; rintro e w2 ⟨rfl, hb⟩; have jb := Bel.mk hb; clear hb))
        ((try simp only [Exit.inBlock, Exit.then]); refine bodyPost_ret (results_none rfl _ _ _) rfl ?_)
        exact ⟨rfl, so_cast inferInstance huf.out, Fr.out⟩
theorem siftDown_at {C : SoC} {W : World} {D : Array E} [SoG C] [h : So C W D] (lo' hi' first' : Int) (lo hi first : Nat) (e1 : lo' = lo) (e2 : hi' = hi) (e3 : first' = first) (hf : first + hi ≤ C.n) (hlo : lo ≤ C.n) :
    Calls Try.prog 86 #[datV C, .int .i64 lo', .int .i64 hi', .int .i64 first'] W fun e w' => e = .returned (.tuple #[]) ∧ SoAt C w' (siftDown beforeE hi first lo D) ∧ W.grownBy w' (some C.g) := by
  subst e1 e2 e3
  exact siftDown_calls C W D h.out lo hi first hf hlo
end Go.Proofs.Ytnknnbpodpfljaa.S


namespace Go.Proofs.Ytnknnbpodpfljaa.S
open Go.RowKit Go.Sort Go.Proofs.Ytnknnbpodpfljaa.P Go.Proofs.Ytnknnbpodpfljaa.Q Go.Proofs.Ytnknnbpodpfljaa.V Go.Proofs.YtnknnbpodpfljaaW.PrintWords
set_option linter.unusedVariables false
set_option linter.unusedSimpArgs false
attribute [local go_sem] cell_b frozen_b swap_run
set_option maxHeartbeats 8000000 in
set_option maxRecDepth 100000 in
set_option synthInstance.maxHeartbeats 400000 in
set_option synthInstance.maxSize 100000 in
theorem heapSort_calls (C : SoC) [SoG C] (w : World) (D : Array E) (h : SoAt C w D) (a b : Nat) (hab : a ≤ b) (hb : b ≤ C.n) :
    Calls Try.prog 79 #[datV C, .int .i64 a, .int .i64 b] w fun e w' => e = .returned (.tuple #[]) ∧ SoAt C w' (heapSort beforeE D a b) ∧ w.grownBy w' (some C.g) := by
  have j0 := So.mk h
  have hsm := SoG.small (C := C)
  have jx : NeB w.heap.size C.g := ⟨Nat.ne_of_gt h.lt⟩
  clear h
  have hu := Try.underlying88
  have hq : Int.tdiv ((b : Int) - (a : Int) - 1) 2 = (((b - a - 1) / 2 : Nat) : Int) := by
    by_cases h0 : b - a = 0
    · rw [h0, show (b : Int) - (a : Int) - 1 = -1 by omega]; decide
    · rw [show (b : Int) - (a : Int) - 1 = ((b - a - 1 : Nat) : Int) by omega]; rfl
  go_enter Try.func79, Try.ntmps79
  go_wp2
  go_loopw [9] (fun v wr => ∃ (k : Nat) (z : Int) (dk : Array E), v = .int .i64 z ∧ Aside0 (z = (k : Int) - 1) ∧ Aside0 (k ≤ (b - a - 1) / 2 + 1) ∧ So C wr dk ∧ Fr C w wr ∧ Blk wr w.heap.size (datC C) 88 ∧ Aside0 (heapBuild beforeE (b - a) a k dk = heapBuild beforeE (b - a) a ((b - a - 1) / 2 + 1) D)) (fun v _ => (intOf v + 1).toNat)
  case atStart =>
    refine ⟨(b - a - 1) / 2 + 1, _, D, rfl, ⟨?_⟩, ⟨Nat.le_refl _⟩, inferInstance, inferInstance, ⟨blk_new w _⟩, ⟨rfl⟩⟩
    omega
  case round =>
    clear j0
    obtain ⟨k, z, dk, rfl, HZ, HK, j1, j2, j3, HO⟩ := hrel
    have hz := HZ.out
    have hk := HK.out
    cases k with
    | succ m =>
      obtain rfl : z = (m : Int) := by omega
      have d1 : decide (0 ≤ (m : Int)) = true := decide_eq_true (by omega)
      clear hq hz
      go_wp2_with (first | (go_at_call 86; refine (siftDown_at _ _ _ m (b - a) a rfl (by omega) rfl (by omega) (by omega)).mono ?_; rintro e w2 ⟨rfl, hs, hg⟩; have k1 := So.mk hs; have k2 := Gb.mk hg; clear hs hg))
      exact ⟨⟨m, _, _, rfl, ⟨rfl⟩, ⟨by omega⟩, k1, inferInstance, inferInstance, ⟨HO.out⟩⟩, by simp [intOf]⟩
    | zero =>
      obtain rfl : z = -1 := by omega
      have ho : dk = heapBuild beforeE (b - a) a ((b - a - 1) / 2 + 1) D := HO.out
      clear hq hz HO
      go_wp2
      go_loopw [10] (fun v wr => ∃ (k : Nat) (z : Int) (dj : Array E), v = .int .i64 z ∧ Aside0 (z = (k : Int) - 1) ∧ Aside0 (k ≤ b - a) ∧ So C wr dj ∧ Fr C w wr ∧ Blk wr w.heap.size (datC C) 88 ∧ Aside0 (heapPop beforeE a k dj = heapSort beforeE D a b)) (fun v _ => (intOf v + 1).toNat)
      case atStart => exact ⟨b - a, _, dk, rfl, ⟨by omega⟩, ⟨Nat.le_refl _⟩, j1, j2, j3, ⟨by rw [ho]; rfl⟩⟩
      case round =>
        clear j1 j2 j3 HZ HK ho hk
        obtain ⟨k, z, dj, rfl, HZ, HK, j1, j2, j3, HO⟩ := hrel
        have hz := HZ.out
        have hk := HK.out
        cases k with
        | succ m =>
          obtain rfl : z = (m : Int) := by omega
          have d1 : decide (0 ≤ (m : Int)) = true := decide_eq_true (by omega)
          have x1 : Ix (a : Int) C.n := ⟨by omega, by omega⟩
          have x2 : Ix ((a : Int) + (m : Int)) C.n := ⟨by omega, by omega⟩
          clear hz
          go_wp2_with (first | (go_at_call 86; refine (siftDown_at _ _ _ 0 m a rfl rfl rfl (by omega) (by omega)).mono ?_; rintro e w2 ⟨rfl, hs, hg⟩; have k1 := So.mk hs; have k2 := Gb.mk hg; clear hs hg))
          refine ⟨⟨m, _, _, rfl, ⟨rfl⟩, ⟨by omega⟩, ⟨so_cast (D' := siftDown beforeE m a 0 (swp dj a (a + m))) k1 (by first | rfl | (congr 2 <;> omega))⟩, inferInstance, inferInstance, ⟨HO.out⟩⟩, by simp [intOf]⟩
        | zero =>
          obtain rfl : z = -1 := by omega
          have ho : dj = heapSort beforeE D a b := HO.out
          clear hz
          go_wp2
          go_end0
          exact ⟨rfl, so_cast j1 ho, Fr.out⟩
end Go.Proofs.Ytnknnbpodpfljaa.S


namespace Go.Proofs.Ytnknnbpodpfljaa.S
open Go.RowKit Go.Sort Go.Proofs.Ytnknnbpodpfljaa.P Go.Proofs.Ytnknnbpodpfljaa.Q Go.Proofs.Ytnknnbpodpfljaa.V Go.Proofs.YtnknnbpodpfljaaW.PrintWords
set_option linter.unusedVariables false
set_option linter.unusedSimpArgs false
attribute [local go_sem] cell_b frozen_b swap_run
class Fx (x : outParam Nat) (w0 W : World) : Prop where out : w0.grownBy W (some x)
class Gx (x : outParam Nat) (w : outParam World) (W : World) : Prop where out : w.grownBy W (some x)
section
variable {C : SoC} {w w0 W : World} {D : Array E} {o : Obj} {n x y i : Nat} {v : Value} {cs : Array Value} {t : TypeId}
instance [h : Fx x w W] : Fx x w (W.alloc o) := ⟨grownBy_trans h.out (grownBy_below (below_alloc (RowKit.Below.refl _ _) o))⟩
instance [h : Fx x w W] : Fx x w W.drew := ⟨grownBy_trans h.out (grownBy_below (below_drew1 (RowKit.Below.refl _ _)))⟩
instance [h : Fx x w W] : Fx x w (W.drewN n) := ⟨grownBy_trans h.out (grownBy_below (pw_below_drewN (RowKit.Below.refl _ _) n))⟩
instance [b : Bel w W] [h : Fx x w0 w] : Fx x w0 W := ⟨grownBy_trans h.out (grownBy_below b.out)⟩
instance [b : Gx x w W] [h : Fx x w0 w] : Fx x w0 W := ⟨grownBy_trans h.out b.out⟩
instance [h : Fx x w W] : Fx x w (W.setCell ⟨x, i, none⟩ v) := ⟨grownBy_trans h.out ⟨rfl, rfl, rfl, by simp, fun k _ hk => Below.heap_setCell W ⟨x, i, none⟩ v k (fun e => hk (by rw [e]))⟩⟩
instance [b : Gx x w W] [h : Blk w y cs t] [l : NeB y x] : Blk W y cs t := ⟨(b.out.block y (blk_lt h.out) (fun e => l.out (Option.some.inj e))).trans h.out⟩
instance [b : Gx x w W] [h : From w0 w] [l : Nw w0 x] : From w0 W := ⟨h.out.grown b.out h.out.size (fun k hk => by cases hk; exact l.out)⟩
end
set_option maxHeartbeats 8000000 in
set_option maxRecDepth 100000 in
set_option synthInstance.maxHeartbeats 400000 in
set_option synthInstance.maxSize 100000 in
theorem order2_calls (C : SoC) [SoG C] (w : World) (D : Array E) (h : SoAt C w D) (a b : Int) (ha : Ix a C.n) (hb : Ix b C.n) (x : Nat) (s : Int) (hs : 0 ≤ s) (hs2 : s ≤ 100) (hx : w.heap[x]? = some (.cells #[.int .i64 s] 3 (0, 0))) (hg : x ≠ C.g) (hbs : x ≠ C.bs) :
    Calls Try.prog 91 #[datV C, .int .i64 a, .int .i64 b, .pointer (some ⟨x, 0, none⟩)] w fun e w' => ∃ r1 r2 s' : Int, e = .returned (.tuple #[.int .i64 r1, .int .i64 r2]) ∧ ((r1 = a ∧ r2 = b) ∨ (r1 = b ∧ r2 = a)) ∧ 0 ≤ s' ∧ s' ≤ s + 1 ∧ SoAt C w' D ∧ w'.heap[x]? = some (.cells #[.int .i64 s'] 3 (0, 0)) ∧ w.grownBy w' (some x) := by
  have j0 := So.mk h
  have hxl : x < w.heap.size := blk_lt hx
  have jn : NeB w.heap.size x := ⟨by omega⟩
  have jn2 : NeB x w.heap.size := ⟨by omega⟩
  have jg : NeB x C.g := ⟨hg⟩
  have jb : NeB x C.bs := ⟨hbs⟩
  have jx := Blk.mk hx
  have jf : Fx x w w := ⟨grownBy_below (RowKit.Below.refl _ _)⟩
  have jy := fun o : Obj => blk_new w o
  clear h hx hg hbs hxl
  have hu := Try.underlying88
  cases l : beforeE D[b.toNat]! D[a.toNat]! with
  | true =>
    have y1 : Les D b a true := ⟨l⟩
    clear l
    go_enter Try.func91, Try.ntmps91
    go_wp2_with (first | (go_at_call 49; refine (less_is _ _).mono ?_; rintro e w2 ⟨rfl, hb⟩; have jb := Bel.mk hb; clear hb))
    go_ret2
    exact ⟨b, a, s + 1, rfl, .inr ⟨rfl, rfl⟩, by omega, by omega, So.out, Blk.out, Fx.out⟩
  | false =>
    have y1 : Les D b a false := ⟨l⟩
    clear l
    go_enter Try.func91, Try.ntmps91
    go_wp2_with (first | (go_at_call 49; refine (less_is _ _).mono ?_; rintro e w2 ⟨rfl, hb⟩; have jb := Bel.mk hb; clear hb))
    go_ret2
    exact ⟨a, b, s, rfl, .inl ⟨rfl, rfl⟩, by omega, by omega, So.out, Blk.out, Fx.out⟩
theorem ix_of {r1 r2 a b : Int} {n : Nat} (h : (r1 = a ∧ r2 = b) ∨ (r1 = b ∧ r2 = a)) (ha : Ix a n) (hb : Ix b n) : Ix r1 n ∧ Ix r2 n := by
  rcases h with ⟨rfl, rfl⟩ | ⟨rfl, rfl⟩
  · exact ⟨ha, hb⟩
  · exact ⟨hb, ha⟩
set_option maxHeartbeats 8000000 in
set_option maxRecDepth 100000 in
set_option synthInstance.maxHeartbeats 400000 in
set_option synthInstance.maxSize 100000 in
theorem median_calls (C : SoC) [SoG C] (w : World) (D : Array E) (h : SoAt C w D) (a b c : Int) (ha : Ix a C.n) (hb : Ix b C.n) (hc : Ix c C.n) (x : Nat) (s : Int) (hs : 0 ≤ s) (hs2 : s ≤ 90) (hx : w.heap[x]? = some (.cells #[.int .i64 s] 3 (0, 0))) (hg : x ≠ C.g) (hbs : x ≠ C.bs) :
    Calls Try.prog 90 #[datV C, .int .i64 a, .int .i64 b, .int .i64 c, .pointer (some ⟨x, 0, none⟩)] w fun e w' => ∃ r s' : Int, e = .returned (.int .i64 r) ∧ (r = a ∨ r = b ∨ r = c) ∧ SoAt C w' D ∧ w'.heap[x]? = some (.cells #[.int .i64 s'] 3 (0, 0)) ∧ w.grownBy w' (some x) := by
  have j0 := So.mk h
  have hxl : x < w.heap.size := blk_lt hx
  have jn2 : NeB w.heap.size x := ⟨by omega⟩
  have jx := Blk.mk hx
  have jf : Fx x w w := ⟨grownBy_below (RowKit.Below.refl _ _)⟩
  have jy := Blk.mk (blk_new w (.cells (datC C) 88))
  have jx2 : Blk (w.alloc (.cells (datC C) 88)) x #[.int .i64 s] 3 := ⟨blk_alloc hx _⟩
  clear h hx hxl
  have hu := Try.underlying88
  go_enter Try.func90, Try.ntmps90
  go_wp2_with (first | (go_at_call 91; refine (order2_calls C _ _ So.out _ _ inferInstance inferInstance x _ (by omega) (by omega) Blk.out hg hbs).mono ?_; rintro e w2 ⟨r1, r2, s2, rfl, hr, h1, h2, h3, h4, h5⟩; obtain ⟨i1, i2⟩ := ix_of (n := C.n) hr inferInstance inferInstance; have k1 := So.mk h3; have k2 := Blk.mk h4; have k3 := Gx.mk h5; clear h3 h4 h5))
  go_ret
  refine ⟨_, _, rfl, ?_, So.out, Blk.out, Fx.out⟩
  omega
set_option maxHeartbeats 8000000 in
set_option maxRecDepth 100000 in
set_option synthInstance.maxHeartbeats 400000 in
set_option synthInstance.maxSize 100000 in
theorem choosePivot_calls (C : SoC) [SoG C] (w : World) (D : Array E) (h : SoAt C w D) (a b : Nat) (hab : a < b) (hb : b ≤ C.n) :
    Calls Try.prog 81 #[datV C, .int .i64 a, .int .i64 b] w fun e w' => ∃ p k : Int, e = .returned (.tuple #[.int .i64 p, .int .i64 k]) ∧ a ≤ p ∧ p < b ∧ (k = 0 ∨ k = 1 ∨ k = 2) ∧ RowKit.Below w.heap.size w w' := by
  have j0 := So.mk h
  have hgl := h.lt
  have hbl := h.bs_lt
  have hsm := SoG.small (C := C)
  obtain ⟨q, hq⟩ : ∃ q : Int, Int.tdiv ((b : Int) - (a : Int)) 4 = q := ⟨_, rfl⟩
  have hq1 : 0 ≤ q ∧ 4 * q ≤ (b : Int) - a := by
    rw [← hq, show (b : Int) - (a : Int) = ((b - a : Nat) : Int) by omega]
    have : Int.tdiv (((b - a : Nat)) : Int) 4 = (((b - a) / 4 : Nat) : Int) := rfl
    rw [this]
    omega
  have jy := Blk.mk (blk_new w (.cells (datC C) 88))
  have jx : Blk ((w.alloc (.cells (datC C) 88)).alloc (.cells #[.int .i64 0] 3)) (w.heap.size + 1) #[.int .i64 0] 3 := ⟨by have := blk_new (w.alloc (.cells (datC C) 88)) (.cells #[.int .i64 0] 3); simpa using this⟩
  have jn : Nw w (w.heap.size + 1) := ⟨by omega⟩
  have hu := Try.underlying88
  have d2 : decide (50 ≤ (b : Int) - (a : Int)) = false := decide_eq_false (by omega)
  by_cases h8 : 8 ≤ (b : Int) - (a : Int)
  · have d1 : decide (8 ≤ (b : Int) - (a : Int)) = true := decide_eq_true h8
    have x1 : Ix ((a : Int) + q) C.n := ⟨by omega, by omega⟩
    have x2 : Ix ((a : Int) + q * 2) C.n := ⟨by omega, by omega⟩
    have x3 : Ix ((a : Int) + q * 3) C.n := ⟨by omega, by omega⟩
    go_enter Try.func81, Try.ntmps81
    go_wp2_with (first | (go_at_call 90; refine (median_calls C _ _ So.out _ _ _ inferInstance inferInstance inferInstance (w.heap.size + 1) _ (by omega) (by omega) Blk.out (by omega) (by omega)).mono ?_; rintro e w2 ⟨r, s2, rfl, hr, h3, h4, h5⟩; have k1 := So.mk h3; have k2 := Blk.mk h4; have k3 := Gx.mk h5; clear h3 h4 h5))
    all_goals go_ret2
    all_goals exact ⟨_, _, rfl, by omega, by omega, by omega, From.out⟩
  · have d1 : decide (8 ≤ (b : Int) - (a : Int)) = false := decide_eq_false h8
    go_enter Try.func81, Try.ntmps81
    go_wp2
    all_goals go_ret2
    all_goals exact ⟨_, _, rfl, by omega, by omega, by omega, From.out⟩
end Go.Proofs.Ytnknnbpodpfljaa.S


namespace Go.Proofs.Ytnknnbpodpfljaa.S
open Go.RowKit Go.Sort Go.Proofs.Ytnknnbpodpfljaa.P Go.Proofs.Ytnknnbpodpfljaa.Q Go.Proofs.Ytnknnbpodpfljaa.V Go.Proofs.YtnknnbpodpfljaaW.PrintWords
set_option linter.unusedVariables false
set_option linter.unusedSimpArgs false
attribute [local go_sem] cell_b frozen_b swap_run
theorem partial_eq {lt : E → E → Bool} {a b : Nat} {D : Array E} (h : b - a < 50) : partialInsertionSort lt D a b = (D, decide (scanSorted lt D b (a + 1) = b)) := by
  unfold partialInsertionSort
  rw [partialIns]
  by_cases hb : scanSorted lt D b (a + 1) = b
  · simp [hb]
  · simp [hb, h]
set_option maxHeartbeats 8000000 in
set_option maxRecDepth 100000 in
set_option synthInstance.maxHeartbeats 400000 in
set_option synthInstance.maxSize 100000 in
theorem partial_calls (C : SoC) [SoG C] (w : World) (D : Array E) (h : SoAt C w D) (a b : Nat) (hab : a < b) (hb : b ≤ C.n) :
    Calls Try.prog 83 #[datV C, .int .i64 a, .int .i64 b] w fun e w' => ∃ r : Bool, e = .returned (.bool r) ∧ partialInsertionSort beforeE D a b = (D, r) ∧ RowKit.Below w.heap.size w w' := by
  have j0 := So.mk h
  have hsm := SoG.small (C := C)
  have HP := Aside0.mk (partial_eq (lt := beforeE) (D := D) (show b - a < 50 by omega))
  have hbx := blk_new w (.cells (datC C) 88)
  have d50 : decide ((b : Int) - (a : Int) < 50) = true := decide_eq_true (by omega)
  clear h
  have hu := Try.underlying88
  go_enter Try.func83, Try.ntmps83
  go_wp2
  go_loopw [7, 8] (fun v7 v8 wr => v7 = .int .i64 ((a : Int) + 1) ∧ v8 = .int .i64 0 ∧ So C wr D ∧ From w wr ∧ Blk wr w.heap.size (datC C) 88) (fun _ _ _ => 0)
  case atStart => exact ⟨rfl, rfl, inferInstance, inferInstance, ⟨hbx⟩⟩
  case round =>
    clear j0 hbx
    obtain ⟨rfl, rfl, j1, j2, j3⟩ := hrel
    go_wp2
    go_loopw [7] (fun v7 wr => ∃ i : Nat, v7 = .int .i64 i ∧ Aside0 (a < i) ∧ Aside0 (i ≤ b) ∧ So C wr D ∧ From w wr ∧ Blk wr w.heap.size (datC C) 88 ∧ Aside0 (scanSorted beforeE D b i = scanSorted beforeE D b (a + 1))) (fun v _ => b - (intOf v).toNat)
    case atStart => exact ⟨a + 1, by go_num, ⟨by omega⟩, ⟨by omega⟩, j1, j2, j3, ⟨rfl⟩⟩
    case round =>
      clear j1 j2 j3
      obtain ⟨i, rfl, HA, HB, j1, j2, j3, HO⟩ := hrel
      have hia := HA.out
      have hib := HB.out
      by_cases c1 : i < b
      · have d1 : decide ((i : Int) < (b : Int)) = true := decide_eq_true (by omega)
        have d3 : ((i : Int) == (b : Int)) = false := beq_eq_false_iff_ne.mpr (by omega)
        have x1 : Ix (i : Int) C.n := ⟨by omega, by omega⟩
        have x2 : Ix ((i : Int) - 1) C.n := ⟨by omega, by omega⟩
        cases l : beforeE D[i]! D[i - 1]! with
        | true =>
          have y1 : Les D (i : Int) ((i : Int) - 1) true := Les.of l rfl (by omega)
          have hs := Aside0.mk (scanSorted_stop (lt := beforeE) D b i (.inr l))
          clear l
          go_wp2_with (first | (go_at_call 49; refine (less_is _ _).mono ?_; rintro e w2 ⟨rfl, hb⟩; have jb := Bel.mk hb; clear hb))
          go_ret
          refine ⟨false, rfl, ?_, From.out⟩
          rw [HP.out, ← HO.out, hs.out, decide_eq_false (by omega)]
        | false =>
          have y1 : Les D (i : Int) ((i : Int) - 1) false := Les.of l rfl (by omega)
          have hs := Aside0.mk (scanSorted_go (lt := beforeE) D b i c1 l)
          clear l
          go_wp2_with (first | (go_at_call 49; refine (less_is _ _).mono ?_; rintro e w2 ⟨rfl, hb⟩; have jb := Bel.mk hb; clear hb))
          exact ⟨⟨i + 1, by go_num, ⟨by omega⟩, ⟨by omega⟩, inferInstance, inferInstance, inferInstance, ⟨by rw [← HO.out, hs.out]⟩⟩, by simp [intOf]; omega⟩
      · have d1 : decide ((i : Int) < (b : Int)) = false := decide_eq_false (by omega)
        obtain rfl : i = b := by omega
        have hs := Aside0.mk (scanSorted_stop (lt := beforeE) D i i (.inl (by omega)))
        go_wp2
        go_ret
        refine ⟨true, rfl, ?_, From.out⟩
        rw [HP.out, ← HO.out, hs.out, decide_eq_true rfl]
end Go.Proofs.Ytnknnbpodpfljaa.S


namespace Go.Proofs.Ytnknnbpodpfljaa.S
open Go.RowKit Go.Sort Go.Proofs.Ytnknnbpodpfljaa.P Go.Proofs.Ytnknnbpodpfljaa.Q Go.Proofs.Ytnknnbpodpfljaa.V Go.Proofs.YtnknnbpodpfljaaW.PrintWords
set_option linter.unusedVariables false
set_option linter.unusedSimpArgs false
attribute [local go_sem] cell_b frozen_b swap_run
theorem partition_yes (D : Array E) (a b p i j : Nat) (hi : scanUp (fun x => beforeE x (swp D a p)[a]!) (swp D a p) (b - 1) (a + 1) = i) (hj : scanDown (fun x => !beforeE x (swp D a p)[a]!) (swp D a p) i (b - 1) = j) (h : i > j) :
    partition beforeE D a b p = (j, true, swp (swp D a p) j a) := by
  unfold partition
  simp only [hi, hj, if_pos h]
theorem partition_no (D : Array E) (a b p i j : Nat) (hi : scanUp (fun x => beforeE x (swp D a p)[a]!) (swp D a p) (b - 1) (a + 1) = i) (hj : scanDown (fun x => !beforeE x (swp D a p)[a]!) (swp D a p) i (b - 1) = j) (h : ¬ i > j) :
    partition beforeE D a b p = ((partLoop beforeE a (i + 1) (j - 1) (swp (swp D a p) i j)).1, false, swp (partLoop beforeE a (i + 1) (j - 1) (swp (swp D a p) i j)).2 (partLoop beforeE a (i + 1) (j - 1) (swp (swp D a p) i j)).1 a) := by
  unfold partition
  simp only [hi, hj, if_neg h]
set_option maxHeartbeats 16000000 in
set_option maxRecDepth 100000 in
set_option synthInstance.maxHeartbeats 400000 in
set_option synthInstance.maxSize 100000 in
theorem partition_calls (C : SoC) [SoG C] (w : World) (D : Array E) (h : SoAt C w D) (a b p : Nat) (hap : a ≤ p) (hpb : p < b) (hb : b ≤ C.n) :
    Calls Try.prog 85 #[datV C, .int .i64 a, .int .i64 b, .int .i64 p] w fun e w' => e = .returned (.tuple #[.int .i64 (partition beforeE D a b p).1, .bool (partition beforeE D a b p).2.1]) ∧ SoAt C w' (partition beforeE D a b p).2.2 ∧ w.grownBy w' (some C.g) := by
  have j0 := So.mk h
  have hsm := SoG.small (C := C)
  have jx : NeB w.heap.size C.g := ⟨Nat.ne_of_gt h.lt⟩
  have jy0 := Blk.mk (blk_new w (.cells (datC C) 88))
  have x5 : Ix (a : Int) C.n := ⟨by omega, by omega⟩
  have x6 : Ix (p : Int) C.n := ⟨by omega, by omega⟩
  obtain ⟨R, hRR⟩ : ∃ R, partition beforeE D a b p = R := ⟨_, rfl⟩
  rw [hRR]
  have hRR := Aside0.mk hRR.symm
  clear h
  have hu := Try.underlying88
  go_enter Try.func85, Try.ntmps85
  go_wp2
  have jq : So C (swapW C D (w.alloc (.cells (datC C) 88)) (a : Int) (p : Int)) (swp D a p) := ⟨so_cast (D' := swp D a p) inferInstance rfl⟩
  have jf : Fr C w (swapW C D (w.alloc (.cells (datC C) 88)) (a : Int) (p : Int)) := inferInstance
  have jy : Blk (swapW C D (w.alloc (.cells (datC C) 88)) (a : Int) (p : Int)) w.heap.size (datC C) 88 := inferInstance
  clear j0 jy0
  go_loopw [10] (fun v wr => ∃ i1 : Nat, v = .int .i64 i1 ∧ Aside0 (a < i1) ∧ Aside0 (i1 ≤ b - 1 + 1) ∧ So C wr (swp D a p) ∧ Fr C w wr ∧ Blk wr w.heap.size (datC C) 88 ∧ Aside0 (scanUp (fun x => beforeE x (swp D a p)[a]!) (swp D a p) (b - 1) i1 = scanUp (fun x => beforeE x (swp D a p)[a]!) (swp D a p) (b - 1) (a + 1))) (fun v _ => b - 1 + 1 - (intOf v).toNat)
  case atStart => exact ⟨a + 1, by first | rfl | go_num, ⟨by omega⟩, ⟨by omega⟩, inferInstance, inferInstance, inferInstance, ⟨rfl⟩⟩
  case round =>
    clear jq jy jf
    obtain ⟨i1, rfl, HA1, HB1, m1, m2, m3, HU1⟩ := hrel
    have ha1 := HA1.out
    have hb1 := HB1.out
    have x2 : Ix (a : Int) C.n := ⟨by omega, by omega⟩
    by_cases c1 : i1 ≤ b - 1 ∧ beforeE (swp D a p)[i1]! (swp D a p)[a]! = true
    · obtain ⟨c1, l⟩ := c1
      have d1 : decide ((i1 : Int) ≤ (b : Int) - 1) = true := decide_eq_true (by omega)
      have x1 : Ix (i1 : Int) C.n := ⟨by omega, by omega⟩
      have y1 : Les (swp D a p) (i1 : Int) (a : Int) true := Les.of l rfl rfl
      have hs := Aside0.mk (scanUp_go (fun x => beforeE x (swp D a p)[a]!) (swp D a p) (b - 1) i1 c1 l)
      clear l
      go_wp2_with (first | (go_at_call 49; refine (less_is _ _).mono ?_; rintro e w2 ⟨rfl, hb⟩; have jb := Bel.mk hb; clear hb))
      first
        | exact ⟨⟨i1 + 1, by first | rfl | go_num, ⟨by omega⟩, ⟨by omega⟩, inferInstance, inferInstance, inferInstance, ⟨by rw [← HU1.out, hs.out]⟩⟩, by simp [intOf]; omega⟩
        | (go_roundw; (case rel => ((repeat apply Exists.intro); exact ⟨⟨i1 + 1, by first | rfl | go_num, ⟨by omega⟩, ⟨by omega⟩, inferInstance, inferInstance, inferInstance, ⟨by rw [← HU1.out, hs.out]⟩⟩, (by first | rfl | (simp only [Int.natCast_add, Int.natCast_one]; rfl) | (simp only [Int.natCast_add, Int.natCast_one, ez]; rfl))⟩)); (case measure => first | (simp [intOf]; omega) | (simp [intOf]; done)))
    · have Hi1 : Aside0 (scanUp (fun x => beforeE x (swp D a p)[a]!) (swp D a p) (b - 1) (a + 1) = i1) := ⟨by
        rw [← HU1.out]
        refine scanUp_end (fun x => beforeE x (swp D a p)[a]!) (swp D a p) (b - 1) i1 ?_
        by_cases c : i1 ≤ b - 1
        · refine .inr ?_
          have : beforeE (swp D a p)[i1]! (swp D a p)[a]! = false := by
            cases h : beforeE (swp D a p)[i1]! (swp D a p)[a]! with
            | true => exact absurd ⟨c, h⟩ c1
            | false => rfl
          simp [this]
        · exact .inl c⟩
      have step : (i1 ≤ b - 1 ∧ beforeE (swp D a p)[i1]! (swp D a p)[a]! = false) ∨ ¬ i1 ≤ b - 1 := by
        by_cases c : i1 ≤ b - 1
        · refine .inl ⟨c, ?_⟩
          cases h : beforeE (swp D a p)[i1]! (swp D a p)[a]! with
          | true => exact absurd ⟨c, h⟩ c1
          | false => rfl
        · exact .inr c
      clear c1 HU1
      rcases step with ⟨c1, l⟩ | c1
      · have d1 : decide ((i1 : Int) ≤ (b : Int) - 1) = true := decide_eq_true (by omega)
        have x1 : Ix (i1 : Int) C.n := ⟨by omega, by omega⟩
        have y1 : Les (swp D a p) (i1 : Int) (a : Int) false := Les.of l rfl rfl
        have EA := Aside0.mk l
        clear l
        go_wp2_with (first | (go_at_call 49; refine (less_is _ _).mono ?_; rintro e w2 ⟨rfl, hb⟩; have jb := Bel.mk hb; clear hb))
        clear d1
        go_loopw [11] (fun v wr => ∃ j1 : Nat, v = .int .i64 j1 ∧ Aside0 (i1 ≤ j1 + 1) ∧ Aside0 (j1 ≤ b - 1) ∧ So C wr (swp D a p) ∧ Fr C w wr ∧ Blk wr w.heap.size (datC C) 88 ∧ Aside0 (scanDown (fun x => !beforeE x (swp D a p)[a]!) (swp D a p) i1 j1 = scanDown (fun x => !beforeE x (swp D a p)[a]!) (swp D a p) i1 (b - 1))) (fun v _ => (intOf v).toNat)
        case atStart => exact ⟨b - 1, by first | rfl | (congr 1; omega), ⟨by omega⟩, ⟨by omega⟩, inferInstance, inferInstance, inferInstance, ⟨rfl⟩⟩
        case round =>
          clear m1 m2 m3
          obtain ⟨j1, rfl, HC1, HD1, n1, n2, n3, HU1⟩ := hrel
          have hc1 := HC1.out
          have hd1 := HD1.out
          by_cases c2 : i1 ≤ j1 ∧ beforeE (swp D a p)[j1]! (swp D a p)[a]! = false
          · obtain ⟨c2, l⟩ := c2
            have d2 : decide ((i1 : Int) ≤ (j1 : Int)) = true := decide_eq_true (by omega)
            have d2n : decide (i1 ≤ j1) = true := decide_eq_true (by omega)
            have x3 : Ix (j1 : Int) C.n := ⟨by omega, by omega⟩
            have y2 : Les (swp D a p) (j1 : Int) (a : Int) false := Les.of l rfl rfl
            have hs := Aside0.mk (scanDown_go (fun x => !beforeE x (swp D a p)[a]!) (swp D a p) i1 j1 c2 (by omega) (by simp [l]))
            clear l
            go_wp2_with (first | (go_at_call 49; refine (less_is _ _).mono ?_; rintro e w2 ⟨rfl, hb⟩; have jb := Bel.mk hb; clear hb))
            have ez : ((j1 - 1 : Nat) : Int) = (j1 : Int) - 1 := by omega
            first
              | exact ⟨⟨j1 - 1, by first | rfl | (congr 1; omega), ⟨by omega⟩, ⟨by omega⟩, inferInstance, inferInstance, inferInstance, ⟨by rw [← HU1.out, hs.out]⟩⟩, by simp [intOf]; omega⟩
              | (go_roundw; (case rel => ((repeat apply Exists.intro); exact ⟨⟨j1 - 1, by first | rfl | (congr 1; omega), ⟨by omega⟩, ⟨by omega⟩, inferInstance, inferInstance, inferInstance, ⟨by rw [← HU1.out, hs.out]⟩⟩, (by first | rfl | (simp only [Int.natCast_add, Int.natCast_one]; rfl) | (simp only [Int.natCast_add, Int.natCast_one, ez]; rfl))⟩)); (case measure => first | (simp [intOf]; omega) | (simp [intOf]; done)))
          · have Hj1 : Aside0 (scanDown (fun x => !beforeE x (swp D a p)[a]!) (swp D a p) i1 (b - 1) = j1) := ⟨by
              rw [← HU1.out]
              refine scanDown_end (fun x => !beforeE x (swp D a p)[a]!) (swp D a p) i1 j1 ?_
              by_cases c : i1 ≤ j1
              · refine .inr ?_
                have : beforeE (swp D a p)[j1]! (swp D a p)[a]! = true := by
                  cases h : beforeE (swp D a p)[j1]! (swp D a p)[a]! with
                  | false => exact absurd ⟨c, h⟩ c2
                  | true => rfl
                simp [this]
              · exact .inl c⟩
            have step : (i1 ≤ j1 ∧ beforeE (swp D a p)[j1]! (swp D a p)[a]! = true) ∨ ¬ i1 ≤ j1 := by
              by_cases c : i1 ≤ j1
              · refine .inl ⟨c, ?_⟩
                cases h : beforeE (swp D a p)[j1]! (swp D a p)[a]! with
                | false => exact absurd ⟨c, h⟩ c2
                | true => rfl
              · exact .inr c
            clear c2 HU1
            rcases step with ⟨c2, l⟩ | c2
            · have d2 : decide ((i1 : Int) ≤ (j1 : Int)) = true := decide_eq_true (by omega)
              have d2n : decide (i1 ≤ j1) = true := decide_eq_true (by omega)
              have d3 : decide ((j1 : Int) < (i1 : Int)) = false := decide_eq_false (by omega)
              have d3n : decide (j1 < i1) = false := decide_eq_false (by omega)
              have x3 : Ix (j1 : Int) C.n := ⟨by omega, by omega⟩
              have x1 : Ix (i1 : Int) C.n := ⟨by omega, by omega⟩
              have y2 : Les (swp D a p) (j1 : Int) (a : Int) true := Les.of l rfl rfl
              have hge : a + 1 ≤ i1 := by
                have := scanUp_ge (fun x => beforeE x (swp D a p)[a]!) (swp D a p) (b - 1) (a + 1)
                rw [Hi1.out] at this
                exact this
              have hne : i1 ≠ j1 := by
                rintro rfl
                have := EA.out
                rw [l] at this
                cases this
              clear l
              go_wp2_with (first | (go_at_call 49; refine (less_is _ _).mono ?_; rintro e w2 ⟨rfl, hb⟩; have jb := Bel.mk hb; clear hb))
              have HRR := Aside0.mk (partition_no D a b p i1 j1 Hi1.out Hj1.out (by omega))
              go_loopw [10, 11] (fun v u wr => ∃ (i j : Nat) (dk : Array E), v = .int .i64 i ∧ u = .int .i64 j ∧ Aside0 (a < i) ∧ Aside0 (i ≤ j + 1) ∧ Aside0 (j < b) ∧ So C wr dk ∧ Fr C w wr ∧ Blk wr w.heap.size (datC C) 88 ∧ Aside0 (partLoop beforeE a i j dk = partLoop beforeE a (i1 + 1) (j1 - 1) (swp (swp D a p) i1 j1))) (fun v u _ => (intOf u).toNat + 1 - (intOf v).toNat)
              case atStart => exact ⟨i1 + 1, j1 - 1, swp (swp D a p) i1 j1, by go_num, by congr 1; omega, ⟨by omega⟩, ⟨by omega⟩, ⟨by omega⟩, ⟨so_cast (D' := swp (swp D a p) i1 j1) inferInstance rfl⟩, inferInstance, inferInstance, ⟨rfl⟩⟩
              case round =>
                clear n1 n2 n3 d2 d3 d2n d3n y2 x1 x3
                obtain ⟨i, j, dk, rfl, rfl, HP, HQ, HR, j1_, j2_, j3_, HO⟩ := hrel
                have hp := HP.out
                have hq := HQ.out
                have hr := HR.out
                go_wp2
                go_loopw [10] (fun v wr => ∃ i2 : Nat, v = .int .i64 i2 ∧ Aside0 (a < i2) ∧ Aside0 (i2 ≤ j + 1) ∧ So C wr dk ∧ Fr C w wr ∧ Blk wr w.heap.size (datC C) 88 ∧ Aside0 (scanUp (fun x => beforeE x dk[a]!) dk (j) i2 = scanUp (fun x => beforeE x dk[a]!) dk (j) (i))) (fun v _ => j + 1 - (intOf v).toNat)
                case atStart => exact ⟨i, by first | rfl | go_num, ⟨by omega⟩, ⟨by omega⟩, inferInstance, inferInstance, inferInstance, ⟨rfl⟩⟩
                case round =>
                  clear j1_ j2_ j3_
                  obtain ⟨i2, rfl, HA2, HB2, m1, m2, m3, HU2⟩ := hrel
                  have ha2 := HA2.out
                  have hb2 := HB2.out
                  have x2 : Ix (a : Int) C.n := ⟨by omega, by omega⟩
                  by_cases c1 : i2 ≤ j ∧ beforeE dk[i2]! dk[a]! = true
                  · obtain ⟨c1, l⟩ := c1
                    have d1 : decide ((i2 : Int) ≤ (j : Int)) = true := decide_eq_true (by omega)
                    have x1 : Ix (i2 : Int) C.n := ⟨by omega, by omega⟩
                    have y1 : Les dk (i2 : Int) (a : Int) true := Les.of l rfl rfl
                    have hs := Aside0.mk (scanUp_go (fun x => beforeE x dk[a]!) dk (j) i2 c1 l)
                    clear l
                    go_wp2_with (first | (go_at_call 49; refine (less_is _ _).mono ?_; rintro e w2 ⟨rfl, hb⟩; have jb := Bel.mk hb; clear hb))
                    first
                      | exact ⟨⟨i2 + 1, by first | rfl | go_num, ⟨by omega⟩, ⟨by omega⟩, inferInstance, inferInstance, inferInstance, ⟨by rw [← HU2.out, hs.out]⟩⟩, by simp [intOf]; omega⟩
                      | (go_roundw; (case rel => ((repeat apply Exists.intro); exact ⟨⟨i2 + 1, by first | rfl | go_num, ⟨by omega⟩, ⟨by omega⟩, inferInstance, inferInstance, inferInstance, ⟨by rw [← HU2.out, hs.out]⟩⟩, (by first | rfl | (simp only [Int.natCast_add, Int.natCast_one]; rfl) | (simp only [Int.natCast_add, Int.natCast_one, ez]; rfl))⟩)); (case measure => first | (simp [intOf]; omega) | (simp [intOf]; done)))
                  · have Hi2 : Aside0 (scanUp (fun x => beforeE x dk[a]!) dk (j) (i) = i2) := ⟨by
                      rw [← HU2.out]
                      refine scanUp_end (fun x => beforeE x dk[a]!) dk (j) i2 ?_
                      by_cases c : i2 ≤ j
                      · refine .inr ?_
                        have : beforeE dk[i2]! dk[a]! = false := by
                          cases h : beforeE dk[i2]! dk[a]! with
                          | true => exact absurd ⟨c, h⟩ c1
                          | false => rfl
                        simp [this]
                      · exact .inl c⟩
                    have step : (i2 ≤ j ∧ beforeE dk[i2]! dk[a]! = false) ∨ ¬ i2 ≤ j := by
                      by_cases c : i2 ≤ j
                      · refine .inl ⟨c, ?_⟩
                        cases h : beforeE dk[i2]! dk[a]! with
                        | true => exact absurd ⟨c, h⟩ c1
                        | false => rfl
                      · exact .inr c
                    clear c1 HU2
                    rcases step with ⟨c1, l⟩ | c1
                    · have d1 : decide ((i2 : Int) ≤ (j : Int)) = true := decide_eq_true (by omega)
                      have x1 : Ix (i2 : Int) C.n := ⟨by omega, by omega⟩
                      have y1 : Les dk (i2 : Int) (a : Int) false := Les.of l rfl rfl
                      have EA := Aside0.mk l
                      clear l
                      go_wp2_with (first | (go_at_call 49; refine (less_is _ _).mono ?_; rintro e w2 ⟨rfl, hb⟩; have jb := Bel.mk hb; clear hb))
                      clear d1
                      go_loopw [11] (fun v wr => ∃ j2 : Nat, v = .int .i64 j2 ∧ Aside0 (i2 ≤ j2 + 1) ∧ Aside0 (j2 ≤ j) ∧ So C wr dk ∧ Fr C w wr ∧ Blk wr w.heap.size (datC C) 88 ∧ Aside0 (scanDown (fun x => !beforeE x dk[a]!) dk i2 j2 = scanDown (fun x => !beforeE x dk[a]!) dk i2 (j))) (fun v _ => (intOf v).toNat)
                      case atStart => exact ⟨j, by first | rfl | (congr 1; omega), ⟨by omega⟩, ⟨by omega⟩, inferInstance, inferInstance, inferInstance, ⟨rfl⟩⟩
                      case round =>
                        clear m1 m2 m3
                        obtain ⟨j2, rfl, HC2, HD2, n1, n2, n3, HU2⟩ := hrel
                        have hc2 := HC2.out
                        have hd2 := HD2.out
                        by_cases c2 : i2 ≤ j2 ∧ beforeE dk[j2]! dk[a]! = false
                        · obtain ⟨c2, l⟩ := c2
                          have d2 : decide ((i2 : Int) ≤ (j2 : Int)) = true := decide_eq_true (by omega)
                          have d2n : decide (i2 ≤ j2) = true := decide_eq_true (by omega)
                          have x3 : Ix (j2 : Int) C.n := ⟨by omega, by omega⟩
                          have y2 : Les dk (j2 : Int) (a : Int) false := Les.of l rfl rfl
                          have hs := Aside0.mk (scanDown_go (fun x => !beforeE x dk[a]!) dk i2 j2 c2 (by omega) (by simp [l]))
                          clear l
                          go_wp2_with (first | (go_at_call 49; refine (less_is _ _).mono ?_; rintro e w2 ⟨rfl, hb⟩; have jb := Bel.mk hb; clear hb))
                          have ez : ((j2 - 1 : Nat) : Int) = (j2 : Int) - 1 := by omega
                          first
                            | exact ⟨⟨j2 - 1, by first | rfl | (congr 1; omega), ⟨by omega⟩, ⟨by omega⟩, inferInstance, inferInstance, inferInstance, ⟨by rw [← HU2.out, hs.out]⟩⟩, by simp [intOf]; omega⟩
                            | (go_roundw; (case rel => ((repeat apply Exists.intro); exact ⟨⟨j2 - 1, by first | rfl | (congr 1; omega), ⟨by omega⟩, ⟨by omega⟩, inferInstance, inferInstance, inferInstance, ⟨by rw [← HU2.out, hs.out]⟩⟩, (by first | rfl | (simp only [Int.natCast_add, Int.natCast_one]; rfl) | (simp only [Int.natCast_add, Int.natCast_one, ez]; rfl))⟩)); (case measure => first | (simp [intOf]; omega) | (simp [intOf]; done)))
                        · have Hj2 : Aside0 (scanDown (fun x => !beforeE x dk[a]!) dk i2 (j) = j2) := ⟨by
                            rw [← HU2.out]
                            refine scanDown_end (fun x => !beforeE x dk[a]!) dk i2 j2 ?_
                            by_cases c : i2 ≤ j2
                            · refine .inr ?_
                              have : beforeE dk[j2]! dk[a]! = true := by
                                cases h : beforeE dk[j2]! dk[a]! with
                                | false => exact absurd ⟨c, h⟩ c2
                                | true => rfl
                              simp [this]
                            · exact .inl c⟩
                          have step : (i2 ≤ j2 ∧ beforeE dk[j2]! dk[a]! = true) ∨ ¬ i2 ≤ j2 := by
                            by_cases c : i2 ≤ j2
                            · refine .inl ⟨c, ?_⟩
                              cases h : beforeE dk[j2]! dk[a]! with
                              | false => exact absurd ⟨c, h⟩ c2
                              | true => rfl
                            · exact .inr c
                          clear c2 HU2
                          rcases step with ⟨c2, l⟩ | c2
                          · have d2 : decide ((i2 : Int) ≤ (j2 : Int)) = true := decide_eq_true (by omega)
                            have d2n : decide (i2 ≤ j2) = true := decide_eq_true (by omega)
                            have d3 : decide ((j2 : Int) < (i2 : Int)) = false := decide_eq_false (by omega)
                            have d3n : decide (j2 < i2) = false := decide_eq_false (by omega)
                            have x3 : Ix (j2 : Int) C.n := ⟨by omega, by omega⟩
                            have x1 : Ix (i2 : Int) C.n := ⟨by omega, by omega⟩
                            have y2 : Les dk (j2 : Int) (a : Int) true := Les.of l rfl rfl
                            have hge : i ≤ i2 := by
                              have := scanUp_ge (fun x => beforeE x dk[a]!) dk (j) (i)
                              rw [Hi2.out] at this
                              exact this
                            have hne : i2 ≠ j2 := by
                              rintro rfl
                              have := EA.out
                              rw [l] at this
                              cases this
                            clear l
                            go_wp2_with (first | (go_at_call 49; refine (less_is _ _).mono ?_; rintro e w2 ⟨rfl, hb⟩; have jb := Bel.mk hb; clear hb))
                            have ez : ((j2 - 1 : Nat) : Int) = (j2 : Int) - 1 := by omega
                            first
                              | exact ⟨⟨i2 + 1, j2 - 1, swp dk i2 j2, by first | rfl | go_num, by first | rfl | (congr 1; omega), ⟨by omega⟩, ⟨by omega⟩, ⟨by omega⟩, ⟨so_cast (D' := swp dk i2 j2) inferInstance rfl⟩, inferInstance, inferInstance, ⟨by
                              rw [← HO.out, partLoop_eq beforeE a i j dk, Hi2.out, Hj2.out, if_neg (by omega)]⟩⟩, by simp [intOf]; omega⟩
                              | (go_roundw; (case rel => ((repeat apply Exists.intro); exact ⟨⟨i2 + 1, j2 - 1, swp dk i2 j2, by first | rfl | go_num, by first | rfl | (congr 1; omega), ⟨by omega⟩, ⟨by omega⟩, ⟨by omega⟩, ⟨so_cast (D' := swp dk i2 j2) inferInstance rfl⟩, inferInstance, inferInstance, ⟨by
                              rw [← HO.out, partLoop_eq beforeE a i j dk, Hi2.out, Hj2.out, if_neg (by omega)]⟩⟩, (by first | rfl | (simp only [Int.natCast_add, Int.natCast_one]; rfl) | (simp only [Int.natCast_add, Int.natCast_one, ez]; rfl))⟩)); (case measure => first | (simp [intOf]; omega) | (simp [intOf]; done)))
                          · have d2 : decide ((i2 : Int) ≤ (j2 : Int)) = false := decide_eq_false (by omega)
                            have d2n : decide (i2 ≤ j2) = false := decide_eq_false (by omega)
                            have d3 : decide ((j2 : Int) < (i2 : Int)) = true := decide_eq_true (by omega)
                            have d3n : decide (j2 < i2) = true := decide_eq_true (by omega)
                            have x3 : Ix (j2 : Int) C.n := ⟨by omega, by omega⟩
                            go_wp2
                            go_ret2
                            have hz := HO.out
                            rw [partLoop_eq beforeE a i j dk, Hi2.out, Hj2.out, if_pos (by omega)] at hz
                            refine ⟨by rw [hRR.out, HRR.out, ← hz]; rfl, so_cast (D' := R.2.2) (D := swp dk j2 a) ⟨so_cast (D' := swp dk j2 a) inferInstance rfl⟩ (by rw [hRR.out, HRR.out, ← hz]), Fr.out⟩
                    · have d1 : decide ((i2 : Int) ≤ (j : Int)) = false := decide_eq_false (by omega)
                      go_wp2
                      go_loopw [11] (fun v wr => ∃ j2 : Nat, v = .int .i64 j2 ∧ Aside0 (i2 ≤ j2 + 1) ∧ Aside0 (j2 ≤ j) ∧ So C wr dk ∧ Fr C w wr ∧ Blk wr w.heap.size (datC C) 88 ∧ Aside0 (scanDown (fun x => !beforeE x dk[a]!) dk i2 j2 = scanDown (fun x => !beforeE x dk[a]!) dk i2 (j))) (fun v _ => (intOf v).toNat)
                      case atStart => exact ⟨j, by first | rfl | (congr 1; omega), ⟨by omega⟩, ⟨by omega⟩, inferInstance, inferInstance, inferInstance, ⟨rfl⟩⟩
                      case round =>
                        clear m1 m2 m3
                        obtain ⟨j2, rfl, HC2, HD2, n1, n2, n3, HU2⟩ := hrel
                        have hc2 := HC2.out
                        have hd2 := HD2.out
                        have c2 : ¬ i2 ≤ j2 := by omega
                        have Hj2 : Aside0 (scanDown (fun x => !beforeE x dk[a]!) dk i2 (j) = j2) := ⟨by
                          rw [← HU2.out]
                          exact scanDown_end (fun x => !beforeE x dk[a]!) dk i2 j2 (.inl c2)⟩
                        clear HU2
                        have d2 : decide ((i2 : Int) ≤ (j2 : Int)) = false := decide_eq_false (by omega)
                        have d2n : decide (i2 ≤ j2) = false := decide_eq_false (by omega)
                        have d3 : decide ((j2 : Int) < (i2 : Int)) = true := decide_eq_true (by omega)
                        have d3n : decide (j2 < i2) = true := decide_eq_true (by omega)
                        have x3 : Ix (j2 : Int) C.n := ⟨by omega, by omega⟩
                        go_wp2
                        go_ret2
                        have hz := HO.out
                        rw [partLoop_eq beforeE a i j dk, Hi2.out, Hj2.out, if_pos (by omega)] at hz
                        refine ⟨by rw [hRR.out, HRR.out, ← hz]; rfl, so_cast (D' := R.2.2) (D := swp dk j2 a) ⟨so_cast (D' := swp dk j2 a) inferInstance rfl⟩ (by rw [hRR.out, HRR.out, ← hz]), Fr.out⟩
            · have d2 : decide ((i1 : Int) ≤ (j1 : Int)) = false := decide_eq_false (by omega)
              have d2n : decide (i1 ≤ j1) = false := decide_eq_false (by omega)
              have d3 : decide ((j1 : Int) < (i1 : Int)) = true := decide_eq_true (by omega)
              have d3n : decide (j1 < i1) = true := decide_eq_true (by omega)
              have x3 : Ix (j1 : Int) C.n := ⟨by omega, by omega⟩
              go_wp2
              go_ret2
              have hz := partition_yes D a b p i1 j1 Hi1.out Hj1.out (by omega)
              refine ⟨by rw [hRR.out, hz]; rfl, so_cast (D' := R.2.2) (D := swp (swp D a p) j1 a) ⟨so_cast (D' := swp (swp D a p) j1 a) inferInstance rfl⟩ (by rw [hRR.out, hz]), Fr.out⟩
      · have d1 : decide ((i1 : Int) ≤ (b : Int) - 1) = false := decide_eq_false (by omega)
        go_wp2
        go_loopw [11] (fun v wr => ∃ j1 : Nat, v = .int .i64 j1 ∧ Aside0 (i1 ≤ j1 + 1) ∧ Aside0 (j1 ≤ b - 1) ∧ So C wr (swp D a p) ∧ Fr C w wr ∧ Blk wr w.heap.size (datC C) 88 ∧ Aside0 (scanDown (fun x => !beforeE x (swp D a p)[a]!) (swp D a p) i1 j1 = scanDown (fun x => !beforeE x (swp D a p)[a]!) (swp D a p) i1 (b - 1))) (fun v _ => (intOf v).toNat)
        case atStart => exact ⟨b - 1, by first | rfl | (congr 1; omega), ⟨by omega⟩, ⟨by omega⟩, inferInstance, inferInstance, inferInstance, ⟨rfl⟩⟩
        case round =>
          clear m1 m2 m3
          obtain ⟨j1, rfl, HC1, HD1, n1, n2, n3, HU1⟩ := hrel
          have hc1 := HC1.out
          have hd1 := HD1.out
          have c2 : ¬ i1 ≤ j1 := by omega
          have Hj1 : Aside0 (scanDown (fun x => !beforeE x (swp D a p)[a]!) (swp D a p) i1 (b - 1) = j1) := ⟨by
            rw [← HU1.out]
            exact scanDown_end (fun x => !beforeE x (swp D a p)[a]!) (swp D a p) i1 j1 (.inl c2)⟩
          clear HU1
          have d2 : decide ((i1 : Int) ≤ (j1 : Int)) = false := decide_eq_false (by omega)
          have d2n : decide (i1 ≤ j1) = false := decide_eq_false (by omega)
          have d3 : decide ((j1 : Int) < (i1 : Int)) = true := decide_eq_true (by omega)
          have d3n : decide (j1 < i1) = true := decide_eq_true (by omega)
          have x3 : Ix (j1 : Int) C.n := ⟨by omega, by omega⟩
          go_wp2
          go_ret2
          have hz := partition_yes D a b p i1 j1 Hi1.out Hj1.out (by omega)
          refine ⟨by rw [hRR.out, hz]; rfl, so_cast (D' := R.2.2) (D := swp (swp D a p) j1 a) ⟨so_cast (D' := swp (swp D a p) j1 a) inferInstance rfl⟩ (by rw [hRR.out, hz]), Fr.out⟩
end Go.Proofs.Ytnknnbpodpfljaa.S


namespace Go.Proofs.Ytnknnbpodpfljaa.S
open Go.RowKit Go.Sort Go.Proofs.Ytnknnbpodpfljaa.P Go.Proofs.Ytnknnbpodpfljaa.Q Go.Proofs.Ytnknnbpodpfljaa.V Go.Proofs.YtnknnbpodpfljaaW.PrintWords
set_option linter.unusedVariables false
set_option linter.unusedSimpArgs false
attribute [local go_sem] cell_b frozen_b swap_run
set_option maxHeartbeats 16000000 in
set_option maxRecDepth 100000 in
set_option synthInstance.maxHeartbeats 400000 in
set_option synthInstance.maxSize 100000 in
theorem partitionEqual_calls (C : SoC) [SoG C] (w : World) (D : Array E) (h : SoAt C w D) (a b p : Nat) (hap : a ≤ p) (hpb : p < b) (hb : b ≤ C.n) :
    Calls Try.prog 84 #[datV C, .int .i64 a, .int .i64 b, .int .i64 p] w fun e w' => e = .returned (.int .i64 (partitionEqual beforeE D a b p).1) ∧ SoAt C w' (partitionEqual beforeE D a b p).2 ∧ w.grownBy w' (some C.g) := by
  have j0 := So.mk h
  have hsm := SoG.small (C := C)
  have jx : NeB w.heap.size C.g := ⟨Nat.ne_of_gt h.lt⟩
  have jy := Blk.mk (blk_new w (.cells (datC C) 88))
  have x5 : Ix (a : Int) C.n := ⟨by omega, by omega⟩
  have x6 : Ix (p : Int) C.n := ⟨by omega, by omega⟩
  have hR : partitionEqual beforeE D a b p = partEqLoop beforeE a (a + 1) (b - 1) (swp D a p) := rfl
  obtain ⟨R, hRR⟩ : ∃ R, partitionEqual beforeE D a b p = R := ⟨_, rfl⟩
  rw [hRR] at hR ⊢
  have hR := Aside0.mk hR
  clear h hRR
  have hu := Try.underlying88
  go_enter Try.func84, Try.ntmps84
  go_wp2
  go_loopw [9, 10] (fun v u wr => ∃ (i j : Nat) (dk : Array E), v = .int .i64 i ∧ u = .int .i64 j ∧ Aside0 (a < i) ∧ Aside0 (i ≤ j + 1) ∧ Aside0 (j < b) ∧ So C wr dk ∧ Fr C w wr ∧ Blk wr w.heap.size (datC C) 88 ∧ Aside0 (partEqLoop beforeE a i j dk = R)) (fun v u _ => (intOf u).toNat + 1 - (intOf v).toNat)
  case atStart => exact ⟨a + 1, b - 1, swp D a p, by go_num, by congr 1; omega, ⟨by omega⟩, ⟨by omega⟩, ⟨by omega⟩, ⟨so_cast (D' := swp D a p) inferInstance rfl⟩, inferInstance, inferInstance, ⟨hR.out.symm⟩⟩
  case round =>
    clear j0 jy
    obtain ⟨i, j, dk, rfl, rfl, HP, HQ, HR, j1, j2, j3, HO⟩ := hrel
    have hp := HP.out
    have hq := HQ.out
    have hr := HR.out
    go_wp2
    go_loopw [9] (fun v wr => ∃ i2 : Nat, v = .int .i64 i2 ∧ Aside0 (a < i2) ∧ Aside0 (i2 ≤ j + 1) ∧ So C wr dk ∧ Fr C w wr ∧ Blk wr w.heap.size (datC C) 88 ∧ Aside0 (scanUp (fun x => !beforeE dk[a]! x) dk (j) i2 = scanUp (fun x => !beforeE dk[a]! x) dk (j) (i))) (fun v _ => j + 1 - (intOf v).toNat)
    case atStart => exact ⟨i, by first | rfl | go_num, ⟨by omega⟩, ⟨by omega⟩, inferInstance, inferInstance, inferInstance, ⟨rfl⟩⟩
    case round =>
      clear j1 j2 j3
      obtain ⟨i2, rfl, HA2, HB2, m1, m2, m3, HU2⟩ := hrel
      have ha2 := HA2.out
      have hb2 := HB2.out
      have x2 : Ix (a : Int) C.n := ⟨by omega, by omega⟩
      by_cases c1 : i2 ≤ j ∧ beforeE dk[a]! dk[i2]! = false
      · obtain ⟨c1, l⟩ := c1
        have d1 : decide ((i2 : Int) ≤ (j : Int)) = true := decide_eq_true (by omega)
        have x1 : Ix (i2 : Int) C.n := ⟨by omega, by omega⟩
        have y1 : Les dk (a : Int) (i2 : Int) false := Les.of l rfl rfl
        have hs := Aside0.mk (scanUp_go (fun x => !beforeE dk[a]! x) dk (j) i2 c1 (by simp [l]))
        clear l
        go_wp2_with (first | (go_at_call 49; refine (less_is _ _).mono ?_; rintro e w2 ⟨rfl, hb⟩; have jb := Bel.mk hb; clear hb))
        first
          | exact ⟨⟨i2 + 1, by first | rfl | go_num, ⟨by omega⟩, ⟨by omega⟩, inferInstance, inferInstance, inferInstance, ⟨by rw [← HU2.out, hs.out]⟩⟩, by simp [intOf]; omega⟩
          | (go_roundw; (case rel => ((repeat apply Exists.intro); exact ⟨⟨i2 + 1, by first | rfl | go_num, ⟨by omega⟩, ⟨by omega⟩, inferInstance, inferInstance, inferInstance, ⟨by rw [← HU2.out, hs.out]⟩⟩, (by first | rfl | (simp only [Int.natCast_add, Int.natCast_one]; rfl) | (simp only [Int.natCast_add, Int.natCast_one, ez]; rfl))⟩)); (case measure => first | (simp [intOf]; omega) | (simp [intOf]; done)))
      · have Hi2 : Aside0 (scanUp (fun x => !beforeE dk[a]! x) dk (j) (i) = i2) := ⟨by
          rw [← HU2.out]
          refine scanUp_end (fun x => !beforeE dk[a]! x) dk (j) i2 ?_
          by_cases c : i2 ≤ j
          · refine .inr ?_
            have : beforeE dk[a]! dk[i2]! = true := by
              cases h : beforeE dk[a]! dk[i2]! with
              | false => exact absurd ⟨c, h⟩ c1
              | true => rfl
            simp [this]
          · exact .inl c⟩
        have step : (i2 ≤ j ∧ beforeE dk[a]! dk[i2]! = true) ∨ ¬ i2 ≤ j := by
          by_cases c : i2 ≤ j
          · refine .inl ⟨c, ?_⟩
            cases h : beforeE dk[a]! dk[i2]! with
            | false => exact absurd ⟨c, h⟩ c1
            | true => rfl
          · exact .inr c
        clear c1 HU2
        rcases step with ⟨c1, l⟩ | c1
        · have d1 : decide ((i2 : Int) ≤ (j : Int)) = true := decide_eq_true (by omega)
          have x1 : Ix (i2 : Int) C.n := ⟨by omega, by omega⟩
          have y1 : Les dk (a : Int) (i2 : Int) true := Les.of l rfl rfl
          have EA := Aside0.mk l
          clear l
          go_wp2_with (first | (go_at_call 49; refine (less_is _ _).mono ?_; rintro e w2 ⟨rfl, hb⟩; have jb := Bel.mk hb; clear hb))
          clear d1
          go_loopw [10] (fun v wr => ∃ j2 : Nat, v = .int .i64 j2 ∧ Aside0 (i2 ≤ j2 + 1) ∧ Aside0 (j2 ≤ j) ∧ So C wr dk ∧ Fr C w wr ∧ Blk wr w.heap.size (datC C) 88 ∧ Aside0 (scanDown (fun x => beforeE dk[a]! x) dk i2 j2 = scanDown (fun x => beforeE dk[a]! x) dk i2 (j))) (fun v _ => (intOf v).toNat)
          case atStart => exact ⟨j, by first | rfl | (congr 1; omega), ⟨by omega⟩, ⟨by omega⟩, inferInstance, inferInstance, inferInstance, ⟨rfl⟩⟩
          case round =>
            clear m1 m2 m3
            obtain ⟨j2, rfl, HC2, HD2, n1, n2, n3, HU2⟩ := hrel
            have hc2 := HC2.out
            have hd2 := HD2.out
            by_cases c2 : i2 ≤ j2 ∧ beforeE dk[a]! dk[j2]! = true
            · obtain ⟨c2, l⟩ := c2
              have d2 : decide ((i2 : Int) ≤ (j2 : Int)) = true := decide_eq_true (by omega)
              have d2n : decide (i2 ≤ j2) = true := decide_eq_true (by omega)
              have x3 : Ix (j2 : Int) C.n := ⟨by omega, by omega⟩
              have y2 : Les dk (a : Int) (j2 : Int) true := Les.of l rfl rfl
              have hs := Aside0.mk (scanDown_go (fun x => beforeE dk[a]! x) dk i2 j2 c2 (by omega) l)
              clear l
              go_wp2_with (first | (go_at_call 49; refine (less_is _ _).mono ?_; rintro e w2 ⟨rfl, hb⟩; have jb := Bel.mk hb; clear hb))
              have ez : ((j2 - 1 : Nat) : Int) = (j2 : Int) - 1 := by omega
              first
                | exact ⟨⟨j2 - 1, by first | rfl | (congr 1; omega), ⟨by omega⟩, ⟨by omega⟩, inferInstance, inferInstance, inferInstance, ⟨by rw [← HU2.out, hs.out]⟩⟩, by simp [intOf]; omega⟩
                | (go_roundw; (case rel => ((repeat apply Exists.intro); exact ⟨⟨j2 - 1, by first | rfl | (congr 1; omega), ⟨by omega⟩, ⟨by omega⟩, inferInstance, inferInstance, inferInstance, ⟨by rw [← HU2.out, hs.out]⟩⟩, (by first | rfl | (simp only [Int.natCast_add, Int.natCast_one]; rfl) | (simp only [Int.natCast_add, Int.natCast_one, ez]; rfl))⟩)); (case measure => first | (simp [intOf]; omega) | (simp [intOf]; done)))
            · have Hj2 : Aside0 (scanDown (fun x => beforeE dk[a]! x) dk i2 (j) = j2) := ⟨by
                rw [← HU2.out]
                refine scanDown_end (fun x => beforeE dk[a]! x) dk i2 j2 ?_
                by_cases c : i2 ≤ j2
                · refine .inr ?_
                  have : beforeE dk[a]! dk[j2]! = false := by
                    cases h : beforeE dk[a]! dk[j2]! with
                    | true => exact absurd ⟨c, h⟩ c2
                    | false => rfl
                  simp [this]
                · exact .inl c⟩
              have step : (i2 ≤ j2 ∧ beforeE dk[a]! dk[j2]! = false) ∨ ¬ i2 ≤ j2 := by
                by_cases c : i2 ≤ j2
                · refine .inl ⟨c, ?_⟩
                  cases h : beforeE dk[a]! dk[j2]! with
                  | true => exact absurd ⟨c, h⟩ c2
                  | false => rfl
                · exact .inr c
              clear c2 HU2
              rcases step with ⟨c2, l⟩ | c2
              · have d2 : decide ((i2 : Int) ≤ (j2 : Int)) = true := decide_eq_true (by omega)
                have d2n : decide (i2 ≤ j2) = true := decide_eq_true (by omega)
                have d3 : decide ((j2 : Int) < (i2 : Int)) = false := decide_eq_false (by omega)
                have d3n : decide (j2 < i2) = false := decide_eq_false (by omega)
                have x3 : Ix (j2 : Int) C.n := ⟨by omega, by omega⟩
                have x1 : Ix (i2 : Int) C.n := ⟨by omega, by omega⟩
                have y2 : Les dk (a : Int) (j2 : Int) false := Les.of l rfl rfl
                have hge : i ≤ i2 := by
                  have := scanUp_ge (fun x => !beforeE dk[a]! x) dk (j) (i)
                  rw [Hi2.out] at this
                  exact this
                have hne : i2 ≠ j2 := by
                  rintro rfl
                  have := EA.out
                  rw [l] at this
                  cases this
                clear l
                go_wp2_with (first | (go_at_call 49; refine (less_is _ _).mono ?_; rintro e w2 ⟨rfl, hb⟩; have jb := Bel.mk hb; clear hb))
                have ez : ((j2 - 1 : Nat) : Int) = (j2 : Int) - 1 := by omega
                first
                  | exact ⟨⟨i2 + 1, j2 - 1, swp dk i2 j2, by first | rfl | go_num, by first | rfl | (congr 1; omega), ⟨by omega⟩, ⟨by omega⟩, ⟨by omega⟩, ⟨so_cast (D' := swp dk i2 j2) inferInstance rfl⟩, inferInstance, inferInstance, ⟨by
                  rw [← HO.out, partEqLoop_eq beforeE a i j dk, Hi2.out, Hj2.out, if_neg (by omega)]⟩⟩, by simp [intOf]; omega⟩
                  | (go_roundw; (case rel => ((repeat apply Exists.intro); exact ⟨⟨i2 + 1, j2 - 1, swp dk i2 j2, by first | rfl | go_num, by first | rfl | (congr 1; omega), ⟨by omega⟩, ⟨by omega⟩, ⟨by omega⟩, ⟨so_cast (D' := swp dk i2 j2) inferInstance rfl⟩, inferInstance, inferInstance, ⟨by
                  rw [← HO.out, partEqLoop_eq beforeE a i j dk, Hi2.out, Hj2.out, if_neg (by omega)]⟩⟩, (by first | rfl | (simp only [Int.natCast_add, Int.natCast_one]; rfl) | (simp only [Int.natCast_add, Int.natCast_one, ez]; rfl))⟩)); (case measure => first | (simp [intOf]; omega) | (simp [intOf]; done)))
              · have d2 : decide ((i2 : Int) ≤ (j2 : Int)) = false := decide_eq_false (by omega)
                have d2n : decide (i2 ≤ j2) = false := decide_eq_false (by omega)
                have d3 : decide ((j2 : Int) < (i2 : Int)) = true := decide_eq_true (by omega)
                have d3n : decide (j2 < i2) = true := decide_eq_true (by omega)
                have x3 : Ix (j2 : Int) C.n := ⟨by omega, by omega⟩
                go_wp2
                go_ret
                have hz := HO.out
                rw [partEqLoop_eq beforeE a i j dk, Hi2.out, Hj2.out, if_pos (by omega)] at hz
                exact ⟨by rw [← hz]; rfl, so_cast (D := dk) inferInstance (by rw [← hz]), Fr.out⟩
        · have d1 : decide ((i2 : Int) ≤ (j : Int)) = false := decide_eq_false (by omega)
          go_wp2
          go_loopw [10] (fun v wr => ∃ j2 : Nat, v = .int .i64 j2 ∧ Aside0 (i2 ≤ j2 + 1) ∧ Aside0 (j2 ≤ j) ∧ So C wr dk ∧ Fr C w wr ∧ Blk wr w.heap.size (datC C) 88 ∧ Aside0 (scanDown (fun x => beforeE dk[a]! x) dk i2 j2 = scanDown (fun x => beforeE dk[a]! x) dk i2 (j))) (fun v _ => (intOf v).toNat)
          case atStart => exact ⟨j, by first | rfl | (congr 1; omega), ⟨by omega⟩, ⟨by omega⟩, inferInstance, inferInstance, inferInstance, ⟨rfl⟩⟩
          case round =>
            clear m1 m2 m3
            obtain ⟨j2, rfl, HC2, HD2, n1, n2, n3, HU2⟩ := hrel
            have hc2 := HC2.out
            have hd2 := HD2.out
            have c2 : ¬ i2 ≤ j2 := by omega
            have Hj2 : Aside0 (scanDown (fun x => beforeE dk[a]! x) dk i2 (j) = j2) := ⟨by
              rw [← HU2.out]
              exact scanDown_end (fun x => beforeE dk[a]! x) dk i2 j2 (.inl c2)⟩
            clear HU2
            have d2 : decide ((i2 : Int) ≤ (j2 : Int)) = false := decide_eq_false (by omega)
            have d2n : decide (i2 ≤ j2) = false := decide_eq_false (by omega)
            have d3 : decide ((j2 : Int) < (i2 : Int)) = true := decide_eq_true (by omega)
            have d3n : decide (j2 < i2) = true := decide_eq_true (by omega)
            have x3 : Ix (j2 : Int) C.n := ⟨by omega, by omega⟩
            go_wp2
            go_ret
            have hz := HO.out
            rw [partEqLoop_eq beforeE a i j dk, Hi2.out, Hj2.out, if_pos (by omega)] at hz
            exact ⟨by rw [← hz]; rfl, so_cast (D := dk) inferInstance (by rw [← hz]), Fr.out⟩
end Go.Proofs.Ytnknnbpodpfljaa.S


namespace Go.Proofs.Ytnknnbpodpfljaa.S
open Go.RowKit Go.Sort Go.Proofs.Ytnknnbpodpfljaa.P Go.Proofs.Ytnknnbpodpfljaa.Q Go.Proofs.Ytnknnbpodpfljaa.V Go.Proofs.YtnknnbpodpfljaaW.PrintWords
set_option linter.unusedVariables false
set_option linter.unusedSimpArgs false
theorem swo_beforeE : SWO beforeE where
  irrefl := before_irrefl
  trans := fun x y z h k => before_trans h k
  ntrans := fun x y z h k => by
    rw [Bool.eq_false_iff, ne_eq, before_iff] at h k ⊢
    omega
theorem mem_perm {a b : Nat} {D D' : Array E} (hb : b ≤ D.size) (h : PermIn a b D D') : ∀ x ∈ D', x ∈ D := by
  intro x hx
  obtain ⟨k, hk, rfl⟩ := Array.mem_iff_getElem.mp hx
  have hk' : k < D.size := by rw [← h.1]; exact hk
  by_cases hin : a ≤ k ∧ k < b
  · have hall := permIn_all D D' a b (fun y => y ∈ D) hb h (fun i hi hi' => by
      rw [getElem!_pos D i (by omega)]; exact Array.getElem_mem _) k hin.1 hin.2
    rw [getElem!_pos D' k hk] at hall
    exact hall
  · have := h.2.1 k (by omega)
    rw [getElem!_pos D' k hk, getElem!_pos D k hk'] at this
    rw [this]
    exact Array.getElem_mem _
theorem so_sorted {C : SoC} [g : SoG C] {w : World} {D D' : Array E} {a b : Nat} (h : SoAt C w D) (hb : b ≤ C.n) (hp : PermIn a b D D') (n : Nat) (os : Array Obj) :
    SoAt C (sortWorldK enc4 4 w C.g 0 n D' os) D' ∧ w.grownBy (sortWorldK enc4 4 w C.g 0 n D' os) (some C.g) := by
  have hs : D'.size = D.size := hp.1
  have hg : w.grownBy (sortWorldK enc4 4 w C.g 0 n D' os) (some C.g) := by
    unfold sortWorldK
    refine ⟨rfl, rfl, rfl, by rw [size_grow, size_putRowK]; show w.heap.size ≤ w.heap.size + os.size; omega, fun k hk1 hk2 => ?_⟩
    rw [heap_grow_old _ _ (by rw [size_putRowK]; exact hk1)]
    unfold putRowK putRow
    rw [onCells_block, if_neg (fun hh => hk2 (by rw [hh]))]
    rfl
  exact ⟨⟨holdsK_sortWorldK enc4 4 w C.g 0 n D D' os h.lt h.hold hs, by rw [hs]; exact h.size, (hg.block _ h.bs_lt (fun e => g.ne (Option.some.inj e))).trans h.box, Nat.lt_of_lt_of_le h.lt hg.size, by
    unfold sortWorldK
    rw [heap_grow_old _ _ (by rw [size_putRowK]; exact h.lt)]
    exact put_shape (W := Sort.ahead w n) h.shape, fun x hx => h.ftd x (mem_perm (by rw [h.size]; exact hb) hp x hx)⟩, hg⟩
theorem break_calls (C : SoC) [g : SoG C] (w : World) (D : Array E) (h : SoAt C w D) (a b : Nat) (hab : a ≤ b) (hb : b ≤ C.n) :
    Calls Try.prog 80 #[datV C, .int .i64 a, .int .i64 b] w fun e w' => e = .returned (.tuple #[]) ∧ ∃ D', SoAt C w' D' ∧ PermIn a b D D' ∧ w.grownBy w' (some C.g) := by
  have hsw : SwapSwapsK Try.prog 75 C.sb enc4 4 C.g 0 D.size := by rw [h.size]; exact g.swap
  have := Any.breakPatterns_func_cells_w (P := Try.prog) (ρ := sv6_ren) { sv6 with } enc4 4 enc4_len (.func 49) #[] C.lb 75 C.sb C.g 0 a b D w hsw h.hold h.lt hab (by rw [h.size]; exact hb) (by have := g.small; rw [h.size]; omega)
  refine this.mono ?_
  rintro e w' ⟨he, n, os, rfl⟩
  have hp := breakPatterns_holds D a b hab (by rw [h.size]; exact hb)
  obtain ⟨h1, h2⟩ := so_sorted h hb hp n os
  exact ⟨he, _, h1, hp, h2⟩
theorem reverse_calls (C : SoC) [g : SoG C] (w : World) (D : Array E) (h : SoAt C w D) (a b : Nat) (hab : a ≤ b) (hb : b ≤ C.n) :
    Calls Try.prog 82 #[datV C, .int .i64 a, .int .i64 b] w fun e w' => e = .returned (.tuple #[]) ∧ ∃ D', SoAt C w' D' ∧ PermIn a b D D' ∧ w.grownBy w' (some C.g) := by
  have hsw : SwapSwapsK Try.prog 75 C.sb enc4 4 C.g 0 D.size := by rw [h.size]; exact g.swap
  have := Any.reverseRange_func_cells_w (P := Try.prog) (ρ := sv6_ren) { sv6 with } enc4 4 enc4_len (.func 49) #[] C.lb 75 C.sb C.g 0 a b D w hsw h.hold h.lt hab (by rw [h.size]; exact hb) (by have := g.small; rw [h.size]; omega)
  refine this.mono ?_
  rintro e w' ⟨he, n, os, rfl⟩
  have hp := reverseRange_holds D a b hab (by rw [h.size]; exact hb)
  obtain ⟨h1, h2⟩ := so_sorted h hb hp n os
  exact ⟨he, _, h1, hp, h2⟩
theorem less_ex {C : SoC} {W : World} {D : Array E} [g : SoG C] (h : SoAt C W D) (i j : Int) (i' j' : Nat) (ei : i = i') (ej : j = j') (hi : i' < C.n) (hj : j' < C.n) :
    Calls Try.prog 49 (#[.int .i64 i, .int .i64 j] ++ C.lb) W fun e w' => ∃ lb, e = .returned (.bool lb) ∧ beforeE D[i']! D[j']! = lb ∧ RowKit.Below W.heap.size W w' := by
  subst ei ej
  exact (less_calls C W D h g.lb g.small i' j' hi hj).mono fun e w' hh => ⟨_, hh.1, rfl, hh.2⟩
theorem partitionEqual_at {C : SoC} {W : World} {D : Array E} [SoG C] (h : SoAt C W D) (a b p : Nat) (p' : Int) (e : p' = p) (hap : a ≤ p) (hpb : p < b) (hb : b ≤ C.n) :
    Calls Try.prog 84 #[datV C, .int .i64 a, .int .i64 b, .int .i64 p'] W fun e w' => ∃ mid D', partitionEqual beforeE D a b p = (mid, D') ∧ e = .returned (.int .i64 (mid : Nat)) ∧ SoAt C w' D' ∧ W.grownBy w' (some C.g) := by
  subst e
  exact (partitionEqual_calls C W D h a b p hap hpb hb).mono fun e w' hh => ⟨_, _, rfl, hh⟩
theorem partition_at {C : SoC} {W : World} {D : Array E} [SoG C] (h : SoAt C W D) (a b p : Nat) (p' : Int) (e : p' = p) (hap : a ≤ p) (hpb : p < b) (hb : b ≤ C.n) :
    Calls Try.prog 85 #[datV C, .int .i64 a, .int .i64 b, .int .i64 p'] W fun e w' => ∃ mid ap D', partition beforeE D a b p = (mid, ap, D') ∧ e = .returned (.tuple #[.int .i64 (mid : Nat), .bool ap]) ∧ SoAt C w' D' ∧ W.grownBy w' (some C.g) := by
  subst e
  exact (partition_calls C W D h a b p hap hpb hb).mono fun e w' hh => ⟨_, _, _, rfl, hh⟩
end Go.Proofs.Ytnknnbpodpfljaa.S


namespace Go.Proofs.Ytnknnbpodpfljaa.S
open Go.RowKit Go.Sort Go.Proofs.Ytnknnbpodpfljaa.P Go.Proofs.Ytnknnbpodpfljaa.Q Go.Proofs.Ytnknnbpodpfljaa.V Go.Proofs.YtnknnbpodpfljaaW.PrintWords
set_option linter.unusedVariables false
set_option linter.unusedSimpArgs false
attribute [local go_sem] cell_b frozen_b swap_run
def PdqOk (C : SoC) (N : Nat) : Prop := ∀ (w : World) (D : Array E), SoAt C w D → ∀ a b limit : Nat, b - a < N → a ≤ b → b ≤ C.n → limit ≤ 100 → Sort.Below beforeE a b D → ∀ a' b' l' : Int, a' = a → b' = b → l' = limit →
    Calls Try.prog 65 #[datV C, .int .i64 a', .int .i64 b', .int .i64 l'] w fun e w' => e = .returned (.tuple #[]) ∧ ∃ D', SoAt C w' D' ∧ PermIn a b D D' ∧ SortedIn beforeE a b D' ∧ w.grownBy w' (some C.g)
set_option maxHeartbeats 16000000 in
set_option maxRecDepth 100000 in
set_option synthInstance.maxHeartbeats 400000 in
set_option synthInstance.maxSize 100000 in
theorem pdq_step (C : SoC) [SoG C] (N : Nat) (ih : PdqOk C N) : PdqOk C (N + 1) := by
  intro w D h a b limit hN hab hb hlim hB a' b' l' ea eb el
  subst ea eb el
  have j0 := So.mk h
  have hsm := SoG.small (C := C)
  have hsz := h.size
  have jx : NeB w.heap.size C.g := ⟨Nat.ne_of_gt h.lt⟩
  have jy := Blk.mk (blk_new w (.cells (datC C) 88))
  have hBA := Aside0.mk hB
  have IH := Aside0.mk ih
  clear h hB ih
  have hu := Try.underlying88
  go_enter Try.func65, Try.ntmps65
  go_wp2
  go_loopg [1, 2, 3, 8, 9] (b - a) (fun kx v1 v2 v3 v8 v9 wr => ∃ (a1 b1 l1 : Nat) (wb wp : Bool) (dk : Array E), v1 = .int .i64 a1 ∧ v2 = .int .i64 b1 ∧ v3 = .int .i64 l1 ∧ v8 = .bool wb ∧ v9 = .bool wp ∧ Aside0 (a1 ≤ b1 ∧ b1 ≤ C.n ∧ b1 - a1 ≤ kx ∧ kx ≤ b - a ∧ l1 ≤ 100) ∧ Aside0 (Sort.Below beforeE a1 b1 dk) ∧ Aside0 (∀ R, PermIn a1 b1 dk R → SortedIn beforeE a1 b1 R → PermIn a b D R ∧ SortedIn beforeE a b R) ∧ So C wr dk ∧ Fr C w wr ∧ Blk wr w.heap.size (datC C) 88)
  case atStart => exact ⟨a, b, limit, true, true, D, rfl, rfl, rfl, rfl, rfl, ⟨⟨by omega, by omega, by omega, by omega, by omega⟩⟩, hBA, ⟨fun R h1 h2 => ⟨h1, h2⟩⟩, inferInstance, inferInstance, inferInstance⟩
  case round =>
    clear j0 jy
    obtain ⟨a1, b1, l1, wb, wp, dk, rfl, rfl, rfl, rfl, rfl, HN, HB, HR, j1, j2, j3⟩ := hrel
    obtain ⟨hab1, hb1, hn1, hn2, hl1⟩ := HN.out
    have hds : dk.size = C.n := j1.out.size
    by_cases c12 : b1 - a1 ≤ 12
    · have d1 : decide ((b1 : Int) - (a1 : Int) ≤ 12) = true := decide_eq_true (by omega)
      go_wp2_with (first | (go_at_call 78; refine (insertion_calls C _ _ So.out a1 b1 (by omega) (by omega)).mono ?_; rintro e w2 ⟨rfl, hs, hg⟩; have k1 := So.mk hs; have k2 := Gb.mk hg; clear hs hg))
      ((try simp only [Exit.inBlock, Exit.then]); refine bodyPost_ret (results_none rfl _ _ _) rfl ?_)
      obtain ⟨h1, h2⟩ := insertionSort_holds swo_beforeE dk a1 b1 hab1 (by omega)
      obtain ⟨h3, h4⟩ := HR.out _ h1 h2
      exact ⟨rfl, _, So.out, h3, h4, Fr.out⟩
    have d1 : decide ((b1 : Int) - (a1 : Int) ≤ 12) = false := decide_eq_false (by omega)
    by_cases c0 : l1 = 0
    · subst c0
      go_wp2_with (first | (go_at_call 79; refine (heapSort_calls C _ _ So.out a1 b1 (by omega) (by omega)).mono ?_; rintro e w2 ⟨rfl, hs, hg⟩; have k1 := So.mk hs; have k2 := Gb.mk hg; clear hs hg))
      ((try simp only [Exit.inBlock, Exit.then]); refine bodyPost_ret (results_none rfl _ _ _) rfl ?_)
      obtain ⟨h1, h2⟩ := heapSort_holds swo_beforeE dk a1 b1 hab1 (by omega)
      obtain ⟨h3, h4⟩ := HR.out _ h1 h2
      exact ⟨rfl, _, So.out, h3, h4, Fr.out⟩
    have d0 : ((l1 : Int) == 0) = false := beq_eq_false_iff_ne.mpr (by omega)
    go_upto_if 35 with fail
    go_cut [3] from 19 (fun s3 wc => ∃ (l2 : Nat) (dj : Array E), s3 = .int .i64 l2 ∧ Aside0 (l2 ≤ 100) ∧ Aside0 (PermIn a1 b1 dk dj) ∧ So C wc dj ∧ Fr C w wc ∧ Blk wc w.heap.size (datC C) 88)
    case first =>
      cases wb
      · go_wp2_with (first | (go_at_call 80; refine (break_calls C _ _ So.out a1 b1 (by omega) (by omega)).mono ?_; rintro e w2 ⟨rfl, D2, hs, hp, hg⟩; have k1 := So.mk hs; have k2 := Gb.mk hg; have HP := Aside0.mk hp; clear hs hg hp))
        go_meet
        case rel => exact ⟨l1 - 1, D2, by congr 1; omega, ⟨by omega⟩, HP, inferInstance, inferInstance, inferInstance⟩
      · go_wp2_with fail
        go_meet
        case rel => exact ⟨l1, dk, rfl, ⟨by omega⟩, ⟨permIn_refl dk a1 b1⟩, j1, j2, j3⟩
    case rest =>
      clear j1 j2 j3 d0 d1
      obtain ⟨l2, dj, rfl, HL2, HS, j1, j2, j3⟩ := hcut
      have hl2 := HL2.out
      go_upto_if 50 with (go_at_call 81; refine (choosePivot_calls C _ _ So.out a1 b1 (by omega) (by omega)).mono ?_; rintro e w2 ⟨p, k, rfl, hp1, hp2, hk, hb⟩; have jb := Bel.mk hb; clear hb)
      obtain ⟨p, rfl⟩ : ∃ p' : Nat, p = p' := ⟨p.toNat, by omega⟩
      go_cut [11, 12] from 19 (fun s11 s12 wc => ∃ (q : Nat) (k : Int) (dj2 : Array E), s11 = .int .i64 q ∧ s12 = .int .i64 k ∧ Aside0 (a1 ≤ q ∧ q < b1) ∧ Aside0 (PermIn a1 b1 dk dj2) ∧ So C wc dj2 ∧ Fr C w wc ∧ Blk wc w.heap.size (datC C) 88)
      case first =>
        by_cases h2 : k = 2
        · have h2b : (k == 2) = true := beq_iff_eq.mpr h2
          go_wp2_with (first | (go_at_call 82; refine (reverse_calls C _ _ So.out a1 b1 (by omega) (by omega)).mono ?_; rintro e w3 ⟨rfl, D2, hs, hp, hg⟩; have k1 := So.mk hs; have k2 := Gb.mk hg; have HP := Aside0.mk (permIn_trans _ _ _ _ _ HS.out hp); clear hs hg hp))
          go_meet
          case rel => exact ⟨b1 - 1 - (p - a1), 1, D2, by congr 1; omega, rfl, ⟨⟨by omega, by omega⟩⟩, HP, inferInstance, inferInstance, inferInstance⟩
        · have h2b : (k == 2) = false := beq_eq_false_iff_ne.mpr h2
          go_wp2_with fail
          go_meet
          case rel => exact ⟨p, k, dj, rfl, rfl, ⟨⟨by omega, by omega⟩⟩, HS, inferInstance, inferInstance, inferInstance⟩
      case rest =>
        clear j1 j2 j3 jb hk hp1 hp2 HS
        obtain ⟨q, k, dj2, rfl, rfl, HQ, HS, j1, j2, j3⟩ := hcut
        obtain ⟨hq1, hq2⟩ := HQ.out
        go_upto_region 16 with fail
        go_cut [68] from 19 (fun s68 wx => ∃ t : Bool, s68 = .bool t ∧ wx = wc)
        case first =>
          cases wb <;> cases wp <;> by_cases hk1 : k = 1 <;>
            (first | have hkb : (k == 1) = true := beq_iff_eq.mpr hk1 | have hkb : (k == 1) = false := beq_eq_false_iff_ne.mpr hk1) <;>
            (go_wp2_with fail
             go_meet
             exact ⟨_, rfl, rfl⟩)
        case rest =>
          obtain ⟨t, rfl, rfl⟩ := hcut
          go_upto_if 68 with fail
          go_cut [] from 19 (fun wx => So C wx dj2 ∧ Fr C w wx ∧ Blk wx w.heap.size (datC C) 88)
          case first =>
            cases t
            · go_wp2_with fail
              go_meet
              case rel => exact ⟨j1, j2, j3⟩
            · go_wp2_with (first | (go_at_call 83; refine (partial_calls C _ _ So.out a1 b1 (by omega) (by omega)).mono ?_; rintro e w3 ⟨r, rfl, hpi, hb⟩; have jb := Bel.mk hb; have HPI := Aside0.mk hpi; clear hb hpi; cases r))
              · go_meet
                exact ⟨inferInstance, inferInstance, inferInstance⟩
              · ((try simp only [Exit.inBlock, Exit.then]); refine bodyPost_ret (results_none rfl _ _ _) rfl ?_)
                obtain ⟨h1, h2⟩ := partialInsertionSort_holds swo_beforeE dj2 a1 b1 (by omega) (by rw [HS.out.1, hds]; omega) (Below.perm HB.out (by rw [hds]; omega) HS.out)
                rw [HPI.out] at h1 h2
                obtain ⟨h3, h4⟩ := HR.out _ (permIn_trans _ _ _ _ _ HS.out h1) (h2 rfl)
                exact ⟨rfl, _, So.out, h3, h4, Fr.out⟩
          case rest =>
            clear j1 j2 j3
            obtain ⟨j1, j2, j3⟩ := hcut
            go_upto_region 18 with fail
            go_cut [83] from 19 (fun s83 wx => ∃ t : Bool, s83 = .bool t ∧ Aside0 (t = true → 0 < a1 ∧ beforeE dj2[a1 - 1]! dj2[q]! = false) ∧ So C wx dj2 ∧ Fr C w wx ∧ Blk wx w.heap.size (datC C) 88)
            case first =>
              by_cases ha0 : a1 = 0
              · have ha1 : decide (0 < (a1 : Int)) = false := decide_eq_false (by omega)
                have ha2 : decide (0 < a1) = false := decide_eq_false (by omega)
                go_wp2_with fail
                go_meet
                case rel => exact ⟨false, rfl, ⟨fun h => by cases h⟩, j1, j2, j3⟩
              · have ha1 : decide (0 < (a1 : Int)) = true := decide_eq_true (by omega)
                have ha2 : decide (0 < a1) = true := decide_eq_true (by omega)
                go_wp2_with (first | (go_at_call 49; refine (less_ex So.out _ _ (a1 - 1) q (by omega) rfl (by omega) (by omega)).mono ?_; rintro e w3 ⟨lb, rfl, hlb, hb⟩; have jb := Bel.mk hb; have HL := Aside0.mk hlb; clear hb hlb; cases lb))
                · go_meet
                  exact ⟨true, rfl, ⟨fun _ => ⟨by omega, HL.out⟩⟩, inferInstance, inferInstance, inferInstance⟩
                · go_meet
                  exact ⟨false, rfl, ⟨fun h => by cases h⟩, inferInstance, inferInstance, inferInstance⟩
            case rest =>
              clear j1 j2 j3
              obtain ⟨t, rfl, HT, j1, j2, j3⟩ := hcut
              have hsz2 : b1 ≤ dj2.size := by rw [HS.out.1, hds]; omega
              have HB2 := Aside0.mk (Below.perm HB.out (by rw [hds]; omega) HS.out)
              cases t
              · go_upto_if 109 with (go_at_call 85; refine (partition_at So.out a1 b1 q _ rfl (by omega) (by omega) (by omega)).mono ?_; rintro e w3 ⟨mid, ap, D2, hx, rfl, hs, hg⟩; have k1 := So.mk hs; have k2 := Gb.mk hg; obtain ⟨r1, r2, r3, r4, r5, r6, r7⟩ := round_part swo_beforeE (partition_holds beforeE) hq1 hq2 hsz2 HB2.out hx; have R4 := Aside0.mk r4; have R5 := Aside0.mk r5; have R6 := Aside0.mk r6; have R7 := Aside0.mk r7; clear hs hg hx r3 r4 r5 r6 r7)
                by_cases h4 : mid - a1 < b1 - mid
                · have h4z : decide ((mid : Int) - (a1 : Int) < (b1 : Int) - (mid : Int)) = true := decide_eq_true (by omega)
                  go_wp2_with (first | (go_at_call 65; refine (IH.out _ _ So.out a1 mid l2 (by omega) (by omega) (by omega) (by omega) R4.out _ _ _ rfl rfl rfl).mono ?_; rintro e w4 ⟨rfl, L, hs, hp, hso, hg⟩; have k3 := So.mk hs; have k4 := Gb.mk hg; obtain ⟨u1, u2⟩ := R6.out L hp hso; have U1 := Aside0.mk u1; have U2 := Aside0.mk u2; clear hs hp hso hg u1 u2))
                  go_roundg (b1 - (mid + 1))
                  case measure => omega
                  case rel => exact ⟨mid + 1, b1, l2, _, ap, L, by first | rfl | go_num, rfl, rfl, rfl, rfl, ⟨⟨by omega, by omega, by omega, by omega, by omega⟩⟩, U1, ⟨fun R g1 g2 => by obtain ⟨g3, g4⟩ := U2.out R g1 g2; exact HR.out R (permIn_trans _ _ _ _ _ HS.out g3) g4⟩, inferInstance, inferInstance, inferInstance⟩
                · have h4z : decide ((mid : Int) - (a1 : Int) < (b1 : Int) - (mid : Int)) = false := decide_eq_false (by omega)
                  go_wp2_with (first | (go_at_call 65; refine (IH.out _ _ So.out (mid + 1) b1 l2 (by omega) (by omega) (by omega) (by omega) R5.out _ _ _ (by omega) rfl rfl).mono ?_; rintro e w4 ⟨rfl, L, hs, hp, hso, hg⟩; have k3 := So.mk hs; have k4 := Gb.mk hg; obtain ⟨u1, u2⟩ := R7.out L hp hso; have U1 := Aside0.mk u1; have U2 := Aside0.mk u2; clear hs hp hso hg u1 u2))
                  go_roundg (mid - a1)
                  case measure => omega
                  case rel => exact ⟨a1, mid, l2, _, ap, L, rfl, rfl, rfl, rfl, rfl, ⟨⟨by omega, by omega, by omega, by omega, by omega⟩⟩, U1, ⟨fun R g1 g2 => by obtain ⟨g3, g4⟩ := U2.out R g1 g2; exact HR.out R (permIn_trans _ _ _ _ _ HS.out g3) g4⟩, inferInstance, inferInstance, inferInstance⟩
              · obtain ⟨ha0, hnl⟩ := HT.out rfl
                have HNL := Aside0.mk hnl
                clear hnl
                go_wp2_with (first | (go_at_call 84; refine (partitionEqual_at So.out a1 b1 q _ rfl (by omega) (by omega) (by omega)).mono ?_; rintro e w3 ⟨mid, D2, hx, rfl, hs, hg⟩; have k1 := So.mk hs; have k2 := Gb.mk hg; obtain ⟨r1, r2, r3, r4, r5⟩ := round_eq swo_beforeE (partitionEqual_holds beforeE) ha0 hq1 hq2 hsz2 HB2.out HNL.out hx; have R4 := Aside0.mk r4; have R5 := Aside0.mk r5; clear hs hg hx r3 r4 r5))
                go_roundg (b1 - mid)
                case measure => omega
                case rel => exact ⟨mid, b1, l2, wb, wp, D2, rfl, rfl, rfl, rfl, rfl, ⟨⟨by omega, by omega, by omega, by omega, by omega⟩⟩, R4, ⟨fun R g1 g2 => by obtain ⟨g3, g4⟩ := R5.out R g1 g2; exact HR.out R (permIn_trans _ _ _ _ _ HS.out g3) g4⟩, inferInstance, inferInstance, inferInstance⟩
theorem pdq_all (C : SoC) [SoG C] : ∀ N, PdqOk C N
  | 0 => fun _ _ _ _ _ _ h => absurd h (Nat.not_lt_zero _)
  | N + 1 => pdq_step C N (pdq_all C N)
end Go.Proofs.Ytnknnbpodpfljaa.S


namespace Go.Proofs.Ytnknnbpodpfljaa.S
open Go.RowKit Go.Sort Go.Lib Go.Proofs.Ytnknnbpodpfljaa.P Go.Proofs.Ytnknnbpodpfljaa.Q Go.Proofs.Ytnknnbpodpfljaa.V Go.Proofs.YtnknnbpodpfljaaW.PrintWords
set_option linter.unusedVariables false
set_option linter.unusedSimpArgs false
theorem plain4 : Plain k36 enc4 where
  len := fun _ => rfl
  pos := by decide
  of := fun {w base ok x cs} h => by
    obtain ⟨c0, c1, rfl, ⟨d0, d1, rfl, h0, h1⟩, e0, e1, rfl, h2, h3⟩ := h
    rw [h0, h1, h2, h3]
    rfl
  make := fun w base ok x => k36_mkM w base ok x
theorem R_of_so {C : SoC} {w w' : World} {base : Nat} {ok : Nat → Prop} {xs : List E} {D : Array E} (h : k36.R 36 w base ok (.slice (some ⟨C.g, 0, none⟩) xs.length C.c) xs) (hs : SoAt C w' D) (hn : xs.length = C.n) :
    k36.R 36 w' base ok (.slice (some ⟨C.g, 0, none⟩) xs.length C.c) D.toList := by
  obtain ⟨hok, inner, ho, hr⟩ := h
  rcases ho.2 with ⟨hn', _⟩ | ⟨g', cap', cur0, hv, hg, hh, hle, hmx, hcs, htk⟩
  · simp at hn'
  obtain ⟨e1, e2⟩ : C.g = g' ∧ C.c = cap' := by simpa using hv
  subst e1 e2
  obtain ⟨cur, hc, hcz⟩ := hs.shape
  have hD : D.size = xs.length := by rw [hs.size, hn]
  have hat : ∀ i, i < D.size → (cur.toList.drop (i * 4)).take 4 = enc4 D[i]! := by
    intro i hi
    obtain ⟨a0, a1, a2, a3⟩ := hs.at_ i (by rw [← hs.size]; exact hi)
    have e0 := (blk_cell hc (i * 4)).symm.trans a0
    have e1 := (blk_cell hc (i * 4 + 1)).symm.trans a1
    have e2 := (blk_cell hc (i * 4 + 2)).symm.trans a2
    have e3 := (blk_cell hc (i * 4 + 3)).symm.trans a3
    refine List.ext_getElem? fun c => ?_
    by_cases hc4 : c < 4
    · rw [chunk_at hc4, Array.getElem?_toList]
      rcases c with _ | _ | _ | _ | c
      · exact e0
      · exact e1
      · exact e2
      · exact e3
      · omega
    · rw [List.getElem?_eq_none (by rw [List.length_take]; omega), List.getElem?_eq_none (by show (enc4 D[i]!).length ≤ c; rw [enc4_len]; omega)]
  have hlen : D.toList.length = xs.length := by simpa using hD
  have hln : (cur.toList.take (xs.length * 4)).length = xs.length * 4 := by
    have hcl : cur.toList.length = C.c * 4 := by simpa using hcz
    rw [List.length_take, hcl]
    exact Nat.min_eq_left (Nat.mul_le_mul_right 4 hle)
  refine ⟨hok, cur.toList.take (xs.length * 4), ⟨?_, .inr ⟨C.g, C.c, cur, by rw [hlen], hg, hc, by rw [hlen]; exact hle, hmx, hcz, by rw [hlen]; rfl⟩⟩, ?_, fun i x hx => ?_⟩
  · rw [hlen]; exact hln
  · rw [hlen]; exact hln
  · have hi : i < D.size := by have := (List.getElem?_eq_some_iff.1 hx).1; simpa using this
    have hxi : D[i]! = x := by
      have := (List.getElem?_eq_some_iff.1 hx).2
      rw [getElem!_pos D i hi]
      simpa using this
    have e : ((cur.toList.take (xs.length * 4)).drop (i * 4)).take 4 = enc4 x := by
      rw [List.drop_take, List.take_take, Nat.min_eq_left (by rw [← hD]; omega), hat i hi, hxi]
    show k36.M w' base _ x (((cur.toList.take (xs.length * 4)).drop (i * 4)).take 4)
    rw [e]
    exact plain4.make _ _ _ _
noncomputable def svT : TypeInfo := (Try.prog.info? 24).get (by kernel_rfl)
noncomputable def svE : TypeInfo := (Try.prog.info? 36).get (by kernel_rfl)
theorem svK (n : Nat) (h2 : 2 ≤ n) : Lib.swapperK n svE 25 = 9 := by
  have a : svE.hasPointers = false := by kernel_rfl
  have b : svE.bytes = 32 := by kernel_rfl
  have c : (n == 0) = false := by simp; omega
  have d : (n == 1) = false := by simp; omega
  simp [Lib.swapperK, a, b, c, d]
theorem sort_entries (w : World) (g cap bs base : Nat) (ok : Nat → Prop) (xs : List E) (hR : k36.R 36 w base ok (.slice (some ⟨g, 0, none⟩) xs.length cap) xs) (hB : w.heap[bs]? = some (.cells #[.slice (some ⟨g, 0, none⟩) xs.length cap] 24 (0, 0)))
    (hne : bs ≠ g) (h2 : 2 ≤ xs.length) (h50 : xs.length < 50) (hf : ∀ x ∈ xs, Ftd x) :
    Calls Try.prog 48 #[.iface 24 (.slice (some ⟨g, 0, none⟩) xs.length cap), .func (.func 49) #[] #[.pointer (some ⟨bs, 0, none⟩)]] w fun e w' => e = .returned (.tuple #[]) ∧
      ∃ D : Array E, PermIn 0 xs.length xs.toArray D ∧ SortedIn beforeE 0 xs.length D ∧ k36.R 36 w' base ok (.slice (some ⟨g, 0, none⟩) xs.length cap) D.toList ∧ w.grownBy w' (some g) := by
  refine Any.sort_Slice_of_pdq sv6 24 36 svT svE (by kernel_rfl) (by kernel_rfl) (by kernel_rfl) (by kernel_rfl) 25 (fun _ => by kernel_rfl) _ xs.length cap (by omega) 75 (by rw [svK _ h2]; kernel_rfl) _ _ _ w _ ?_
  have hbd : sliceBound Try.prog 36 svE 25 (some ⟨g, 0, none⟩) xs.length cap = #[.slice (some ⟨g, 0, none⟩) xs.length cap, typeHandle Try.prog 36] := by
    unfold sliceBound
    rw [if_neg (swapperK_gt _ _ _ h2)]
  rw [hbd]
  let C : SoC := ⟨g, bs, xs.length, cap, #[.pointer (some ⟨bs, 0, none⟩)], #[.slice (some ⟨g, 0, none⟩) xs.length cap, typeHandle Try.prog 36]⟩
  haveI : SoG C := ⟨swapSwapsK_of_literal false 75 (fun args W => run_callFunc_extern Try.func75 (by kernel_rfl) (by kernel_rfl) (by kernel_rfl) (e := Extern.ReflectliteSwapper.swap false) (by kernel_rfl) args W) 36 svE (by kernel_rfl) enc4 4 (fun _ => rfl) (by kernel_rfl) (fun _ => by kernel_rfl) (fun x v hv => by simp [enc4] at hv; rcases hv with rfl | rfl | rfl | rfl <;> rfl) g 0 xs.length cap, h50, rfl, hne⟩
  have h0 : SoAt C w xs.toArray := by
    have hR0 := hR
    obtain ⟨_, inner, ho, _⟩ := hR0
    rcases ho.2 with ⟨hn', _⟩ | ⟨g', cap', cur0, hv, hg, hh, hle, hmx, hcs, htk⟩
    · simp at hn'
    obtain ⟨e1, e2⟩ : g = g' ∧ cap = cap' := by simpa using hv
    subst e1 e2
    exact ⟨holds_of_R plain4 hR, by simp [C], hB, blk_lt hh, ⟨cur0, hh, hcs⟩, fun x hx => hf x (by simpa using hx)⟩
  have hbl : RowKit.Below w.heap.size w (sliceWorld Try.prog sv6_ren 24 (some ⟨g, 0, none⟩) xs.length cap w) := below_alloc (below_alloc (RowKit.Below.refl _ _) _) _
  have h1 := h0.below hbl
  have hbit : Lib.bitLen xs.length ≤ 62 := Lib.bitLen_le xs.length 62 (by omega) (by omega)
  have := pdq_all C (xs.length + 1) _ _ h1 0 xs.length (Lib.bitLen xs.length) (by omega) (by omega) (Nat.le_refl _) (by omega) (.inl rfl) _ _ _ rfl rfl rfl
  refine this.mono ?_
  rintro e w' ⟨he, D, hs, hp, hso, hg⟩
  exact ⟨he, D, hp, hso, R_of_so (C := C) hR hs rfl, grownBy_trans (grownBy_below hbl) hg⟩
theorem sort_tiny (w : World) (A : Option Addr) (n cap bs : Nat) (h1 : n ≤ 1) :
    Calls Try.prog 48 #[.iface 24 (.slice A n cap), .func (.func 49) #[] #[.pointer (some ⟨bs, 0, none⟩)]] w fun e w' => e = .returned (.tuple #[]) ∧ RowKit.Below w.heap.size w w' := by
  have hK : n = 0 ∨ n = 1 := by omega
  have a : svE.hasPointers = false := by kernel_rfl
  have b : svE.bytes = 32 := by kernel_rfl
  have key : ∀ f, Try.prog.funcs.findIdx? (·.name == "internal/reflectlite" ++ ".Swapper$" ++ toString (swapperK n svE 25)) = some f → Calls Try.prog 48 #[.iface 24 (.slice A n cap), .func (.func 49) #[] #[.pointer (some ⟨bs, 0, none⟩)]] w fun e w' => e = .returned (.tuple #[]) ∧ RowKit.Below w.heap.size w w' := by
    intro f hf
    refine (Any.sort_Slice_tiny sv6 24 36 svT svE (by kernel_rfl) (by kernel_rfl) (by kernel_rfl) (by kernel_rfl) 25 (fun _ => by kernel_rfl) A n cap h1 f hf _ _ _ w).mono ?_
    rintro e w' ⟨he, os, rfl⟩
    exact ⟨he, rfl, rfl, rfl, by simp, fun k hk => heap_grow_old _ _ hk⟩
  rcases hK with rfl | rfl
  · exact key 67 (by rw [show swapperK 0 svE 25 = 1 from rfl]; kernel_rfl)
  · exact key 68 (by rw [show swapperK 1 svE 25 = 2 from rfl]; kernel_rfl)
end Go.Proofs.Ytnknnbpodpfljaa.S


namespace Go.Proofs.Ytnknnbpodpfljaa.P
open Go.RowKit Go.Proofs.YtnknnbpodpfljaaW.PrintWords Go.Proofs.YtnknnbpodpfljaaW.PrintLast Go.Proofs.YtnknnbpodpfljaaW.PrintMore Go.Proofs.Ytnknnbpodpfljaa.V
open Go.Maps (Keyed)
set_option linter.unusedVariables false
set_option linter.unusedSimpArgs false
attribute [local go_sem] cell_b frozen_b
set_option maxHeartbeats 8000000 in
set_option maxRecDepth 100000 in
set_option synthInstance.maxHeartbeats 400000 in
set_option synthInstance.maxSize 100000 in
theorem impl_OpenFaults.calls_ok (k : Nat) (A0 : Option Addr) (c0 : Nat) (l0 : List (S36)) (w : World) (hr0 : Kd.C k36 w A0 l0.length l0) (hc0 : l0.length ≤ c0) (A : impl_LogOk.f k l0 = some true) (hl30 : l0.length ≤ 30) (hw : ∀ x ∈ l0, wf64 x.f0.f0 ∧ wf64 x.f0.f1) (hfl : ∀ x ∈ l0, 0 ≤ x.f1 ∧ x.f1 ≤ 2) :
    Calls Try.prog 27 #[.slice A0 l0.length c0] w fun e w' => ∃ v0_ : Value, e = .returned (v0_) ∧ Kd.R k36 36 w' w.heap.size (fun _ => True) v0_ (Q.openUp l0 l0.length) ∧ Below w.heap.size w w' := by
  have hl : l0.length ≤ 1000 := by omega
  have HFL := Aside0.mk hfl
  clear hfl
  have i0 := RdE.mk hr0
  have i1 := LeI.mk hc0
  have A := Aside0.mk A
  have HW := Aside0.mk hw
  clear hr0 hc0 hw
  have hu74 := Try.underlying36
  have hu56 := Try.underlying31
  go_enter Try.func27, Try.ntmps27
  go_wp2_with (first
    | (go_at_call 18; refine (impl_LogOk.calls k _ _ _ true _ Rd.out LeI.out A.out).mono ?_; rintro e w2 ⟨rfl, hb⟩; have jb := Bel.mk hb; clear hb)
    | (go_at_call 43; refine (impl_lastOf.calls _ _ _ _ Rd.out LeI.out hl HW.out).mono ?_; rintro e w3 ⟨b, rfl, hb1, hm, hb⟩; obtain ⟨D, hD, hD2⟩ := hm; have jb := Bel.mk hb; have HD := Aside0.mk hD; have HD2 := Aside0.mk hD2; have HB1 := Aside0.mk hb1; clear hb hb1 hD hD2)
    | (at_range; refine wpList_range_own _ rfl _ 60 rfl 31 36 pipeKeyed Try.underlying60 pipeR b l0.length D rfl HD.out ?_; intro w4 hrg hg hs; have HRG := Aside0.mk hrg; have HG := Aside0.mk hg; have HS := Aside0.mk hs; clear hrg hg hs))
  go_frame
  have HNE := Aside0.mk (HRG.out.ne)
  have HSZ := Aside0.mk (HD.out.size_le)
  have HLB := Aside0.mk (HD.out.lt)
  have HGB : Aside0 (w2.heap.size + 2 ≤ w3.heap.size) := ⟨by have hs := (Bel.out (W := w3)).size; simpa using hs⟩
  have HGM : Aside0 (w2.heap.size + 2 ≤ b) := ⟨by have := HB1.out; simpa using this⟩
  have HGW : Aside0 (w.heap.size ≤ w2.heap.size) := ⟨Sz.out⟩
  have HB0 : Aside0 (Below w.heap.size w w4) := ⟨(From.out : Below w.heap.size w w3).grown HG.out (Sz.out : w.heap.size ≤ w3.heap.size) (fun k hk => by cases hk)⟩
  have HBX : Aside0 (w4.heap[w2.heap.size + 1]? = some (.cells #[.slice (some ⟨w2.heap.size, 0, none⟩) 0 0] 24 (0, 0))) := ⟨by
    have h3 : Blk w3 (w2.heap.size + 1) #[.slice (some ⟨w2.heap.size, 0, none⟩) 0 0] 24 := ⟨blk_below (by have := blk_new (w2.alloc (.cells #[] 36 (0, 0))) (.cells #[.slice (some ⟨w2.heap.size, 0, none⟩) 0 0] 24 (0, 0)); simpa using this) (Bel.out (W := w3))⟩
    exact (HG.out.block _ (blk_lt h3.out) (by simp)).trans h3.out⟩
  have HRW : Aside0 (Kd.R k36 36 w4 w.heap.size (fun j => j ≠ w2.heap.size + 1 ∧ j ≠ b ∧ j ≠ w3.heap.size) (.slice (some ⟨w2.heap.size, 0, none⟩) 0 0) []) := ⟨by
    have h3 : Blk w3 w2.heap.size #[] 36 := ⟨blk_below (blk_alloc (blk_new w2 (.cells #[] 36 (0, 0))) (.cells #[.slice (some ⟨w2.heap.size, 0, none⟩) 0 0] 24 (0, 0))) (Bel.out (W := w3))⟩
    have h4 : w4.heap[w2.heap.size]? = some (.cells #[] 36 (0, 0)) := (HG.out.block _ (blk_lt h3.out) (by simp)).trans h3.out
    refine ⟨fun k hk => ?_, [], ⟨rfl, .inr ⟨w2.heap.size, 0, #[], rfl, HGW.out, h4, Nat.le_refl _, Nat.zero_le _, rfl, rfl⟩⟩, Reps.none _ _⟩
    obtain rfl : w2.heap.size = k := by simpa [Value.ownBlock] using hk
    exact ⟨by omega, by have := HGM.out; omega, by have := HGB.out; omega⟩⟩
  have HF0 : Aside0 (Found (lastMap l0) (Maps.has D) []) := ⟨⟨fun x hx => by simp at hx, List.Pairwise.nil, fun p x h0 h1 hm hx hf => by
    have e1 := Maps.atKey_of_not_has hf (.map [])
    have e2 := HD2.out.at_ p h0 h1 (.map [])
    rw [hm] at e2
    exact absurd (e1.symm.trans e2) (by simp [quadD])⟩⟩
  go_loopg [] (Maps.size D + 1) (fun kq wr => ∃ (left : Lit → Bool) (cnt : Nat) (v : Value) (xs : List S36), Aside0 (kq = cnt + 1) ∧ Aside0 (xs.length + cnt ≤ Maps.size D) ∧ Aside0 (wr.ranges Try.prog 31 pipeR b w3.heap.size l0.length D left cnt) ∧ Aside0 (Found (lastMap l0) left xs) ∧ Aside0 (Kd.R k36 36 wr w.heap.size (fun j => j ≠ w2.heap.size + 1 ∧ j ≠ b ∧ j ≠ w3.heap.size) v xs) ∧ Aside0 (wr.heap[w2.heap.size + 1]? = some (.cells #[v] 24 (0, 0))) ∧ Aside0 (Below w.heap.size w wr))
  case atStart => exact ⟨_, _, _, [], ⟨rfl⟩, ⟨by simp⟩, HRG, HF0, HRW, HBX, HB0⟩
  case round =>
    clear HRG HF0 HRW HBX HB0 HG
    obtain ⟨left, cnt, v, xs, HK, HN, HRG, HF, HR, HBX, HB⟩ := hrel
    go_wp2_with (first
      | (at_next; refine wpList_next_ranges _ rfl _ rfl 31 pipeKeyed pipeR (fun p : S31 => pairV p.f0 p.f1) quadV (fun key kl h => by obtain ⟨a, b, rfl, _⟩ := keyOf_pipe_inv h; exact ⟨⟨a, b⟩, rfl⟩) (fun v y h => by obtain ⟨x, rfl, _⟩ := pipeR_inv h; exact ⟨x, rfl⟩) b w3.heap.size l0.length D left cnt rfl HRG.out ?_ ?_))
    rotate_left
    · intro p c kl y1 y2 w5 cnt1 hk hlk hv hat hrg1 hlt hg1 hs1 hen
      obtain ⟨p0, p1⟩ : wf64 p.f0 ∧ wf64 p.f1 := by
        obtain ⟨a, b', e, ha, hb⟩ := keyOf_pipe_inv hk
        simp [pairV] at e
        rw [e.1, e.2]
        exact ⟨ha, hb⟩
      obtain rfl : kl = pipeL p.f0 p.f1 := Option.some.inj (hk.symm.trans (keyOf_pipe p0 p1))
      obtain ⟨rfl, rfl⟩ : y1 = quadD c ∧ y2 = [] := by
        have := (pipeR_mk c).symm.trans hv
        simp at this
        exact ⟨this.1.symm, this.2⟩
      have hm := mapIs_key HD2.out p0 p1 hat
      obtain rfl : c.f0 = p := by
        have := (Q.lastMap_iff l0 p c l0.length (Nat.le_refl _)).mp (by rw [List.take_length]; exact hm)
        obtain ⟨_, _, _, e, _⟩ := this
        exact e
      have HST := Aside0.mk (HF.out.step c p0 p1 hm hlk)
      have HRG1 := Aside0.mk hrg1
      have HLT := Aside0.mk hlt
      have HG1 := Aside0.mk hg1
      have HS1 := Aside0.mk hs1
      clear hk hlk hv hat hrg1 hlt hg1 hs1 hm HF HRG
      simp only [pairV, quadV] at hen ⊢
      have HR1 := Aside0.mk (Kd.R_grown HR.out HG1.out (fun j hj e => hj.2.2 (Option.some.inj e)))
      have HBX1 : Aside0 (w5.heap[w2.heap.size + 1]? = some (.cells #[v] 24 (0, 0))) := ⟨(HG1.out.block _ (blk_lt HBX.out) (fun e => by have := HGB.out; have := Option.some.inj e; omega)).trans HBX.out⟩
      have HB1 : Aside0 (Below w.heap.size w w5) := ⟨HB.out.grown HG1.out HB.out.size (fun k hk => by cases hk; have := HGB.out; have := HGW.out; omega)⟩
      have jx := Blk.mk HBX1.out
      have HE := Aside0.mk (show (if c.f1 ≠ 0 then xs ++ [c] else xs) = (if c.f1 ≠ 0 then xs ++ [c] else xs) from rfl)
      clear HR HBX HB
      by_cases hc : c.f1 = 0
      · rw [if_neg (by simpa using hc)] at HST
        obtain ⟨ck, c1, c2⟩ := c
        simp only at hc
        subst hc
        simp only at hen ⊢
        go_wp2
        go_roundg (cnt1 + 1)
        case measure => have := HK.out; have := HLT.out; omega
        case rel =>
          refine ⟨_, cnt1, v, xs, ⟨rfl⟩, ⟨by have := HN.out; have := HLT.out; omega⟩, ⟨HRG1.out.alloc _⟩, HST, ⟨Kd.R_alloc HR1.out _⟩, ⟨blk_alloc HBX1.out _⟩, ⟨below_alloc HB1.out _⟩⟩
      · rw [if_pos hc] at HST
        have hd := beq_eq_false_iff_ne.mpr hc
        have he := bne_iff_ne.mpr hc
        go_upto_region 8 with (fail)
        generalize hW : w5.alloc _ = W
        have HR7 : Aside0 (Kd.R k36 36 W w.heap.size (fun j => j ≠ w2.heap.size + 1 ∧ j ≠ b ∧ j ≠ w3.heap.size) v xs) := ⟨by rw [← hW]; exact Kd.R_alloc HR1.out _⟩
        have HBX7 : Aside0 (W.heap[w2.heap.size + 1]? = some (.cells #[v] 24 (0, 0))) := ⟨by rw [← hW]; exact blk_alloc HBX1.out _⟩
        have HB7 : Aside0 (Below w.heap.size w W) := ⟨by rw [← hW]; exact below_alloc HB1.out _⟩
        have HRG7 : Aside0 (W.ranges Try.prog 31 pipeR b w3.heap.size l0.length D _ cnt1) := ⟨by rw [← hW]; exact HRG1.out.alloc _⟩
        have HSZ7 : Aside0 (w3.heap.size + 1 ≤ W.heap.size) := ⟨HRG7.out.lt⟩
        have jE : Blk W w5.heap.size #[.int .i64 c.f0.f0, .int .i64 c.f0.f1, .int .i64 c.f1, .int .i64 c.f2] 36 := ⟨by rw [← hW]; exact blk_new w5 _⟩
        have jX := Blk.mk HBX7.out
        clear hW jx HR1 HBX1 HB1 HRG1
        go_wp2_with (first
          | (refine Kd.R_append k36 (w0 := w) w.heap.size rfl (.tmp 20) (.tmp 22) 24 36 (.agg #[(.int .i64 0), (.int .i64 0), (.int .i64 0), (.int .i64 0)]) 32 rfl Try.underlying24 info36 rfl (by decide) (by omega) v xs c [.int .i64 c.f0.f0, .int .i64 c.f0.f1, .int .i64 c.f1, .int .i64 c.f2] (fun j => j ≠ w2.heap.size + 1 ∧ j ≠ b ∧ j ≠ w3.heap.size) (fun _ => False) rfl rfl ?aP (fun _ hk => hk.elim) ?aF ?aO ?aB ?aS ?aL ?_; (case aP => exact k36_mkM _ _ _ c); (case aB => exact HB7.out); (case aF => intro j hj; have := HSZ7.out; have := HGB.out; have := HLB.out; exact ⟨by omega, by omega, by omega⟩); (case aO => exact HR7.out); (case aS => exact HB7.out.size); (case aL => have := HN.out; have := HSZ.out; omega); intro v1 w6 ho hb hg hat; obtain ⟨B1, b1, rfl⟩ := Kd.R_slice ho; have HO := Aside0.mk ho; have HB6 := Aside0.mk hb; have HG6 := Aside0.mk hg; have j6 : Blk w6 (w2.heap.size + 1) #[v] 24 := ⟨(HG6.out.block _ (blk_lt HBX7.out) (fun e => (HR7.out.1 _ e.symm).1 rfl)).trans HBX7.out⟩; clear ho hb hg))
        go_roundg (cnt1 + 1)
        case measure => have := HK.out; have := HLT.out; omega
        case rel =>
          refine ⟨_, cnt1, .slice B1 (xs.length + 1) b1, xs ++ [c], ⟨rfl⟩, ⟨by have := HN.out; have := HLT.out; simp only [List.length_append, List.length_singleton]; omega⟩, ⟨?_⟩, HST, ⟨?_⟩, ⟨?_⟩, ⟨?_⟩⟩
          · refine World.ranges.kept (HRG7.out.kept HG6.out (fun e => (HR7.out.1 _ e.symm).2.1 rfl) (fun e => (HR7.out.1 _ e.symm).2.2 rfl)) (grownBy_setCell' w6 _ _) (fun e => ?_) (fun e => ?_)
            · have := HGM.out; have := Option.some.inj e; omega
            · have := HGB.out; have := Option.some.inj e; omega
          · refine Kd.R_far (by simpa using HO.out) (fun j hj => hj.1) _
          · exact blk_put j6.out 0 _ rfl
          · exact below_set HB6.out (by have := HGW.out; omega)
    · intro hc0 hl0
      have hall := HF.out.all
      have hnd : xs.Nodup := by
        refine HF.out.nodup.imp ?_
        intro p q h e
        exact h (by rw [e])
      have hmem : ∀ x, x ∈ xs ↔ lastMap l0 x.f0 = some x ∧ x.f1 ≠ 0 := fun x => ⟨fun hx => ⟨(hall x hx).1, (hall x hx).2.1⟩, fun hx => by
        have hin : x ∈ l0 := by
          have h9 := (Q.mem_open l0 x).mpr hx
          obtain ⟨i, _, _, h3⟩ := (Q.mem_openUp l0 x l0.length (Nat.le_refl _)).mp h9
          exact List.mem_of_getElem? h3
        exact HF.out.got x.f0 x (HW.out x hin).1 (HW.out x hin).2 hx.1 hx.2 (hl0 _)⟩
      have hin : ∀ x ∈ xs, x ∈ l0 := fun x hx => by
        have h9 := (Q.mem_open l0 x).mpr ((hmem x).mp hx)
        obtain ⟨i, _, _, h3⟩ := (Q.mem_openUp l0 x l0.length (Nat.le_refl _)).mp h9
        exact List.mem_of_getElem? h3
      have hft : ∀ x ∈ xs, S.Ftd x := fun x hx => by
        have h8 := HFL.out x (hin x hx)
        have h9 := ((hmem x).mp hx).2
        unfold S.Ftd
        omega
      have hfin : ∀ D' : Array S36, Sort.PermIn 0 xs.length xs.toArray D' → Sort.SortedIn Q.beforeE 0 xs.length D' → D'.toList = Q.openUp l0 l0.length := fun D' hp hs => by
        obtain ⟨h8, h9⟩ := sorted_pairwise (lt := Q.beforeE) (D := xs.toArray) (D' := D') (by simpa using hp) (by simpa using hs) (fun a _ c _ hne => Q.before_total hne) (by simpa using hnd)
        refine Q.open_unique l0 _ h9 fun x => ?_
        rw [h8.mem_iff]
        simpa using hmem x
      have hsmall : xs.length < 50 := by have := HN.out; have := HSZ.out; omega
      have HFT := Aside0.mk hft
      have HFIN := Aside0.mk hfin
      clear hall hnd hmem hin hft hfin HF HRG
      have jx := Blk.mk HBX.out
      by_cases h2 : 2 ≤ xs.length
      · obtain ⟨g, cap, rfl, hg1, hg2, _⟩ := Kd.R_form HR.out (by omega)
        have hne : w2.heap.size + 1 ≠ g := fun e => (HR.out.1 g (by simp [Value.ownBlock])).1 e.symm
        go_wp2_with (first
          | (go_at_call 48; refine (S.sort_entries wr g cap (w2.heap.size + 1) w.heap.size _ xs HR.out HBX.out hne h2 hsmall HFT.out).mono ?_; rintro e w9 ⟨rfl, D9, hp, hso, hR9, hg9⟩; have jx9 : Blk w9 (w2.heap.size + 1) #[.slice (some ⟨g, 0, none⟩) xs.length cap] 24 := ⟨(hg9.block _ (blk_lt HBX.out) (fun e => hne (Option.some.inj e))).trans HBX.out⟩; have H9 := Aside0.mk (HFIN.out D9 hp hso); have R9 := Aside0.mk hR9; have B9 : Aside0 (Below w.heap.size w w9) := ⟨HB.out.grown hg9 HB.out.size (fun k hk => by cases hk; exact hg1)⟩; clear hp hso hR9 hg9))
        go_ret
        refine ⟨_, rfl, ?_, B9.out⟩
        rw [← H9.out]
        exact Kd.R_mono R9.out (fun _ _ => trivial)
      · obtain ⟨A9, cap, rfl⟩ := Kd.R_slice HR.out
        go_wp2_with (first
          | (go_at_call 48; refine (S.sort_tiny wr A9 xs.length cap (w2.heap.size + 1) (by omega)).mono ?_; rintro e w9 ⟨rfl, hb9⟩; have jb9 := Bel.mk hb9; have R9 := Aside0.mk (Kd.R_below HR.out hb9); have B9 : Aside0 (Below w.heap.size w w9) := ⟨below_step HB.out hb9⟩; clear hb9))
        go_ret
        refine ⟨_, rfl, ?_, B9.out⟩
        have hp : Sort.PermIn 0 xs.length xs.toArray xs.toArray := Sort.permIn_refl _ _ _
        have hso : Sort.SortedIn Q.beforeE 0 xs.length xs.toArray := fun i j _ h1 h2 => by omega
        rw [← HFIN.out xs.toArray hp hso]
        exact Kd.R_mono R9.out (fun _ _ => trivial)
set_option maxHeartbeats 8000000 in
set_option maxRecDepth 100000 in
set_option synthInstance.maxHeartbeats 400000 in
set_option synthInstance.maxSize 100000 in
theorem impl_OpenFaults.calls_no (k : Nat) (A0 : Option Addr) (c0 : Nat) (l0 : List (S36)) (w : World) (hr0 : Kd.C k36 w A0 l0.length l0) (hc0 : l0.length ≤ c0) (A : impl_LogOk.f k l0 = some false) :
    Calls Try.prog 27 #[.slice A0 l0.length c0] w fun e w' => ∃ v0_ : Value, e = .returned (v0_) ∧ Kd.R k36 36 w' w.heap.size (fun _ => True) v0_ ([] : List S36) ∧ Below w.heap.size w w' := by
  have i0 := RdE.mk hr0
  have i1 := LeI.mk hc0
  have A := Aside0.mk A
  clear hr0 hc0
  go_enter Try.func27, Try.ntmps27
  go_wp2_with (first
    | (go_at_call 18; refine (impl_LogOk.calls k _ _ _ false _ Rd.out LeI.out A.out).mono ?_; rintro e w2 ⟨rfl, hb⟩; have jb := Bel.mk hb; clear hb))
  go_ret
  exact ⟨_, rfl, Kd.R_nil _ _ _ _ _, From.out⟩
end Go.Proofs.Ytnknnbpodpfljaa.P


namespace Go.Proofs.Ytnknnbpodpfljaa.P
open Go.RowKit Go.Proofs.YtnknnbpodpfljaaW.PrintWords Go.Proofs.YtnknnbpodpfljaaW.PrintLast Go.Proofs.YtnknnbpodpfljaaW.PrintMore Go.Proofs.Ytnknnbpodpfljaa.V
attribute [local go_sem] cell_b frozen_b
attribute [local go_sem] max2_int min2_int max_two min_two max_three min_three max_four min_four
set_option linter.unusedVariables false
set_option linter.unusedSimpArgs false
def impl_OpenFaults.f (l0 : List (S36)) : Option (List (S36)) := if l0.length ≤ 1048577 then some (if Q.logOk l0 = true then Q.openUp l0 l0.length else []) else none
theorem impl_OpenFaults.calls (A0 : Option Addr) (c0 : Nat) (l0 : List (S36)) (r : List (S36)) (w : World) (hr0 : Kd.C k36 w A0 l0.length l0) (hc0 : l0.length ≤ c0) (h : impl_OpenFaults.f l0 = some r) :
    Calls Try.prog 27 #[.slice A0 l0.length c0] w fun e w' => ∃ v0_ : Value, e = .returned (v0_) ∧ Kd.R k36 36 w' w.heap.size (fun _ => True) v0_ r ∧ Below w.heap.size w w' := by
  unfold impl_OpenFaults.f at h
  by_cases h0 : l0.length ≤ 1048577
  rotate_left
  · rw [if_neg h0] at h; cases h
  rw [if_pos h0] at h
  obtain ⟨k, hk⟩ := Q.logOk_impl l0 h0
  have A := hk k (Nat.le_refl _)
  by_cases hb : Q.logOk l0 = true
  · rw [if_pos hb] at h
    rw [hb] at A
    obtain ⟨h1, h2, h3⟩ := logOk_all hb
    obtain rfl := Option.some.inj h
    exact impl_OpenFaults.calls_ok k A0 c0 l0 w hr0 hc0 A h1 h2 h3
  · rw [if_neg hb] at h
    rw [Bool.eq_false_iff.mpr hb] at A
    obtain rfl := Option.some.inj h
    exact impl_OpenFaults.calls_no k A0 c0 l0 w hr0 hc0 A
end Go.Proofs.Ytnknnbpodpfljaa.P


namespace Go.Proofs.Ytnknnbpodpfljaa.P
open Go.RowKit Go.Proofs.YtnknnbpodpfljaaW.PrintWords Go.Proofs.YtnknnbpodpfljaaW.PrintLast Go.Proofs.YtnknnbpodpfljaaW.PrintMore
attribute [local go_sem] max2_int min2_int max_two min_two max_three min_three max_four min_four
set_option linter.unusedVariables false
set_option linter.unusedSimpArgs false
def impl_CountFaults.f (l0 : List (S36)) : Option (Int) := (impl_OpenFaults.f l0).bind fun t298 => (some (t298.length : Int))
set_option maxHeartbeats 8000000 in
set_option maxRecDepth 100000 in
theorem impl_CountFaults.calls (A0 : Option Addr) (c0 : Nat) (l0 : List (S36)) (r : Int) (w : World) (hr0 : Kd.C k36 w A0 l0.length l0) (hc0 : l0.length ≤ c0) (h : impl_CountFaults.f l0 = some r) :
    Calls Try.prog 22 #[.slice A0 l0.length c0] w fun e w' => e = .returned (.int .i64 r) ∧ Below w.heap.size w w' := by
  have HR0 := Aside0.mk hr0
  have HC0 := Aside0.mk hc0
  clear hr0 hc0
  have HB := Aside0.mk (Below.refl w.heap.size w)
  have H : ((impl_OpenFaults.f l0).bind fun t298 => (some (t298.length : Int))) = some r := h
  clear h
  replace H := Option.bind_eq_some_iff.mp H
  obtain ⟨t298, A20, H⟩ := H
  (try dsimp only at H)
  have A2 := Aside0.mk A20
  clear A20
  obtain rfl := Option.some.inj H
  go_enter Try.func22, Try.ntmps22
  go_wp2_with (first | ((with_reducible refine gate_callee (f := 27) rfl ?_); refine goesL_ (some 4) rfl rfl Try.func27 (by kernel_rfl) rfl #[.slice A0 l0.length c0] rfl (by (try simp only [List.map_toArray, List.map_cons, List.map_nil]); first | done | rfl | (simp only [List.length_drop, List.length_take]; rfl)) ?_; (with_reducible refine (impl_OpenFaults.calls _ _ l0 t298 _ ?side1 ?side2 A2.out).mono ?_); (case side1 => repeat (first | exact HR0.out | (with_reducible refine Kd.C_alloc ?_ _) | (with_reducible refine Kd.C_drewN ?_ _) | (with_reducible refine Kd.C_drew ?_))); (case side2 => exact HC0.out); rintro e w3 ⟨v299, rfl, ho0, hb⟩; refine ⟨_, rfl, ?_⟩; have n0_ := Aside0.mk (Kd.R_lower ho0 (below_size (oB HB))); have n1_ := Aside0.mk (below_step (oB HB) hb); clear HB; have HO300 := n0_; have HB := n1_; clear n0_ n1_; (try clear hb); (try clear hb2); (try clear hk); (try clear hi); (try clear ho0); obtain ⟨Ao4, co4, eo4⟩ := Kd.R_slice HO300.out; subst eo4))
  go_ret
  exact ⟨by first | rfl | (simp [errW_none, errW_some] <;> rfl) | (simp [*, errW_none, errW_some] <;> rfl), oB HB⟩
end Go.Proofs.Ytnknnbpodpfljaa.P


namespace Go.Proofs.Ytnknnbpodpfljaa.P
open Go.RowKit Go.Proofs.YtnknnbpodpfljaaW.PrintWords Go.Proofs.YtnknnbpodpfljaaW.PrintLast Go.Proofs.YtnknnbpodpfljaaW.PrintMore
attribute [local go_sem] max2_int min2_int max_two min_two max_three min_three max_four min_four
set_option linter.unusedVariables false
set_option linter.unusedSimpArgs false
def impl_NextRepair.f (l0 : List (S36)) : Option (Int × Int × Bool) := (impl_OpenFaults.f l0).bind fun t328 => (if (t328.length : Int) = 0 then (some (0, 0, false)) else (if 0 < (t328.length : Int) then (some ((rd_T36 t328 0).f0.f0, (rd_T36 t328 0).f0.f1, true)) else (none)))
set_option maxHeartbeats 8000000 in
set_option maxRecDepth 100000 in
theorem impl_NextRepair.calls (A0 : Option Addr) (c0 : Nat) (l0 : List (S36)) (r1 : Int) (r2 : Int) (r3 : Bool) (w : World) (hr0 : Kd.C k36 w A0 l0.length l0) (hc0 : l0.length ≤ c0) (h : impl_NextRepair.f l0 = some (r1, r2, r3)) :
    Calls Try.prog 25 #[.slice A0 l0.length c0] w fun e w' => e = .returned (.tuple #[.agg #[.int .i64 r1, .int .i64 r2], .bool r3]) ∧ Below w.heap.size w w' := by
  have hu31 := Try.underlying31
  have HR0 := Aside0.mk hr0
  have HC0 := Aside0.mk hc0
  clear hr0 hc0
  have HB := Aside0.mk (Below.refl w.heap.size w)
  have H : ((impl_OpenFaults.f l0).bind fun t328 => (if (t328.length : Int) = 0 then (some (0, 0, false)) else (if 0 < (t328.length : Int) then (some ((rd_T36 t328 0).f0.f0, (rd_T36 t328 0).f0.f1, true)) else (none)))) = some (r1, r2, r3) := h
  clear h
  replace H := Option.bind_eq_some_iff.mp H
  obtain ⟨t328, A20, H⟩ := H
  (try dsimp only at H)
  have A2 := Aside0.mk A20
  clear A20
  by_cases c3 : (t328.length : Int) = 0
  · rw [if_pos c3] at H
    have c3b0 : ((t328.length : Int) == 0) = true := beq_iff_eq.mpr c3
    have c3b1 : ((t328.length : Int) != 0) = false := bne_eq_false_iff_eq.mpr c3
    clear c3
    simp only [Option.some.injEq, Prod.mk.injEq] at H
    obtain ⟨rfl, rfl, rfl⟩ := H
    go_enter Try.func25, Try.ntmps25
    go_wp2_with (first | ((with_reducible refine gate_dst (N := 2) rfl ?_); refine box_event ?hg (N := 2) ?hd (cs := #[.int .i64 0, .int .i64 0]) (t := 31) ?hr ?_; (case hd => rfl); (case hg => rfl); (case hr => first | (go_simp; done) | (go_simp; rfl)); intro gb327 hg w4 hbox hb; have n0_ := Aside0.mk (below_step (oB HB) hb); have n1_ := Aside0.mk (hbox); have n2_ := Aside0.mk ((by rw [hg]; exact (below_size (oB HB)) : w.heap.size ≤ gb327)); have n3_ := Aside0.mk ((by rw [hg]; exact (below_size (oB HB)) : w.heap.size ≤ gb327)); clear HB; have HB := n0_; have BK327 := n1_; have GW327 := n2_; have GE327 := n3_; clear n0_ n1_ n2_ n3_; clear hb hbox hg) | ((with_reducible refine gate_callee (f := 27) rfl ?_); refine goesL_ (some 6) rfl rfl Try.func27 (by kernel_rfl) rfl #[.slice A0 l0.length c0] rfl (by (try simp only [List.map_toArray, List.map_cons, List.map_nil]); first | done | rfl | (simp only [List.length_drop, List.length_take]; rfl)) ?_; (with_reducible refine (impl_OpenFaults.calls _ _ l0 t328 _ ?side1 ?side2 A2.out).mono ?_); (case side1 => exact oc_ HR0.out); (case side2 => exact HC0.out); rintro e w5 ⟨v329, rfl, ho0, hb⟩; refine ⟨_, rfl, ?_⟩; have n0_ := Aside0.mk (Kd.R_lower ho0 (below_size (oB HB))); have n1_ := Aside0.mk (blk_below (g := gb327) (o := .cells #[.int .i64 0, .int .i64 0] 31 (0, 0)) (oK BK327) hb); have n2_ := Aside0.mk (below_step (oB HB) hb); clear BK327; clear HB; have HO330 := n0_; have BK327 := n1_; have HB := n2_; clear n0_ n1_ n2_; (try clear hb); (try clear hb2); (try clear hk); (try clear hi); (try clear ho0); obtain ⟨Ao6, co6, eo6⟩ := Kd.R_slice HO330.out; subst eo6; have hcz7_0 : w5.cell? ⟨gb327, 0, none⟩ = some (.int .i64 0) := (blk_cell BK327.out 0).trans rfl; have hcz7_1 : w5.cell? ⟨gb327, 1, none⟩ = some (.int .i64 0) := (blk_cell BK327.out 1).trans rfl; have hfz7_0 := blk_frozen BK327.out 0; have hfz7_1 := blk_frozen BK327.out 1))
    refine bodyPost_ret (results_ct rfl _ _ gb327 31 #[.int .i64 0, .int .i64 0] (0, 0) _ rfl (by (with_reducible repeat (first | refine blk_drewN ?_ _ | refine blk_drew ?_ | refine blk_alloc ?_ _)); refine blk_put (cs := #[.int .i64 0, .int .i64 0]) ?_ 1 _ rfl; (with_reducible repeat (first | refine blk_drewN ?_ _ | refine blk_drew ?_ | refine blk_alloc ?_ _)); refine blk_put (cs := #[.int .i64 0, .int .i64 0]) ?_ 0 _ rfl; (with_reducible repeat (first | refine blk_drewN ?_ _ | refine blk_drew ?_ | refine blk_alloc ?_ _)); exact BK327.out) Try.underlying31 rfl (by kernel_rfl)) rfl ?_
    exact ⟨by first | rfl | (simp [errW_none, errW_some] <;> rfl) | (simp [*, errW_none, errW_some] <;> rfl), oB HB⟩
  · rw [if_neg c3] at H
    have c3b0 : ((t328.length : Int) == 0) = false := beq_eq_false_iff_ne.mpr c3
    have c3b1 : ((t328.length : Int) != 0) = true := bne_iff_ne.mpr c3
    have c3b2 : ¬ (t328 = []) := fun h_ => c3 (by rw [h_]; rfl)
    by_cases c8 : 0 < (t328.length : Int)
    · rw [if_pos c8] at H
      have c8b0 : decide (0 < (t328.length : Int)) = true := decide_eq_true c8
      have c8b1 : decide (0 < t328.length) = true := decide_eq_true (by omega)
      clear c8
      simp only [Option.some.injEq, Prod.mk.injEq] at H
      obtain ⟨rfl, rfl, rfl⟩ := H
      go_enter Try.func25, Try.ntmps25
      go_wp2_with (first | ((with_reducible refine gate_dst (N := 2) rfl ?_); refine box_event ?hg (N := 2) ?hd (cs := #[.int .i64 0, .int .i64 0]) (t := 31) ?hr ?_; (case hd => rfl); (case hg => rfl); (case hr => first | (go_simp; done) | (go_simp; rfl)); intro gb327 hg w9 hbox hb; have n0_ := Aside0.mk (below_step (oB HB) hb); have n1_ := Aside0.mk (hbox); have n2_ := Aside0.mk ((by rw [hg]; exact (below_size (oB HB)) : w.heap.size ≤ gb327)); have n3_ := Aside0.mk ((by rw [hg]; exact (below_size (oB HB)) : w.heap.size ≤ gb327)); clear HB; have HB := n0_; have BK327 := n1_; have GW327 := n2_; have GE327 := n3_; clear n0_ n1_ n2_ n3_; clear hb hbox hg) | ((with_reducible refine gate_callee (f := 27) rfl ?_); refine goesL_ (some 6) rfl rfl Try.func27 (by kernel_rfl) rfl #[.slice A0 l0.length c0] rfl (by (try simp only [List.map_toArray, List.map_cons, List.map_nil]); first | done | rfl | (simp only [List.length_drop, List.length_take]; rfl)) ?_; (with_reducible refine (impl_OpenFaults.calls _ _ l0 t328 _ ?side1 ?side2 A2.out).mono ?_); (case side1 => exact oc_ HR0.out); (case side2 => exact HC0.out); rintro e w10 ⟨v329, rfl, ho0, hb⟩; refine ⟨_, rfl, ?_⟩; have n0_ := Aside0.mk (Kd.R_lower ho0 (below_size (oB HB))); have n1_ := Aside0.mk (blk_below (g := gb327) (o := .cells #[.int .i64 0, .int .i64 0] 31 (0, 0)) (oK BK327) hb); have n2_ := Aside0.mk (below_step (oB HB) hb); clear BK327; clear HB; have HO330 := n0_; have BK327 := n1_; have HB := n2_; clear n0_ n1_ n2_; (try clear hb); (try clear hb2); (try clear hk); (try clear hi); (try clear ho0); obtain ⟨Ao11, co11, eo11⟩ := Kd.R_slice HO330.out; subst eo11; have p331 : 0 ≤ (0 : Int) := (by omega); have q331 : 0 < (t328.length : Int) := of_decide_eq_true (by first | (with_reducible assumption) | assumption); obtain ⟨ad331, e331, hx331_0, hx331_1, hx331_2, hx331_3⟩ := at_T36 (Kd.R_reads' HO330.out).2.2 0 p331 q331; cases e331; have qi331 : (0 < t328.length) = True := eq_true (by omega); (try rw [show ((0 : Int)).toNat = 0 from rfl] at hx331_0); (try rw [show 0 * 4 = 0 from rfl] at hx331_0); (try rw [Addr.add_zero'] at hx331_0); (try rw [show ((0 : Int)).toNat = 0 from rfl] at hx331_1); (try rw [show 0 * 4 = 0 from rfl] at hx331_1); (try rw [Addr.add_zero'] at hx331_1); (try rw [show ((0 : Int)).toNat = 0 from rfl] at hx331_2); (try rw [show 0 * 4 = 0 from rfl] at hx331_2); (try rw [Addr.add_zero'] at hx331_2); (try rw [show ((0 : Int)).toNat = 0 from rfl] at hx331_3); (try rw [show 0 * 4 = 0 from rfl] at hx331_3); (try rw [Addr.add_zero'] at hx331_3); replace p331 := eq_true p331; replace q331 := eq_true q331; have hcz12_0 : w10.cell? ⟨gb327, 0, none⟩ = some (.int .i64 0) := (blk_cell BK327.out 0).trans rfl; have hcz12_1 : w10.cell? ⟨gb327, 1, none⟩ = some (.int .i64 0) := (blk_cell BK327.out 1).trans rfl; have hfz12_0 := blk_frozen BK327.out 0; have hfz12_1 := blk_frozen BK327.out 1))
      refine bodyPost_ret (results_ct rfl _ _ gb327 31 #[.int .i64 ((rd_T36 t328 0).f0.f0), .int .i64 ((rd_T36 t328 0).f0.f1)] (0, 0) _ rfl (by (with_reducible repeat (first | refine blk_drewN ?_ _ | refine blk_drew ?_ | refine blk_alloc ?_ _)); refine blk_put (cs := #[.int .i64 ((rd_T36 t328 0).f0.f0), .int .i64 0]) ?_ 1 _ rfl; (with_reducible repeat (first | refine blk_drewN ?_ _ | refine blk_drew ?_ | refine blk_alloc ?_ _)); refine blk_put (cs := #[.int .i64 0, .int .i64 0]) ?_ 0 _ rfl; (with_reducible repeat (first | refine blk_drewN ?_ _ | refine blk_drew ?_ | refine blk_alloc ?_ _)); exact BK327.out) Try.underlying31 rfl (by kernel_rfl)) rfl ?_
      exact ⟨by first | rfl | (simp [errW_none, errW_some] <;> rfl) | (simp [*, errW_none, errW_some] <;> rfl), oB HB⟩
    · rw [if_neg c8] at H
      exact absurd H (by simp)
end Go.Proofs.Ytnknnbpodpfljaa.P


namespace Go.Proofs.Ytnknnbpodpfljaa.P
open Go.RowKit Go.Proofs.YtnknnbpodpfljaaW.PrintWords Go.Proofs.YtnknnbpodpfljaaW.PrintLast Go.Proofs.YtnknnbpodpfljaaW.PrintMore
attribute [local go_sem] max2_int min2_int max_two min_two max_three min_three max_four min_four
set_option linter.unusedVariables false
set_option linter.unusedSimpArgs false
def impl_copyLog.f (l0 : List (S36)) : Option ((List (S36))) := (some (([] : List (S36)) : List (S36))).bind fun y198 => (if y198.length + l0.length < 4398046511104 then (some (y198 ++ l0)) else (none))
set_option maxHeartbeats 8000000 in
set_option maxRecDepth 100000 in
theorem impl_copyLog.calls (A0 : Option Addr) (c0 : Nat) (l0 : List (S36)) (r : List (S36)) (w : World) (hr0 : Kd.C k36 w A0 l0.length l0) (hc0 : l0.length ≤ c0) (h : impl_copyLog.f l0 = some r) :
    Calls Try.prog 44 #[.slice A0 l0.length c0] w fun e w' => ∃ v0_ : Value, e = .returned (v0_) ∧ Kd.R k36 36 w' w.heap.size (fun _ => True) v0_ r ∧ Below w.heap.size w w' := by
  have HR0 := Aside0.mk hr0
  have HC0 := Aside0.mk hc0
  clear hr0 hc0
  have HB := Aside0.mk (Below.refl w.heap.size w)
  have H : ((some (([] : List (S36)) : List (S36))).bind fun y198 => (if y198.length + l0.length < 4398046511104 then (some (y198 ++ l0)) else (none))) = some r := h
  clear h
  obtain ⟨y198, hy198⟩ : ∃ y_ : List (S36), y_ = (([] : List (S36))) := ⟨_, rfl⟩
  replace H : (if y198.length + l0.length < 4398046511104 then (some (y198 ++ l0)) else (none)) = some r := by first | (rw [hy198]; with_reducible exact H) | (have H2_ := (Option.bind_some _ _).symm.trans H; rw [hy198]; with_reducible exact H2_) | (have H2_ := (Option.bind_some _ _).symm.trans H; with_reducible exact H2_) | with_reducible exact H | (rw [hy198]; exact H) | exact H
  have Ny198 := Aside0.mk hy198
  clear hy198
  by_cases c2 : y198.length + l0.length < 4398046511104
  · rw [if_pos c2] at H
    have LMc2 := Aside0.mk c2
    clear c2
    obtain ⟨y201, hy201⟩ : ∃ y_ : List (S36), y_ = (y198 ++ l0) := ⟨_, rfl⟩
    replace H : (some y201) = some r := by first | (rw [hy201]; with_reducible exact H) | (have H2_ := (Option.bind_some _ _).symm.trans H; rw [hy201]; with_reducible exact H2_) | (have H2_ := (Option.bind_some _ _).symm.trans H; with_reducible exact H2_) | with_reducible exact H | (rw [hy201]; exact H) | exact H
    have Ny201 := Aside0.mk hy201
    clear hy201
    obtain rfl := Option.some.inj H
    go_enter Try.func44, Try.ntmps44
    go_wp2_with (first | ((with_reducible refine gate_dst (N := 3) rfl ?_); refine Kd.R_lit k36 _ 36 ?hg (N := 3) ?hd (xs := ([] : List (S36))) (inner := []) (ok := fun _ => True) (okp := fun _ => True) ?hr ?hp (fun _ hk => hk) trivial (Below.refl _ _) (Nat.le_refl _) (by simp) ?_; (case hd => rfl); (case hg => rfl); (case hr => first | (go_simp; done) | (go_simp; rfl)); (case hp => exact (Reps.none _ _)); intro v199 w3 ho4 hb hg_ hnew_; clear hg_ hnew_; (first | rw [← Ny198.out] at ho4 | (simp only [Int.reduceToNat] at ho4; rw [← Ny198.out] at ho4)); have n0_ := Aside0.mk (Kd.R_lower ho4 (below_size (oB HB))); have n1_ := Aside0.mk (below_step (oB HB) hb); clear HB; have HO200 := n0_; have HB := n1_; clear n0_ n1_; clear hb ho4) | ((with_reducible refine gate_builtin (b := .append) (xs := #[.tmp 3, .tmp 4]) rfl ?_); at_builtin; refine Kd.R_append_rows k36 (w0 := w) w.heap.size rfl (.tmp 3) (.tmp 4) 24 36 (.agg #[(.int .i64 0), (.int .i64 0), (.int .i64 0), (.int .i64 0)]) 32 rfl Try.underlying24 info36 rfl (by decide) (by omega) v199 y198 l0 _ _ _ (fun _ => True) (fun _ => False) rfl rfl ?aO ?aR (fun _ _ h => h) (fun _ h => h.elim) ?aF ?aB ?aS ?aL ?_; (case aR => exact oc_ HR0.out); (case aB => exact (oB HB)); (case aF => exact (fun _ _ => trivial)); (case aO => exact (oR HO200)); (case aS => exact (below_size (oB HB))); (case aL => have := LMc2.out; omega); intro v202 w5 ho hb hg hat; rw [← Ny201.out] at ho; have n0_ := Aside0.mk (hb); have n1_ := Aside0.mk (ho); clear HB; clear HO200; have HB := n0_; have HO203 := n1_; clear n0_ n1_; clear ho hb hg hat))
    go_ret
    exact ⟨_, by first | rfl | (simp [errW_none, errW_some] <;> rfl) | (simp [*, errW_none, errW_some] <;> rfl), oR HO203, oB HB⟩
  · rw [if_neg c2] at H
    exact absurd H (by simp)
end Go.Proofs.Ytnknnbpodpfljaa.P


namespace Go.Proofs.Ytnknnbpodpfljaa.P
open Go.RowKit Go.Proofs.YtnknnbpodpfljaaW.PrintWords Go.Proofs.YtnknnbpodpfljaaW.PrintLast Go.Proofs.YtnknnbpodpfljaaW.PrintMore
attribute [local go_sem] max2_int min2_int max_two min_two max_three min_three max_four min_four
set_option linter.unusedVariables false
set_option linter.unusedSimpArgs false
def impl_AddEntry.f (k : Nat) (l0 : List (S36)) (a1_0 : Int) (a1_1 : Int) (a1_2 : Int) (a1_3 : Int) : Option ((List (S36)) × Bool) := (impl_copyLog.f l0).bind fun t205 => ((some (([(⟨(⟨a1_0, a1_1⟩ : S31), a1_2, a1_3⟩ : S36)] : List (S36)) : List (S36))).bind fun y208 => (if t205.length + y208.length < 4398046511104 then ((some (t205 ++ y208 : List (S36))).bind fun y211 => ((impl_LogOk.f k l0).bind fun t214 => (if t214 = true then ((impl_LogOk.f k y211).bind fun t215 => (if t215 = true then (some (y211, true)) else ((impl_copyLog.f l0).bind fun t216 => (some (t216, false))))) else ((impl_copyLog.f l0).bind fun t219 => (some (t219, false)))))) else (none)))
set_option maxHeartbeats 8000000 in
set_option maxRecDepth 100000 in
theorem impl_AddEntry.calls (k : Nat) (A0 : Option Addr) (c0 : Nat) (l0 : List (S36)) (a1_0 : Int) (a1_1 : Int) (a1_2 : Int) (a1_3 : Int) (r1 : List (S36)) (r2 : Bool) (w : World) (hr0 : Kd.C k36 w A0 l0.length l0) (hc0 : l0.length ≤ c0) (h : impl_AddEntry.f k l0 a1_0 a1_1 a1_2 a1_3 = some (r1, r2)) :
    Calls Try.prog 16 #[.slice A0 l0.length c0, .agg #[.int .i64 a1_0, .int .i64 a1_1, .int .i64 a1_2, .int .i64 a1_3]] w fun e w' => ∃ v0_ : Value, e = .returned (.tuple #[v0_, .bool r2]) ∧ Kd.R k36 36 w' w.heap.size (fun _ => True) v0_ r1 ∧ Below w.heap.size w w' := by
  have hu36 := Try.underlying36
  have HR0 := Aside0.mk hr0
  have HC0 := Aside0.mk hc0
  clear hr0 hc0
  have HB := Aside0.mk (Below.refl w.heap.size w)
  have H : ((impl_copyLog.f l0).bind fun t205 => ((some (([(⟨(⟨a1_0, a1_1⟩ : S31), a1_2, a1_3⟩ : S36)] : List (S36)) : List (S36))).bind fun y208 => (if t205.length + y208.length < 4398046511104 then ((some (t205 ++ y208 : List (S36))).bind fun y211 => ((impl_LogOk.f k l0).bind fun t214 => (if t214 = true then ((impl_LogOk.f k y211).bind fun t215 => (if t215 = true then (some (y211, true)) else ((impl_copyLog.f l0).bind fun t216 => (some (t216, false))))) else ((impl_copyLog.f l0).bind fun t219 => (some (t219, false)))))) else (none)))) = some (r1, r2) := h
  clear h
  replace H := Option.bind_eq_some_iff.mp H
  obtain ⟨t205, A30, H⟩ := H
  (try dsimp only at H)
  have A3 := Aside0.mk A30
  clear A30
  obtain ⟨y208, hy208⟩ : ∃ y_ : List (S36), y_ = (([(⟨(⟨a1_0, a1_1⟩ : S31), a1_2, a1_3⟩ : S36)] : List (S36))) := ⟨_, rfl⟩
  replace H : (if t205.length + y208.length < 4398046511104 then ((some (t205 ++ y208 : List (S36))).bind fun y211 => ((impl_LogOk.f k l0).bind fun t214 => (if t214 = true then ((impl_LogOk.f k y211).bind fun t215 => (if t215 = true then (some (y211, true)) else ((impl_copyLog.f l0).bind fun t216 => (some (t216, false))))) else ((impl_copyLog.f l0).bind fun t219 => (some (t219, false)))))) else (none)) = some (r1, r2) := by first | (rw [hy208]; with_reducible exact H) | (have H2_ := (Option.bind_some _ _).symm.trans H; rw [hy208]; with_reducible exact H2_) | (have H2_ := (Option.bind_some _ _).symm.trans H; with_reducible exact H2_) | with_reducible exact H | (rw [hy208]; exact H) | exact H
  have Ny208 := Aside0.mk hy208
  clear hy208
  by_cases c4 : t205.length + y208.length < 4398046511104
  · rw [if_pos c4] at H
    have LMc4 := Aside0.mk c4
    clear c4
    obtain ⟨y211, hy211⟩ : ∃ y_ : List (S36), y_ = (t205 ++ y208) := ⟨_, rfl⟩
    replace H : ((impl_LogOk.f k l0).bind fun t214 => (if t214 = true then ((impl_LogOk.f k y211).bind fun t215 => (if t215 = true then (some (y211, true)) else ((impl_copyLog.f l0).bind fun t216 => (some (t216, false))))) else ((impl_copyLog.f l0).bind fun t219 => (some (t219, false))))) = some (r1, r2) := by first | (rw [hy211]; with_reducible exact H) | (have H2_ := (Option.bind_some _ _).symm.trans H; rw [hy211]; with_reducible exact H2_) | (have H2_ := (Option.bind_some _ _).symm.trans H; with_reducible exact H2_) | with_reducible exact H | (rw [hy211]; exact H) | exact H
    have Ny211 := Aside0.mk hy211
    clear hy211
    replace H := Option.bind_eq_some_iff.mp H
    obtain ⟨t214, A50, H⟩ := H
    (try dsimp only at H)
    have A5 := Aside0.mk A50
    clear A50
    by_cases c6 : t214 = true
    · subst c6
      rw [if_pos rfl] at H
      replace H := Option.bind_eq_some_iff.mp H
      obtain ⟨t215, A70, H⟩ := H
      (try dsimp only at H)
      have A7 := Aside0.mk A70
      clear A70
      by_cases c8 : t215 = true
      · subst c8
        rw [if_pos rfl] at H
        simp only [Option.some.injEq, Prod.mk.injEq] at H
        obtain ⟨rfl, rfl⟩ := H
        go_enter Try.func16, Try.ntmps16
        try go_wp2_with (first | ((with_reducible refine gate_dst (N := 3) rfl ?_); refine box_event ?hg (N := 3) ?hd (cs := #[.int .i64 a1_0, .int .i64 a1_1, .int .i64 a1_2, .int .i64 a1_3]) (t := 36) ?hr ?_; (case hd => rfl); (case hg => rfl); (case hr => first | (go_simp; done) | (go_simp; rfl)); intro gb204 hg w9 hbox hb; have n0_ := Aside0.mk (below_step (oB HB) hb); have n1_ := Aside0.mk (hbox); have n2_ := Aside0.mk ((by rw [hg]; exact (below_size (oB HB)) : w.heap.size ≤ gb204)); have n3_ := Aside0.mk ((by rw [hg]; exact (below_size (oB HB)) : w.heap.size ≤ gb204)); clear HB; have HB := n0_; have BK204 := n1_; have GW204 := n2_; have GE204 := n3_; clear n0_ n1_ n2_ n3_; clear hb hbox hg))
        have n0_ := Aside0.mk (blk_drew BK204.out)
        have n1_ := Aside0.mk (below_drew1 HB.out)
        clear BK204
        clear HB
        have BK204 := n0_
        have HB := n1_
        clear n0_ n1_
        refine start_ (n := 6) (S := fun w' => w'.cell? ⟨gb204, 0, none⟩ = some (.int .i64 a1_0) ∧ w'.cell? ⟨gb204, 1, none⟩ = some (.int .i64 a1_1) ∧ w'.cell? ⟨gb204, 2, none⟩ = some (.int .i64 a1_2) ∧ w'.cell? ⟨gb204, 3, none⟩ = some (.int .i64 a1_3)) (ds := []) #[false, false, false, false, false, false] (by kernel_rfl) rfl rfl ⟨(blk_cell BK204.out 0).trans rfl, (blk_cell BK204.out 1).trans rfl, (blk_cell BK204.out 2).trans rfl, (blk_cell BK204.out 3).trans rfl⟩ (fun hHeld => ?_)
        generalize w9.drew = w10 at BK204 HB hHeld ⊢
        refine pure_ (i := 0) (N := some 7) (v := ?_) (a' := ?_) #[true, false, false, false, false, false] rfl rfl (by kernel_rfl) (fun _ _ _ h => h) (Or.inl ⟨by rfl, ?_⟩) ?_ ?_
        rotate_left
        · intro w'
          go_simp
          with_reducible rfl
        rotate_left
        · simp only [Act.put, List.setIfInBounds_toArray, List.set_cons_zero, List.set_cons_succ, i64_w, i32_w]
          rfl
        refine take_ (i := 2) (N := some 9) (v := ?_) (a' := ?_) #[true, false, true, false, false, false] rfl rfl (by kernel_rfl) (fun _ _ _ h => h) (Or.inl ⟨by rfl, ?_⟩) hHeld ?_ ?_
        rotate_left
        · rintro w' ⟨s0, s1, s2, s3⟩
          go_simp
          with_reducible rfl
        rotate_left
        · simp only [Act.put, List.setIfInBounds_toArray, List.set_cons_zero, List.set_cons_succ, i64_w, i32_w]
          rfl
        refine join_ (σ := Value × Value) 2 #[true, true, true, true, false, false] (fun s_ => [(8, s_.1), (10, s_.2)]) (fun s_ w' => (w'.cell? ⟨gb204, 0, none⟩ = some (.int .i64 a1_0) ∧ w'.cell? ⟨gb204, 1, none⟩ = some (.int .i64 a1_1) ∧ w'.cell? ⟨gb204, 2, none⟩ = some (.int .i64 a1_2) ∧ w'.cell? ⟨gb204, 3, none⟩ = some (.int .i64 a1_3)) ∧ (Kd.R k36 36 w' w.heap.size (fun k_ => some k_ ≠ (s_.2 : Value).ownBlock ∧ k_ ≠ gb204) s_.1 t205) ∧ (Kd.R k36 36 w' w.heap.size (fun k_ => some k_ ≠ (s_.1 : Value).ownBlock ∧ k_ ≠ gb204) s_.2 y208) ∧ (w'.heap[gb204]? = some (.cells #[.int .i64 a1_0, .int .i64 a1_1, .int .i64 a1_2, .int .i64 a1_3] 36 (0, 0))) ∧ (Below w.heap.size w w')) ?_ ?_
        rotate_left
        · intro hCont
          refine two_ (i := 1) (j := 3) (Ni := some 8) (Nj := some 10) #[true, true, true, false, false, false] #[true, false, true, true, false, false] rfl rfl rfl rfl (by kernel_rfl) (by decide) (by decide) (fun K hK => ?_) (fun K hK => ?_)
          · skip
            refine goes_ Try.func44 (by kernel_rfl) rfl #[.slice A0 l0.length c0] (by rfl) rfl rfl (by (try simp only [List.map_toArray, List.map_cons, List.map_nil]); first | done | rfl | (simp only [List.length_drop, List.length_take]; rfl)) ?_
            with_reducible refine (impl_copyLog.calls _ _ l0 t205 _ ?side1 ?side2 A3.out).mono ?_
            (case side1 => exact oc_ HR0.out)
            (case side2 => exact HC0.out)
            rintro e w11 ⟨v206, rfl, ho0, hb⟩
            refine ⟨_, rfl, ?_⟩
            have n0_ := Aside0.mk (Kd.R_lower (Kd.R_newB ho0 (g := gb204) (o := .cells #[.int .i64 a1_0, .int .i64 a1_1, .int .i64 a1_2, .int .i64 a1_3] 36 (0, 0)) (oK BK204)) (below_size (oB HB)))
            have n1_ := Aside0.mk (blk_below (g := gb204) (o := .cells #[.int .i64 a1_0, .int .i64 a1_1, .int .i64 a1_2, .int .i64 a1_3] 36 (0, 0)) (oK BK204) hb)
            have n2_ := Aside0.mk (below_step (oB HB) hb)
            clear BK204
            clear HB
            have HO207 := n0_
            have BK204 := n1_
            have HB := n2_
            clear n0_ n1_ n2_
            (try clear hb)
            (try clear hb2)
            (try clear hk)
            (try clear hi)
            (try clear ho0)
            refine hK.out _ _ ⟨(blk_cell BK204.out 0).trans rfl, (blk_cell BK204.out 1).trans rfl, (blk_cell BK204.out 2).trans rfl, (blk_cell BK204.out 3).trans rfl⟩ (fun hHeld => ?_)
            clear hK K
            refine norm_ (a' := ?_) ?_ ?_
            rotate_left
            · show Act.put _ (some 8) _ = _
              simp only [Act.put, List.setIfInBounds_toArray, List.set_cons_zero, List.set_cons_succ, i64_w, i32_w]
              rfl
            refine one_ (i := 3) (N := some 10) #[true, true, true, true, false, false] rfl rfl (by kernel_rfl) (by decide) (fun K hK => ?_)
            refine Kd.R_lit_step k36 _ 36 ?hg (N := 10) ?hd (xs := ([(⟨(⟨a1_0, a1_1⟩ : S31), a1_2, a1_3⟩ : S36)] : List (S36))) (inner := [.int .i64 a1_0, .int .i64 a1_1, .int .i64 a1_2, .int .i64 a1_3]) (ok := fun _ => True) (okp := fun _ => True) ?hr ?hp (fun _ hk => hk) trivial (Below.refl _ _) (Nat.le_refl _) (by simp) ?_; (case hd => rfl); (case hg => rfl); (case hr => first | (go_simp; done) | (go_simp; rfl)); (case hp => exact (Reps.c4 (show Kd.M k36 _ _ _ (⟨(⟨a1_0, a1_1⟩ : S31), a1_2, a1_3⟩ : S36) [.int .i64 a1_0, .int .i64 a1_1, .int .i64 a1_2, .int .i64 a1_3] from (k36_mkM _ _ _ (⟨(⟨a1_0, a1_1⟩ : S31), a1_2, a1_3⟩ : S36) )) (Reps.none _ _)))
            intro v209 w12 ho13 hb hg_ hnew_
            clear hg_ hnew_
            (first | rw [← Ny208.out] at ho13 | (simp only [Int.reduceToNat] at ho13; rw [← Ny208.out] at ho13))
            have n0_ := Aside0.mk (Kd.R_elder' (oR HO207) (Kd.R_base ho13) hb)
            have n1_ := Aside0.mk (Kd.R_lower (Kd.R_newB (Kd.R_new' ho13 (Kd.R_lt (oR HO207))) (g := gb204) (o := .cells #[.int .i64 a1_0, .int .i64 a1_1, .int .i64 a1_2, .int .i64 a1_3] 36 (0, 0)) (oK BK204)) (below_size (oB HB)))
            have n2_ := Aside0.mk (blk_below (g := gb204) (o := .cells #[.int .i64 a1_0, .int .i64 a1_1, .int .i64 a1_2, .int .i64 a1_3] 36 (0, 0)) (oK BK204) hb)
            have n3_ := Aside0.mk (below_step (oB HB) hb)
            clear HO207
            clear BK204
            clear HB
            have HO207 := n0_
            have HO210 := n1_
            have BK204 := n2_
            have HB := n3_
            clear n0_ n1_ n2_ n3_
            clear hb ho13
            refine hK.out _ _ ⟨(blk_cell BK204.out 0).trans rfl, (blk_cell BK204.out 1).trans rfl, (blk_cell BK204.out 2).trans rfl, (blk_cell BK204.out 3).trans rfl⟩ (fun hHeld => ?_)
            clear hK K
            refine norm_ (a' := ?_) ?_ ?_
            rotate_left
            · show Act.put _ (some 10) _ = _
              simp only [Act.put, List.setIfInBounds_toArray, List.set_cons_zero, List.set_cons_succ, i64_w, i32_w]
              rfl
            exact norm_ (by simp only [putAll, Act.put, List.setIfInBounds_toArray, List.set_cons_zero, List.set_cons_succ]) (hCont (v206, v209) _ ⟨hHeld, (by (with_reducible repeat (first | apply Kd.R_alloc | apply Kd.R_drewN | apply Kd.R_drew)); exact Kd.R_mono HO207.out (fun _ hk => ⟨hk.2, hk.1.2⟩)), (by (with_reducible repeat (first | apply Kd.R_alloc | apply Kd.R_drewN | apply Kd.R_drew)); exact Kd.R_mono HO210.out (fun _ hk => ⟨hk.1.2, hk.2⟩)), (oK BK204), (oB HB)⟩)
          · skip
            refine Kd.R_lit_step k36 _ 36 ?hg (N := 10) ?hd (xs := ([(⟨(⟨a1_0, a1_1⟩ : S31), a1_2, a1_3⟩ : S36)] : List (S36))) (inner := [.int .i64 a1_0, .int .i64 a1_1, .int .i64 a1_2, .int .i64 a1_3]) (ok := fun _ => True) (okp := fun _ => True) ?hr ?hp (fun _ hk => hk) trivial (Below.refl _ _) (Nat.le_refl _) (by simp) ?_; (case hd => rfl); (case hg => rfl); (case hr => first | (go_simp; done) | (go_simp; rfl)); (case hp => exact (Reps.c4 (show Kd.M k36 _ _ _ (⟨(⟨a1_0, a1_1⟩ : S31), a1_2, a1_3⟩ : S36) [.int .i64 a1_0, .int .i64 a1_1, .int .i64 a1_2, .int .i64 a1_3] from (k36_mkM _ _ _ (⟨(⟨a1_0, a1_1⟩ : S31), a1_2, a1_3⟩ : S36) )) (Reps.none _ _)))
            intro v209 w11 ho12 hb hg_ hnew_
            clear hg_ hnew_
            (first | rw [← Ny208.out] at ho12 | (simp only [Int.reduceToNat] at ho12; rw [← Ny208.out] at ho12))
            have n0_ := Aside0.mk (Kd.R_lower (Kd.R_newB ho12 (g := gb204) (o := .cells #[.int .i64 a1_0, .int .i64 a1_1, .int .i64 a1_2, .int .i64 a1_3] 36 (0, 0)) (oK BK204)) (below_size (oB HB)))
            have n1_ := Aside0.mk (blk_below (g := gb204) (o := .cells #[.int .i64 a1_0, .int .i64 a1_1, .int .i64 a1_2, .int .i64 a1_3] 36 (0, 0)) (oK BK204) hb)
            have n2_ := Aside0.mk (below_step (oB HB) hb)
            clear BK204
            clear HB
            have HO210 := n0_
            have BK204 := n1_
            have HB := n2_
            clear n0_ n1_ n2_
            clear hb ho12
            refine hK.out _ _ ⟨(blk_cell BK204.out 0).trans rfl, (blk_cell BK204.out 1).trans rfl, (blk_cell BK204.out 2).trans rfl, (blk_cell BK204.out 3).trans rfl⟩ (fun hHeld => ?_)
            clear hK K
            refine norm_ (a' := ?_) ?_ ?_
            rotate_left
            · show Act.put _ (some 10) _ = _
              simp only [Act.put, List.setIfInBounds_toArray, List.set_cons_zero, List.set_cons_succ, i64_w, i32_w]
              rfl
            refine one_ (i := 1) (N := some 8) #[true, true, true, true, false, false] rfl rfl (by kernel_rfl) (by decide) (fun K hK => ?_)
            refine goes_ Try.func44 (by kernel_rfl) rfl #[.slice A0 l0.length c0] (by rfl) rfl rfl (by (try simp only [List.map_toArray, List.map_cons, List.map_nil]); first | done | rfl | (simp only [List.length_drop, List.length_take]; rfl)) ?_
            with_reducible refine (impl_copyLog.calls _ _ l0 t205 _ ?side1 ?side2 A3.out).mono ?_
            (case side1 => exact oc_ HR0.out)
            (case side2 => exact HC0.out)
            rintro e w13 ⟨v206, rfl, ho0, hb⟩
            refine ⟨_, rfl, ?_⟩
            have n0_ := Aside0.mk (Kd.R_elder' (oR HO210) (Kd.R_base ho0) hb)
            have n1_ := Aside0.mk (Kd.R_lower (Kd.R_newB (Kd.R_new' ho0 (Kd.R_lt (oR HO210))) (g := gb204) (o := .cells #[.int .i64 a1_0, .int .i64 a1_1, .int .i64 a1_2, .int .i64 a1_3] 36 (0, 0)) (oK BK204)) (below_size (oB HB)))
            have n2_ := Aside0.mk (blk_below (g := gb204) (o := .cells #[.int .i64 a1_0, .int .i64 a1_1, .int .i64 a1_2, .int .i64 a1_3] 36 (0, 0)) (oK BK204) hb)
            have n3_ := Aside0.mk (below_step (oB HB) hb)
            clear HO210
            clear BK204
            clear HB
            have HO210 := n0_
            have HO207 := n1_
            have BK204 := n2_
            have HB := n3_
            clear n0_ n1_ n2_ n3_
            (try clear hb)
            (try clear hb2)
            (try clear hk)
            (try clear hi)
            (try clear ho0)
            refine hK.out _ _ ⟨(blk_cell BK204.out 0).trans rfl, (blk_cell BK204.out 1).trans rfl, (blk_cell BK204.out 2).trans rfl, (blk_cell BK204.out 3).trans rfl⟩ (fun hHeld => ?_)
            clear hK K
            refine norm_ (a' := ?_) ?_ ?_
            rotate_left
            · show Act.put _ (some 8) _ = _
              simp only [Act.put, List.setIfInBounds_toArray, List.set_cons_zero, List.set_cons_succ, i64_w, i32_w]
              rfl
            exact norm_ (by simp only [putAll, Act.put, List.setIfInBounds_toArray, List.set_cons_zero, List.set_cons_succ]) (hCont (v206, v209) _ ⟨hHeld, (by (with_reducible repeat (first | apply Kd.R_alloc | apply Kd.R_drewN | apply Kd.R_drew)); exact Kd.R_mono HO207.out (fun _ hk => ⟨hk.1.2, hk.2⟩)), (by (with_reducible repeat (first | apply Kd.R_alloc | apply Kd.R_drewN | apply Kd.R_drew)); exact Kd.R_mono HO210.out (fun _ hk => ⟨hk.2, hk.1.2⟩)), (oK BK204), (oB HB)⟩)
        rintro ⟨v206, v209⟩ w14 ⟨hS_, h0_, h1_, h2_, h3_⟩
        have n0_ : Aside0 (Kd.R k36 36 w14 w.heap.size (fun k_ => some k_ ≠ (v209 : Value).ownBlock ∧ k_ ≠ gb204) v206 t205) := ⟨h0_⟩
        have n1_ : Aside0 (Kd.R k36 36 w14 w.heap.size (fun k_ => some k_ ≠ (v206 : Value).ownBlock ∧ k_ ≠ gb204) v209 y208) := ⟨h1_⟩
        have n2_ : Aside0 (w14.heap[gb204]? = some (.cells #[.int .i64 a1_0, .int .i64 a1_1, .int .i64 a1_2, .int .i64 a1_3] 36 (0, 0))) := ⟨h2_⟩
        have n3_ : Aside0 (Below w.heap.size w w14) := ⟨h3_⟩
        clear BK204
        clear HB
        clear h0_ h1_ h2_ h3_
        have HO207 := n0_
        have HO210 := n1_
        have BK204 := n2_
        have HB := n3_
        clear n0_ n1_ n2_ n3_
        have hHeld : w14.cell? ⟨gb204, 0, none⟩ = some (.int .i64 a1_0) ∧ w14.cell? ⟨gb204, 1, none⟩ = some (.int .i64 a1_1) ∧ w14.cell? ⟨gb204, 2, none⟩ = some (.int .i64 a1_2) ∧ w14.cell? ⟨gb204, 3, none⟩ = some (.int .i64 a1_3) := hS_
        obtain ⟨Ao16, co16, eo16⟩ := Kd.R_slice HO210.out
        (first | subst eo16 | (injection eo16 with f1_ f2_ f3_; have f4_ := f1_.symm; have f5_ := f3_.symm; clear f1_ f2_ f3_; subst f4_; subst f5_))
        refine norm_ (a' := ?_) ?_ ?_
        rotate_left
        · simp only [putAll, Act.put, List.setIfInBounds_toArray, List.set_cons_zero, List.set_cons_succ]
          rfl
        refine one_ (i := 4) (N := some 11) #[true, true, true, true, true, false] rfl rfl (by kernel_rfl) (by decide) (fun K hK => ?_)
        refine Kd.R_append_rows_step k36 (w0 := w) w.heap.size (by rfl) (.tmp 8) (.tmp 10) 24 36 (.agg #[(.int .i64 0), (.int .i64 0), (.int .i64 0), (.int .i64 0)]) 32 rfl Try.underlying24 info36 rfl (by decide) (by omega) v206 t205 y208 _ _ _ (fun k_ => some k_ ≠ (.slice Ao16 y208.length co16 : Value).ownBlock ∧ k_ ≠ gb204) (fun _ => False) rfl rfl ?aO ?aR (fun _ _ h => h) (fun _ h => h.elim) ?aF ?aB ?aS ?aL ?_
        (case aR => repeat (first | exact (Kd.R_reads' HO210.out).2.2 | (with_reducible refine Kd.C_alloc ?_ _) | (with_reducible refine Kd.C_drewN ?_ _) | (with_reducible refine Kd.C_drew ?_)))
        (case aB => exact (oB HB))
        (case aF => exact (fun k_ hk => ⟨Kd.fresh' (Kd.R_lt (oR HO210)) k_ hk, Kd.freshB (g := gb204) (o := .cells #[.int .i64 a1_0, .int .i64 a1_1, .int .i64 a1_2, .int .i64 a1_3] 36 (0, 0)) (oK BK204) k_ hk⟩))
        (case aO => exact (oR HO207))
        (case aS => exact (below_size (oB HB)))
        (case aL => have := LMc4.out; omega)
        intro v212 w15 ho hb hg hat
        rw [← Ny211.out] at ho
        have n0_ := Aside0.mk (blk_grown (g := gb204) (o := .cells #[.int .i64 a1_0, .int .i64 a1_1, .int .i64 a1_2, .int .i64 a1_3] 36 (0, 0)) (oK BK204) hg (Kd.R_away HO207.out (fun _ hk => hk.2)))
        have n1_ := Aside0.mk (Kd.R_after (ok := (fun k_ => k_ ≠ gb204)) (by (with_reducible repeat (first | apply Kd.R_alloc | apply Kd.R_drewN | apply Kd.R_drew)); exact Kd.R_mono HO210.out (fun _ hk => ⟨hk.2, hk.1⟩)) hg hat)
        have n2_ := Aside0.mk (hb)
        have n3_ := Aside0.mk (ho)
        clear BK204
        clear HO210
        clear HB
        clear HO207
        have BK204 := n0_
        have HO210 := n1_
        have HB := n2_
        have HO213 := n3_
        clear n0_ n1_ n2_ n3_
        clear ho hb hg hat
        refine hK.out _ _ ⟨(blk_cell BK204.out 0).trans rfl, (blk_cell BK204.out 1).trans rfl, (blk_cell BK204.out 2).trans rfl, (blk_cell BK204.out 3).trans rfl⟩ (fun hHeld => ?_)
        clear hK K
        refine norm_ (a' := ?_) ?_ ?_
        rotate_left
        · show Act.put _ (some 11) _ = _
          simp only [Act.put, List.setIfInBounds_toArray, List.set_cons_zero, List.set_cons_succ, i64_w, i32_w]
          rfl
        refine pure_ (i := 5) (N := some 6) (v := ?_) (a' := ?_) #[true, true, true, true, true, true] rfl rfl (by kernel_rfl) (fun _ _ _ h => h) (Or.inl ⟨by rfl, ?_⟩) ?_ ?_
        rotate_left
        · intro w'
          go_simp
          with_reducible rfl
        rotate_left
        · simp only [Act.put, List.setIfInBounds_toArray, List.set_cons_zero, List.set_cons_succ, i64_w, i32_w]
          rfl
        refine done_ (by kernel_rfl) ?_
        try go_wp2_with (first | ((with_reducible refine gate_callee (f := 18) rfl ?_); refine goesL_ (some 13) rfl rfl Try.func18 (by kernel_rfl) rfl #[.slice A0 l0.length c0] rfl (by (try simp only [List.map_toArray, List.map_cons, List.map_nil]); first | done | rfl | (simp only [List.length_drop, List.length_take]; rfl)) ?_; (with_reducible refine (impl_LogOk.calls k _ _ l0 true _ ?side1 ?side2 A5.out).mono ?_); (case side1 => exact oc_ HR0.out); (case side2 => exact HC0.out); rintro e w17 ⟨rfl, hb⟩; refine ⟨_, rfl, ?_⟩; have n0_ := Aside0.mk (Kd.R_below (oR HO210) hb); have n1_ := Aside0.mk (Kd.R_below (oR HO213) hb); have n2_ := Aside0.mk (blk_below (g := gb204) (o := .cells #[.int .i64 a1_0, .int .i64 a1_1, .int .i64 a1_2, .int .i64 a1_3] 36 (0, 0)) (oK BK204) hb); have n3_ := Aside0.mk (below_step (oB HB) hb); clear HO210; clear HO213; clear BK204; clear HB; have HO210 := n0_; have HO213 := n1_; have BK204 := n2_; have HB := n3_; clear n0_ n1_ n2_ n3_; (try clear hb); (try clear hb2); (try clear hk); (try clear hi); obtain ⟨Ao18, co18, eo18⟩ := Kd.R_slice HO213.out; subst eo18) | (go_at_call 18; (with_reducible refine (impl_LogOk.calls k _ _ y211 true _ ?side1 ?side2 A7.out).mono ?_); (case side1 => repeat (first | exact (Kd.R_reads' HO213.out).2.2 | (with_reducible refine Kd.C_alloc ?_ _) | (with_reducible refine Kd.C_drewN ?_ _) | (with_reducible refine Kd.C_drew ?_))); (case side2 => exact (Kd.R_reads' HO213.out).2.1); rintro e w19 ⟨rfl, hb⟩; have n0_ := Aside0.mk (Kd.R_below (oR HO210) hb); have n1_ := Aside0.mk (Kd.R_below (oR HO213) hb); have n2_ := Aside0.mk (blk_below (g := gb204) (o := .cells #[.int .i64 a1_0, .int .i64 a1_1, .int .i64 a1_2, .int .i64 a1_3] 36 (0, 0)) (oK BK204) hb); have n3_ := Aside0.mk (below_step (oB HB) hb); clear HO210; clear HO213; clear BK204; clear HB; have HO210 := n0_; have HO213 := n1_; have BK204 := n2_; have HB := n3_; clear n0_ n1_ n2_ n3_; (try clear hb); (try clear hb2); (try clear hk); (try clear hi)))
        go_ret2
        exact ⟨_, by first | rfl | (simp [errW_none, errW_some] <;> rfl) | (simp [*, errW_none, errW_some] <;> rfl), by (with_reducible repeat (first | apply Kd.R_alloc | apply Kd.R_drewN | apply Kd.R_drew)); exact Kd.R_mono HO213.out (fun _ hk => trivial), oB HB⟩
      · replace c8 := Bool.eq_false_iff.mpr c8
        subst c8
        rw [if_neg (show ¬ (false = true) by decide)] at H
        replace H := Option.bind_eq_some_iff.mp H
        obtain ⟨t216, A200, H⟩ := H
        (try dsimp only at H)
        have A20 := Aside0.mk A200
        clear A200
        simp only [Option.some.injEq, Prod.mk.injEq] at H
        obtain ⟨rfl, rfl⟩ := H
        go_enter Try.func16, Try.ntmps16
        try go_wp2_with (first | ((with_reducible refine gate_dst (N := 3) rfl ?_); refine box_event ?hg (N := 3) ?hd (cs := #[.int .i64 a1_0, .int .i64 a1_1, .int .i64 a1_2, .int .i64 a1_3]) (t := 36) ?hr ?_; (case hd => rfl); (case hg => rfl); (case hr => first | (go_simp; done) | (go_simp; rfl)); intro gb204 hg w21 hbox hb; have n0_ := Aside0.mk (below_step (oB HB) hb); have n1_ := Aside0.mk (hbox); have n2_ := Aside0.mk ((by rw [hg]; exact (below_size (oB HB)) : w.heap.size ≤ gb204)); have n3_ := Aside0.mk ((by rw [hg]; exact (below_size (oB HB)) : w.heap.size ≤ gb204)); clear HB; have HB := n0_; have BK204 := n1_; have GW204 := n2_; have GE204 := n3_; clear n0_ n1_ n2_ n3_; clear hb hbox hg))
        have n0_ := Aside0.mk (blk_drew BK204.out)
        have n1_ := Aside0.mk (below_drew1 HB.out)
        clear BK204
        clear HB
        have BK204 := n0_
        have HB := n1_
        clear n0_ n1_
        refine start_ (n := 6) (S := fun w' => w'.cell? ⟨gb204, 0, none⟩ = some (.int .i64 a1_0) ∧ w'.cell? ⟨gb204, 1, none⟩ = some (.int .i64 a1_1) ∧ w'.cell? ⟨gb204, 2, none⟩ = some (.int .i64 a1_2) ∧ w'.cell? ⟨gb204, 3, none⟩ = some (.int .i64 a1_3)) (ds := []) #[false, false, false, false, false, false] (by kernel_rfl) rfl rfl ⟨(blk_cell BK204.out 0).trans rfl, (blk_cell BK204.out 1).trans rfl, (blk_cell BK204.out 2).trans rfl, (blk_cell BK204.out 3).trans rfl⟩ (fun hHeld => ?_)
        generalize w21.drew = w22 at BK204 HB hHeld ⊢
        refine pure_ (i := 0) (N := some 7) (v := ?_) (a' := ?_) #[true, false, false, false, false, false] rfl rfl (by kernel_rfl) (fun _ _ _ h => h) (Or.inl ⟨by rfl, ?_⟩) ?_ ?_
        rotate_left
        · intro w'
          go_simp
          with_reducible rfl
        rotate_left
        · simp only [Act.put, List.setIfInBounds_toArray, List.set_cons_zero, List.set_cons_succ, i64_w, i32_w]
          rfl
        refine take_ (i := 2) (N := some 9) (v := ?_) (a' := ?_) #[true, false, true, false, false, false] rfl rfl (by kernel_rfl) (fun _ _ _ h => h) (Or.inl ⟨by rfl, ?_⟩) hHeld ?_ ?_
        rotate_left
        · rintro w' ⟨s0, s1, s2, s3⟩
          go_simp
          with_reducible rfl
        rotate_left
        · simp only [Act.put, List.setIfInBounds_toArray, List.set_cons_zero, List.set_cons_succ, i64_w, i32_w]
          rfl
        refine join_ (σ := Value × Value) 2 #[true, true, true, true, false, false] (fun s_ => [(8, s_.1), (10, s_.2)]) (fun s_ w' => (w'.cell? ⟨gb204, 0, none⟩ = some (.int .i64 a1_0) ∧ w'.cell? ⟨gb204, 1, none⟩ = some (.int .i64 a1_1) ∧ w'.cell? ⟨gb204, 2, none⟩ = some (.int .i64 a1_2) ∧ w'.cell? ⟨gb204, 3, none⟩ = some (.int .i64 a1_3)) ∧ (Kd.R k36 36 w' w.heap.size (fun k_ => some k_ ≠ (s_.2 : Value).ownBlock ∧ k_ ≠ gb204) s_.1 t205) ∧ (Kd.R k36 36 w' w.heap.size (fun k_ => some k_ ≠ (s_.1 : Value).ownBlock ∧ k_ ≠ gb204) s_.2 y208) ∧ (w'.heap[gb204]? = some (.cells #[.int .i64 a1_0, .int .i64 a1_1, .int .i64 a1_2, .int .i64 a1_3] 36 (0, 0))) ∧ (Below w.heap.size w w')) ?_ ?_
        rotate_left
        · intro hCont
          refine two_ (i := 1) (j := 3) (Ni := some 8) (Nj := some 10) #[true, true, true, false, false, false] #[true, false, true, true, false, false] rfl rfl rfl rfl (by kernel_rfl) (by decide) (by decide) (fun K hK => ?_) (fun K hK => ?_)
          · skip
            refine goes_ Try.func44 (by kernel_rfl) rfl #[.slice A0 l0.length c0] (by rfl) rfl rfl (by (try simp only [List.map_toArray, List.map_cons, List.map_nil]); first | done | rfl | (simp only [List.length_drop, List.length_take]; rfl)) ?_
            with_reducible refine (impl_copyLog.calls _ _ l0 t205 _ ?side1 ?side2 A3.out).mono ?_
            (case side1 => exact oc_ HR0.out)
            (case side2 => exact HC0.out)
            rintro e w23 ⟨v206, rfl, ho0, hb⟩
            refine ⟨_, rfl, ?_⟩
            have n0_ := Aside0.mk (Kd.R_lower (Kd.R_newB ho0 (g := gb204) (o := .cells #[.int .i64 a1_0, .int .i64 a1_1, .int .i64 a1_2, .int .i64 a1_3] 36 (0, 0)) (oK BK204)) (below_size (oB HB)))
            have n1_ := Aside0.mk (blk_below (g := gb204) (o := .cells #[.int .i64 a1_0, .int .i64 a1_1, .int .i64 a1_2, .int .i64 a1_3] 36 (0, 0)) (oK BK204) hb)
            have n2_ := Aside0.mk (below_step (oB HB) hb)
            clear BK204
            clear HB
            have HO207 := n0_
            have BK204 := n1_
            have HB := n2_
            clear n0_ n1_ n2_
            (try clear hb)
            (try clear hb2)
            (try clear hk)
            (try clear hi)
            (try clear ho0)
            refine hK.out _ _ ⟨(blk_cell BK204.out 0).trans rfl, (blk_cell BK204.out 1).trans rfl, (blk_cell BK204.out 2).trans rfl, (blk_cell BK204.out 3).trans rfl⟩ (fun hHeld => ?_)
            clear hK K
            refine norm_ (a' := ?_) ?_ ?_
            rotate_left
            · show Act.put _ (some 8) _ = _
              simp only [Act.put, List.setIfInBounds_toArray, List.set_cons_zero, List.set_cons_succ, i64_w, i32_w]
              rfl
            refine one_ (i := 3) (N := some 10) #[true, true, true, true, false, false] rfl rfl (by kernel_rfl) (by decide) (fun K hK => ?_)
            refine Kd.R_lit_step k36 _ 36 ?hg (N := 10) ?hd (xs := ([(⟨(⟨a1_0, a1_1⟩ : S31), a1_2, a1_3⟩ : S36)] : List (S36))) (inner := [.int .i64 a1_0, .int .i64 a1_1, .int .i64 a1_2, .int .i64 a1_3]) (ok := fun _ => True) (okp := fun _ => True) ?hr ?hp (fun _ hk => hk) trivial (Below.refl _ _) (Nat.le_refl _) (by simp) ?_; (case hd => rfl); (case hg => rfl); (case hr => first | (go_simp; done) | (go_simp; rfl)); (case hp => exact (Reps.c4 (show Kd.M k36 _ _ _ (⟨(⟨a1_0, a1_1⟩ : S31), a1_2, a1_3⟩ : S36) [.int .i64 a1_0, .int .i64 a1_1, .int .i64 a1_2, .int .i64 a1_3] from (k36_mkM _ _ _ (⟨(⟨a1_0, a1_1⟩ : S31), a1_2, a1_3⟩ : S36) )) (Reps.none _ _)))
            intro v209 w24 ho25 hb hg_ hnew_
            clear hg_ hnew_
            (first | rw [← Ny208.out] at ho25 | (simp only [Int.reduceToNat] at ho25; rw [← Ny208.out] at ho25))
            have n0_ := Aside0.mk (Kd.R_elder' (oR HO207) (Kd.R_base ho25) hb)
            have n1_ := Aside0.mk (Kd.R_lower (Kd.R_newB (Kd.R_new' ho25 (Kd.R_lt (oR HO207))) (g := gb204) (o := .cells #[.int .i64 a1_0, .int .i64 a1_1, .int .i64 a1_2, .int .i64 a1_3] 36 (0, 0)) (oK BK204)) (below_size (oB HB)))
            have n2_ := Aside0.mk (blk_below (g := gb204) (o := .cells #[.int .i64 a1_0, .int .i64 a1_1, .int .i64 a1_2, .int .i64 a1_3] 36 (0, 0)) (oK BK204) hb)
            have n3_ := Aside0.mk (below_step (oB HB) hb)
            clear HO207
            clear BK204
            clear HB
            have HO207 := n0_
            have HO210 := n1_
            have BK204 := n2_
            have HB := n3_
            clear n0_ n1_ n2_ n3_
            clear hb ho25
            refine hK.out _ _ ⟨(blk_cell BK204.out 0).trans rfl, (blk_cell BK204.out 1).trans rfl, (blk_cell BK204.out 2).trans rfl, (blk_cell BK204.out 3).trans rfl⟩ (fun hHeld => ?_)
            clear hK K
            refine norm_ (a' := ?_) ?_ ?_
            rotate_left
            · show Act.put _ (some 10) _ = _
              simp only [Act.put, List.setIfInBounds_toArray, List.set_cons_zero, List.set_cons_succ, i64_w, i32_w]
              rfl
            exact norm_ (by simp only [putAll, Act.put, List.setIfInBounds_toArray, List.set_cons_zero, List.set_cons_succ]) (hCont (v206, v209) _ ⟨hHeld, (by (with_reducible repeat (first | apply Kd.R_alloc | apply Kd.R_drewN | apply Kd.R_drew)); exact Kd.R_mono HO207.out (fun _ hk => ⟨hk.2, hk.1.2⟩)), (by (with_reducible repeat (first | apply Kd.R_alloc | apply Kd.R_drewN | apply Kd.R_drew)); exact Kd.R_mono HO210.out (fun _ hk => ⟨hk.1.2, hk.2⟩)), (oK BK204), (oB HB)⟩)
          · skip
            refine Kd.R_lit_step k36 _ 36 ?hg (N := 10) ?hd (xs := ([(⟨(⟨a1_0, a1_1⟩ : S31), a1_2, a1_3⟩ : S36)] : List (S36))) (inner := [.int .i64 a1_0, .int .i64 a1_1, .int .i64 a1_2, .int .i64 a1_3]) (ok := fun _ => True) (okp := fun _ => True) ?hr ?hp (fun _ hk => hk) trivial (Below.refl _ _) (Nat.le_refl _) (by simp) ?_; (case hd => rfl); (case hg => rfl); (case hr => first | (go_simp; done) | (go_simp; rfl)); (case hp => exact (Reps.c4 (show Kd.M k36 _ _ _ (⟨(⟨a1_0, a1_1⟩ : S31), a1_2, a1_3⟩ : S36) [.int .i64 a1_0, .int .i64 a1_1, .int .i64 a1_2, .int .i64 a1_3] from (k36_mkM _ _ _ (⟨(⟨a1_0, a1_1⟩ : S31), a1_2, a1_3⟩ : S36) )) (Reps.none _ _)))
            intro v209 w23 ho24 hb hg_ hnew_
            clear hg_ hnew_
            (first | rw [← Ny208.out] at ho24 | (simp only [Int.reduceToNat] at ho24; rw [← Ny208.out] at ho24))
            have n0_ := Aside0.mk (Kd.R_lower (Kd.R_newB ho24 (g := gb204) (o := .cells #[.int .i64 a1_0, .int .i64 a1_1, .int .i64 a1_2, .int .i64 a1_3] 36 (0, 0)) (oK BK204)) (below_size (oB HB)))
            have n1_ := Aside0.mk (blk_below (g := gb204) (o := .cells #[.int .i64 a1_0, .int .i64 a1_1, .int .i64 a1_2, .int .i64 a1_3] 36 (0, 0)) (oK BK204) hb)
            have n2_ := Aside0.mk (below_step (oB HB) hb)
            clear BK204
            clear HB
            have HO210 := n0_
            have BK204 := n1_
            have HB := n2_
            clear n0_ n1_ n2_
            clear hb ho24
            refine hK.out _ _ ⟨(blk_cell BK204.out 0).trans rfl, (blk_cell BK204.out 1).trans rfl, (blk_cell BK204.out 2).trans rfl, (blk_cell BK204.out 3).trans rfl⟩ (fun hHeld => ?_)
            clear hK K
            refine norm_ (a' := ?_) ?_ ?_
            rotate_left
            · show Act.put _ (some 10) _ = _
              simp only [Act.put, List.setIfInBounds_toArray, List.set_cons_zero, List.set_cons_succ, i64_w, i32_w]
              rfl
            refine one_ (i := 1) (N := some 8) #[true, true, true, true, false, false] rfl rfl (by kernel_rfl) (by decide) (fun K hK => ?_)
            refine goes_ Try.func44 (by kernel_rfl) rfl #[.slice A0 l0.length c0] (by rfl) rfl rfl (by (try simp only [List.map_toArray, List.map_cons, List.map_nil]); first | done | rfl | (simp only [List.length_drop, List.length_take]; rfl)) ?_
            with_reducible refine (impl_copyLog.calls _ _ l0 t205 _ ?side1 ?side2 A3.out).mono ?_
            (case side1 => exact oc_ HR0.out)
            (case side2 => exact HC0.out)
            rintro e w25 ⟨v206, rfl, ho0, hb⟩
            refine ⟨_, rfl, ?_⟩
            have n0_ := Aside0.mk (Kd.R_elder' (oR HO210) (Kd.R_base ho0) hb)
            have n1_ := Aside0.mk (Kd.R_lower (Kd.R_newB (Kd.R_new' ho0 (Kd.R_lt (oR HO210))) (g := gb204) (o := .cells #[.int .i64 a1_0, .int .i64 a1_1, .int .i64 a1_2, .int .i64 a1_3] 36 (0, 0)) (oK BK204)) (below_size (oB HB)))
            have n2_ := Aside0.mk (blk_below (g := gb204) (o := .cells #[.int .i64 a1_0, .int .i64 a1_1, .int .i64 a1_2, .int .i64 a1_3] 36 (0, 0)) (oK BK204) hb)
            have n3_ := Aside0.mk (below_step (oB HB) hb)
            clear HO210
            clear BK204
            clear HB
            have HO210 := n0_
            have HO207 := n1_
            have BK204 := n2_
            have HB := n3_
            clear n0_ n1_ n2_ n3_
            (try clear hb)
            (try clear hb2)
            (try clear hk)
            (try clear hi)
            (try clear ho0)
            refine hK.out _ _ ⟨(blk_cell BK204.out 0).trans rfl, (blk_cell BK204.out 1).trans rfl, (blk_cell BK204.out 2).trans rfl, (blk_cell BK204.out 3).trans rfl⟩ (fun hHeld => ?_)
            clear hK K
            refine norm_ (a' := ?_) ?_ ?_
            rotate_left
            · show Act.put _ (some 8) _ = _
              simp only [Act.put, List.setIfInBounds_toArray, List.set_cons_zero, List.set_cons_succ, i64_w, i32_w]
              rfl
            exact norm_ (by simp only [putAll, Act.put, List.setIfInBounds_toArray, List.set_cons_zero, List.set_cons_succ]) (hCont (v206, v209) _ ⟨hHeld, (by (with_reducible repeat (first | apply Kd.R_alloc | apply Kd.R_drewN | apply Kd.R_drew)); exact Kd.R_mono HO207.out (fun _ hk => ⟨hk.1.2, hk.2⟩)), (by (with_reducible repeat (first | apply Kd.R_alloc | apply Kd.R_drewN | apply Kd.R_drew)); exact Kd.R_mono HO210.out (fun _ hk => ⟨hk.2, hk.1.2⟩)), (oK BK204), (oB HB)⟩)
        rintro ⟨v206, v209⟩ w26 ⟨hS_, h0_, h1_, h2_, h3_⟩
        have n0_ : Aside0 (Kd.R k36 36 w26 w.heap.size (fun k_ => some k_ ≠ (v209 : Value).ownBlock ∧ k_ ≠ gb204) v206 t205) := ⟨h0_⟩
        have n1_ : Aside0 (Kd.R k36 36 w26 w.heap.size (fun k_ => some k_ ≠ (v206 : Value).ownBlock ∧ k_ ≠ gb204) v209 y208) := ⟨h1_⟩
        have n2_ : Aside0 (w26.heap[gb204]? = some (.cells #[.int .i64 a1_0, .int .i64 a1_1, .int .i64 a1_2, .int .i64 a1_3] 36 (0, 0))) := ⟨h2_⟩
        have n3_ : Aside0 (Below w.heap.size w w26) := ⟨h3_⟩
        clear BK204
        clear HB
        clear h0_ h1_ h2_ h3_
        have HO207 := n0_
        have HO210 := n1_
        have BK204 := n2_
        have HB := n3_
        clear n0_ n1_ n2_ n3_
        have hHeld : w26.cell? ⟨gb204, 0, none⟩ = some (.int .i64 a1_0) ∧ w26.cell? ⟨gb204, 1, none⟩ = some (.int .i64 a1_1) ∧ w26.cell? ⟨gb204, 2, none⟩ = some (.int .i64 a1_2) ∧ w26.cell? ⟨gb204, 3, none⟩ = some (.int .i64 a1_3) := hS_
        obtain ⟨Ao28, co28, eo28⟩ := Kd.R_slice HO210.out
        (first | subst eo28 | (injection eo28 with f1_ f2_ f3_; have f4_ := f1_.symm; have f5_ := f3_.symm; clear f1_ f2_ f3_; subst f4_; subst f5_))
        refine norm_ (a' := ?_) ?_ ?_
        rotate_left
        · simp only [putAll, Act.put, List.setIfInBounds_toArray, List.set_cons_zero, List.set_cons_succ]
          rfl
        refine one_ (i := 4) (N := some 11) #[true, true, true, true, true, false] rfl rfl (by kernel_rfl) (by decide) (fun K hK => ?_)
        refine Kd.R_append_rows_step k36 (w0 := w) w.heap.size (by rfl) (.tmp 8) (.tmp 10) 24 36 (.agg #[(.int .i64 0), (.int .i64 0), (.int .i64 0), (.int .i64 0)]) 32 rfl Try.underlying24 info36 rfl (by decide) (by omega) v206 t205 y208 _ _ _ (fun k_ => some k_ ≠ (.slice Ao28 y208.length co28 : Value).ownBlock ∧ k_ ≠ gb204) (fun _ => False) rfl rfl ?aO ?aR (fun _ _ h => h) (fun _ h => h.elim) ?aF ?aB ?aS ?aL ?_
        (case aR => repeat (first | exact (Kd.R_reads' HO210.out).2.2 | (with_reducible refine Kd.C_alloc ?_ _) | (with_reducible refine Kd.C_drewN ?_ _) | (with_reducible refine Kd.C_drew ?_)))
        (case aB => exact (oB HB))
        (case aF => exact (fun k_ hk => ⟨Kd.fresh' (Kd.R_lt (oR HO210)) k_ hk, Kd.freshB (g := gb204) (o := .cells #[.int .i64 a1_0, .int .i64 a1_1, .int .i64 a1_2, .int .i64 a1_3] 36 (0, 0)) (oK BK204) k_ hk⟩))
        (case aO => exact (oR HO207))
        (case aS => exact (below_size (oB HB)))
        (case aL => have := LMc4.out; omega)
        intro v212 w27 ho hb hg hat
        rw [← Ny211.out] at ho
        have n0_ := Aside0.mk (blk_grown (g := gb204) (o := .cells #[.int .i64 a1_0, .int .i64 a1_1, .int .i64 a1_2, .int .i64 a1_3] 36 (0, 0)) (oK BK204) hg (Kd.R_away HO207.out (fun _ hk => hk.2)))
        have n1_ := Aside0.mk (Kd.R_after (ok := (fun k_ => k_ ≠ gb204)) (by (with_reducible repeat (first | apply Kd.R_alloc | apply Kd.R_drewN | apply Kd.R_drew)); exact Kd.R_mono HO210.out (fun _ hk => ⟨hk.2, hk.1⟩)) hg hat)
        have n2_ := Aside0.mk (hb)
        have n3_ := Aside0.mk (ho)
        clear BK204
        clear HO210
        clear HB
        clear HO207
        have BK204 := n0_
        have HO210 := n1_
        have HB := n2_
        have HO213 := n3_
        clear n0_ n1_ n2_ n3_
        clear ho hb hg hat
        refine hK.out _ _ ⟨(blk_cell BK204.out 0).trans rfl, (blk_cell BK204.out 1).trans rfl, (blk_cell BK204.out 2).trans rfl, (blk_cell BK204.out 3).trans rfl⟩ (fun hHeld => ?_)
        clear hK K
        refine norm_ (a' := ?_) ?_ ?_
        rotate_left
        · show Act.put _ (some 11) _ = _
          simp only [Act.put, List.setIfInBounds_toArray, List.set_cons_zero, List.set_cons_succ, i64_w, i32_w]
          rfl
        refine pure_ (i := 5) (N := some 6) (v := ?_) (a' := ?_) #[true, true, true, true, true, true] rfl rfl (by kernel_rfl) (fun _ _ _ h => h) (Or.inl ⟨by rfl, ?_⟩) ?_ ?_
        rotate_left
        · intro w'
          go_simp
          with_reducible rfl
        rotate_left
        · simp only [Act.put, List.setIfInBounds_toArray, List.set_cons_zero, List.set_cons_succ, i64_w, i32_w]
          rfl
        refine done_ (by kernel_rfl) ?_
        try go_wp2_with (first | ((with_reducible refine gate_callee (f := 18) rfl ?_); refine goesL_ (some 13) rfl rfl Try.func18 (by kernel_rfl) rfl #[.slice A0 l0.length c0] rfl (by (try simp only [List.map_toArray, List.map_cons, List.map_nil]); first | done | rfl | (simp only [List.length_drop, List.length_take]; rfl)) ?_; (with_reducible refine (impl_LogOk.calls k _ _ l0 true _ ?side1 ?side2 A5.out).mono ?_); (case side1 => exact oc_ HR0.out); (case side2 => exact HC0.out); rintro e w29 ⟨rfl, hb⟩; refine ⟨_, rfl, ?_⟩; have n0_ := Aside0.mk (Kd.R_below (oR HO210) hb); have n1_ := Aside0.mk (Kd.R_below (oR HO213) hb); have n2_ := Aside0.mk (blk_below (g := gb204) (o := .cells #[.int .i64 a1_0, .int .i64 a1_1, .int .i64 a1_2, .int .i64 a1_3] 36 (0, 0)) (oK BK204) hb); have n3_ := Aside0.mk (below_step (oB HB) hb); clear HO210; clear HO213; clear BK204; clear HB; have HO210 := n0_; have HO213 := n1_; have BK204 := n2_; have HB := n3_; clear n0_ n1_ n2_ n3_; (try clear hb); (try clear hb2); (try clear hk); (try clear hi); obtain ⟨Ao30, co30, eo30⟩ := Kd.R_slice HO213.out; subst eo30) | (go_at_call 18; (with_reducible refine (impl_LogOk.calls k _ _ y211 false _ ?side1 ?side2 A7.out).mono ?_); (case side1 => repeat (first | exact (Kd.R_reads' HO213.out).2.2 | (with_reducible refine Kd.C_alloc ?_ _) | (with_reducible refine Kd.C_drewN ?_ _) | (with_reducible refine Kd.C_drew ?_))); (case side2 => exact (Kd.R_reads' HO213.out).2.1); rintro e w31 ⟨rfl, hb⟩; have n0_ := Aside0.mk (Kd.R_below (oR HO210) hb); have n1_ := Aside0.mk (Kd.R_below (oR HO213) hb); have n2_ := Aside0.mk (blk_below (g := gb204) (o := .cells #[.int .i64 a1_0, .int .i64 a1_1, .int .i64 a1_2, .int .i64 a1_3] 36 (0, 0)) (oK BK204) hb); have n3_ := Aside0.mk (below_step (oB HB) hb); clear HO210; clear HO213; clear BK204; clear HB; have HO210 := n0_; have HO213 := n1_; have BK204 := n2_; have HB := n3_; clear n0_ n1_ n2_ n3_; (try clear hb); (try clear hb2); (try clear hk); (try clear hi)) | ((with_reducible refine gate_callee (f := 44) rfl ?_); refine goesL_ (some 21) rfl rfl Try.func44 (by kernel_rfl) rfl #[.slice A0 l0.length c0] rfl (by (try simp only [List.map_toArray, List.map_cons, List.map_nil]); first | done | rfl | (simp only [List.length_drop, List.length_take]; rfl)) ?_; (with_reducible refine (impl_copyLog.calls _ _ l0 t216 _ ?side1 ?side2 A20.out).mono ?_); (case side1 => exact oc_ HR0.out); (case side2 => exact HC0.out); rintro e w32 ⟨v217, rfl, ho0, hb⟩; refine ⟨_, rfl, ?_⟩; have n0_ := Aside0.mk (Kd.R_elder' (oR HO210) (Kd.R_base ho0) hb); have n1_ := Aside0.mk (Kd.R_elder' (oR HO213) (Kd.R_base ho0) hb); have n2_ := Aside0.mk (Kd.R_lower (Kd.R_newB (Kd.R_new' (Kd.R_new' ho0 (Kd.R_lt (oR HO210))) (Kd.R_lt (oR HO213))) (g := gb204) (o := .cells #[.int .i64 a1_0, .int .i64 a1_1, .int .i64 a1_2, .int .i64 a1_3] 36 (0, 0)) (oK BK204)) (below_size (oB HB))); have n3_ := Aside0.mk (blk_below (g := gb204) (o := .cells #[.int .i64 a1_0, .int .i64 a1_1, .int .i64 a1_2, .int .i64 a1_3] 36 (0, 0)) (oK BK204) hb); have n4_ := Aside0.mk (below_step (oB HB) hb); clear HO210; clear HO213; clear BK204; clear HB; have HO210 := n0_; have HO213 := n1_; have HO218 := n2_; have BK204 := n3_; have HB := n4_; clear n0_ n1_ n2_ n3_ n4_; (try clear hb); (try clear hb2); (try clear hk); (try clear hi); (try clear ho0)))
        go_ret2
        exact ⟨_, by first | rfl | (simp [errW_none, errW_some] <;> rfl) | (simp [*, errW_none, errW_some] <;> rfl), by (with_reducible repeat (first | apply Kd.R_alloc | apply Kd.R_drewN | apply Kd.R_drew)); exact Kd.R_mono HO218.out (fun _ hk => trivial), oB HB⟩
    · replace c6 := Bool.eq_false_iff.mpr c6
      subst c6
      rw [if_neg (show ¬ (false = true) by decide)] at H
      replace H := Option.bind_eq_some_iff.mp H
      obtain ⟨t219, A330, H⟩ := H
      (try dsimp only at H)
      have A33 := Aside0.mk A330
      clear A330
      simp only [Option.some.injEq, Prod.mk.injEq] at H
      obtain ⟨rfl, rfl⟩ := H
      go_enter Try.func16, Try.ntmps16
      try go_wp2_with (first | ((with_reducible refine gate_dst (N := 3) rfl ?_); refine box_event ?hg (N := 3) ?hd (cs := #[.int .i64 a1_0, .int .i64 a1_1, .int .i64 a1_2, .int .i64 a1_3]) (t := 36) ?hr ?_; (case hd => rfl); (case hg => rfl); (case hr => first | (go_simp; done) | (go_simp; rfl)); intro gb204 hg w34 hbox hb; have n0_ := Aside0.mk (below_step (oB HB) hb); have n1_ := Aside0.mk (hbox); have n2_ := Aside0.mk ((by rw [hg]; exact (below_size (oB HB)) : w.heap.size ≤ gb204)); have n3_ := Aside0.mk ((by rw [hg]; exact (below_size (oB HB)) : w.heap.size ≤ gb204)); clear HB; have HB := n0_; have BK204 := n1_; have GW204 := n2_; have GE204 := n3_; clear n0_ n1_ n2_ n3_; clear hb hbox hg))
      have n0_ := Aside0.mk (blk_drew BK204.out)
      have n1_ := Aside0.mk (below_drew1 HB.out)
      clear BK204
      clear HB
      have BK204 := n0_
      have HB := n1_
      clear n0_ n1_
      refine start_ (n := 6) (S := fun w' => w'.cell? ⟨gb204, 0, none⟩ = some (.int .i64 a1_0) ∧ w'.cell? ⟨gb204, 1, none⟩ = some (.int .i64 a1_1) ∧ w'.cell? ⟨gb204, 2, none⟩ = some (.int .i64 a1_2) ∧ w'.cell? ⟨gb204, 3, none⟩ = some (.int .i64 a1_3)) (ds := []) #[false, false, false, false, false, false] (by kernel_rfl) rfl rfl ⟨(blk_cell BK204.out 0).trans rfl, (blk_cell BK204.out 1).trans rfl, (blk_cell BK204.out 2).trans rfl, (blk_cell BK204.out 3).trans rfl⟩ (fun hHeld => ?_)
      generalize w34.drew = w35 at BK204 HB hHeld ⊢
      refine pure_ (i := 0) (N := some 7) (v := ?_) (a' := ?_) #[true, false, false, false, false, false] rfl rfl (by kernel_rfl) (fun _ _ _ h => h) (Or.inl ⟨by rfl, ?_⟩) ?_ ?_
      rotate_left
      · intro w'
        go_simp
        with_reducible rfl
      rotate_left
      · simp only [Act.put, List.setIfInBounds_toArray, List.set_cons_zero, List.set_cons_succ, i64_w, i32_w]
        rfl
      refine take_ (i := 2) (N := some 9) (v := ?_) (a' := ?_) #[true, false, true, false, false, false] rfl rfl (by kernel_rfl) (fun _ _ _ h => h) (Or.inl ⟨by rfl, ?_⟩) hHeld ?_ ?_
      rotate_left
      · rintro w' ⟨s0, s1, s2, s3⟩
        go_simp
        with_reducible rfl
      rotate_left
      · simp only [Act.put, List.setIfInBounds_toArray, List.set_cons_zero, List.set_cons_succ, i64_w, i32_w]
        rfl
      refine join_ (σ := Value × Value) 2 #[true, true, true, true, false, false] (fun s_ => [(8, s_.1), (10, s_.2)]) (fun s_ w' => (w'.cell? ⟨gb204, 0, none⟩ = some (.int .i64 a1_0) ∧ w'.cell? ⟨gb204, 1, none⟩ = some (.int .i64 a1_1) ∧ w'.cell? ⟨gb204, 2, none⟩ = some (.int .i64 a1_2) ∧ w'.cell? ⟨gb204, 3, none⟩ = some (.int .i64 a1_3)) ∧ (Kd.R k36 36 w' w.heap.size (fun k_ => some k_ ≠ (s_.2 : Value).ownBlock ∧ k_ ≠ gb204) s_.1 t205) ∧ (Kd.R k36 36 w' w.heap.size (fun k_ => some k_ ≠ (s_.1 : Value).ownBlock ∧ k_ ≠ gb204) s_.2 y208) ∧ (w'.heap[gb204]? = some (.cells #[.int .i64 a1_0, .int .i64 a1_1, .int .i64 a1_2, .int .i64 a1_3] 36 (0, 0))) ∧ (Below w.heap.size w w')) ?_ ?_
      rotate_left
      · intro hCont
        refine two_ (i := 1) (j := 3) (Ni := some 8) (Nj := some 10) #[true, true, true, false, false, false] #[true, false, true, true, false, false] rfl rfl rfl rfl (by kernel_rfl) (by decide) (by decide) (fun K hK => ?_) (fun K hK => ?_)
        · skip
          refine goes_ Try.func44 (by kernel_rfl) rfl #[.slice A0 l0.length c0] (by rfl) rfl rfl (by (try simp only [List.map_toArray, List.map_cons, List.map_nil]); first | done | rfl | (simp only [List.length_drop, List.length_take]; rfl)) ?_
          with_reducible refine (impl_copyLog.calls _ _ l0 t205 _ ?side1 ?side2 A3.out).mono ?_
          (case side1 => exact oc_ HR0.out)
          (case side2 => exact HC0.out)
          rintro e w36 ⟨v206, rfl, ho0, hb⟩
          refine ⟨_, rfl, ?_⟩
          have n0_ := Aside0.mk (Kd.R_lower (Kd.R_newB ho0 (g := gb204) (o := .cells #[.int .i64 a1_0, .int .i64 a1_1, .int .i64 a1_2, .int .i64 a1_3] 36 (0, 0)) (oK BK204)) (below_size (oB HB)))
          have n1_ := Aside0.mk (blk_below (g := gb204) (o := .cells #[.int .i64 a1_0, .int .i64 a1_1, .int .i64 a1_2, .int .i64 a1_3] 36 (0, 0)) (oK BK204) hb)
          have n2_ := Aside0.mk (below_step (oB HB) hb)
          clear BK204
          clear HB
          have HO207 := n0_
          have BK204 := n1_
          have HB := n2_
          clear n0_ n1_ n2_
          (try clear hb)
          (try clear hb2)
          (try clear hk)
          (try clear hi)
          (try clear ho0)
          refine hK.out _ _ ⟨(blk_cell BK204.out 0).trans rfl, (blk_cell BK204.out 1).trans rfl, (blk_cell BK204.out 2).trans rfl, (blk_cell BK204.out 3).trans rfl⟩ (fun hHeld => ?_)
          clear hK K
          refine norm_ (a' := ?_) ?_ ?_
          rotate_left
          · show Act.put _ (some 8) _ = _
            simp only [Act.put, List.setIfInBounds_toArray, List.set_cons_zero, List.set_cons_succ, i64_w, i32_w]
            rfl
          refine one_ (i := 3) (N := some 10) #[true, true, true, true, false, false] rfl rfl (by kernel_rfl) (by decide) (fun K hK => ?_)
          refine Kd.R_lit_step k36 _ 36 ?hg (N := 10) ?hd (xs := ([(⟨(⟨a1_0, a1_1⟩ : S31), a1_2, a1_3⟩ : S36)] : List (S36))) (inner := [.int .i64 a1_0, .int .i64 a1_1, .int .i64 a1_2, .int .i64 a1_3]) (ok := fun _ => True) (okp := fun _ => True) ?hr ?hp (fun _ hk => hk) trivial (Below.refl _ _) (Nat.le_refl _) (by simp) ?_; (case hd => rfl); (case hg => rfl); (case hr => first | (go_simp; done) | (go_simp; rfl)); (case hp => exact (Reps.c4 (show Kd.M k36 _ _ _ (⟨(⟨a1_0, a1_1⟩ : S31), a1_2, a1_3⟩ : S36) [.int .i64 a1_0, .int .i64 a1_1, .int .i64 a1_2, .int .i64 a1_3] from (k36_mkM _ _ _ (⟨(⟨a1_0, a1_1⟩ : S31), a1_2, a1_3⟩ : S36) )) (Reps.none _ _)))
          intro v209 w37 ho38 hb hg_ hnew_
          clear hg_ hnew_
          (first | rw [← Ny208.out] at ho38 | (simp only [Int.reduceToNat] at ho38; rw [← Ny208.out] at ho38))
          have n0_ := Aside0.mk (Kd.R_elder' (oR HO207) (Kd.R_base ho38) hb)
          have n1_ := Aside0.mk (Kd.R_lower (Kd.R_newB (Kd.R_new' ho38 (Kd.R_lt (oR HO207))) (g := gb204) (o := .cells #[.int .i64 a1_0, .int .i64 a1_1, .int .i64 a1_2, .int .i64 a1_3] 36 (0, 0)) (oK BK204)) (below_size (oB HB)))
          have n2_ := Aside0.mk (blk_below (g := gb204) (o := .cells #[.int .i64 a1_0, .int .i64 a1_1, .int .i64 a1_2, .int .i64 a1_3] 36 (0, 0)) (oK BK204) hb)
          have n3_ := Aside0.mk (below_step (oB HB) hb)
          clear HO207
          clear BK204
          clear HB
          have HO207 := n0_
          have HO210 := n1_
          have BK204 := n2_
          have HB := n3_
          clear n0_ n1_ n2_ n3_
          clear hb ho38
          refine hK.out _ _ ⟨(blk_cell BK204.out 0).trans rfl, (blk_cell BK204.out 1).trans rfl, (blk_cell BK204.out 2).trans rfl, (blk_cell BK204.out 3).trans rfl⟩ (fun hHeld => ?_)
          clear hK K
          refine norm_ (a' := ?_) ?_ ?_
          rotate_left
          · show Act.put _ (some 10) _ = _
            simp only [Act.put, List.setIfInBounds_toArray, List.set_cons_zero, List.set_cons_succ, i64_w, i32_w]
            rfl
          exact norm_ (by simp only [putAll, Act.put, List.setIfInBounds_toArray, List.set_cons_zero, List.set_cons_succ]) (hCont (v206, v209) _ ⟨hHeld, (by (with_reducible repeat (first | apply Kd.R_alloc | apply Kd.R_drewN | apply Kd.R_drew)); exact Kd.R_mono HO207.out (fun _ hk => ⟨hk.2, hk.1.2⟩)), (by (with_reducible repeat (first | apply Kd.R_alloc | apply Kd.R_drewN | apply Kd.R_drew)); exact Kd.R_mono HO210.out (fun _ hk => ⟨hk.1.2, hk.2⟩)), (oK BK204), (oB HB)⟩)
        · skip
          refine Kd.R_lit_step k36 _ 36 ?hg (N := 10) ?hd (xs := ([(⟨(⟨a1_0, a1_1⟩ : S31), a1_2, a1_3⟩ : S36)] : List (S36))) (inner := [.int .i64 a1_0, .int .i64 a1_1, .int .i64 a1_2, .int .i64 a1_3]) (ok := fun _ => True) (okp := fun _ => True) ?hr ?hp (fun _ hk => hk) trivial (Below.refl _ _) (Nat.le_refl _) (by simp) ?_; (case hd => rfl); (case hg => rfl); (case hr => first | (go_simp; done) | (go_simp; rfl)); (case hp => exact (Reps.c4 (show Kd.M k36 _ _ _ (⟨(⟨a1_0, a1_1⟩ : S31), a1_2, a1_3⟩ : S36) [.int .i64 a1_0, .int .i64 a1_1, .int .i64 a1_2, .int .i64 a1_3] from (k36_mkM _ _ _ (⟨(⟨a1_0, a1_1⟩ : S31), a1_2, a1_3⟩ : S36) )) (Reps.none _ _)))
          intro v209 w36 ho37 hb hg_ hnew_
          clear hg_ hnew_
          (first | rw [← Ny208.out] at ho37 | (simp only [Int.reduceToNat] at ho37; rw [← Ny208.out] at ho37))
          have n0_ := Aside0.mk (Kd.R_lower (Kd.R_newB ho37 (g := gb204) (o := .cells #[.int .i64 a1_0, .int .i64 a1_1, .int .i64 a1_2, .int .i64 a1_3] 36 (0, 0)) (oK BK204)) (below_size (oB HB)))
          have n1_ := Aside0.mk (blk_below (g := gb204) (o := .cells #[.int .i64 a1_0, .int .i64 a1_1, .int .i64 a1_2, .int .i64 a1_3] 36 (0, 0)) (oK BK204) hb)
          have n2_ := Aside0.mk (below_step (oB HB) hb)
          clear BK204
          clear HB
          have HO210 := n0_
          have BK204 := n1_
          have HB := n2_
          clear n0_ n1_ n2_
          clear hb ho37
          refine hK.out _ _ ⟨(blk_cell BK204.out 0).trans rfl, (blk_cell BK204.out 1).trans rfl, (blk_cell BK204.out 2).trans rfl, (blk_cell BK204.out 3).trans rfl⟩ (fun hHeld => ?_)
          clear hK K
          refine norm_ (a' := ?_) ?_ ?_
          rotate_left
          · show Act.put _ (some 10) _ = _
            simp only [Act.put, List.setIfInBounds_toArray, List.set_cons_zero, List.set_cons_succ, i64_w, i32_w]
            rfl
          refine one_ (i := 1) (N := some 8) #[true, true, true, true, false, false] rfl rfl (by kernel_rfl) (by decide) (fun K hK => ?_)
          refine goes_ Try.func44 (by kernel_rfl) rfl #[.slice A0 l0.length c0] (by rfl) rfl rfl (by (try simp only [List.map_toArray, List.map_cons, List.map_nil]); first | done | rfl | (simp only [List.length_drop, List.length_take]; rfl)) ?_
          with_reducible refine (impl_copyLog.calls _ _ l0 t205 _ ?side1 ?side2 A3.out).mono ?_
          (case side1 => exact oc_ HR0.out)
          (case side2 => exact HC0.out)
          rintro e w38 ⟨v206, rfl, ho0, hb⟩
          refine ⟨_, rfl, ?_⟩
          have n0_ := Aside0.mk (Kd.R_elder' (oR HO210) (Kd.R_base ho0) hb)
          have n1_ := Aside0.mk (Kd.R_lower (Kd.R_newB (Kd.R_new' ho0 (Kd.R_lt (oR HO210))) (g := gb204) (o := .cells #[.int .i64 a1_0, .int .i64 a1_1, .int .i64 a1_2, .int .i64 a1_3] 36 (0, 0)) (oK BK204)) (below_size (oB HB)))
          have n2_ := Aside0.mk (blk_below (g := gb204) (o := .cells #[.int .i64 a1_0, .int .i64 a1_1, .int .i64 a1_2, .int .i64 a1_3] 36 (0, 0)) (oK BK204) hb)
          have n3_ := Aside0.mk (below_step (oB HB) hb)
          clear HO210
          clear BK204
          clear HB
          have HO210 := n0_
          have HO207 := n1_
          have BK204 := n2_
          have HB := n3_
          clear n0_ n1_ n2_ n3_
          (try clear hb)
          (try clear hb2)
          (try clear hk)
          (try clear hi)
          (try clear ho0)
          refine hK.out _ _ ⟨(blk_cell BK204.out 0).trans rfl, (blk_cell BK204.out 1).trans rfl, (blk_cell BK204.out 2).trans rfl, (blk_cell BK204.out 3).trans rfl⟩ (fun hHeld => ?_)
          clear hK K
          refine norm_ (a' := ?_) ?_ ?_
          rotate_left
          · show Act.put _ (some 8) _ = _
            simp only [Act.put, List.setIfInBounds_toArray, List.set_cons_zero, List.set_cons_succ, i64_w, i32_w]
            rfl
          exact norm_ (by simp only [putAll, Act.put, List.setIfInBounds_toArray, List.set_cons_zero, List.set_cons_succ]) (hCont (v206, v209) _ ⟨hHeld, (by (with_reducible repeat (first | apply Kd.R_alloc | apply Kd.R_drewN | apply Kd.R_drew)); exact Kd.R_mono HO207.out (fun _ hk => ⟨hk.1.2, hk.2⟩)), (by (with_reducible repeat (first | apply Kd.R_alloc | apply Kd.R_drewN | apply Kd.R_drew)); exact Kd.R_mono HO210.out (fun _ hk => ⟨hk.2, hk.1.2⟩)), (oK BK204), (oB HB)⟩)
      rintro ⟨v206, v209⟩ w39 ⟨hS_, h0_, h1_, h2_, h3_⟩
      have n0_ : Aside0 (Kd.R k36 36 w39 w.heap.size (fun k_ => some k_ ≠ (v209 : Value).ownBlock ∧ k_ ≠ gb204) v206 t205) := ⟨h0_⟩
      have n1_ : Aside0 (Kd.R k36 36 w39 w.heap.size (fun k_ => some k_ ≠ (v206 : Value).ownBlock ∧ k_ ≠ gb204) v209 y208) := ⟨h1_⟩
      have n2_ : Aside0 (w39.heap[gb204]? = some (.cells #[.int .i64 a1_0, .int .i64 a1_1, .int .i64 a1_2, .int .i64 a1_3] 36 (0, 0))) := ⟨h2_⟩
      have n3_ : Aside0 (Below w.heap.size w w39) := ⟨h3_⟩
      clear BK204
      clear HB
      clear h0_ h1_ h2_ h3_
      have HO207 := n0_
      have HO210 := n1_
      have BK204 := n2_
      have HB := n3_
      clear n0_ n1_ n2_ n3_
      have hHeld : w39.cell? ⟨gb204, 0, none⟩ = some (.int .i64 a1_0) ∧ w39.cell? ⟨gb204, 1, none⟩ = some (.int .i64 a1_1) ∧ w39.cell? ⟨gb204, 2, none⟩ = some (.int .i64 a1_2) ∧ w39.cell? ⟨gb204, 3, none⟩ = some (.int .i64 a1_3) := hS_
      obtain ⟨Ao41, co41, eo41⟩ := Kd.R_slice HO210.out
      (first | subst eo41 | (injection eo41 with f1_ f2_ f3_; have f4_ := f1_.symm; have f5_ := f3_.symm; clear f1_ f2_ f3_; subst f4_; subst f5_))
      refine norm_ (a' := ?_) ?_ ?_
      rotate_left
      · simp only [putAll, Act.put, List.setIfInBounds_toArray, List.set_cons_zero, List.set_cons_succ]
        rfl
      refine one_ (i := 4) (N := some 11) #[true, true, true, true, true, false] rfl rfl (by kernel_rfl) (by decide) (fun K hK => ?_)
      refine Kd.R_append_rows_step k36 (w0 := w) w.heap.size (by rfl) (.tmp 8) (.tmp 10) 24 36 (.agg #[(.int .i64 0), (.int .i64 0), (.int .i64 0), (.int .i64 0)]) 32 rfl Try.underlying24 info36 rfl (by decide) (by omega) v206 t205 y208 _ _ _ (fun k_ => some k_ ≠ (.slice Ao41 y208.length co41 : Value).ownBlock ∧ k_ ≠ gb204) (fun _ => False) rfl rfl ?aO ?aR (fun _ _ h => h) (fun _ h => h.elim) ?aF ?aB ?aS ?aL ?_
      (case aR => repeat (first | exact (Kd.R_reads' HO210.out).2.2 | (with_reducible refine Kd.C_alloc ?_ _) | (with_reducible refine Kd.C_drewN ?_ _) | (with_reducible refine Kd.C_drew ?_)))
      (case aB => exact (oB HB))
      (case aF => exact (fun k_ hk => ⟨Kd.fresh' (Kd.R_lt (oR HO210)) k_ hk, Kd.freshB (g := gb204) (o := .cells #[.int .i64 a1_0, .int .i64 a1_1, .int .i64 a1_2, .int .i64 a1_3] 36 (0, 0)) (oK BK204) k_ hk⟩))
      (case aO => exact (oR HO207))
      (case aS => exact (below_size (oB HB)))
      (case aL => have := LMc4.out; omega)
      intro v212 w40 ho hb hg hat
      rw [← Ny211.out] at ho
      have n0_ := Aside0.mk (blk_grown (g := gb204) (o := .cells #[.int .i64 a1_0, .int .i64 a1_1, .int .i64 a1_2, .int .i64 a1_3] 36 (0, 0)) (oK BK204) hg (Kd.R_away HO207.out (fun _ hk => hk.2)))
      have n1_ := Aside0.mk (Kd.R_after (ok := (fun k_ => k_ ≠ gb204)) (by (with_reducible repeat (first | apply Kd.R_alloc | apply Kd.R_drewN | apply Kd.R_drew)); exact Kd.R_mono HO210.out (fun _ hk => ⟨hk.2, hk.1⟩)) hg hat)
      have n2_ := Aside0.mk (hb)
      have n3_ := Aside0.mk (ho)
      clear BK204
      clear HO210
      clear HB
      clear HO207
      have BK204 := n0_
      have HO210 := n1_
      have HB := n2_
      have HO213 := n3_
      clear n0_ n1_ n2_ n3_
      clear ho hb hg hat
      refine hK.out _ _ ⟨(blk_cell BK204.out 0).trans rfl, (blk_cell BK204.out 1).trans rfl, (blk_cell BK204.out 2).trans rfl, (blk_cell BK204.out 3).trans rfl⟩ (fun hHeld => ?_)
      clear hK K
      refine norm_ (a' := ?_) ?_ ?_
      rotate_left
      · show Act.put _ (some 11) _ = _
        simp only [Act.put, List.setIfInBounds_toArray, List.set_cons_zero, List.set_cons_succ, i64_w, i32_w]
        rfl
      refine pure_ (i := 5) (N := some 6) (v := ?_) (a' := ?_) #[true, true, true, true, true, true] rfl rfl (by kernel_rfl) (fun _ _ _ h => h) (Or.inl ⟨by rfl, ?_⟩) ?_ ?_
      rotate_left
      · intro w'
        go_simp
        with_reducible rfl
      rotate_left
      · simp only [Act.put, List.setIfInBounds_toArray, List.set_cons_zero, List.set_cons_succ, i64_w, i32_w]
        rfl
      refine done_ (by kernel_rfl) ?_
      try go_wp2_with (first | ((with_reducible refine gate_callee (f := 18) rfl ?_); refine goesL_ (some 13) rfl rfl Try.func18 (by kernel_rfl) rfl #[.slice A0 l0.length c0] rfl (by (try simp only [List.map_toArray, List.map_cons, List.map_nil]); first | done | rfl | (simp only [List.length_drop, List.length_take]; rfl)) ?_; (with_reducible refine (impl_LogOk.calls k _ _ l0 false _ ?side1 ?side2 A5.out).mono ?_); (case side1 => exact oc_ HR0.out); (case side2 => exact HC0.out); rintro e w42 ⟨rfl, hb⟩; refine ⟨_, rfl, ?_⟩; have n0_ := Aside0.mk (Kd.R_below (oR HO210) hb); have n1_ := Aside0.mk (Kd.R_below (oR HO213) hb); have n2_ := Aside0.mk (blk_below (g := gb204) (o := .cells #[.int .i64 a1_0, .int .i64 a1_1, .int .i64 a1_2, .int .i64 a1_3] 36 (0, 0)) (oK BK204) hb); have n3_ := Aside0.mk (below_step (oB HB) hb); clear HO210; clear HO213; clear BK204; clear HB; have HO210 := n0_; have HO213 := n1_; have BK204 := n2_; have HB := n3_; clear n0_ n1_ n2_ n3_; (try clear hb); (try clear hb2); (try clear hk); (try clear hi)) | ((with_reducible refine gate_callee (f := 44) rfl ?_); refine goesL_ (some 21) rfl rfl Try.func44 (by kernel_rfl) rfl #[.slice A0 l0.length c0] rfl (by (try simp only [List.map_toArray, List.map_cons, List.map_nil]); first | done | rfl | (simp only [List.length_drop, List.length_take]; rfl)) ?_; (with_reducible refine (impl_copyLog.calls _ _ l0 t219 _ ?side1 ?side2 A33.out).mono ?_); (case side1 => exact oc_ HR0.out); (case side2 => exact HC0.out); rintro e w43 ⟨v220, rfl, ho0, hb⟩; refine ⟨_, rfl, ?_⟩; have n0_ := Aside0.mk (Kd.R_elder' (oR HO210) (Kd.R_base ho0) hb); have n1_ := Aside0.mk (Kd.R_elder' (oR HO213) (Kd.R_base ho0) hb); have n2_ := Aside0.mk (Kd.R_lower (Kd.R_newB (Kd.R_new' (Kd.R_new' ho0 (Kd.R_lt (oR HO210))) (Kd.R_lt (oR HO213))) (g := gb204) (o := .cells #[.int .i64 a1_0, .int .i64 a1_1, .int .i64 a1_2, .int .i64 a1_3] 36 (0, 0)) (oK BK204)) (below_size (oB HB))); have n3_ := Aside0.mk (blk_below (g := gb204) (o := .cells #[.int .i64 a1_0, .int .i64 a1_1, .int .i64 a1_2, .int .i64 a1_3] 36 (0, 0)) (oK BK204) hb); have n4_ := Aside0.mk (below_step (oB HB) hb); clear HO210; clear HO213; clear BK204; clear HB; have HO210 := n0_; have HO213 := n1_; have HO221 := n2_; have BK204 := n3_; have HB := n4_; clear n0_ n1_ n2_ n3_ n4_; (try clear hb); (try clear hb2); (try clear hk); (try clear hi); (try clear ho0)))
      go_ret2
      exact ⟨_, by first | rfl | (simp [errW_none, errW_some] <;> rfl) | (simp [*, errW_none, errW_some] <;> rfl), by (with_reducible repeat (first | apply Kd.R_alloc | apply Kd.R_drewN | apply Kd.R_drew)); exact Kd.R_mono HO221.out (fun _ hk => trivial), oB HB⟩
  · rw [if_neg c4] at H
    exact absurd H (by simp)
end Go.Proofs.Ytnknnbpodpfljaa.P


namespace Go.Proofs.Ytnknnbpodpfljaa.P
open Go.RowKit Go.Proofs.YtnknnbpodpfljaaW.PrintWords Go.Proofs.YtnknnbpodpfljaaW.PrintLast Go.Proofs.YtnknnbpodpfljaaW.PrintMore
attribute [local go_sem] max2_int min2_int max_two min_two max_three min_three max_four min_four
set_option linter.unusedVariables false
set_option linter.unusedSimpArgs false
def impl_RepairNext.f (k : Nat) (l0 : List (S36)) (a1 : Int) : Option ((List (S36)) × Bool) := (impl_NextRepair.f l0).bind fun bt352 => (if bt352.2.2 = true then ((impl_AddEntry.f k l0 bt352.1 bt352.2.1 0 a1).bind fun bt356 => (some (bt356.1, bt356.2))) else ((impl_copyLog.f l0).bind fun t360 => (some (t360, false))))
set_option maxHeartbeats 8000000 in
set_option maxRecDepth 100000 in
theorem impl_RepairNext.calls (k : Nat) (A0 : Option Addr) (c0 : Nat) (l0 : List (S36)) (a1 : Int) (r1 : List (S36)) (r2 : Bool) (w : World) (hr0 : Kd.C k36 w A0 l0.length l0) (hc0 : l0.length ≤ c0) (h : impl_RepairNext.f k l0 a1 = some (r1, r2)) :
    Calls Try.prog 37 #[.slice A0 l0.length c0, .int .i64 a1] w fun e w' => ∃ v0_ : Value, e = .returned (.tuple #[v0_, .bool r2]) ∧ Kd.R k36 36 w' w.heap.size (fun _ => True) v0_ r1 ∧ Below w.heap.size w w' := by
  have hu31 := Try.underlying31
  have hu36 := Try.underlying36
  have HR0 := Aside0.mk hr0
  have HC0 := Aside0.mk hc0
  clear hr0 hc0
  have HB := Aside0.mk (Below.refl w.heap.size w)
  have H : ((impl_NextRepair.f l0).bind fun bt352 => (if bt352.2.2 = true then ((impl_AddEntry.f k l0 bt352.1 bt352.2.1 0 a1).bind fun bt356 => (some (bt356.1, bt356.2))) else ((impl_copyLog.f l0).bind fun t360 => (some (t360, false))))) = some (r1, r2) := h
  clear h
  replace H := Option.bind_eq_some_iff.mp H
  obtain ⟨⟨t352, t353, t354⟩, A30, H⟩ := H
  (try dsimp only at H)
  have A3 := Aside0.mk A30
  clear A30
  by_cases c4 : t354 = true
  · subst c4
    rw [if_pos rfl] at H
    replace H := Option.bind_eq_some_iff.mp H
    obtain ⟨⟨t356, t359⟩, A50, H⟩ := H
    (try dsimp only at H)
    have A5 := Aside0.mk A50
    clear A50
    simp only [Option.some.injEq, Prod.mk.injEq] at H
    obtain ⟨rfl, rfl⟩ := H
    go_enter Try.func37, Try.ntmps37
    go_wp2_with (first | ((with_reducible refine gate_callee (f := 25) rfl ?_); refine goesL_ (some 12) rfl rfl Try.func25 (by kernel_rfl) rfl #[.slice A0 l0.length c0] rfl (by (try simp only [List.map_toArray, List.map_cons, List.map_nil]); first | done | rfl | (simp only [List.length_drop, List.length_take]; rfl)) ?_; (with_reducible refine (impl_NextRepair.calls _ _ l0 t352 t353 true _ ?side1 ?side2 A3.out).mono ?_); (case side1 => repeat (first | exact HR0.out | (with_reducible refine Kd.C_alloc ?_ _) | (with_reducible refine Kd.C_drewN ?_ _) | (with_reducible refine Kd.C_drew ?_))); (case side2 => exact HC0.out); rintro e w6 ⟨rfl, hb⟩; refine ⟨_, rfl, ?_⟩; have n0_ := Aside0.mk (below_step (oB HB) hb); clear HB; have HB := n0_; clear n0_; (try clear hb); (try clear hb2); (try clear hk); (try clear hi)) | ((with_reducible refine gate_dst (N := 6) rfl ?_); refine box_event ?hg (N := 6) ?hd (cs := #[.int .i64 0, .int .i64 0]) (t := 31) ?hr ?_; (case hd => rfl); (case hg => rfl); (case hr => first | (go_simp; done) | (go_simp; rfl)); intro gb355 hg w7 hbox hb; have n0_ := Aside0.mk (below_step (oB HB) hb); have n1_ := Aside0.mk (hbox); have n2_ := Aside0.mk ((by rw [hg]; exact (below_size (oB HB)) : w.heap.size ≤ gb355)); have n3_ := Aside0.mk ((by rw [hg]; exact (below_size (oB HB)) : w.heap.size ≤ gb355)); clear HB; have HB := n0_; have BK355 := n1_; have GW355 := n2_; have GE355 := n3_; clear n0_ n1_ n2_ n3_; clear hb hbox hg; have hcz8_0 : w7.cell? ⟨gb355, 0, none⟩ = some (.int .i64 0) := (blk_cell BK355.out 0).trans rfl; have hcz8_1 : w7.cell? ⟨gb355, 1, none⟩ = some (.int .i64 0) := (blk_cell BK355.out 1).trans rfl; have hfz8_0 := blk_frozen BK355.out 0; have hfz8_1 := blk_frozen BK355.out 1) | ((with_reducible refine gate_callee (f := 16) rfl ?_); refine goesL_ (some 24) rfl rfl Try.func16 (by kernel_rfl) rfl #[.slice A0 l0.length c0, .agg #[.int .i64 t352, .int .i64 t353, .int .i64 0, .int .i64 a1]] rfl (by (try simp only [List.map_toArray, List.map_cons, List.map_nil]); first | done | rfl | (simp only [List.length_drop, List.length_take]; rfl)) ?_; (with_reducible refine (impl_AddEntry.calls k _ _ l0 t352 t353 0 a1 t356 t359 _ ?side1 ?side2 A5.out).mono ?_); (case side1 => exact Kd.C_below HR0.out (oB HB)); (case side2 => exact HC0.out); rintro e w9 ⟨v357, rfl, ho0, hb⟩; refine ⟨_, rfl, ?_⟩; have n0_ := Aside0.mk (Kd.R_lower ho0 (below_size (oB HB))); have n1_ := Aside0.mk (blk_below (g := gb355) (o := .cells #[.int .i64 t352, .int .i64 t353] 31 (0, 0)) (by (with_reducible repeat (first | refine blk_drewN ?_ _ | refine blk_drew ?_ | refine blk_alloc ?_ _)); refine blk_put (cs := #[.int .i64 t352, .int .i64 0]) ?_ 1 _ rfl; (with_reducible repeat (first | refine blk_drewN ?_ _ | refine blk_drew ?_ | refine blk_alloc ?_ _)); refine blk_put (cs := #[.int .i64 0, .int .i64 0]) ?_ 0 _ rfl; (with_reducible repeat (first | refine blk_drewN ?_ _ | refine blk_drew ?_ | refine blk_alloc ?_ _)); exact BK355.out) hb); have n2_ := Aside0.mk (below_step (oB HB) hb); clear BK355; clear HB; have HO358 := n0_; have BK355 := n1_; have HB := n2_; clear n0_ n1_ n2_; (try clear hb); (try clear hb2); (try clear hk); (try clear hi); (try clear ho0)))
    go_ret2
    exact ⟨_, by first | rfl | (simp [errW_none, errW_some] <;> rfl) | (simp [*, errW_none, errW_some] <;> rfl), oR HO358, oB HB⟩
  · replace c4 := Bool.eq_false_iff.mpr c4
    subst c4
    rw [if_neg (show ¬ (false = true) by decide)] at H
    replace H := Option.bind_eq_some_iff.mp H
    obtain ⟨t360, A100, H⟩ := H
    (try dsimp only at H)
    have A10 := Aside0.mk A100
    clear A100
    simp only [Option.some.injEq, Prod.mk.injEq] at H
    obtain ⟨rfl, rfl⟩ := H
    go_enter Try.func37, Try.ntmps37
    go_wp2_with (first | ((with_reducible refine gate_callee (f := 25) rfl ?_); refine goesL_ (some 12) rfl rfl Try.func25 (by kernel_rfl) rfl #[.slice A0 l0.length c0] rfl (by (try simp only [List.map_toArray, List.map_cons, List.map_nil]); first | done | rfl | (simp only [List.length_drop, List.length_take]; rfl)) ?_; (with_reducible refine (impl_NextRepair.calls _ _ l0 t352 t353 false _ ?side1 ?side2 A3.out).mono ?_); (case side1 => repeat (first | exact HR0.out | (with_reducible refine Kd.C_alloc ?_ _) | (with_reducible refine Kd.C_drewN ?_ _) | (with_reducible refine Kd.C_drew ?_))); (case side2 => exact HC0.out); rintro e w11 ⟨rfl, hb⟩; refine ⟨_, rfl, ?_⟩; have n0_ := Aside0.mk (below_step (oB HB) hb); clear HB; have HB := n0_; clear n0_; (try clear hb); (try clear hb2); (try clear hk); (try clear hi)) | ((with_reducible refine gate_dst (N := 6) rfl ?_); refine box_event ?hg (N := 6) ?hd (cs := #[.int .i64 0, .int .i64 0]) (t := 31) ?hr ?_; (case hd => rfl); (case hg => rfl); (case hr => first | (go_simp; done) | (go_simp; rfl)); intro gb355 hg w12 hbox hb; have n0_ := Aside0.mk (below_step (oB HB) hb); have n1_ := Aside0.mk (hbox); have n2_ := Aside0.mk ((by rw [hg]; exact (below_size (oB HB)) : w.heap.size ≤ gb355)); have n3_ := Aside0.mk ((by rw [hg]; exact (below_size (oB HB)) : w.heap.size ≤ gb355)); clear HB; have HB := n0_; have BK355 := n1_; have GW355 := n2_; have GE355 := n3_; clear n0_ n1_ n2_ n3_; clear hb hbox hg; have hcz13_0 : w12.cell? ⟨gb355, 0, none⟩ = some (.int .i64 0) := (blk_cell BK355.out 0).trans rfl; have hcz13_1 : w12.cell? ⟨gb355, 1, none⟩ = some (.int .i64 0) := (blk_cell BK355.out 1).trans rfl; have hfz13_0 := blk_frozen BK355.out 0; have hfz13_1 := blk_frozen BK355.out 1) | ((with_reducible refine gate_callee (f := 44) rfl ?_); refine goesL_ (some 18) rfl rfl Try.func44 (by kernel_rfl) rfl #[.slice A0 l0.length c0] rfl (by (try simp only [List.map_toArray, List.map_cons, List.map_nil]); first | done | rfl | (simp only [List.length_drop, List.length_take]; rfl)) ?_; (with_reducible refine (impl_copyLog.calls _ _ l0 t360 _ ?side1 ?side2 A10.out).mono ?_); (case side1 => exact Kd.C_below HR0.out (oB HB)); (case side2 => exact HC0.out); rintro e w14 ⟨v361, rfl, ho0, hb⟩; refine ⟨_, rfl, ?_⟩; have n0_ := Aside0.mk (Kd.R_lower ho0 (below_size (oB HB))); have n1_ := Aside0.mk (blk_below (g := gb355) (o := .cells #[.int .i64 t352, .int .i64 t353] 31 (0, 0)) (by (with_reducible repeat (first | refine blk_drewN ?_ _ | refine blk_drew ?_ | refine blk_alloc ?_ _)); refine blk_put (cs := #[.int .i64 t352, .int .i64 0]) ?_ 1 _ rfl; (with_reducible repeat (first | refine blk_drewN ?_ _ | refine blk_drew ?_ | refine blk_alloc ?_ _)); refine blk_put (cs := #[.int .i64 0, .int .i64 0]) ?_ 0 _ rfl; (with_reducible repeat (first | refine blk_drewN ?_ _ | refine blk_drew ?_ | refine blk_alloc ?_ _)); exact BK355.out) hb); have n2_ := Aside0.mk (below_step (oB HB) hb); clear BK355; clear HB; have HO362 := n0_; have BK355 := n1_; have HB := n2_; clear n0_ n1_ n2_; (try clear hb); (try clear hb2); (try clear hk); (try clear hi); (try clear ho0)))
    go_ret2
    exact ⟨_, by first | rfl | (simp [errW_none, errW_some] <;> rfl) | (simp [*, errW_none, errW_some] <;> rfl), oR HO362, oB HB⟩
end Go.Proofs.Ytnknnbpodpfljaa.P


namespace Go.Proofs.Ytnknnbpodpfljaa.P
open Go.RowKit Go.Proofs.YtnknnbpodpfljaaW.PrintWords Go.Proofs.YtnknnbpodpfljaaW.PrintLast Go.Proofs.YtnknnbpodpfljaaW.PrintMore
attribute [local go_sem] max2_int min2_int max_two min_two max_three min_three max_four min_four
set_option linter.unusedVariables false
set_option linter.unusedSimpArgs false
def impl_RepairAll.l0 : Nat → Int → List (S36) → Option ((List (S36)))
  | 0, _, _ => none
  | k + 1, x1, x5 => (impl_RepairNext.f k x5 x1).bind fun bt366 => (if bt366.2 = true then (impl_RepairAll.l0 k x1 bt366.1) else (some x5))
def impl_RepairAll.f (k : Nat) (l0 : List (S36)) (a1 : Int) : Option ((List (S36))) := (impl_copyLog.f l0).bind fun t363 => (impl_RepairAll.l0 k a1 t363)
set_option maxHeartbeats 8000000 in
set_option maxRecDepth 100000 in
theorem impl_RepairAll.calls (k : Nat) (A0 : Option Addr) (c0 : Nat) (l0 : List (S36)) (a1 : Int) (r : List (S36)) (w : World) (hr0 : Kd.C k36 w A0 l0.length l0) (hc0 : l0.length ≤ c0) (h : impl_RepairAll.f k l0 a1 = some r) :
    Calls Try.prog 28 #[.slice A0 l0.length c0, .int .i64 a1] w fun e w' => ∃ v0_ : Value, e = .returned (v0_) ∧ Kd.R k36 36 w' w.heap.size (fun _ => True) v0_ r ∧ Below w.heap.size w w' := by
  have HR0 := Aside0.mk hr0
  have HC0 := Aside0.mk hc0
  clear hr0 hc0
  have HB := Aside0.mk (Below.refl w.heap.size w)
  have H : ((impl_copyLog.f l0).bind fun t363 => (impl_RepairAll.l0 k a1 t363)) = some r := h
  clear h
  replace H := Option.bind_eq_some_iff.mp H
  obtain ⟨t363, A30, H⟩ := H
  (try dsimp only at H)
  have A3 := Aside0.mk A30
  clear A30
  have H' := Aside0.mk H
  clear H
  go_enter Try.func28, Try.ntmps28
  go_wp2_with (first | ((with_reducible refine gate_callee (f := 44) rfl ?_); refine goesL_ (some 9) rfl rfl Try.func44 (by kernel_rfl) rfl #[.slice A0 l0.length c0] rfl (by (try simp only [List.map_toArray, List.map_cons, List.map_nil]); first | done | rfl | (simp only [List.length_drop, List.length_take]; rfl)) ?_; (with_reducible refine (impl_copyLog.calls _ _ l0 t363 _ ?side1 ?side2 A3.out).mono ?_); (case side1 => repeat (first | exact HR0.out | (with_reducible refine Kd.C_alloc ?_ _) | (with_reducible refine Kd.C_drewN ?_ _) | (with_reducible refine Kd.C_drew ?_))); (case side2 => exact HC0.out); rintro e w4 ⟨v364, rfl, ho0, hb⟩; refine ⟨_, rfl, ?_⟩; have n0_ := Aside0.mk (Kd.R_lower ho0 (below_size (oB HB))); have n1_ := Aside0.mk (below_step (oB HB) hb); clear HB; have HO365 := n0_; have HB := n1_; clear n0_ n1_; (try clear hb); (try clear hb2); (try clear hk); (try clear hi); (try clear ho0)))
  go_loopg [5] k (fun kq v5 w' => ∃ (x5_1 : List (S36)), Aside0 (impl_RepairAll.l0 kq a1 x5_1 = some r) ∧ Aside0 (kq ≤ k) ∧ Aside0 (Kd.R k36 36 w' w.heap.size (fun _ => True) v5 x5_1) ∧ Aside0 (Below w.heap.size w w'))
  case atStart => exact ⟨(t363), H', ⟨Nat.le_refl _⟩, ⟨oR HO365⟩, ⟨oB HB⟩⟩
  case round =>
    clear H'
    try clear c2
    try clear p2
    try clear c4
    obtain ⟨x5_1, HA, HK1, HO_5, HB⟩ := hrel
    cases gk with
    | zero => exact absurd HA.out (by simp [impl_RepairAll.l0])
    | succ k1 =>
      have H := HA.out
      clear HA
      simp only [impl_RepairAll.l0] at H
      replace H := Option.bind_eq_some_iff.mp H
      obtain ⟨⟨t366, t367⟩, A50, H⟩ := H
      (try dsimp only at H)
      have A5 := Aside0.mk A50
      clear A50
      by_cases c6 : t367 = true
      · subst c6
        rw [if_pos rfl] at H
        have H' := Aside0.mk H
        clear H
        obtain ⟨Ao7, co7, eo7⟩ := Kd.R_slice HO_5.out
        subst eo7
        go_wp2_with (first | ((with_reducible refine gate_callee (f := 37) rfl ?_); refine goesL_ (some 13) rfl rfl Try.func37 (by kernel_rfl) rfl #[.slice Ao7 x5_1.length co7, .int .i64 a1] rfl (by (try simp only [List.map_toArray, List.map_cons, List.map_nil]); first | done | rfl | (simp only [List.length_drop, List.length_take]; rfl)) ?_; (with_reducible refine (impl_RepairNext.calls k1 _ _ x5_1 a1 t366 true _ ?side1 ?side2 A5.out).mono ?_); (case side1 => repeat (first | exact (Kd.R_reads' HO_5.out).2.2 | (with_reducible refine Kd.C_alloc ?_ _) | (with_reducible refine Kd.C_drewN ?_ _) | (with_reducible refine Kd.C_drew ?_))); (case side2 => exact (Kd.R_reads' HO_5.out).2.1); rintro e w8 ⟨v368, rfl, ho0, hb⟩; refine ⟨_, rfl, ?_⟩; have n0_ := Aside0.mk (Kd.R_elder' (oR HO_5) (Kd.R_base ho0) hb); have n1_ := Aside0.mk (Kd.R_lower (Kd.R_new' ho0 (Kd.R_lt (oR HO_5))) (below_size (oB HB))); have n2_ := Aside0.mk (below_step (oB HB) hb); clear HO_5; clear HB; have HO_5 := n0_; have HO369 := n1_; have HB := n2_; clear n0_ n1_ n2_; (try clear hb); (try clear hb2); (try clear hk); (try clear hi); (try clear ho0)))
        go_roundg k1
        case measure => have := HK1.out; omega
        case rel => exact ⟨(t366), H', ⟨by have := HK1.out; omega⟩, ⟨by (with_reducible repeat (first | apply Kd.R_alloc | apply Kd.R_drewN | apply Kd.R_drew)); exact Kd.R_mono HO369.out (fun _ hk => trivial)⟩, ⟨oB HB⟩⟩
      · replace c6 := Bool.eq_false_iff.mpr c6
        subst c6
        rw [if_neg (show ¬ (false = true) by decide)] at H
        obtain rfl := Option.some.inj H
        obtain ⟨Ao9, co9, eo9⟩ := Kd.R_slice HO_5.out
        subst eo9
        go_wp2_with (first | ((with_reducible refine gate_callee (f := 37) rfl ?_); refine goesL_ (some 13) rfl rfl Try.func37 (by kernel_rfl) rfl #[.slice Ao9 x5_1.length co9, .int .i64 a1] rfl (by (try simp only [List.map_toArray, List.map_cons, List.map_nil]); first | done | rfl | (simp only [List.length_drop, List.length_take]; rfl)) ?_; (with_reducible refine (impl_RepairNext.calls k1 _ _ x5_1 a1 t366 false _ ?side1 ?side2 A5.out).mono ?_); (case side1 => repeat (first | exact (Kd.R_reads' HO_5.out).2.2 | (with_reducible refine Kd.C_alloc ?_ _) | (with_reducible refine Kd.C_drewN ?_ _) | (with_reducible refine Kd.C_drew ?_))); (case side2 => exact (Kd.R_reads' HO_5.out).2.1); rintro e w10 ⟨v368, rfl, ho0, hb⟩; refine ⟨_, rfl, ?_⟩; have n0_ := Aside0.mk (Kd.R_elder' (oR HO_5) (Kd.R_base ho0) hb); have n1_ := Aside0.mk (Kd.R_lower (Kd.R_new' ho0 (Kd.R_lt (oR HO_5))) (below_size (oB HB))); have n2_ := Aside0.mk (below_step (oB HB) hb); clear HO_5; clear HB; have HO_5 := n0_; have HO369 := n1_; have HB := n2_; clear n0_ n1_ n2_; (try clear hb); (try clear hb2); (try clear hk); (try clear hi); (try clear ho0)))
        go_ret
        exact ⟨_, by first | rfl | (simp [errW_none, errW_some] <;> rfl) | (simp [*, errW_none, errW_some] <;> rfl), by (with_reducible repeat (first | apply Kd.R_alloc | apply Kd.R_drewN | apply Kd.R_drew)); exact Kd.R_mono HO_5.out (fun _ hk => trivial), oB HB⟩
end Go.Proofs.Ytnknnbpodpfljaa.P

