/- What functions of the program come to (f), that their calls come to just this (calls), and the plain laws over lists and numbers, and the law FnLogs: for every argument it answers true. No condition but those of the given row. -/
import Derived.Test.YtnknnbpodpfljaaRows
import Derived.Test.YtnknnbpodpfljaaC1
import Derived.RangeFuncBox
import Derived.WalkKit
import Derived.ProofKit
import Derived.OpenShut
import Derived.ShutString
import Derived.ChangeOld
import Derived.Below
import Derived.SizedLaws
namespace Go.Proofs.Ytnknnbpodpfljaa.P
open Go.RowKit Go.Proofs.YtnknnbpodpfljaaW.PrintWords Go.Proofs.YtnknnbpodpfljaaW.PrintLast Go.Proofs.YtnknnbpodpfljaaW.PrintMore Go.Proofs.Ytnknnbpodpfljaa.V
open Go.Maps (Keyed)
set_option linter.unusedVariables false
set_option linter.unusedSimpArgs false
attribute [local go_sem] cell_b frozen_b
abbrev seenMap (w : World) (b n : Nat) (l : List S31) : Prop := ∃ D, w.ownsMap Try.prog 31 boolR b n D ∧ MapB D (fun p => decide (p ∈ l))
theorem seen_snoc {D : DataW Unit} {l : List S31} {p : S31} (h : MapB D (fun q => decide (q = p) || decide (q ∈ l))) : MapB D (fun q => decide (q ∈ l ++ [p])) := by
  have e : (fun q : S31 => decide (q = p) || decide (q ∈ l)) = fun q => decide (q ∈ l ++ [p]) := by
    funext q
    by_cases h1 : q = p <;> by_cases h2 : q ∈ l <;> simp [h1, h2]
  rw [e] at h
  exact h
set_option maxHeartbeats 8000000 in
set_option maxRecDepth 100000 in
set_option synthInstance.maxHeartbeats 400000 in
set_option synthInstance.maxSize 100000 in
theorem impl_pipesOf.calls_ok (A0 : Option Addr) (c0 : Nat) (l0 : List (S31)) (w : World) (hr0 : Kd.C k31 w A0 l0.length l0) (hc0 : l0.length ≤ c0) (hl : l0.length ≤ 100000) (hw : ∀ x ∈ l0, wf64 x.f0 ∧ wf64 x.f1) :
    Calls Try.prog 42 #[.slice A0 l0.length c0] w fun e w' => ∃ v0_ : Value, e = .returned (v0_) ∧ Kd.R k31 31 w' w.heap.size (fun _ => True) v0_ (pipesIn l0) ∧ Below w.heap.size w w' := by
  have HR0 := Aside0.mk hr0
  have HW := Aside0.mk hw
  have HB := Aside0.mk (Below.refl w.heap.size w)
  clear hr0 hw
  have HO := Aside0.mk (World.ownsMap_made w Try.prog 31 boolR)
  have hmm := @run_makeMap Try.prog
  have hu := Try.underlying31
  go_enter Try.func42, Try.ntmps42
  go_wp2
  have HX0 : Aside0 ((((w.alloc (.map #[] 0)).alloc (.cells #[] 31)).alloc (.cells #[.slice (some ⟨w.heap.size + 1, 0, none⟩) 0 0] 25)).heap[w.heap.size + 2]? = some (.cells #[.slice (some ⟨w.heap.size + 1, 0, none⟩) 0 0] 25 (0, 0))) := ⟨by have := blk_new ((w.alloc (.map #[] 0)).alloc (.cells #[] 31)) (.cells #[.slice (some ⟨w.heap.size + 1, 0, none⟩) 0 0] 25); simpa using this⟩
  have HRW : Aside0 (Kd.R k31 31 (((w.alloc (.map #[] 0)).alloc (.cells #[] 31)).alloc (.cells #[.slice (some ⟨w.heap.size + 1, 0, none⟩) 0 0] 25)) w.heap.size (fun j => j ≠ w.heap.size ∧ j ≠ w.heap.size + 2) (.slice (some ⟨w.heap.size + 1, 0, none⟩) 0 0) []) := ⟨by
    have h4 : (((w.alloc (.map #[] 0)).alloc (.cells #[] 31)).alloc (.cells #[.slice (some ⟨w.heap.size + 1, 0, none⟩) 0 0] 25)).heap[w.heap.size + 1]? = some (.cells #[] 31 (0, 0)) := by
      have := blk_alloc (blk_new (w.alloc (.map #[] 0)) (.cells #[] 31)) (.cells #[.slice (some ⟨w.heap.size + 1, 0, none⟩) 0 0] 25)
      simpa using this
    refine ⟨fun k hk => ?_, [], ⟨rfl, .inr ⟨w.heap.size + 1, 0, #[], rfl, by omega, h4, Nat.le_refl _, Nat.zero_le _, rfl, rfl⟩⟩, Reps.none _ _⟩
    obtain rfl : w.heap.size + 1 = k := by simpa [Value.ownBlock] using hk
    exact ⟨by omega, by omega⟩⟩
  have HS0 : Aside0 (seenMap (((w.alloc (.map #[] 0)).alloc (.cells #[] 31)).alloc (.cells #[.slice (some ⟨w.heap.size + 1, 0, none⟩) 0 0] 25)) w.heap.size 0 []) := ⟨⟨_, (HO.out.alloc _).alloc _, by
    have e : (fun p : S31 => decide (p ∈ ([] : List S31))) = fun _ => false := by funext p; simp
    rw [e]; exact mapB_empty⟩⟩
  go_loopg [11] (l0.length + 1) (fun kq v11 wr => ∃ (i : Nat) (v : Value) (xs : List S31), v11 = .int .i64 (i : Int) ∧ Aside0 (i + kq = l0.length + 1) ∧ Aside0 (i ≤ l0.length) ∧ Aside0 (xs = onceP (l0.take i)) ∧ Aside0 (xs.length ≤ i) ∧ Aside0 (seenMap wr w.heap.size xs.length xs) ∧ Aside0 (Kd.R k31 31 wr w.heap.size (fun j => j ≠ w.heap.size ∧ j ≠ w.heap.size + 2) v xs) ∧ Aside0 (wr.heap[w.heap.size + 2]? = some (.cells #[v] 25 (0, 0))) ∧ Aside0 (Below w.heap.size w wr))
  case atStart => exact ⟨0, _, [], rfl, ⟨by omega⟩, ⟨by omega⟩, ⟨rfl⟩, ⟨Nat.le_refl _⟩, HS0, HRW, HX0, ⟨below_alloc (below_alloc (below_alloc HB.out _) _) _⟩⟩
  case round =>
    clear HX0 HRW HS0 HB HO
    obtain ⟨i, v, xs, rfl, HI1, HI2, HX, HL, HM, HR, HBX, HB⟩ := hrel
    have hxl := HL.out
    have hil := HI2.out
    by_cases hlt : i < l0.length
    · have hb3 : decide ((i : Int) < (l0.length : Int)) = true := decide_eq_true (by omega)
      have hb4 : decide (i < l0.length) = true := decide_eq_true (by omega)
      obtain ⟨ad, e, hx0, hx1⟩ := at_T31 HR0.out (i : Int) (by omega) (by omega)
      cases e
      replace hx0 := (HB.out.cell (World.block_lt_of_cell? w _ hx0)).trans hx0
      replace hx1 := (HB.out.cell (World.block_lt_of_cell? w _ hx1)).trans hx1
      obtain ⟨x, hx⟩ : ∃ x, rd_T31 l0 (i : Int) = x := ⟨_, rfl⟩
      rw [hx] at hx0 hx1
      simp only [Int.toNat_natCast] at hx0 hx1
      have e0 : l0[i] = x := by rw [← hx]; simp [rd_T31, List.getD_eq_getElem?_getD, hlt]
      obtain ⟨q1, q2⟩ := HW.out x (by rw [← e0]; exact List.getElem_mem hlt)
      have HT : Aside0 (onceP (l0.take (i + 1)) = if x ∈ xs then xs else xs ++ [x]) := ⟨by rw [List.take_succ_eq_append_getElem hlt, e0, onceP_snoc, HX.out]⟩
      have HQ := Aside0.mk q1
      have HQ2 := Aside0.mk q2
      obtain ⟨D, hD, hD2⟩ := HM.out
      have HD := Aside0.mk hD
      have HD2 := Aside0.mk hD2
      have HLT := Aside0.mk hlt
      clear hx e0 HM
      by_cases hin : x ∈ xs
      · have hlk := fun o : Obj => lookup_seen (hD.alloc o) hD2 x q1 q2
        simp only [hin, decide_true] at hlk
        have HT' : Aside0 (onceP (l0.take (i + 1)) = xs) := ⟨by rw [HT.out, if_pos hin]⟩
        clear hD hD2 q1 q2 HT hin
        go_wp2
        go_roundg (l0.length - i)
        case measure => have := HI1.out; omega
        case rel => exact ⟨i + 1, v, xs, by go_num, ⟨by omega⟩, ⟨by omega⟩, ⟨HT'.out.symm⟩, ⟨by omega⟩, ⟨⟨D, HD.out.alloc _, HD2.out⟩⟩, ⟨Kd.R_alloc HR.out _⟩, ⟨blk_alloc HBX.out _⟩, ⟨below_alloc HB.out _⟩⟩
      · have hlk := fun o : Obj => lookup_seen (hD.alloc o) hD2 x q1 q2
        simp only [hin, decide_false] at hlk
        have HT' : Aside0 (onceP (l0.take (i + 1)) = xs ++ [x]) := ⟨by rw [HT.out, if_neg hin]⟩
        clear hD hD2 q1 q2 HT hin
        have hn1 : w.heap.size < wr.heap.size := by have := blk_lt HBX.out; omega
        go_upto_region 8 with (first | (at_mapUpdate; refine wpList_mapUpdate_own _ rfl _ _ _ 74 rfl 31 4 pipeKeyed Try.underlying74 boolR w.heap.size xs.length D rfl (HD.out.alloc _) (show xs.length < maxLen from Nat.lt_of_le_of_lt (show xs.length ≤ 100000 by omega) (by decide)) (pairV x.f0 x.f1) (.bool true) _ rfl rfl (keyOf_pipe HQ.out HQ2.out) (.lit (.bool true)) [] rfl ?_; intro w2 h2 hg2; have jE : Blk w2 wr.heap.size #[.int .i64 x.f0, .int .i64 x.f1] 31 := ⟨(hg2.block _ (by simp) (fun e => by have := Option.some.inj e; omega)).trans (blk_new wr _)⟩; have HX2 : Aside0 (w2.heap[w.heap.size + 2]? = some (.cells #[v] 25 (0, 0))) := ⟨(hg2.block _ (blk_lt (blk_alloc HBX.out _)) (fun e => by have := Option.some.inj e; omega)).trans (blk_alloc HBX.out _)⟩; have HR2 := Aside0.mk (Kd.R_grown (Kd.R_alloc HR.out _) hg2 (fun j hj e => hj.1 (Option.some.inj e))); have HB2 : Aside0 (Below w.heap.size w w2) := ⟨(below_alloc HB.out _).grown hg2 (below_alloc HB.out _).size (fun k hk => by cases hk; exact Nat.le_refl _)⟩; have H2 := Aside0.mk h2; have hs2 := hg2.size; clear h2 hg2))
        have jX := Blk.mk HX2.out
        go_wp2_with (first
          | (refine Kd.R_append k31 (w0 := w) w.heap.size rfl (.tmp 21) (.tmp 23) 25 31 (.agg #[(.int .i64 0), (.int .i64 0)]) 16 rfl Try.underlying25 info31 rfl (by decide) (by omega) v xs x [.int .i64 x.f0, .int .i64 x.f1] (fun j => j ≠ w.heap.size ∧ j ≠ w.heap.size + 2) (fun _ => False) rfl rfl ?aP (fun _ hk => hk.elim) ?aF ?aO ?aB ?aS ?aL ?_; (case aP => exact k31_mkM _ _ _ x); (case aB => exact HB2.out); (case aF => intro j hj; simp at hs2; have := blk_lt HX2.out; exact ⟨by omega, by omega⟩); (case aO => exact HR2.out); (case aS => exact HB2.out.size); (case aL => omega); intro v1 w6 ho hb hg hat; obtain ⟨B1, b1, rfl⟩ := Kd.R_slice ho; have HO := Aside0.mk ho; have HB6 := Aside0.mk hb; have HG6 := Aside0.mk hg; have j6 : Blk w6 (w.heap.size + 2) #[v] 25 := ⟨(HG6.out.block _ (blk_lt HX2.out) (fun e => (HR2.out.1 _ e.symm).2 rfl)).trans HX2.out⟩; clear ho hb hg))
        go_roundg (l0.length - i)
        case measure => have := HI1.out; omega
        case rel =>
          refine ⟨i + 1, .slice B1 (xs.length + 1) b1, xs ++ [x], by go_num, ⟨by omega⟩, ⟨by omega⟩, ⟨HT'.out.symm⟩, ⟨by simp only [List.length_append, List.length_singleton]; omega⟩, ⟨⟨D.put (pipeL x.f0 x.f1) (.lit (.bool true)), ?_, seen_snoc (HD2.out.put x HQ.out HQ2.out)⟩⟩, ⟨?_⟩, ⟨?_⟩, ⟨?_⟩⟩
          · simp only [List.length_append, List.length_singleton]
            exact (H2.out.kept HG6.out (fun e => (HR2.out.1 _ e.symm).1 rfl)).setCell (by show w.heap.size ≠ w.heap.size + 1 + 1; omega) _
          · exact Kd.R_far (by simpa using HO.out) (fun j hj => hj.2) _
          · exact blk_put j6.out 0 _ rfl
          · exact below_set HB6.out (by omega)
    · have hb3 : decide ((i : Int) < (l0.length : Int)) = false := decide_eq_false (by omega)
      have hb4 : decide (i < l0.length) = false := decide_eq_false (by omega)
      obtain rfl : i = l0.length := by omega
      have hxs : xs = onceP l0 := by have := HX.out; rwa [List.take_length] at this
      have hfin : ∀ D' : Array S31, Sort.PermIn 0 xs.length xs.toArray D' → Sort.SortedIn beforeP 0 xs.length D' → D'.toList = pipesIn l0 := fun D' hp hs => by
        obtain ⟨h8, h9⟩ := sorted_pairwise (lt := beforeP) (D := xs.toArray) (D' := D') (by simpa using hp) (by simpa using hs) (fun a _ c _ hne => beforeP_total hne) (by rw [hxs]; simpa using nodup_onceP l0)
        refine pipesIn_unique l0 _ h9 fun x => ?_
        rw [h8.mem_iff]
        rw [hxs]
        simpa using mem_onceP l0 x
      have HFIN := Aside0.mk hfin
      clear hfin hxs HX HM
      have jx := Blk.mk HBX.out
      by_cases h2 : 2 ≤ xs.length
      · obtain ⟨g, cap, rfl, hg1, hg2, _⟩ := Kd.R_form HR.out (by omega)
        have hne : w.heap.size + 2 ≠ g := fun e => (HR.out.1 g (by simp [Value.ownBlock])).2 e.symm
        go_wp2_with (first
          | (go_at_call 48; refine (sort_pipes wr g cap (w.heap.size + 2) w.heap.size _ xs HR.out HBX.out hne h2 (by omega)).mono ?_; rintro e w9 ⟨rfl, D9, hp, hso, hR9, hg9⟩; have jx9 : Blk w9 (w.heap.size + 2) #[.slice (some ⟨g, 0, none⟩) xs.length cap] 25 := ⟨(hg9.block _ (blk_lt HBX.out) (fun e => hne (Option.some.inj e))).trans HBX.out⟩; have H9 := Aside0.mk (HFIN.out D9 hp hso); have R9 := Aside0.mk hR9; have B9 : Aside0 (Below w.heap.size w w9) := ⟨HB.out.grown hg9 HB.out.size (fun k hk => by cases hk; exact hg1)⟩; clear hp hso hR9 hg9))
        go_ret
        refine ⟨_, rfl, ?_, B9.out⟩
        rw [← H9.out]
        exact Kd.R_mono R9.out (fun _ _ => trivial)
      · obtain ⟨A9, cap, rfl⟩ := Kd.R_slice HR.out
        go_wp2_with (first
          | (go_at_call 48; refine (sort_pipes_tiny wr A9 xs.length cap (w.heap.size + 2) (by omega)).mono ?_; rintro e w9 ⟨rfl, hb9⟩; have jb9 := Bel.mk hb9; have R9 := Aside0.mk (Kd.R_below HR.out hb9); have B9 : Aside0 (Below w.heap.size w w9) := ⟨below_step HB.out hb9⟩; clear hb9))
        go_ret
        refine ⟨_, rfl, ?_, B9.out⟩
        have hp : Sort.PermIn 0 xs.length xs.toArray xs.toArray := Sort.permIn_refl _ _ _
        have hso : Sort.SortedIn beforeP 0 xs.length xs.toArray := fun i j _ h1 h2 => by omega
        rw [← HFIN.out xs.toArray hp hso]
        exact Kd.R_mono R9.out (fun _ _ => trivial)
end Go.Proofs.Ytnknnbpodpfljaa.P


namespace Go.Proofs.Ytnknnbpodpfljaa.P
open Go.RowKit Go.Proofs.YtnknnbpodpfljaaW.PrintWords Go.Proofs.YtnknnbpodpfljaaW.PrintLast Go.Proofs.YtnknnbpodpfljaaW.PrintMore Go.Proofs.Ytnknnbpodpfljaa.V
open Go.Maps (Keyed)
set_option linter.unusedVariables false
set_option linter.unusedSimpArgs false
attribute [local go_sem] cell_b frozen_b
structure FoundP (m : S31 → Option S36) (f : Int) (left : Lit → Bool) (xs : List S31) : Prop where
  all : ∀ p ∈ xs, ∃ e, m p = some e ∧ e.f1 = f ∧ wf64 p.f0 ∧ wf64 p.f1
  got : ∀ (p : S31) (e : S36), wf64 p.f0 → wf64 p.f1 → m p = some e → e.f1 = f → left (pipeL p.f0 p.f1) = false → p ∈ xs
theorem FoundP.step {m : S31 → Option S36} {f : Int} {left : Lit → Bool} {xs : List S31} (h : FoundP m f left xs) (p : S31) (c : S36) (h0 : wf64 p.f0) (h1 : wf64 p.f1) (hm : m p = some c) :
    FoundP m f (fun z => left z && !z.sameKey (pipeL p.f0 p.f1)) (if c.f1 = f then xs ++ [p] else xs) := by
  have hold : ∀ q e, wf64 q.f0 → wf64 q.f1 → m q = some e → e.f1 = f → (left (pipeL q.f0 q.f1) && !(pipeL q.f0 q.f1).sameKey (pipeL p.f0 p.f1)) = false → q ∈ xs ∨ q = p := by
    intro q e q0 q1 hq hx hf
    rw [Bool.and_eq_false_iff] at hf
    rcases hf with hf | hf
    · exact .inl (h.got q e q0 q1 hq hx hf)
    · by_cases he : pipeL q.f0 q.f1 = pipeL p.f0 p.f1
      · obtain ⟨e0, e1⟩ := pipeL_inj q0 q1 h0 h1 he
        exact .inr (pipe_ext e0 e1)
      · rw [Maps.sameKey_ne he] at hf; cases hf
  by_cases hc : c.f1 = f
  · rw [if_pos hc]
    refine ⟨fun q hq => ?_, fun q e q0 q1 hq hx hf => ?_⟩
    · rcases List.mem_append.1 hq with hq | hq
      · exact h.all q hq
      · rw [List.mem_singleton] at hq
        subst hq
        exact ⟨c, hm, hc, h0, h1⟩
    · rcases hold q e q0 q1 hq hx hf with h' | h'
      · exact List.mem_append_left _ h'
      · rw [h']; simp
  · rw [if_neg hc]
    refine ⟨h.all, fun q e q0 q1 hq hx hf => ?_⟩
    rcases hold q e q0 q1 hq hx hf with h' | h'
    · exact h'
    · subst h'
      rw [hm] at hq
      obtain rfl := Option.some.inj hq
      exact absurd hx hc
set_option maxHeartbeats 8000000 in
set_option maxRecDepth 100000 in
set_option synthInstance.maxHeartbeats 400000 in
set_option synthInstance.maxSize 100000 in
theorem impl_FaultyPipes.calls_ok (k : Nat) (A0 : Option Addr) (c0 : Nat) (l0 : List (S36)) (f : Int) (w : World) (hr0 : Kd.C k36 w A0 l0.length l0) (hc0 : l0.length ≤ c0) (A : impl_LogOk.f k l0 = some true) (hl : l0.length ≤ 1000) (hw : ∀ x ∈ l0, wf64 x.f0.f0 ∧ wf64 x.f0.f1) (hf : f = 1 ∨ f = 2) :
    Calls Try.prog 17 #[.slice A0 l0.length c0, .int .i64 f] w fun e w' => ∃ v0_ : Value, e = .returned (v0_) ∧ Kd.R k31 31 w' w.heap.size (fun _ => True) v0_ (pipesUp l0 f) ∧ Below w.heap.size w w' := by
  have i0 := RdE.mk hr0
  have i1 := LeI.mk hc0
  have A := Aside0.mk A
  have HW := Aside0.mk hw
  have HF12 := Aside0.mk hf
  clear hr0 hc0 hw
  have hu74 := Try.underlying36
  have hu56 := Try.underlying31
  have hs12 : ((f != 1) = false ∧ (f == 1) = true) ∨ ((f != 1) = true ∧ (f != 2) = false) := by
    rcases hf with rfl | rfl
    · exact .inl ⟨rfl, rfl⟩
    · exact .inr ⟨rfl, rfl⟩
  clear hf
  rcases hs12 with ⟨hs1, hs2⟩ | ⟨hs1, hs2⟩
  all_goals go_enter Try.func17, Try.ntmps17
  all_goals go_wp2_with (first
    | (go_at_call 18; refine (impl_LogOk.calls k _ _ _ true _ Rd.out LeI.out A.out).mono ?_; rintro e w2 ⟨rfl, hb⟩; have jb := Bel.mk hb; clear hb)
    | (go_at_call 43; refine (impl_lastOf.calls _ _ _ _ Rd.out LeI.out hl HW.out).mono ?_; rintro e w3 ⟨b, rfl, hb1, hm, hb⟩; obtain ⟨D, hD, hD2⟩ := hm; have jb := Bel.mk hb; have HD := Aside0.mk hD; have HD2 := Aside0.mk hD2; have HB1 := Aside0.mk hb1; clear hb hb1 hD hD2)
    | (at_range; refine wpList_range_own _ rfl _ 60 rfl 31 36 pipeKeyed Try.underlying60 pipeR b l0.length D rfl HD.out ?_; intro w4 hrg hg hs; have HRG := Aside0.mk hrg; have HG := Aside0.mk hg; have HS := Aside0.mk hs; clear hrg hg hs))
  all_goals (
    go_frame
    have HSZ := Aside0.mk (HD.out.size_le)
    have HLB := Aside0.mk (HD.out.lt)
    have HGB : Aside0 (w2.heap.size + 1 ≤ w3.heap.size) := ⟨by have hs := (Bel.out (W := w3)).size; simpa using hs⟩
    have HGM : Aside0 (w2.heap.size + 1 ≤ b) := ⟨by have := HB1.out; simpa using this⟩
    have HGW : Aside0 (w.heap.size ≤ w2.heap.size) := ⟨Sz.out⟩
    have HB0 : Aside0 (Below w.heap.size w w4) := ⟨(From.out : Below w.heap.size w w3).grown HG.out (Sz.out : w.heap.size ≤ w3.heap.size) (fun k hk => by cases hk)⟩
    have HRW : Aside0 (Kd.R k31 31 w4 w.heap.size (fun j => j ≠ b ∧ j ≠ w3.heap.size) (.slice (some ⟨w2.heap.size, 0, none⟩) 0 0) []) := ⟨by
      have h3 : Blk w3 w2.heap.size #[] 31 := ⟨blk_below (blk_new w2 (.cells #[] 31 (0, 0))) (Bel.out (W := w3))⟩
      have h4 : w4.heap[w2.heap.size]? = some (.cells #[] 31 (0, 0)) := (HG.out.block _ (blk_lt h3.out) (by simp)).trans h3.out
      refine ⟨fun k hk => ?_, [], ⟨rfl, .inr ⟨w2.heap.size, 0, #[], rfl, HGW.out, h4, Nat.le_refl _, Nat.zero_le _, rfl, rfl⟩⟩, Reps.none _ _⟩
      obtain rfl : w2.heap.size = k := by simpa [Value.ownBlock] using hk
      exact ⟨by have := HGM.out; omega, by have := HGB.out; omega⟩⟩
    have HF0 : Aside0 (FoundP (lastMap l0) f (Maps.has D) []) := ⟨⟨fun x hx => by simp at hx, fun p e h0 h1 hm hx hf => by
      have e1 := Maps.atKey_of_not_has hf (.map [])
      have e2 := HD2.out.at_ p h0 h1 (.map [])
      rw [hm] at e2
      exact absurd (e1.symm.trans e2) (by simp [quadD])⟩⟩
    go_loopg [5] (Maps.size D + 1) (fun kq u wr => ∃ (left : Lit → Bool) (cnt : Nat) (v : Value) (xs : List S31), v = u ∧ Aside0 (kq = cnt + 1) ∧ Aside0 (xs.length + cnt ≤ Maps.size D) ∧ Aside0 (wr.ranges Try.prog 31 pipeR b w3.heap.size l0.length D left cnt) ∧ Aside0 (FoundP (lastMap l0) f left xs) ∧ Aside0 (Kd.R k31 31 wr w.heap.size (fun j => j ≠ b ∧ j ≠ w3.heap.size) v xs) ∧ Aside0 (Below w.heap.size w wr))
    case atStart => exact ⟨_, _, _, [], rfl, ⟨rfl⟩, ⟨by simp⟩, HRG, HF0, HRW, HB0⟩
    case round =>
      clear HRG HF0 HRW HB0 HG
      obtain ⟨left, cnt, v, xs, rfl, HK, HN, HRG, HF, HR, HB⟩ := hrel
      go_wp2_with (first
        | (at_next; refine wpList_next_ranges _ rfl _ rfl 31 pipeKeyed pipeR (fun p : S31 => pairV p.f0 p.f1) quadV (fun key kl h => by obtain ⟨a, b, rfl, _⟩ := keyOf_pipe_inv h; exact ⟨⟨a, b⟩, rfl⟩) (fun v y h => by obtain ⟨x, rfl, _⟩ := pipeR_inv h; exact ⟨x, rfl⟩) b w3.heap.size l0.length D left cnt rfl HRG.out ?_ ?_))
      rotate_left
      · intro p c kl y1 y2 w5 cnt1 hk hlk hv hat hrg1 hlt hg1 hs1 hen
        obtain ⟨p0, p1⟩ : wf64 p.f0 ∧ wf64 p.f1 := by
          obtain ⟨a, b', e, ha, hb⟩ := keyOf_pipe_inv hk
          simp [pairV] at e
          rw [e.1, e.2]
          exact ⟨ha, hb⟩
        obtain rfl : kl = pipeL p.f0 p.f1 := Option.some.inj (hk.symm.trans (keyOf_pipe p0 p1))
        obtain ⟨rfl, rfl⟩ : y1 = quadD c ∧ y2 = [] := by
          have := (pipeR_mk c).symm.trans hv
          simp at this
          exact ⟨this.1.symm, this.2⟩
        have hm := mapIs_key HD2.out p0 p1 hat
        have HST := Aside0.mk (HF.out.step p c p0 p1 hm)
        have HRG1 := Aside0.mk hrg1
        have HLT := Aside0.mk hlt
        have HG1 := Aside0.mk hg1
        clear hk hlk hv hat hrg1 hlt hg1 hs1 hm HF HRG
        simp only [pairV, quadV] at hen ⊢
        have HR1 := Aside0.mk (Kd.R_grown HR.out HG1.out (fun j hj e => hj.2 (Option.some.inj e)))
        have HB1' : Aside0 (Below w.heap.size w w5) := ⟨HB.out.grown HG1.out HB.out.size (fun k hk => by cases hk; have := HGB.out; have := HGW.out; omega)⟩
        clear HR HB
        by_cases hc : c.f1 = f
        · rw [if_pos hc] at HST
          have hd := beq_iff_eq.mpr hc
          go_upto_region 8 with (fail)
          generalize hW : (w5.alloc _).alloc _ = W
          have HR7 : Aside0 (Kd.R k31 31 W w.heap.size (fun j => j ≠ b ∧ j ≠ w3.heap.size) v xs) := ⟨by rw [← hW]; exact Kd.R_alloc (Kd.R_alloc HR1.out _) _⟩
          have HB7 : Aside0 (Below w.heap.size w W) := ⟨by rw [← hW]; exact below_alloc (below_alloc HB1'.out _) _⟩
          have HRG7 : Aside0 (W.ranges Try.prog 31 pipeR b w3.heap.size l0.length D _ cnt1) := ⟨by rw [← hW]; exact (HRG1.out.alloc _).alloc _⟩
          have HSZ7 : Aside0 (w3.heap.size + 1 ≤ W.heap.size) := ⟨HRG7.out.lt⟩
          have jP : Blk W w5.heap.size #[.int .i64 p.f0, .int .i64 p.f1] 31 := ⟨by rw [← hW]; exact blk_alloc (blk_new w5 _) _⟩
          clear hW HR1 HB1' HRG1
          go_wp2_with (first
            | (refine Kd.R_append k31 (w0 := w) w.heap.size rfl (.tmp 32) (.tmp 34) 25 31 (.agg #[(.int .i64 0), (.int .i64 0)]) 16 rfl Try.underlying25 info31 rfl (by decide) (by omega) v xs p [.int .i64 p.f0, .int .i64 p.f1] (fun j => j ≠ b ∧ j ≠ w3.heap.size) (fun _ => False) rfl rfl ?aP (fun _ hk => hk.elim) ?aF ?aO ?aB ?aS ?aL ?_; (case aP => exact k31_mkM _ _ _ p); (case aB => exact HB7.out); (case aF => intro j hj; have := HSZ7.out; have := HLB.out; exact ⟨by omega, by omega⟩); (case aO => exact HR7.out); (case aS => exact HB7.out.size); (case aL => have := HN.out; have := HSZ.out; omega); intro v1 w6 ho hb hg hat; obtain ⟨B1, b1, rfl⟩ := Kd.R_slice ho; have HO := Aside0.mk ho; have HB6 := Aside0.mk hb; have HG6 := Aside0.mk hg; clear ho hb hg))
          go_roundg (cnt1 + 1)
          case measure => have := HK.out; have := HLT.out; omega
          case rel =>
            refine ⟨_, cnt1, _, xs ++ [p], rfl, ⟨rfl⟩, ⟨by have := HN.out; have := HLT.out; simp only [List.length_append, List.length_singleton]; omega⟩, ⟨?_⟩, HST, ⟨by simpa using HO.out⟩, HB6⟩
            exact HRG7.out.kept HG6.out (fun e => (HR7.out.1 _ e.symm).1 rfl) (fun e => (HR7.out.1 _ e.symm).2 rfl)
        · rw [if_neg hc] at HST
          have hd := beq_eq_false_iff_ne.mpr hc
          go_wp2
          go_roundg (cnt1 + 1)
          case measure => have := HK.out; have := HLT.out; omega
          case rel =>
            exact ⟨_, cnt1, v, xs, rfl, ⟨rfl⟩, ⟨by have := HN.out; have := HLT.out; omega⟩, ⟨(HRG1.out.alloc _).alloc _⟩, HST, ⟨Kd.R_alloc (Kd.R_alloc HR1.out _) _⟩, ⟨below_alloc (below_alloc HB1'.out _) _⟩⟩
      · intro hc0 hl0
        have hwf : ∀ p ∈ xs, wf64 p.f0 ∧ wf64 p.f1 := fun p hp => by obtain ⟨_, _, _, h1, h2⟩ := HF.out.all p hp; exact ⟨h1, h2⟩
        have hfin : pipesIn xs = pipesUp l0 f := by
          refine sortedP_ext (sorted_pipesIn _) (sorted_pipesIn _) fun p => ?_
          rw [mem_pipesIn]
          show p ∈ xs ↔ p ∈ pipesUp l0 f
          rw [mem_pipesUp]
          constructor
          · intro hp
            obtain ⟨e, h1, h2, _, _⟩ := HF.out.all p hp
            obtain ⟨i, _, h4, h5, _⟩ := (Q.lastMap_iff l0 p e l0.length (Nat.le_refl _)).mp (by rw [List.take_length]; exact h1)
            refine ⟨⟨e, List.mem_of_getElem? h4, h5⟩, ?_⟩
            unfold faultOf
            rw [h1]
            exact h2
          · rintro ⟨⟨e, he, rfl⟩, hfo⟩
            unfold faultOf at hfo
            cases hm : lastMap l0 e.f0 with
            | none =>
              rw [hm] at hfo
              have := HF12.out
              simp [z36] at hfo
              omega
            | some e2 =>
              rw [hm] at hfo
              exact HF.out.got e.f0 e2 (HW.out e he).1 (HW.out e he).2 hm hfo (hl0 _)
        have hsmall : xs.length ≤ 100000 := by have := HN.out; have := HSZ.out; omega
        have HFIN := Aside0.mk hfin
        have HWF := Aside0.mk hwf
        obtain ⟨A9, c9, rfl⟩ := Kd.R_slice HR.out
        have hcc := (Kd.R_reads' HR.out).2
        clear hfin hwf HF HRG
        go_wp2_with (first
          | (go_at_call 42; refine (impl_pipesOf.calls_ok A9 c9 xs wr hcc.2 hcc.1 hsmall HWF.out).mono ?_; rintro e w9 ⟨v9, rfl, hR9, hb9⟩; have R9 := Aside0.mk hR9; have B9 : Aside0 (Below w.heap.size w w9) := ⟨below_step HB.out hb9⟩; clear hR9 hb9))
        go_ret
        refine ⟨_, rfl, ?_, B9.out⟩
        rw [← HFIN.out]
        exact Kd.R_lower R9.out HB.out.size)
theorem impl_FaultyPipes.calls_no (k : Nat) (A0 : Option Addr) (c0 : Nat) (l0 : List (S36)) (f : Int) (w : World) (hr0 : Kd.C k36 w A0 l0.length l0) (hc0 : l0.length ≤ c0) (A : impl_LogOk.f k l0 = some false) :
    Calls Try.prog 17 #[.slice A0 l0.length c0, .int .i64 f] w fun e w' => ∃ v0_ : Value, e = .returned (v0_) ∧ Kd.R k31 31 w' w.heap.size (fun _ => True) v0_ ([] : List S31) ∧ Below w.heap.size w w' := by
  have i0 := RdE.mk hr0
  have i1 := LeI.mk hc0
  have A := Aside0.mk A
  clear hr0 hc0
  go_enter Try.func17, Try.ntmps17
  go_wp2_with (first
    | (go_at_call 18; refine (impl_LogOk.calls k _ _ _ false _ Rd.out LeI.out A.out).mono ?_; rintro e w2 ⟨rfl, hb⟩; have jb := Bel.mk hb; clear hb))
  go_ret
  exact ⟨_, rfl, Kd.R_nil _ _ _ _ _, From.out⟩
theorem impl_FaultyPipes.calls_no2 (k : Nat) (A0 : Option Addr) (c0 : Nat) (l0 : List (S36)) (f : Int) (w : World) (hr0 : Kd.C k36 w A0 l0.length l0) (hc0 : l0.length ≤ c0) (A : impl_LogOk.f k l0 = some true) (hf : ¬ (f = 1 ∨ f = 2)) :
    Calls Try.prog 17 #[.slice A0 l0.length c0, .int .i64 f] w fun e w' => ∃ v0_ : Value, e = .returned (v0_) ∧ Kd.R k31 31 w' w.heap.size (fun _ => True) v0_ ([] : List S31) ∧ Below w.heap.size w w' := by
  have i0 := RdE.mk hr0
  have i1 := LeI.mk hc0
  have A := Aside0.mk A
  have h1 : (f != 1) = true := bne_iff_ne.mpr (by omega)
  have h2 : (f != 2) = true := bne_iff_ne.mpr (by omega)
  clear hr0 hc0 hf
  go_enter Try.func17, Try.ntmps17
  go_wp2_with (first
    | (go_at_call 18; refine (impl_LogOk.calls k _ _ _ true _ Rd.out LeI.out A.out).mono ?_; rintro e w2 ⟨rfl, hb⟩; have jb := Bel.mk hb; clear hb))
  go_ret
  exact ⟨_, rfl, Kd.R_nil _ _ _ _ _, From.out⟩
end Go.Proofs.Ytnknnbpodpfljaa.P


namespace Go.Proofs.Ytnknnbpodpfljaa.P
open Go.RowKit Go.Proofs.YtnknnbpodpfljaaW.PrintWords Go.Proofs.YtnknnbpodpfljaaW.PrintLast Go.Proofs.YtnknnbpodpfljaaW.PrintMore Go.Proofs.Ytnknnbpodpfljaa.V
attribute [local go_sem] cell_b frozen_b
attribute [local go_sem] max2_int min2_int max_two min_two max_three min_three max_four min_four
set_option linter.unusedVariables false
set_option linter.unusedSimpArgs false
def impl_FaultyPipes.f (l0 : List (S36)) (a1 : Int) : Option (List (S31)) := if l0.length ≤ 1048577 then some (if Q.logOk l0 = true ∧ (a1 = 1 ∨ a1 = 2) then pipesUp l0 a1 else []) else none
theorem impl_FaultyPipes.calls (A0 : Option Addr) (c0 : Nat) (l0 : List (S36)) (a1 : Int) (r : List (S31)) (w : World) (hr0 : Kd.C k36 w A0 l0.length l0) (hc0 : l0.length ≤ c0) (h : impl_FaultyPipes.f l0 a1 = some r) :
    Calls Try.prog 17 #[.slice A0 l0.length c0, .int .i64 a1] w fun e w' => ∃ v0_ : Value, e = .returned (v0_) ∧ Kd.R k31 31 w' w.heap.size (fun _ => True) v0_ r ∧ Below w.heap.size w w' := by
  unfold impl_FaultyPipes.f at h
  by_cases h0 : l0.length ≤ 1048577
  rotate_left
  · rw [if_neg h0] at h; cases h
  rw [if_pos h0] at h
  obtain ⟨k, hk⟩ := Q.logOk_impl l0 h0
  have A := hk k (Nat.le_refl _)
  by_cases hb : Q.logOk l0 = true
  · rw [hb] at A
    obtain ⟨h1, h2, h3⟩ := logOk_all hb
    by_cases hf : a1 = 1 ∨ a1 = 2
    · rw [if_pos ⟨hb, hf⟩] at h
      obtain rfl := Option.some.inj h
      exact impl_FaultyPipes.calls_ok k A0 c0 l0 a1 w hr0 hc0 A (by omega) h2 hf
    · rw [if_neg (fun hh => hf hh.2)] at h
      obtain rfl := Option.some.inj h
      exact impl_FaultyPipes.calls_no2 k A0 c0 l0 a1 w hr0 hc0 A hf
  · rw [if_neg (fun hh => hb hh.1)] at h
    rw [Bool.eq_false_iff.mpr hb] at A
    obtain rfl := Option.some.inj h
    exact impl_FaultyPipes.calls_no k A0 c0 l0 a1 w hr0 hc0 A
end Go.Proofs.Ytnknnbpodpfljaa.P


namespace Go.Proofs.Ytnknnbpodpfljaa.P
open Go.RowKit Go.Proofs.YtnknnbpodpfljaaW.PrintWords Go.Proofs.YtnknnbpodpfljaaW.PrintLast Go.Proofs.YtnknnbpodpfljaaW.PrintMore Go.Proofs.Ytnknnbpodpfljaa.V
attribute [local go_sem] cell_b frozen_b
attribute [local go_sem] max2_int min2_int max_two min_two max_three min_three max_four min_four
set_option linter.unusedVariables false
set_option linter.unusedSimpArgs false
def impl_pipesOf.f (l0 : List (S31)) : Option (List (S31)) := if l0.length ≤ 100000 ∧ ∀ x ∈ l0, wf64 x.f0 ∧ wf64 x.f1 then some (pipesIn l0) else none
theorem impl_pipesOf.calls (A0 : Option Addr) (c0 : Nat) (l0 : List (S31)) (r : List (S31)) (w : World) (hr0 : Kd.C k31 w A0 l0.length l0) (hc0 : l0.length ≤ c0) (h : impl_pipesOf.f l0 = some r) :
    Calls Try.prog 42 #[.slice A0 l0.length c0] w fun e w' => ∃ v0_ : Value, e = .returned (v0_) ∧ Kd.R k31 31 w' w.heap.size (fun _ => True) v0_ r ∧ Below w.heap.size w w' := by
  unfold impl_pipesOf.f at h
  by_cases h0 : l0.length ≤ 100000 ∧ ∀ x ∈ l0, wf64 x.f0 ∧ wf64 x.f1
  · rw [if_pos h0] at h
    obtain rfl := Option.some.inj h
    exact impl_pipesOf.calls_ok A0 c0 l0 w hr0 hc0 h0.1 h0.2
  · rw [if_neg h0] at h; cases h
end Go.Proofs.Ytnknnbpodpfljaa.P


namespace Go.Proofs.Ytnknnbpodpfljaa.P
open Go.RowKit Go.Proofs.YtnknnbpodpfljaaW.PrintWords Go.Proofs.YtnknnbpodpfljaaW.PrintLast Go.Proofs.YtnknnbpodpfljaaW.PrintMore
attribute [local go_sem] max2_int min2_int max_two min_two max_three min_three max_four min_four
set_option linter.unusedVariables false
set_option linter.unusedSimpArgs false
def impl_HeardPipes.l0 : Nat → List (S36) → List (S31) → List (S31) → Int → Int → Option ((List (S31)))
  | 0, _, _, _, _, _ => none
  | k + 1, x0, x5, x13, x14, x15 => if x15 < x14 then (if 0 ≤ x15 then (if x15 < (x13.length : Int) then ((impl_FaultOf.f x0 ((rd_T31 x13 x15).f0) ((rd_T31 x13 x15).f1)).bind fun t190 => (if t190 = 1 then (impl_HeardPipes.l0 k x0 x5 x13 x14 (wrap64 (x15 + 1))) else (if x5.length < 8796093022208 then (impl_HeardPipes.l0 k x0 (x5 ++ [(⟨(rd_T31 x13 x15).f0, (rd_T31 x13 x15).f1⟩ : S31)]) x13 x14 (wrap64 (x15 + 1))) else (none)))) else (none)) else (none)) else ((impl_pipesOf.f x5).bind fun t194 => (some t194))
def impl_HeardPipes.f (k : Nat) (l0 : List (S36)) (l1 : List (S31)) : Option ((List (S31))) := (impl_LogOk.f k l0).bind fun t184 => (if t184 = true then ((impl_FaultyPipes.f l0 2).bind fun t185 => (impl_HeardPipes.l0 k l0 t185 l1 (l1.length : Int) 0)) else (some ([] : List (S31))))
set_option maxHeartbeats 8000000 in
set_option maxRecDepth 100000 in
theorem impl_HeardPipes.calls (k : Nat) (A0 : Option Addr) (c0 : Nat) (l0 : List (S36)) (A1 : Option Addr) (c1 : Nat) (l1 : List (S31)) (r : List (S31)) (w : World) (hr0 : Kd.C k36 w A0 l0.length l0) (hc0 : l0.length ≤ c0) (hr1 : Kd.C k31 w A1 l1.length l1) (hc1 : l1.length ≤ c1) (h : impl_HeardPipes.f k l0 l1 = some r) :
    Calls Try.prog 13 #[.slice A0 l0.length c0, .slice A1 l1.length c1] w fun e w' => ∃ v0_ : Value, e = .returned (v0_) ∧ Kd.R k31 31 w' w.heap.size (fun _ => True) v0_ r ∧ Below w.heap.size w w' := by
  have hu31 := Try.underlying31
  have HR0 := Aside0.mk hr0
  have HC0 := Aside0.mk hc0
  clear hr0 hc0
  have HR1 := Aside0.mk hr1
  have HC1 := Aside0.mk hc1
  clear hr1 hc1
  have HB := Aside0.mk (Below.refl w.heap.size w)
  have H : ((impl_LogOk.f k l0).bind fun t184 => (if t184 = true then ((impl_FaultyPipes.f l0 2).bind fun t185 => (impl_HeardPipes.l0 k l0 t185 l1 (l1.length : Int) 0)) else (some ([] : List (S31))))) = some r := h
  clear h
  replace H := Option.bind_eq_some_iff.mp H
  obtain ⟨t184, A30, H⟩ := H
  (try dsimp only at H)
  have A3 := Aside0.mk A30
  clear A30
  by_cases c4 : t184 = true
  · subst c4
    rw [if_pos rfl] at H
    replace H := Option.bind_eq_some_iff.mp H
    obtain ⟨t185, A50, H⟩ := H
    (try dsimp only at H)
    have A5 := Aside0.mk A50
    clear A50
    have H' := Aside0.mk H
    clear H
    go_enter Try.func13, Try.ntmps13
    go_wp2_with (first | ((with_reducible refine gate_callee (f := 18) rfl ?_); refine goesL_ (some 9) rfl rfl Try.func18 (by kernel_rfl) rfl #[.slice A0 l0.length c0] rfl (by (try simp only [List.map_toArray, List.map_cons, List.map_nil]); first | done | rfl | (simp only [List.length_drop, List.length_take]; rfl)) ?_; (with_reducible refine (impl_LogOk.calls k _ _ l0 true _ ?side1 ?side2 A3.out).mono ?_); (case side1 => repeat (first | exact HR0.out | (with_reducible refine Kd.C_alloc ?_ _) | (with_reducible refine Kd.C_drewN ?_ _) | (with_reducible refine Kd.C_drew ?_))); (case side2 => exact HC0.out); rintro e w6 ⟨rfl, hb⟩; refine ⟨_, rfl, ?_⟩; have n0_ := Aside0.mk (below_step (oB HB) hb); clear HB; have HB := n0_; clear n0_; (try clear hb); (try clear hb2); (try clear hk); (try clear hi)) | ((with_reducible refine gate_callee (f := 17) rfl ?_); refine goesL_ (some 12) rfl rfl Try.func17 (by kernel_rfl) rfl #[.slice A0 l0.length c0, .int .i64 2] rfl (by (try simp only [List.map_toArray, List.map_cons, List.map_nil]); first | done | rfl | (simp only [List.length_drop, List.length_take]; rfl)) ?_; (with_reducible refine (impl_FaultyPipes.calls _ _ l0 2 t185 _ ?side1 ?side2 A5.out).mono ?_); (case side1 => exact oc_ HR0.out); (case side2 => exact HC0.out); rintro e w7 ⟨v186, rfl, ho0, hb⟩; refine ⟨_, rfl, ?_⟩; have n0_ := Aside0.mk (Kd.R_lower ho0 (below_size (oB HB))); have n1_ := Aside0.mk (below_step (oB HB) hb); clear HB; have HO187 := n0_; have HB := n1_; clear n0_ n1_; (try clear hb); (try clear hb2); (try clear hk); (try clear hi); (try clear ho0)))
    go_loopg [5, 15] k (fun kq v5 v15 w' => ∃ (x5_1 : List (S31)) (x15_1 : Int), v15 = .int .i64 x15_1 ∧ Aside0 (impl_HeardPipes.l0 kq l0 x5_1 l1 (l1.length : Int) x15_1 = some r) ∧ Aside0 (kq ≤ k) ∧ Aside0 (Kd.R k31 31 w' w.heap.size (fun _ => True) v5 x5_1) ∧ Aside0 (Below w.heap.size w w'))
    case atStart => exact ⟨(t185), (0), (by first | rfl | (simp; done) | (simp [*]; done)), H', ⟨Nat.le_refl _⟩, ⟨oR HO187⟩, ⟨oB HB⟩⟩
    case round =>
      clear H'
      try clear c1
      try clear p2
      try clear c4
      obtain ⟨x5_1, x15_1, rfl, HA, HK1, HO_5, HB⟩ := hrel
      cases gk with
      | zero => exact absurd HA.out (by simp [impl_HeardPipes.l0])
      | succ k1 =>
        have H := HA.out
        clear HA
        simp only [impl_HeardPipes.l0] at H
        by_cases c8 : x15_1 < (l1.length : Int)
        · rw [if_pos c8] at H
          have c8b0 : decide (x15_1 < (l1.length : Int)) = true := decide_eq_true c8
          clear c8
          by_cases c9 : 0 ≤ x15_1
          · rw [if_pos c9] at H
            have c9b0 : decide (0 ≤ x15_1) = true := decide_eq_true c9
            clear c9
            by_cases c10 : x15_1 < (l1.length : Int)
            · rw [if_pos c10] at H
              have c10b0 : decide (x15_1 < (l1.length : Int)) = true := decide_eq_true c10
              clear c10
              replace H := Option.bind_eq_some_iff.mp H
              obtain ⟨t190, A110, H⟩ := H
              (try dsimp only at H)
              have A11 := Aside0.mk A110
              clear A110
              by_cases c12 : t190 = 1
              · rw [if_pos c12] at H
                have c12b0 : (t190 == 1) = true := beq_iff_eq.mpr c12
                have c12b1 : (t190 != 1) = false := bne_eq_false_iff_eq.mpr c12
                clear c12
                have H' := Aside0.mk H
                clear H
                have p188 : 0 ≤ (x15_1 : Int) := of_decide_eq_true (by first | (with_reducible assumption) | assumption)
                have q188 : x15_1 < (l1.length : Int) := of_decide_eq_true (by first | (with_reducible assumption) | assumption)
                obtain ⟨ad188, e188, hx188_0, hx188_1⟩ := at_T31 HR1.out x15_1 p188 q188
                cases e188
                replace hx188_0 := (HB.out.cell (World.block_lt_of_cell? w _ hx188_0)).trans hx188_0
                replace hx188_1 := (HB.out.cell (World.block_lt_of_cell? w _ hx188_1)).trans hx188_1
                replace p188 := eq_true p188
                replace q188 := eq_true q188
                go_wp2_with (first | ((with_reducible refine gate_dst (N := 7) rfl ?_); refine box_event ?hg (N := 7) ?hd (cs := #[.int .i64 0, .int .i64 0]) (t := 31) ?hr ?_; (case hd => rfl); (case hg => rfl); (case hr => first | (go_simp; done) | (go_simp; rfl)); intro gb189 hg w13 hbox hb; have n0_ := Aside0.mk (Kd.R_below (Kd.R_elderB (oR HO_5) gb189 (Nat.le_of_eq hg.symm)) hb); have n1_ := Aside0.mk (below_step (oB HB) hb); have n2_ := Aside0.mk (hbox); have n3_ := Aside0.mk ((by rw [hg]; exact (below_size (oB HB)) : w.heap.size ≤ gb189)); have n4_ := Aside0.mk ((by rw [hg]; exact (below_size (oB HB)) : w.heap.size ≤ gb189)); clear HO_5; clear HB; have HO_5 := n0_; have HB := n1_; have BK189 := n2_; have GW189 := n3_; have GE189 := n4_; clear n0_ n1_ n2_ n3_ n4_; clear hb hbox hg; have hcz14_0 : w13.cell? ⟨gb189, 0, none⟩ = some (.int .i64 0) := (blk_cell BK189.out 0).trans rfl; have hcz14_1 : w13.cell? ⟨gb189, 1, none⟩ = some (.int .i64 0) := (blk_cell BK189.out 1).trans rfl; have hfz14_0 := blk_frozen BK189.out 0; have hfz14_1 := blk_frozen BK189.out 1) | ((with_reducible refine gate_callee (f := 14) rfl ?_); refine goesL_ (some 21) rfl rfl Try.func14 (by kernel_rfl) rfl #[.slice A0 l0.length c0, .agg #[.int .i64 ((rd_T31 l1 x15_1).f0), .int .i64 ((rd_T31 l1 x15_1).f1)]] rfl (by (try simp only [List.map_toArray, List.map_cons, List.map_nil]); first | done | rfl | (simp only [List.length_drop, List.length_take]; rfl)) ?_; (with_reducible refine (impl_FaultOf.calls _ _ l0 ((rd_T31 l1 x15_1).f0) ((rd_T31 l1 x15_1).f1) t190 _ ?side1 ?side2 A11.out).mono ?_); (case side1 => exact Kd.C_below HR0.out (oB HB)); (case side2 => exact HC0.out); rintro e w15 ⟨rfl, hb⟩; refine ⟨_, rfl, ?_⟩; have n0_ := Aside0.mk (Kd.R_below (by (with_reducible repeat (first | apply Kd.R_alloc | apply Kd.R_drewN | apply Kd.R_drew)); exact (Kd.R_mono (Kd.R_far (p := ⟨gb189, 1, none⟩) (Kd.R_far (p := ⟨gb189, 0, none⟩) (Kd.R_mono HO_5.out (fun k_ hk => (⟨hk, hk.2⟩ : _ ∧ k_ ≠ gb189))) (fun _ hk => hk.2) (.int .i64 ((rd_T31 l1 x15_1).f0))) (fun _ hk => hk.2) (.int .i64 ((rd_T31 l1 x15_1).f1))) (fun _ h_ => h_.1))) hb); have n1_ := Aside0.mk (blk_below (g := gb189) (o := .cells #[.int .i64 ((rd_T31 l1 x15_1).f0), .int .i64 ((rd_T31 l1 x15_1).f1)] 31 (0, 0)) (by (with_reducible repeat (first | refine blk_drewN ?_ _ | refine blk_drew ?_ | refine blk_alloc ?_ _)); refine blk_put (cs := #[.int .i64 ((rd_T31 l1 x15_1).f0), .int .i64 0]) ?_ 1 _ rfl; (with_reducible repeat (first | refine blk_drewN ?_ _ | refine blk_drew ?_ | refine blk_alloc ?_ _)); refine blk_put (cs := #[.int .i64 0, .int .i64 0]) ?_ 0 _ rfl; (with_reducible repeat (first | refine blk_drewN ?_ _ | refine blk_drew ?_ | refine blk_alloc ?_ _)); exact BK189.out) hb); have n2_ := Aside0.mk (below_step (oB HB) hb); clear HO_5; clear BK189; clear HB; have HO_5 := n0_; have BK189 := n1_; have HB := n2_; clear n0_ n1_ n2_; (try clear hb); (try clear hb2); (try clear hk); (try clear hi)))
                go_roundg k1
                case measure => have := HK1.out; omega
                case rel => exact ⟨(x5_1), (wrap64 (x15_1 + 1)), (by first | rfl | (simp; done) | (simp [*]; done)), H', ⟨by have := HK1.out; omega⟩, ⟨by (with_reducible repeat (first | apply Kd.R_alloc | apply Kd.R_drewN | apply Kd.R_drew)); exact Kd.R_mono HO_5.out (fun _ hk => trivial)⟩, ⟨oB HB⟩⟩
              · rw [if_neg c12] at H
                have c12b0 : (t190 == 1) = false := beq_eq_false_iff_ne.mpr c12
                have c12b1 : (t190 != 1) = true := bne_iff_ne.mpr c12
                by_cases c16 : x5_1.length < 8796093022208
                · rw [if_pos c16] at H
                  have LMc16 := Aside0.mk c16
                  clear c16
                  obtain ⟨y191, hy191⟩ : ∃ y_ : List (S31), y_ = (x5_1 ++ [(⟨(rd_T31 l1 x15_1).f0, (rd_T31 l1 x15_1).f1⟩ : S31)]) := ⟨_, rfl⟩
                  replace H : (impl_HeardPipes.l0 k1 l0 y191 l1 (l1.length : Int) (wrap64 (x15_1 + 1))) = some r := by first | (rw [hy191]; with_reducible exact H) | (have H2_ := (Option.bind_some _ _).symm.trans H; rw [hy191]; with_reducible exact H2_) | (have H2_ := (Option.bind_some _ _).symm.trans H; with_reducible exact H2_) | with_reducible exact H | (rw [hy191]; exact H) | exact H
                  have Ny191 := Aside0.mk hy191
                  clear hy191
                  have H' := Aside0.mk H
                  clear H
                  have p188 : 0 ≤ (x15_1 : Int) := of_decide_eq_true (by first | (with_reducible assumption) | assumption)
                  have q188 : x15_1 < (l1.length : Int) := of_decide_eq_true (by first | (with_reducible assumption) | assumption)
                  obtain ⟨ad188, e188, hx188_0, hx188_1⟩ := at_T31 HR1.out x15_1 p188 q188
                  cases e188
                  replace hx188_0 := (HB.out.cell (World.block_lt_of_cell? w _ hx188_0)).trans hx188_0
                  replace hx188_1 := (HB.out.cell (World.block_lt_of_cell? w _ hx188_1)).trans hx188_1
                  replace p188 := eq_true p188
                  replace q188 := eq_true q188
                  go_wp2_with (first | ((with_reducible refine gate_dst (N := 7) rfl ?_); refine box_event ?hg (N := 7) ?hd (cs := #[.int .i64 0, .int .i64 0]) (t := 31) ?hr ?_; (case hd => rfl); (case hg => rfl); (case hr => first | (go_simp; done) | (go_simp; rfl)); intro gb189 hg w17 hbox hb; have n0_ := Aside0.mk (Kd.R_below (Kd.R_elderB (oR HO_5) gb189 (Nat.le_of_eq hg.symm)) hb); have n1_ := Aside0.mk (below_step (oB HB) hb); have n2_ := Aside0.mk (hbox); have n3_ := Aside0.mk ((by rw [hg]; exact (below_size (oB HB)) : w.heap.size ≤ gb189)); have n4_ := Aside0.mk ((by rw [hg]; exact (below_size (oB HB)) : w.heap.size ≤ gb189)); clear HO_5; clear HB; have HO_5 := n0_; have HB := n1_; have BK189 := n2_; have GW189 := n3_; have GE189 := n4_; clear n0_ n1_ n2_ n3_ n4_; clear hb hbox hg; have hcz18_0 : w17.cell? ⟨gb189, 0, none⟩ = some (.int .i64 0) := (blk_cell BK189.out 0).trans rfl; have hcz18_1 : w17.cell? ⟨gb189, 1, none⟩ = some (.int .i64 0) := (blk_cell BK189.out 1).trans rfl; have hfz18_0 := blk_frozen BK189.out 0; have hfz18_1 := blk_frozen BK189.out 1) | ((with_reducible refine gate_callee (f := 14) rfl ?_); refine goesL_ (some 21) rfl rfl Try.func14 (by kernel_rfl) rfl #[.slice A0 l0.length c0, .agg #[.int .i64 ((rd_T31 l1 x15_1).f0), .int .i64 ((rd_T31 l1 x15_1).f1)]] rfl (by (try simp only [List.map_toArray, List.map_cons, List.map_nil]); first | done | rfl | (simp only [List.length_drop, List.length_take]; rfl)) ?_; (with_reducible refine (impl_FaultOf.calls _ _ l0 ((rd_T31 l1 x15_1).f0) ((rd_T31 l1 x15_1).f1) t190 _ ?side1 ?side2 A11.out).mono ?_); (case side1 => exact Kd.C_below HR0.out (oB HB)); (case side2 => exact HC0.out); rintro e w19 ⟨rfl, hb⟩; refine ⟨_, rfl, ?_⟩; have n0_ := Aside0.mk (Kd.R_below (by (with_reducible repeat (first | apply Kd.R_alloc | apply Kd.R_drewN | apply Kd.R_drew)); exact (Kd.R_mono (Kd.R_far (p := ⟨gb189, 1, none⟩) (Kd.R_far (p := ⟨gb189, 0, none⟩) (Kd.R_mono HO_5.out (fun k_ hk => (⟨hk, hk.2⟩ : _ ∧ k_ ≠ gb189))) (fun _ hk => hk.2) (.int .i64 ((rd_T31 l1 x15_1).f0))) (fun _ hk => hk.2) (.int .i64 ((rd_T31 l1 x15_1).f1))) (fun _ h_ => h_.1))) hb); have n1_ := Aside0.mk (blk_below (g := gb189) (o := .cells #[.int .i64 ((rd_T31 l1 x15_1).f0), .int .i64 ((rd_T31 l1 x15_1).f1)] 31 (0, 0)) (by (with_reducible repeat (first | refine blk_drewN ?_ _ | refine blk_drew ?_ | refine blk_alloc ?_ _)); refine blk_put (cs := #[.int .i64 ((rd_T31 l1 x15_1).f0), .int .i64 0]) ?_ 1 _ rfl; (with_reducible repeat (first | refine blk_drewN ?_ _ | refine blk_drew ?_ | refine blk_alloc ?_ _)); refine blk_put (cs := #[.int .i64 0, .int .i64 0]) ?_ 0 _ rfl; (with_reducible repeat (first | refine blk_drewN ?_ _ | refine blk_drew ?_ | refine blk_alloc ?_ _)); exact BK189.out) hb); have n2_ := Aside0.mk (below_step (oB HB) hb); clear HO_5; clear BK189; clear HB; have HO_5 := n0_; have BK189 := n1_; have HB := n2_; clear n0_ n1_ n2_; (try clear hb); (try clear hb2); (try clear hk); (try clear hi); have hcz20_0 : w19.cell? ⟨gb189, 0, none⟩ = some (.int .i64 ((rd_T31 l1 x15_1).f0)) := (blk_cell BK189.out 0).trans rfl; have hcz20_1 : w19.cell? ⟨gb189, 1, none⟩ = some (.int .i64 ((rd_T31 l1 x15_1).f1)) := (blk_cell BK189.out 1).trans rfl; have hfz20_0 := blk_frozen BK189.out 0; have hfz20_1 := blk_frozen BK189.out 1) | ((with_reducible refine gate_builtin (b := .append) (xs := #[.tmp 23, .tmp 25]) rfl ?_); at_builtin; refine Kd.R_append k31 (w0 := w) w.heap.size rfl (.tmp 23) (.tmp 25) 25 31 (.agg #[(.int .i64 0), (.int .i64 0)]) 16 rfl Try.underlying25 info31 rfl (by decide) (by omega) u5 x5_1 (⟨(rd_T31 l1 x15_1).f0, (rd_T31 l1 x15_1).f1⟩ : S31) [.int .i64 ((rd_T31 l1 x15_1).f0), .int .i64 ((rd_T31 l1 x15_1).f1)] (fun k_ => k_ ≠ gb189) (fun _ => False) rfl rfl ?aP (fun _ hk => hk.elim) ?aF ?aO ?aB ?aS ?aL ?_; (case aP => exact k31_mkM _ _ _ (⟨(rd_T31 l1 x15_1).f0, (rd_T31 l1 x15_1).f1⟩ : S31)); (case aB => exact (oB HB)); (case aF => exact (fun k_ hk => Kd.freshB (g := gb189) (o := .cells #[.int .i64 ((rd_T31 l1 x15_1).f0), .int .i64 ((rd_T31 l1 x15_1).f1)] 31 (0, 0)) (oK BK189) k_ hk)); (case aO => exact (by (with_reducible repeat (first | apply Kd.R_alloc | apply Kd.R_drewN | apply Kd.R_drew)); exact Kd.R_mono HO_5.out (fun _ hk => hk.2))); (case aS => exact (below_size (oB HB))); (case aL => have := LMc16.out; omega); intro v192 w21 ho hb hg hat; rw [← Ny191.out] at ho; have n0_ := Aside0.mk (blk_grown (g := gb189) (o := .cells #[.int .i64 ((rd_T31 l1 x15_1).f0), .int .i64 ((rd_T31 l1 x15_1).f1)] 31 (0, 0)) (oK BK189) hg (Kd.R_away HO_5.out (fun _ hk => hk.2))); have n1_ := Aside0.mk (hb); have n2_ := Aside0.mk (ho); clear BK189; clear HB; clear HO_5; have BK189 := n0_; have HB := n1_; have HO193 := n2_; clear n0_ n1_ n2_; clear ho hb hg hat))
                  go_roundg k1
                  case measure => have := HK1.out; omega
                  case rel => exact ⟨(y191), (wrap64 (x15_1 + 1)), (by first | rfl | (simp; done) | (simp [*]; done)), H', ⟨by have := HK1.out; omega⟩, ⟨by (with_reducible repeat (first | apply Kd.R_alloc | apply Kd.R_drewN | apply Kd.R_drew)); exact Kd.R_mono HO193.out (fun _ hk => trivial)⟩, ⟨oB HB⟩⟩
                · rw [if_neg c16] at H
                  exact absurd H (by simp)
            · rw [if_neg c10] at H
              exact absurd H (by simp)
          · rw [if_neg c9] at H
            exact absurd H (by simp)
        · rw [if_neg c8] at H
          have c8b0 : decide (x15_1 < (l1.length : Int)) = false := decide_eq_false c8
          clear c8
          replace H := Option.bind_eq_some_iff.mp H
          obtain ⟨t194, A220, H⟩ := H
          (try dsimp only at H)
          have A22 := Aside0.mk A220
          clear A220
          obtain rfl := Option.some.inj H
          obtain ⟨Ao23, co23, eo23⟩ := Kd.R_slice HO_5.out
          subst eo23
          go_wp2_with (first | ((with_reducible refine gate_callee (f := 42) rfl ?_); refine goesL_ (some 29) rfl rfl Try.func42 (by kernel_rfl) rfl #[.slice Ao23 x5_1.length co23] rfl (by (try simp only [List.map_toArray, List.map_cons, List.map_nil]); first | done | rfl | (simp only [List.length_drop, List.length_take]; rfl)) ?_; (with_reducible refine (impl_pipesOf.calls _ _ x5_1 t194 _ ?side1 ?side2 A22.out).mono ?_); (case side1 => repeat (first | exact (Kd.R_reads' HO_5.out).2.2 | (with_reducible refine Kd.C_alloc ?_ _) | (with_reducible refine Kd.C_drewN ?_ _) | (with_reducible refine Kd.C_drew ?_))); (case side2 => exact (Kd.R_reads' HO_5.out).2.1); rintro e w24 ⟨v195, rfl, ho0, hb⟩; refine ⟨_, rfl, ?_⟩; have n0_ := Aside0.mk (Kd.R_elder' (oR HO_5) (Kd.R_base ho0) hb); have n1_ := Aside0.mk (Kd.R_lower (Kd.R_new' ho0 (Kd.R_lt (oR HO_5))) (below_size (oB HB))); have n2_ := Aside0.mk (below_step (oB HB) hb); clear HO_5; clear HB; have HO_5 := n0_; have HO196 := n1_; have HB := n2_; clear n0_ n1_ n2_; (try clear hb); (try clear hb2); (try clear hk); (try clear hi); (try clear ho0)))
          go_ret
          exact ⟨_, by first | rfl | (simp [errW_none, errW_some] <;> rfl) | (simp [*, errW_none, errW_some] <;> rfl), by (with_reducible repeat (first | apply Kd.R_alloc | apply Kd.R_drewN | apply Kd.R_drew)); exact Kd.R_mono HO196.out (fun _ hk => trivial), oB HB⟩
  · replace c4 := Bool.eq_false_iff.mpr c4
    subst c4
    rw [if_neg (show ¬ (false = true) by decide)] at H
    obtain rfl := Option.some.inj H
    go_enter Try.func13, Try.ntmps13
    go_wp2_with (first | ((with_reducible refine gate_callee (f := 18) rfl ?_); refine goesL_ (some 9) rfl rfl Try.func18 (by kernel_rfl) rfl #[.slice A0 l0.length c0] rfl (by (try simp only [List.map_toArray, List.map_cons, List.map_nil]); first | done | rfl | (simp only [List.length_drop, List.length_take]; rfl)) ?_; (with_reducible refine (impl_LogOk.calls k _ _ l0 false _ ?side1 ?side2 A3.out).mono ?_); (case side1 => repeat (first | exact HR0.out | (with_reducible refine Kd.C_alloc ?_ _) | (with_reducible refine Kd.C_drewN ?_ _) | (with_reducible refine Kd.C_drew ?_))); (case side2 => exact HC0.out); rintro e w25 ⟨rfl, hb⟩; refine ⟨_, rfl, ?_⟩; have n0_ := Aside0.mk (below_step (oB HB) hb); clear HB; have HB := n0_; clear n0_; (try clear hb); (try clear hb2); (try clear hk); (try clear hi)))
    go_ret
    exact ⟨_, by first | rfl | (simp [errW_none, errW_some] <;> rfl) | (simp [*, errW_none, errW_some] <;> rfl), by first | exact Kd.R_nil _ _ _ _ _ | exact Kd.N_nil _ _ _ _ _ | exact Kd.V_nil _ _ _ _ _ | exact Kd.Q_nil _ _ _ _ _ | exact Kd.S_nil _ _ _ _ _, oB HB⟩
end Go.Proofs.Ytnknnbpodpfljaa.P


namespace Go.Proofs.Ytnknnbpodpfljaa.P
open Go.RowKit Go.Proofs.YtnknnbpodpfljaaW.PrintWords Go.Proofs.YtnknnbpodpfljaaW.PrintLast Go.Proofs.YtnknnbpodpfljaaW.PrintMore
attribute [local go_sem] max2_int min2_int max_two min_two max_three min_three max_four min_four
set_option linter.unusedVariables false
set_option linter.unusedSimpArgs false
def laws_at.f (l0 : List Int) (a1 : Int) : Option (Int) := if (l0.length : Int) = 0 then (some 0) else (if 0 ≤ (Int.tmod (wrap64 ((wrap64 (a1 * 5)) + 1)) (l0.length : Int)) then (if (Int.tmod (wrap64 ((wrap64 (a1 * 5)) + 1)) (l0.length : Int)) < (l0.length : Int) then (some (wrap64 (rd l0 (Int.tmod (wrap64 ((wrap64 (a1 * 5)) + 1)) (l0.length : Int))))) else (none)) else (none))
set_option maxHeartbeats 8000000 in
set_option maxRecDepth 100000 in
theorem laws_at.calls (A0 : Option Addr) (c0 : Nat) (l0 : List Int) (a1 : Int) (r : Int) (w : World) (hr0 : Kd.C (Kd.int .u8) w A0 l0.length l0) (hc0 : l0.length ≤ c0) (h : laws_at.f l0 a1 = some r) :
    Calls Try.prog 15 #[.slice A0 l0.length c0, .int .i64 a1] w fun e w' => e = .returned (.int .i64 r) ∧ Drawn0 w w' := by
  have HR0 := Aside0.mk hr0
  have HC0 := Aside0.mk hc0
  clear hr0 hc0
  have H : (if (l0.length : Int) = 0 then (some 0) else (if 0 ≤ (Int.tmod (wrap64 ((wrap64 (a1 * 5)) + 1)) (l0.length : Int)) then (if (Int.tmod (wrap64 ((wrap64 (a1 * 5)) + 1)) (l0.length : Int)) < (l0.length : Int) then (some (wrap64 (rd l0 (Int.tmod (wrap64 ((wrap64 (a1 * 5)) + 1)) (l0.length : Int))))) else (none)) else (none))) = some r := h
  clear h
  by_cases c3 : (l0.length : Int) = 0
  · rw [if_pos c3] at H
    have c3b0 : ((l0.length : Int) == 0) = true := beq_iff_eq.mpr c3
    have c3b1 : ((l0.length : Int) != 0) = false := bne_eq_false_iff_eq.mpr c3
    clear c3
    obtain rfl := Option.some.inj H
    go_enter Try.func15, Try.ntmps15
    go_wp2
    go_ret
    exact ⟨by first | rfl | (simp; done) | (simp [*]; done), by repeat (first | exact Drawn0.refl _ | apply Drawn0.step)⟩
  · rw [if_neg c3] at H
    have c3b0 : ((l0.length : Int) == 0) = false := beq_eq_false_iff_ne.mpr c3
    have c3b1 : ((l0.length : Int) != 0) = true := bne_iff_ne.mpr c3
    have c3b2 : ¬ (l0 = []) := fun h_ => c3 (by rw [h_]; rfl)
    obtain ⟨ji4, hji4⟩ : ∃ j_ : Int, (Int.tmod (wrap64 ((wrap64 (a1 * 5)) + 1)) (l0.length : Int)) = j_ := ⟨_, rfl⟩
    replace H : (if 0 ≤ (ji4) then (if (ji4) < (l0.length : Int) then (some (wrap64 (rd l0 (ji4)))) else (none)) else (none)) = some r := by first | (rw [hji4] at H; exact H) | (simp only [hji4] at H ⊢; exact H)
    by_cases c5 : 0 ≤ (ji4)
    · rw [if_pos c5] at H
      have c5b0 : decide (0 ≤ (ji4)) = true := decide_eq_true c5
      clear c5
      by_cases c6 : (ji4) < (l0.length : Int)
      · rw [if_pos c6] at H
        have c6b0 : decide ((ji4) < (l0.length : Int)) = true := decide_eq_true c6
        clear c6
        obtain rfl := Option.some.inj H
        have p197 : 0 ≤ ((ji4) : Int) := of_decide_eq_true (by first | (with_reducible assumption) | assumption)
        have q197 : (ji4) < (l0.length : Int) := of_decide_eq_true (by first | (with_reducible assumption) | assumption)
        obtain ⟨ad197, e197, hx197_0⟩ := Kd.at_int HR0.out (ji4) p197 q197
        cases e197
        replace p197 := eq_true p197
        replace q197 := eq_true q197
        go_enter Try.func15, Try.ntmps15
        go_wp2
        go_ret
        exact ⟨by first | rfl | (simp; done) | (simp only [← hji4] <;> (first | rfl | simp)) | (simp [*]; done), by repeat (first | exact Drawn0.refl _ | apply Drawn0.step)⟩
      · rw [if_neg c6] at H
        exact absurd H (by simp)
    · rw [if_neg c5] at H
      exact absurd H (by simp)
end Go.Proofs.Ytnknnbpodpfljaa.P


namespace Go.Proofs.Ytnknnbpodpfljaa.P
open Go.RowKit Go.Proofs.YtnknnbpodpfljaaW.PrintWords Go.Proofs.YtnknnbpodpfljaaW.PrintLast Go.Proofs.YtnknnbpodpfljaaW.PrintMore
attribute [local go_sem] max2_int min2_int max_two min_two max_three min_three max_four min_four
set_option linter.unusedVariables false
set_option linter.unusedSimpArgs false
def impl_copyLog.f (l0 : List (S36)) : Option ((List (S36))) := (some (([] : List (S36)) : List (S36))).bind fun y198 => (if y198.length + l0.length < 4398046511104 then (some (y198 ++ l0)) else (none))
set_option maxHeartbeats 8000000 in
set_option maxRecDepth 100000 in
theorem impl_copyLog.calls (A0 : Option Addr) (c0 : Nat) (l0 : List (S36)) (r : List (S36)) (w : World) (hr0 : Kd.C k36 w A0 l0.length l0) (hc0 : l0.length ≤ c0) (h : impl_copyLog.f l0 = some r) :
    Calls Try.prog 44 #[.slice A0 l0.length c0] w fun e w' => ∃ v0_ : Value, e = .returned (v0_) ∧ Kd.R k36 36 w' w.heap.size (fun _ => True) v0_ r ∧ Below w.heap.size w w' := by
  have HR0 := Aside0.mk hr0
  have HC0 := Aside0.mk hc0
  clear hr0 hc0
  have HB := Aside0.mk (Below.refl w.heap.size w)
  have H : ((some (([] : List (S36)) : List (S36))).bind fun y198 => (if y198.length + l0.length < 4398046511104 then (some (y198 ++ l0)) else (none))) = some r := h
  clear h
  obtain ⟨y198, hy198⟩ : ∃ y_ : List (S36), y_ = (([] : List (S36))) := ⟨_, rfl⟩
  replace H : (if y198.length + l0.length < 4398046511104 then (some (y198 ++ l0)) else (none)) = some r := by first | (rw [hy198]; with_reducible exact H) | (have H2_ := (Option.bind_some _ _).symm.trans H; rw [hy198]; with_reducible exact H2_) | (have H2_ := (Option.bind_some _ _).symm.trans H; with_reducible exact H2_) | with_reducible exact H | (rw [hy198]; exact H) | exact H
  have Ny198 := Aside0.mk hy198
  clear hy198
  by_cases c2 : y198.length + l0.length < 4398046511104
  · rw [if_pos c2] at H
    have LMc2 := Aside0.mk c2
    clear c2
    obtain ⟨y201, hy201⟩ : ∃ y_ : List (S36), y_ = (y198 ++ l0) := ⟨_, rfl⟩
    replace H : (some y201) = some r := by first | (rw [hy201]; with_reducible exact H) | (have H2_ := (Option.bind_some _ _).symm.trans H; rw [hy201]; with_reducible exact H2_) | (have H2_ := (Option.bind_some _ _).symm.trans H; with_reducible exact H2_) | with_reducible exact H | (rw [hy201]; exact H) | exact H
    have Ny201 := Aside0.mk hy201
    clear hy201
    obtain rfl := Option.some.inj H
    go_enter Try.func44, Try.ntmps44
    go_wp2_with (first | ((with_reducible refine gate_dst (N := 3) rfl ?_); refine Kd.R_lit k36 _ 36 ?hg (N := 3) ?hd (xs := ([] : List (S36))) (inner := []) (ok := fun _ => True) (okp := fun _ => True) ?hr ?hp (fun _ hk => hk) trivial (Below.refl _ _) (Nat.le_refl _) (by simp) ?_; (case hd => rfl); (case hg => rfl); (case hr => first | (go_simp; done) | (go_simp; rfl)); (case hp => exact (Reps.none _ _)); intro v199 w3 ho4 hb hg_ hnew_; clear hg_ hnew_; (first | rw [← Ny198.out] at ho4 | (simp only [Int.reduceToNat] at ho4; rw [← Ny198.out] at ho4)); have n0_ := Aside0.mk (Kd.R_lower ho4 (below_size (oB HB))); have n1_ := Aside0.mk (below_step (oB HB) hb); clear HB; have HO200 := n0_; have HB := n1_; clear n0_ n1_; clear hb ho4) | ((with_reducible refine gate_builtin (b := .append) (xs := #[.tmp 3, .tmp 4]) rfl ?_); at_builtin; refine Kd.R_append_rows k36 (w0 := w) w.heap.size rfl (.tmp 3) (.tmp 4) 24 36 (.agg #[(.int .i64 0), (.int .i64 0), (.int .i64 0), (.int .i64 0)]) 32 rfl Try.underlying24 info36 rfl (by decide) (by omega) v199 y198 l0 _ _ _ (fun _ => True) (fun _ => False) rfl rfl ?aO ?aR (fun _ _ h => h) (fun _ h => h.elim) ?aF ?aB ?aS ?aL ?_; (case aR => exact oc_ HR0.out); (case aB => exact (oB HB)); (case aF => exact (fun _ _ => trivial)); (case aO => exact (oR HO200)); (case aS => exact (below_size (oB HB))); (case aL => have := LMc2.out; omega); intro v202 w5 ho hb hg hat; rw [← Ny201.out] at ho; have n0_ := Aside0.mk (hb); have n1_ := Aside0.mk (ho); clear HB; clear HO200; have HB := n0_; have HO203 := n1_; clear n0_ n1_; clear ho hb hg hat))
    go_ret
    exact ⟨_, by first | rfl | (simp [errW_none, errW_some] <;> rfl) | (simp [*, errW_none, errW_some] <;> rfl), oR HO203, oB HB⟩
  · rw [if_neg c2] at H
    exact absurd H (by simp)
end Go.Proofs.Ytnknnbpodpfljaa.P


namespace Go.Proofs.Ytnknnbpodpfljaa.P
open Go.RowKit Go.Proofs.YtnknnbpodpfljaaW.PrintWords Go.Proofs.YtnknnbpodpfljaaW.PrintLast Go.Proofs.YtnknnbpodpfljaaW.PrintMore
attribute [local go_sem] max2_int min2_int max_two min_two max_three min_three max_four min_four
set_option linter.unusedVariables false
set_option linter.unusedSimpArgs false
def impl_AddEntry.f (k : Nat) (l0 : List (S36)) (a1_0 : Int) (a1_1 : Int) (a1_2 : Int) (a1_3 : Int) : Option ((List (S36)) × Bool) := (impl_copyLog.f l0).bind fun t205 => ((some (([(⟨(⟨a1_0, a1_1⟩ : S31), a1_2, a1_3⟩ : S36)] : List (S36)) : List (S36))).bind fun y208 => (if t205.length + y208.length < 4398046511104 then ((some (t205 ++ y208 : List (S36))).bind fun y211 => ((impl_LogOk.f k l0).bind fun t214 => (if t214 = true then ((impl_LogOk.f k y211).bind fun t215 => (if t215 = true then (some (y211, true)) else ((impl_copyLog.f l0).bind fun t216 => (some (t216, false))))) else ((impl_copyLog.f l0).bind fun t219 => (some (t219, false)))))) else (none)))
set_option maxHeartbeats 8000000 in
set_option maxRecDepth 100000 in
theorem impl_AddEntry.calls (k : Nat) (A0 : Option Addr) (c0 : Nat) (l0 : List (S36)) (a1_0 : Int) (a1_1 : Int) (a1_2 : Int) (a1_3 : Int) (r1 : List (S36)) (r2 : Bool) (w : World) (hr0 : Kd.C k36 w A0 l0.length l0) (hc0 : l0.length ≤ c0) (h : impl_AddEntry.f k l0 a1_0 a1_1 a1_2 a1_3 = some (r1, r2)) :
    Calls Try.prog 16 #[.slice A0 l0.length c0, .agg #[.int .i64 a1_0, .int .i64 a1_1, .int .i64 a1_2, .int .i64 a1_3]] w fun e w' => ∃ v0_ : Value, e = .returned (.tuple #[v0_, .bool r2]) ∧ Kd.R k36 36 w' w.heap.size (fun _ => True) v0_ r1 ∧ Below w.heap.size w w' := by
  have hu36 := Try.underlying36
  have HR0 := Aside0.mk hr0
  have HC0 := Aside0.mk hc0
  clear hr0 hc0
  have HB := Aside0.mk (Below.refl w.heap.size w)
  have H : ((impl_copyLog.f l0).bind fun t205 => ((some (([(⟨(⟨a1_0, a1_1⟩ : S31), a1_2, a1_3⟩ : S36)] : List (S36)) : List (S36))).bind fun y208 => (if t205.length + y208.length < 4398046511104 then ((some (t205 ++ y208 : List (S36))).bind fun y211 => ((impl_LogOk.f k l0).bind fun t214 => (if t214 = true then ((impl_LogOk.f k y211).bind fun t215 => (if t215 = true then (some (y211, true)) else ((impl_copyLog.f l0).bind fun t216 => (some (t216, false))))) else ((impl_copyLog.f l0).bind fun t219 => (some (t219, false)))))) else (none)))) = some (r1, r2) := h
  clear h
  replace H := Option.bind_eq_some_iff.mp H
  obtain ⟨t205, A30, H⟩ := H
  (try dsimp only at H)
  have A3 := Aside0.mk A30
  clear A30
  obtain ⟨y208, hy208⟩ : ∃ y_ : List (S36), y_ = (([(⟨(⟨a1_0, a1_1⟩ : S31), a1_2, a1_3⟩ : S36)] : List (S36))) := ⟨_, rfl⟩
  replace H : (if t205.length + y208.length < 4398046511104 then ((some (t205 ++ y208 : List (S36))).bind fun y211 => ((impl_LogOk.f k l0).bind fun t214 => (if t214 = true then ((impl_LogOk.f k y211).bind fun t215 => (if t215 = true then (some (y211, true)) else ((impl_copyLog.f l0).bind fun t216 => (some (t216, false))))) else ((impl_copyLog.f l0).bind fun t219 => (some (t219, false)))))) else (none)) = some (r1, r2) := by first | (rw [hy208]; with_reducible exact H) | (have H2_ := (Option.bind_some _ _).symm.trans H; rw [hy208]; with_reducible exact H2_) | (have H2_ := (Option.bind_some _ _).symm.trans H; with_reducible exact H2_) | with_reducible exact H | (rw [hy208]; exact H) | exact H
  have Ny208 := Aside0.mk hy208
  clear hy208
  by_cases c4 : t205.length + y208.length < 4398046511104
  · rw [if_pos c4] at H
    have LMc4 := Aside0.mk c4
    clear c4
    obtain ⟨y211, hy211⟩ : ∃ y_ : List (S36), y_ = (t205 ++ y208) := ⟨_, rfl⟩
    replace H : ((impl_LogOk.f k l0).bind fun t214 => (if t214 = true then ((impl_LogOk.f k y211).bind fun t215 => (if t215 = true then (some (y211, true)) else ((impl_copyLog.f l0).bind fun t216 => (some (t216, false))))) else ((impl_copyLog.f l0).bind fun t219 => (some (t219, false))))) = some (r1, r2) := by first | (rw [hy211]; with_reducible exact H) | (have H2_ := (Option.bind_some _ _).symm.trans H; rw [hy211]; with_reducible exact H2_) | (have H2_ := (Option.bind_some _ _).symm.trans H; with_reducible exact H2_) | with_reducible exact H | (rw [hy211]; exact H) | exact H
    have Ny211 := Aside0.mk hy211
    clear hy211
    replace H := Option.bind_eq_some_iff.mp H
    obtain ⟨t214, A50, H⟩ := H
    (try dsimp only at H)
    have A5 := Aside0.mk A50
    clear A50
    by_cases c6 : t214 = true
    · subst c6
      rw [if_pos rfl] at H
      replace H := Option.bind_eq_some_iff.mp H
      obtain ⟨t215, A70, H⟩ := H
      (try dsimp only at H)
      have A7 := Aside0.mk A70
      clear A70
      by_cases c8 : t215 = true
      · subst c8
        rw [if_pos rfl] at H
        simp only [Option.some.injEq, Prod.mk.injEq] at H
        obtain ⟨rfl, rfl⟩ := H
        go_enter Try.func16, Try.ntmps16
        try go_wp2_with (first | ((with_reducible refine gate_dst (N := 3) rfl ?_); refine box_event ?hg (N := 3) ?hd (cs := #[.int .i64 a1_0, .int .i64 a1_1, .int .i64 a1_2, .int .i64 a1_3]) (t := 36) ?hr ?_; (case hd => rfl); (case hg => rfl); (case hr => first | (go_simp; done) | (go_simp; rfl)); intro gb204 hg w9 hbox hb; have n0_ := Aside0.mk (below_step (oB HB) hb); have n1_ := Aside0.mk (hbox); have n2_ := Aside0.mk ((by rw [hg]; exact (below_size (oB HB)) : w.heap.size ≤ gb204)); have n3_ := Aside0.mk ((by rw [hg]; exact (below_size (oB HB)) : w.heap.size ≤ gb204)); clear HB; have HB := n0_; have BK204 := n1_; have GW204 := n2_; have GE204 := n3_; clear n0_ n1_ n2_ n3_; clear hb hbox hg))
        have n0_ := Aside0.mk (blk_drew BK204.out)
        have n1_ := Aside0.mk (below_drew1 HB.out)
        clear BK204
        clear HB
        have BK204 := n0_
        have HB := n1_
        clear n0_ n1_
        refine start_ (n := 6) (S := fun w' => w'.cell? ⟨gb204, 0, none⟩ = some (.int .i64 a1_0) ∧ w'.cell? ⟨gb204, 1, none⟩ = some (.int .i64 a1_1) ∧ w'.cell? ⟨gb204, 2, none⟩ = some (.int .i64 a1_2) ∧ w'.cell? ⟨gb204, 3, none⟩ = some (.int .i64 a1_3)) (ds := []) #[false, false, false, false, false, false] (by kernel_rfl) rfl rfl ⟨(blk_cell BK204.out 0).trans rfl, (blk_cell BK204.out 1).trans rfl, (blk_cell BK204.out 2).trans rfl, (blk_cell BK204.out 3).trans rfl⟩ (fun hHeld => ?_)
        generalize w9.drew = w10 at BK204 HB hHeld ⊢
        refine pure_ (i := 0) (N := some 7) (v := ?_) (a' := ?_) #[true, false, false, false, false, false] rfl rfl (by kernel_rfl) (fun _ _ _ h => h) (Or.inl ⟨by rfl, ?_⟩) ?_ ?_
        rotate_left
        · intro w'
          go_simp
          with_reducible rfl
        rotate_left
        · simp only [Act.put, List.setIfInBounds_toArray, List.set_cons_zero, List.set_cons_succ, i64_w, i32_w]
          rfl
        refine take_ (i := 2) (N := some 9) (v := ?_) (a' := ?_) #[true, false, true, false, false, false] rfl rfl (by kernel_rfl) (fun _ _ _ h => h) (Or.inl ⟨by rfl, ?_⟩) hHeld ?_ ?_
        rotate_left
        · rintro w' ⟨s0, s1, s2, s3⟩
          go_simp
          with_reducible rfl
        rotate_left
        · simp only [Act.put, List.setIfInBounds_toArray, List.set_cons_zero, List.set_cons_succ, i64_w, i32_w]
          rfl
        refine join_ (σ := Value × Value) 2 #[true, true, true, true, false, false] (fun s_ => [(8, s_.1), (10, s_.2)]) (fun s_ w' => (w'.cell? ⟨gb204, 0, none⟩ = some (.int .i64 a1_0) ∧ w'.cell? ⟨gb204, 1, none⟩ = some (.int .i64 a1_1) ∧ w'.cell? ⟨gb204, 2, none⟩ = some (.int .i64 a1_2) ∧ w'.cell? ⟨gb204, 3, none⟩ = some (.int .i64 a1_3)) ∧ (Kd.R k36 36 w' w.heap.size (fun k_ => some k_ ≠ (s_.2 : Value).ownBlock ∧ k_ ≠ gb204) s_.1 t205) ∧ (Kd.R k36 36 w' w.heap.size (fun k_ => some k_ ≠ (s_.1 : Value).ownBlock ∧ k_ ≠ gb204) s_.2 y208) ∧ (w'.heap[gb204]? = some (.cells #[.int .i64 a1_0, .int .i64 a1_1, .int .i64 a1_2, .int .i64 a1_3] 36 (0, 0))) ∧ (Below w.heap.size w w')) ?_ ?_
        rotate_left
        · intro hCont
          refine two_ (i := 1) (j := 3) (Ni := some 8) (Nj := some 10) #[true, true, true, false, false, false] #[true, false, true, true, false, false] rfl rfl rfl rfl (by kernel_rfl) (by decide) (by decide) (fun K hK => ?_) (fun K hK => ?_)
          · skip
            refine goes_ Try.func44 (by kernel_rfl) rfl #[.slice A0 l0.length c0] (by rfl) rfl rfl (by (try simp only [List.map_toArray, List.map_cons, List.map_nil]); first | done | rfl | (simp only [List.length_drop, List.length_take]; rfl)) ?_
            with_reducible refine (impl_copyLog.calls _ _ l0 t205 _ ?side1 ?side2 A3.out).mono ?_
            (case side1 => exact oc_ HR0.out)
            (case side2 => exact HC0.out)
            rintro e w11 ⟨v206, rfl, ho0, hb⟩
            refine ⟨_, rfl, ?_⟩
            have n0_ := Aside0.mk (Kd.R_lower (Kd.R_newB ho0 (g := gb204) (o := .cells #[.int .i64 a1_0, .int .i64 a1_1, .int .i64 a1_2, .int .i64 a1_3] 36 (0, 0)) (oK BK204)) (below_size (oB HB)))
            have n1_ := Aside0.mk (blk_below (g := gb204) (o := .cells #[.int .i64 a1_0, .int .i64 a1_1, .int .i64 a1_2, .int .i64 a1_3] 36 (0, 0)) (oK BK204) hb)
            have n2_ := Aside0.mk (below_step (oB HB) hb)
            clear BK204
            clear HB
            have HO207 := n0_
            have BK204 := n1_
            have HB := n2_
            clear n0_ n1_ n2_
            (try clear hb)
            (try clear hb2)
            (try clear hk)
            (try clear hi)
            (try clear ho0)
            refine hK.out _ _ ⟨(blk_cell BK204.out 0).trans rfl, (blk_cell BK204.out 1).trans rfl, (blk_cell BK204.out 2).trans rfl, (blk_cell BK204.out 3).trans rfl⟩ (fun hHeld => ?_)
            clear hK K
            refine norm_ (a' := ?_) ?_ ?_
            rotate_left
            · show Act.put _ (some 8) _ = _
              simp only [Act.put, List.setIfInBounds_toArray, List.set_cons_zero, List.set_cons_succ, i64_w, i32_w]
              rfl
            refine one_ (i := 3) (N := some 10) #[true, true, true, true, false, false] rfl rfl (by kernel_rfl) (by decide) (fun K hK => ?_)
            refine Kd.R_lit_step k36 _ 36 ?hg (N := 10) ?hd (xs := ([(⟨(⟨a1_0, a1_1⟩ : S31), a1_2, a1_3⟩ : S36)] : List (S36))) (inner := [.int .i64 a1_0, .int .i64 a1_1, .int .i64 a1_2, .int .i64 a1_3]) (ok := fun _ => True) (okp := fun _ => True) ?hr ?hp (fun _ hk => hk) trivial (Below.refl _ _) (Nat.le_refl _) (by simp) ?_; (case hd => rfl); (case hg => rfl); (case hr => first | (go_simp; done) | (go_simp; rfl)); (case hp => exact (Reps.c4 (show Kd.M k36 _ _ _ (⟨(⟨a1_0, a1_1⟩ : S31), a1_2, a1_3⟩ : S36) [.int .i64 a1_0, .int .i64 a1_1, .int .i64 a1_2, .int .i64 a1_3] from (k36_mkM _ _ _ (⟨(⟨a1_0, a1_1⟩ : S31), a1_2, a1_3⟩ : S36) )) (Reps.none _ _)))
            intro v209 w12 ho13 hb hg_ hnew_
            clear hg_ hnew_
            (first | rw [← Ny208.out] at ho13 | (simp only [Int.reduceToNat] at ho13; rw [← Ny208.out] at ho13))
            have n0_ := Aside0.mk (Kd.R_elder' (oR HO207) (Kd.R_base ho13) hb)
            have n1_ := Aside0.mk (Kd.R_lower (Kd.R_newB (Kd.R_new' ho13 (Kd.R_lt (oR HO207))) (g := gb204) (o := .cells #[.int .i64 a1_0, .int .i64 a1_1, .int .i64 a1_2, .int .i64 a1_3] 36 (0, 0)) (oK BK204)) (below_size (oB HB)))
            have n2_ := Aside0.mk (blk_below (g := gb204) (o := .cells #[.int .i64 a1_0, .int .i64 a1_1, .int .i64 a1_2, .int .i64 a1_3] 36 (0, 0)) (oK BK204) hb)
            have n3_ := Aside0.mk (below_step (oB HB) hb)
            clear HO207
            clear BK204
            clear HB
            have HO207 := n0_
            have HO210 := n1_
            have BK204 := n2_
            have HB := n3_
            clear n0_ n1_ n2_ n3_
            clear hb ho13
            refine hK.out _ _ ⟨(blk_cell BK204.out 0).trans rfl, (blk_cell BK204.out 1).trans rfl, (blk_cell BK204.out 2).trans rfl, (blk_cell BK204.out 3).trans rfl⟩ (fun hHeld => ?_)
            clear hK K
            refine norm_ (a' := ?_) ?_ ?_
            rotate_left
            · show Act.put _ (some 10) _ = _
              simp only [Act.put, List.setIfInBounds_toArray, List.set_cons_zero, List.set_cons_succ, i64_w, i32_w]
              rfl
            exact norm_ (by simp only [putAll, Act.put, List.setIfInBounds_toArray, List.set_cons_zero, List.set_cons_succ]) (hCont (v206, v209) _ ⟨hHeld, (by (with_reducible repeat (first | apply Kd.R_alloc | apply Kd.R_drewN | apply Kd.R_drew)); exact Kd.R_mono HO207.out (fun _ hk => ⟨hk.2, hk.1.2⟩)), (by (with_reducible repeat (first | apply Kd.R_alloc | apply Kd.R_drewN | apply Kd.R_drew)); exact Kd.R_mono HO210.out (fun _ hk => ⟨hk.1.2, hk.2⟩)), (oK BK204), (oB HB)⟩)
          · skip
            refine Kd.R_lit_step k36 _ 36 ?hg (N := 10) ?hd (xs := ([(⟨(⟨a1_0, a1_1⟩ : S31), a1_2, a1_3⟩ : S36)] : List (S36))) (inner := [.int .i64 a1_0, .int .i64 a1_1, .int .i64 a1_2, .int .i64 a1_3]) (ok := fun _ => True) (okp := fun _ => True) ?hr ?hp (fun _ hk => hk) trivial (Below.refl _ _) (Nat.le_refl _) (by simp) ?_; (case hd => rfl); (case hg => rfl); (case hr => first | (go_simp; done) | (go_simp; rfl)); (case hp => exact (Reps.c4 (show Kd.M k36 _ _ _ (⟨(⟨a1_0, a1_1⟩ : S31), a1_2, a1_3⟩ : S36) [.int .i64 a1_0, .int .i64 a1_1, .int .i64 a1_2, .int .i64 a1_3] from (k36_mkM _ _ _ (⟨(⟨a1_0, a1_1⟩ : S31), a1_2, a1_3⟩ : S36) )) (Reps.none _ _)))
            intro v209 w11 ho12 hb hg_ hnew_
            clear hg_ hnew_
            (first | rw [← Ny208.out] at ho12 | (simp only [Int.reduceToNat] at ho12; rw [← Ny208.out] at ho12))
            have n0_ := Aside0.mk (Kd.R_lower (Kd.R_newB ho12 (g := gb204) (o := .cells #[.int .i64 a1_0, .int .i64 a1_1, .int .i64 a1_2, .int .i64 a1_3] 36 (0, 0)) (oK BK204)) (below_size (oB HB)))
            have n1_ := Aside0.mk (blk_below (g := gb204) (o := .cells #[.int .i64 a1_0, .int .i64 a1_1, .int .i64 a1_2, .int .i64 a1_3] 36 (0, 0)) (oK BK204) hb)
            have n2_ := Aside0.mk (below_step (oB HB) hb)
            clear BK204
            clear HB
            have HO210 := n0_
            have BK204 := n1_
            have HB := n2_
            clear n0_ n1_ n2_
            clear hb ho12
            refine hK.out _ _ ⟨(blk_cell BK204.out 0).trans rfl, (blk_cell BK204.out 1).trans rfl, (blk_cell BK204.out 2).trans rfl, (blk_cell BK204.out 3).trans rfl⟩ (fun hHeld => ?_)
            clear hK K
            refine norm_ (a' := ?_) ?_ ?_
            rotate_left
            · show Act.put _ (some 10) _ = _
              simp only [Act.put, List.setIfInBounds_toArray, List.set_cons_zero, List.set_cons_succ, i64_w, i32_w]
              rfl
            refine one_ (i := 1) (N := some 8) #[true, true, true, true, false, false] rfl rfl (by kernel_rfl) (by decide) (fun K hK => ?_)
            refine goes_ Try.func44 (by kernel_rfl) rfl #[.slice A0 l0.length c0] (by rfl) rfl rfl (by (try simp only [List.map_toArray, List.map_cons, List.map_nil]); first | done | rfl | (simp only [List.length_drop, List.length_take]; rfl)) ?_
            with_reducible refine (impl_copyLog.calls _ _ l0 t205 _ ?side1 ?side2 A3.out).mono ?_
            (case side1 => exact oc_ HR0.out)
            (case side2 => exact HC0.out)
            rintro e w13 ⟨v206, rfl, ho0, hb⟩
            refine ⟨_, rfl, ?_⟩
            have n0_ := Aside0.mk (Kd.R_elder' (oR HO210) (Kd.R_base ho0) hb)
            have n1_ := Aside0.mk (Kd.R_lower (Kd.R_newB (Kd.R_new' ho0 (Kd.R_lt (oR HO210))) (g := gb204) (o := .cells #[.int .i64 a1_0, .int .i64 a1_1, .int .i64 a1_2, .int .i64 a1_3] 36 (0, 0)) (oK BK204)) (below_size (oB HB)))
            have n2_ := Aside0.mk (blk_below (g := gb204) (o := .cells #[.int .i64 a1_0, .int .i64 a1_1, .int .i64 a1_2, .int .i64 a1_3] 36 (0, 0)) (oK BK204) hb)
            have n3_ := Aside0.mk (below_step (oB HB) hb)
            clear HO210
            clear BK204
            clear HB
            have HO210 := n0_
            have HO207 := n1_
            have BK204 := n2_
            have HB := n3_
            clear n0_ n1_ n2_ n3_
            (try clear hb)
            (try clear hb2)
            (try clear hk)
            (try clear hi)
            (try clear ho0)
            refine hK.out _ _ ⟨(blk_cell BK204.out 0).trans rfl, (blk_cell BK204.out 1).trans rfl, (blk_cell BK204.out 2).trans rfl, (blk_cell BK204.out 3).trans rfl⟩ (fun hHeld => ?_)
            clear hK K
            refine norm_ (a' := ?_) ?_ ?_
            rotate_left
            · show Act.put _ (some 8) _ = _
              simp only [Act.put, List.setIfInBounds_toArray, List.set_cons_zero, List.set_cons_succ, i64_w, i32_w]
              rfl
            exact norm_ (by simp only [putAll, Act.put, List.setIfInBounds_toArray, List.set_cons_zero, List.set_cons_succ]) (hCont (v206, v209) _ ⟨hHeld, (by (with_reducible repeat (first | apply Kd.R_alloc | apply Kd.R_drewN | apply Kd.R_drew)); exact Kd.R_mono HO207.out (fun _ hk => ⟨hk.1.2, hk.2⟩)), (by (with_reducible repeat (first | apply Kd.R_alloc | apply Kd.R_drewN | apply Kd.R_drew)); exact Kd.R_mono HO210.out (fun _ hk => ⟨hk.2, hk.1.2⟩)), (oK BK204), (oB HB)⟩)
        rintro ⟨v206, v209⟩ w14 ⟨hS_, h0_, h1_, h2_, h3_⟩
        have n0_ : Aside0 (Kd.R k36 36 w14 w.heap.size (fun k_ => some k_ ≠ (v209 : Value).ownBlock ∧ k_ ≠ gb204) v206 t205) := ⟨h0_⟩
        have n1_ : Aside0 (Kd.R k36 36 w14 w.heap.size (fun k_ => some k_ ≠ (v206 : Value).ownBlock ∧ k_ ≠ gb204) v209 y208) := ⟨h1_⟩
        have n2_ : Aside0 (w14.heap[gb204]? = some (.cells #[.int .i64 a1_0, .int .i64 a1_1, .int .i64 a1_2, .int .i64 a1_3] 36 (0, 0))) := ⟨h2_⟩
        have n3_ : Aside0 (Below w.heap.size w w14) := ⟨h3_⟩
        clear BK204
        clear HB
        clear h0_ h1_ h2_ h3_
        have HO207 := n0_
        have HO210 := n1_
        have BK204 := n2_
        have HB := n3_
        clear n0_ n1_ n2_ n3_
        have hHeld : w14.cell? ⟨gb204, 0, none⟩ = some (.int .i64 a1_0) ∧ w14.cell? ⟨gb204, 1, none⟩ = some (.int .i64 a1_1) ∧ w14.cell? ⟨gb204, 2, none⟩ = some (.int .i64 a1_2) ∧ w14.cell? ⟨gb204, 3, none⟩ = some (.int .i64 a1_3) := hS_
        obtain ⟨Ao16, co16, eo16⟩ := Kd.R_slice HO210.out
        (first | subst eo16 | (injection eo16 with f1_ f2_ f3_; have f4_ := f1_.symm; have f5_ := f3_.symm; clear f1_ f2_ f3_; subst f4_; subst f5_))
        refine norm_ (a' := ?_) ?_ ?_
        rotate_left
        · simp only [putAll, Act.put, List.setIfInBounds_toArray, List.set_cons_zero, List.set_cons_succ]
          rfl
        refine one_ (i := 4) (N := some 11) #[true, true, true, true, true, false] rfl rfl (by kernel_rfl) (by decide) (fun K hK => ?_)
        refine Kd.R_append_rows_step k36 (w0 := w) w.heap.size (by rfl) (.tmp 8) (.tmp 10) 24 36 (.agg #[(.int .i64 0), (.int .i64 0), (.int .i64 0), (.int .i64 0)]) 32 rfl Try.underlying24 info36 rfl (by decide) (by omega) v206 t205 y208 _ _ _ (fun k_ => some k_ ≠ (.slice Ao16 y208.length co16 : Value).ownBlock ∧ k_ ≠ gb204) (fun _ => False) rfl rfl ?aO ?aR (fun _ _ h => h) (fun _ h => h.elim) ?aF ?aB ?aS ?aL ?_
        (case aR => repeat (first | exact (Kd.R_reads' HO210.out).2.2 | (with_reducible refine Kd.C_alloc ?_ _) | (with_reducible refine Kd.C_drewN ?_ _) | (with_reducible refine Kd.C_drew ?_)))
        (case aB => exact (oB HB))
        (case aF => exact (fun k_ hk => ⟨Kd.fresh' (Kd.R_lt (oR HO210)) k_ hk, Kd.freshB (g := gb204) (o := .cells #[.int .i64 a1_0, .int .i64 a1_1, .int .i64 a1_2, .int .i64 a1_3] 36 (0, 0)) (oK BK204) k_ hk⟩))
        (case aO => exact (oR HO207))
        (case aS => exact (below_size (oB HB)))
        (case aL => have := LMc4.out; omega)
        intro v212 w15 ho hb hg hat
        rw [← Ny211.out] at ho
        have n0_ := Aside0.mk (blk_grown (g := gb204) (o := .cells #[.int .i64 a1_0, .int .i64 a1_1, .int .i64 a1_2, .int .i64 a1_3] 36 (0, 0)) (oK BK204) hg (Kd.R_away HO207.out (fun _ hk => hk.2)))
        have n1_ := Aside0.mk (Kd.R_after (ok := (fun k_ => k_ ≠ gb204)) (by (with_reducible repeat (first | apply Kd.R_alloc | apply Kd.R_drewN | apply Kd.R_drew)); exact Kd.R_mono HO210.out (fun _ hk => ⟨hk.2, hk.1⟩)) hg hat)
        have n2_ := Aside0.mk (hb)
        have n3_ := Aside0.mk (ho)
        clear BK204
        clear HO210
        clear HB
        clear HO207
        have BK204 := n0_
        have HO210 := n1_
        have HB := n2_
        have HO213 := n3_
        clear n0_ n1_ n2_ n3_
        clear ho hb hg hat
        refine hK.out _ _ ⟨(blk_cell BK204.out 0).trans rfl, (blk_cell BK204.out 1).trans rfl, (blk_cell BK204.out 2).trans rfl, (blk_cell BK204.out 3).trans rfl⟩ (fun hHeld => ?_)
        clear hK K
        refine norm_ (a' := ?_) ?_ ?_
        rotate_left
        · show Act.put _ (some 11) _ = _
          simp only [Act.put, List.setIfInBounds_toArray, List.set_cons_zero, List.set_cons_succ, i64_w, i32_w]
          rfl
        refine pure_ (i := 5) (N := some 6) (v := ?_) (a' := ?_) #[true, true, true, true, true, true] rfl rfl (by kernel_rfl) (fun _ _ _ h => h) (Or.inl ⟨by rfl, ?_⟩) ?_ ?_
        rotate_left
        · intro w'
          go_simp
          with_reducible rfl
        rotate_left
        · simp only [Act.put, List.setIfInBounds_toArray, List.set_cons_zero, List.set_cons_succ, i64_w, i32_w]
          rfl
        refine done_ (by kernel_rfl) ?_
        try go_wp2_with (first | ((with_reducible refine gate_callee (f := 18) rfl ?_); refine goesL_ (some 13) rfl rfl Try.func18 (by kernel_rfl) rfl #[.slice A0 l0.length c0] rfl (by (try simp only [List.map_toArray, List.map_cons, List.map_nil]); first | done | rfl | (simp only [List.length_drop, List.length_take]; rfl)) ?_; (with_reducible refine (impl_LogOk.calls k _ _ l0 true _ ?side1 ?side2 A5.out).mono ?_); (case side1 => exact oc_ HR0.out); (case side2 => exact HC0.out); rintro e w17 ⟨rfl, hb⟩; refine ⟨_, rfl, ?_⟩; have n0_ := Aside0.mk (Kd.R_below (oR HO210) hb); have n1_ := Aside0.mk (Kd.R_below (oR HO213) hb); have n2_ := Aside0.mk (blk_below (g := gb204) (o := .cells #[.int .i64 a1_0, .int .i64 a1_1, .int .i64 a1_2, .int .i64 a1_3] 36 (0, 0)) (oK BK204) hb); have n3_ := Aside0.mk (below_step (oB HB) hb); clear HO210; clear HO213; clear BK204; clear HB; have HO210 := n0_; have HO213 := n1_; have BK204 := n2_; have HB := n3_; clear n0_ n1_ n2_ n3_; (try clear hb); (try clear hb2); (try clear hk); (try clear hi); obtain ⟨Ao18, co18, eo18⟩ := Kd.R_slice HO213.out; subst eo18) | (go_at_call 18; (with_reducible refine (impl_LogOk.calls k _ _ y211 true _ ?side1 ?side2 A7.out).mono ?_); (case side1 => repeat (first | exact (Kd.R_reads' HO213.out).2.2 | (with_reducible refine Kd.C_alloc ?_ _) | (with_reducible refine Kd.C_drewN ?_ _) | (with_reducible refine Kd.C_drew ?_))); (case side2 => exact (Kd.R_reads' HO213.out).2.1); rintro e w19 ⟨rfl, hb⟩; have n0_ := Aside0.mk (Kd.R_below (oR HO210) hb); have n1_ := Aside0.mk (Kd.R_below (oR HO213) hb); have n2_ := Aside0.mk (blk_below (g := gb204) (o := .cells #[.int .i64 a1_0, .int .i64 a1_1, .int .i64 a1_2, .int .i64 a1_3] 36 (0, 0)) (oK BK204) hb); have n3_ := Aside0.mk (below_step (oB HB) hb); clear HO210; clear HO213; clear BK204; clear HB; have HO210 := n0_; have HO213 := n1_; have BK204 := n2_; have HB := n3_; clear n0_ n1_ n2_ n3_; (try clear hb); (try clear hb2); (try clear hk); (try clear hi)))
        go_ret2
        exact ⟨_, by first | rfl | (simp [errW_none, errW_some] <;> rfl) | (simp [*, errW_none, errW_some] <;> rfl), by (with_reducible repeat (first | apply Kd.R_alloc | apply Kd.R_drewN | apply Kd.R_drew)); exact Kd.R_mono HO213.out (fun _ hk => trivial), oB HB⟩
      · replace c8 := Bool.eq_false_iff.mpr c8
        subst c8
        rw [if_neg (show ¬ (false = true) by decide)] at H
        replace H := Option.bind_eq_some_iff.mp H
        obtain ⟨t216, A200, H⟩ := H
        (try dsimp only at H)
        have A20 := Aside0.mk A200
        clear A200
        simp only [Option.some.injEq, Prod.mk.injEq] at H
        obtain ⟨rfl, rfl⟩ := H
        go_enter Try.func16, Try.ntmps16
        try go_wp2_with (first | ((with_reducible refine gate_dst (N := 3) rfl ?_); refine box_event ?hg (N := 3) ?hd (cs := #[.int .i64 a1_0, .int .i64 a1_1, .int .i64 a1_2, .int .i64 a1_3]) (t := 36) ?hr ?_; (case hd => rfl); (case hg => rfl); (case hr => first | (go_simp; done) | (go_simp; rfl)); intro gb204 hg w21 hbox hb; have n0_ := Aside0.mk (below_step (oB HB) hb); have n1_ := Aside0.mk (hbox); have n2_ := Aside0.mk ((by rw [hg]; exact (below_size (oB HB)) : w.heap.size ≤ gb204)); have n3_ := Aside0.mk ((by rw [hg]; exact (below_size (oB HB)) : w.heap.size ≤ gb204)); clear HB; have HB := n0_; have BK204 := n1_; have GW204 := n2_; have GE204 := n3_; clear n0_ n1_ n2_ n3_; clear hb hbox hg))
        have n0_ := Aside0.mk (blk_drew BK204.out)
        have n1_ := Aside0.mk (below_drew1 HB.out)
        clear BK204
        clear HB
        have BK204 := n0_
        have HB := n1_
        clear n0_ n1_
        refine start_ (n := 6) (S := fun w' => w'.cell? ⟨gb204, 0, none⟩ = some (.int .i64 a1_0) ∧ w'.cell? ⟨gb204, 1, none⟩ = some (.int .i64 a1_1) ∧ w'.cell? ⟨gb204, 2, none⟩ = some (.int .i64 a1_2) ∧ w'.cell? ⟨gb204, 3, none⟩ = some (.int .i64 a1_3)) (ds := []) #[false, false, false, false, false, false] (by kernel_rfl) rfl rfl ⟨(blk_cell BK204.out 0).trans rfl, (blk_cell BK204.out 1).trans rfl, (blk_cell BK204.out 2).trans rfl, (blk_cell BK204.out 3).trans rfl⟩ (fun hHeld => ?_)
        generalize w21.drew = w22 at BK204 HB hHeld ⊢
        refine pure_ (i := 0) (N := some 7) (v := ?_) (a' := ?_) #[true, false, false, false, false, false] rfl rfl (by kernel_rfl) (fun _ _ _ h => h) (Or.inl ⟨by rfl, ?_⟩) ?_ ?_
        rotate_left
        · intro w'
          go_simp
          with_reducible rfl
        rotate_left
        · simp only [Act.put, List.setIfInBounds_toArray, List.set_cons_zero, List.set_cons_succ, i64_w, i32_w]
          rfl
        refine take_ (i := 2) (N := some 9) (v := ?_) (a' := ?_) #[true, false, true, false, false, false] rfl rfl (by kernel_rfl) (fun _ _ _ h => h) (Or.inl ⟨by rfl, ?_⟩) hHeld ?_ ?_
        rotate_left
        · rintro w' ⟨s0, s1, s2, s3⟩
          go_simp
          with_reducible rfl
        rotate_left
        · simp only [Act.put, List.setIfInBounds_toArray, List.set_cons_zero, List.set_cons_succ, i64_w, i32_w]
          rfl
        refine join_ (σ := Value × Value) 2 #[true, true, true, true, false, false] (fun s_ => [(8, s_.1), (10, s_.2)]) (fun s_ w' => (w'.cell? ⟨gb204, 0, none⟩ = some (.int .i64 a1_0) ∧ w'.cell? ⟨gb204, 1, none⟩ = some (.int .i64 a1_1) ∧ w'.cell? ⟨gb204, 2, none⟩ = some (.int .i64 a1_2) ∧ w'.cell? ⟨gb204, 3, none⟩ = some (.int .i64 a1_3)) ∧ (Kd.R k36 36 w' w.heap.size (fun k_ => some k_ ≠ (s_.2 : Value).ownBlock ∧ k_ ≠ gb204) s_.1 t205) ∧ (Kd.R k36 36 w' w.heap.size (fun k_ => some k_ ≠ (s_.1 : Value).ownBlock ∧ k_ ≠ gb204) s_.2 y208) ∧ (w'.heap[gb204]? = some (.cells #[.int .i64 a1_0, .int .i64 a1_1, .int .i64 a1_2, .int .i64 a1_3] 36 (0, 0))) ∧ (Below w.heap.size w w')) ?_ ?_
        rotate_left
        · intro hCont
          refine two_ (i := 1) (j := 3) (Ni := some 8) (Nj := some 10) #[true, true, true, false, false, false] #[true, false, true, true, false, false] rfl rfl rfl rfl (by kernel_rfl) (by decide) (by decide) (fun K hK => ?_) (fun K hK => ?_)
          · skip
            refine goes_ Try.func44 (by kernel_rfl) rfl #[.slice A0 l0.length c0] (by rfl) rfl rfl (by (try simp only [List.map_toArray, List.map_cons, List.map_nil]); first | done | rfl | (simp only [List.length_drop, List.length_take]; rfl)) ?_
            with_reducible refine (impl_copyLog.calls _ _ l0 t205 _ ?side1 ?side2 A3.out).mono ?_
            (case side1 => exact oc_ HR0.out)
            (case side2 => exact HC0.out)
            rintro e w23 ⟨v206, rfl, ho0, hb⟩
            refine ⟨_, rfl, ?_⟩
            have n0_ := Aside0.mk (Kd.R_lower (Kd.R_newB ho0 (g := gb204) (o := .cells #[.int .i64 a1_0, .int .i64 a1_1, .int .i64 a1_2, .int .i64 a1_3] 36 (0, 0)) (oK BK204)) (below_size (oB HB)))
            have n1_ := Aside0.mk (blk_below (g := gb204) (o := .cells #[.int .i64 a1_0, .int .i64 a1_1, .int .i64 a1_2, .int .i64 a1_3] 36 (0, 0)) (oK BK204) hb)
            have n2_ := Aside0.mk (below_step (oB HB) hb)
            clear BK204
            clear HB
            have HO207 := n0_
            have BK204 := n1_
            have HB := n2_
            clear n0_ n1_ n2_
            (try clear hb)
            (try clear hb2)
            (try clear hk)
            (try clear hi)
            (try clear ho0)
            refine hK.out _ _ ⟨(blk_cell BK204.out 0).trans rfl, (blk_cell BK204.out 1).trans rfl, (blk_cell BK204.out 2).trans rfl, (blk_cell BK204.out 3).trans rfl⟩ (fun hHeld => ?_)
            clear hK K
            refine norm_ (a' := ?_) ?_ ?_
            rotate_left
            · show Act.put _ (some 8) _ = _
              simp only [Act.put, List.setIfInBounds_toArray, List.set_cons_zero, List.set_cons_succ, i64_w, i32_w]
              rfl
            refine one_ (i := 3) (N := some 10) #[true, true, true, true, false, false] rfl rfl (by kernel_rfl) (by decide) (fun K hK => ?_)
            refine Kd.R_lit_step k36 _ 36 ?hg (N := 10) ?hd (xs := ([(⟨(⟨a1_0, a1_1⟩ : S31), a1_2, a1_3⟩ : S36)] : List (S36))) (inner := [.int .i64 a1_0, .int .i64 a1_1, .int .i64 a1_2, .int .i64 a1_3]) (ok := fun _ => True) (okp := fun _ => True) ?hr ?hp (fun _ hk => hk) trivial (Below.refl _ _) (Nat.le_refl _) (by simp) ?_; (case hd => rfl); (case hg => rfl); (case hr => first | (go_simp; done) | (go_simp; rfl)); (case hp => exact (Reps.c4 (show Kd.M k36 _ _ _ (⟨(⟨a1_0, a1_1⟩ : S31), a1_2, a1_3⟩ : S36) [.int .i64 a1_0, .int .i64 a1_1, .int .i64 a1_2, .int .i64 a1_3] from (k36_mkM _ _ _ (⟨(⟨a1_0, a1_1⟩ : S31), a1_2, a1_3⟩ : S36) )) (Reps.none _ _)))
            intro v209 w24 ho25 hb hg_ hnew_
            clear hg_ hnew_
            (first | rw [← Ny208.out] at ho25 | (simp only [Int.reduceToNat] at ho25; rw [← Ny208.out] at ho25))
            have n0_ := Aside0.mk (Kd.R_elder' (oR HO207) (Kd.R_base ho25) hb)
            have n1_ := Aside0.mk (Kd.R_lower (Kd.R_newB (Kd.R_new' ho25 (Kd.R_lt (oR HO207))) (g := gb204) (o := .cells #[.int .i64 a1_0, .int .i64 a1_1, .int .i64 a1_2, .int .i64 a1_3] 36 (0, 0)) (oK BK204)) (below_size (oB HB)))
            have n2_ := Aside0.mk (blk_below (g := gb204) (o := .cells #[.int .i64 a1_0, .int .i64 a1_1, .int .i64 a1_2, .int .i64 a1_3] 36 (0, 0)) (oK BK204) hb)
            have n3_ := Aside0.mk (below_step (oB HB) hb)
            clear HO207
            clear BK204
            clear HB
            have HO207 := n0_
            have HO210 := n1_
            have BK204 := n2_
            have HB := n3_
            clear n0_ n1_ n2_ n3_
            clear hb ho25
            refine hK.out _ _ ⟨(blk_cell BK204.out 0).trans rfl, (blk_cell BK204.out 1).trans rfl, (blk_cell BK204.out 2).trans rfl, (blk_cell BK204.out 3).trans rfl⟩ (fun hHeld => ?_)
            clear hK K
            refine norm_ (a' := ?_) ?_ ?_
            rotate_left
            · show Act.put _ (some 10) _ = _
              simp only [Act.put, List.setIfInBounds_toArray, List.set_cons_zero, List.set_cons_succ, i64_w, i32_w]
              rfl
            exact norm_ (by simp only [putAll, Act.put, List.setIfInBounds_toArray, List.set_cons_zero, List.set_cons_succ]) (hCont (v206, v209) _ ⟨hHeld, (by (with_reducible repeat (first | apply Kd.R_alloc | apply Kd.R_drewN | apply Kd.R_drew)); exact Kd.R_mono HO207.out (fun _ hk => ⟨hk.2, hk.1.2⟩)), (by (with_reducible repeat (first | apply Kd.R_alloc | apply Kd.R_drewN | apply Kd.R_drew)); exact Kd.R_mono HO210.out (fun _ hk => ⟨hk.1.2, hk.2⟩)), (oK BK204), (oB HB)⟩)
          · skip
            refine Kd.R_lit_step k36 _ 36 ?hg (N := 10) ?hd (xs := ([(⟨(⟨a1_0, a1_1⟩ : S31), a1_2, a1_3⟩ : S36)] : List (S36))) (inner := [.int .i64 a1_0, .int .i64 a1_1, .int .i64 a1_2, .int .i64 a1_3]) (ok := fun _ => True) (okp := fun _ => True) ?hr ?hp (fun _ hk => hk) trivial (Below.refl _ _) (Nat.le_refl _) (by simp) ?_; (case hd => rfl); (case hg => rfl); (case hr => first | (go_simp; done) | (go_simp; rfl)); (case hp => exact (Reps.c4 (show Kd.M k36 _ _ _ (⟨(⟨a1_0, a1_1⟩ : S31), a1_2, a1_3⟩ : S36) [.int .i64 a1_0, .int .i64 a1_1, .int .i64 a1_2, .int .i64 a1_3] from (k36_mkM _ _ _ (⟨(⟨a1_0, a1_1⟩ : S31), a1_2, a1_3⟩ : S36) )) (Reps.none _ _)))
            intro v209 w23 ho24 hb hg_ hnew_
            clear hg_ hnew_
            (first | rw [← Ny208.out] at ho24 | (simp only [Int.reduceToNat] at ho24; rw [← Ny208.out] at ho24))
            have n0_ := Aside0.mk (Kd.R_lower (Kd.R_newB ho24 (g := gb204) (o := .cells #[.int .i64 a1_0, .int .i64 a1_1, .int .i64 a1_2, .int .i64 a1_3] 36 (0, 0)) (oK BK204)) (below_size (oB HB)))
            have n1_ := Aside0.mk (blk_below (g := gb204) (o := .cells #[.int .i64 a1_0, .int .i64 a1_1, .int .i64 a1_2, .int .i64 a1_3] 36 (0, 0)) (oK BK204) hb)
            have n2_ := Aside0.mk (below_step (oB HB) hb)
            clear BK204
            clear HB
            have HO210 := n0_
            have BK204 := n1_
            have HB := n2_
            clear n0_ n1_ n2_
            clear hb ho24
            refine hK.out _ _ ⟨(blk_cell BK204.out 0).trans rfl, (blk_cell BK204.out 1).trans rfl, (blk_cell BK204.out 2).trans rfl, (blk_cell BK204.out 3).trans rfl⟩ (fun hHeld => ?_)
            clear hK K
            refine norm_ (a' := ?_) ?_ ?_
            rotate_left
            · show Act.put _ (some 10) _ = _
              simp only [Act.put, List.setIfInBounds_toArray, List.set_cons_zero, List.set_cons_succ, i64_w, i32_w]
              rfl
            refine one_ (i := 1) (N := some 8) #[true, true, true, true, false, false] rfl rfl (by kernel_rfl) (by decide) (fun K hK => ?_)
            refine goes_ Try.func44 (by kernel_rfl) rfl #[.slice A0 l0.length c0] (by rfl) rfl rfl (by (try simp only [List.map_toArray, List.map_cons, List.map_nil]); first | done | rfl | (simp only [List.length_drop, List.length_take]; rfl)) ?_
            with_reducible refine (impl_copyLog.calls _ _ l0 t205 _ ?side1 ?side2 A3.out).mono ?_
            (case side1 => exact oc_ HR0.out)
            (case side2 => exact HC0.out)
            rintro e w25 ⟨v206, rfl, ho0, hb⟩
            refine ⟨_, rfl, ?_⟩
            have n0_ := Aside0.mk (Kd.R_elder' (oR HO210) (Kd.R_base ho0) hb)
            have n1_ := Aside0.mk (Kd.R_lower (Kd.R_newB (Kd.R_new' ho0 (Kd.R_lt (oR HO210))) (g := gb204) (o := .cells #[.int .i64 a1_0, .int .i64 a1_1, .int .i64 a1_2, .int .i64 a1_3] 36 (0, 0)) (oK BK204)) (below_size (oB HB)))
            have n2_ := Aside0.mk (blk_below (g := gb204) (o := .cells #[.int .i64 a1_0, .int .i64 a1_1, .int .i64 a1_2, .int .i64 a1_3] 36 (0, 0)) (oK BK204) hb)
            have n3_ := Aside0.mk (below_step (oB HB) hb)
            clear HO210
            clear BK204
            clear HB
            have HO210 := n0_
            have HO207 := n1_
            have BK204 := n2_
            have HB := n3_
            clear n0_ n1_ n2_ n3_
            (try clear hb)
            (try clear hb2)
            (try clear hk)
            (try clear hi)
            (try clear ho0)
            refine hK.out _ _ ⟨(blk_cell BK204.out 0).trans rfl, (blk_cell BK204.out 1).trans rfl, (blk_cell BK204.out 2).trans rfl, (blk_cell BK204.out 3).trans rfl⟩ (fun hHeld => ?_)
            clear hK K
            refine norm_ (a' := ?_) ?_ ?_
            rotate_left
            · show Act.put _ (some 8) _ = _
              simp only [Act.put, List.setIfInBounds_toArray, List.set_cons_zero, List.set_cons_succ, i64_w, i32_w]
              rfl
            exact norm_ (by simp only [putAll, Act.put, List.setIfInBounds_toArray, List.set_cons_zero, List.set_cons_succ]) (hCont (v206, v209) _ ⟨hHeld, (by (with_reducible repeat (first | apply Kd.R_alloc | apply Kd.R_drewN | apply Kd.R_drew)); exact Kd.R_mono HO207.out (fun _ hk => ⟨hk.1.2, hk.2⟩)), (by (with_reducible repeat (first | apply Kd.R_alloc | apply Kd.R_drewN | apply Kd.R_drew)); exact Kd.R_mono HO210.out (fun _ hk => ⟨hk.2, hk.1.2⟩)), (oK BK204), (oB HB)⟩)
        rintro ⟨v206, v209⟩ w26 ⟨hS_, h0_, h1_, h2_, h3_⟩
        have n0_ : Aside0 (Kd.R k36 36 w26 w.heap.size (fun k_ => some k_ ≠ (v209 : Value).ownBlock ∧ k_ ≠ gb204) v206 t205) := ⟨h0_⟩
        have n1_ : Aside0 (Kd.R k36 36 w26 w.heap.size (fun k_ => some k_ ≠ (v206 : Value).ownBlock ∧ k_ ≠ gb204) v209 y208) := ⟨h1_⟩
        have n2_ : Aside0 (w26.heap[gb204]? = some (.cells #[.int .i64 a1_0, .int .i64 a1_1, .int .i64 a1_2, .int .i64 a1_3] 36 (0, 0))) := ⟨h2_⟩
        have n3_ : Aside0 (Below w.heap.size w w26) := ⟨h3_⟩
        clear BK204
        clear HB
        clear h0_ h1_ h2_ h3_
        have HO207 := n0_
        have HO210 := n1_
        have BK204 := n2_
        have HB := n3_
        clear n0_ n1_ n2_ n3_
        have hHeld : w26.cell? ⟨gb204, 0, none⟩ = some (.int .i64 a1_0) ∧ w26.cell? ⟨gb204, 1, none⟩ = some (.int .i64 a1_1) ∧ w26.cell? ⟨gb204, 2, none⟩ = some (.int .i64 a1_2) ∧ w26.cell? ⟨gb204, 3, none⟩ = some (.int .i64 a1_3) := hS_
        obtain ⟨Ao28, co28, eo28⟩ := Kd.R_slice HO210.out
        (first | subst eo28 | (injection eo28 with f1_ f2_ f3_; have f4_ := f1_.symm; have f5_ := f3_.symm; clear f1_ f2_ f3_; subst f4_; subst f5_))
        refine norm_ (a' := ?_) ?_ ?_
        rotate_left
        · simp only [putAll, Act.put, List.setIfInBounds_toArray, List.set_cons_zero, List.set_cons_succ]
          rfl
        refine one_ (i := 4) (N := some 11) #[true, true, true, true, true, false] rfl rfl (by kernel_rfl) (by decide) (fun K hK => ?_)
        refine Kd.R_append_rows_step k36 (w0 := w) w.heap.size (by rfl) (.tmp 8) (.tmp 10) 24 36 (.agg #[(.int .i64 0), (.int .i64 0), (.int .i64 0), (.int .i64 0)]) 32 rfl Try.underlying24 info36 rfl (by decide) (by omega) v206 t205 y208 _ _ _ (fun k_ => some k_ ≠ (.slice Ao28 y208.length co28 : Value).ownBlock ∧ k_ ≠ gb204) (fun _ => False) rfl rfl ?aO ?aR (fun _ _ h => h) (fun _ h => h.elim) ?aF ?aB ?aS ?aL ?_
        (case aR => repeat (first | exact (Kd.R_reads' HO210.out).2.2 | (with_reducible refine Kd.C_alloc ?_ _) | (with_reducible refine Kd.C_drewN ?_ _) | (with_reducible refine Kd.C_drew ?_)))
        (case aB => exact (oB HB))
        (case aF => exact (fun k_ hk => ⟨Kd.fresh' (Kd.R_lt (oR HO210)) k_ hk, Kd.freshB (g := gb204) (o := .cells #[.int .i64 a1_0, .int .i64 a1_1, .int .i64 a1_2, .int .i64 a1_3] 36 (0, 0)) (oK BK204) k_ hk⟩))
        (case aO => exact (oR HO207))
        (case aS => exact (below_size (oB HB)))
        (case aL => have := LMc4.out; omega)
        intro v212 w27 ho hb hg hat
        rw [← Ny211.out] at ho
        have n0_ := Aside0.mk (blk_grown (g := gb204) (o := .cells #[.int .i64 a1_0, .int .i64 a1_1, .int .i64 a1_2, .int .i64 a1_3] 36 (0, 0)) (oK BK204) hg (Kd.R_away HO207.out (fun _ hk => hk.2)))
        have n1_ := Aside0.mk (Kd.R_after (ok := (fun k_ => k_ ≠ gb204)) (by (with_reducible repeat (first | apply Kd.R_alloc | apply Kd.R_drewN | apply Kd.R_drew)); exact Kd.R_mono HO210.out (fun _ hk => ⟨hk.2, hk.1⟩)) hg hat)
        have n2_ := Aside0.mk (hb)
        have n3_ := Aside0.mk (ho)
        clear BK204
        clear HO210
        clear HB
        clear HO207
        have BK204 := n0_
        have HO210 := n1_
        have HB := n2_
        have HO213 := n3_
        clear n0_ n1_ n2_ n3_
        clear ho hb hg hat
        refine hK.out _ _ ⟨(blk_cell BK204.out 0).trans rfl, (blk_cell BK204.out 1).trans rfl, (blk_cell BK204.out 2).trans rfl, (blk_cell BK204.out 3).trans rfl⟩ (fun hHeld => ?_)
        clear hK K
        refine norm_ (a' := ?_) ?_ ?_
        rotate_left
        · show Act.put _ (some 11) _ = _
          simp only [Act.put, List.setIfInBounds_toArray, List.set_cons_zero, List.set_cons_succ, i64_w, i32_w]
          rfl
        refine pure_ (i := 5) (N := some 6) (v := ?_) (a' := ?_) #[true, true, true, true, true, true] rfl rfl (by kernel_rfl) (fun _ _ _ h => h) (Or.inl ⟨by rfl, ?_⟩) ?_ ?_
        rotate_left
        · intro w'
          go_simp
          with_reducible rfl
        rotate_left
        · simp only [Act.put, List.setIfInBounds_toArray, List.set_cons_zero, List.set_cons_succ, i64_w, i32_w]
          rfl
        refine done_ (by kernel_rfl) ?_
        try go_wp2_with (first | ((with_reducible refine gate_callee (f := 18) rfl ?_); refine goesL_ (some 13) rfl rfl Try.func18 (by kernel_rfl) rfl #[.slice A0 l0.length c0] rfl (by (try simp only [List.map_toArray, List.map_cons, List.map_nil]); first | done | rfl | (simp only [List.length_drop, List.length_take]; rfl)) ?_; (with_reducible refine (impl_LogOk.calls k _ _ l0 true _ ?side1 ?side2 A5.out).mono ?_); (case side1 => exact oc_ HR0.out); (case side2 => exact HC0.out); rintro e w29 ⟨rfl, hb⟩; refine ⟨_, rfl, ?_⟩; have n0_ := Aside0.mk (Kd.R_below (oR HO210) hb); have n1_ := Aside0.mk (Kd.R_below (oR HO213) hb); have n2_ := Aside0.mk (blk_below (g := gb204) (o := .cells #[.int .i64 a1_0, .int .i64 a1_1, .int .i64 a1_2, .int .i64 a1_3] 36 (0, 0)) (oK BK204) hb); have n3_ := Aside0.mk (below_step (oB HB) hb); clear HO210; clear HO213; clear BK204; clear HB; have HO210 := n0_; have HO213 := n1_; have BK204 := n2_; have HB := n3_; clear n0_ n1_ n2_ n3_; (try clear hb); (try clear hb2); (try clear hk); (try clear hi); obtain ⟨Ao30, co30, eo30⟩ := Kd.R_slice HO213.out; subst eo30) | (go_at_call 18; (with_reducible refine (impl_LogOk.calls k _ _ y211 false _ ?side1 ?side2 A7.out).mono ?_); (case side1 => repeat (first | exact (Kd.R_reads' HO213.out).2.2 | (with_reducible refine Kd.C_alloc ?_ _) | (with_reducible refine Kd.C_drewN ?_ _) | (with_reducible refine Kd.C_drew ?_))); (case side2 => exact (Kd.R_reads' HO213.out).2.1); rintro e w31 ⟨rfl, hb⟩; have n0_ := Aside0.mk (Kd.R_below (oR HO210) hb); have n1_ := Aside0.mk (Kd.R_below (oR HO213) hb); have n2_ := Aside0.mk (blk_below (g := gb204) (o := .cells #[.int .i64 a1_0, .int .i64 a1_1, .int .i64 a1_2, .int .i64 a1_3] 36 (0, 0)) (oK BK204) hb); have n3_ := Aside0.mk (below_step (oB HB) hb); clear HO210; clear HO213; clear BK204; clear HB; have HO210 := n0_; have HO213 := n1_; have BK204 := n2_; have HB := n3_; clear n0_ n1_ n2_ n3_; (try clear hb); (try clear hb2); (try clear hk); (try clear hi)) | ((with_reducible refine gate_callee (f := 44) rfl ?_); refine goesL_ (some 21) rfl rfl Try.func44 (by kernel_rfl) rfl #[.slice A0 l0.length c0] rfl (by (try simp only [List.map_toArray, List.map_cons, List.map_nil]); first | done | rfl | (simp only [List.length_drop, List.length_take]; rfl)) ?_; (with_reducible refine (impl_copyLog.calls _ _ l0 t216 _ ?side1 ?side2 A20.out).mono ?_); (case side1 => exact oc_ HR0.out); (case side2 => exact HC0.out); rintro e w32 ⟨v217, rfl, ho0, hb⟩; refine ⟨_, rfl, ?_⟩; have n0_ := Aside0.mk (Kd.R_elder' (oR HO210) (Kd.R_base ho0) hb); have n1_ := Aside0.mk (Kd.R_elder' (oR HO213) (Kd.R_base ho0) hb); have n2_ := Aside0.mk (Kd.R_lower (Kd.R_newB (Kd.R_new' (Kd.R_new' ho0 (Kd.R_lt (oR HO210))) (Kd.R_lt (oR HO213))) (g := gb204) (o := .cells #[.int .i64 a1_0, .int .i64 a1_1, .int .i64 a1_2, .int .i64 a1_3] 36 (0, 0)) (oK BK204)) (below_size (oB HB))); have n3_ := Aside0.mk (blk_below (g := gb204) (o := .cells #[.int .i64 a1_0, .int .i64 a1_1, .int .i64 a1_2, .int .i64 a1_3] 36 (0, 0)) (oK BK204) hb); have n4_ := Aside0.mk (below_step (oB HB) hb); clear HO210; clear HO213; clear BK204; clear HB; have HO210 := n0_; have HO213 := n1_; have HO218 := n2_; have BK204 := n3_; have HB := n4_; clear n0_ n1_ n2_ n3_ n4_; (try clear hb); (try clear hb2); (try clear hk); (try clear hi); (try clear ho0)))
        go_ret2
        exact ⟨_, by first | rfl | (simp [errW_none, errW_some] <;> rfl) | (simp [*, errW_none, errW_some] <;> rfl), by (with_reducible repeat (first | apply Kd.R_alloc | apply Kd.R_drewN | apply Kd.R_drew)); exact Kd.R_mono HO218.out (fun _ hk => trivial), oB HB⟩
    · replace c6 := Bool.eq_false_iff.mpr c6
      subst c6
      rw [if_neg (show ¬ (false = true) by decide)] at H
      replace H := Option.bind_eq_some_iff.mp H
      obtain ⟨t219, A330, H⟩ := H
      (try dsimp only at H)
      have A33 := Aside0.mk A330
      clear A330
      simp only [Option.some.injEq, Prod.mk.injEq] at H
      obtain ⟨rfl, rfl⟩ := H
      go_enter Try.func16, Try.ntmps16
      try go_wp2_with (first | ((with_reducible refine gate_dst (N := 3) rfl ?_); refine box_event ?hg (N := 3) ?hd (cs := #[.int .i64 a1_0, .int .i64 a1_1, .int .i64 a1_2, .int .i64 a1_3]) (t := 36) ?hr ?_; (case hd => rfl); (case hg => rfl); (case hr => first | (go_simp; done) | (go_simp; rfl)); intro gb204 hg w34 hbox hb; have n0_ := Aside0.mk (below_step (oB HB) hb); have n1_ := Aside0.mk (hbox); have n2_ := Aside0.mk ((by rw [hg]; exact (below_size (oB HB)) : w.heap.size ≤ gb204)); have n3_ := Aside0.mk ((by rw [hg]; exact (below_size (oB HB)) : w.heap.size ≤ gb204)); clear HB; have HB := n0_; have BK204 := n1_; have GW204 := n2_; have GE204 := n3_; clear n0_ n1_ n2_ n3_; clear hb hbox hg))
      have n0_ := Aside0.mk (blk_drew BK204.out)
      have n1_ := Aside0.mk (below_drew1 HB.out)
      clear BK204
      clear HB
      have BK204 := n0_
      have HB := n1_
      clear n0_ n1_
      refine start_ (n := 6) (S := fun w' => w'.cell? ⟨gb204, 0, none⟩ = some (.int .i64 a1_0) ∧ w'.cell? ⟨gb204, 1, none⟩ = some (.int .i64 a1_1) ∧ w'.cell? ⟨gb204, 2, none⟩ = some (.int .i64 a1_2) ∧ w'.cell? ⟨gb204, 3, none⟩ = some (.int .i64 a1_3)) (ds := []) #[false, false, false, false, false, false] (by kernel_rfl) rfl rfl ⟨(blk_cell BK204.out 0).trans rfl, (blk_cell BK204.out 1).trans rfl, (blk_cell BK204.out 2).trans rfl, (blk_cell BK204.out 3).trans rfl⟩ (fun hHeld => ?_)
      generalize w34.drew = w35 at BK204 HB hHeld ⊢
      refine pure_ (i := 0) (N := some 7) (v := ?_) (a' := ?_) #[true, false, false, false, false, false] rfl rfl (by kernel_rfl) (fun _ _ _ h => h) (Or.inl ⟨by rfl, ?_⟩) ?_ ?_
      rotate_left
      · intro w'
        go_simp
        with_reducible rfl
      rotate_left
      · simp only [Act.put, List.setIfInBounds_toArray, List.set_cons_zero, List.set_cons_succ, i64_w, i32_w]
        rfl
      refine take_ (i := 2) (N := some 9) (v := ?_) (a' := ?_) #[true, false, true, false, false, false] rfl rfl (by kernel_rfl) (fun _ _ _ h => h) (Or.inl ⟨by rfl, ?_⟩) hHeld ?_ ?_
      rotate_left
      · rintro w' ⟨s0, s1, s2, s3⟩
        go_simp
        with_reducible rfl
      rotate_left
      · simp only [Act.put, List.setIfInBounds_toArray, List.set_cons_zero, List.set_cons_succ, i64_w, i32_w]
        rfl
      refine join_ (σ := Value × Value) 2 #[true, true, true, true, false, false] (fun s_ => [(8, s_.1), (10, s_.2)]) (fun s_ w' => (w'.cell? ⟨gb204, 0, none⟩ = some (.int .i64 a1_0) ∧ w'.cell? ⟨gb204, 1, none⟩ = some (.int .i64 a1_1) ∧ w'.cell? ⟨gb204, 2, none⟩ = some (.int .i64 a1_2) ∧ w'.cell? ⟨gb204, 3, none⟩ = some (.int .i64 a1_3)) ∧ (Kd.R k36 36 w' w.heap.size (fun k_ => some k_ ≠ (s_.2 : Value).ownBlock ∧ k_ ≠ gb204) s_.1 t205) ∧ (Kd.R k36 36 w' w.heap.size (fun k_ => some k_ ≠ (s_.1 : Value).ownBlock ∧ k_ ≠ gb204) s_.2 y208) ∧ (w'.heap[gb204]? = some (.cells #[.int .i64 a1_0, .int .i64 a1_1, .int .i64 a1_2, .int .i64 a1_3] 36 (0, 0))) ∧ (Below w.heap.size w w')) ?_ ?_
      rotate_left
      · intro hCont
        refine two_ (i := 1) (j := 3) (Ni := some 8) (Nj := some 10) #[true, true, true, false, false, false] #[true, false, true, true, false, false] rfl rfl rfl rfl (by kernel_rfl) (by decide) (by decide) (fun K hK => ?_) (fun K hK => ?_)
        · skip
          refine goes_ Try.func44 (by kernel_rfl) rfl #[.slice A0 l0.length c0] (by rfl) rfl rfl (by (try simp only [List.map_toArray, List.map_cons, List.map_nil]); first | done | rfl | (simp only [List.length_drop, List.length_take]; rfl)) ?_
          with_reducible refine (impl_copyLog.calls _ _ l0 t205 _ ?side1 ?side2 A3.out).mono ?_
          (case side1 => exact oc_ HR0.out)
          (case side2 => exact HC0.out)
          rintro e w36 ⟨v206, rfl, ho0, hb⟩
          refine ⟨_, rfl, ?_⟩
          have n0_ := Aside0.mk (Kd.R_lower (Kd.R_newB ho0 (g := gb204) (o := .cells #[.int .i64 a1_0, .int .i64 a1_1, .int .i64 a1_2, .int .i64 a1_3] 36 (0, 0)) (oK BK204)) (below_size (oB HB)))
          have n1_ := Aside0.mk (blk_below (g := gb204) (o := .cells #[.int .i64 a1_0, .int .i64 a1_1, .int .i64 a1_2, .int .i64 a1_3] 36 (0, 0)) (oK BK204) hb)
          have n2_ := Aside0.mk (below_step (oB HB) hb)
          clear BK204
          clear HB
          have HO207 := n0_
          have BK204 := n1_
          have HB := n2_
          clear n0_ n1_ n2_
          (try clear hb)
          (try clear hb2)
          (try clear hk)
          (try clear hi)
          (try clear ho0)
          refine hK.out _ _ ⟨(blk_cell BK204.out 0).trans rfl, (blk_cell BK204.out 1).trans rfl, (blk_cell BK204.out 2).trans rfl, (blk_cell BK204.out 3).trans rfl⟩ (fun hHeld => ?_)
          clear hK K
          refine norm_ (a' := ?_) ?_ ?_
          rotate_left
          · show Act.put _ (some 8) _ = _
            simp only [Act.put, List.setIfInBounds_toArray, List.set_cons_zero, List.set_cons_succ, i64_w, i32_w]
            rfl
          refine one_ (i := 3) (N := some 10) #[true, true, true, true, false, false] rfl rfl (by kernel_rfl) (by decide) (fun K hK => ?_)
          refine Kd.R_lit_step k36 _ 36 ?hg (N := 10) ?hd (xs := ([(⟨(⟨a1_0, a1_1⟩ : S31), a1_2, a1_3⟩ : S36)] : List (S36))) (inner := [.int .i64 a1_0, .int .i64 a1_1, .int .i64 a1_2, .int .i64 a1_3]) (ok := fun _ => True) (okp := fun _ => True) ?hr ?hp (fun _ hk => hk) trivial (Below.refl _ _) (Nat.le_refl _) (by simp) ?_; (case hd => rfl); (case hg => rfl); (case hr => first | (go_simp; done) | (go_simp; rfl)); (case hp => exact (Reps.c4 (show Kd.M k36 _ _ _ (⟨(⟨a1_0, a1_1⟩ : S31), a1_2, a1_3⟩ : S36) [.int .i64 a1_0, .int .i64 a1_1, .int .i64 a1_2, .int .i64 a1_3] from (k36_mkM _ _ _ (⟨(⟨a1_0, a1_1⟩ : S31), a1_2, a1_3⟩ : S36) )) (Reps.none _ _)))
          intro v209 w37 ho38 hb hg_ hnew_
          clear hg_ hnew_
          (first | rw [← Ny208.out] at ho38 | (simp only [Int.reduceToNat] at ho38; rw [← Ny208.out] at ho38))
          have n0_ := Aside0.mk (Kd.R_elder' (oR HO207) (Kd.R_base ho38) hb)
          have n1_ := Aside0.mk (Kd.R_lower (Kd.R_newB (Kd.R_new' ho38 (Kd.R_lt (oR HO207))) (g := gb204) (o := .cells #[.int .i64 a1_0, .int .i64 a1_1, .int .i64 a1_2, .int .i64 a1_3] 36 (0, 0)) (oK BK204)) (below_size (oB HB)))
          have n2_ := Aside0.mk (blk_below (g := gb204) (o := .cells #[.int .i64 a1_0, .int .i64 a1_1, .int .i64 a1_2, .int .i64 a1_3] 36 (0, 0)) (oK BK204) hb)
          have n3_ := Aside0.mk (below_step (oB HB) hb)
          clear HO207
          clear BK204
          clear HB
          have HO207 := n0_
          have HO210 := n1_
          have BK204 := n2_
          have HB := n3_
          clear n0_ n1_ n2_ n3_
          clear hb ho38
          refine hK.out _ _ ⟨(blk_cell BK204.out 0).trans rfl, (blk_cell BK204.out 1).trans rfl, (blk_cell BK204.out 2).trans rfl, (blk_cell BK204.out 3).trans rfl⟩ (fun hHeld => ?_)
          clear hK K
          refine norm_ (a' := ?_) ?_ ?_
          rotate_left
          · show Act.put _ (some 10) _ = _
            simp only [Act.put, List.setIfInBounds_toArray, List.set_cons_zero, List.set_cons_succ, i64_w, i32_w]
            rfl
          exact norm_ (by simp only [putAll, Act.put, List.setIfInBounds_toArray, List.set_cons_zero, List.set_cons_succ]) (hCont (v206, v209) _ ⟨hHeld, (by (with_reducible repeat (first | apply Kd.R_alloc | apply Kd.R_drewN | apply Kd.R_drew)); exact Kd.R_mono HO207.out (fun _ hk => ⟨hk.2, hk.1.2⟩)), (by (with_reducible repeat (first | apply Kd.R_alloc | apply Kd.R_drewN | apply Kd.R_drew)); exact Kd.R_mono HO210.out (fun _ hk => ⟨hk.1.2, hk.2⟩)), (oK BK204), (oB HB)⟩)
        · skip
          refine Kd.R_lit_step k36 _ 36 ?hg (N := 10) ?hd (xs := ([(⟨(⟨a1_0, a1_1⟩ : S31), a1_2, a1_3⟩ : S36)] : List (S36))) (inner := [.int .i64 a1_0, .int .i64 a1_1, .int .i64 a1_2, .int .i64 a1_3]) (ok := fun _ => True) (okp := fun _ => True) ?hr ?hp (fun _ hk => hk) trivial (Below.refl _ _) (Nat.le_refl _) (by simp) ?_; (case hd => rfl); (case hg => rfl); (case hr => first | (go_simp; done) | (go_simp; rfl)); (case hp => exact (Reps.c4 (show Kd.M k36 _ _ _ (⟨(⟨a1_0, a1_1⟩ : S31), a1_2, a1_3⟩ : S36) [.int .i64 a1_0, .int .i64 a1_1, .int .i64 a1_2, .int .i64 a1_3] from (k36_mkM _ _ _ (⟨(⟨a1_0, a1_1⟩ : S31), a1_2, a1_3⟩ : S36) )) (Reps.none _ _)))
          intro v209 w36 ho37 hb hg_ hnew_
          clear hg_ hnew_
          (first | rw [← Ny208.out] at ho37 | (simp only [Int.reduceToNat] at ho37; rw [← Ny208.out] at ho37))
          have n0_ := Aside0.mk (Kd.R_lower (Kd.R_newB ho37 (g := gb204) (o := .cells #[.int .i64 a1_0, .int .i64 a1_1, .int .i64 a1_2, .int .i64 a1_3] 36 (0, 0)) (oK BK204)) (below_size (oB HB)))
          have n1_ := Aside0.mk (blk_below (g := gb204) (o := .cells #[.int .i64 a1_0, .int .i64 a1_1, .int .i64 a1_2, .int .i64 a1_3] 36 (0, 0)) (oK BK204) hb)
          have n2_ := Aside0.mk (below_step (oB HB) hb)
          clear BK204
          clear HB
          have HO210 := n0_
          have BK204 := n1_
          have HB := n2_
          clear n0_ n1_ n2_
          clear hb ho37
          refine hK.out _ _ ⟨(blk_cell BK204.out 0).trans rfl, (blk_cell BK204.out 1).trans rfl, (blk_cell BK204.out 2).trans rfl, (blk_cell BK204.out 3).trans rfl⟩ (fun hHeld => ?_)
          clear hK K
          refine norm_ (a' := ?_) ?_ ?_
          rotate_left
          · show Act.put _ (some 10) _ = _
            simp only [Act.put, List.setIfInBounds_toArray, List.set_cons_zero, List.set_cons_succ, i64_w, i32_w]
            rfl
          refine one_ (i := 1) (N := some 8) #[true, true, true, true, false, false] rfl rfl (by kernel_rfl) (by decide) (fun K hK => ?_)
          refine goes_ Try.func44 (by kernel_rfl) rfl #[.slice A0 l0.length c0] (by rfl) rfl rfl (by (try simp only [List.map_toArray, List.map_cons, List.map_nil]); first | done | rfl | (simp only [List.length_drop, List.length_take]; rfl)) ?_
          with_reducible refine (impl_copyLog.calls _ _ l0 t205 _ ?side1 ?side2 A3.out).mono ?_
          (case side1 => exact oc_ HR0.out)
          (case side2 => exact HC0.out)
          rintro e w38 ⟨v206, rfl, ho0, hb⟩
          refine ⟨_, rfl, ?_⟩
          have n0_ := Aside0.mk (Kd.R_elder' (oR HO210) (Kd.R_base ho0) hb)
          have n1_ := Aside0.mk (Kd.R_lower (Kd.R_newB (Kd.R_new' ho0 (Kd.R_lt (oR HO210))) (g := gb204) (o := .cells #[.int .i64 a1_0, .int .i64 a1_1, .int .i64 a1_2, .int .i64 a1_3] 36 (0, 0)) (oK BK204)) (below_size (oB HB)))
          have n2_ := Aside0.mk (blk_below (g := gb204) (o := .cells #[.int .i64 a1_0, .int .i64 a1_1, .int .i64 a1_2, .int .i64 a1_3] 36 (0, 0)) (oK BK204) hb)
          have n3_ := Aside0.mk (below_step (oB HB) hb)
          clear HO210
          clear BK204
          clear HB
          have HO210 := n0_
          have HO207 := n1_
          have BK204 := n2_
          have HB := n3_
          clear n0_ n1_ n2_ n3_
          (try clear hb)
          (try clear hb2)
          (try clear hk)
          (try clear hi)
          (try clear ho0)
          refine hK.out _ _ ⟨(blk_cell BK204.out 0).trans rfl, (blk_cell BK204.out 1).trans rfl, (blk_cell BK204.out 2).trans rfl, (blk_cell BK204.out 3).trans rfl⟩ (fun hHeld => ?_)
          clear hK K
          refine norm_ (a' := ?_) ?_ ?_
          rotate_left
          · show Act.put _ (some 8) _ = _
            simp only [Act.put, List.setIfInBounds_toArray, List.set_cons_zero, List.set_cons_succ, i64_w, i32_w]
            rfl
          exact norm_ (by simp only [putAll, Act.put, List.setIfInBounds_toArray, List.set_cons_zero, List.set_cons_succ]) (hCont (v206, v209) _ ⟨hHeld, (by (with_reducible repeat (first | apply Kd.R_alloc | apply Kd.R_drewN | apply Kd.R_drew)); exact Kd.R_mono HO207.out (fun _ hk => ⟨hk.1.2, hk.2⟩)), (by (with_reducible repeat (first | apply Kd.R_alloc | apply Kd.R_drewN | apply Kd.R_drew)); exact Kd.R_mono HO210.out (fun _ hk => ⟨hk.2, hk.1.2⟩)), (oK BK204), (oB HB)⟩)
      rintro ⟨v206, v209⟩ w39 ⟨hS_, h0_, h1_, h2_, h3_⟩
      have n0_ : Aside0 (Kd.R k36 36 w39 w.heap.size (fun k_ => some k_ ≠ (v209 : Value).ownBlock ∧ k_ ≠ gb204) v206 t205) := ⟨h0_⟩
      have n1_ : Aside0 (Kd.R k36 36 w39 w.heap.size (fun k_ => some k_ ≠ (v206 : Value).ownBlock ∧ k_ ≠ gb204) v209 y208) := ⟨h1_⟩
      have n2_ : Aside0 (w39.heap[gb204]? = some (.cells #[.int .i64 a1_0, .int .i64 a1_1, .int .i64 a1_2, .int .i64 a1_3] 36 (0, 0))) := ⟨h2_⟩
      have n3_ : Aside0 (Below w.heap.size w w39) := ⟨h3_⟩
      clear BK204
      clear HB
      clear h0_ h1_ h2_ h3_
      have HO207 := n0_
      have HO210 := n1_
      have BK204 := n2_
      have HB := n3_
      clear n0_ n1_ n2_ n3_
      have hHeld : w39.cell? ⟨gb204, 0, none⟩ = some (.int .i64 a1_0) ∧ w39.cell? ⟨gb204, 1, none⟩ = some (.int .i64 a1_1) ∧ w39.cell? ⟨gb204, 2, none⟩ = some (.int .i64 a1_2) ∧ w39.cell? ⟨gb204, 3, none⟩ = some (.int .i64 a1_3) := hS_
      obtain ⟨Ao41, co41, eo41⟩ := Kd.R_slice HO210.out
      (first | subst eo41 | (injection eo41 with f1_ f2_ f3_; have f4_ := f1_.symm; have f5_ := f3_.symm; clear f1_ f2_ f3_; subst f4_; subst f5_))
      refine norm_ (a' := ?_) ?_ ?_
      rotate_left
      · simp only [putAll, Act.put, List.setIfInBounds_toArray, List.set_cons_zero, List.set_cons_succ]
        rfl
      refine one_ (i := 4) (N := some 11) #[true, true, true, true, true, false] rfl rfl (by kernel_rfl) (by decide) (fun K hK => ?_)
      refine Kd.R_append_rows_step k36 (w0 := w) w.heap.size (by rfl) (.tmp 8) (.tmp 10) 24 36 (.agg #[(.int .i64 0), (.int .i64 0), (.int .i64 0), (.int .i64 0)]) 32 rfl Try.underlying24 info36 rfl (by decide) (by omega) v206 t205 y208 _ _ _ (fun k_ => some k_ ≠ (.slice Ao41 y208.length co41 : Value).ownBlock ∧ k_ ≠ gb204) (fun _ => False) rfl rfl ?aO ?aR (fun _ _ h => h) (fun _ h => h.elim) ?aF ?aB ?aS ?aL ?_
      (case aR => repeat (first | exact (Kd.R_reads' HO210.out).2.2 | (with_reducible refine Kd.C_alloc ?_ _) | (with_reducible refine Kd.C_drewN ?_ _) | (with_reducible refine Kd.C_drew ?_)))
      (case aB => exact (oB HB))
      (case aF => exact (fun k_ hk => ⟨Kd.fresh' (Kd.R_lt (oR HO210)) k_ hk, Kd.freshB (g := gb204) (o := .cells #[.int .i64 a1_0, .int .i64 a1_1, .int .i64 a1_2, .int .i64 a1_3] 36 (0, 0)) (oK BK204) k_ hk⟩))
      (case aO => exact (oR HO207))
      (case aS => exact (below_size (oB HB)))
      (case aL => have := LMc4.out; omega)
      intro v212 w40 ho hb hg hat
      rw [← Ny211.out] at ho
      have n0_ := Aside0.mk (blk_grown (g := gb204) (o := .cells #[.int .i64 a1_0, .int .i64 a1_1, .int .i64 a1_2, .int .i64 a1_3] 36 (0, 0)) (oK BK204) hg (Kd.R_away HO207.out (fun _ hk => hk.2)))
      have n1_ := Aside0.mk (Kd.R_after (ok := (fun k_ => k_ ≠ gb204)) (by (with_reducible repeat (first | apply Kd.R_alloc | apply Kd.R_drewN | apply Kd.R_drew)); exact Kd.R_mono HO210.out (fun _ hk => ⟨hk.2, hk.1⟩)) hg hat)
      have n2_ := Aside0.mk (hb)
      have n3_ := Aside0.mk (ho)
      clear BK204
      clear HO210
      clear HB
      clear HO207
      have BK204 := n0_
      have HO210 := n1_
      have HB := n2_
      have HO213 := n3_
      clear n0_ n1_ n2_ n3_
      clear ho hb hg hat
      refine hK.out _ _ ⟨(blk_cell BK204.out 0).trans rfl, (blk_cell BK204.out 1).trans rfl, (blk_cell BK204.out 2).trans rfl, (blk_cell BK204.out 3).trans rfl⟩ (fun hHeld => ?_)
      clear hK K
      refine norm_ (a' := ?_) ?_ ?_
      rotate_left
      · show Act.put _ (some 11) _ = _
        simp only [Act.put, List.setIfInBounds_toArray, List.set_cons_zero, List.set_cons_succ, i64_w, i32_w]
        rfl
      refine pure_ (i := 5) (N := some 6) (v := ?_) (a' := ?_) #[true, true, true, true, true, true] rfl rfl (by kernel_rfl) (fun _ _ _ h => h) (Or.inl ⟨by rfl, ?_⟩) ?_ ?_
      rotate_left
      · intro w'
        go_simp
        with_reducible rfl
      rotate_left
      · simp only [Act.put, List.setIfInBounds_toArray, List.set_cons_zero, List.set_cons_succ, i64_w, i32_w]
        rfl
      refine done_ (by kernel_rfl) ?_
      try go_wp2_with (first | ((with_reducible refine gate_callee (f := 18) rfl ?_); refine goesL_ (some 13) rfl rfl Try.func18 (by kernel_rfl) rfl #[.slice A0 l0.length c0] rfl (by (try simp only [List.map_toArray, List.map_cons, List.map_nil]); first | done | rfl | (simp only [List.length_drop, List.length_take]; rfl)) ?_; (with_reducible refine (impl_LogOk.calls k _ _ l0 false _ ?side1 ?side2 A5.out).mono ?_); (case side1 => exact oc_ HR0.out); (case side2 => exact HC0.out); rintro e w42 ⟨rfl, hb⟩; refine ⟨_, rfl, ?_⟩; have n0_ := Aside0.mk (Kd.R_below (oR HO210) hb); have n1_ := Aside0.mk (Kd.R_below (oR HO213) hb); have n2_ := Aside0.mk (blk_below (g := gb204) (o := .cells #[.int .i64 a1_0, .int .i64 a1_1, .int .i64 a1_2, .int .i64 a1_3] 36 (0, 0)) (oK BK204) hb); have n3_ := Aside0.mk (below_step (oB HB) hb); clear HO210; clear HO213; clear BK204; clear HB; have HO210 := n0_; have HO213 := n1_; have BK204 := n2_; have HB := n3_; clear n0_ n1_ n2_ n3_; (try clear hb); (try clear hb2); (try clear hk); (try clear hi)) | ((with_reducible refine gate_callee (f := 44) rfl ?_); refine goesL_ (some 21) rfl rfl Try.func44 (by kernel_rfl) rfl #[.slice A0 l0.length c0] rfl (by (try simp only [List.map_toArray, List.map_cons, List.map_nil]); first | done | rfl | (simp only [List.length_drop, List.length_take]; rfl)) ?_; (with_reducible refine (impl_copyLog.calls _ _ l0 t219 _ ?side1 ?side2 A33.out).mono ?_); (case side1 => exact oc_ HR0.out); (case side2 => exact HC0.out); rintro e w43 ⟨v220, rfl, ho0, hb⟩; refine ⟨_, rfl, ?_⟩; have n0_ := Aside0.mk (Kd.R_elder' (oR HO210) (Kd.R_base ho0) hb); have n1_ := Aside0.mk (Kd.R_elder' (oR HO213) (Kd.R_base ho0) hb); have n2_ := Aside0.mk (Kd.R_lower (Kd.R_newB (Kd.R_new' (Kd.R_new' ho0 (Kd.R_lt (oR HO210))) (Kd.R_lt (oR HO213))) (g := gb204) (o := .cells #[.int .i64 a1_0, .int .i64 a1_1, .int .i64 a1_2, .int .i64 a1_3] 36 (0, 0)) (oK BK204)) (below_size (oB HB))); have n3_ := Aside0.mk (blk_below (g := gb204) (o := .cells #[.int .i64 a1_0, .int .i64 a1_1, .int .i64 a1_2, .int .i64 a1_3] 36 (0, 0)) (oK BK204) hb); have n4_ := Aside0.mk (below_step (oB HB) hb); clear HO210; clear HO213; clear BK204; clear HB; have HO210 := n0_; have HO213 := n1_; have HO221 := n2_; have BK204 := n3_; have HB := n4_; clear n0_ n1_ n2_ n3_ n4_; (try clear hb); (try clear hb2); (try clear hk); (try clear hi); (try clear ho0)))
      go_ret2
      exact ⟨_, by first | rfl | (simp [errW_none, errW_some] <;> rfl) | (simp [*, errW_none, errW_some] <;> rfl), by (with_reducible repeat (first | apply Kd.R_alloc | apply Kd.R_drewN | apply Kd.R_drew)); exact Kd.R_mono HO221.out (fun _ hk => trivial), oB HB⟩
  · rw [if_neg c4] at H
    exact absurd H (by simp)
end Go.Proofs.Ytnknnbpodpfljaa.P


namespace Go.Proofs.Ytnknnbpodpfljaa.P
open Go.RowKit Go.Proofs.YtnknnbpodpfljaaW.PrintWords Go.Proofs.YtnknnbpodpfljaaW.PrintLast Go.Proofs.YtnknnbpodpfljaaW.PrintMore
attribute [local go_sem] max2_int min2_int max_two min_two max_three min_three max_four min_four
set_option linter.unusedVariables false
set_option linter.unusedSimpArgs false
attribute [local go_sem high] eqA31
mutual
def laws_FnLogs.l0 : Nat → List Int → List (S36) → List (S31) → List (S31) → Int → Option (Bool)
  | 0, _, _, _, _, _ => none
  | k + 1, x0, x3, x4, x5, x6 => if x6 < (x5.length : Int) then (if 0 ≤ x6 then ((impl_FaultOf.f x3 ((rd_T31 x5 x6).f0) ((rd_T31 x5 x6).f1)).bind fun t233 => (laws_FnLogs.l1 k x0 x3 x4 x5 x6 t233 false 0)) else (none)) else ((laws_at.f x0 0).bind fun t236 => ((laws_at.f x0 1).bind fun t237 => ((laws_at.f x0 2).bind fun t239 => ((impl_AddEntry.f k x3 (Int.tmod t236 4) (Int.tmod t237 40) (Int.tmod t239 3) 100000).bind fun bt240 => (if bt240.2 = true then ((impl_FaultOf.f bt240.1 (Int.tmod t236 4) (Int.tmod t237 40)).bind fun t244 => (if t244 = (Int.tmod t239 3) then ((impl_FaultyPipes.f x3 2).bind fun t245 => (if (x5.length : Int) ≥ (t245.length : Int) then ((impl_LogOk.f k bt240.1).bind fun t248 => (some t248)) else (some false))) else (some false))) else (some false))))))
def laws_FnLogs.l1 : Nat → List Int → List (S36) → List (S31) → List (S31) → Int → Int → Bool → Int → Option (Bool)
  | 0, _, _, _, _, _, _, _, _ => none
  | k + 1, x0, x3, x4, x5, x6, x7, x8, x9 => if x9 < (x4.length : Int) then (if x8 = true then (laws_FnLogs.l1 k x0 x3 x4 x5 x6 x7 true (wrap64 (x9 + 1))) else (if 0 ≤ x9 then (if 0 ≤ x6 then (if x6 < (x5.length : Int) then (laws_FnLogs.l1 k x0 x3 x4 x5 x6 x7 (((rd_T31 x4 x9).f0) == ((rd_T31 x5 x6).f0) && (((rd_T31 x4 x9).f1) == ((rd_T31 x5 x6).f1))) (wrap64 (x9 + 1))) else (none)) else (none)) else (none))) else (if x7 = 1 then (some false) else (if x8 = true then (laws_FnLogs.l0 k x0 x3 x4 x5 (wrap64 (x6 + 1))) else (if x7 = 2 then (laws_FnLogs.l0 k x0 x3 x4 x5 (wrap64 (x6 + 1))) else (some false))))
end
def laws_FnLogs.f (k : Nat) (l0 : List Int) : Option (Bool) := (laws_big.f l0).bind fun t222 => (if t222 = true then (some true) else ((spec_DrawLog.f k l0).bind fun bt223 => ((impl_HeardPipes.f k bt223.1 bt223.2).bind fun t229 => (laws_FnLogs.l0 k l0 bt223.1 bt223.2 t229 0))))
set_option maxHeartbeats 8000000 in
set_option maxRecDepth 100000 in
theorem laws_FnLogs.calls (k : Nat) (A0 : Option Addr) (c0 : Nat) (l0 : List Int) (r : Bool) (w : World) (hr0 : Kd.C (Kd.int .u8) w A0 l0.length l0) (hc0 : l0.length ≤ c0) (h : laws_FnLogs.f k l0 = some r) (hrt_ : Aside0 (r = true)) :
    Calls Try.prog 3 #[.slice A0 l0.length c0] w fun e w' => e = .returned (.bool r) ∧ Below w.heap.size w w' := by
  have hu31 := Try.underlying31
  have hu36 := Try.underlying36
  have HR0 := Aside0.mk hr0
  have HC0 := Aside0.mk hc0
  clear hr0 hc0
  have HB := Aside0.mk (Below.refl w.heap.size w)
  have H : ((laws_big.f l0).bind fun t222 => (if t222 = true then (some true) else ((spec_DrawLog.f k l0).bind fun bt223 => ((impl_HeardPipes.f k bt223.1 bt223.2).bind fun t229 => (laws_FnLogs.l0 k l0 bt223.1 bt223.2 t229 0))))) = some r := h
  clear h
  replace H := Option.bind_eq_some_iff.mp H
  obtain ⟨t222, A20, H⟩ := H
  (try dsimp only at H)
  have A2 := Aside0.mk A20
  clear A20
  by_cases c3 : t222 = true
  · subst c3
    rw [if_pos rfl] at H
    obtain rfl := Option.some.inj H
    go_enter Try.func3, Try.ntmps3
    go_wp2_with (first | (go_at_call 11; (with_reducible refine (laws_big.calls _ _ l0 true _ ?side1 ?side2 A2.out).mono ?_); (case side1 => repeat (first | exact HR0.out | (with_reducible refine Kd.C_alloc ?_ _) | (with_reducible refine Kd.C_drewN ?_ _) | (with_reducible refine Kd.C_drew ?_))); (case side2 => exact HC0.out); rintro e w' ⟨rfl, ⟨nd, rfl⟩⟩; (try first | exact ⟨rfl, _, World.drewN_drewN _ _ _⟩ | exact ⟨rfl, _, Eq.trans (World.drewN_drewN _ _ _) (congrArg (World.drewN _) (Nat.add_assoc _ _ _))⟩)))
    repeat (go_quiet (first | (go_at_call 11; (with_reducible refine (laws_big.calls _ _ l0 true _ ?side1 ?side2 A2.out).mono ?_); (case side1 => repeat (first | exact HR0.out | (with_reducible refine Kd.C_alloc ?_ _) | (with_reducible refine Kd.C_drewN ?_ _) | (with_reducible refine Kd.C_drew ?_))); (case side2 => exact HC0.out); rintro e w' ⟨rfl, ⟨nd, rfl⟩⟩; (try first | exact ⟨rfl, _, World.drewN_drewN _ _ _⟩ | exact ⟨rfl, _, Eq.trans (World.drewN_drewN _ _ _) (congrArg (World.drewN _) (Nat.add_assoc _ _ _))⟩))); try go_wp2_with (first | (go_at_call 11; (with_reducible refine (laws_big.calls _ _ l0 true _ ?side1 ?side2 A2.out).mono ?_); (case side1 => repeat (first | exact HR0.out | (with_reducible refine Kd.C_alloc ?_ _) | (with_reducible refine Kd.C_drewN ?_ _) | (with_reducible refine Kd.C_drew ?_))); (case side2 => exact HC0.out); rintro e w' ⟨rfl, ⟨nd, rfl⟩⟩; (try first | exact ⟨rfl, _, World.drewN_drewN _ _ _⟩ | exact ⟨rfl, _, Eq.trans (World.drewN_drewN _ _ _) (congrArg (World.drewN _) (Nat.add_assoc _ _ _))⟩))))
    go_ret
    exact ⟨by first | rfl | (simp [errW_none, errW_some] <;> rfl) | (simp [*, errW_none, errW_some] <;> rfl), oB HB⟩
  · replace c3 := Bool.eq_false_iff.mpr c3
    subst c3
    rw [if_neg (show ¬ (false = true) by decide)] at H
    replace H := Option.bind_eq_some_iff.mp H
    obtain ⟨⟨t223, t224⟩, A40, H⟩ := H
    (try dsimp only at H)
    have A4 := Aside0.mk A40
    clear A40
    replace H := Option.bind_eq_some_iff.mp H
    obtain ⟨t229, A50, H⟩ := H
    (try dsimp only at H)
    have A5 := Aside0.mk A50
    clear A50
    have H' := Aside0.mk H
    clear H
    go_enter Try.func3, Try.ntmps3
    go_wp2_with (first | (go_at_call 11; (with_reducible refine (laws_big.calls _ _ l0 false _ ?side1 ?side2 A2.out).mono ?_); (case side1 => repeat (first | exact HR0.out | (with_reducible refine Kd.C_alloc ?_ _) | (with_reducible refine Kd.C_drewN ?_ _) | (with_reducible refine Kd.C_drew ?_))); (case side2 => exact HC0.out); rintro e w' ⟨rfl, ⟨nd, rfl⟩⟩; (try first | exact ⟨rfl, _, World.drewN_drewN _ _ _⟩ | exact ⟨rfl, _, Eq.trans (World.drewN_drewN _ _ _) (congrArg (World.drewN _) (Nat.add_assoc _ _ _))⟩)) | (go_at_call 12; (with_reducible refine (spec_DrawLog.calls k _ _ l0 t223 t224 _ ?side1 ?side2 A4.out).mono ?_); (case side1 => repeat (first | exact HR0.out | (with_reducible refine Kd.C_alloc ?_ _) | (with_reducible refine Kd.C_drewN ?_ _) | (with_reducible refine Kd.C_drew ?_))); (case side2 => exact HC0.out); rintro e w6 ⟨v225, v227, rfl, ho0, ho1, hb⟩; have n0_ := Aside0.mk (Kd.R_lower ho0 (below_size (oB HB))); have n1_ := Aside0.mk (Kd.R_lower ho1 (below_size (oB HB))); have n2_ := Aside0.mk (below_step (oB HB) hb); clear HB; have HO226 := n0_; have HO228 := n1_; have HB := n2_; clear n0_ n1_ n2_; (try clear hb); (try clear hb2); (try clear hk); (try clear hi); (try clear ho0); (try clear ho1); obtain ⟨Ao7, co7, eo7⟩ := Kd.R_slice HO226.out; subst eo7; obtain ⟨Ao8, co8, eo8⟩ := Kd.R_slice HO228.out; subst eo8) | (go_at_call 13; (with_reducible refine (impl_HeardPipes.calls k _ _ t223 _ _ t224 t229 _ ?side1 ?side2 ?side3 ?side4 A5.out).mono ?_); (case side1 => repeat (first | exact (Kd.R_reads' HO226.out).2.2 | (with_reducible refine Kd.C_alloc ?_ _) | (with_reducible refine Kd.C_drewN ?_ _) | (with_reducible refine Kd.C_drew ?_))); (case side2 => exact (Kd.R_reads' HO226.out).2.1); (case side3 => repeat (first | exact (Kd.R_reads' HO228.out).2.2 | (with_reducible refine Kd.C_alloc ?_ _) | (with_reducible refine Kd.C_drewN ?_ _) | (with_reducible refine Kd.C_drew ?_))); (case side4 => exact (Kd.R_reads' HO228.out).2.1); rintro e w9 ⟨v230, rfl, ho0, hb⟩; have n0_ := Aside0.mk (Kd.R_below (oR HO226) hb); have n1_ := Aside0.mk (Kd.R_elder' (oR HO228) (Kd.R_base ho0) hb); have n2_ := Aside0.mk (Kd.R_lower (Kd.R_new' ho0 (Kd.R_lt (oR HO228))) (below_size (oB HB))); have n3_ := Aside0.mk (below_step (oB HB) hb); clear HO226; clear HO228; clear HB; have HO226 := n0_; have HO228 := n1_; have HO231 := n2_; have HB := n3_; clear n0_ n1_ n2_ n3_; (try clear hb); (try clear hb2); (try clear hk); (try clear hi); (try clear ho0)))
    repeat (go_quiet (first | (go_at_call 11; (with_reducible refine (laws_big.calls _ _ l0 false _ ?side1 ?side2 A2.out).mono ?_); (case side1 => repeat (first | exact HR0.out | (with_reducible refine Kd.C_alloc ?_ _) | (with_reducible refine Kd.C_drewN ?_ _) | (with_reducible refine Kd.C_drew ?_))); (case side2 => exact HC0.out); rintro e w' ⟨rfl, ⟨nd, rfl⟩⟩; (try first | exact ⟨rfl, _, World.drewN_drewN _ _ _⟩ | exact ⟨rfl, _, Eq.trans (World.drewN_drewN _ _ _) (congrArg (World.drewN _) (Nat.add_assoc _ _ _))⟩)) | (go_at_call 12; (with_reducible refine (spec_DrawLog.calls k _ _ l0 t223 t224 _ ?side1 ?side2 A4.out).mono ?_); (case side1 => repeat (first | exact HR0.out | (with_reducible refine Kd.C_alloc ?_ _) | (with_reducible refine Kd.C_drewN ?_ _) | (with_reducible refine Kd.C_drew ?_))); (case side2 => exact HC0.out); rintro e w6 ⟨v225, v227, rfl, ho0, ho1, hb⟩; have n0_ := Aside0.mk (Kd.R_lower ho0 (below_size (oB HB))); have n1_ := Aside0.mk (Kd.R_lower ho1 (below_size (oB HB))); have n2_ := Aside0.mk (below_step (oB HB) hb); clear HB; have HO226 := n0_; have HO228 := n1_; have HB := n2_; clear n0_ n1_ n2_; (try clear hb); (try clear hb2); (try clear hk); (try clear hi); (try clear ho0); (try clear ho1); obtain ⟨Ao7, co7, eo7⟩ := Kd.R_slice HO226.out; subst eo7; obtain ⟨Ao8, co8, eo8⟩ := Kd.R_slice HO228.out; subst eo8) | (go_at_call 13; (with_reducible refine (impl_HeardPipes.calls k _ _ t223 _ _ t224 t229 _ ?side1 ?side2 ?side3 ?side4 A5.out).mono ?_); (case side1 => repeat (first | exact (Kd.R_reads' HO226.out).2.2 | (with_reducible refine Kd.C_alloc ?_ _) | (with_reducible refine Kd.C_drewN ?_ _) | (with_reducible refine Kd.C_drew ?_))); (case side2 => exact (Kd.R_reads' HO226.out).2.1); (case side3 => repeat (first | exact (Kd.R_reads' HO228.out).2.2 | (with_reducible refine Kd.C_alloc ?_ _) | (with_reducible refine Kd.C_drewN ?_ _) | (with_reducible refine Kd.C_drew ?_))); (case side4 => exact (Kd.R_reads' HO228.out).2.1); rintro e w9 ⟨v230, rfl, ho0, hb⟩; have n0_ := Aside0.mk (Kd.R_below (oR HO226) hb); have n1_ := Aside0.mk (Kd.R_elder' (oR HO228) (Kd.R_base ho0) hb); have n2_ := Aside0.mk (Kd.R_lower (Kd.R_new' ho0 (Kd.R_lt (oR HO228))) (below_size (oB HB))); have n3_ := Aside0.mk (below_step (oB HB) hb); clear HO226; clear HO228; clear HB; have HO226 := n0_; have HO228 := n1_; have HO231 := n2_; have HB := n3_; clear n0_ n1_ n2_ n3_; (try clear hb); (try clear hb2); (try clear hk); (try clear hi); (try clear ho0))); try go_wp2_with (first | (go_at_call 11; (with_reducible refine (laws_big.calls _ _ l0 false _ ?side1 ?side2 A2.out).mono ?_); (case side1 => repeat (first | exact HR0.out | (with_reducible refine Kd.C_alloc ?_ _) | (with_reducible refine Kd.C_drewN ?_ _) | (with_reducible refine Kd.C_drew ?_))); (case side2 => exact HC0.out); rintro e w' ⟨rfl, ⟨nd, rfl⟩⟩; (try first | exact ⟨rfl, _, World.drewN_drewN _ _ _⟩ | exact ⟨rfl, _, Eq.trans (World.drewN_drewN _ _ _) (congrArg (World.drewN _) (Nat.add_assoc _ _ _))⟩)) | (go_at_call 12; (with_reducible refine (spec_DrawLog.calls k _ _ l0 t223 t224 _ ?side1 ?side2 A4.out).mono ?_); (case side1 => repeat (first | exact HR0.out | (with_reducible refine Kd.C_alloc ?_ _) | (with_reducible refine Kd.C_drewN ?_ _) | (with_reducible refine Kd.C_drew ?_))); (case side2 => exact HC0.out); rintro e w6 ⟨v225, v227, rfl, ho0, ho1, hb⟩; have n0_ := Aside0.mk (Kd.R_lower ho0 (below_size (oB HB))); have n1_ := Aside0.mk (Kd.R_lower ho1 (below_size (oB HB))); have n2_ := Aside0.mk (below_step (oB HB) hb); clear HB; have HO226 := n0_; have HO228 := n1_; have HB := n2_; clear n0_ n1_ n2_; (try clear hb); (try clear hb2); (try clear hk); (try clear hi); (try clear ho0); (try clear ho1); obtain ⟨Ao7, co7, eo7⟩ := Kd.R_slice HO226.out; subst eo7; obtain ⟨Ao8, co8, eo8⟩ := Kd.R_slice HO228.out; subst eo8) | (go_at_call 13; (with_reducible refine (impl_HeardPipes.calls k _ _ t223 _ _ t224 t229 _ ?side1 ?side2 ?side3 ?side4 A5.out).mono ?_); (case side1 => repeat (first | exact (Kd.R_reads' HO226.out).2.2 | (with_reducible refine Kd.C_alloc ?_ _) | (with_reducible refine Kd.C_drewN ?_ _) | (with_reducible refine Kd.C_drew ?_))); (case side2 => exact (Kd.R_reads' HO226.out).2.1); (case side3 => repeat (first | exact (Kd.R_reads' HO228.out).2.2 | (with_reducible refine Kd.C_alloc ?_ _) | (with_reducible refine Kd.C_drewN ?_ _) | (with_reducible refine Kd.C_drew ?_))); (case side4 => exact (Kd.R_reads' HO228.out).2.1); rintro e w9 ⟨v230, rfl, ho0, hb⟩; have n0_ := Aside0.mk (Kd.R_below (oR HO226) hb); have n1_ := Aside0.mk (Kd.R_elder' (oR HO228) (Kd.R_base ho0) hb); have n2_ := Aside0.mk (Kd.R_lower (Kd.R_new' ho0 (Kd.R_lt (oR HO228))) (below_size (oB HB))); have n3_ := Aside0.mk (below_step (oB HB) hb); clear HO226; clear HO228; clear HB; have HO226 := n0_; have HO228 := n1_; have HO231 := n2_; have HB := n3_; clear n0_ n1_ n2_ n3_; (try clear hb); (try clear hb2); (try clear hk); (try clear hi); (try clear ho0))))
    go_loopg [6] k (fun kq v6 w' => ∃ (x6_1 : Int), v6 = .int .i64 x6_1 ∧ Aside0 (laws_FnLogs.l0 kq l0 t223 t224 t229 x6_1 = some r) ∧ Aside0 (kq ≤ k) ∧ Aside0 (Kd.R k36 36 w' w.heap.size (fun _ => True) (.slice Ao7 t223.length co7) t223) ∧ Aside0 (Kd.R k31 31 w' w.heap.size (fun k_ => some k_ ≠ (v230 : Value).ownBlock) (.slice Ao8 t224.length co8) t224) ∧ Aside0 (Kd.R k31 31 w' w.heap.size (fun k_ => some k_ ≠ ((.slice Ao8 t224.length co8) : Value).ownBlock) v230 t229) ∧ Aside0 (Below w.heap.size w w'))
    case atStart => exact ⟨(0), (by first | rfl | (simp; done) | (simp [*]; done)), H', ⟨Nat.le_refl _⟩, ⟨oR HO226⟩, ⟨by (with_reducible repeat (first | apply Kd.R_alloc | apply Kd.R_drewN | apply Kd.R_drew)); exact Kd.R_mono HO228.out (fun _ hk => hk.2)⟩, ⟨by (with_reducible repeat (first | apply Kd.R_alloc | apply Kd.R_drewN | apply Kd.R_drew)); exact Kd.R_mono HO231.out (fun _ hk => hk.2)⟩, ⟨oB HB⟩⟩
    case round =>
      clear H'
      try clear p2
      try clear c3
      obtain ⟨x6_1, rfl, HA, HK1, HO_3, HO_4, HO_5, HB⟩ := hrel
      cases gk with
      | zero => exact absurd HA.out (by simp [laws_FnLogs.l0])
      | succ k1 =>
        have H := HA.out
        clear HA
        simp only [laws_FnLogs.l0] at H
        by_cases c10 : x6_1 < (t229.length : Int)
        · rw [if_pos c10] at H
          have c10b0 : decide (x6_1 < (t229.length : Int)) = true := decide_eq_true c10
          clear c10
          by_cases c11 : 0 ≤ x6_1
          · rw [if_pos c11] at H
            have c11b0 : decide (0 ≤ x6_1) = true := decide_eq_true c11
            clear c11
            replace H := Option.bind_eq_some_iff.mp H
            obtain ⟨t233, A120, H⟩ := H
            (try dsimp only at H)
            have A12 := Aside0.mk A120
            clear A120
            have H' := Aside0.mk H
            clear H
            obtain ⟨Ao13, co13, eo13⟩ := Kd.R_slice HO_5.out
            subst eo13
            have p232 : 0 ≤ (x6_1 : Int) := of_decide_eq_true (by first | (with_reducible assumption) | assumption)
            have q232 : x6_1 < (t229.length : Int) := of_decide_eq_true (by first | (with_reducible assumption) | assumption)
            obtain ⟨ad232, e232, hx232_0, hx232_1⟩ := at_T31 (Kd.R_reads' HO_5.out).2.2 x6_1 p232 q232
            cases e232
            replace p232 := eq_true p232
            replace q232 := eq_true q232
            go_wp2_with (first | (go_at_call 14; (with_reducible refine (impl_FaultOf.calls _ _ t223 ((rd_T31 t229 x6_1).f0) ((rd_T31 t229 x6_1).f1) t233 _ ?side1 ?side2 A12.out).mono ?_); (case side1 => repeat (first | exact (Kd.R_reads' HO_3.out).2.2 | (with_reducible refine Kd.C_alloc ?_ _) | (with_reducible refine Kd.C_drewN ?_ _) | (with_reducible refine Kd.C_drew ?_))); (case side2 => exact (Kd.R_reads' HO_3.out).2.1); rintro e w14 ⟨rfl, hb⟩; have n0_ := Aside0.mk (Kd.R_below (oR HO_3) hb); have n1_ := Aside0.mk (Kd.R_below (oR HO_4) hb); have n2_ := Aside0.mk (Kd.R_below (oR HO_5) hb); have n3_ := Aside0.mk (below_step (oB HB) hb); clear HO_3; clear HO_4; clear HO_5; clear HB; have HO_3 := n0_; have HO_4 := n1_; have HO_5 := n2_; have HB := n3_; clear n0_ n1_ n2_ n3_; (try clear hb); (try clear hb2); (try clear hk); (try clear hi)))
            repeat (go_quiet (first | (go_at_call 14; (with_reducible refine (impl_FaultOf.calls _ _ t223 ((rd_T31 t229 x6_1).f0) ((rd_T31 t229 x6_1).f1) t233 _ ?side1 ?side2 A12.out).mono ?_); (case side1 => repeat (first | exact (Kd.R_reads' HO_3.out).2.2 | (with_reducible refine Kd.C_alloc ?_ _) | (with_reducible refine Kd.C_drewN ?_ _) | (with_reducible refine Kd.C_drew ?_))); (case side2 => exact (Kd.R_reads' HO_3.out).2.1); rintro e w14 ⟨rfl, hb⟩; have n0_ := Aside0.mk (Kd.R_below (oR HO_3) hb); have n1_ := Aside0.mk (Kd.R_below (oR HO_4) hb); have n2_ := Aside0.mk (Kd.R_below (oR HO_5) hb); have n3_ := Aside0.mk (below_step (oB HB) hb); clear HO_3; clear HO_4; clear HO_5; clear HB; have HO_3 := n0_; have HO_4 := n1_; have HO_5 := n2_; have HB := n3_; clear n0_ n1_ n2_ n3_; (try clear hb); (try clear hb2); (try clear hk); (try clear hi))); try go_wp2_with (first | (go_at_call 14; (with_reducible refine (impl_FaultOf.calls _ _ t223 ((rd_T31 t229 x6_1).f0) ((rd_T31 t229 x6_1).f1) t233 _ ?side1 ?side2 A12.out).mono ?_); (case side1 => repeat (first | exact (Kd.R_reads' HO_3.out).2.2 | (with_reducible refine Kd.C_alloc ?_ _) | (with_reducible refine Kd.C_drewN ?_ _) | (with_reducible refine Kd.C_drew ?_))); (case side2 => exact (Kd.R_reads' HO_3.out).2.1); rintro e w14 ⟨rfl, hb⟩; have n0_ := Aside0.mk (Kd.R_below (oR HO_3) hb); have n1_ := Aside0.mk (Kd.R_below (oR HO_4) hb); have n2_ := Aside0.mk (Kd.R_below (oR HO_5) hb); have n3_ := Aside0.mk (below_step (oB HB) hb); clear HO_3; clear HO_4; clear HO_5; clear HB; have HO_3 := n0_; have HO_4 := n1_; have HO_5 := n2_; have HB := n3_; clear n0_ n1_ n2_ n3_; (try clear hb); (try clear hb2); (try clear hk); (try clear hi))))
            go_loopg [8, 9] k1 (fun kq v8 v9 w' => ∃ (x8_2 : Bool) (x9_2 : Int), v8 = .bool x8_2 ∧ v9 = .int .i64 x9_2 ∧ Aside0 (laws_FnLogs.l1 kq l0 t223 t224 t229 x6_1 t233 x8_2 x9_2 = some r) ∧ Aside0 (kq ≤ k1) ∧ Aside0 (Kd.R k36 36 w' w.heap.size (fun _ => True) (.slice Ao7 t223.length co7) t223) ∧ Aside0 (Kd.R k31 31 w' w.heap.size (fun k_ => some k_ ≠ ((.slice (some ad232) t229.length co13) : Value).ownBlock) (.slice Ao8 t224.length co8) t224) ∧ Aside0 (Kd.R k31 31 w' w.heap.size (fun k_ => some k_ ≠ ((.slice Ao8 t224.length co8) : Value).ownBlock) (.slice (some ad232) t229.length co13) t229) ∧ Aside0 (Below w.heap.size w w'))
            case atStart => exact ⟨(false), (0), (by first | rfl | (simp; done) | (simp [*]; done)), (by first | rfl | (simp; done) | (simp [*]; done)), H', ⟨Nat.le_refl _⟩, ⟨oR HO_3⟩, ⟨oR HO_4⟩, ⟨oR HO_5⟩, ⟨oB HB⟩⟩
            case round =>
              clear H'
              try clear c1
              try clear p2
              try clear q2
              try clear hx2
              try clear c3
              try clear c10
              try clear c10b0
              try clear c11
              try clear c11b0
              try clear hx232_0
              try clear hx232_1
              try clear p2
              try clear p232
              try clear q232
              obtain ⟨x8_2, x9_2, rfl, rfl, HA, HK2, HO_3, HO_4, HO_5, HB⟩ := hrel
              cases gk with
              | zero => exact absurd HA.out (by simp [laws_FnLogs.l1])
              | succ k2 =>
                have H := HA.out
                clear HA
                simp only [laws_FnLogs.l1] at H
                by_cases c15 : x9_2 < (t224.length : Int)
                · rw [if_pos c15] at H
                  have c15b0 : decide (x9_2 < (t224.length : Int)) = true := decide_eq_true c15
                  clear c15
                  by_cases c16 : x8_2 = true
                  · subst c16
                    rw [if_pos rfl] at H
                    have H' := Aside0.mk H
                    clear H
                    go_wp2
                    repeat (go_quiet (fail); try go_wp2)
                    go_roundg k2
                    case measure => have := HK1.out; have := HK2.out; omega
                    case rel => exact ⟨(true), (wrap64 (x9_2 + 1)), (by first | rfl | (simp; done) | (simp [*]; done)), (by first | rfl | (simp; done) | (simp [*]; done)), H', ⟨by have := HK1.out; have := HK2.out; omega⟩, ⟨oR HO_3⟩, ⟨oR HO_4⟩, ⟨oR HO_5⟩, ⟨oB HB⟩⟩
                  · replace c16 := Bool.eq_false_iff.mpr c16
                    subst c16
                    rw [if_neg (show ¬ (false = true) by decide)] at H
                    by_cases c17 : 0 ≤ x9_2
                    · rw [if_pos c17] at H
                      have c17b0 : decide (0 ≤ x9_2) = true := decide_eq_true c17
                      clear c17
                      by_cases c18 : 0 ≤ x6_1
                      · rw [if_pos c18] at H
                        have c18b0 : decide (0 ≤ x6_1) = true := decide_eq_true c18
                        clear c18
                        by_cases c19 : x6_1 < (t229.length : Int)
                        · rw [if_pos c19] at H
                          have c19b0 : decide (x6_1 < (t229.length : Int)) = true := decide_eq_true c19
                          clear c19
                          have H' := Aside0.mk H
                          clear H
                          have p234 : 0 ≤ (x9_2 : Int) := of_decide_eq_true (by first | (with_reducible assumption) | assumption)
                          have q234 : x9_2 < (t224.length : Int) := of_decide_eq_true (by first | (with_reducible assumption) | assumption)
                          obtain ⟨ad234, e234, hx234_0, hx234_1⟩ := at_T31 (Kd.R_reads' HO_4.out).2.2 x9_2 p234 q234
                          cases e234
                          replace p234 := eq_true p234
                          replace q234 := eq_true q234
                          have p235 : 0 ≤ (x6_1 : Int) := of_decide_eq_true (by first | (with_reducible assumption) | assumption)
                          have q235 : x6_1 < (t229.length : Int) := of_decide_eq_true (by first | (with_reducible assumption) | assumption)
                          obtain ⟨ad235, e235, hx235_0, hx235_1⟩ := at_T31 (Kd.R_reads' HO_5.out).2.2 x6_1 p235 q235
                          obtain rfl : ad232 = ad235 := (by injection e235)
                          replace p235 := eq_true p235
                          replace q235 := eq_true q235
                          go_wp2
                          repeat (go_quiet (fail); try go_wp2)
                          go_roundg k2
                          case measure => have := HK1.out; have := HK2.out; omega
                          case rel => exact ⟨((((rd_T31 t224 x9_2).f0) == ((rd_T31 t229 x6_1).f0) && (((rd_T31 t224 x9_2).f1) == ((rd_T31 t229 x6_1).f1)))), (wrap64 (x9_2 + 1)), (by first | rfl | (simp; done) | (simp [*]; done)), (by first | rfl | (simp; done) | (simp [*]; done)), H', ⟨by have := HK1.out; have := HK2.out; omega⟩, ⟨oR HO_3⟩, ⟨oR HO_4⟩, ⟨oR HO_5⟩, ⟨oB HB⟩⟩
                        · rw [if_neg c19] at H
                          exact absurd H (by simp)
                      · rw [if_neg c18] at H
                        exact absurd H (by simp)
                    · rw [if_neg c17] at H
                      exact absurd H (by simp)
                · rw [if_neg c15] at H
                  have c15b0 : decide (x9_2 < (t224.length : Int)) = false := decide_eq_false c15
                  clear c15
                  by_cases c20 : t233 = 1
                  · rw [if_pos c20] at H
                    have c20b0 : (t233 == 1) = true := beq_iff_eq.mpr c20
                    have c20b1 : (t233 != 1) = false := bne_eq_false_iff_eq.mpr c20
                    clear c20
                    exact absurd ((Option.some.inj H).trans hrt_.out) (by decide)
                  · rw [if_neg c20] at H
                    have c20b0 : (t233 == 1) = false := beq_eq_false_iff_ne.mpr c20
                    have c20b1 : (t233 != 1) = true := bne_iff_ne.mpr c20
                    by_cases c21 : x8_2 = true
                    · subst c21
                      rw [if_pos rfl] at H
                      have H' := Aside0.mk H
                      clear H
                      go_wp2
                      repeat (go_quiet (fail); try go_wp2)
                      go_roundg k2
                      case measure => have := HK1.out; have := HK2.out; omega
                      case rel => exact ⟨(wrap64 (x6_1 + 1)), (by first | rfl | (simp; done) | (simp [*]; done)), H', ⟨by have := HK1.out; have := HK2.out; omega⟩, ⟨oR HO_3⟩, ⟨oR HO_4⟩, ⟨oR HO_5⟩, ⟨oB HB⟩⟩
                    · replace c21 := Bool.eq_false_iff.mpr c21
                      subst c21
                      rw [if_neg (show ¬ (false = true) by decide)] at H
                      by_cases c22 : t233 = 2
                      · rw [if_pos c22] at H
                        have c22b0 : (t233 == 2) = true := beq_iff_eq.mpr c22
                        have c22b1 : (t233 != 2) = false := bne_eq_false_iff_eq.mpr c22
                        clear c22
                        have H' := Aside0.mk H
                        clear H
                        go_wp2
                        repeat (go_quiet (fail); try go_wp2)
                        go_roundg k2
                        case measure => have := HK1.out; have := HK2.out; omega
                        case rel => exact ⟨(wrap64 (x6_1 + 1)), (by first | rfl | (simp; done) | (simp [*]; done)), H', ⟨by have := HK1.out; have := HK2.out; omega⟩, ⟨oR HO_3⟩, ⟨oR HO_4⟩, ⟨oR HO_5⟩, ⟨oB HB⟩⟩
                      · rw [if_neg c22] at H
                        have c22b0 : (t233 == 2) = false := beq_eq_false_iff_ne.mpr c22
                        have c22b1 : (t233 != 2) = true := bne_iff_ne.mpr c22
                        exact absurd ((Option.some.inj H).trans hrt_.out) (by decide)
          · rw [if_neg c11] at H
            exact absurd H (by simp)
        · rw [if_neg c10] at H
          have c10b0 : decide (x6_1 < (t229.length : Int)) = false := decide_eq_false c10
          clear c10
          replace H := Option.bind_eq_some_iff.mp H
          obtain ⟨t236, A230, H⟩ := H
          (try dsimp only at H)
          have A23 := Aside0.mk A230
          clear A230
          replace H := Option.bind_eq_some_iff.mp H
          obtain ⟨t237, A240, H⟩ := H
          (try dsimp only at H)
          have A24 := Aside0.mk A240
          clear A240
          replace H := Option.bind_eq_some_iff.mp H
          obtain ⟨t239, A250, H⟩ := H
          (try dsimp only at H)
          have A25 := Aside0.mk A250
          clear A250
          replace H := Option.bind_eq_some_iff.mp H
          obtain ⟨⟨t240, t243⟩, A260, H⟩ := H
          (try dsimp only at H)
          have A26 := Aside0.mk A260
          clear A260
          by_cases c27 : t243 = true
          · subst c27
            rw [if_pos rfl] at H
            replace H := Option.bind_eq_some_iff.mp H
            obtain ⟨t244, A280, H⟩ := H
            (try dsimp only at H)
            have A28 := Aside0.mk A280
            clear A280
            by_cases c29 : t244 = (Int.tmod t239 3)
            · rw [if_pos c29] at H
              have c29b0 : (t244 == (Int.tmod t239 3)) = true := beq_iff_eq.mpr c29
              have c29b1 : (t244 != (Int.tmod t239 3)) = false := bne_eq_false_iff_eq.mpr c29
              clear c29
              replace H := Option.bind_eq_some_iff.mp H
              obtain ⟨t245, A300, H⟩ := H
              (try dsimp only at H)
              have A30 := Aside0.mk A300
              clear A300
              by_cases c31 : (t229.length : Int) ≥ (t245.length : Int)
              · rw [if_pos c31] at H
                have c31b0 : decide ((t245.length : Int) ≤ (t229.length : Int)) = true := decide_eq_true c31
                have c31b1 : decide (t245.length ≤ t229.length) = true := decide_eq_true (Int.ofNat_le.mp c31)
                clear c31
                replace H := Option.bind_eq_some_iff.mp H
                obtain ⟨t248, A320, H⟩ := H
                (try dsimp only at H)
                have A32 := Aside0.mk A320
                clear A320
                obtain rfl := Option.some.inj H
                obtain ⟨Ao33, co33, eo33⟩ := Kd.R_slice HO_5.out
                subst eo33
                go_wp2_with (first | (go_at_call 15; (with_reducible refine (laws_at.calls _ _ l0 0 t236 _ ?side1 ?side2 A23.out).mono ?_); (case side1 => exact oc_ HR0.out); (case side2 => exact HC0.out); rintro e w' ⟨rfl, ⟨nd, rfl⟩⟩; (try first | exact ⟨rfl, _, World.drewN_drewN _ _ _⟩ | exact ⟨rfl, _, Eq.trans (World.drewN_drewN _ _ _) (congrArg (World.drewN _) (Nat.add_assoc _ _ _))⟩)) | (go_at_call 15; (with_reducible refine (laws_at.calls _ _ l0 1 t237 _ ?side1 ?side2 A24.out).mono ?_); (case side1 => repeat (first | exact (Kd.C_below HR0.out (oB HB)) | (with_reducible refine Kd.C_alloc ?_ _) | (with_reducible refine Kd.C_drewN ?_ _) | (with_reducible refine Kd.C_drew ?_))); (case side2 => exact HC0.out); rintro e w' ⟨rfl, ⟨nd, rfl⟩⟩; (try first | exact ⟨rfl, _, World.drewN_drewN _ _ _⟩ | exact ⟨rfl, _, Eq.trans (World.drewN_drewN _ _ _) (congrArg (World.drewN _) (Nat.add_assoc _ _ _))⟩)) | ((with_reducible refine gate_dst (N := 10) rfl ?_); (try (refine gate_guard (by rfl) ?_; dsimp only)); refine box_event ?hg (N := 10) ?hd (cs := #[.int .i64 0, .int .i64 0]) (t := 31) ?hr ?_; (case hd => rfl); (case hg => rfl); (case hr => first | (go_simp; done) | (go_simp; rfl)); intro gb238 hg w34 hbox hb; have n0_ := Aside0.mk (Kd.R_below (oR HO_3) hb); have n1_ := Aside0.mk (Kd.R_below (Kd.R_elderB (oR HO_4) gb238 (Nat.le_of_eq hg.symm)) hb); have n2_ := Aside0.mk (Kd.R_below (Kd.R_elderB (oR HO_5) gb238 (Nat.le_of_eq hg.symm)) hb); have n3_ := Aside0.mk (below_step (oB HB) hb); have n4_ := Aside0.mk (hbox); have n5_ := Aside0.mk ((by rw [hg]; exact (below_size (oB HB)) : w.heap.size ≤ gb238)); have n6_ := Aside0.mk ((by rw [hg]; exact (below_size (oB HB)) : w.heap.size ≤ gb238)); clear HO_3; clear HO_4; clear HO_5; clear HB; have HO_3 := n0_; have HO_4 := n1_; have HO_5 := n2_; have HB := n3_; have BK238 := n4_; have GW238 := n5_; have GE238 := n6_; clear n0_ n1_ n2_ n3_ n4_ n5_ n6_; clear hb hbox hg; have hcz35_0 : w34.cell? ⟨gb238, 0, none⟩ = some (.int .i64 0) := (blk_cell BK238.out 0).trans rfl; have hcz35_1 : w34.cell? ⟨gb238, 1, none⟩ = some (.int .i64 0) := (blk_cell BK238.out 1).trans rfl; have hfz35_0 := blk_frozen BK238.out 0; have hfz35_1 := blk_frozen BK238.out 1) | (go_at_call 15; (with_reducible refine (laws_at.calls _ _ l0 2 t239 _ ?side1 ?side2 A25.out).mono ?_); (case side1 => exact Kd.C_below HR0.out (oB HB)); (case side2 => exact HC0.out); rintro e w' ⟨rfl, ⟨nd, rfl⟩⟩; (try first | exact ⟨rfl, _, World.drewN_drewN _ _ _⟩ | exact ⟨rfl, _, Eq.trans (World.drewN_drewN _ _ _) (congrArg (World.drewN _) (Nat.add_assoc _ _ _))⟩)) | (go_at_call 16; (with_reducible refine (impl_AddEntry.calls k1 _ _ t223 (Int.tmod t236 4) (Int.tmod t237 40) (Int.tmod t239 3) 100000 t240 true _ ?side1 ?side2 A26.out).mono ?_); (case side1 => refine (Kd.R_reads' (e := 36) (base := w.heap.size) (ok := fun k_ => True) (n := t223.length) (c := co7) ?_).2.2; exact (by (with_reducible repeat (first | apply Kd.R_alloc | apply Kd.R_drewN | apply Kd.R_drew)); exact (Kd.R_mono (Kd.R_far (p := ⟨gb238, 1, none⟩) (Kd.R_far (p := ⟨gb238, 0, none⟩) (Kd.R_types HO_3.out BK238.out (by decide)) (fun _ hk => hk.2) (.int .i64 (Int.tmod t236 4))) (fun _ hk => hk.2) (.int .i64 (Int.tmod t237 40))) (fun _ h_ => h_.1)))); (case side2 => exact (Kd.R_reads' HO_3.out).2.1); rintro e w36 ⟨v241, rfl, ho0, hb⟩; have n0_ := Aside0.mk (Kd.R_elder' (by (with_reducible repeat (first | apply Kd.R_alloc | apply Kd.R_drewN | apply Kd.R_drew)); exact (Kd.R_mono (Kd.R_far (p := ⟨gb238, 1, none⟩) (Kd.R_far (p := ⟨gb238, 0, none⟩) (Kd.R_types HO_3.out BK238.out (by decide)) (fun _ hk => hk.2) (.int .i64 (Int.tmod t236 4))) (fun _ hk => hk.2) (.int .i64 (Int.tmod t237 40))) (fun _ h_ => h_.1))) (Kd.R_base ho0) hb); have n1_ := Aside0.mk (Kd.R_below (by (with_reducible repeat (first | apply Kd.R_alloc | apply Kd.R_drewN | apply Kd.R_drew)); exact (Kd.R_mono (Kd.R_far (p := ⟨gb238, 1, none⟩) (Kd.R_far (p := ⟨gb238, 0, none⟩) (Kd.R_mono HO_4.out (fun k_ hk => (⟨hk, hk.2⟩ : _ ∧ k_ ≠ gb238))) (fun _ hk => hk.2) (.int .i64 (Int.tmod t236 4))) (fun _ hk => hk.2) (.int .i64 (Int.tmod t237 40))) (fun _ h_ => h_.1))) hb); have n2_ := Aside0.mk (Kd.R_below (by (with_reducible repeat (first | apply Kd.R_alloc | apply Kd.R_drewN | apply Kd.R_drew)); exact (Kd.R_mono (Kd.R_far (p := ⟨gb238, 1, none⟩) (Kd.R_far (p := ⟨gb238, 0, none⟩) (Kd.R_mono HO_5.out (fun k_ hk => (⟨hk, hk.2⟩ : _ ∧ k_ ≠ gb238))) (fun _ hk => hk.2) (.int .i64 (Int.tmod t236 4))) (fun _ hk => hk.2) (.int .i64 (Int.tmod t237 40))) (fun _ h_ => h_.1))) hb); have n3_ := Aside0.mk (Kd.R_lower (Kd.R_new' ho0 (Kd.R_lt (by (with_reducible repeat (first | apply Kd.R_alloc | apply Kd.R_drewN | apply Kd.R_drew)); exact (Kd.R_mono (Kd.R_far (p := ⟨gb238, 1, none⟩) (Kd.R_far (p := ⟨gb238, 0, none⟩) (Kd.R_types HO_3.out BK238.out (by decide)) (fun _ hk => hk.2) (.int .i64 (Int.tmod t236 4))) (fun _ hk => hk.2) (.int .i64 (Int.tmod t237 40))) (fun _ h_ => h_.1))))) (below_size (oB HB))); have n4_ := Aside0.mk (blk_below (g := gb238) (o := .cells #[.int .i64 (Int.tmod t236 4), .int .i64 (Int.tmod t237 40)] 31 (0, 0)) (by (with_reducible repeat (first | refine blk_drewN ?_ _ | refine blk_drew ?_ | refine blk_alloc ?_ _)); refine blk_put (cs := #[.int .i64 (Int.tmod t236 4), .int .i64 0]) ?_ 1 _ rfl; (with_reducible repeat (first | refine blk_drewN ?_ _ | refine blk_drew ?_ | refine blk_alloc ?_ _)); refine blk_put (cs := #[.int .i64 0, .int .i64 0]) ?_ 0 _ rfl; (with_reducible repeat (first | refine blk_drewN ?_ _ | refine blk_drew ?_ | refine blk_alloc ?_ _)); exact BK238.out) hb); have n5_ := Aside0.mk (below_step (oB HB) hb); clear HO_3; clear HO_4; clear HO_5; clear BK238; clear HB; have HO_3 := n0_; have HO_4 := n1_; have HO_5 := n2_; have HO242 := n3_; have BK238 := n4_; have HB := n5_; clear n0_ n1_ n2_ n3_ n4_ n5_; (try clear hb); (try clear hb2); (try clear hk); (try clear hi); (try clear ho0); have hcz37_0 : w36.cell? ⟨gb238, 0, none⟩ = some (.int .i64 (Int.tmod t236 4)) := (blk_cell BK238.out 0).trans rfl; have hcz37_1 : w36.cell? ⟨gb238, 1, none⟩ = some (.int .i64 (Int.tmod t237 40)) := (blk_cell BK238.out 1).trans rfl; have hfz37_0 := blk_frozen BK238.out 0; have hfz37_1 := blk_frozen BK238.out 1; obtain ⟨Ao38, co38, eo38⟩ := Kd.R_slice HO242.out; subst eo38) | (go_at_call 14; (with_reducible refine (impl_FaultOf.calls _ _ t240 (Int.tmod t236 4) (Int.tmod t237 40) t244 _ ?side1 ?side2 A28.out).mono ?_); (case side1 => repeat (first | exact (Kd.R_reads' HO242.out).2.2 | (with_reducible refine Kd.C_alloc ?_ _) | (with_reducible refine Kd.C_drewN ?_ _) | (with_reducible refine Kd.C_drew ?_))); (case side2 => exact (Kd.R_reads' HO242.out).2.1); rintro e w39 ⟨rfl, hb⟩; have n0_ := Aside0.mk (Kd.R_below (oR HO_3) hb); have n1_ := Aside0.mk (Kd.R_below (oR HO_4) hb); have n2_ := Aside0.mk (Kd.R_below (oR HO_5) hb); have n3_ := Aside0.mk (Kd.R_below (oR HO242) hb); have n4_ := Aside0.mk (blk_below (g := gb238) (o := .cells #[.int .i64 (Int.tmod t236 4), .int .i64 (Int.tmod t237 40)] 31 (0, 0)) (oK BK238) hb); have n5_ := Aside0.mk (below_step (oB HB) hb); clear HO_3; clear HO_4; clear HO_5; clear HO242; clear BK238; clear HB; have HO_3 := n0_; have HO_4 := n1_; have HO_5 := n2_; have HO242 := n3_; have BK238 := n4_; have HB := n5_; clear n0_ n1_ n2_ n3_ n4_ n5_; (try clear hb); (try clear hb2); (try clear hk); (try clear hi)) | (go_at_call 17; (with_reducible refine (impl_FaultyPipes.calls _ _ t223 2 t245 _ ?side1 ?side2 A30.out).mono ?_); (case side1 => repeat (first | exact (Kd.R_reads' HO_3.out).2.2 | (with_reducible refine Kd.C_alloc ?_ _) | (with_reducible refine Kd.C_drewN ?_ _) | (with_reducible refine Kd.C_drew ?_))); (case side2 => exact (Kd.R_reads' HO_3.out).2.1); rintro e w40 ⟨v246, rfl, ho0, hb⟩; have n0_ := Aside0.mk (Kd.R_below (oR HO_3) hb); have n1_ := Aside0.mk (Kd.R_elder' (oR HO_4) (Kd.R_base ho0) hb); have n2_ := Aside0.mk (Kd.R_elder' (oR HO_5) (Kd.R_base ho0) hb); have n3_ := Aside0.mk (Kd.R_below (oR HO242) hb); have n4_ := Aside0.mk (Kd.R_lower (Kd.R_newB (Kd.R_new' (Kd.R_new' ho0 (Kd.R_lt (oR HO_4))) (Kd.R_lt (oR HO_5))) (g := gb238) (o := .cells #[.int .i64 (Int.tmod t236 4), .int .i64 (Int.tmod t237 40)] 31 (0, 0)) (oK BK238)) (below_size (oB HB))); have n5_ := Aside0.mk (blk_below (g := gb238) (o := .cells #[.int .i64 (Int.tmod t236 4), .int .i64 (Int.tmod t237 40)] 31 (0, 0)) (oK BK238) hb); have n6_ := Aside0.mk (below_step (oB HB) hb); clear HO_3; clear HO_4; clear HO_5; clear HO242; clear BK238; clear HB; have HO_3 := n0_; have HO_4 := n1_; have HO_5 := n2_; have HO242 := n3_; have HO247 := n4_; have BK238 := n5_; have HB := n6_; clear n0_ n1_ n2_ n3_ n4_ n5_ n6_; (try clear hb); (try clear hb2); (try clear hk); (try clear hi); (try clear ho0); obtain ⟨Ao41, co41, eo41⟩ := Kd.R_slice HO247.out; subst eo41) | (go_at_call 18; (with_reducible refine (impl_LogOk.calls k1 _ _ t240 t248 _ ?side1 ?side2 A32.out).mono ?_); (case side1 => repeat (first | exact (Kd.R_reads' HO242.out).2.2 | (with_reducible refine Kd.C_alloc ?_ _) | (with_reducible refine Kd.C_drewN ?_ _) | (with_reducible refine Kd.C_drew ?_))); (case side2 => exact (Kd.R_reads' HO242.out).2.1); rintro e w42 ⟨rfl, hb⟩; have n0_ := Aside0.mk (Kd.R_below (oR HO_3) hb); have n1_ := Aside0.mk (Kd.R_below (oR HO_4) hb); have n2_ := Aside0.mk (Kd.R_below (oR HO_5) hb); have n3_ := Aside0.mk (Kd.R_below (oR HO242) hb); have n4_ := Aside0.mk (Kd.R_below (oR HO247) hb); have n5_ := Aside0.mk (blk_below (g := gb238) (o := .cells #[.int .i64 (Int.tmod t236 4), .int .i64 (Int.tmod t237 40)] 31 (0, 0)) (oK BK238) hb); have n6_ := Aside0.mk (below_step (oB HB) hb); clear HO_3; clear HO_4; clear HO_5; clear HO242; clear HO247; clear BK238; clear HB; have HO_3 := n0_; have HO_4 := n1_; have HO_5 := n2_; have HO242 := n3_; have HO247 := n4_; have BK238 := n5_; have HB := n6_; clear n0_ n1_ n2_ n3_ n4_ n5_ n6_; (try clear hb); (try clear hb2); (try clear hk); (try clear hi)))
                repeat (go_quiet (first | (go_at_call 15; (with_reducible refine (laws_at.calls _ _ l0 0 t236 _ ?side1 ?side2 A23.out).mono ?_); (case side1 => exact oc_ HR0.out); (case side2 => exact HC0.out); rintro e w' ⟨rfl, ⟨nd, rfl⟩⟩; (try first | exact ⟨rfl, _, World.drewN_drewN _ _ _⟩ | exact ⟨rfl, _, Eq.trans (World.drewN_drewN _ _ _) (congrArg (World.drewN _) (Nat.add_assoc _ _ _))⟩)) | (go_at_call 15; (with_reducible refine (laws_at.calls _ _ l0 1 t237 _ ?side1 ?side2 A24.out).mono ?_); (case side1 => repeat (first | exact (Kd.C_below HR0.out (oB HB)) | (with_reducible refine Kd.C_alloc ?_ _) | (with_reducible refine Kd.C_drewN ?_ _) | (with_reducible refine Kd.C_drew ?_))); (case side2 => exact HC0.out); rintro e w' ⟨rfl, ⟨nd, rfl⟩⟩; (try first | exact ⟨rfl, _, World.drewN_drewN _ _ _⟩ | exact ⟨rfl, _, Eq.trans (World.drewN_drewN _ _ _) (congrArg (World.drewN _) (Nat.add_assoc _ _ _))⟩)) | ((with_reducible refine gate_dst (N := 10) rfl ?_); (try (refine gate_guard (by rfl) ?_; dsimp only)); refine box_event ?hg (N := 10) ?hd (cs := #[.int .i64 0, .int .i64 0]) (t := 31) ?hr ?_; (case hd => rfl); (case hg => rfl); (case hr => first | (go_simp; done) | (go_simp; rfl)); intro gb238 hg w34 hbox hb; have n0_ := Aside0.mk (Kd.R_below (oR HO_3) hb); have n1_ := Aside0.mk (Kd.R_below (Kd.R_elderB (oR HO_4) gb238 (Nat.le_of_eq hg.symm)) hb); have n2_ := Aside0.mk (Kd.R_below (Kd.R_elderB (oR HO_5) gb238 (Nat.le_of_eq hg.symm)) hb); have n3_ := Aside0.mk (below_step (oB HB) hb); have n4_ := Aside0.mk (hbox); have n5_ := Aside0.mk ((by rw [hg]; exact (below_size (oB HB)) : w.heap.size ≤ gb238)); have n6_ := Aside0.mk ((by rw [hg]; exact (below_size (oB HB)) : w.heap.size ≤ gb238)); clear HO_3; clear HO_4; clear HO_5; clear HB; have HO_3 := n0_; have HO_4 := n1_; have HO_5 := n2_; have HB := n3_; have BK238 := n4_; have GW238 := n5_; have GE238 := n6_; clear n0_ n1_ n2_ n3_ n4_ n5_ n6_; clear hb hbox hg; have hcz35_0 : w34.cell? ⟨gb238, 0, none⟩ = some (.int .i64 0) := (blk_cell BK238.out 0).trans rfl; have hcz35_1 : w34.cell? ⟨gb238, 1, none⟩ = some (.int .i64 0) := (blk_cell BK238.out 1).trans rfl; have hfz35_0 := blk_frozen BK238.out 0; have hfz35_1 := blk_frozen BK238.out 1) | (go_at_call 15; (with_reducible refine (laws_at.calls _ _ l0 2 t239 _ ?side1 ?side2 A25.out).mono ?_); (case side1 => exact Kd.C_below HR0.out (oB HB)); (case side2 => exact HC0.out); rintro e w' ⟨rfl, ⟨nd, rfl⟩⟩; (try first | exact ⟨rfl, _, World.drewN_drewN _ _ _⟩ | exact ⟨rfl, _, Eq.trans (World.drewN_drewN _ _ _) (congrArg (World.drewN _) (Nat.add_assoc _ _ _))⟩)) | (go_at_call 16; (with_reducible refine (impl_AddEntry.calls k1 _ _ t223 (Int.tmod t236 4) (Int.tmod t237 40) (Int.tmod t239 3) 100000 t240 true _ ?side1 ?side2 A26.out).mono ?_); (case side1 => refine (Kd.R_reads' (e := 36) (base := w.heap.size) (ok := fun k_ => True) (n := t223.length) (c := co7) ?_).2.2; exact (by (with_reducible repeat (first | apply Kd.R_alloc | apply Kd.R_drewN | apply Kd.R_drew)); exact (Kd.R_mono (Kd.R_far (p := ⟨gb238, 1, none⟩) (Kd.R_far (p := ⟨gb238, 0, none⟩) (Kd.R_types HO_3.out BK238.out (by decide)) (fun _ hk => hk.2) (.int .i64 (Int.tmod t236 4))) (fun _ hk => hk.2) (.int .i64 (Int.tmod t237 40))) (fun _ h_ => h_.1)))); (case side2 => exact (Kd.R_reads' HO_3.out).2.1); rintro e w36 ⟨v241, rfl, ho0, hb⟩; have n0_ := Aside0.mk (Kd.R_elder' (by (with_reducible repeat (first | apply Kd.R_alloc | apply Kd.R_drewN | apply Kd.R_drew)); exact (Kd.R_mono (Kd.R_far (p := ⟨gb238, 1, none⟩) (Kd.R_far (p := ⟨gb238, 0, none⟩) (Kd.R_types HO_3.out BK238.out (by decide)) (fun _ hk => hk.2) (.int .i64 (Int.tmod t236 4))) (fun _ hk => hk.2) (.int .i64 (Int.tmod t237 40))) (fun _ h_ => h_.1))) (Kd.R_base ho0) hb); have n1_ := Aside0.mk (Kd.R_below (by (with_reducible repeat (first | apply Kd.R_alloc | apply Kd.R_drewN | apply Kd.R_drew)); exact (Kd.R_mono (Kd.R_far (p := ⟨gb238, 1, none⟩) (Kd.R_far (p := ⟨gb238, 0, none⟩) (Kd.R_mono HO_4.out (fun k_ hk => (⟨hk, hk.2⟩ : _ ∧ k_ ≠ gb238))) (fun _ hk => hk.2) (.int .i64 (Int.tmod t236 4))) (fun _ hk => hk.2) (.int .i64 (Int.tmod t237 40))) (fun _ h_ => h_.1))) hb); have n2_ := Aside0.mk (Kd.R_below (by (with_reducible repeat (first | apply Kd.R_alloc | apply Kd.R_drewN | apply Kd.R_drew)); exact (Kd.R_mono (Kd.R_far (p := ⟨gb238, 1, none⟩) (Kd.R_far (p := ⟨gb238, 0, none⟩) (Kd.R_mono HO_5.out (fun k_ hk => (⟨hk, hk.2⟩ : _ ∧ k_ ≠ gb238))) (fun _ hk => hk.2) (.int .i64 (Int.tmod t236 4))) (fun _ hk => hk.2) (.int .i64 (Int.tmod t237 40))) (fun _ h_ => h_.1))) hb); have n3_ := Aside0.mk (Kd.R_lower (Kd.R_new' ho0 (Kd.R_lt (by (with_reducible repeat (first | apply Kd.R_alloc | apply Kd.R_drewN | apply Kd.R_drew)); exact (Kd.R_mono (Kd.R_far (p := ⟨gb238, 1, none⟩) (Kd.R_far (p := ⟨gb238, 0, none⟩) (Kd.R_types HO_3.out BK238.out (by decide)) (fun _ hk => hk.2) (.int .i64 (Int.tmod t236 4))) (fun _ hk => hk.2) (.int .i64 (Int.tmod t237 40))) (fun _ h_ => h_.1))))) (below_size (oB HB))); have n4_ := Aside0.mk (blk_below (g := gb238) (o := .cells #[.int .i64 (Int.tmod t236 4), .int .i64 (Int.tmod t237 40)] 31 (0, 0)) (by (with_reducible repeat (first | refine blk_drewN ?_ _ | refine blk_drew ?_ | refine blk_alloc ?_ _)); refine blk_put (cs := #[.int .i64 (Int.tmod t236 4), .int .i64 0]) ?_ 1 _ rfl; (with_reducible repeat (first | refine blk_drewN ?_ _ | refine blk_drew ?_ | refine blk_alloc ?_ _)); refine blk_put (cs := #[.int .i64 0, .int .i64 0]) ?_ 0 _ rfl; (with_reducible repeat (first | refine blk_drewN ?_ _ | refine blk_drew ?_ | refine blk_alloc ?_ _)); exact BK238.out) hb); have n5_ := Aside0.mk (below_step (oB HB) hb); clear HO_3; clear HO_4; clear HO_5; clear BK238; clear HB; have HO_3 := n0_; have HO_4 := n1_; have HO_5 := n2_; have HO242 := n3_; have BK238 := n4_; have HB := n5_; clear n0_ n1_ n2_ n3_ n4_ n5_; (try clear hb); (try clear hb2); (try clear hk); (try clear hi); (try clear ho0); have hcz37_0 : w36.cell? ⟨gb238, 0, none⟩ = some (.int .i64 (Int.tmod t236 4)) := (blk_cell BK238.out 0).trans rfl; have hcz37_1 : w36.cell? ⟨gb238, 1, none⟩ = some (.int .i64 (Int.tmod t237 40)) := (blk_cell BK238.out 1).trans rfl; have hfz37_0 := blk_frozen BK238.out 0; have hfz37_1 := blk_frozen BK238.out 1; obtain ⟨Ao38, co38, eo38⟩ := Kd.R_slice HO242.out; subst eo38) | (go_at_call 14; (with_reducible refine (impl_FaultOf.calls _ _ t240 (Int.tmod t236 4) (Int.tmod t237 40) t244 _ ?side1 ?side2 A28.out).mono ?_); (case side1 => repeat (first | exact (Kd.R_reads' HO242.out).2.2 | (with_reducible refine Kd.C_alloc ?_ _) | (with_reducible refine Kd.C_drewN ?_ _) | (with_reducible refine Kd.C_drew ?_))); (case side2 => exact (Kd.R_reads' HO242.out).2.1); rintro e w39 ⟨rfl, hb⟩; have n0_ := Aside0.mk (Kd.R_below (oR HO_3) hb); have n1_ := Aside0.mk (Kd.R_below (oR HO_4) hb); have n2_ := Aside0.mk (Kd.R_below (oR HO_5) hb); have n3_ := Aside0.mk (Kd.R_below (oR HO242) hb); have n4_ := Aside0.mk (blk_below (g := gb238) (o := .cells #[.int .i64 (Int.tmod t236 4), .int .i64 (Int.tmod t237 40)] 31 (0, 0)) (oK BK238) hb); have n5_ := Aside0.mk (below_step (oB HB) hb); clear HO_3; clear HO_4; clear HO_5; clear HO242; clear BK238; clear HB; have HO_3 := n0_; have HO_4 := n1_; have HO_5 := n2_; have HO242 := n3_; have BK238 := n4_; have HB := n5_; clear n0_ n1_ n2_ n3_ n4_ n5_; (try clear hb); (try clear hb2); (try clear hk); (try clear hi)) | (go_at_call 17; (with_reducible refine (impl_FaultyPipes.calls _ _ t223 2 t245 _ ?side1 ?side2 A30.out).mono ?_); (case side1 => repeat (first | exact (Kd.R_reads' HO_3.out).2.2 | (with_reducible refine Kd.C_alloc ?_ _) | (with_reducible refine Kd.C_drewN ?_ _) | (with_reducible refine Kd.C_drew ?_))); (case side2 => exact (Kd.R_reads' HO_3.out).2.1); rintro e w40 ⟨v246, rfl, ho0, hb⟩; have n0_ := Aside0.mk (Kd.R_below (oR HO_3) hb); have n1_ := Aside0.mk (Kd.R_elder' (oR HO_4) (Kd.R_base ho0) hb); have n2_ := Aside0.mk (Kd.R_elder' (oR HO_5) (Kd.R_base ho0) hb); have n3_ := Aside0.mk (Kd.R_below (oR HO242) hb); have n4_ := Aside0.mk (Kd.R_lower (Kd.R_newB (Kd.R_new' (Kd.R_new' ho0 (Kd.R_lt (oR HO_4))) (Kd.R_lt (oR HO_5))) (g := gb238) (o := .cells #[.int .i64 (Int.tmod t236 4), .int .i64 (Int.tmod t237 40)] 31 (0, 0)) (oK BK238)) (below_size (oB HB))); have n5_ := Aside0.mk (blk_below (g := gb238) (o := .cells #[.int .i64 (Int.tmod t236 4), .int .i64 (Int.tmod t237 40)] 31 (0, 0)) (oK BK238) hb); have n6_ := Aside0.mk (below_step (oB HB) hb); clear HO_3; clear HO_4; clear HO_5; clear HO242; clear BK238; clear HB; have HO_3 := n0_; have HO_4 := n1_; have HO_5 := n2_; have HO242 := n3_; have HO247 := n4_; have BK238 := n5_; have HB := n6_; clear n0_ n1_ n2_ n3_ n4_ n5_ n6_; (try clear hb); (try clear hb2); (try clear hk); (try clear hi); (try clear ho0); obtain ⟨Ao41, co41, eo41⟩ := Kd.R_slice HO247.out; subst eo41) | (go_at_call 18; (with_reducible refine (impl_LogOk.calls k1 _ _ t240 t248 _ ?side1 ?side2 A32.out).mono ?_); (case side1 => repeat (first | exact (Kd.R_reads' HO242.out).2.2 | (with_reducible refine Kd.C_alloc ?_ _) | (with_reducible refine Kd.C_drewN ?_ _) | (with_reducible refine Kd.C_drew ?_))); (case side2 => exact (Kd.R_reads' HO242.out).2.1); rintro e w42 ⟨rfl, hb⟩; have n0_ := Aside0.mk (Kd.R_below (oR HO_3) hb); have n1_ := Aside0.mk (Kd.R_below (oR HO_4) hb); have n2_ := Aside0.mk (Kd.R_below (oR HO_5) hb); have n3_ := Aside0.mk (Kd.R_below (oR HO242) hb); have n4_ := Aside0.mk (Kd.R_below (oR HO247) hb); have n5_ := Aside0.mk (blk_below (g := gb238) (o := .cells #[.int .i64 (Int.tmod t236 4), .int .i64 (Int.tmod t237 40)] 31 (0, 0)) (oK BK238) hb); have n6_ := Aside0.mk (below_step (oB HB) hb); clear HO_3; clear HO_4; clear HO_5; clear HO242; clear HO247; clear BK238; clear HB; have HO_3 := n0_; have HO_4 := n1_; have HO_5 := n2_; have HO242 := n3_; have HO247 := n4_; have BK238 := n5_; have HB := n6_; clear n0_ n1_ n2_ n3_ n4_ n5_ n6_; (try clear hb); (try clear hb2); (try clear hk); (try clear hi))); try go_wp2_with (first | (go_at_call 15; (with_reducible refine (laws_at.calls _ _ l0 0 t236 _ ?side1 ?side2 A23.out).mono ?_); (case side1 => exact oc_ HR0.out); (case side2 => exact HC0.out); rintro e w' ⟨rfl, ⟨nd, rfl⟩⟩; (try first | exact ⟨rfl, _, World.drewN_drewN _ _ _⟩ | exact ⟨rfl, _, Eq.trans (World.drewN_drewN _ _ _) (congrArg (World.drewN _) (Nat.add_assoc _ _ _))⟩)) | (go_at_call 15; (with_reducible refine (laws_at.calls _ _ l0 1 t237 _ ?side1 ?side2 A24.out).mono ?_); (case side1 => repeat (first | exact (Kd.C_below HR0.out (oB HB)) | (with_reducible refine Kd.C_alloc ?_ _) | (with_reducible refine Kd.C_drewN ?_ _) | (with_reducible refine Kd.C_drew ?_))); (case side2 => exact HC0.out); rintro e w' ⟨rfl, ⟨nd, rfl⟩⟩; (try first | exact ⟨rfl, _, World.drewN_drewN _ _ _⟩ | exact ⟨rfl, _, Eq.trans (World.drewN_drewN _ _ _) (congrArg (World.drewN _) (Nat.add_assoc _ _ _))⟩)) | ((with_reducible refine gate_dst (N := 10) rfl ?_); (try (refine gate_guard (by rfl) ?_; dsimp only)); refine box_event ?hg (N := 10) ?hd (cs := #[.int .i64 0, .int .i64 0]) (t := 31) ?hr ?_; (case hd => rfl); (case hg => rfl); (case hr => first | (go_simp; done) | (go_simp; rfl)); intro gb238 hg w34 hbox hb; have n0_ := Aside0.mk (Kd.R_below (oR HO_3) hb); have n1_ := Aside0.mk (Kd.R_below (Kd.R_elderB (oR HO_4) gb238 (Nat.le_of_eq hg.symm)) hb); have n2_ := Aside0.mk (Kd.R_below (Kd.R_elderB (oR HO_5) gb238 (Nat.le_of_eq hg.symm)) hb); have n3_ := Aside0.mk (below_step (oB HB) hb); have n4_ := Aside0.mk (hbox); have n5_ := Aside0.mk ((by rw [hg]; exact (below_size (oB HB)) : w.heap.size ≤ gb238)); have n6_ := Aside0.mk ((by rw [hg]; exact (below_size (oB HB)) : w.heap.size ≤ gb238)); clear HO_3; clear HO_4; clear HO_5; clear HB; have HO_3 := n0_; have HO_4 := n1_; have HO_5 := n2_; have HB := n3_; have BK238 := n4_; have GW238 := n5_; have GE238 := n6_; clear n0_ n1_ n2_ n3_ n4_ n5_ n6_; clear hb hbox hg; have hcz35_0 : w34.cell? ⟨gb238, 0, none⟩ = some (.int .i64 0) := (blk_cell BK238.out 0).trans rfl; have hcz35_1 : w34.cell? ⟨gb238, 1, none⟩ = some (.int .i64 0) := (blk_cell BK238.out 1).trans rfl; have hfz35_0 := blk_frozen BK238.out 0; have hfz35_1 := blk_frozen BK238.out 1) | (go_at_call 15; (with_reducible refine (laws_at.calls _ _ l0 2 t239 _ ?side1 ?side2 A25.out).mono ?_); (case side1 => exact Kd.C_below HR0.out (oB HB)); (case side2 => exact HC0.out); rintro e w' ⟨rfl, ⟨nd, rfl⟩⟩; (try first | exact ⟨rfl, _, World.drewN_drewN _ _ _⟩ | exact ⟨rfl, _, Eq.trans (World.drewN_drewN _ _ _) (congrArg (World.drewN _) (Nat.add_assoc _ _ _))⟩)) | (go_at_call 16; (with_reducible refine (impl_AddEntry.calls k1 _ _ t223 (Int.tmod t236 4) (Int.tmod t237 40) (Int.tmod t239 3) 100000 t240 true _ ?side1 ?side2 A26.out).mono ?_); (case side1 => refine (Kd.R_reads' (e := 36) (base := w.heap.size) (ok := fun k_ => True) (n := t223.length) (c := co7) ?_).2.2; exact (by (with_reducible repeat (first | apply Kd.R_alloc | apply Kd.R_drewN | apply Kd.R_drew)); exact (Kd.R_mono (Kd.R_far (p := ⟨gb238, 1, none⟩) (Kd.R_far (p := ⟨gb238, 0, none⟩) (Kd.R_types HO_3.out BK238.out (by decide)) (fun _ hk => hk.2) (.int .i64 (Int.tmod t236 4))) (fun _ hk => hk.2) (.int .i64 (Int.tmod t237 40))) (fun _ h_ => h_.1)))); (case side2 => exact (Kd.R_reads' HO_3.out).2.1); rintro e w36 ⟨v241, rfl, ho0, hb⟩; have n0_ := Aside0.mk (Kd.R_elder' (by (with_reducible repeat (first | apply Kd.R_alloc | apply Kd.R_drewN | apply Kd.R_drew)); exact (Kd.R_mono (Kd.R_far (p := ⟨gb238, 1, none⟩) (Kd.R_far (p := ⟨gb238, 0, none⟩) (Kd.R_types HO_3.out BK238.out (by decide)) (fun _ hk => hk.2) (.int .i64 (Int.tmod t236 4))) (fun _ hk => hk.2) (.int .i64 (Int.tmod t237 40))) (fun _ h_ => h_.1))) (Kd.R_base ho0) hb); have n1_ := Aside0.mk (Kd.R_below (by (with_reducible repeat (first | apply Kd.R_alloc | apply Kd.R_drewN | apply Kd.R_drew)); exact (Kd.R_mono (Kd.R_far (p := ⟨gb238, 1, none⟩) (Kd.R_far (p := ⟨gb238, 0, none⟩) (Kd.R_mono HO_4.out (fun k_ hk => (⟨hk, hk.2⟩ : _ ∧ k_ ≠ gb238))) (fun _ hk => hk.2) (.int .i64 (Int.tmod t236 4))) (fun _ hk => hk.2) (.int .i64 (Int.tmod t237 40))) (fun _ h_ => h_.1))) hb); have n2_ := Aside0.mk (Kd.R_below (by (with_reducible repeat (first | apply Kd.R_alloc | apply Kd.R_drewN | apply Kd.R_drew)); exact (Kd.R_mono (Kd.R_far (p := ⟨gb238, 1, none⟩) (Kd.R_far (p := ⟨gb238, 0, none⟩) (Kd.R_mono HO_5.out (fun k_ hk => (⟨hk, hk.2⟩ : _ ∧ k_ ≠ gb238))) (fun _ hk => hk.2) (.int .i64 (Int.tmod t236 4))) (fun _ hk => hk.2) (.int .i64 (Int.tmod t237 40))) (fun _ h_ => h_.1))) hb); have n3_ := Aside0.mk (Kd.R_lower (Kd.R_new' ho0 (Kd.R_lt (by (with_reducible repeat (first | apply Kd.R_alloc | apply Kd.R_drewN | apply Kd.R_drew)); exact (Kd.R_mono (Kd.R_far (p := ⟨gb238, 1, none⟩) (Kd.R_far (p := ⟨gb238, 0, none⟩) (Kd.R_types HO_3.out BK238.out (by decide)) (fun _ hk => hk.2) (.int .i64 (Int.tmod t236 4))) (fun _ hk => hk.2) (.int .i64 (Int.tmod t237 40))) (fun _ h_ => h_.1))))) (below_size (oB HB))); have n4_ := Aside0.mk (blk_below (g := gb238) (o := .cells #[.int .i64 (Int.tmod t236 4), .int .i64 (Int.tmod t237 40)] 31 (0, 0)) (by (with_reducible repeat (first | refine blk_drewN ?_ _ | refine blk_drew ?_ | refine blk_alloc ?_ _)); refine blk_put (cs := #[.int .i64 (Int.tmod t236 4), .int .i64 0]) ?_ 1 _ rfl; (with_reducible repeat (first | refine blk_drewN ?_ _ | refine blk_drew ?_ | refine blk_alloc ?_ _)); refine blk_put (cs := #[.int .i64 0, .int .i64 0]) ?_ 0 _ rfl; (with_reducible repeat (first | refine blk_drewN ?_ _ | refine blk_drew ?_ | refine blk_alloc ?_ _)); exact BK238.out) hb); have n5_ := Aside0.mk (below_step (oB HB) hb); clear HO_3; clear HO_4; clear HO_5; clear BK238; clear HB; have HO_3 := n0_; have HO_4 := n1_; have HO_5 := n2_; have HO242 := n3_; have BK238 := n4_; have HB := n5_; clear n0_ n1_ n2_ n3_ n4_ n5_; (try clear hb); (try clear hb2); (try clear hk); (try clear hi); (try clear ho0); have hcz37_0 : w36.cell? ⟨gb238, 0, none⟩ = some (.int .i64 (Int.tmod t236 4)) := (blk_cell BK238.out 0).trans rfl; have hcz37_1 : w36.cell? ⟨gb238, 1, none⟩ = some (.int .i64 (Int.tmod t237 40)) := (blk_cell BK238.out 1).trans rfl; have hfz37_0 := blk_frozen BK238.out 0; have hfz37_1 := blk_frozen BK238.out 1; obtain ⟨Ao38, co38, eo38⟩ := Kd.R_slice HO242.out; subst eo38) | (go_at_call 14; (with_reducible refine (impl_FaultOf.calls _ _ t240 (Int.tmod t236 4) (Int.tmod t237 40) t244 _ ?side1 ?side2 A28.out).mono ?_); (case side1 => repeat (first | exact (Kd.R_reads' HO242.out).2.2 | (with_reducible refine Kd.C_alloc ?_ _) | (with_reducible refine Kd.C_drewN ?_ _) | (with_reducible refine Kd.C_drew ?_))); (case side2 => exact (Kd.R_reads' HO242.out).2.1); rintro e w39 ⟨rfl, hb⟩; have n0_ := Aside0.mk (Kd.R_below (oR HO_3) hb); have n1_ := Aside0.mk (Kd.R_below (oR HO_4) hb); have n2_ := Aside0.mk (Kd.R_below (oR HO_5) hb); have n3_ := Aside0.mk (Kd.R_below (oR HO242) hb); have n4_ := Aside0.mk (blk_below (g := gb238) (o := .cells #[.int .i64 (Int.tmod t236 4), .int .i64 (Int.tmod t237 40)] 31 (0, 0)) (oK BK238) hb); have n5_ := Aside0.mk (below_step (oB HB) hb); clear HO_3; clear HO_4; clear HO_5; clear HO242; clear BK238; clear HB; have HO_3 := n0_; have HO_4 := n1_; have HO_5 := n2_; have HO242 := n3_; have BK238 := n4_; have HB := n5_; clear n0_ n1_ n2_ n3_ n4_ n5_; (try clear hb); (try clear hb2); (try clear hk); (try clear hi)) | (go_at_call 17; (with_reducible refine (impl_FaultyPipes.calls _ _ t223 2 t245 _ ?side1 ?side2 A30.out).mono ?_); (case side1 => repeat (first | exact (Kd.R_reads' HO_3.out).2.2 | (with_reducible refine Kd.C_alloc ?_ _) | (with_reducible refine Kd.C_drewN ?_ _) | (with_reducible refine Kd.C_drew ?_))); (case side2 => exact (Kd.R_reads' HO_3.out).2.1); rintro e w40 ⟨v246, rfl, ho0, hb⟩; have n0_ := Aside0.mk (Kd.R_below (oR HO_3) hb); have n1_ := Aside0.mk (Kd.R_elder' (oR HO_4) (Kd.R_base ho0) hb); have n2_ := Aside0.mk (Kd.R_elder' (oR HO_5) (Kd.R_base ho0) hb); have n3_ := Aside0.mk (Kd.R_below (oR HO242) hb); have n4_ := Aside0.mk (Kd.R_lower (Kd.R_newB (Kd.R_new' (Kd.R_new' ho0 (Kd.R_lt (oR HO_4))) (Kd.R_lt (oR HO_5))) (g := gb238) (o := .cells #[.int .i64 (Int.tmod t236 4), .int .i64 (Int.tmod t237 40)] 31 (0, 0)) (oK BK238)) (below_size (oB HB))); have n5_ := Aside0.mk (blk_below (g := gb238) (o := .cells #[.int .i64 (Int.tmod t236 4), .int .i64 (Int.tmod t237 40)] 31 (0, 0)) (oK BK238) hb); have n6_ := Aside0.mk (below_step (oB HB) hb); clear HO_3; clear HO_4; clear HO_5; clear HO242; clear BK238; clear HB; have HO_3 := n0_; have HO_4 := n1_; have HO_5 := n2_; have HO242 := n3_; have HO247 := n4_; have BK238 := n5_; have HB := n6_; clear n0_ n1_ n2_ n3_ n4_ n5_ n6_; (try clear hb); (try clear hb2); (try clear hk); (try clear hi); (try clear ho0); obtain ⟨Ao41, co41, eo41⟩ := Kd.R_slice HO247.out; subst eo41) | (go_at_call 18; (with_reducible refine (impl_LogOk.calls k1 _ _ t240 t248 _ ?side1 ?side2 A32.out).mono ?_); (case side1 => repeat (first | exact (Kd.R_reads' HO242.out).2.2 | (with_reducible refine Kd.C_alloc ?_ _) | (with_reducible refine Kd.C_drewN ?_ _) | (with_reducible refine Kd.C_drew ?_))); (case side2 => exact (Kd.R_reads' HO242.out).2.1); rintro e w42 ⟨rfl, hb⟩; have n0_ := Aside0.mk (Kd.R_below (oR HO_3) hb); have n1_ := Aside0.mk (Kd.R_below (oR HO_4) hb); have n2_ := Aside0.mk (Kd.R_below (oR HO_5) hb); have n3_ := Aside0.mk (Kd.R_below (oR HO242) hb); have n4_ := Aside0.mk (Kd.R_below (oR HO247) hb); have n5_ := Aside0.mk (blk_below (g := gb238) (o := .cells #[.int .i64 (Int.tmod t236 4), .int .i64 (Int.tmod t237 40)] 31 (0, 0)) (oK BK238) hb); have n6_ := Aside0.mk (below_step (oB HB) hb); clear HO_3; clear HO_4; clear HO_5; clear HO242; clear HO247; clear BK238; clear HB; have HO_3 := n0_; have HO_4 := n1_; have HO_5 := n2_; have HO242 := n3_; have HO247 := n4_; have BK238 := n5_; have HB := n6_; clear n0_ n1_ n2_ n3_ n4_ n5_ n6_; (try clear hb); (try clear hb2); (try clear hk); (try clear hi))))
                go_ret
                exact ⟨by first | rfl | (simp [errW_none, errW_some] <;> rfl) | (simp [*, errW_none, errW_some] <;> rfl), oB HB⟩
              · rw [if_neg c31] at H
                have c31b0 : decide ((t245.length : Int) ≤ (t229.length : Int)) = false := decide_eq_false c31
                have c31b1 : decide (t245.length ≤ t229.length) = false := decide_eq_false (fun h => c31 (Int.ofNat_le.mpr h))
                clear c31
                exact absurd ((Option.some.inj H).trans hrt_.out) (by decide)
            · rw [if_neg c29] at H
              have c29b0 : (t244 == (Int.tmod t239 3)) = false := beq_eq_false_iff_ne.mpr c29
              have c29b1 : (t244 != (Int.tmod t239 3)) = true := bne_iff_ne.mpr c29
              exact absurd ((Option.some.inj H).trans hrt_.out) (by decide)
          · replace c27 := Bool.eq_false_iff.mpr c27
            subst c27
            rw [if_neg (show ¬ (false = true) by decide)] at H
            exact absurd ((Option.some.inj H).trans hrt_.out) (by decide)
def laws_FnLogs.Pure : Prop := ∀ (l0 : List Int), l0.length ≤ maxLen → l0.length * 1 ≤ 140737488351232 → (∀ x ∈ l0, (Lit.int .u8 x).wf = true) → ∃ k, laws_FnLogs.f k l0 = some true
theorem laws_FnLogs.walk (P : laws_FnLogs.Pure) (a0 : Option Addr) (len0 cap0 : Nat) (z0 : List Int) (w : World) (w0 : (a0 = none ∧ len0 = 0 ∧ cap0 = 0 ∧ z0 = []) ∨ ∃ x, a0 = some x ∧ len0 ≤ cap0 ∧ cap0 ≤ maxLen ∧ z0.length = cap0 ∧ (∀ i, i < z0.length → w.cell? (x.add i) = some (.int .u8 (z0.getD i 0))) ∧ ∀ n ∈ z0, (Lit.int .u8 n).wf = true) (y0 : len0 * 1 ≤ 140737488351232) :
    Calls Try.prog 3 #[.slice a0 len0 cap0] w fun e w' => e = .returned (.bool true) ∧ Below w.heap.size w w' := by
  obtain ⟨l0, rfl, hr0, hm0, hw0, hc0⟩ := ReadsInt.ofRowC w0
  obtain ⟨k, h⟩ := P l0 hm0 y0 hw0
  refine (laws_FnLogs.calls k _ _ l0 true w (Kd.C_of_reads (d := (0 : Int)) (h1 := fun _ => rfl) hr0) hc0 h ⟨rfl⟩).mono ?_
  rintro e w' ⟨rfl, hd⟩
  exact ⟨rfl, hd⟩
end Go.Proofs.Ytnknnbpodpfljaa.P


namespace Go.Proofs.Ytnknnbpodpfljaa.Q
set_option linter.unusedVariables false
set_option linter.unusedSimpArgs false
open Go.RowKit Go.Proofs.Ytnknnbpodpfljaa.P Go.Proofs.YtnknnbpodpfljaaW.PrintWords Go.Proofs.YtnknnbpodpfljaaW.PrintMore
theorem bits_and (x y : Int) : Go.bits .and .i64 x y = wrap64 (((BitVec.ofInt IntKind.i64.bits x &&& BitVec.ofInt IntKind.i64.bits y).toNat : Nat) : Int) := by
  unfold Go.bits
  rw [IntWalk.i64_left]
theorem bits255 (x : Int) : 0 ≤ Go.bits .and .i64 x 255 ∧ Go.bits .and .i64 x 255 ≤ 255 := by
  have h2 : (BitVec.ofInt IntKind.i64.bits 255).toNat ≤ 255 := by decide
  rw [bits_and]
  obtain ⟨y, hy⟩ : ∃ y, BitVec.ofInt IntKind.i64.bits 255 = y := ⟨_, rfl⟩
  rw [hy] at h2 ⊢
  have h : (BitVec.ofInt IntKind.i64.bits x &&& y).toNat ≤ 255 := by
    rw [BitVec.toNat_and]; exact Nat.le_trans Nat.and_le_right h2
  rw [w64 (by omega) (by omega)]
  omega
section
variable (b : List Int) (hb : b.length ≤ 1048576)
include hb
theorem byte_ev (i h : Int) (hi : 0 ≤ i) : ∃ v i' h', spec_l01Byte.f b i h = some (v, i', h') ∧ 0 ≤ v ∧ v ≤ 255 ∧ 0 ≤ i' := by
  unfold spec_l01Byte.f
  by_cases h1 : i < (b.length : Int)
  · rw [if_pos h1, if_pos hi]
    exact ⟨_, _, _, rfl, (bits255 _).1, (bits255 _).2, by rw [w64 (by omega) (by omega)]; omega⟩
  · rw [if_neg h1]
    exact ⟨_, _, _, rfl, (bits255 _).1, (bits255 _).2, hi⟩
theorem below_ev (i h n : Int) (hi : 0 ≤ i) : ∃ v i' h', spec_l01Below.f b i h n = some (v, i', h') ∧ 0 ≤ v ∧ (0 < n → v < n) ∧ (n ≤ 0 → v = 0) ∧ 0 ≤ i' := by
  unfold spec_l01Below.f
  by_cases h1 : n ≤ 0
  · rw [if_pos h1]
    exact ⟨_, _, _, rfl, by omega, by omega, fun _ => rfl, hi⟩
  rw [if_neg h1]
  have key : ∀ v : Int, 0 ≤ v → 0 ≤ Int.tmod v n ∧ (0 < n → Int.tmod v n < n) := fun v hv => ⟨Int.tmod_nonneg n hv, fun h2 => by rw [Int.tmod_eq_emod_of_nonneg hv]; exact Int.emod_lt_of_pos v h2⟩
  by_cases h2 : n ≤ 256
  · rw [if_pos h2]
    obtain ⟨v, i1, h1', e, v0, v1, i0⟩ := byte_ev b hb i h hi
    rw [e, Option.bind_some, if_neg (by omega)]
    exact ⟨_, _, _, rfl, (key v v0).1, (key v v0).2, by omega, i0⟩
  rw [if_neg h2]
  obtain ⟨x, i1, g1, e1, x0, x1, j1⟩ := byte_ev b hb i h hi
  obtain ⟨y, i2, g2, e2, y0, y1, j2⟩ := byte_ev b hb i1 g1 j1
  obtain ⟨z, i3, g3, e3, z0, z1, j3⟩ := byte_ev b hb i2 g2 j2
  obtain ⟨u, i4, g4, e4, u0, u1, j4⟩ := byte_ev b hb i3 g3 j3
  rw [e1, Option.bind_some]; dsimp only
  rw [e2, Option.bind_some]; dsimp only
  rw [e3, Option.bind_some]; dsimp only
  rw [e4, Option.bind_some, if_neg (by omega)]; dsimp only
  rw [w64 (n := x * 16777216) (by omega) (by omega), w64 (n := y * 65536) (by omega) (by omega), w64 (n := z * 256) (by omega) (by omega), w64 (n := x * 16777216 + y * 65536) (by omega) (by omega), w64 (n := x * 16777216 + y * 65536 + z * 256) (by omega) (by omega), w64 (by omega) (by omega)]
  exact ⟨_, _, _, rfl, (key _ (by omega)).1, (key _ (by omega)).2, by omega, j4⟩
omit hb in
theorem new_ev : ∃ h, Ev (fun k => spec_l01New.f k b) (b, 0, h) := by
  have key : ∀ i, i ≤ b.length → ∀ x : Int, ∃ h, Ev (fun k => spec_l01New.l0 k b x (i : Int)) (b, 0, h) := by
    refine down (n := b.length) ?_ ?_
    · intro x
      exact ⟨x, Ev.step (fun k => by rw [spec_l01New.l0]) (evn (by omega) (Ev.now _))⟩
    · intro i hi ih x
      by_cases h4 : (i : Int) < 4000
      · obtain ⟨h, he⟩ := ih (Go.bits .and .i64 (wrap64 ((wrap64 ((wrap64 (x * 131)) + (wrap64 (rd b (i : Int))))) + 7)) 1073741823)
        refine ⟨h, Ev.step (fun k => by rw [spec_l01New.l0]) (evp (by omega) (evp h4 (evp (by omega) ?_)))⟩
        rw [w64 (n := (i : Int) + 1) (by omega) (by omega)]
        exact he
      · exact ⟨x, Ev.step (fun k => by rw [spec_l01New.l0]) (evp (by omega) (evn h4 (Ev.now _)))⟩
  unfold spec_l01New.f
  exact key 0 (Nat.zero_le _) _
end
end Go.Proofs.Ytnknnbpodpfljaa.Q


namespace Go.Proofs.Ytnknnbpodpfljaa.Q
set_option linter.unusedVariables false
set_option linter.unusedSimpArgs false
open Go.RowKit Go.Proofs.Ytnknnbpodpfljaa.P Go.Proofs.YtnknnbpodpfljaaW.PrintWords Go.Proofs.YtnknnbpodpfljaaW.PrintMore
theorem logGo_snoc (e : S36) (t : Int) (he : entOk e = true) (ht : t ≤ e.f2) : ∀ (l : List S36) (p : Int), p ≤ t → logGo p l = true → (∀ x ∈ l, x.f2 ≤ t) → logGo p (l ++ [e]) = true
  | [], p, hp, _, _ => by
    simp only [List.nil_append, logGo, he, Bool.true_and, Bool.and_true, decide_eq_true_eq]
    omega
  | x :: r, p, hp, h, hx => by
    simp only [logGo, Bool.and_eq_true] at h
    simp only [List.cons_append, logGo, Bool.and_eq_true]
    exact ⟨h.1, h.2.1, logGo_snoc e t he ht r x.f2 (hx x (by simp)) h.2.2 (fun y hy => hx y (by simp [hy]))⟩
theorem entOk_mk {r n f m : Int} (h1 : 0 ≤ r ∧ r ≤ 3) (h2 : 0 ≤ n ∧ n ≤ 39) (h3 : 0 ≤ f ∧ f ≤ 2) (h4 : 0 ≤ m ∧ m ≤ 100000) : entOk ⟨⟨r, n⟩, f, m⟩ = true := by
  simp [entOk, h1, h2, h3, h4]
def gLog (l : List S36) : Prop := logGo 0 l = true ∧ l.length ≤ 8 ∧ ∀ x ∈ l, x.f2 ≤ 100
theorem gLog_ok {l : List S36} (h : gLog l) : logOk l = true := by
  unfold logOk
  rw [h.1, Bool.true_and, decide_eq_true_eq]
  have := h.2.1
  omega
def gPipe (p : S31) : Prop := 0 ≤ p.f0 ∧ p.f0 ≤ 1 ∧ 0 ≤ p.f1 ∧ p.f1 ≤ 5
section
variable (b : List Int) (hb : b.length ≤ 1048576)
include hb
theorem pipe_ev (i h : Int) (hi : 0 ≤ i) : ∃ r n i' h', spec_l34Pipe.f b i h = some (r, n, i', h') ∧ gPipe ⟨r, n⟩ ∧ 0 ≤ i' := by
  unfold spec_l34Pipe.f
  obtain ⟨r, i1, h1, e1, r0, r1, _, j1⟩ := below_ev b hb i h 2 hi
  obtain ⟨n, i2, h2, e2, n0, n1, _, j2⟩ := below_ev b hb i1 h1 6 j1
  rw [e1, Option.bind_some]; dsimp only
  rw [e2, Option.bind_some]
  exact ⟨_, _, _, _, rfl, ⟨r0, by have := r1 (by omega); dsimp only; omega, n0, by have := n1 (by omega); dsimp only; omega⟩, j2⟩
theorem log_ev (i h : Int) (hi : 0 ≤ i) : ∃ l i' h', Ev (fun k => spec_l34Log.f k b i h) (l, i', h') ∧ gLog l ∧ 0 ≤ i' := by
  obtain ⟨n, i1, h1, e1, n0, n1, _, j1⟩ := below_ev b hb i h 9 hi
  have n2 := n1 (by omega)
  obtain ⟨N, rfl⟩ := Int.eq_ofNat_of_zero_le n0
  have key : ∀ m : Nat, m ≤ N → ∀ (acc : List S36) (t i h : Int), 0 ≤ i → acc.length = N - m → 0 ≤ t → t ≤ 3 * ((N - m : Nat) : Int) → logGo 0 acc = true → (∀ x ∈ acc, x.f2 ≤ t) →
      ∃ l i' h', Ev (fun k => spec_l34Log.l0 k acc t (N : Int) ((N - m : Nat) : Int) b i h) (l, i', h') ∧ gLog l ∧ 0 ≤ i' := by
    intro m
    induction m with
    | zero =>
      intro _ acc t i h hi hl ht0 ht hg hx
      refine ⟨acc, i, h, Ev.step (fun k => by rw [spec_l34Log.l0]) (evn (by omega) (Ev.now _)), ⟨hg, by omega, fun x hx2 => by have := hx x hx2; omega⟩, hi⟩
    | succ m ih =>
      intro hm acc t i h hi hl ht0 ht hg hx
      obtain ⟨d, i1, h1, e1, d0, d1, _, j1⟩ := below_ev b hb i h 4 hi
      have d2 := d1 (by omega)
      obtain ⟨r, q, i2, h2, e2, ⟨p0, p1, p2, p3⟩, j2⟩ := pipe_ev b hb i1 h1 j1
      obtain ⟨f, i3, h3, e3, f0, f1, _, j3⟩ := below_ev b hb i2 h2 3 j2
      have f2 := f1 (by omega)
      dsimp only at p0 p1 p2 p3
      have he : entOk ⟨⟨r, q⟩, f, t + d⟩ = true := entOk_mk (by omega) (by omega) (by omega) (by omega)
      obtain ⟨l, i', h', e, g, j⟩ := ih (by omega) (acc ++ [⟨⟨r, q⟩, f, t + d⟩]) (t + d) i3 h3 j3 (by simp; omega) (by omega) (by omega) (logGo_snoc _ t he (by dsimp only; omega) acc 0 ht0 hg hx) (fun x hx2 => by
        rcases List.mem_append.1 hx2 with hx2 | hx2
        · have := hx x hx2; omega
        · rw [List.mem_singleton] at hx2; subst hx2; exact Int.le_refl _)
      refine ⟨l, i', h', Ev.step (fun k => by rw [spec_l34Log.l0]) (evp (by omega) (evb e1 (evb e2 (evb e3 ?_)))), g, j⟩
      dsimp only
      refine evp (show acc.length < 4398046511104 by omega) ?_
      rw [w64 (n := t + d) (by omega) (by omega), w64 (n := ((N - (m + 1) : Nat) : Int) + 1) (by omega) (by omega), show ((N - (m + 1) : Nat) : Int) + 1 = ((N - m : Nat) : Int) by omega]
      exact e
  obtain ⟨l, i', h', e, g, j⟩ := key N (Nat.le_refl _) [] 0 i1 h1 j1 (by simp) (Int.le_refl _) (by omega) rfl (fun x hx => by cases hx)
  refine ⟨l, i', h', ?_, g, j⟩
  unfold spec_l34Log.f
  refine evb e1 ?_
  simpa using e
theorem pipes_ev (i h : Int) (hi : 0 ≤ i) : ∃ l i' h', Ev (fun k => spec_l34Pipes.f k b i h) (l, i', h') ∧ l.length ≤ 5 ∧ ∀ p ∈ l, gPipe p := by
  obtain ⟨n, i1, h1, e1, n0, n1, _, j1⟩ := below_ev b hb i h 6 hi
  have n2 := n1 (by omega)
  obtain ⟨N, rfl⟩ := Int.eq_ofNat_of_zero_le n0
  have key : ∀ m : Nat, m ≤ N → ∀ (acc : List S31) (i h : Int), 0 ≤ i → acc.length = N - m → (∀ x ∈ acc, gPipe x) →
      ∃ l i' h', Ev (fun k => spec_l34Pipes.l0 k acc (N : Int) ((N - m : Nat) : Int) b i h) (l, i', h') ∧ l.length ≤ 5 ∧ ∀ p ∈ l, gPipe p := by
    intro m
    induction m with
    | zero =>
      intro _ acc i h hi hl hx
      exact ⟨acc, i, h, Ev.step (fun k => by rw [spec_l34Pipes.l0]) (evn (by omega) (Ev.now _)), by omega, hx⟩
    | succ m ih =>
      intro hm acc i h hi hl hx
      obtain ⟨r, q, i2, h2, e2, g2, j2⟩ := pipe_ev b hb i h hi
      obtain ⟨l, i', h', e, g, j⟩ := ih (by omega) (acc ++ [⟨r, q⟩]) i2 h2 j2 (by simp; omega) (fun x hx2 => by
        rcases List.mem_append.1 hx2 with hx2 | hx2
        · exact hx x hx2
        · rw [List.mem_singleton] at hx2; subst hx2; exact g2)
      refine ⟨l, i', h', Ev.step (fun k => by rw [spec_l34Pipes.l0]) (evp (by omega) (evb e2 ?_)), g, j⟩
      dsimp only
      refine evp (show acc.length < 8796093022208 by omega) ?_
      rw [w64 (n := ((N - (m + 1) : Nat) : Int) + 1) (by omega) (by omega), show ((N - (m + 1) : Nat) : Int) + 1 = ((N - m : Nat) : Int) by omega]
      exact e
  obtain ⟨l, i', h', e, g⟩ := key N (Nat.le_refl _) [] i1 h1 j1 (by simp) (fun x hx => by cases hx)
  refine ⟨l, i', h', ?_, g⟩
  unfold spec_l34Pipes.f
  refine evb e1 ?_
  simpa using e
theorem drawLog_ev : ∃ l p, Ev (fun k => spec_DrawLog.f k b) (l, p) ∧ gLog l ∧ p.length ≤ 5 ∧ ∀ x ∈ p, gPipe x := by
  obtain ⟨h, e0⟩ := new_ev b
  obtain ⟨l, i1, h1, e1, g1, j1⟩ := log_ev b hb 0 h (Int.le_refl _)
  obtain ⟨p, i2, h2, e2, g2, g3⟩ := pipes_ev b hb i1 h1 j1
  refine ⟨l, p, ?_, g1, g2, g3⟩
  unfold spec_DrawLog.f
  exact Ev.bind e0 (Ev.bind e1 (Ev.bind e2 (Ev.now _)))
end
end Go.Proofs.Ytnknnbpodpfljaa.Q


namespace Go.Proofs.Ytnknnbpodpfljaa.Q
set_option linter.unusedVariables false
set_option linter.unusedSimpArgs false
open Go.RowKit Go.Proofs.Ytnknnbpodpfljaa.P Go.Proofs.YtnknnbpodpfljaaW.PrintWords Go.Proofs.YtnknnbpodpfljaaW.PrintMore
theorem faultOf_snoc (l : List S36) (x : S36) (p : S31) : faultOf (l ++ [x]) p = if p = x.f0 then x.f1 else faultOf l p := by
  unfold faultOf
  rw [lastMap_snoc]
  by_cases h : p = x.f0 <;> simp [h]
theorem fault_impl (l : List S36) (a b : Int) (ha : P.wf64 a) (hb : P.wf64 b) (hl : l.length ≤ 1048577) : impl_FaultOf.f l a b = some (if logOk l = true then faultOf l ⟨a, b⟩ else 0) := by
  unfold impl_FaultOf.f
  rw [if_pos ⟨ha, hb, hl⟩]
end Go.Proofs.Ytnknnbpodpfljaa.Q


namespace Go.Proofs.Ytnknnbpodpfljaa.Q
set_option linter.unusedVariables false
set_option linter.unusedSimpArgs false
open Go.RowKit Go.Proofs.Ytnknnbpodpfljaa.P Go.Proofs.YtnknnbpodpfljaaW.PrintWords Go.Proofs.YtnknnbpodpfljaaW.PrintMore
def lineF (l : List S36) (f r : Int) : Nat → List S31
  | 0 => []
  | m + 1 => (if faultOf l ⟨r, 39 - (m : Int)⟩ = f then [(⟨r, 39 - (m : Int)⟩ : S31)] else []) ++ lineF l f r m
def rowsF (l : List S36) (f : Int) : Nat → List S31
  | 0 => []
  | m + 1 => lineF l f (3 - (m : Int)) 40 ++ rowsF l f m
theorem mem_lineF (l : List S36) (f r : Int) (p : S31) : ∀ m : Nat, p ∈ lineF l f r m ↔ p.f0 = r ∧ 40 - (m : Int) ≤ p.f1 ∧ p.f1 < 40 ∧ faultOf l p = f
  | 0 => by simp [lineF]; omega
  | m + 1 => by
    unfold lineF
    rw [List.mem_append, mem_lineF l f r p m]
    by_cases h : faultOf l ⟨r, 39 - (m : Int)⟩ = f
    · rw [if_pos h, List.mem_singleton]
      constructor
      · rintro (rfl | ⟨h1, h2, h3, h4⟩)
        · exact ⟨rfl, by simp only; omega, by simp only; omega, h⟩
        · exact ⟨h1, by omega, h3, h4⟩
      · rintro ⟨h1, h2, h3, h4⟩
        by_cases he : p.f1 = 39 - (m : Int)
        · exact .inl (pipe_ext h1 he)
        · exact .inr ⟨h1, by omega, h3, h4⟩
    · rw [if_neg h]
      constructor
      · rintro (h0 | ⟨h1, h2, h3, h4⟩)
        · cases h0
        · exact ⟨h1, by omega, h3, h4⟩
      · rintro ⟨h1, h2, h3, h4⟩
        by_cases he : p.f1 = 39 - (m : Int)
        · have : p = ⟨r, 39 - (m : Int)⟩ := pipe_ext h1 he
          rw [this] at h4
          exact absurd h4 h
        · exact .inr ⟨h1, by omega, h3, h4⟩
theorem sorted_lineF (l : List S36) (f r : Int) : ∀ m : Nat, (lineF l f r m).Pairwise (fun a b => beforeP a b = true)
  | 0 => List.Pairwise.nil
  | m + 1 => by
    unfold lineF
    refine List.pairwise_append.2 ⟨by split <;> simp, sorted_lineF l f r m, fun a ha b hb => ?_⟩
    obtain ⟨h1, h2, h3, h4⟩ := (mem_lineF l f r b m).mp hb
    split at ha
    · rw [List.mem_singleton] at ha
      subst ha
      rw [beforeP_iff]
      simp only
      omega
    · cases ha
theorem lineF_len (l : List S36) (f r : Int) : ∀ m : Nat, (lineF l f r m).length ≤ m
  | 0 => Nat.le_refl _
  | m + 1 => by
    have := lineF_len l f r m
    unfold lineF
    rw [List.length_append]
    split <;> simp <;> omega
theorem mem_rowsF (l : List S36) (f : Int) (p : S31) : ∀ m : Nat, p ∈ rowsF l f m ↔ 4 - (m : Int) ≤ p.f0 ∧ p.f0 < 4 ∧ 0 ≤ p.f1 ∧ p.f1 < 40 ∧ faultOf l p = f
  | 0 => by simp [rowsF]; omega
  | m + 1 => by
    unfold rowsF
    rw [List.mem_append, mem_rowsF l f p m, mem_lineF]
    constructor
    · rintro (⟨h1, h2, h3, h4⟩ | ⟨h1, h2, h3, h4, h5⟩)
      · exact ⟨by omega, by omega, by omega, by omega, h4⟩
      · exact ⟨by omega, by omega, by omega, by omega, h5⟩
    · rintro ⟨h1, h2, h3, h4, h5⟩
      by_cases he : p.f0 = 3 - (m : Int)
      · exact .inl ⟨he, by omega, by omega, h5⟩
      · exact .inr ⟨by omega, by omega, by omega, by omega, h5⟩
theorem sorted_rowsF (l : List S36) (f : Int) : ∀ m : Nat, (rowsF l f m).Pairwise (fun a b => beforeP a b = true)
  | 0 => List.Pairwise.nil
  | m + 1 => by
    unfold rowsF
    refine List.pairwise_append.2 ⟨sorted_lineF _ _ _ _, sorted_rowsF l f m, fun a ha b hb => ?_⟩
    obtain ⟨h1, h2, h3, h4⟩ := (mem_lineF l f _ a 40).mp ha
    obtain ⟨g1, g2, g3, g4, g5⟩ := (mem_rowsF l f b m).mp hb
    rw [beforeP_iff]
    omega
theorem entOk_mem : ∀ (l : List S36) (p : Int), logGo p l = true → ∀ x ∈ l, 0 ≤ x.f0.f0 ∧ x.f0.f0 ≤ 3 ∧ 0 ≤ x.f0.f1 ∧ x.f0.f1 ≤ 39
  | [], _, _, x, hx => by cases hx
  | e :: r, p, h, x, hx => by
    simp only [logGo, Bool.and_eq_true] at h
    rcases List.mem_cons.1 hx with rfl | hx
    · have := h.1
      simp [entOk] at this
      omega
    · exact entOk_mem r _ h.2.2 x hx
theorem faultOf_mem {l : List S36} {p : S31} : faultOf l p ≠ 0 → ∃ e ∈ l, e.f0 = p := by
  intro h
  have key : ∀ (l : List S36), faultOf l p ≠ 0 → ∃ e ∈ l, e.f0 = p := by
    intro l
    obtain ⟨n, hn⟩ : ∃ n, l.length = n := ⟨_, rfl⟩
    induction n generalizing l with
    | zero =>
      intro h
      obtain rfl := List.length_eq_zero_iff.mp hn
      exact absurd rfl h
    | succ n ih =>
      intro h
      rcases List.eq_nil_or_concat l with rfl | ⟨r, x, rfl⟩
      · simp at hn
      · rw [List.concat_eq_append] at h hn ⊢
        rw [faultOf_snoc] at h
        by_cases hp : p = x.f0
        · exact ⟨x, by simp, hp.symm⟩
        · rw [if_neg hp] at h
          obtain ⟨e, he, h2⟩ := ih r (by simpa using hn) h
          exact ⟨e, by simp [he], h2⟩
  exact key l h
theorem pipesUp_eq (l : List S36) (f : Int) (hl : logOk l = true) (hf : f = 1 ∨ f = 2) : pipesUp l f = rowsF l f 4 := by
  refine sortedP_ext (sorted_pipesIn _) (sorted_rowsF l f 4) fun p => ?_
  show p ∈ pipesUp l f ↔ _
  rw [mem_pipesUp, mem_rowsF]
  have h2 : logGo 0 l = true := by simp [logOk] at hl; exact hl.1
  constructor
  · rintro ⟨⟨e, he, rfl⟩, h⟩
    have := entOk_mem l 0 h2 e he
    exact ⟨by omega, by omega, by omega, by omega, h⟩
  · rintro ⟨_, _, _, _, h⟩
    exact ⟨faultOf_mem (by omega), h⟩
theorem rowsF_len (l : List S36) (f : Int) : (rowsF l f 4).length ≤ 160 := by
  have h1 := fun r => lineF_len l f r 40
  have a := h1 (3 - ((3 : Nat) : Int))
  have b := h1 (3 - ((2 : Nat) : Int))
  have c := h1 (3 - ((1 : Nat) : Int))
  have d := h1 (3 - ((0 : Nat) : Int))
  simp only [rowsF, List.length_append, List.length_nil]
  omega
def faultyP (l : List S36) (f : Int) : List S31 := if logOk l = true ∧ (f = 1 ∨ f = 2) then pipesUp l f else []
theorem faultyP_len (l : List S36) (f : Int) : (faultyP l f).length ≤ 160 := by
  unfold faultyP
  split
  · rename_i h
    rw [pipesUp_eq l f h.1 h.2]
    exact rowsF_len l f
  · simp
theorem faulty_impl (l : List S36) (f : Int) (hl : l.length ≤ 1048577) : impl_FaultyPipes.f l f = some (faultyP l f) := by
  unfold impl_FaultyPipes.f
  rw [if_pos hl]
  rfl
end Go.Proofs.Ytnknnbpodpfljaa.Q


namespace Go.Proofs.Ytnknnbpodpfljaa.Q
set_option linter.unusedVariables false
set_option linter.unusedSimpArgs false
open Go.RowKit Go.Proofs.Ytnknnbpodpfljaa.P Go.Proofs.YtnknnbpodpfljaaW.PrintWords Go.Proofs.YtnknnbpodpfljaaW.PrintMore
theorem rdPp (l : List S31) (i : Nat) (h : i < l.length) : rd_T31 l (i : Int) = l[i] := by
  unfold rd_T31; simp [List.getD_eq_getElem?_getD, h]
theorem putP_grows (p : S31) : ∀ l : List S31, l.length ≤ (putP l p).length
  | [] => by simp [putP]
  | x :: r => by
    unfold putP
    split
    · have := putP_grows p r
      simp only [List.length_cons]; omega
    · split <;> simp only [List.length_cons] <;> omega
theorem foldP_grows : ∀ (l acc : List S31), acc.length ≤ (l.foldl putP acc).length
  | [], acc => Nat.le_refl _
  | x :: r, acc => Nat.le_trans (putP_grows x acc) (foldP_grows r (putP acc x))
def notSilent (l : List S36) (x : S31) : Bool := decide (faultOf l x ≠ 1)
def heardP (l : List S36) (p : List S31) : List S31 := pipesIn (pipesUp l 2 ++ p.filter (notSilent l))
theorem heardP_len (l : List S36) (p : List S31) : (pipesUp l 2).length ≤ (heardP l p).length := by
  have e : pipesUp l 2 = (pipesUp l 2).foldl putP [] := pipesIn_unique (pipesUp l 2) (pipesUp l 2) (sorted_pipesIn _) (fun _ => Iff.rfl)
  unfold heardP pipesIn
  rw [List.foldl_append, ← e]
  exact foldP_grows _ _
theorem mem_heardP (l : List S36) (p : List S31) (x : S31) (h : x ∈ heardP l p) : faultOf l x ≠ 1 ∧ (x ∈ p ∨ faultOf l x = 2) := by
  unfold heardP at h
  rw [mem_pipesIn, List.mem_append, mem_pipesUp, List.mem_filter, notSilent, decide_eq_true_eq] at h
  rcases h with ⟨_, h⟩ | ⟨h, h2⟩
  · exact ⟨by omega, .inr h⟩
  · exact ⟨h2, .inl h⟩
theorem putP_len (p : S31) : ∀ l : List S31, (putP l p).length ≤ l.length + 1
  | [] => by simp [putP]
  | x :: r => by
    unfold putP
    split
    · have := putP_len p r
      simp only [List.length_cons]; omega
    · split <;> simp only [List.length_cons] <;> omega
theorem foldP_len : ∀ (l acc : List S31), (l.foldl putP acc).length ≤ acc.length + l.length
  | [], acc => Nat.le_refl _
  | x :: r, acc => by
    have h := putP_len x acc
    have := foldP_len r (putP acc x)
    simp only [List.foldl_cons, List.length_cons]; omega
theorem heardP_short (l : List S36) (p : List S31) : (heardP l p).length ≤ (pipesUp l 2).length + p.length := by
  have := foldP_len (pipesUp l 2 ++ p.filter (notSilent l)) []
  have h2 := List.length_filter_le (notSilent l) p
  unfold heardP pipesIn
  simp only [List.length_append, List.length_nil] at this ⊢
  omega
theorem wf_small {a : Int} (h : 0 ≤ a) (h2 : a ≤ 1000) : P.wf64 a := wf64_of (by omega) (by omega)
theorem heardP_impl (l : List S36) (p : List S31) (h0 : logOk l = true) (hl : l.length ≤ 30) (hp : p.length ≤ 1000) (hw : ∀ x ∈ p, P.wf64 x.f0 ∧ P.wf64 x.f1) : Ev (fun k => impl_HeardPipes.f k l p) (heardP l p) := by
  have HL := logOk_impl l (by omega)
  rw [h0] at HL
  have HF := faulty_impl l 2 (by omega)
  have e2 : faultyP l 2 = pipesUp l 2 := by unfold faultyP; rw [if_pos ⟨h0, .inr rfl⟩]
  have l2 : (pipesUp l 2).length ≤ 160 := by rw [← e2]; exact faultyP_len l 2
  rw [e2] at HF
  unfold impl_HeardPipes.f
  refine Ev.bind HL (evp rfl (evb HF ?_))
  have hg : logGo 0 l = true := by simp [logOk] at h0; exact h0.1
  have key : ∀ i, i ≤ p.length → Ev (fun k => impl_HeardPipes.l0 k l (pipesUp l 2 ++ (p.take i).filter (notSilent l)) p (p.length : Int) (i : Int)) (heardP l p) := by
    refine down (n := p.length) ?_ ?_
    · rw [List.take_length]
      refine Ev.step (fun k => by rw [impl_HeardPipes.l0]) (evn (by omega) (evb (a := heardP l p) ?_ (Ev.now _)))
      unfold impl_pipesOf.f
      refine if_pos ⟨?_, fun x hx => ?_⟩
      · have := List.length_filter_le (notSilent l) p
        rw [List.length_append]; omega
      · rcases List.mem_append.1 hx with hx | hx
        · obtain ⟨⟨e, he, rfl⟩, _⟩ := (mem_pipesUp l 2 x).mp hx
          have := entOk_mem l 0 hg e he
          exact ⟨wf_small (by omega) (by omega), wf_small (by omega) (by omega)⟩
        · exact hw x (List.mem_filter.1 hx).1
    · intro i hi ih
      have hx := hw p[i] (List.getElem_mem hi)
      have F := fault_impl l p[i].f0 p[i].f1 hx.1 hx.2 (by omega)
      rw [if_pos h0] at F
      refine Ev.step (fun k => by rw [impl_HeardPipes.l0]) (evp (by omega) (evp (by omega) (evp (by omega) ?_)))
      rw [rdPp p i hi, w64 (n := (i : Int) + 1) (by omega) (by omega)]
      refine evb F ?_
      rw [List.take_succ_eq_append_getElem hi, List.filter_append] at ih
      by_cases h1 : faultOf l p[i] = 1
      · refine evp h1 ?_
        have : [p[i]].filter (notSilent l) = [] := by simp [notSilent, h1]
        rw [this, List.append_nil] at ih
        exact ih
      · refine evn h1 (evp ?_ ?_)
        · have := List.length_filter_le (notSilent l) (p.take i)
          rw [List.length_take] at this
          rw [List.length_append]; omega
        have : [p[i]].filter (notSilent l) = [p[i]] := by simp [notSilent, h1]
        rw [this, ← List.append_assoc] at ih
        exact ih
  have := key 0 (Nat.zero_le _)
  simpa using this
end Go.Proofs.Ytnknnbpodpfljaa.Q


namespace Go.Proofs.Ytnknnbpodpfljaa.Q
set_option linter.unusedVariables false
set_option linter.unusedSimpArgs false
open Go.RowKit Go.Proofs.Ytnknnbpodpfljaa.P Go.Proofs.YtnknnbpodpfljaaW.PrintWords Go.Proofs.YtnknnbpodpfljaaW.PrintMore
theorem copyLog_eq (l : List S36) (hl : l.length ≤ 4000000) : impl_copyLog.f l = some l := by
  unfold impl_copyLog.f; simp only [Option.bind_some]; rw [if_pos (by simp; omega)]; simp
end Go.Proofs.Ytnknnbpodpfljaa.Q


namespace Go.Proofs.Ytnknnbpodpfljaa.Q
set_option linter.unusedVariables false
set_option linter.unusedSimpArgs false
open Go.RowKit Go.Proofs.Ytnknnbpodpfljaa.P Go.Proofs.YtnknnbpodpfljaaW.PrintWords Go.Proofs.YtnknnbpodpfljaaW.PrintMore
def ent (r n f m : Int) : S36 := ⟨⟨r, n⟩, f, m⟩
def addEntry (l : List S36) (r n f m : Int) : List S36 × Bool := if logOk l = true ∧ logOk (l ++ [ent r n f m]) = true then (l ++ [ent r n f m], true) else (l, false)
theorem add_impl (l : List S36) (r n f m : Int) (hl : l.length ≤ 1048576) : Ev (fun k => impl_AddEntry.f k l r n f m) (addEntry l r n f m) := by
  unfold impl_AddEntry.f addEntry
  refine evb (copyLog_eq l (by omega)) (evb rfl (evp (by simp; omega) (evb rfl (Ev.bind (logOk_impl l (by omega)) ?_))))
  by_cases h : logOk l = true
  rotate_left
  · exact rneg (fun h2 => h h2.1) <| evn h (evb (copyLog_eq l (by omega)) (Ev.now _))
  refine evp h (Ev.bind (logOk_impl _ (by simp; omega)) ?_)
  by_cases h2 : logOk (l ++ [ent r n f m]) = true
  · exact rpos ⟨h, h2⟩ <| evp h2 (Ev.now _)
  · exact rneg (fun h3 => h2 h3.2) <| evn h2 (evb (copyLog_eq l (by omega)) (Ev.now _))
end Go.Proofs.Ytnknnbpodpfljaa.Q


namespace Go.Proofs.Ytnknnbpodpfljaa.Q
set_option linter.unusedVariables false
set_option linter.unusedSimpArgs false
open Go.RowKit Go.Proofs.Ytnknnbpodpfljaa.P Go.Proofs.YtnknnbpodpfljaaW.PrintWords Go.Proofs.YtnknnbpodpfljaaW.PrintMore
theorem at_ev (b : List Int) (hb : b.length ≤ 1048576) (hw : ∀ x ∈ b, (Lit.int .u8 x).wf = true) (a : Int) (h0 : 0 ≤ a) (h1 : a ≤ 100000) : ∃ v, laws_at.f b a = some v ∧ 0 ≤ v ∧ v ≤ 255 := by
  unfold laws_at.f
  by_cases h : (b.length : Int) = 0
  · rw [if_pos h]; exact ⟨0, rfl, by omega, by omega⟩
  rw [if_neg h, w64 (n := a * 5) (by omega) (by omega), w64 (n := a * 5 + 1) (by omega) (by omega)]
  have e0 : 0 ≤ Int.tmod (a * 5 + 1) (b.length : Int) := Int.tmod_nonneg _ (by omega)
  have e1 : Int.tmod (a * 5 + 1) (b.length : Int) < (b.length : Int) := by rw [Int.tmod_eq_emod_of_nonneg (by omega)]; exact Int.emod_lt_of_pos _ (by omega)
  rw [if_pos e0, if_pos e1]
  obtain ⟨m, hm⟩ := Int.eq_ofNat_of_zero_le e0
  rw [hm, rd_nat b m (by omega)]
  have h2 := hw b[m] (List.getElem_mem _)
  have h3 : 0 ≤ b[m] ∧ b[m] ≤ 255 := by
    simp [Lit.wf, IntKind.min, IntKind.max, IntKind.signed, IntKind.bits] at h2
    omega
  exact ⟨_, rfl, by rw [w64 (by omega) (by omega)]; omega, by rw [w64 (by omega) (by omega)]; omega⟩
theorem tmod_range {v : Int} (n : Int) (hn : 0 < n) (h : 0 ≤ v) : 0 ≤ Int.tmod v n ∧ Int.tmod v n < n := ⟨Int.tmod_nonneg _ h, by rw [Int.tmod_eq_emod_of_nonneg h]; exact Int.emod_lt_of_pos _ hn⟩
end Go.Proofs.Ytnknnbpodpfljaa.Q


namespace Go.Proofs.Ytnknnbpodpfljaa.Pure
set_option linter.unusedVariables false
set_option linter.unusedSimpArgs false
open Go.RowKit Go.Proofs.Ytnknnbpodpfljaa.P Go.Proofs.Ytnknnbpodpfljaa.Q Go.Proofs.YtnknnbpodpfljaaW.PrintWords Go.Proofs.YtnknnbpodpfljaaW.PrintLast
theorem logs_l1 (b : List Int) (l : List S36) (p h : List S31) (m : Nat) (hm : m < h.length) (f : Int) (hp : p.length ≤ 1000) (hh : h.length ≤ 2000) (hf : f ≠ 1) (k : Ev (fun k => laws_FnLogs.l0 k b l p h ((m : Int) + 1)) true) :
    ∀ i, i ≤ p.length → ∀ c : Bool, (c = true ∨ f = 2 ∨ h[m] ∈ p.drop i) → Ev (fun k => laws_FnLogs.l1 k b l p h (m : Int) f c (i : Int)) true := by
  refine down (n := p.length) ?_ ?_
  · intro c hc
    refine Ev.step (fun k => by rw [laws_FnLogs.l1]) (evn (by omega) (evn hf ?_))
    rw [w64 (n := (m : Int) + 1) (by omega) (by omega)]
    rw [drop_end] at hc
    by_cases h1 : c = true
    · exact evp h1 k
    · refine evn h1 (evp ?_ k)
      rcases hc with hc | hc | hc
      · exact absurd hc h1
      · exact hc
      · cases hc
  · intro i hi ih c hc
    refine Ev.step (fun k => by rw [laws_FnLogs.l1]) (evp (by omega) ?_)
    rw [w64 (n := (i : Int) + 1) (by omega) (by omega)]
    by_cases h1 : c = true
    · exact evp h1 (ih true (.inl rfl))
    refine evn h1 (evp (by omega) (evp (by omega) (evp (by omega) ?_)))
    rw [rdPp p i hi, rdPp h m hm]
    refine ih _ ?_
    rw [drop_cons p i hi, List.mem_cons] at hc
    rcases hc with hc | hc | hc | hc
    · exact absurd hc h1
    · exact .inr (.inl hc)
    · left; rw [hc]; simp
    · exact .inr (.inr hc)
theorem logs_l0 (b : List Int) (l : List S36) (p h : List S31) (hl : l.length ≤ 30) (h0 : logOk l = true) (hp : p.length ≤ 1000) (hh : h.length ≤ 2000) (hw : ∀ x ∈ h, P.wf64 x.f0 ∧ P.wf64 x.f1) (hx : ∀ x ∈ h, faultOf l x ≠ 1 ∧ (x ∈ p ∨ faultOf l x = 2)) (k : Ev (fun k => laws_FnLogs.l0 k b l p h (h.length : Int)) true) :
    Ev (fun k => laws_FnLogs.l0 k b l p h 0) true := by
  have key : ∀ m, m ≤ h.length → Ev (fun k => laws_FnLogs.l0 k b l p h (m : Int)) true := by
    refine down (n := h.length) k ?_
    intro m hm ih
    have hx2 := hx h[m] (List.getElem_mem hm)
    have hw2 := hw h[m] (List.getElem_mem hm)
    have F := fault_impl l h[m].f0 h[m].f1 hw2.1 hw2.2 (by omega)
    rw [if_pos h0] at F
    refine Ev.step (fun k => by rw [laws_FnLogs.l0]) (evp (by omega) (evp (by omega) ?_))
    rw [rdPp h m hm]
    refine evb F ?_
    refine logs_l1 b l p h m hm (faultOf l h[m]) hp hh hx2.1 ih 0 (Nat.zero_le _) false ?_
    rcases hx2.2 with h1 | h1
    · right; right; simpa using h1
    · exact .inr (.inl h1)
  exact key 0 (Nat.zero_le _)
theorem FnLogs : laws_FnLogs.Pure := by
  intro b hb1 hb2 hb3
  refine Ev.rounds ?_
  unfold laws_FnLogs.f
  refine evb rfl ?_
  by_cases h : (b.length : Int) > 1048576
  · exact evp (decide_eq_true h) (Ev.now _)
  refine evn (by simpa using h) ?_
  have hb : b.length ≤ 1048576 := by omega
  obtain ⟨l, p, D, g, g2, g3⟩ := drawLog_ev b hb
  have h0 := gLog_ok g
  have ll := g.2.1
  have hwp : ∀ x ∈ p, P.wf64 x.f0 ∧ P.wf64 x.f1 := fun x hx => by
    have := g3 x hx
    unfold gPipe at this
    exact ⟨wf_small (by omega) (by omega), wf_small (by omega) (by omega)⟩
  have e2 : faultyP l 2 = pipesUp l 2 := by unfold faultyP; rw [if_pos ⟨h0, .inr rfl⟩]
  have l2 : (pipesUp l 2).length ≤ 160 := by rw [← e2]; exact faultyP_len l 2
  have H := heardP_impl l p h0 (by omega) (by omega) hwp
  have hs := heardP_short l p
  have hlen := heardP_len l p
  have hmem := mem_heardP l p
  have hwh : ∀ x ∈ heardP l p, P.wf64 x.f0 ∧ P.wf64 x.f1 := fun x hx => by
    rcases (hmem x hx).2 with h1 | h1
    · exact hwp x h1
    · obtain ⟨e, he, rfl⟩ := faultOf_mem (l := l) (p := x) (by omega)
      have := entOk_mem l 0 g.1 e he
      exact ⟨wf_small (by omega) (by omega), wf_small (by omega) (by omega)⟩
  obtain ⟨R, hR⟩ : ∃ R, heardP l p = R := ⟨_, rfl⟩
  rw [hR] at H hs hlen hmem hwh
  refine Ev.bind D (Ev.bind H ?_)
  refine logs_l0 b l p R (by omega) h0 (by omega) (by omega) hwh hmem ?_
  refine Ev.step (fun k => by rw [laws_FnLogs.l0]) (evn (by omega) ?_)
  obtain ⟨v0, e0, a0, b0⟩ := at_ev b hb hb3 0 (by omega) (by omega)
  obtain ⟨v1, e1, a1, b1⟩ := at_ev b hb hb3 1 (by omega) (by omega)
  obtain ⟨v3, e3, a3, b3⟩ := at_ev b hb hb3 2 (by omega) (by omega)
  have t0 := tmod_range 4 (by omega) a0
  have t1 := tmod_range 40 (by omega) a1
  have t3 := tmod_range 3 (by omega) a3
  obtain ⟨r, hr⟩ : ∃ r, Int.tmod v0 4 = r := ⟨_, rfl⟩
  obtain ⟨n, hn⟩ : ∃ n, Int.tmod v1 40 = n := ⟨_, rfl⟩
  obtain ⟨f, hf⟩ : ∃ f, Int.tmod v3 3 = f := ⟨_, rfl⟩
  rw [hr] at t0
  rw [hn] at t1
  rw [hf] at t3
  refine evb e0 (evb e1 (evb e3 ?_))
  rw [hr, hn, hf]
  have ok : logOk (l ++ [ent r n f 100000]) = true := by
    unfold logOk
    rw [logGo_snoc (ent r n f 100000) 100 (entOk_mk (by omega) (by omega) (by omega) (by omega)) (by show (100 : Int) ≤ 100000; omega) l 0 (by omega) g.1 g.2.2, Bool.true_and, decide_eq_true_eq]
    simp; omega
  have A := add_impl l r n f 100000 (by omega)
  unfold addEntry at A
  rw [if_pos ⟨h0, ok⟩] at A
  have F := fault_impl (l ++ [ent r n f 100000]) r n (wf_small (by omega) (by omega)) (wf_small (by omega) (by omega)) (by simp; omega)
  rw [if_pos ok, faultOf_snoc, if_pos (show (⟨r, n⟩ : S31) = (ent r n f 100000).f0 from rfl)] at F
  have F2 := faulty_impl l 2 (by omega)
  rw [e2] at F2
  have L := logOk_impl (l ++ [ent r n f 100000]) (by simp; omega)
  rw [ok] at L
  refine Ev.bind A (evp rfl (evb F (evp rfl (evb F2 (evp ?_ (Ev.bind L (Ev.now _)))))))
  show ((R.length : Int)) ≥ ((pipesUp l 2).length : Int)
  omega
end Go.Proofs.Ytnknnbpodpfljaa.Pure


namespace Go.Proofs.Ytnknnbpodpfljaa.fnLogs
open Go.ChangeShapes Go.WideShapes Go.ChangeAt Go.RowKit
open Go.ChangeMaps (open_string shut_string)
set_option linter.unusedVariables false
theorem own : ownKnob Try.prog.godebug = none := by kernel_rfl
theorem laidOut : laidOutB Try.prog = true := by kernel_rfl
def IsRow (k : IntKind) (w : World) (a : Option Addr) (len cap : Nat) (zs : List Int) : Prop :=
  (a = none ∧ len = 0 ∧ cap = 0 ∧ zs = []) ∨
  ∃ x, a = some x ∧ len ≤ cap ∧ cap ≤ maxLen ∧ zs.length = cap ∧ (∀ i, i < zs.length → w.cell? (x.add i) = some (.int k (zs.getD i 0))) ∧ ∀ n ∈ zs, (Lit.int k n).wf = true
set_option maxRecDepth 100000 in
theorem lifted (os : Os) (started : os.Started) (H : Type) (enc : TypeId × Value → H) :
    ReturnsInHanded {} Try.checked os 3 .any (Rows.fnLogsSpec.pre6 enc Try.prog Try.f3 Rows.fnLogsRow.domain false) (Rows.fnLogsSpec.post enc Try.prog Try.f3 false true false false) := by
  refine returnsInHanded_of_change_sized (C := Try.checked) own started (by kernel_rfl) Try.func3
    (ChangeSpec.witness6 (enc := enc) (C := Try.checked) false ⟨#[], #[.slice none 0 0], []⟩ 8 (by kernel_rfl) (by kernel_rfl) (by kernel_rfl) (by kernel_rfl)) ?_
  intro W base args ds gs before hval0 hW hcnd hsz0 _
  have hsz : (DataW.weightsEach Try.prog (Try.f3.params.toList ++ Rows.fnLogsSpec.plain.varTypes Try.prog) (ds ++ gs)).all (· ≤ reachBytes) = true := hsz0
  have hval : ∀ (j : Nat) t v, Try.f3.params[j]? = some t → args[j]? = some v → Value.okWide Try.prog W .any base t v := hval0
  have hW' := hW
  obtain ⟨p, q, hA0, hV, rfl, hfz, hnd⟩ := hW
  have hA : DataW.TrodAll enc Try.prog W 0 (fun _ => true) true Try.f3.params.toList args.toList ds p := hA0
  rw [Try.params3] at hA hval hsz
  obtain ⟨v0, vs0, d0, ds0, p0, q0, hargs, rfl, rfl, h0, r0⟩ := trodAll_cons hA
  obtain ⟨rfl, rfl, rfl⟩ := trodAll_nil r0
  obtain rfl : args = #[v0] := by cases args; simp_all
  obtain ⟨rfl, rfl⟩ := trodVars_none hV
  obtain ⟨a0, len0, cap0, rfl⟩ := okWide_slice Try.underlying22 (hval 0 22 v0 rfl rfl)
  have k0 := h0
  have lt0 : ∀ x ∈ p0, x.block < W.heap.size := by obtain ⟨m, hm⟩ := k0; exact DataW.trod_lt m _ _ _ hm
  obtain ⟨z0, w0⟩ : ∃ zs, IsRow .u8 W a0 len0 cap0 zs := by
    obtain ⟨fuel, hf⟩ := h0
    rcases open_ints Try.underlying22 Try.underlying5 (by kernel_rfl) hf with ⟨hcs, _⟩ | ⟨x, l, c, zs, hcs, _, hl, hm, hz, _, hcell, hwz⟩
    · simp [Value.cells] at hcs
      obtain ⟨rfl, rfl, rfl⟩ := hcs
      exact ⟨[], .inl ⟨rfl, rfl, rfl, rfl⟩⟩
    · simp [Value.cells] at hcs
      obtain ⟨rfl, rfl, rfl⟩ := hcs
      exact ⟨zs, .inr ⟨_, rfl, hl, hm, by simpa using hz, hcell, hwz⟩⟩
  have y0 : len0 * 1 ≤ 140737488351232 := Go.Proofs.YtnknnbpodpfljaaW.PrintWords.sized_ints hsz (j := 0) (t := 22) rfl rfl Try.underlying22 Try.underlying5 (by kernel_rfl) (by kernel_rfl) h0
  clear hA0 hval0 hsz0 hsz
  refine (P.laws_FnLogs.walk Pure.FnLogs a0 len0 cap0 z0 W w0 y0).mono fun e W' ⟨he, bel⟩ => ?_
  subst he
  exact ⟨_, rfl, _, _, _, [], _, [], hW', trodAll_mk1 (shut_bool Try.underlying4 _), (trodAll_cons_mk (Below.trod laidOut (by kernel_rfl) (of_decide_eq_true (by kernel_rfl)) k0 bel lt0) trodAll_mk0), rfl, bel.frame _, fun h => by cases h⟩
theorem over : Rows.fnLogsRow.holds Try.pinned (OpenSpec.ofChange Rows.fnLogsSpec) :=
  OpenClaim.holds_of_wide 3 Try.f3 rfl rfl rfl rfl rfl rfl rfl ⟨rfl, rfl, rfl, rfl, rfl⟩ rfl rfl rfl rfl rfl (by kernel_rfl) Try.func3 (by kernel_rfl)
    (of_decide_eq_true (by kernel_rfl)) (by unfold Func.isWrapper; first | (rw [if_pos (by decide +kernel)]; kernel_rfl) | (rw [if_neg (by decide +kernel)]; exact ⟨rfl, rfl⟩))
    (fun os started H enc _ => lifted os started H enc)
theorem proved : Rows.FnLogsSaid := over
#print axioms proved
end Go.Proofs.Ytnknnbpodpfljaa.fnLogs
namespace Go.Proofs.Ytnknnbpodpfljaa
theorem fnLogs_holds : Rows.FnLogsSaid := fnLogs.proved
end Go.Proofs.Ytnknnbpodpfljaa

