/- What functions of the program come to (f), that their calls come to just this (calls), and the plain laws over lists and numbers. No condition but those of the given row. -/
import Derived.Test.YtanhnhkcpbdfmaaGreatG3
import Derived.Shelf.SlSortFuncK.PdqK
import Derived.RangeFuncBox
set_option linter.unusedVariables false
set_option linter.unusedSimpArgs false
namespace Go.Proofs.YtanhnhkcpbdfmaaGreat.S
open Go.RowKit Go.Sort Go.Proofs.YtanhnhkcpbdfmaaGreat.P Go.Proofs.YtanhnhkcpbdfmaaGreat.Q Go.Proofs.YtanhnhkcpbdfmaaGreat.V Go.Proofs.YtanhnhkcpbdfmaaGreatW.PrintWords
theorem swo_beforeE : SWO beforeE where
  irrefl := before_irrefl
  trans := fun x y z h k => before_trans h k
  ntrans := fun x y z h k => by
    rw [Bool.eq_false_iff, ne_eq, before_iff] at h k ⊢
    omega
theorem mem_perm {a b : Nat} {D D' : Array E} (hb : b ≤ D.size) (h : PermIn a b D D') : ∀ x ∈ D', x ∈ D := by
  intro x hx
  obtain ⟨k, hk, rfl⟩ := Array.mem_iff_getElem.mp hx
  have hk' : k < D.size := by rw [← h.1]; exact hk
  by_cases hin : a ≤ k ∧ k < b
  · have hall := permIn_all D D' a b (fun y => y ∈ D) hb h (fun i hi hi' => by
      rw [getElem!_pos D i (by omega)]; exact Array.getElem_mem _) k hin.1 hin.2
    rw [getElem!_pos D' k hk] at hall
    exact hall
  · have := h.2.1 k (by omega)
    rw [getElem!_pos D' k hk, getElem!_pos D k hk'] at this
    rw [this]
    exact Array.getElem_mem _
theorem so_sorted {C : SoC} [g : SoG C] {w : World} {D D' : Array E} {a b : Nat} (h : SoAt C w D) (hb : b ≤ C.n) (hp : PermIn a b D D') (n : Nat) (os : Array Obj) :
    SoAt C (sortWorldK enc4 4 w C.g 0 n D' os) D' ∧ w.grownBy (sortWorldK enc4 4 w C.g 0 n D' os) (some C.g) := by
  have hs : D'.size = D.size := hp.1
  have hg : w.grownBy (sortWorldK enc4 4 w C.g 0 n D' os) (some C.g) := by
    unfold sortWorldK
    refine ⟨rfl, rfl, rfl, by rw [size_grow, size_putRowK]; show w.heap.size ≤ w.heap.size + os.size; omega, fun k hk1 hk2 => ?_⟩
    rw [heap_grow_old _ _ (by rw [size_putRowK]; exact hk1)]
    unfold putRowK putRow
    rw [onCells_block, if_neg (fun hh => hk2 (by rw [hh]))]
    rfl
  exact ⟨⟨holdsK_sortWorldK enc4 4 w C.g 0 n D D' os h.lt h.hold hs, by rw [hs]; exact h.size, (hg.block _ h.bs_lt (fun e => g.ne (Option.some.inj e))).trans h.box, Nat.lt_of_lt_of_le h.lt hg.size, by
    unfold sortWorldK
    rw [heap_grow_old _ _ (by rw [size_putRowK]; exact h.lt)]
    exact put_shape (W := Sort.ahead w n) h.shape, fun x hx => h.ftd x (mem_perm (by rw [h.size]; exact hb) hp x hx)⟩, hg⟩
theorem break_calls (C : SoC) [g : SoG C] (w : World) (D : Array E) (h : SoAt C w D) (a b : Nat) (hab : a ≤ b) (hb : b ≤ C.n) :
    Calls Tryz.prog 164 #[datV C, .int .i64 a, .int .i64 b] w fun e w' => e = .returned (.tuple #[]) ∧ ∃ D', SoAt C w' D' ∧ PermIn a b D D' ∧ w.grownBy w' (some C.g) := by
  have hsw : SwapSwapsK Tryz.prog 159 C.sb enc4 4 C.g 0 D.size := by rw [h.size]; exact g.swap
  have := Any.breakPatterns_func_cells_w (P := Tryz.prog) (ρ := sv6_ren) { sv6 with } enc4 4 enc4_len (.func 142) #[] C.lb 159 C.sb C.g 0 a b D w hsw h.hold h.lt hab (by rw [h.size]; exact hb) (by have := g.small; rw [h.size]; omega)
  refine this.mono ?_
  rintro e w' ⟨he, n, os, rfl⟩
  have hp := breakPatterns_holds D a b hab (by rw [h.size]; exact hb)
  obtain ⟨h1, h2⟩ := so_sorted h hb hp n os
  exact ⟨he, _, h1, hp, h2⟩
theorem reverse_calls (C : SoC) [g : SoG C] (w : World) (D : Array E) (h : SoAt C w D) (a b : Nat) (hab : a ≤ b) (hb : b ≤ C.n) :
    Calls Tryz.prog 166 #[datV C, .int .i64 a, .int .i64 b] w fun e w' => e = .returned (.tuple #[]) ∧ ∃ D', SoAt C w' D' ∧ PermIn a b D D' ∧ w.grownBy w' (some C.g) := by
  have hsw : SwapSwapsK Tryz.prog 159 C.sb enc4 4 C.g 0 D.size := by rw [h.size]; exact g.swap
  have := Any.reverseRange_func_cells_w (P := Tryz.prog) (ρ := sv6_ren) { sv6 with } enc4 4 enc4_len (.func 142) #[] C.lb 159 C.sb C.g 0 a b D w hsw h.hold h.lt hab (by rw [h.size]; exact hb) (by have := g.small; rw [h.size]; omega)
  refine this.mono ?_
  rintro e w' ⟨he, n, os, rfl⟩
  have hp := reverseRange_holds D a b hab (by rw [h.size]; exact hb)
  obtain ⟨h1, h2⟩ := so_sorted h hb hp n os
  exact ⟨he, _, h1, hp, h2⟩
theorem less_ex {C : SoC} {W : World} {D : Array E} [g : SoG C] (h : SoAt C W D) (i j : Int) (i' j' : Nat) (ei : i = i') (ej : j = j') (hi : i' < C.n) (hj : j' < C.n) :
    Calls Tryz.prog 142 (#[.int .i64 i, .int .i64 j] ++ C.lb) W fun e w' => ∃ lb, e = .returned (.bool lb) ∧ beforeE D[i']! D[j']! = lb ∧ RowKit.Below W.heap.size W w' := by
  subst ei ej
  exact (less_calls C W D h g.lb g.small i' j' hi hj).mono fun e w' hh => ⟨_, hh.1, rfl, hh.2⟩
theorem partitionEqual_at {C : SoC} {W : World} {D : Array E} [SoG C] (h : SoAt C W D) (a b p : Nat) (p' : Int) (e : p' = p) (hap : a ≤ p) (hpb : p < b) (hb : b ≤ C.n) :
    Calls Tryz.prog 168 #[datV C, .int .i64 a, .int .i64 b, .int .i64 p'] W fun e w' => ∃ mid D', partitionEqual beforeE D a b p = (mid, D') ∧ e = .returned (.int .i64 (mid : Nat)) ∧ SoAt C w' D' ∧ W.grownBy w' (some C.g) := by
  subst e
  exact (partitionEqual_calls C W D h a b p hap hpb hb).mono fun e w' hh => ⟨_, _, rfl, hh⟩
theorem partition_at {C : SoC} {W : World} {D : Array E} [SoG C] (h : SoAt C W D) (a b p : Nat) (p' : Int) (e : p' = p) (hap : a ≤ p) (hpb : p < b) (hb : b ≤ C.n) :
    Calls Tryz.prog 169 #[datV C, .int .i64 a, .int .i64 b, .int .i64 p'] W fun e w' => ∃ mid ap D', partition beforeE D a b p = (mid, ap, D') ∧ e = .returned (.tuple #[.int .i64 (mid : Nat), .bool ap]) ∧ SoAt C w' D' ∧ W.grownBy w' (some C.g) := by
  subst e
  exact (partition_calls C W D h a b p hap hpb hb).mono fun e w' hh => ⟨_, _, _, rfl, hh⟩
end Go.Proofs.YtanhnhkcpbdfmaaGreat.S
namespace Go.Proofs.YtanhnhkcpbdfmaaGreat.S
open Go.RowKit Go.Sort Go.Proofs.YtanhnhkcpbdfmaaGreat.P Go.Proofs.YtanhnhkcpbdfmaaGreat.Q Go.Proofs.YtanhnhkcpbdfmaaGreat.V Go.Proofs.YtanhnhkcpbdfmaaGreatW.PrintWords
attribute [local go_sem] cell_b frozen_b swap_run
def PdqOk (C : SoC) (N : Nat) : Prop := ∀ (w : World) (D : Array E), SoAt C w D → ∀ a b limit : Nat, b - a < N → a ≤ b → b ≤ C.n → limit ≤ 100 → Sort.Below beforeE a b D → ∀ a' b' l' : Int, a' = a → b' = b → l' = limit →
    Calls Tryz.prog 149 #[datV C, .int .i64 a', .int .i64 b', .int .i64 l'] w fun e w' => e = .returned (.tuple #[]) ∧ ∃ D', SoAt C w' D' ∧ PermIn a b D D' ∧ SortedIn beforeE a b D' ∧ w.grownBy w' (some C.g)
set_option maxHeartbeats 16000000 in
set_option maxRecDepth 100000 in
set_option synthInstance.maxHeartbeats 400000 in
set_option synthInstance.maxSize 100000 in
theorem pdq_step (C : SoC) [SoG C] (N : Nat) (ih : PdqOk C N) : PdqOk C (N + 1) := by
  intro w D h a b limit hN hab hb hlim hB a' b' l' ea eb el
  subst ea eb el
  have j0 := So.mk h
  have hsm := SoG.small (C := C)
  have hsz := h.size
  have jx : NeB w.heap.size C.g := ⟨Nat.ne_of_gt h.lt⟩
  have jy := Blk.mk (blk_new w (.cells (datC C) 162))
  have hBA := Aside0.mk hB
  have IH := Aside0.mk ih
  clear h hB ih
  have hu := Tryz.underlying162
  go_enter Tryz.func149, Tryz.ntmps149
  go_wp2
  go_loopg [1, 2, 3, 8, 9] (b - a) (fun kx v1 v2 v3 v8 v9 wr => ∃ (a1 b1 l1 : Nat) (wb wp : Bool) (dk : Array E), v1 = .int .i64 a1 ∧ v2 = .int .i64 b1 ∧ v3 = .int .i64 l1 ∧ v8 = .bool wb ∧ v9 = .bool wp ∧ Aside0 (a1 ≤ b1 ∧ b1 ≤ C.n ∧ b1 - a1 ≤ kx ∧ kx ≤ b - a ∧ l1 ≤ 100) ∧ Aside0 (Sort.Below beforeE a1 b1 dk) ∧ Aside0 (∀ R, PermIn a1 b1 dk R → SortedIn beforeE a1 b1 R → PermIn a b D R ∧ SortedIn beforeE a b R) ∧ So C wr dk ∧ Fr C w wr ∧ Blk wr w.heap.size (datC C) 162)
  case atStart => exact ⟨a, b, limit, true, true, D, rfl, rfl, rfl, rfl, rfl, ⟨⟨by omega, by omega, by omega, by omega, by omega⟩⟩, hBA, ⟨fun R h1 h2 => ⟨h1, h2⟩⟩, inferInstance, inferInstance, inferInstance⟩
  case round =>
    clear j0 jy
    obtain ⟨a1, b1, l1, wb, wp, dk, rfl, rfl, rfl, rfl, rfl, HN, HB, HR, j1, j2, j3⟩ := hrel
    obtain ⟨hab1, hb1, hn1, hn2, hl1⟩ := HN.out
    have hds : dk.size = C.n := j1.out.size
    by_cases c12 : b1 - a1 ≤ 12
    · have d1 : decide ((b1 : Int) - (a1 : Int) ≤ 12) = true := decide_eq_true (by omega)
      go_wp2_with (first | (go_at_call 162; refine (insertion_calls C _ _ So.out a1 b1 (by omega) (by omega)).mono ?_; rintro e w2 ⟨rfl, hs, hg⟩; have k1 := So.mk hs; have k2 := Gb.mk hg; clear hs hg))
      ((try simp only [Exit.inBlock, Exit.then]); refine bodyPost_ret (results_none rfl _ _ _) rfl ?_)
      obtain ⟨h1, h2⟩ := insertionSort_holds swo_beforeE dk a1 b1 hab1 (by omega)
      obtain ⟨h3, h4⟩ := HR.out _ h1 h2
      exact ⟨rfl, _, So.out, h3, h4, Fr.out⟩
    have d1 : decide ((b1 : Int) - (a1 : Int) ≤ 12) = false := decide_eq_false (by omega)
    by_cases c0 : l1 = 0
    · subst c0
      go_wp2_with (first | (go_at_call 163; refine (heapSort_calls C _ _ So.out a1 b1 (by omega) (by omega)).mono ?_; rintro e w2 ⟨rfl, hs, hg⟩; have k1 := So.mk hs; have k2 := Gb.mk hg; clear hs hg))
      ((try simp only [Exit.inBlock, Exit.then]); refine bodyPost_ret (results_none rfl _ _ _) rfl ?_)
      obtain ⟨h1, h2⟩ := heapSort_holds swo_beforeE dk a1 b1 hab1 (by omega)
      obtain ⟨h3, h4⟩ := HR.out _ h1 h2
      exact ⟨rfl, _, So.out, h3, h4, Fr.out⟩
    have d0 : ((l1 : Int) == 0) = false := beq_eq_false_iff_ne.mpr (by omega)
    go_upto_if 35 with fail
    go_cut [3] from 19 (fun s3 wc => ∃ (l2 : Nat) (dj : Array E), s3 = .int .i64 l2 ∧ Aside0 (l2 ≤ 100) ∧ Aside0 (PermIn a1 b1 dk dj) ∧ So C wc dj ∧ Fr C w wc ∧ Blk wc w.heap.size (datC C) 162)
    case first =>
      cases wb
      · go_wp2_with (first | (go_at_call 164; refine (break_calls C _ _ So.out a1 b1 (by omega) (by omega)).mono ?_; rintro e w2 ⟨rfl, D2, hs, hp, hg⟩; have k1 := So.mk hs; have k2 := Gb.mk hg; have HP := Aside0.mk hp; clear hs hg hp))
        go_meet
        case rel => exact ⟨l1 - 1, D2, by congr 1; omega, ⟨by omega⟩, HP, inferInstance, inferInstance, inferInstance⟩
      · go_wp2_with fail
        go_meet
        case rel => exact ⟨l1, dk, rfl, ⟨by omega⟩, ⟨permIn_refl dk a1 b1⟩, j1, j2, j3⟩
    case rest =>
      clear j1 j2 j3 d0 d1
      obtain ⟨l2, dj, rfl, HL2, HS, j1, j2, j3⟩ := hcut
      have hl2 := HL2.out
      go_upto_if 50 with (go_at_call 165; refine (choosePivot_calls C _ _ So.out a1 b1 (by omega) (by omega)).mono ?_; rintro e w2 ⟨p, k, rfl, hp1, hp2, hk, hb⟩; have jb := Bel.mk hb; clear hb)
      obtain ⟨p, rfl⟩ : ∃ p' : Nat, p = p' := ⟨p.toNat, by omega⟩
      go_cut [11, 12] from 19 (fun s11 s12 wc => ∃ (q : Nat) (k : Int) (dj2 : Array E), s11 = .int .i64 q ∧ s12 = .int .i64 k ∧ Aside0 (a1 ≤ q ∧ q < b1) ∧ Aside0 (PermIn a1 b1 dk dj2) ∧ So C wc dj2 ∧ Fr C w wc ∧ Blk wc w.heap.size (datC C) 162)
      case first =>
        by_cases h2 : k = 2
        · have h2b : (k == 2) = true := beq_iff_eq.mpr h2
          go_wp2_with (first | (go_at_call 166; refine (reverse_calls C _ _ So.out a1 b1 (by omega) (by omega)).mono ?_; rintro e w3 ⟨rfl, D2, hs, hp, hg⟩; have k1 := So.mk hs; have k2 := Gb.mk hg; have HP := Aside0.mk (permIn_trans _ _ _ _ _ HS.out hp); clear hs hg hp))
          go_meet
          case rel => exact ⟨b1 - 1 - (p - a1), 1, D2, by congr 1; omega, rfl, ⟨⟨by omega, by omega⟩⟩, HP, inferInstance, inferInstance, inferInstance⟩
        · have h2b : (k == 2) = false := beq_eq_false_iff_ne.mpr h2
          go_wp2_with fail
          go_meet
          case rel => exact ⟨p, k, dj, rfl, rfl, ⟨⟨by omega, by omega⟩⟩, HS, inferInstance, inferInstance, inferInstance⟩
      case rest =>
        clear j1 j2 j3 jb hk hp1 hp2 HS
        obtain ⟨q, k, dj2, rfl, rfl, HQ, HS, j1, j2, j3⟩ := hcut
        obtain ⟨hq1, hq2⟩ := HQ.out
        go_upto_region 16 with fail
        go_cut [68] from 19 (fun s68 wx => ∃ t : Bool, s68 = .bool t ∧ wx = wc)
        case first =>
          cases wb <;> cases wp <;> by_cases hk1 : k = 1 <;>
            (first | have hkb : (k == 1) = true := beq_iff_eq.mpr hk1 | have hkb : (k == 1) = false := beq_eq_false_iff_ne.mpr hk1) <;>
            (go_wp2_with fail
             go_meet
             exact ⟨_, rfl, rfl⟩)
        case rest =>
          obtain ⟨t, rfl, rfl⟩ := hcut
          go_upto_if 68 with fail
          go_cut [] from 19 (fun wx => So C wx dj2 ∧ Fr C w wx ∧ Blk wx w.heap.size (datC C) 162)
          case first =>
            cases t
            · go_wp2_with fail
              go_meet
              case rel => exact ⟨j1, j2, j3⟩
            · go_wp2_with (first | (go_at_call 167; refine (partial_calls C _ _ So.out a1 b1 (by omega) (by omega)).mono ?_; rintro e w3 ⟨r, rfl, hpi, hb⟩; have jb := Bel.mk hb; have HPI := Aside0.mk hpi; clear hb hpi; cases r))
              · go_meet
                exact ⟨inferInstance, inferInstance, inferInstance⟩
              · ((try simp only [Exit.inBlock, Exit.then]); refine bodyPost_ret (results_none rfl _ _ _) rfl ?_)
                obtain ⟨h1, h2⟩ := partialInsertionSort_holds swo_beforeE dj2 a1 b1 (by omega) (by rw [HS.out.1, hds]; omega) (Below.perm HB.out (by rw [hds]; omega) HS.out)
                rw [HPI.out] at h1 h2
                obtain ⟨h3, h4⟩ := HR.out _ (permIn_trans _ _ _ _ _ HS.out h1) (h2 rfl)
                exact ⟨rfl, _, So.out, h3, h4, Fr.out⟩
          case rest =>
            clear j1 j2 j3
            obtain ⟨j1, j2, j3⟩ := hcut
            go_upto_region 18 with fail
            go_cut [83] from 19 (fun s83 wx => ∃ t : Bool, s83 = .bool t ∧ Aside0 (t = true → 0 < a1 ∧ beforeE dj2[a1 - 1]! dj2[q]! = false) ∧ So C wx dj2 ∧ Fr C w wx ∧ Blk wx w.heap.size (datC C) 162)
            case first =>
              by_cases ha0 : a1 = 0
              · have ha1 : decide (0 < (a1 : Int)) = false := decide_eq_false (by omega)
                have ha2 : decide (0 < a1) = false := decide_eq_false (by omega)
                go_wp2_with fail
                go_meet
                case rel => exact ⟨false, rfl, ⟨fun h => by cases h⟩, j1, j2, j3⟩
              · have ha1 : decide (0 < (a1 : Int)) = true := decide_eq_true (by omega)
                have ha2 : decide (0 < a1) = true := decide_eq_true (by omega)
                go_wp2_with (first | (go_at_call 142; refine (less_ex So.out _ _ (a1 - 1) q (by omega) rfl (by omega) (by omega)).mono ?_; rintro e w3 ⟨lb, rfl, hlb, hb⟩; have jb := Bel.mk hb; have HL := Aside0.mk hlb; clear hb hlb; cases lb))
                · go_meet
                  exact ⟨true, rfl, ⟨fun _ => ⟨by omega, HL.out⟩⟩, inferInstance, inferInstance, inferInstance⟩
                · go_meet
                  exact ⟨false, rfl, ⟨fun h => by cases h⟩, inferInstance, inferInstance, inferInstance⟩
            case rest =>
              clear j1 j2 j3
              obtain ⟨t, rfl, HT, j1, j2, j3⟩ := hcut
              have hsz2 : b1 ≤ dj2.size := by rw [HS.out.1, hds]; omega
              have HB2 := Aside0.mk (Below.perm HB.out (by rw [hds]; omega) HS.out)
              cases t
              · go_upto_if 109 with (go_at_call 169; refine (partition_at So.out a1 b1 q _ rfl (by omega) (by omega) (by omega)).mono ?_; rintro e w3 ⟨mid, ap, D2, hx, rfl, hs, hg⟩; have k1 := So.mk hs; have k2 := Gb.mk hg; obtain ⟨r1, r2, r3, r4, r5, r6, r7⟩ := round_part swo_beforeE (partition_holds beforeE) hq1 hq2 hsz2 HB2.out hx; have R4 := Aside0.mk r4; have R5 := Aside0.mk r5; have R6 := Aside0.mk r6; have R7 := Aside0.mk r7; clear hs hg hx r3 r4 r5 r6 r7)
                by_cases h4 : mid - a1 < b1 - mid
                · have h4z : decide ((mid : Int) - (a1 : Int) < (b1 : Int) - (mid : Int)) = true := decide_eq_true (by omega)
                  go_wp2_with (first | (go_at_call 149; refine (IH.out _ _ So.out a1 mid l2 (by omega) (by omega) (by omega) (by omega) R4.out _ _ _ rfl rfl rfl).mono ?_; rintro e w4 ⟨rfl, L, hs, hp, hso, hg⟩; have k3 := So.mk hs; have k4 := Gb.mk hg; obtain ⟨u1, u2⟩ := R6.out L hp hso; have U1 := Aside0.mk u1; have U2 := Aside0.mk u2; clear hs hp hso hg u1 u2))
                  go_roundg (b1 - (mid + 1))
                  case measure => omega
                  case rel => exact ⟨mid + 1, b1, l2, _, ap, L, by first | rfl | go_num, rfl, rfl, rfl, rfl, ⟨⟨by omega, by omega, by omega, by omega, by omega⟩⟩, U1, ⟨fun R g1 g2 => by obtain ⟨g3, g4⟩ := U2.out R g1 g2; exact HR.out R (permIn_trans _ _ _ _ _ HS.out g3) g4⟩, inferInstance, inferInstance, inferInstance⟩
                · have h4z : decide ((mid : Int) - (a1 : Int) < (b1 : Int) - (mid : Int)) = false := decide_eq_false (by omega)
                  go_wp2_with (first | (go_at_call 149; refine (IH.out _ _ So.out (mid + 1) b1 l2 (by omega) (by omega) (by omega) (by omega) R5.out _ _ _ (by omega) rfl rfl).mono ?_; rintro e w4 ⟨rfl, L, hs, hp, hso, hg⟩; have k3 := So.mk hs; have k4 := Gb.mk hg; obtain ⟨u1, u2⟩ := R7.out L hp hso; have U1 := Aside0.mk u1; have U2 := Aside0.mk u2; clear hs hp hso hg u1 u2))
                  go_roundg (mid - a1)
                  case measure => omega
                  case rel => exact ⟨a1, mid, l2, _, ap, L, rfl, rfl, rfl, rfl, rfl, ⟨⟨by omega, by omega, by omega, by omega, by omega⟩⟩, U1, ⟨fun R g1 g2 => by obtain ⟨g3, g4⟩ := U2.out R g1 g2; exact HR.out R (permIn_trans _ _ _ _ _ HS.out g3) g4⟩, inferInstance, inferInstance, inferInstance⟩
              · obtain ⟨ha0, hnl⟩ := HT.out rfl
                have HNL := Aside0.mk hnl
                clear hnl
                go_wp2_with (first | (go_at_call 168; refine (partitionEqual_at So.out a1 b1 q _ rfl (by omega) (by omega) (by omega)).mono ?_; rintro e w3 ⟨mid, D2, hx, rfl, hs, hg⟩; have k1 := So.mk hs; have k2 := Gb.mk hg; obtain ⟨r1, r2, r3, r4, r5⟩ := round_eq swo_beforeE (partitionEqual_holds beforeE) ha0 hq1 hq2 hsz2 HB2.out HNL.out hx; have R4 := Aside0.mk r4; have R5 := Aside0.mk r5; clear hs hg hx r3 r4 r5))
                go_roundg (b1 - mid)
                case measure => omega
                case rel => exact ⟨mid, b1, l2, wb, wp, D2, rfl, rfl, rfl, rfl, rfl, ⟨⟨by omega, by omega, by omega, by omega, by omega⟩⟩, R4, ⟨fun R g1 g2 => by obtain ⟨g3, g4⟩ := R5.out R g1 g2; exact HR.out R (permIn_trans _ _ _ _ _ HS.out g3) g4⟩, inferInstance, inferInstance, inferInstance⟩
theorem pdq_all (C : SoC) [SoG C] : ∀ N, PdqOk C N
  | 0 => fun _ _ _ _ _ _ h => absurd h (Nat.not_lt_zero _)
  | N + 1 => pdq_step C N (pdq_all C N)
end Go.Proofs.YtanhnhkcpbdfmaaGreat.S
namespace Go.Proofs.YtanhnhkcpbdfmaaGreat.S
open Go.RowKit Go.Sort Go.Lib Go.Proofs.YtanhnhkcpbdfmaaGreat.P Go.Proofs.YtanhnhkcpbdfmaaGreat.Q Go.Proofs.YtanhnhkcpbdfmaaGreat.V Go.Proofs.YtanhnhkcpbdfmaaGreatW.PrintWords
theorem plain4 : Plain k104 enc4 where
  len := fun _ => rfl
  pos := by decide
  of := fun {w base ok x cs} h => by
    obtain ⟨c0, c1, rfl, ⟨d0, d1, rfl, h0, h1⟩, e0, e1, rfl, h2, h3⟩ := h
    rw [h0, h1, h2, h3]
    rfl
  make := fun w base ok x => k104_mkM w base ok x
theorem R_of_so {C : SoC} {w w' : World} {base : Nat} {ok : Nat → Prop} {xs : List E} {D : Array E} (h : k104.R 104 w base ok (.slice (some ⟨C.g, 0, none⟩) xs.length C.c) xs) (hs : SoAt C w' D) (hn : xs.length = C.n) :
    k104.R 104 w' base ok (.slice (some ⟨C.g, 0, none⟩) xs.length C.c) D.toList := by
  obtain ⟨hok, inner, ho, hr⟩ := h
  rcases ho.2 with ⟨hn', _⟩ | ⟨g', cap', cur0, hv, hg, hh, hle, hmx, hcs, htk⟩
  · simp at hn'
  obtain ⟨e1, e2⟩ : C.g = g' ∧ C.c = cap' := by simpa using hv
  subst e1 e2
  obtain ⟨cur, hc, hcz⟩ := hs.shape
  have hD : D.size = xs.length := by rw [hs.size, hn]
  have hat : ∀ i, i < D.size → (cur.toList.drop (i * 4)).take 4 = enc4 D[i]! := by
    intro i hi
    obtain ⟨a0, a1, a2, a3⟩ := hs.at_ i (by rw [← hs.size]; exact hi)
    have e0 := (blk_cell hc (i * 4)).symm.trans a0
    have e1 := (blk_cell hc (i * 4 + 1)).symm.trans a1
    have e2 := (blk_cell hc (i * 4 + 2)).symm.trans a2
    have e3 := (blk_cell hc (i * 4 + 3)).symm.trans a3
    refine List.ext_getElem? fun c => ?_
    by_cases hc4 : c < 4
    · rw [chunk_at hc4, Array.getElem?_toList]
      rcases c with _ | _ | _ | _ | c
      · exact e0
      · exact e1
      · exact e2
      · exact e3
      · omega
    · rw [List.getElem?_eq_none (by rw [List.length_take]; omega), List.getElem?_eq_none (by show (enc4 D[i]!).length ≤ c; rw [enc4_len]; omega)]
  have hlen : D.toList.length = xs.length := by simpa using hD
  have hln : (cur.toList.take (xs.length * 4)).length = xs.length * 4 := by
    have hcl : cur.toList.length = C.c * 4 := by simpa using hcz
    rw [List.length_take, hcl]
    exact Nat.min_eq_left (Nat.mul_le_mul_right 4 hle)
  refine ⟨hok, cur.toList.take (xs.length * 4), ⟨?_, .inr ⟨C.g, C.c, cur, by rw [hlen], hg, hc, by rw [hlen]; exact hle, hmx, hcz, by rw [hlen]; rfl⟩⟩, ?_, fun i x hx => ?_⟩
  · rw [hlen]; exact hln
  · rw [hlen]; exact hln
  · have hi : i < D.size := by have := (List.getElem?_eq_some_iff.1 hx).1; simpa using this
    have hxi : D[i]! = x := by
      have := (List.getElem?_eq_some_iff.1 hx).2
      rw [getElem!_pos D i hi]
      simpa using this
    have e : ((cur.toList.take (xs.length * 4)).drop (i * 4)).take 4 = enc4 x := by
      rw [List.drop_take, List.take_take, Nat.min_eq_left (by rw [← hD]; omega), hat i hi, hxi]
    show k104.M w' base _ x (((cur.toList.take (xs.length * 4)).drop (i * 4)).take 4)
    rw [e]
    exact plain4.make _ _ _ _
noncomputable def svT : TypeInfo := (Tryz.prog.info? 35).get (by kernel_rfl)
noncomputable def svE : TypeInfo := (Tryz.prog.info? 104).get (by kernel_rfl)
theorem svK (n : Nat) (h2 : 2 ≤ n) : Lib.swapperK n svE 25 = 9 := by
  have a : svE.hasPointers = false := by kernel_rfl
  have b : svE.bytes = 32 := by kernel_rfl
  have c : (n == 0) = false := by simp; omega
  have d : (n == 1) = false := by simp; omega
  simp [Lib.swapperK, a, b, c, d]
theorem sort_entries (w : World) (g cap bs base : Nat) (ok : Nat → Prop) (xs : List E) (hR : k104.R 104 w base ok (.slice (some ⟨g, 0, none⟩) xs.length cap) xs) (hB : w.heap[bs]? = some (.cells #[.slice (some ⟨g, 0, none⟩) xs.length cap] 35 (0, 0)))
    (hne : bs ≠ g) (h2 : 2 ≤ xs.length) (h50 : xs.length < 50) (hf : ∀ x ∈ xs, Ftd x) :
    Calls Tryz.prog 141 #[.iface 35 (.slice (some ⟨g, 0, none⟩) xs.length cap), .func (.func 142) #[] #[.pointer (some ⟨bs, 0, none⟩)]] w fun e w' => e = .returned (.tuple #[]) ∧
      ∃ D : Array E, PermIn 0 xs.length xs.toArray D ∧ SortedIn beforeE 0 xs.length D ∧ k104.R 104 w' base ok (.slice (some ⟨g, 0, none⟩) xs.length cap) D.toList ∧ w.grownBy w' (some g) := by
  refine Any.sort_Slice_of_pdq sv6 35 104 svT svE (by kernel_rfl) (by kernel_rfl) (by kernel_rfl) (by kernel_rfl) 25 (fun _ => by kernel_rfl) _ xs.length cap (by omega) 159 (by rw [svK _ h2]; kernel_rfl) _ _ _ w _ ?_
  have hbd : sliceBound Tryz.prog 104 svE 25 (some ⟨g, 0, none⟩) xs.length cap = #[.slice (some ⟨g, 0, none⟩) xs.length cap, typeHandle Tryz.prog 104] := by
    unfold sliceBound
    rw [if_neg (swapperK_gt _ _ _ h2)]
  rw [hbd]
  let C : SoC := ⟨g, bs, xs.length, cap, #[.pointer (some ⟨bs, 0, none⟩)], #[.slice (some ⟨g, 0, none⟩) xs.length cap, typeHandle Tryz.prog 104]⟩
  haveI : SoG C := ⟨swapSwapsK_of_literal false 159 (fun args W => run_callFunc_extern Tryz.func159 (by kernel_rfl) (by kernel_rfl) (by kernel_rfl) (e := Extern.ReflectliteSwapper.swap false) (by kernel_rfl) args W) 104 svE (by kernel_rfl) enc4 4 (fun _ => rfl) (by kernel_rfl) (fun _ => by kernel_rfl) (fun x v hv => by simp [enc4] at hv; rcases hv with rfl | rfl | rfl | rfl <;> rfl) g 0 xs.length cap, h50, rfl, hne⟩
  have h0 : SoAt C w xs.toArray := by
    have hR0 := hR
    obtain ⟨_, inner, ho, _⟩ := hR0
    rcases ho.2 with ⟨hn', _⟩ | ⟨g', cap', cur0, hv, hg, hh, hle, hmx, hcs, htk⟩
    · simp at hn'
    obtain ⟨e1, e2⟩ : g = g' ∧ cap = cap' := by simpa using hv
    subst e1 e2
    exact ⟨holds_of_R plain4 hR, by simp [C], hB, blk_lt hh, ⟨cur0, hh, hcs⟩, fun x hx => hf x (by simpa using hx)⟩
  have hbl : RowKit.Below w.heap.size w (sliceWorld Tryz.prog sv6_ren 35 (some ⟨g, 0, none⟩) xs.length cap w) := below_alloc (below_alloc (RowKit.Below.refl _ _) _) _
  have h1 := h0.below hbl
  have hbit : Lib.bitLen xs.length ≤ 62 := Lib.bitLen_le xs.length 62 (by omega) (by omega)
  have := pdq_all C (xs.length + 1) _ _ h1 0 xs.length (Lib.bitLen xs.length) (by omega) (by omega) (Nat.le_refl _) (by omega) (.inl rfl) _ _ _ rfl rfl rfl
  refine this.mono ?_
  rintro e w' ⟨he, D, hs, hp, hso, hg⟩
  exact ⟨he, D, hp, hso, R_of_so (C := C) hR hs rfl, grownBy_trans (grownBy_below hbl) hg⟩
theorem sort_tiny (w : World) (A : Option Addr) (n cap bs : Nat) (h1 : n ≤ 1) :
    Calls Tryz.prog 141 #[.iface 35 (.slice A n cap), .func (.func 142) #[] #[.pointer (some ⟨bs, 0, none⟩)]] w fun e w' => e = .returned (.tuple #[]) ∧ RowKit.Below w.heap.size w w' := by
  have hK : n = 0 ∨ n = 1 := by omega
  have a : svE.hasPointers = false := by kernel_rfl
  have b : svE.bytes = 32 := by kernel_rfl
  have key : ∀ f, Tryz.prog.funcs.findIdx? (·.name == "internal/reflectlite" ++ ".Swapper$" ++ toString (swapperK n svE 25)) = some f → Calls Tryz.prog 141 #[.iface 35 (.slice A n cap), .func (.func 142) #[] #[.pointer (some ⟨bs, 0, none⟩)]] w fun e w' => e = .returned (.tuple #[]) ∧ RowKit.Below w.heap.size w w' := by
    intro f hf
    refine (Any.sort_Slice_tiny sv6 35 104 svT svE (by kernel_rfl) (by kernel_rfl) (by kernel_rfl) (by kernel_rfl) 25 (fun _ => by kernel_rfl) A n cap h1 f hf _ _ _ w).mono ?_
    rintro e w' ⟨he, os, rfl⟩
    exact ⟨he, rfl, rfl, rfl, by simp, fun k hk => heap_grow_old _ _ hk⟩
  rcases hK with rfl | rfl
  · exact key 151 (by rw [show swapperK 0 svE 25 = 1 from rfl]; kernel_rfl)
  · exact key 152 (by rw [show swapperK 1 svE 25 = 2 from rfl]; kernel_rfl)
end Go.Proofs.YtanhnhkcpbdfmaaGreat.S
namespace Go.Proofs.YtanhnhkcpbdfmaaGreat.P
open Go.RowKit Go.Proofs.YtanhnhkcpbdfmaaGreatW.PrintWords Go.Proofs.YtanhnhkcpbdfmaaGreatW.PrintLast Go.Proofs.YtanhnhkcpbdfmaaGreatW.PrintMore Go.Proofs.YtanhnhkcpbdfmaaGreat.V
open Go.Maps (Keyed)
attribute [local go_sem] cell_b frozen_b
set_option maxHeartbeats 8000000 in
set_option maxRecDepth 100000 in
set_option synthInstance.maxHeartbeats 400000 in
set_option synthInstance.maxSize 100000 in
theorem impl_OpenFaults.calls_ok (k : Nat) (A0 : Option Addr) (c0 : Nat) (l0 : List (S104)) (w : World) (hr0 : Kd.C k104 w A0 l0.length l0) (hc0 : l0.length ≤ c0) (A : impl_LogOk.f k l0 = some true) (hl30 : l0.length ≤ 30) (hw : ∀ x ∈ l0, wf64 x.f0.f0 ∧ wf64 x.f0.f1) (hfl : ∀ x ∈ l0, 0 ≤ x.f1 ∧ x.f1 ≤ 2) :
    Calls Tryz.prog 132 #[.slice A0 l0.length c0] w fun e w' => ∃ v0_ : Value, e = .returned (v0_) ∧ Kd.R k104 104 w' w.heap.size (fun _ => True) v0_ (Q.openUp l0 l0.length) ∧ Below w.heap.size w w' := by
  have hl : l0.length ≤ 1000 := by omega
  have HFL := Aside0.mk hfl
  clear hfl
  have i0 := RdE.mk hr0
  have i1 := LeI.mk hc0
  have A := Aside0.mk A
  have HW := Aside0.mk hw
  clear hr0 hc0 hw
  have hu74 := Tryz.underlying104
  have hu56 := Tryz.underlying74
  go_enter Tryz.func132, Tryz.ntmps132
  go_wp2_with (first
    | (go_at_call 77; refine (impl_LogOk.calls k _ _ _ true _ Rd.out LeI.out A.out).mono ?_; rintro e w2 ⟨rfl, hb⟩; have jb := Bel.mk hb; clear hb)
    | (go_at_call 92; refine (impl_lastOf.calls _ _ _ _ Rd.out LeI.out hl HW.out).mono ?_; rintro e w3 ⟨b, rfl, hb1, hm, hb⟩; obtain ⟨D, hD, hD2⟩ := hm; have jb := Bel.mk hb; have HD := Aside0.mk hD; have HD2 := Aside0.mk hD2; have HB1 := Aside0.mk hb1; clear hb hb1 hD hD2)
    | (at_range; refine wpList_range_own _ rfl _ 114 rfl 74 104 pipeKeyed Tryz.underlying114 pipeR b l0.length D rfl HD.out ?_; intro w4 hrg hg hs; have HRG := Aside0.mk hrg; have HG := Aside0.mk hg; have HS := Aside0.mk hs; clear hrg hg hs))
  go_frame
  have HNE := Aside0.mk (HRG.out.ne)
  have HSZ := Aside0.mk (HD.out.size_le)
  have HLB := Aside0.mk (HD.out.lt)
  have HGB : Aside0 (w2.heap.size + 2 ≤ w3.heap.size) := ⟨by have hs := (Bel.out (W := w3)).size; simpa using hs⟩
  have HGM : Aside0 (w2.heap.size + 2 ≤ b) := ⟨by have := HB1.out; simpa using this⟩
  have HGW : Aside0 (w.heap.size ≤ w2.heap.size) := ⟨Sz.out⟩
  have HB0 : Aside0 (Below w.heap.size w w4) := ⟨(From.out : Below w.heap.size w w3).grown HG.out (Sz.out : w.heap.size ≤ w3.heap.size) (fun k hk => by cases hk)⟩
  have HBX : Aside0 (w4.heap[w2.heap.size + 1]? = some (.cells #[.slice (some ⟨w2.heap.size, 0, none⟩) 0 0] 35 (0, 0))) := ⟨by
    have h3 : Blk w3 (w2.heap.size + 1) #[.slice (some ⟨w2.heap.size, 0, none⟩) 0 0] 35 := ⟨blk_below (by have := blk_new (w2.alloc (.cells #[] 104 (0, 0))) (.cells #[.slice (some ⟨w2.heap.size, 0, none⟩) 0 0] 35 (0, 0)); simpa using this) (Bel.out (W := w3))⟩
    exact (HG.out.block _ (blk_lt h3.out) (by simp)).trans h3.out⟩
  have HRW : Aside0 (Kd.R k104 104 w4 w.heap.size (fun j => j ≠ w2.heap.size + 1 ∧ j ≠ b ∧ j ≠ w3.heap.size) (.slice (some ⟨w2.heap.size, 0, none⟩) 0 0) []) := ⟨by
    have h3 : Blk w3 w2.heap.size #[] 104 := ⟨blk_below (blk_alloc (blk_new w2 (.cells #[] 104 (0, 0))) (.cells #[.slice (some ⟨w2.heap.size, 0, none⟩) 0 0] 35 (0, 0))) (Bel.out (W := w3))⟩
    have h4 : w4.heap[w2.heap.size]? = some (.cells #[] 104 (0, 0)) := (HG.out.block _ (blk_lt h3.out) (by simp)).trans h3.out
    refine ⟨fun k hk => ?_, [], ⟨rfl, .inr ⟨w2.heap.size, 0, #[], rfl, HGW.out, h4, Nat.le_refl _, Nat.zero_le _, rfl, rfl⟩⟩, Reps.none _ _⟩
    obtain rfl : w2.heap.size = k := by simpa [Value.ownBlock] using hk
    exact ⟨by omega, by have := HGM.out; omega, by have := HGB.out; omega⟩⟩
  have HF0 : Aside0 (Found (lastMap l0) (Maps.has D) []) := ⟨⟨fun x hx => by simp at hx, List.Pairwise.nil, fun p x h0 h1 hm hx hf => by
    have e1 := Maps.atKey_of_not_has hf (.map [])
    have e2 := HD2.out.at_ p h0 h1 (.map [])
    rw [hm] at e2
    exact absurd (e1.symm.trans e2) (by simp [quadD])⟩⟩
  go_loopg [] (Maps.size D + 1) (fun kq wr => ∃ (left : Lit → Bool) (cnt : Nat) (v : Value) (xs : List S104), Aside0 (kq = cnt + 1) ∧ Aside0 (xs.length + cnt ≤ Maps.size D) ∧ Aside0 (wr.ranges Tryz.prog 74 pipeR b w3.heap.size l0.length D left cnt) ∧ Aside0 (Found (lastMap l0) left xs) ∧ Aside0 (Kd.R k104 104 wr w.heap.size (fun j => j ≠ w2.heap.size + 1 ∧ j ≠ b ∧ j ≠ w3.heap.size) v xs) ∧ Aside0 (wr.heap[w2.heap.size + 1]? = some (.cells #[v] 35 (0, 0))) ∧ Aside0 (Below w.heap.size w wr))
  case atStart => exact ⟨_, _, _, [], ⟨rfl⟩, ⟨by simp⟩, HRG, HF0, HRW, HBX, HB0⟩
  case round =>
    clear HRG HF0 HRW HBX HB0 HG
    obtain ⟨left, cnt, v, xs, HK, HN, HRG, HF, HR, HBX, HB⟩ := hrel
    go_wp2_with (first
      | (at_next; refine wpList_next_ranges _ rfl _ rfl 74 pipeKeyed pipeR (fun p : S74 => pairV p.f0 p.f1) quadV (fun key kl h => by obtain ⟨a, b, rfl, _⟩ := keyOf_pipe_inv h; exact ⟨⟨a, b⟩, rfl⟩) (fun v y h => by obtain ⟨x, rfl, _⟩ := pipeR_inv h; exact ⟨x, rfl⟩) b w3.heap.size l0.length D left cnt rfl HRG.out ?_ ?_))
    rotate_left
    · intro p c kl y1 y2 w5 cnt1 hk hlk hv hat hrg1 hlt hg1 hs1 hen
      obtain ⟨p0, p1⟩ : wf64 p.f0 ∧ wf64 p.f1 := by
        obtain ⟨a, b', e, ha, hb⟩ := keyOf_pipe_inv hk
        simp [pairV] at e
        rw [e.1, e.2]
        exact ⟨ha, hb⟩
      obtain rfl : kl = pipeL p.f0 p.f1 := Option.some.inj (hk.symm.trans (keyOf_pipe p0 p1))
      obtain ⟨rfl, rfl⟩ : y1 = quadD c ∧ y2 = [] := by
        have := (pipeR_mk c).symm.trans hv
        simp at this
        exact ⟨this.1.symm, this.2⟩
      have hm := mapIs_key HD2.out p0 p1 hat
      obtain rfl : c.f0 = p := by
        have := (Q.lastMap_iff l0 p c l0.length (Nat.le_refl _)).mp (by rw [List.take_length]; exact hm)
        obtain ⟨_, _, _, e, _⟩ := this
        exact e
      have HST := Aside0.mk (HF.out.step c p0 p1 hm hlk)
      have HRG1 := Aside0.mk hrg1
      have HLT := Aside0.mk hlt
      have HG1 := Aside0.mk hg1
      have HS1 := Aside0.mk hs1
      clear hk hlk hv hat hrg1 hlt hg1 hs1 hm HF HRG
      simp only [pairV, quadV] at hen ⊢
      have HR1 := Aside0.mk (Kd.R_grown HR.out HG1.out (fun j hj e => hj.2.2 (Option.some.inj e)))
      have HBX1 : Aside0 (w5.heap[w2.heap.size + 1]? = some (.cells #[v] 35 (0, 0))) := ⟨(HG1.out.block _ (blk_lt HBX.out) (fun e => by have := HGB.out; have := Option.some.inj e; omega)).trans HBX.out⟩
      have HB1 : Aside0 (Below w.heap.size w w5) := ⟨HB.out.grown HG1.out HB.out.size (fun k hk => by cases hk; have := HGB.out; have := HGW.out; omega)⟩
      have jx := Blk.mk HBX1.out
      have HE := Aside0.mk (show (if c.f1 ≠ 0 then xs ++ [c] else xs) = (if c.f1 ≠ 0 then xs ++ [c] else xs) from rfl)
      clear HR HBX HB
      by_cases hc : c.f1 = 0
      · rw [if_neg (by simpa using hc)] at HST
        obtain ⟨ck, c1, c2⟩ := c
        simp only at hc
        subst hc
        simp only at hen ⊢
        go_wp2
        go_roundg (cnt1 + 1)
        case measure => have := HK.out; have := HLT.out; omega
        case rel =>
          refine ⟨_, cnt1, v, xs, ⟨rfl⟩, ⟨by have := HN.out; have := HLT.out; omega⟩, ⟨HRG1.out.alloc _⟩, HST, ⟨Kd.R_alloc HR1.out _⟩, ⟨blk_alloc HBX1.out _⟩, ⟨below_alloc HB1.out _⟩⟩
      · rw [if_pos hc] at HST
        have hd := beq_eq_false_iff_ne.mpr hc
        have he := bne_iff_ne.mpr hc
        go_upto_region 8 with (fail)
        generalize hW : w5.alloc _ = W
        have HR7 : Aside0 (Kd.R k104 104 W w.heap.size (fun j => j ≠ w2.heap.size + 1 ∧ j ≠ b ∧ j ≠ w3.heap.size) v xs) := ⟨by rw [← hW]; exact Kd.R_alloc HR1.out _⟩
        have HBX7 : Aside0 (W.heap[w2.heap.size + 1]? = some (.cells #[v] 35 (0, 0))) := ⟨by rw [← hW]; exact blk_alloc HBX1.out _⟩
        have HB7 : Aside0 (Below w.heap.size w W) := ⟨by rw [← hW]; exact below_alloc HB1.out _⟩
        have HRG7 : Aside0 (W.ranges Tryz.prog 74 pipeR b w3.heap.size l0.length D _ cnt1) := ⟨by rw [← hW]; exact HRG1.out.alloc _⟩
        have HSZ7 : Aside0 (w3.heap.size + 1 ≤ W.heap.size) := ⟨HRG7.out.lt⟩
        have jE : Blk W w5.heap.size #[.int .i64 c.f0.f0, .int .i64 c.f0.f1, .int .i64 c.f1, .int .i64 c.f2] 104 := ⟨by rw [← hW]; exact blk_new w5 _⟩
        have jX := Blk.mk HBX7.out
        clear hW jx HR1 HBX1 HB1 HRG1
        go_wp2_with (first
          | (refine Kd.R_append k104 (w0 := w) w.heap.size rfl (.tmp 20) (.tmp 22) 35 104 (.agg #[(.int .i64 0), (.int .i64 0), (.int .i64 0), (.int .i64 0)]) 32 rfl Tryz.underlying35 info104 rfl (by decide) (by omega) v xs c [.int .i64 c.f0.f0, .int .i64 c.f0.f1, .int .i64 c.f1, .int .i64 c.f2] (fun j => j ≠ w2.heap.size + 1 ∧ j ≠ b ∧ j ≠ w3.heap.size) (fun _ => False) rfl rfl ?aP (fun _ hk => hk.elim) ?aF ?aO ?aB ?aS ?aL ?_; (case aP => exact k104_mkM _ _ _ c); (case aB => exact HB7.out); (case aF => intro j hj; have := HSZ7.out; have := HGB.out; have := HLB.out; exact ⟨by omega, by omega, by omega⟩); (case aO => exact HR7.out); (case aS => exact HB7.out.size); (case aL => have := HN.out; have := HSZ.out; omega); intro v1 w6 ho hb hg hat; obtain ⟨B1, b1, rfl⟩ := Kd.R_slice ho; have HO := Aside0.mk ho; have HB6 := Aside0.mk hb; have HG6 := Aside0.mk hg; have j6 : Blk w6 (w2.heap.size + 1) #[v] 35 := ⟨(HG6.out.block _ (blk_lt HBX7.out) (fun e => (HR7.out.1 _ e.symm).1 rfl)).trans HBX7.out⟩; clear ho hb hg))
        go_roundg (cnt1 + 1)
        case measure => have := HK.out; have := HLT.out; omega
        case rel =>
          refine ⟨_, cnt1, .slice B1 (xs.length + 1) b1, xs ++ [c], ⟨rfl⟩, ⟨by have := HN.out; have := HLT.out; simp only [List.length_append, List.length_singleton]; omega⟩, ⟨?_⟩, HST, ⟨?_⟩, ⟨?_⟩, ⟨?_⟩⟩
          · refine World.ranges.kept (HRG7.out.kept HG6.out (fun e => (HR7.out.1 _ e.symm).2.1 rfl) (fun e => (HR7.out.1 _ e.symm).2.2 rfl)) (grownBy_setCell' w6 _ _) (fun e => ?_) (fun e => ?_)
            · have := HGM.out; have := Option.some.inj e; omega
            · have := HGB.out; have := Option.some.inj e; omega
          · refine Kd.R_far (by simpa using HO.out) (fun j hj => hj.1) _
          · exact blk_put j6.out 0 _ rfl
          · exact below_set HB6.out (by have := HGW.out; omega)
    · intro hc0 hl0
      have hall := HF.out.all
      have hnd : xs.Nodup := by
        refine HF.out.nodup.imp ?_
        intro p q h e
        exact h (by rw [e])
      have hmem : ∀ x, x ∈ xs ↔ lastMap l0 x.f0 = some x ∧ x.f1 ≠ 0 := fun x => ⟨fun hx => ⟨(hall x hx).1, (hall x hx).2.1⟩, fun hx => by
        have hin : x ∈ l0 := by
          have h9 := (Q.mem_open l0 x).mpr hx
          obtain ⟨i, _, _, h3⟩ := (Q.mem_openUp l0 x l0.length (Nat.le_refl _)).mp h9
          exact List.mem_of_getElem? h3
        exact HF.out.got x.f0 x (HW.out x hin).1 (HW.out x hin).2 hx.1 hx.2 (hl0 _)⟩
      have hin : ∀ x ∈ xs, x ∈ l0 := fun x hx => by
        have h9 := (Q.mem_open l0 x).mpr ((hmem x).mp hx)
        obtain ⟨i, _, _, h3⟩ := (Q.mem_openUp l0 x l0.length (Nat.le_refl _)).mp h9
        exact List.mem_of_getElem? h3
      have hft : ∀ x ∈ xs, S.Ftd x := fun x hx => by
        have h8 := HFL.out x (hin x hx)
        have h9 := ((hmem x).mp hx).2
        unfold S.Ftd
        omega
      have hfin : ∀ D' : Array S104, Sort.PermIn 0 xs.length xs.toArray D' → Sort.SortedIn Q.beforeE 0 xs.length D' → D'.toList = Q.openUp l0 l0.length := fun D' hp hs => by
        obtain ⟨h8, h9⟩ := sorted_pairwise (lt := Q.beforeE) (D := xs.toArray) (D' := D') (by simpa using hp) (by simpa using hs) (fun a _ c _ hne => Q.before_total hne) (by simpa using hnd)
        refine Q.open_unique l0 _ h9 fun x => ?_
        rw [h8.mem_iff]
        simpa using hmem x
      have hsmall : xs.length < 50 := by have := HN.out; have := HSZ.out; omega
      have HFT := Aside0.mk hft
      have HFIN := Aside0.mk hfin
      clear hall hnd hmem hin hft hfin HF HRG
      have jx := Blk.mk HBX.out
      by_cases h2 : 2 ≤ xs.length
      · obtain ⟨g, cap, rfl, hg1, hg2, _⟩ := Kd.R_form HR.out (by omega)
        have hne : w2.heap.size + 1 ≠ g := fun e => (HR.out.1 g (by simp [Value.ownBlock])).1 e.symm
        go_wp2_with (first
          | (go_at_call 141; refine (S.sort_entries wr g cap (w2.heap.size + 1) w.heap.size _ xs HR.out HBX.out hne h2 hsmall HFT.out).mono ?_; rintro e w9 ⟨rfl, D9, hp, hso, hR9, hg9⟩; have jx9 : Blk w9 (w2.heap.size + 1) #[.slice (some ⟨g, 0, none⟩) xs.length cap] 35 := ⟨(hg9.block _ (blk_lt HBX.out) (fun e => hne (Option.some.inj e))).trans HBX.out⟩; have H9 := Aside0.mk (HFIN.out D9 hp hso); have R9 := Aside0.mk hR9; have B9 : Aside0 (Below w.heap.size w w9) := ⟨HB.out.grown hg9 HB.out.size (fun k hk => by cases hk; exact hg1)⟩; clear hp hso hR9 hg9))
        go_ret
        refine ⟨_, rfl, ?_, B9.out⟩
        rw [← H9.out]
        exact Kd.R_mono R9.out (fun _ _ => trivial)
      · obtain ⟨A9, cap, rfl⟩ := Kd.R_slice HR.out
        go_wp2_with (first
          | (go_at_call 141; refine (S.sort_tiny wr A9 xs.length cap (w2.heap.size + 1) (by omega)).mono ?_; rintro e w9 ⟨rfl, hb9⟩; have jb9 := Bel.mk hb9; have R9 := Aside0.mk (Kd.R_below HR.out hb9); have B9 : Aside0 (Below w.heap.size w w9) := ⟨below_step HB.out hb9⟩; clear hb9))
        go_ret
        refine ⟨_, rfl, ?_, B9.out⟩
        have hp : Sort.PermIn 0 xs.length xs.toArray xs.toArray := Sort.permIn_refl _ _ _
        have hso : Sort.SortedIn Q.beforeE 0 xs.length xs.toArray := fun i j _ h1 h2 => by omega
        rw [← HFIN.out xs.toArray hp hso]
        exact Kd.R_mono R9.out (fun _ _ => trivial)
set_option maxHeartbeats 8000000 in
set_option maxRecDepth 100000 in
set_option synthInstance.maxHeartbeats 400000 in
set_option synthInstance.maxSize 100000 in
theorem impl_OpenFaults.calls_no (k : Nat) (A0 : Option Addr) (c0 : Nat) (l0 : List (S104)) (w : World) (hr0 : Kd.C k104 w A0 l0.length l0) (hc0 : l0.length ≤ c0) (A : impl_LogOk.f k l0 = some false) :
    Calls Tryz.prog 132 #[.slice A0 l0.length c0] w fun e w' => ∃ v0_ : Value, e = .returned (v0_) ∧ Kd.R k104 104 w' w.heap.size (fun _ => True) v0_ ([] : List S104) ∧ Below w.heap.size w w' := by
  have i0 := RdE.mk hr0
  have i1 := LeI.mk hc0
  have A := Aside0.mk A
  clear hr0 hc0
  go_enter Tryz.func132, Tryz.ntmps132
  go_wp2_with (first
    | (go_at_call 77; refine (impl_LogOk.calls k _ _ _ false _ Rd.out LeI.out A.out).mono ?_; rintro e w2 ⟨rfl, hb⟩; have jb := Bel.mk hb; clear hb))
  go_ret
  exact ⟨_, rfl, Kd.R_nil _ _ _ _ _, From.out⟩
end Go.Proofs.YtanhnhkcpbdfmaaGreat.P
namespace Go.Proofs.YtanhnhkcpbdfmaaGreat.P
open Go.RowKit Go.Proofs.YtanhnhkcpbdfmaaGreatW.PrintWords Go.Proofs.YtanhnhkcpbdfmaaGreatW.PrintLast Go.Proofs.YtanhnhkcpbdfmaaGreatW.PrintMore Go.Proofs.YtanhnhkcpbdfmaaGreat.V
attribute [local go_sem] cell_b frozen_b
attribute [local go_sem] max2_int min2_int max_two min_two max_three min_three max_four min_four
def impl_OpenFaults.f (l0 : List (S104)) : Option (List (S104)) := if l0.length ≤ 1048577 then some (if Q.logOk l0 = true then Q.openUp l0 l0.length else []) else none
theorem impl_OpenFaults.calls (A0 : Option Addr) (c0 : Nat) (l0 : List (S104)) (r : List (S104)) (w : World) (hr0 : Kd.C k104 w A0 l0.length l0) (hc0 : l0.length ≤ c0) (h : impl_OpenFaults.f l0 = some r) :
  Calls Tryz.prog 132 #[.slice A0 l0.length c0] w fun e w' => ∃ v0_ : Value, e = .returned (v0_) ∧ Kd.R k104 104 w' w.heap.size (fun _ => True) v0_ r ∧ Below w.heap.size w w' := by
 unfold impl_OpenFaults.f at h
 by_cases h0 : l0.length ≤ 1048577
 rotate_left
 ·rw [if_neg h0] at h; cases h
 rw [if_pos h0] at h
 obtain ⟨k, hk⟩ := Q.logOk_impl l0 h0
 have A := hk k (Nat.le_refl _)
 by_cases hb : Q.logOk l0 = true
 ·rw [if_pos hb] at h
  rw [hb] at A
  obtain ⟨h1, h2, h3⟩ := logOk_all hb
  obtain rfl := Option.some.inj h
  exact impl_OpenFaults.calls_ok k A0 c0 l0 w hr0 hc0 A h1 h2 h3
 ·rw [if_neg hb] at h
  rw [Bool.eq_false_iff.mpr hb] at A
  obtain rfl := Option.some.inj h
  exact impl_OpenFaults.calls_no k A0 c0 l0 w hr0 hc0 A
end Go.Proofs.YtanhnhkcpbdfmaaGreat.P
namespace Go.Proofs.YtanhnhkcpbdfmaaGreat.P
set_option maxHeartbeats 8000000
set_option maxRecDepth 100000
open Go.RowKit Go.Proofs.YtanhnhkcpbdfmaaGreatW.PrintWords Go.Proofs.YtanhnhkcpbdfmaaGreatW.PrintLast Go.Proofs.YtanhnhkcpbdfmaaGreatW.PrintMore
attribute [local go_sem] max2_int min2_int max_two min_two max_three min_three max_four min_four
def impl_NextRepair.f (l0 : List (S104)) : Option (Int × Int × Bool) := (impl_OpenFaults.f l0).bind fun t879 => (if (t879.length : Int) = 0 then (some (0, 0, false)) else (if 0 < (t879.length : Int) then (some ((rd_T104 t879 0).f0.f0, (rd_T104 t879 0).f0.f1, true)) else (none)))
theorem impl_NextRepair.calls (A0 : Option Addr) (c0 : Nat) (l0 : List (S104)) (r1 : Int) (r2 : Int) (r3 : Bool) (w : World) (hr0 : Kd.C k104 w A0 l0.length l0) (hc0 : l0.length ≤ c0) (h : impl_NextRepair.f l0 = some (r1, r2, r3)) :
  Calls Tryz.prog 110 #[.slice A0 l0.length c0] w fun e w' => e = .returned (.tuple #[.agg #[.int .i64 r1, .int .i64 r2], .bool r3]) ∧ Below w.heap.size w w' := by
 have hu74 := Tryz.underlying74
 have HR0 := A_ hr0
 have HC0 := A_ hc0
 clear hr0 hc0
 have HB := A_ (Below.refl w.heap.size w)
 have H : ((impl_OpenFaults.f l0).bind fun t879 => (if (t879.length : Int) = 0 then (some (0, 0, false)) else (if 0 < (t879.length : Int) then (some ((rd_T104 t879 0).f0.f0, (rd_T104 t879 0).f0.f1, true)) else (none)))) = some (r1, r2, r3) := h
 clear h
 replace H := Option.bind_eq_some_iff.mp H
 obtain ⟨t879, A20, H⟩ := H
 (try dsimp only at H)
 have A2 := A_ A20
 clear A20
 by_cases c3 : (t879.length : Int) = 0
 ·rw [if_pos c3] at H
  have c3b0 : ((t879.length : Int) == 0) = true := beq_iff_eq.mpr c3
  have c3b1 : ((t879.length : Int) != 0) = false := bne_eq_false_iff_eq.mpr c3
  clear c3
  simp only [Option.some.injEq, Prod.mk.injEq] at H
  obtain ⟨rfl, rfl, rfl⟩ := H
  go_enter Tryz.func110, Tryz.ntmps110
  go_wp2_with (first | ((with_reducible refine gate_dst (N := 2) rfl ?_); refine bX (N := 2) (cs := #[.int .i64 0, .int .i64 0]) (t := 74) ?_; intro gb878 hg w4 hbox hb; have n0_ := A_ (below_step (oB HB) hb); have n1_ := A_ (hbox); have n2_ := A_ ((by rw [hg]; exact (below_size (oB HB)) : w.heap.size ≤ gb878)); have n3_ := A_ ((by rw [hg]; exact (below_size (oB HB)) : w.heap.size ≤ gb878)); clear HB; have HB := n0_; have BK878 := n1_; have GW878 := n2_; have GE878 := n3_; clear n0_ n1_ n2_ n3_; clear hb hbox hg) | ((with_reducible refine gate_callee (f := 132) rfl ?_); refine gL (some 6) Tryz.func132 #[.slice A0 l0.length c0] ?_; (with_reducible refine (impl_OpenFaults.calls _ _ l0 t879 _ ?side1 ?side2 A2.out).mono ?_); (case side1 => exact oc_ HR0.out); (case side2 => exact HC0.out); rintro e w5 ⟨v880, rfl, ho0, hb⟩; refine ⟨_, rfl, ?_⟩; have n0_ := A_ (Kd.R_lower ho0 (below_size (oB HB))); have n1_ := A_ (bb BK878 hb); have n2_ := A_ (below_step (oB HB) hb); clear BK878; clear HB; have HO881 := n0_; have BK878 := n1_; have HB := n2_; clear n0_ n1_ n2_; (try clear hb); (try clear hb2); (try clear hk); (try clear hi); (try clear ho0); obtain ⟨Ao6, co6, eo6⟩ := Kd.R_slice HO881.out; subst eo6; have hcz7_0 := cz BK878 0; have hcz7_1 := cz BK878 1; have hfz7_0 := blk_frozen BK878.out 0; have hfz7_1 := blk_frozen BK878.out 1))
  refine bodyPost_ret (results_ct rfl _ _ gb878 74 #[.int .i64 0, .int .i64 0] (0, 0) _ rfl (by (with_reducible repeat (first | refine blk_drewN ?_ _ | refine blk_drew ?_ | refine blk_alloc ?_ _)); refine blk_put (cs := #[.int .i64 0, .int .i64 0]) ?_ 1 _ rfl; (with_reducible repeat (first | refine blk_drewN ?_ _ | refine blk_drew ?_ | refine blk_alloc ?_ _)); refine blk_put (cs := #[.int .i64 0, .int .i64 0]) ?_ 0 _ rfl; (with_reducible repeat (first | refine blk_drewN ?_ _ | refine blk_drew ?_ | refine blk_alloc ?_ _)); exact BK878.out) Tryz.underlying74 rfl (by kernel_rfl)) rfl ?_
  exact ⟨eR, oB HB⟩
 ·rw [if_neg c3] at H
  have c3b0 : ((t879.length : Int) == 0) = false := beq_eq_false_iff_ne.mpr c3
  have c3b1 : ((t879.length : Int) != 0) = true := bne_iff_ne.mpr c3
  have c3b2 : ¬ (t879 = []) := fun h_ => c3 (by rw [h_]; rfl)
  by_cases c8 : 0 < (t879.length : Int)
  ·rw [if_pos c8] at H
   have c8b0 : decide (0 < (t879.length : Int)) = true := decide_eq_true c8
   have c8b1 : decide (0 < t879.length) = true := decide_eq_true (by omega)
   clear c8
   simp only [Option.some.injEq, Prod.mk.injEq] at H
   obtain ⟨rfl, rfl, rfl⟩ := H
   go_enter Tryz.func110, Tryz.ntmps110
   go_wp2_with (first | ((with_reducible refine gate_dst (N := 2) rfl ?_); refine bX (N := 2) (cs := #[.int .i64 0, .int .i64 0]) (t := 74) ?_; intro gb878 hg w9 hbox hb; have n0_ := A_ (below_step (oB HB) hb); have n1_ := A_ (hbox); have n2_ := A_ ((by rw [hg]; exact (below_size (oB HB)) : w.heap.size ≤ gb878)); have n3_ := A_ ((by rw [hg]; exact (below_size (oB HB)) : w.heap.size ≤ gb878)); clear HB; have HB := n0_; have BK878 := n1_; have GW878 := n2_; have GE878 := n3_; clear n0_ n1_ n2_ n3_; clear hb hbox hg) | ((with_reducible refine gate_callee (f := 132) rfl ?_); refine gL (some 6) Tryz.func132 #[.slice A0 l0.length c0] ?_; (with_reducible refine (impl_OpenFaults.calls _ _ l0 t879 _ ?side1 ?side2 A2.out).mono ?_); (case side1 => exact oc_ HR0.out); (case side2 => exact HC0.out); rintro e w10 ⟨v880, rfl, ho0, hb⟩; refine ⟨_, rfl, ?_⟩; have n0_ := A_ (Kd.R_lower ho0 (below_size (oB HB))); have n1_ := A_ (bb BK878 hb); have n2_ := A_ (below_step (oB HB) hb); clear BK878; clear HB; have HO881 := n0_; have BK878 := n1_; have HB := n2_; clear n0_ n1_ n2_; (try clear hb); (try clear hb2); (try clear hk); (try clear hi); (try clear ho0); obtain ⟨Ao11, co11, eo11⟩ := Kd.R_slice HO881.out; subst eo11; have p882 : 0 ≤ (0 : Int) := (by omega); have q882 : 0 < (t879.length : Int) := oD; obtain ⟨ad882, e882, hx882_0, hx882_1, hx882_2, hx882_3⟩ := at_T104 (Kd.R_reads' HO881.out).2.2 0 p882 q882; cases e882; have qi882 : (0 < t879.length) = True := eq_true (by omega); (try rw [show ((0 : Int)).toNat = 0 from rfl] at hx882_0); (try rw [show 0 * 4 = 0 from rfl] at hx882_0); (try rw [Addr.add_zero'] at hx882_0); (try rw [show ((0 : Int)).toNat = 0 from rfl] at hx882_1); (try rw [show 0 * 4 = 0 from rfl] at hx882_1); (try rw [Addr.add_zero'] at hx882_1); (try rw [show ((0 : Int)).toNat = 0 from rfl] at hx882_2); (try rw [show 0 * 4 = 0 from rfl] at hx882_2); (try rw [Addr.add_zero'] at hx882_2); (try rw [show ((0 : Int)).toNat = 0 from rfl] at hx882_3); (try rw [show 0 * 4 = 0 from rfl] at hx882_3); (try rw [Addr.add_zero'] at hx882_3); replace p882 := eq_true p882; replace q882 := eq_true q882; have hcz12_0 := cz BK878 0; have hcz12_1 := cz BK878 1; have hfz12_0 := blk_frozen BK878.out 0; have hfz12_1 := blk_frozen BK878.out 1))
   refine bodyPost_ret (results_ct rfl _ _ gb878 74 #[.int .i64 ((rd_T104 t879 0).f0.f0), .int .i64 ((rd_T104 t879 0).f0.f1)] (0, 0) _ rfl (by (with_reducible repeat (first | refine blk_drewN ?_ _ | refine blk_drew ?_ | refine blk_alloc ?_ _)); refine blk_put (cs := #[.int .i64 ((rd_T104 t879 0).f0.f0), .int .i64 0]) ?_ 1 _ rfl; (with_reducible repeat (first | refine blk_drewN ?_ _ | refine blk_drew ?_ | refine blk_alloc ?_ _)); refine blk_put (cs := #[.int .i64 0, .int .i64 0]) ?_ 0 _ rfl; (with_reducible repeat (first | refine blk_drewN ?_ _ | refine blk_drew ?_ | refine blk_alloc ?_ _)); exact BK878.out) Tryz.underlying74 rfl (by kernel_rfl)) rfl ?_
   exact ⟨eR, oB HB⟩
  ·rw [if_neg c8] at H
   exact absurd H (by simp)
end Go.Proofs.YtanhnhkcpbdfmaaGreat.P
namespace Go.Proofs.YtanhnhkcpbdfmaaGreat.P
set_option maxHeartbeats 8000000
set_option maxRecDepth 100000
set_option synthInstance.maxHeartbeats 400000
set_option synthInstance.maxSize 100000
open Go.RowKit Go.Proofs.YtanhnhkcpbdfmaaGreatW.PrintWords Go.Proofs.YtanhnhkcpbdfmaaGreatW.PrintLast Go.Proofs.YtanhnhkcpbdfmaaGreatW.PrintMore Go.Proofs.YtanhnhkcpbdfmaaGreat.V
attribute [local go_sem] cell_b frozen_b
attribute [local go_sem] max2_int min2_int max_two min_two max_three min_three max_four min_four
def impl_RepairNext.f (k : Nat) (l0 : List (S104)) (a1 : Int) : Option ((List (S104)) × Bool) := (impl_NextRepair.f l0).bind fun bt883 => (if bt883.2.2 = true then ((impl_AddEntry.f k l0 bt883.1 bt883.2.1 0 a1).bind fun bt887 => (some (bt887.1, bt887.2))) else ((impl_copyLog.f l0).bind fun t891 => (some (t891, false))))
theorem impl_RepairNext.calls (k : Nat) (A0 : Option Addr) (c0 : Nat) (l0 : List (S104)) (a1 : Int) (r1 : List (S104)) (r2 : Bool) (w : World) (hr0 : Kd.C k104 w A0 l0.length l0) (hc0 : l0.length ≤ c0) (h : impl_RepairNext.f k l0 a1 = some (r1, r2)) :
  Calls Tryz.prog 62 #[.slice A0 l0.length c0, .int .i64 a1] w fun e w' => ∃ v0_ : Value, e = .returned (.tuple #[v0_, .bool r2]) ∧ Kd.R k104 104 w' w.heap.size (fun _ => True) v0_ r1 ∧ Below w.heap.size w w' := by
 replace hr0 := RdE.mk hr0
 replace hc0 := LeI.mk hc0
 unfold impl_RepairNext.f at h
 have hu74 := Tryz.underlying74
 (repeat' first | ((with_reducible replace h := ite_some h); rcases h with ⟨hc, h⟩ | ⟨hc, h⟩ <;> first | exact (none_some h).elim | exact absurd hc (by decide) | subst hc | (replace hc := hF_ hc; subst hc) | (have hd := hI_ hc; have he := hJ_ hc; clear hc) | (have hd := hK_ hc; have he := hL_ hc) | (have hd := decide_eq_false hc) | (have hd := decide_eq_true hc) | skip))
 all_goals go_enter Tryz.func62, Tryz.ntmps62
 all_goals go_wp2_with ((first
  | ((with_reducible refine gate_dst (N := 6) rfl ?_); refine bV #[.int .i64 0, .int .i64 0] 74 fun g w1 j1 j2 j3 => ?_)
  | (go_at_call 110; replace h := bI h; obtain ⟨⟨t1, t2, t3⟩, A, h⟩ := h; (try dsimp only at h); refine (impl_NextRepair.calls _ _ _ _ _ _ _ Rd.out LeI.out A).mono ?_; rintro e w2 ⟨rfl, hb⟩; have jb := Bel.mk hb; clear A hb)
  | (go_at_call 108; replace h := bI h; obtain ⟨⟨t1, t2⟩, A, h⟩ := h; (try dsimp only at h); refine (impl_AddEntry.calls _ _ _ _ _ _ _ _ _ _ _ Rd.out LeI.out A).mono ?_; rintro e w2 ⟨v0, rfl, ho0, hb⟩; obtain ⟨B0, b0, rfl, j0, q0⟩ := rowS ho0; have jb := Bel.mk hb; clear A ho0 hb)
  | (go_at_call 107; replace h := bI h; obtain ⟨t, A, h⟩ := h; (try dsimp only at h); refine (impl_copyLog.calls _ _ _ _ _ Rd.out LeI.out A).mono ?_; rintro e w2 ⟨v0, rfl, ho0, hb⟩; obtain ⟨B0, b0, rfl, j0, q0⟩ := rowS ho0; have jb := Bel.mk hb; clear A ho0 hb)); (repeat' first | ((with_reducible replace h := ite_some h); rcases h with ⟨hc, h⟩ | ⟨hc, h⟩ <;> first | exact (none_some h).elim | exact absurd hc (by decide) | subst hc | (replace hc := hF_ hc; subst hc) | (have hd := hI_ hc; have he := hJ_ hc; clear hc) | (have hd := hK_ hc; have he := hL_ hc) | (have hd := decide_eq_false hc) | (have hd := decide_eq_true hc) | skip)); all_goals (try have hn : decide (0 < t.length) = true := decide_eq_true (by omega)); all_goals (try have hn : decide (0 < t.length) = false := decide_eq_false (by omega)))
 all_goals simp only [Option.some.injEq, Prod.mk.injEq] at h
 all_goals obtain ⟨rfl, rfl⟩ := h
 all_goals go_ret2
 all_goals exact ⟨_, rfl, (by first | exact rowFin | exact Kd.R_nil _ _ _ _ _), From.out⟩
end Go.Proofs.YtanhnhkcpbdfmaaGreat.P
namespace Go.Proofs.YtanhnhkcpbdfmaaGreat.P
set_option maxHeartbeats 8000000
set_option maxRecDepth 100000
set_option synthInstance.maxHeartbeats 400000
set_option synthInstance.maxSize 100000
open Go.RowKit Go.Proofs.YtanhnhkcpbdfmaaGreatW.PrintWords Go.Proofs.YtanhnhkcpbdfmaaGreatW.PrintLast Go.Proofs.YtanhnhkcpbdfmaaGreatW.PrintMore Go.Proofs.YtanhnhkcpbdfmaaGreat.V
attribute [local go_sem] cell_b frozen_b cellR_c cell_r frozen_r cell_r0 frozen_r0
attribute [local go_sem] max2_int min2_int max_two min_two max_three min_three max_four min_four
def impl_DoAct.j0 : Nat → Bool → List (S112) → Int → List Int → Int → Int → List (S104) → Int → Int → Int → Int → Option ((List (S112)) × Int × List Int × Int × Int × (List (S104)) × Int)
 | 0, _, _, _, _, _, _, _, _, _, _, _ => none
 | k + 1, x24, x895000, x895001, x895002, x895003, x895004, x895005, x896000, x896001, x896002, x896003 => if x24 = true then ((impl_copyShop.f x895000 x895001 x895002 x895003 x895004 x895005).bind fun bt899 => (some (bt899.1, bt899.2.1, bt899.2.2.1, bt899.2.2.2.1, bt899.2.2.2.2.1, bt899.2.2.2.2.2, (-1)))) else (if x896000 = 1 then ((impl_ShopTune.f k x895000 x895001 x895002 x895003 x895004 x895005).bind fun bt911 => ((impl_truth.f bt911.2.2.2.2.2.2).bind fun t925 => (some (bt911.1, bt911.2.1, bt911.2.2.1, bt911.2.2.2.1, bt911.2.2.2.2.1, bt911.2.2.2.2.2.1, t925)))) else (if x896000 = 2 then ((impl_ShopWarm.f k x895000 x895001 x895002 x895003 x895004 x895005 x896001).bind fun bt926 => ((impl_truth.f bt926.2.2.2.2.2.2).bind fun t940 => (some (bt926.1, bt926.2.1, bt926.2.2.1, bt926.2.2.2.1, bt926.2.2.2.2.1, bt926.2.2.2.2.2.1, t940)))) else (if x896000 = 3 then ((impl_ShopFault.f k x895000 x895001 x895002 x895003 x895004 x895005 x896001 x896002 x896003).bind fun bt941 => ((impl_truth.f bt941.2.2.2.2.2.2).bind fun t955 => (some (bt941.1, bt941.2.1, bt941.2.2.1, bt941.2.2.2.1, bt941.2.2.2.2.1, bt941.2.2.2.2.2.1, t955)))) else (if x896000 = 4 then ((impl_ShopKnock.f k x895000 x895001 x895002 x895003 x895004 x895005 x896001 x896002).bind fun bt956 => ((impl_truth.f bt956.2.2.2.2.2.2).bind fun t970 => (some (bt956.1, bt956.2.1, bt956.2.2.1, bt956.2.2.2.1, bt956.2.2.2.2.1, bt956.2.2.2.2.2.1, t970)))) else (if x896000 = 5 then ((impl_copyShop.f x895000 x895001 x895002 x895003 x895004 x895005).bind fun bt971 => ((impl_RepairNext.f k x895005 x895004).bind fun bt984 => ((impl_truth.f bt984.2).bind fun t988 => (some (bt971.1, bt971.2.1, bt971.2.2.1, bt971.2.2.2.1, bt971.2.2.2.2.1, bt984.1, t988))))) else (if x896000 = 6 then ((impl_copyShop.f x895000 x895001 x895002 x895003 x895004 x895005).bind fun bt989 => ((impl_StepsLeft.f k x895000 x895001 x895002 x895003 x895004 x895005).bind fun t1001 => (some (bt989.1, bt989.2.1, bt989.2.2.1, bt989.2.2.2.1, bt989.2.2.2.2.1, bt989.2.2.2.2.2, t1001)))) else ((impl_copyShop.f x895000 x895001 x895002 x895003 x895004 x895005).bind fun bt1002 => ((impl_HeardAt.f k x895000 x895001 x895002 x895003 x895004 x895005 x896001).bind fun t1014 => (some (bt1002.1, bt1002.2.1, bt1002.2.2.1, bt1002.2.2.2.1, bt1002.2.2.2.2.1, bt1002.2.2.2.2.2, t1014))))))))))
def impl_DoAct.f (k : Nat) (l0_0 : List (S112)) (a0_1 : Int) (l0_2 : List Int) (a0_3 : Int) (a0_4 : Int) (l0_5 : List (S104)) (a1_0 : Int) (a1_1 : Int) (a1_2 : Int) (a1_3 : Int) : Option ((List (S112)) × Int × List Int × Int × Int × (List (S104)) × Int) := (impl_ShopOk.f k l0_0 a0_1 l0_2 a0_3 a0_4 l0_5).bind fun t897 => (if t897 = true then ((impl_ActOk.f k a1_0 a1_1 a1_2 a1_3).bind fun t898 => (impl_DoAct.j0 k (!t898) l0_0 a0_1 l0_2 a0_3 a0_4 l0_5 a1_0 a1_1 a1_2 a1_3)) else (impl_DoAct.j0 k true l0_0 a0_1 l0_2 a0_3 a0_4 l0_5 a1_0 a1_1 a1_2 a1_3))
def impl_DoAct.T23 : Bool × List (List Nat × List Nat) := (true, [([], []), ([0], [0]), ([], []), ([], []), ([3], [3]), ([2, 4, 1], [2, 4]), ([1, 5, 0, 1], [1]), ([5, 6, 0, 1, 2, 3, 4, 5, 6], [5])])
def impl_DoAct.B23 : List Nat := [0, 1, 0, 0, 8, 31, 63, 127]
theorem impl_DoAct.tab23 : rtab .any (opsOf Tryz.f13 23) = impl_DoAct.T23 := by kernel_rfl
theorem impl_DoAct.bits23 : waitsOk impl_DoAct.T23.2 impl_DoAct.B23 = true := by kernel_rfl
noncomputable def impl_DoAct.T6 : Bool × List (List Nat × List Nat) := rtab .any (opsOf Tryz.f13 6)
def impl_DoAct.B6 : List Nat := [0, 0, 2, 7, 15]
theorem impl_DoAct.tab6 : rtab .any (opsOf Tryz.f13 6) = impl_DoAct.T6 := rfl
theorem impl_DoAct.bits6 : waitsOk impl_DoAct.T6.2 impl_DoAct.B6 = true := by kernel_rfl
noncomputable def impl_DoAct.T9 : Bool × List (List Nat × List Nat) := rtab .any (opsOf Tryz.f13 9)
def impl_DoAct.B9 : List Nat := [0, 0, 2, 7, 15]
theorem impl_DoAct.tab9 : rtab .any (opsOf Tryz.f13 9) = impl_DoAct.T9 := rfl
theorem impl_DoAct.bits9 : waitsOk impl_DoAct.T9.2 impl_DoAct.B9 = true := by kernel_rfl
noncomputable def impl_DoAct.T12 : Bool × List (List Nat × List Nat) := rtab .any (opsOf Tryz.f13 12)
def impl_DoAct.B12 : List Nat := [0, 0, 2, 7, 15]
theorem impl_DoAct.tab12 : rtab .any (opsOf Tryz.f13 12) = impl_DoAct.T12 := rfl
theorem impl_DoAct.bits12 : waitsOk impl_DoAct.T12.2 impl_DoAct.B12 = true := by kernel_rfl
noncomputable def impl_DoAct.T15 : Bool × List (List Nat × List Nat) := rtab .any (opsOf Tryz.f13 15)
def impl_DoAct.B15 : List Nat := [0, 0, 2, 7, 15]
theorem impl_DoAct.tab15 : rtab .any (opsOf Tryz.f13 15) = impl_DoAct.T15 := rfl
theorem impl_DoAct.bits15 : waitsOk impl_DoAct.T15.2 impl_DoAct.B15 = true := by kernel_rfl
noncomputable def impl_DoAct.T20 : Bool × List (List Nat × List Nat) := rtab .any (opsOf Tryz.f13 20)
def impl_DoAct.B20 : List Nat := [0, 0, 2, 7, 15]
theorem impl_DoAct.tab20 : rtab .any (opsOf Tryz.f13 20) = impl_DoAct.T20 := rfl
theorem impl_DoAct.bits20 : waitsOk impl_DoAct.T20.2 impl_DoAct.B20 = true := by kernel_rfl
noncomputable def impl_DoAct.T22 : Bool × List (List Nat × List Nat) := rtab .any (opsOf Tryz.f13 22)
def impl_DoAct.B22 : List Nat := [0, 1, 0, 7, 15, 31]
theorem impl_DoAct.tab22 : rtab .any (opsOf Tryz.f13 22) = impl_DoAct.T22 := rfl
theorem impl_DoAct.bits22 : waitsOk impl_DoAct.T22.2 impl_DoAct.B22 = true := by kernel_rfl
theorem impl_DoAct.calls (k : Nat) (A0_0 : Option Addr) (c0_0 : Nat) (l0_0 : List (S112)) (a0_1 : Int) (A0_2 : Option Addr) (c0_2 : Nat) (l0_2 : List Int) (a0_3 : Int) (a0_4 : Int) (A0_5 : Option Addr) (c0_5 : Nat) (l0_5 : List (S104)) (a1_0 : Int) (a1_1 : Int) (a1_2 : Int) (a1_3 : Int) (r1 : List (S112)) (r2 : Int) (r3 : List Int) (r4 : Int) (r5 : Int) (r6 : List (S104)) (r7 : Int) (w : World) (hr0_0 : Kd.C k112 w A0_0 l0_0.length l0_0) (hc0_0 : l0_0.length ≤ c0_0) (hr0_2 : Kd.C (Kd.int .i64) w A0_2 l0_2.length l0_2) (hc0_2 : l0_2.length ≤ c0_2) (hr0_5 : Kd.C k104 w A0_5 l0_5.length l0_5) (hc0_5 : l0_5.length ≤ c0_5) (h : impl_DoAct.f k l0_0 a0_1 l0_2 a0_3 a0_4 l0_5 a1_0 a1_1 a1_2 a1_3 = some (r1, r2, r3, r4, r5, r6, r7)) :
  Calls Tryz.prog 13 #[.agg #[.slice A0_0 l0_0.length c0_0, .int .i64 a0_1, .slice A0_2 l0_2.length c0_2, .int .i64 a0_3, .int .i64 a0_4, .slice A0_5 l0_5.length c0_5], .agg #[.int .i64 a1_0, .int .i64 a1_1, .int .i64 a1_2, .int .i64 a1_3]] w fun e w' => ∃ v0_ v2_ v5_ : Value, e = .returned (.tuple #[.agg #[v0_, .int .i64 r2, v2_, .int .i64 r4, .int .i64 r5, v5_], .int .i64 r7]) ∧ Kd.R k112 112 w' w.heap.size (fun _ => True) v0_ r1 ∧ Kd.R (Kd.int .i64) 3 w' w.heap.size (fun _ => True) v2_ r3 ∧ Kd.R k104 104 w' w.heap.size (fun _ => True) v5_ r6 ∧ Below w.heap.size w w' := by
 replace hr0_0 := RdE.mk hr0_0
 replace hc0_0 := LeI.mk hc0_0
 replace hr0_2 := RdE.mk hr0_2
 replace hc0_2 := LeI.mk hc0_2
 replace hr0_5 := RdE.mk hr0_5
 replace hc0_5 := LeI.mk hc0_5
 have nt112_3 := NeT.mk (d := k112) (e := 112) (t := 3) (by decide)
 have nt112_37 := NeT.mk (d := k112) (e := 112) (t := 37) (by decide)
 have nt112_41 := NeT.mk (d := k112) (e := 112) (t := 41) (by decide)
 have nt104_3 := NeT.mk (d := k104) (e := 104) (t := 3) (by decide)
 have nt104_37 := NeT.mk (d := k104) (e := 104) (t := 37) (by decide)
 have nt104_41 := NeT.mk (d := k104) (e := 104) (t := 41) (by decide)
 unfold impl_DoAct.f at h
 have hu37 := Tryz.underlying37
 have hu41 := Tryz.underlying41
 have hu74 := Tryz.underlying74
 (repeat' first | ((with_reducible replace h := ite_some h); rcases h with ⟨hc, h⟩ | ⟨hc, h⟩ <;> first | exact (none_some h).elim | exact absurd hc (by decide) | subst hc | (replace hc := hF_ hc; subst hc) | (replace hc := hG_ hc; subst hc) | (replace hc := hH_ hc; subst hc) | (have hd : (_ == _) = true := hc) | (have hd : (_ == _) = false := hF_ hc) | (have hd := hI_ hc; have he := hJ_ hc; clear hc) | (have hd := hK_ hc; have he := hL_ hc) | (have hd := decide_eq_false hc) | (have hd := decide_eq_true hc; (try (have hn := Int.natCast_pos.mp hc; have hm := decide_eq_true hn; replace hn := eq_true hn)); first | (obtain ⟨g_, e_, i_⟩ := form_ (by assumption) (by first | assumption | decide) hc; cases e_) | (obtain ⟨a_, e_, c_⟩ := atI_ (by assumption) (by first | assumption | decide) hc; cases e_)) | (have hd := decide_eq_true hc) | skip) | ((with_reducible have hj : impl_DoAct.j0 k _ _ _ _ _ _ _ _ _ _ _ = _ := h); clear hj; rcases k with _ | k <;> rw [impl_DoAct.j0] at h <;> first | exact (none_some h).elim | skip) | ((with_reducible replace h := bind_set_ h); obtain ⟨hl_, h⟩ := h; replace hl_ := A_ hl_; (try dsimp only at h)))
 all_goals go_enter Tryz.func13, Tryz.ntmps13
 all_goals go_wp2_with ((first
  | ((with_reducible refine gate_dst (N := 2) rfl ?_); refine bV #[.slice A0_0 l0_0.length c0_0, .int .i64 a0_1, .slice A0_2 l0_2.length c0_2, .int .i64 a0_3, .int .i64 a0_4, .slice A0_5 l0_5.length c0_5] 37 fun g w1 j1 j2 j3 => ?_)
  | ((with_reducible refine gate_dst (N := 3) rfl ?_); refine bV #[.int .i64 a1_0, .int .i64 a1_1, .int .i64 a1_2, .int .i64 a1_3] 41 fun g w1 j1 j2 j3 => ?_)
  | ((with_reducible refine gate_dst (N := 4) rfl ?_); refine bV #[.slice none 0 0, .int .i64 0, .slice none 0 0, .int .i64 0, .int .i64 0, .slice none 0 0] 37 fun g w1 j1 j2 j3 => ?_)
  | ((with_reducible refine gate_dst (N := 6) rfl ?_); refine bV #[.slice none 0 0, .int .i64 0, .slice none 0 0, .int .i64 0, .int .i64 0, .slice none 0 0] 37 fun g w1 j1 j2 j3 => ?_)
  | ((with_reducible refine gate_dst (N := 8) rfl ?_); refine bV #[.slice none 0 0, .int .i64 0, .slice none 0 0, .int .i64 0, .int .i64 0, .slice none 0 0] 37 fun g w1 j1 j2 j3 => ?_)
  | ((with_reducible refine gate_dst (N := 10) rfl ?_); refine bV #[.slice none 0 0, .int .i64 0, .slice none 0 0, .int .i64 0, .int .i64 0, .slice none 0 0] 37 fun g w1 j1 j2 j3 => ?_)
  | ((with_reducible refine gate_dst (N := 12) rfl ?_); refine bV #[.slice none 0 0, .int .i64 0, .slice none 0 0, .int .i64 0, .int .i64 0, .slice none 0 0] 37 fun g w1 j1 j2 j3 => ?_)
  | ((with_reducible refine gate_dst (N := 14) rfl ?_); refine bV #[.slice none 0 0, .int .i64 0, .slice none 0 0, .int .i64 0, .int .i64 0, .slice none 0 0] 37 fun g w1 j1 j2 j3 => ?_)
  | (go_at_call 32; (try rw [hl_.out]); replace h := bI h; obtain ⟨t, A, h⟩ := h; (try dsimp only at h); refine (impl_ShopOk.calls _ _ _ _ _ _ _ _ _ _ _ _ _ _ _ Rd.out LeI.out Rd.out LeI.out Rd.out LeI.out A).mono ?_; rintro e w2 ⟨rfl, hb⟩; have jb := Bel.mk hb; clear A hb)
  | (go_at_call 56; (try rw [hl_.out]); replace h := bI h; obtain ⟨t, A, h⟩ := h; (try dsimp only at h); refine (impl_ActOk.calls _ _ _ _ _ _ _ A).mono ?_; rintro e w2 ⟨rfl, hb⟩; have jb := Bel.mk hb; clear A hb)
  | (go_at_call 57; (try rw [hl_.out]); replace h := bI h; obtain ⟨⟨t1, t2, t3, t4, t5, t6⟩, A, h⟩ := h; (try dsimp only at h); refine (impl_copyShop.calls _ _ _ _ _ _ _ _ _ _ _ _ _ _ _ _ _ _ _ Rd.out LeI.out Rd.out LeI.out Rd.out LeI.out A).mono ?_; rintro e w2 ⟨v0, v1, v2, rfl, ho0, ho1, ho2, hb⟩; obtain ⟨B0, b0, rfl, j0, q0⟩ := rowS ho0; obtain ⟨B1, b1, rfl, j1, q1⟩ := rowS ho1; obtain ⟨B2, b2, rfl, j2, q2⟩ := rowS ho2; have jb := Bel.mk hb; clear A ho0 ho1 ho2 hb)
  | (go_at_call 36; (try rw [hl_.out]); replace h := bI h; obtain ⟨⟨t1, t2, t3, t4, t5, t6, t7⟩, A, h⟩ := h; (try dsimp only at h); refine (impl_ShopTune.calls _ _ _ _ _ _ _ _ _ _ _ _ _ _ _ _ _ _ _ _ _ Rd.out LeI.out Rd.out LeI.out Rd.out LeI.out A).mono ?_; rintro e w2 ⟨v0, v1, v2, rfl, ho0, ho1, ho2, hb⟩; obtain ⟨B0, b0, rfl, j0, q0⟩ := rowS ho0; obtain ⟨B1, b1, rfl, j1, q1⟩ := rowS ho1; obtain ⟨B2, b2, rfl, j2, q2⟩ := rowS ho2; have jb := Bel.mk hb; clear A ho0 ho1 ho2 hb)
  | (go_at_call 59; (try rw [hl_.out]); replace h := bI h; obtain ⟨⟨t1, t2, t3, t4, t5, t6, t7⟩, A, h⟩ := h; (try dsimp only at h); refine (impl_ShopWarm.calls _ _ _ _ _ _ _ _ _ _ _ _ _ _ _ _ _ _ _ _ _ _ Rd.out LeI.out Rd.out LeI.out Rd.out LeI.out A).mono ?_; rintro e w2 ⟨v0, v1, v2, rfl, ho0, ho1, ho2, hb⟩; obtain ⟨B0, b0, rfl, j0, q0⟩ := rowS ho0; obtain ⟨B1, b1, rfl, j1, q1⟩ := rowS ho1; obtain ⟨B2, b2, rfl, j2, q2⟩ := rowS ho2; have jb := Bel.mk hb; clear A ho0 ho1 ho2 hb)
  | (go_at_call 60; (try rw [hl_.out]); replace h := bI h; obtain ⟨⟨t1, t2, t3, t4, t5, t6, t7⟩, A, h⟩ := h; (try dsimp only at h); refine (impl_ShopFault.calls _ _ _ _ _ _ _ _ _ _ _ _ _ _ _ _ _ _ _ _ _ _ _ _ Rd.out LeI.out Rd.out LeI.out Rd.out LeI.out A).mono ?_; rintro e w2 ⟨v0, v1, v2, rfl, ho0, ho1, ho2, hb⟩; obtain ⟨B0, b0, rfl, j0, q0⟩ := rowS ho0; obtain ⟨B1, b1, rfl, j1, q1⟩ := rowS ho1; obtain ⟨B2, b2, rfl, j2, q2⟩ := rowS ho2; have jb := Bel.mk hb; clear A ho0 ho1 ho2 hb)
  | (go_at_call 61; (try rw [hl_.out]); replace h := bI h; obtain ⟨⟨t1, t2, t3, t4, t5, t6, t7⟩, A, h⟩ := h; (try dsimp only at h); refine (impl_ShopKnock.calls _ _ _ _ _ _ _ _ _ _ _ _ _ _ _ _ _ _ _ _ _ _ _ Rd.out LeI.out Rd.out LeI.out Rd.out LeI.out A).mono ?_; rintro e w2 ⟨v0, v1, v2, rfl, ho0, ho1, ho2, hb⟩; obtain ⟨B0, b0, rfl, j0, q0⟩ := rowS ho0; obtain ⟨B1, b1, rfl, j1, q1⟩ := rowS ho1; obtain ⟨B2, b2, rfl, j2, q2⟩ := rowS ho2; have jb := Bel.mk hb; clear A ho0 ho1 ho2 hb)
  | (go_at_call 62; (try rw [hl_.out]); replace h := bI h; obtain ⟨⟨t1, t2⟩, A, h⟩ := h; (try dsimp only at h); refine (impl_RepairNext.calls _ _ _ _ _ _ _ _ Rd.out LeI.out A).mono ?_; rintro e w2 ⟨v0, rfl, ho0, hb⟩; obtain ⟨B0, b0, rfl, j0, q0⟩ := rowS ho0; have jb := Bel.mk hb; clear A ho0 hb)
  | (refine qR (id := 6) (ds := [3]) (l := #[false, false, false, false, false]) impl_DoAct.tab6 impl_DoAct.bits6 ?_; intro HT_ HW_ w3 jw u0 iu hHeld; refine qA 1 (some 37) HT_ ?_; refine qT 0 (some 36) HT_ HW_ hHeld ?_; replace h := bI h; obtain ⟨t, A, h⟩ := h; (try dsimp only at h); refine qC 2 38 Tryz.func58 HT_ fun K hK => ?_; refine (impl_truth.calls _ _ _ A).mono ?_; rintro e w2 ⟨rfl, n, rfl⟩; clear A; refine ⟨_, rfl, hK _ _ From.out fun hHeld => ?_⟩; clear hK K; refine qN ?_; refine qL 3 HT_ ?_; refine qA 4 (some 5) HT_ ?_; refine qD HT_ ?_)
  | (refine qR (id := 9) (ds := [3]) (l := #[false, false, false, false, false]) impl_DoAct.tab9 impl_DoAct.bits9 ?_; intro HT_ HW_ w3 jw u0 iu hHeld; refine qA 1 (some 49) HT_ ?_; refine qT 0 (some 48) HT_ HW_ hHeld ?_; replace h := bI h; obtain ⟨t, A, h⟩ := h; (try dsimp only at h); refine qC 2 50 Tryz.func58 HT_ fun K hK => ?_; refine (impl_truth.calls _ _ _ A).mono ?_; rintro e w2 ⟨rfl, n, rfl⟩; clear A; refine ⟨_, rfl, hK _ _ From.out fun hHeld => ?_⟩; clear hK K; refine qN ?_; refine qL 3 HT_ ?_; refine qA 4 (some 5) HT_ ?_; refine qD HT_ ?_)
  | (refine qR (id := 12) (ds := [3]) (l := #[false, false, false, false, false]) impl_DoAct.tab12 impl_DoAct.bits12 ?_; intro HT_ HW_ w3 jw u0 iu hHeld; refine qA 1 (some 66) HT_ ?_; refine qT 0 (some 65) HT_ HW_ hHeld ?_; replace h := bI h; obtain ⟨t, A, h⟩ := h; (try dsimp only at h); refine qC 2 67 Tryz.func58 HT_ fun K hK => ?_; refine (impl_truth.calls _ _ _ A).mono ?_; rintro e w2 ⟨rfl, n, rfl⟩; clear A; refine ⟨_, rfl, hK _ _ From.out fun hHeld => ?_⟩; clear hK K; refine qN ?_; refine qL 3 HT_ ?_; refine qA 4 (some 5) HT_ ?_; refine qD HT_ ?_)
  | (refine qR (id := 15) (ds := [3]) (l := #[false, false, false, false, false]) impl_DoAct.tab15 impl_DoAct.bits15 ?_; intro HT_ HW_ w3 jw u0 iu hHeld; refine qA 1 (some 80) HT_ ?_; refine qT 0 (some 79) HT_ HW_ hHeld ?_; replace h := bI h; obtain ⟨t, A, h⟩ := h; (try dsimp only at h); refine qC 2 81 Tryz.func58 HT_ fun K hK => ?_; refine (impl_truth.calls _ _ _ A).mono ?_; rintro e w2 ⟨rfl, n, rfl⟩; clear A; refine ⟨_, rfl, hK _ _ From.out fun hHeld => ?_⟩; clear hK K; refine qN ?_; refine qL 3 HT_ ?_; refine qA 4 (some 5) HT_ ?_; refine qD HT_ ?_)
  | (refine qR (id := 20) (ds := [3]) (l := #[false, false, false, false, false]) impl_DoAct.tab20 impl_DoAct.bits20 ?_; intro HT_ HW_ w3 jw u0 iu hHeld; refine qA 1 (some 97) HT_ ?_; refine qT 0 (some 96) HT_ HW_ hHeld ?_; replace h := bI h; obtain ⟨t, A, h⟩ := h; (try dsimp only at h); refine qC 2 98 Tryz.func58 HT_ fun K hK => ?_; refine (impl_truth.calls _ _ _ A).mono ?_; rintro e w2 ⟨rfl, n, rfl⟩; clear A; refine ⟨_, rfl, hK _ _ From.out fun hHeld => ?_⟩; clear hK K; refine qN ?_; refine qL 3 HT_ ?_; refine qA 4 (some 5) HT_ ?_; refine qD HT_ ?_)
  | (refine qR (id := 22) (ds := [4]) (l := #[false, false, false, false, false, false]) impl_DoAct.tab22 impl_DoAct.bits22 ?_; intro HT_ HW_ w3 jw u0 iu hHeld; refine qT 0 (some 101) HT_ HW_ hHeld ?_; refine qT 2 (some 103) HT_ HW_ hHeld ?_; replace h := bI h; obtain ⟨⟨t1, t2, t3, t4, t5, t6⟩, A, h⟩ := h; (try dsimp only at h); refine qC 1 102 Tryz.func57 HT_ fun K hK => ?_; refine (impl_copyShop.calls _ _ _ _ _ _ _ _ _ _ _ _ _ _ _ _ _ _ _ Rd.out LeI.out Rd.out LeI.out Rd.out LeI.out A).mono ?_; rintro e w2 ⟨v0, v1, v2, rfl, ho0, ho1, ho2, hb⟩; obtain ⟨B0, b0, rfl, j0, q0⟩ := rowS ho0; obtain ⟨B1, b1, rfl, j1, q1⟩ := rowS ho1; obtain ⟨B2, b2, rfl, j2, q2⟩ := rowS ho2; have jb := Bel.mk hb; clear A ho0 ho1 ho2 hb; refine ⟨_, rfl, hK _ _ From.out fun hHeld => ?_⟩; clear hK K; refine qN ?_; replace h := bI h; obtain ⟨t, A, h⟩ := h; (try dsimp only at h); refine qC 3 104 Tryz.func34 HT_ fun K hK => ?_; refine (impl_StepsLeft.calls _ _ _ _ _ _ _ _ _ _ _ _ _ _ _ Rd.out LeI.out Rd.out LeI.out Rd.out LeI.out A).mono ?_; rintro e w2 ⟨rfl, hb⟩; have jb := Bel.mk hb; clear A hb; refine ⟨_, rfl, hK _ _ From.out fun hHeld => ?_⟩; clear hK K; refine qN ?_; refine qL 4 HT_ ?_; refine qA 5 (some 5) HT_ ?_; refine qD HT_ ?_)
  | (refine qR (id := 23) (ds := [6]) (l := #[false, false, false, false, false, false, false, false]) impl_DoAct.tab23 impl_DoAct.bits23 ?_; intro HT_ HW_ w3 jw u0 iu hHeld; refine qA 3 (some 108) HT_ ?_; refine qT 0 (some 105) HT_ HW_ hHeld ?_; refine qT 2 (some 107) HT_ HW_ hHeld ?_; refine qT 4 (some 109) HT_ HW_ hHeld ?_; replace h := bI h; obtain ⟨⟨t1, t2, t3, t4, t5, t6⟩, A, h⟩ := h; (try dsimp only at h); refine qC 1 106 Tryz.func57 HT_ fun K hK => ?_; refine (impl_copyShop.calls _ _ _ _ _ _ _ _ _ _ _ _ _ _ _ _ _ _ _ Rd.out LeI.out Rd.out LeI.out Rd.out LeI.out A).mono ?_; rintro e w2 ⟨v0, v1, v2, rfl, ho0, ho1, ho2, hb⟩; obtain ⟨B0, b0, rfl, j0, q0⟩ := rowS ho0; obtain ⟨B1, b1, rfl, j1, q1⟩ := rowS ho1; obtain ⟨B2, b2, rfl, j2, q2⟩ := rowS ho2; have jb := Bel.mk hb; clear A ho0 ho1 ho2 hb; refine ⟨_, rfl, hK _ _ From.out fun hHeld => ?_⟩; clear hK K; refine qN ?_; replace h := bI h; obtain ⟨t, A, h⟩ := h; (try dsimp only at h); refine qC 5 110 Tryz.func40 HT_ fun K hK => ?_; refine (impl_HeardAt.calls _ _ _ _ _ _ _ _ _ _ _ _ _ _ _ _ Rd.out LeI.out Rd.out LeI.out Rd.out LeI.out A).mono ?_; rintro e w2 ⟨rfl, hb⟩; have jb := Bel.mk hb; clear A hb; refine ⟨_, rfl, hK _ _ From.out fun hHeld => ?_⟩; clear hK K; refine qN ?_; refine qL 6 HT_ ?_; refine qA 7 (some 5) HT_ ?_; refine qD HT_ ?_)); (repeat' first | ((with_reducible replace h := ite_some h); rcases h with ⟨hc, h⟩ | ⟨hc, h⟩ <;> first | exact (none_some h).elim | exact absurd hc (by decide) | subst hc | (replace hc := hF_ hc; subst hc) | (replace hc := hG_ hc; subst hc) | (replace hc := hH_ hc; subst hc) | (have hd : (_ == _) = true := hc) | (have hd : (_ == _) = false := hF_ hc) | (have hd := hI_ hc; have he := hJ_ hc; clear hc) | (have hd := hK_ hc; have he := hL_ hc) | (have hd := decide_eq_false hc) | (have hd := decide_eq_true hc; (try (have hn := Int.natCast_pos.mp hc; have hm := decide_eq_true hn; replace hn := eq_true hn)); first | (obtain ⟨g_, e_, i_⟩ := form_ (by assumption) (by first | assumption | decide) hc; cases e_) | (obtain ⟨a_, e_, c_⟩ := atI_ (by assumption) (by first | assumption | decide) hc; cases e_)) | (have hd := decide_eq_true hc) | skip) | ((with_reducible have hj : impl_DoAct.j0 k _ _ _ _ _ _ _ _ _ _ _ = _ := h); clear hj; rcases k with _ | k <;> rw [impl_DoAct.j0] at h <;> first | exact (none_some h).elim | skip) | ((with_reducible replace h := bind_set_ h); obtain ⟨hl_, h⟩ := h; replace hl_ := A_ hl_; (try dsimp only at h))))
 all_goals simp only [Option.some.injEq, Prod.mk.injEq] at h
 all_goals obtain ⟨rfl, rfl, rfl, rfl, rfl, rfl, rfl⟩ := h
 all_goals refine bodyPost_ret (results_ct rfl _ _ _ _ _ (0, 0) _ rfl Blk.out Tryz.underlying37 rfl (by kernel_rfl)) rfl ?_
 all_goals exact ⟨_, _, _, rfl, (by first | exact rowFin | exact Kd.R_nil _ _ _ _ _ | exact atFin | exact irowFin' (by simp)), (by first | exact rowFin | exact Kd.R_nil _ _ _ _ _ | exact atFin | exact irowFin' (by simp)), (by first | exact rowFin | exact Kd.R_nil _ _ _ _ _ | exact atFin | exact irowFin' (by simp)), From.out⟩
mutual
def impl_RunActs.j0 : Nat → List (S41) → Bool → List (S112) → Int → List Int → Int → Int → List (S104) → Option ((List (S112)) × Int × List Int × Int × Int × (List (S104)) × List Int)
 | 0, _, _, _, _, _, _, _, _ => none
 | k + 1, x1, x21, x1254000, x1254001, x1254002, x1254003, x1254004, x1254005 => if x21 = true then (some (x1254000, x1254001, x1254002, x1254003, x1254004, x1254005, ([] : List Int))) else (impl_RunActs.l0 k (([] : List Int)) x1 (x1.length : Int) 0 x1254000 x1254001 x1254002 x1254003 x1254004 x1254005)
def impl_RunActs.l0 : Nat → List Int → List (S41) → Int → Int → List (S112) → Int → List Int → Int → Int → List (S104) → Option ((List (S112)) × Int × List Int × Int × Int × (List (S104)) × List Int)
 | 0, _, _, _, _, _, _, _, _, _, _ => none
 | k + 1, x7, x24, x25, x26, x1254000, x1254001, x1254002, x1254003, x1254004, x1254005 => if x26 < x25 then (if 0 ≤ x26 then (if x26 < (x24.length : Int) then ((impl_DoAct.f k x1254000 x1254001 x1254002 x1254003 x1254004 x1254005 ((rd_T41 x24 x26).f0) ((rd_T41 x24 x26).f1) ((rd_T41 x24 x26).f2) ((rd_T41 x24 x26).f3)).bind fun bt1260 => (if x7.length < 17592186044416 then (impl_RunActs.l0 k (x7 ++ [bt1260.2.2.2.2.2.2]) x24 x25 (wrap64 (x26 + 1)) bt1260.1 bt1260.2.1 bt1260.2.2.1 bt1260.2.2.2.1 bt1260.2.2.2.2.1 bt1260.2.2.2.2.2.1) else (none))) else (none)) else (none)) else (some (x1254000, x1254001, x1254002, x1254003, x1254004, x1254005, x7))
end
def impl_RunActs.f (k : Nat) (l0_0 : List (S112)) (a0_1 : Int) (l0_2 : List Int) (a0_3 : Int) (a0_4 : Int) (l0_5 : List (S104)) (l1 : List (S41)) : Option ((List (S112)) × Int × List Int × Int × Int × (List (S104)) × List Int) := (impl_copyShop.f l0_0 a0_1 l0_2 a0_3 a0_4 l0_5).bind fun bt1241 => ((impl_ShopOk.f k l0_0 a0_1 l0_2 a0_3 a0_4 l0_5).bind fun t1254 => (if t1254 = true then (impl_RunActs.j0 k l1 (decide ((l1.length : Int) > 40)) bt1241.1 bt1241.2.1 bt1241.2.2.1 bt1241.2.2.2.1 bt1241.2.2.2.2.1 bt1241.2.2.2.2.2) else (impl_RunActs.j0 k l1 true bt1241.1 bt1241.2.1 bt1241.2.2.1 bt1241.2.2.2.1 bt1241.2.2.2.2.1 bt1241.2.2.2.2.2)))
theorem impl_RunActs.calls (k : Nat) (A0_0 : Option Addr) (c0_0 : Nat) (l0_0 : List (S112)) (a0_1 : Int) (A0_2 : Option Addr) (c0_2 : Nat) (l0_2 : List Int) (a0_3 : Int) (a0_4 : Int) (A0_5 : Option Addr) (c0_5 : Nat) (l0_5 : List (S104)) (A1 : Option Addr) (c1 : Nat) (l1 : List (S41)) (r1 : List (S112)) (r2 : Int) (r3 : List Int) (r4 : Int) (r5 : Int) (r6 : List (S104)) (r7 : List Int) (w : World) (hr0_0 : Kd.C k112 w A0_0 l0_0.length l0_0) (hc0_0 : l0_0.length ≤ c0_0) (hr0_2 : Kd.C (Kd.int .i64) w A0_2 l0_2.length l0_2) (hc0_2 : l0_2.length ≤ c0_2) (hr0_5 : Kd.C k104 w A0_5 l0_5.length l0_5) (hc0_5 : l0_5.length ≤ c0_5) (hr1 : Kd.C k41 w A1 l1.length l1) (hc1 : l1.length ≤ c1) (h : impl_RunActs.f k l0_0 a0_1 l0_2 a0_3 a0_4 l0_5 l1 = some (r1, r2, r3, r4, r5, r6, r7)) :
  Calls Tryz.prog 20 #[.agg #[.slice A0_0 l0_0.length c0_0, .int .i64 a0_1, .slice A0_2 l0_2.length c0_2, .int .i64 a0_3, .int .i64 a0_4, .slice A0_5 l0_5.length c0_5], .slice A1 l1.length c1] w fun e w' => ∃ v0_ v2_ v5_ v6_ : Value, e = .returned (.tuple #[.agg #[v0_, .int .i64 r2, v2_, .int .i64 r4, .int .i64 r5, v5_], v6_]) ∧ Kd.R k112 112 w' w.heap.size (fun _ => True) v0_ r1 ∧ Kd.R (Kd.int .i64) 3 w' w.heap.size (fun k_ => some k_ ≠ (v6_ : Value).ownBlock) v2_ r3 ∧ Kd.R k104 104 w' w.heap.size (fun _ => True) v5_ r6 ∧ Kd.R (Kd.int .i64) 3 w' w.heap.size (fun k_ => some k_ ≠ (v2_ : Value).ownBlock) v6_ r7 ∧ Below w.heap.size w w' := by
 have ihr0_0 := RdE.mk hr0_0
 have ihc0_0 := LeI.mk hc0_0
 have ihr0_2 := RdE.mk hr0_2
 have ihc0_2 := LeI.mk hc0_2
 have ihr0_5 := RdE.mk hr0_5
 have ihc0_5 := LeI.mk hc0_5
 have ihr1 := RdE.mk hr1
 have ihc1 := LeI.mk hc1
 clear hr0_0 hc0_0 hr0_2 hc0_2 hr0_5 hc0_5 hr1 hc1
 have nt3_37 := NeT.mk (d := (Kd.int .i64)) (e := 3) (t := 37) (by decide)
 have nt3_41 := NeT.mk (d := (Kd.int .i64)) (e := 3) (t := 41) (by decide)
 have nt104_37 := NeT.mk (d := k104) (e := 104) (t := 37) (by decide)
 have nt104_41 := NeT.mk (d := k104) (e := 104) (t := 41) (by decide)
 have nt112_37 := NeT.mk (d := k112) (e := 112) (t := 37) (by decide)
 have nt112_41 := NeT.mk (d := k112) (e := 112) (t := 41) (by decide)
 have nn3_37 := NeN.mk (e := 3) (t := 37) (by decide)
 have nn3_41 := NeN.mk (e := 3) (t := 41) (by decide)
 unfold impl_RunActs.f at h
 (try simp only [Option.bind_some] at h)
 have hu37 := Tryz.underlying37
 have hu41 := Tryz.underlying41
 (repeat' first | ((with_reducible replace h := ite_some h); rcases h with ⟨hc, h⟩ | ⟨hc, h⟩ <;> first | exact (none_some h).elim | exact absurd hc (by decide) | subst hc | (replace hc := hF_ hc; subst hc) | (replace hc := hG_ hc; subst hc) | (replace hc := hH_ hc; subst hc) | (have hd : (_ == _) = true := hc) | (have hd : (_ == _) = false := hF_ hc) | (have hd := hI_ hc; have he := hJ_ hc; clear hc) | (have hd := hK_ hc; have he := hL_ hc) | (have hd := decide_eq_false hc) | (have hd := decide_eq_true hc; (try (have hn := Int.natCast_pos.mp hc; have hm := decide_eq_true hn; replace hn := eq_true hn)); first | (have hz := form_ (by assumption) (by first | assumption | decide) hc; obtain ⟨g_, e_, i_⟩ := hz; cases e_) | (have hz := atI_ (by assumption) (by first | assumption | decide) hc; obtain ⟨a_, e_, c_⟩ := hz; cases e_) | (have hz := at_T41 (RdE.out (self := by assumption)) _ (by first | assumption | decide) hc; obtain ⟨a_, e_, c0_, c1_, c2_, c3_⟩ := hz; cases e_; replace c0_ := CelE.mk c0_; replace c1_ := CelE.mk c1_; replace c2_ := CelE.mk c2_; replace c3_ := CelE.mk c3_) | (have hz := at_T41 (RdE.out (self := by assumption)) _ hc (by assumption); obtain ⟨a_, e_, c0_, c1_, c2_, c3_⟩ := hz; cases e_; replace c0_ := CelE.mk c0_; replace c1_ := CelE.mk c1_; replace c2_ := CelE.mk c2_; replace c3_ := CelE.mk c3_)) | (have hd := decide_eq_true hc) | skip) | ((with_reducible have hj : impl_RunActs.j0 k _ _ _ _ _ _ _ _ = _ := h); clear hj; rcases k with _ | k <;> rw [impl_RunActs.j0] at h <;> first | exact (none_some h).elim | skip) | ((with_reducible replace h := bind_set_ h); obtain ⟨hl_, h⟩ := h; replace hl_ := A_ hl_; (try dsimp only at h)))
 all_goals go_enter Tryz.func20, Tryz.ntmps20
 all_goals go_wp2_with ((first
  | ((with_reducible refine gate_dst (N := 2) rfl ?_); refine bV #[.slice A0_0 l0_0.length c0_0, .int .i64 a0_1, .slice A0_2 l0_2.length c0_2, .int .i64 a0_3, .int .i64 a0_4, .slice A0_5 l0_5.length c0_5] 37 fun g2 w1 ja1 ja2 ja3 => ?_)
  | ((with_reducible refine gate_dst (N := 4) rfl ?_); refine bV #[.slice none 0 0, .int .i64 0, .slice none 0 0, .int .i64 0, .int .i64 0, .slice none 0 0] 37 fun g4 w1 ja1 ja2 ja3 => ?_)
  | ((with_reducible refine gate_dst (N := 6) rfl ?_); refine bV #[.slice none 0 0, .int .i64 0, .slice none 0 0, .int .i64 0, .int .i64 0, .slice none 0 0] 37 fun g6 w1 ja1 ja2 ja3 => ?_)
  | ((with_reducible refine gate_dst (N := 9) rfl ?_); refine bV #[.int .i64 0, .int .i64 0, .int .i64 0, .int .i64 0] 41 fun g9 w1 ja1 ja2 ja3 => ?_)
  | ((with_reducible refine gate_dst (N := 10) rfl ?_); refine bV #[.slice none 0 0, .int .i64 0, .slice none 0 0, .int .i64 0, .int .i64 0, .slice none 0 0] 37 fun g10 w1 ja1 ja2 ja3 => ?_)
  | ((with_reducible refine gate_dst (N := 23) rfl ?_); refine Kd.R_lit (Kd.int .i64) _ 3 ?hg (N := 23) ?hd (xs := ([] : List Int)) (inner := []) (ok := fun _ => True) (okp := fun _ => True) ?hr ?hp (fun _ hk => hk) trivial (Below.refl _ _) (Nat.le_refl _) (by simp) ?_; (case hd => rfl); (case hg => rfl); (case hr => first | (go_simp; done) | (go_simp; rfl)); (case hp => exact (Reps.none _ _)); intro v5 w5 ho hb hg_ hn_; obtain ⟨A5, c5, rfl⟩ := Kd.R_slice ho; have j5 := RowE.mk ho; have q5 := LeI.mk (rowLe j5); have j6 := Bel.mk hb; clear hg_ hn_ ho hb)
  | (go_at_call 57; (try rw [hl_.out]); replace h := bI h; obtain ⟨⟨t1, t2, t3, t4, t5, t6⟩, A, h⟩ := h; (try dsimp only at h); refine (impl_copyShop.calls _ _ _ _ _ _ _ _ _ _ _ _ _ _ _ _ _ _ _ Rd.out LeI.out Rd.out LeI.out Rd.out LeI.out A).mono ?_; rintro e w2 ⟨v0, v1, v2, rfl, ho0, ho1, ho2, hb⟩; obtain ⟨B0, b0, rfl, j0, q0⟩ := rowS ho0; obtain ⟨B1, b1, rfl, j1, q1⟩ := rowS ho1; obtain ⟨B2, b2, rfl, j2, q2⟩ := rowS ho2; have jb := Bel.mk hb; clear A ho0 ho1 ho2 hb)
  | (go_at_call 32; (try rw [hl_.out]); replace h := bI h; obtain ⟨t, A, h⟩ := h; (try dsimp only at h); refine (impl_ShopOk.calls _ _ _ _ _ _ _ _ _ _ _ _ _ _ _ Rd.out LeI.out Rd.out LeI.out Rd.out LeI.out A).mono ?_; rintro e w2 ⟨rfl, hb⟩; have jb := Bel.mk hb; clear A hb)
  | (go_at_call 13; (try rw [hl_.out]); replace h := bI h; obtain ⟨⟨t1, t2, t3, t4, t5, t6, t7⟩, A, h⟩ := h; (try dsimp only at h); refine (impl_DoAct.calls _ _ _ _ _ _ _ _ _ _ _ _ _ _ _ _ _ _ _ _ _ _ _ _ _ Rd.out LeI.out Rd.out LeI.out Rd.out LeI.out A).mono ?_; rintro e w2 ⟨v0, v1, v2, rfl, ho0, ho1, ho2, hb⟩; obtain ⟨B0, b0, rfl, j0, q0⟩ := rowS ho0; obtain ⟨B1, b1, rfl, j1, q1⟩ := rowS ho1; obtain ⟨B2, b2, rfl, j2, q2⟩ := rowS ho2; have jb := Bel.mk hb; clear A ho0 ho1 ho2 hb)
  | ((with_reducible refine gate_builtin (b := .append) (xs := #[.tmp 37, .tmp 39]) rfl ?_); (try (refine gate_guard (by rfl) ?_; dsimp only)); at_builtin; refine Kd.R_append (Kd.int .i64) (w0 := w) w.heap.size rfl (.tmp 37) (.tmp 39) 23 3 (.int .i64 0) 8 rfl Tryz.underlying23 info3 rfl (by decide) (by omega) (.slice A90 x7_2.length c90) x7_2 t7 [.int .i64 t7] (fun _ => True) (fun _ => False) rfl (by first | (go_simp; done) | (go_simp; rfl)) ?aP (fun _ hk => hk.elim) ?aF ?aO ?aB ?aS ?aL ?_; (case aP => exact rfl); (case aO => exact atFin); (case aB => exact From.out); (case aF => exact (fun _ _ => trivial)); (case aS => exact (From.out (w0 := w)).size); (case aL => omega); intro v7 w7 ho hb hg hat; have jg := grAt hg; obtain ⟨A7, c7, rfl⟩ := Kd.R_slice ho; have jk := keepGr j0 hg; have jd := djGr j1 hat; have je := djSym jd; have j7 := At.mk ho; have jf : From w w7 := ⟨hb⟩; have js : Sz w w7 := ⟨hb.size⟩; clear ho hb hg hat)); (repeat' first | ((with_reducible replace h := ite_some h); rcases h with ⟨hc, h⟩ | ⟨hc, h⟩ <;> first | exact (none_some h).elim | exact absurd hc (by decide) | subst hc | (replace hc := hF_ hc; subst hc) | (replace hc := hG_ hc; subst hc) | (replace hc := hH_ hc; subst hc) | (have hd : (_ == _) = true := hc) | (have hd : (_ == _) = false := hF_ hc) | (have hd := hI_ hc; have he := hJ_ hc; clear hc) | (have hd := hK_ hc; have he := hL_ hc) | (have hd := decide_eq_false hc) | (have hd := decide_eq_true hc; (try (have hn := Int.natCast_pos.mp hc; have hm := decide_eq_true hn; replace hn := eq_true hn)); first | (have hz := form_ (by assumption) (by first | assumption | decide) hc; obtain ⟨g_, e_, i_⟩ := hz; cases e_) | (have hz := atI_ (by assumption) (by first | assumption | decide) hc; obtain ⟨a_, e_, c_⟩ := hz; cases e_) | (have hz := at_T41 (RdE.out (self := by assumption)) _ (by first | assumption | decide) hc; obtain ⟨a_, e_, c0_, c1_, c2_, c3_⟩ := hz; cases e_; replace c0_ := CelE.mk c0_; replace c1_ := CelE.mk c1_; replace c2_ := CelE.mk c2_; replace c3_ := CelE.mk c3_) | (have hz := at_T41 (RdE.out (self := by assumption)) _ hc (by assumption); obtain ⟨a_, e_, c0_, c1_, c2_, c3_⟩ := hz; cases e_; replace c0_ := CelE.mk c0_; replace c1_ := CelE.mk c1_; replace c2_ := CelE.mk c2_; replace c3_ := CelE.mk c3_)) | (have hd := decide_eq_true hc) | skip) | ((with_reducible have hj : impl_RunActs.j0 k _ _ _ _ _ _ _ _ = _ := h); clear hj; rcases k with _ | k <;> rw [impl_RunActs.j0] at h <;> first | exact (none_some h).elim | skip) | ((with_reducible replace h := bind_set_ h); obtain ⟨hl_, h⟩ := h; replace hl_ := A_ hl_; (try dsimp only at h))))
 all_goals first
  | ((try simp only [Option.some.injEq, Prod.mk.injEq] at h); (try obtain ⟨rfl, rfl, rfl, rfl, rfl, rfl, rfl⟩ := h); refine bodyPost_ret (results_ct rfl _ _ _ _ _ (0, 0) _ rfl Blk.out Tryz.underlying37 rfl (by kernel_rfl)) rfl ?_; exact ⟨_, _, _, _, rfl, (by first | exact rowFin | exact rowFin' rfl | exact rowFin' (by simp) | exact Kd.R_nil _ _ _ _ _ | exact atFin | exact irowFin' (by simp)), (by first | exact Kd.R_nil _ _ _ _ _ | exact djR (ok := fun _ => True) (by first | exact rowFin | exact atFin | exact atFin' (by simp) | exact rowFin' (by simp))), (by first | exact rowFin | exact rowFin' rfl | exact rowFin' (by simp) | exact Kd.R_nil _ _ _ _ _ | exact atFin | exact irowFin' (by simp)), (by first | exact Kd.R_nil _ _ _ _ _ | exact djR (ok := fun _ => True) (by first | exact rowFin | exact atFin | exact atFin' (by simp) | exact rowFin' (by simp))), From.out⟩)
  | (exfalso; simp at hd; omega)
  | skip
 go_loopg [7, 26] k (fun kq v7 v26 w' => ∃ (x7_2 : List Int) (x26_2 : Int) (x1254000_2 : List (S112)) (x1254001_2 : Int) (x1254002_2 : List Int) (x1254003_2 : Int) (x1254004_2 : Int) (x1254005_2 : List (S104)) (u1254000 : Value) (u1254002 : Value) (u1254005 : Value), v26 = .int .i64 x26_2 ∧ Aside0 (impl_RunActs.l0 kq x7_2 l1 (l1.length : Int) x26_2 x1254000_2 x1254001_2 x1254002_2 x1254003_2 x1254004_2 x1254005_2 = some (r1, r2, r3, r4, r5, r6, r7)) ∧ Aside0 (kq ≤ k) ∧ Aside0 (Kd.R (Kd.int .i64) 3 w' w.heap.size (fun k_ => some k_ ≠ (u1254002 : Value).ownBlock) v7 x7_2) ∧ Aside0 (Kd.R k112 112 w' w.heap.size (fun _ => True) u1254000 x1254000_2) ∧ Aside0 (Kd.R (Kd.int .i64) 3 w' w.heap.size (fun k_ => some k_ ≠ (v7 : Value).ownBlock) u1254002 x1254002_2) ∧ Aside0 (Kd.R k104 104 w' w.heap.size (fun _ => True) u1254005 x1254005_2) ∧ Aside0 (w'.heap[g2]? = some (.cells #[(.slice A0_0 l0_0.length c0_0), .int .i64 a0_1, (.slice A0_2 l0_2.length c0_2), .int .i64 a0_3, .int .i64 a0_4, (.slice A0_5 l0_5.length c0_5)] 37 (0, 0))) ∧ Aside0 (w'.heap[g4]? = some (.cells #[(.slice none 0 0), .int .i64 0, (.slice none 0 0), .int .i64 0, .int .i64 0, (.slice none 0 0)] 37 (0, 0))) ∧ Aside0 (w'.heap[g6]? = some (.cells #[u1254000, .int .i64 x1254001_2, u1254002, .int .i64 x1254003_2, .int .i64 x1254004_2, u1254005] 37 (0, 0))) ∧ Aside0 (Below w.heap.size w w'))
 case atStart => exact ⟨_, _, _, _, _, _, _, _, (.slice B0 t1.length b0), (.slice B1 t3.length b1), (.slice B2 t6.length b2), (by first | rfl | (simp; done)), ⟨h⟩, ⟨Nat.le_refl _⟩, ⟨djR (ok := fun _ => True) (by first | exact rowFin | exact atFin | exact atFin' (by simp) | exact rowFin' (by simp))⟩, ⟨by first | exact rowFin | exact rowFin' rfl | exact rowFin' (by simp) | exact Kd.R_nil _ _ _ _ _⟩, ⟨djR (ok := fun _ => True) (by first | exact rowFin | exact atFin | exact atFin' (by simp) | exact rowFin' (by simp))⟩, ⟨by first | exact rowFin | exact rowFin' rfl | exact rowFin' (by simp) | exact Kd.R_nil _ _ _ _ _⟩, ⟨Blk.out⟩, ⟨Blk.out⟩, ⟨Blk.out⟩, ⟨From.out⟩⟩
 case round =>
  clear h
  obtain ⟨x7_2, x26_2, x1254000_2, x1254001_2, x1254002_2, x1254003_2, x1254004_2, x1254005_2, u1254000, u1254002, u1254005, rfl, HA, HK2, HO_7, HO_1254000, HO_1254002, HO_1254005, BK1239, BK1240, BK1253, HB⟩ := hrel
  rcases gk with _ | k1
  ·exact absurd HA.out (by simp [impl_RunActs.l0])
  have h := HA.out
  clear HA
  simp only [impl_RunActs.l0] at h
  obtain ⟨A90, c90, rfl, j90, q90, o90⟩ := atOf_ HO_7.out; clear HO_7
  obtain ⟨A91, c91, rfl, j91, q91, o91⟩ := atOf_ HO_1254000.out; clear HO_1254000
  obtain ⟨A92, c92, rfl, j92, q92, o92⟩ := atOf_ HO_1254002.out; clear HO_1254002
  obtain ⟨A93, c93, rfl, j93, q93, o93⟩ := atOf_ HO_1254005.out; clear HO_1254005
  have BK1239_ := Blk.mk BK1239.out; clear BK1239
  have BK1240_ := Blk.mk BK1240.out; clear BK1240
  have BK1253_ := Blk.mk BK1253.out; clear BK1253
  have HB_ : From w wr := ⟨HB.out⟩; have HS_ : Sz w wr := ⟨HB.out.size⟩; clear HB
  (try have d90 := djOf_ o90); (try have d91 := djOf_ o91); (try have d92 := djOf_ o92); (try have d93 := djOf_ o93); clear o90 o91 o92 o93
  (repeat' first | ((with_reducible replace h := ite_some h); rcases h with ⟨hc, h⟩ | ⟨hc, h⟩ <;> first | exact (none_some h).elim | exact absurd hc (by decide) | subst hc | (replace hc := hF_ hc; subst hc) | (replace hc := hG_ hc; subst hc) | (replace hc := hH_ hc; subst hc) | (have hd : (_ == _) = true := hc) | (have hd : (_ == _) = false := hF_ hc) | (have hd := hI_ hc; have he := hJ_ hc; clear hc) | (have hd := hK_ hc; have he := hL_ hc) | (have hd := decide_eq_false hc) | (have hd := decide_eq_true hc; (try (have hn := Int.natCast_pos.mp hc; have hm := decide_eq_true hn; replace hn := eq_true hn)); first | (have hz := form_ (by assumption) (by first | assumption | decide) hc; obtain ⟨g_, e_, i_⟩ := hz; cases e_) | (have hz := atI_ (by assumption) (by first | assumption | decide) hc; obtain ⟨a_, e_, c_⟩ := hz; cases e_) | (have hz := at_T41 (RdE.out (self := by assumption)) _ (by first | assumption | decide) hc; obtain ⟨a_, e_, c0_, c1_, c2_, c3_⟩ := hz; cases e_; replace c0_ := CelE.mk c0_; replace c1_ := CelE.mk c1_; replace c2_ := CelE.mk c2_; replace c3_ := CelE.mk c3_) | (have hz := at_T41 (RdE.out (self := by assumption)) _ hc (by assumption); obtain ⟨a_, e_, c0_, c1_, c2_, c3_⟩ := hz; cases e_; replace c0_ := CelE.mk c0_; replace c1_ := CelE.mk c1_; replace c2_ := CelE.mk c2_; replace c3_ := CelE.mk c3_)) | (have hd := decide_eq_true hc) | skip) | ((with_reducible have hj : impl_RunActs.j0 k _ _ _ _ _ _ _ _ = _ := h); clear hj; rcases k with _ | k <;> rw [impl_RunActs.j0] at h <;> first | exact (none_some h).elim | skip) | ((with_reducible replace h := bind_set_ h); obtain ⟨hl_, h⟩ := h; replace hl_ := A_ hl_; (try dsimp only at h)))
  all_goals go_wp2_with ((first
   | ((with_reducible refine gate_dst (N := 2) rfl ?_); refine bV #[.slice A0_0 l0_0.length c0_0, .int .i64 a0_1, .slice A0_2 l0_2.length c0_2, .int .i64 a0_3, .int .i64 a0_4, .slice A0_5 l0_5.length c0_5] 37 fun g2 w1 ja1 ja2 ja3 => ?_)
   | ((with_reducible refine gate_dst (N := 4) rfl ?_); refine bV #[.slice none 0 0, .int .i64 0, .slice none 0 0, .int .i64 0, .int .i64 0, .slice none 0 0] 37 fun g4 w1 ja1 ja2 ja3 => ?_)
   | ((with_reducible refine gate_dst (N := 6) rfl ?_); refine bV #[.slice none 0 0, .int .i64 0, .slice none 0 0, .int .i64 0, .int .i64 0, .slice none 0 0] 37 fun g6 w1 ja1 ja2 ja3 => ?_)
   | ((with_reducible refine gate_dst (N := 9) rfl ?_); refine bV #[.int .i64 0, .int .i64 0, .int .i64 0, .int .i64 0] 41 fun g9 w1 ja1 ja2 ja3 => ?_)
   | ((with_reducible refine gate_dst (N := 10) rfl ?_); refine bV #[.slice none 0 0, .int .i64 0, .slice none 0 0, .int .i64 0, .int .i64 0, .slice none 0 0] 37 fun g10 w1 ja1 ja2 ja3 => ?_)
   | ((with_reducible refine gate_dst (N := 23) rfl ?_); refine Kd.R_lit (Kd.int .i64) _ 3 ?hg (N := 23) ?hd (xs := ([] : List Int)) (inner := []) (ok := fun _ => True) (okp := fun _ => True) ?hr ?hp (fun _ hk => hk) trivial (Below.refl _ _) (Nat.le_refl _) (by simp) ?_; (case hd => rfl); (case hg => rfl); (case hr => first | (go_simp; done) | (go_simp; rfl)); (case hp => exact (Reps.none _ _)); intro v5 w5 ho hb hg_ hn_; obtain ⟨A5, c5, rfl⟩ := Kd.R_slice ho; have j5 := RowE.mk ho; have q5 := LeI.mk (rowLe j5); have j6 := Bel.mk hb; clear hg_ hn_ ho hb)
   | (go_at_call 57; (try rw [hl_.out]); replace h := bI h; obtain ⟨⟨t1, t2, t3, t4, t5, t6⟩, A, h⟩ := h; (try dsimp only at h); refine (impl_copyShop.calls _ _ _ _ _ _ _ _ _ _ _ _ _ _ _ _ _ _ _ Rd.out LeI.out Rd.out LeI.out Rd.out LeI.out A).mono ?_; rintro e w2 ⟨v0, v1, v2, rfl, ho0, ho1, ho2, hb⟩; obtain ⟨B0, b0, rfl, j0, q0⟩ := rowS ho0; obtain ⟨B1, b1, rfl, j1, q1⟩ := rowS ho1; obtain ⟨B2, b2, rfl, j2, q2⟩ := rowS ho2; have jb := Bel.mk hb; clear A ho0 ho1 ho2 hb)
   | (go_at_call 32; (try rw [hl_.out]); replace h := bI h; obtain ⟨t, A, h⟩ := h; (try dsimp only at h); refine (impl_ShopOk.calls _ _ _ _ _ _ _ _ _ _ _ _ _ _ _ Rd.out LeI.out Rd.out LeI.out Rd.out LeI.out A).mono ?_; rintro e w2 ⟨rfl, hb⟩; have jb := Bel.mk hb; clear A hb)
   | (go_at_call 13; (try rw [hl_.out]); replace h := bI h; obtain ⟨⟨t1, t2, t3, t4, t5, t6, t7⟩, A, h⟩ := h; (try dsimp only at h); refine (impl_DoAct.calls _ _ _ _ _ _ _ _ _ _ _ _ _ _ _ _ _ _ _ _ _ _ _ _ _ Rd.out LeI.out Rd.out LeI.out Rd.out LeI.out A).mono ?_; rintro e w2 ⟨v0, v1, v2, rfl, ho0, ho1, ho2, hb⟩; obtain ⟨B0, b0, rfl, j0, q0⟩ := rowS ho0; obtain ⟨B1, b1, rfl, j1, q1⟩ := rowS ho1; obtain ⟨B2, b2, rfl, j2, q2⟩ := rowS ho2; have jb := Bel.mk hb; clear A ho0 ho1 ho2 hb)
   | ((with_reducible refine gate_builtin (b := .append) (xs := #[.tmp 37, .tmp 39]) rfl ?_); (try (refine gate_guard (by rfl) ?_; dsimp only)); at_builtin; refine Kd.R_append (Kd.int .i64) (w0 := w) w.heap.size rfl (.tmp 37) (.tmp 39) 23 3 (.int .i64 0) 8 rfl Tryz.underlying23 info3 rfl (by decide) (by omega) (.slice A90 x7_2.length c90) x7_2 t7 [.int .i64 t7] (fun _ => True) (fun _ => False) rfl (by first | (go_simp; done) | (go_simp; rfl)) ?aP (fun _ hk => hk.elim) ?aF ?aO ?aB ?aS ?aL ?_; (case aP => exact rfl); (case aO => exact atFin); (case aB => exact From.out); (case aF => exact (fun _ _ => trivial)); (case aS => exact (From.out (w0 := w)).size); (case aL => omega); intro v7 w7 ho hb hg hat; have jg := grAt hg; obtain ⟨A7, c7, rfl⟩ := Kd.R_slice ho; have jk := keepGr j0 hg; have jd := djGr j1 hat; have je := djSym jd; have j7 := At.mk ho; have jf : From w w7 := ⟨hb⟩; have js : Sz w w7 := ⟨hb.size⟩; clear ho hb hg hat)); (repeat' first | ((with_reducible replace h := ite_some h); rcases h with ⟨hc, h⟩ | ⟨hc, h⟩ <;> first | exact (none_some h).elim | exact absurd hc (by decide) | subst hc | (replace hc := hF_ hc; subst hc) | (replace hc := hG_ hc; subst hc) | (replace hc := hH_ hc; subst hc) | (have hd : (_ == _) = true := hc) | (have hd : (_ == _) = false := hF_ hc) | (have hd := hI_ hc; have he := hJ_ hc; clear hc) | (have hd := hK_ hc; have he := hL_ hc) | (have hd := decide_eq_false hc) | (have hd := decide_eq_true hc; (try (have hn := Int.natCast_pos.mp hc; have hm := decide_eq_true hn; replace hn := eq_true hn)); first | (have hz := form_ (by assumption) (by first | assumption | decide) hc; obtain ⟨g_, e_, i_⟩ := hz; cases e_) | (have hz := atI_ (by assumption) (by first | assumption | decide) hc; obtain ⟨a_, e_, c_⟩ := hz; cases e_) | (have hz := at_T41 (RdE.out (self := by assumption)) _ (by first | assumption | decide) hc; obtain ⟨a_, e_, c0_, c1_, c2_, c3_⟩ := hz; cases e_; replace c0_ := CelE.mk c0_; replace c1_ := CelE.mk c1_; replace c2_ := CelE.mk c2_; replace c3_ := CelE.mk c3_) | (have hz := at_T41 (RdE.out (self := by assumption)) _ hc (by assumption); obtain ⟨a_, e_, c0_, c1_, c2_, c3_⟩ := hz; cases e_; replace c0_ := CelE.mk c0_; replace c1_ := CelE.mk c1_; replace c2_ := CelE.mk c2_; replace c3_ := CelE.mk c3_)) | (have hd := decide_eq_true hc) | skip) | ((with_reducible have hj : impl_RunActs.j0 k _ _ _ _ _ _ _ _ = _ := h); clear hj; rcases k with _ | k <;> rw [impl_RunActs.j0] at h <;> first | exact (none_some h).elim | skip) | ((with_reducible replace h := bind_set_ h); obtain ⟨hl_, h⟩ := h; replace hl_ := A_ hl_; (try dsimp only at h))))
  all_goals first
   | (go_roundg k1; (case measure => have := HK2.out; omega); (case rel => exact ⟨_, _, _, _, _, _, _, _, (.slice B0 t1.length b0), (.slice B1 t3.length b1), (.slice B2 t6.length b2), (by first | rfl | (simp; done)), ⟨h⟩, ⟨by have := HK2.out; omega⟩, ⟨djR (ok := fun _ => True) (by first | exact rowFin | exact atFin | exact atFin' (by simp) | exact rowFin' (by simp))⟩, ⟨by first | exact rowFin | exact rowFin' rfl | exact rowFin' (by simp) | exact Kd.R_nil _ _ _ _ _⟩, ⟨djR (ok := fun _ => True) (by first | exact rowFin | exact atFin | exact atFin' (by simp) | exact rowFin' (by simp))⟩, ⟨by first | exact rowFin | exact rowFin' rfl | exact rowFin' (by simp) | exact Kd.R_nil _ _ _ _ _⟩, ⟨Blk.out⟩, ⟨Blk.out⟩, ⟨Blk.out⟩, ⟨From.out⟩⟩))
   | ((try simp only [Option.some.injEq, Prod.mk.injEq] at h); (try obtain ⟨rfl, rfl, rfl, rfl, rfl, rfl, rfl⟩ := h); refine bodyPost_ret (results_ct rfl _ _ _ _ _ (0, 0) _ rfl Blk.out Tryz.underlying37 rfl (by kernel_rfl)) rfl ?_; exact ⟨_, _, _, _, rfl, (by first | exact rowFin | exact rowFin' rfl | exact rowFin' (by simp) | exact Kd.R_nil _ _ _ _ _ | exact atFin | exact irowFin' (by simp)), (by first | exact Kd.R_nil _ _ _ _ _ | exact djR (ok := fun _ => True) (by first | exact rowFin | exact atFin | exact atFin' (by simp) | exact rowFin' (by simp))), (by first | exact rowFin | exact rowFin' rfl | exact rowFin' (by simp) | exact Kd.R_nil _ _ _ _ _ | exact atFin | exact irowFin' (by simp)), (by first | exact Kd.R_nil _ _ _ _ _ | exact djR (ok := fun _ => True) (by first | exact rowFin | exact atFin | exact atFin' (by simp) | exact rowFin' (by simp))), From.out⟩)
def impl_IsReplay.j0 : Nat → List (S41) → List Int → Bool → List (S112) → Int → List Int → Int → Int → List (S104) → Option (Bool)
 | 0, _, _, _, _, _, _, _, _, _ => none
 | k + 1, x1, x2, x16, x1448000, x1448001, x1448002, x1448003, x1448004, x1448005 => if x16 = true then (some false) else ((impl_RunActs.f k x1448000 x1448001 x1448002 x1448003 x1448004 x1448005 x1).bind fun bt1449 => ((impl_orderInts.f k bt1449.2.2.2.2.2.2 x2).bind fun t1465 => (some (t1465 == 0))))
def impl_IsReplay.f (k : Nat) (l0_0 : List (S112)) (a0_1 : Int) (l0_2 : List Int) (a0_3 : Int) (a0_4 : Int) (l0_5 : List (S104)) (l1 : List (S41)) (l2 : List Int) : Option (Bool) := (impl_ShopOk.f k l0_0 a0_1 l0_2 a0_3 a0_4 l0_5).bind fun t1448 => (if t1448 = true then (impl_IsReplay.j0 k l1 l2 (decide ((l1.length : Int) > 40)) l0_0 a0_1 l0_2 a0_3 a0_4 l0_5) else (impl_IsReplay.j0 k l1 l2 true l0_0 a0_1 l0_2 a0_3 a0_4 l0_5))
theorem impl_IsReplay.calls (k : Nat) (A0_0 : Option Addr) (c0_0 : Nat) (l0_0 : List (S112)) (a0_1 : Int) (A0_2 : Option Addr) (c0_2 : Nat) (l0_2 : List Int) (a0_3 : Int) (a0_4 : Int) (A0_5 : Option Addr) (c0_5 : Nat) (l0_5 : List (S104)) (A1 : Option Addr) (c1 : Nat) (l1 : List (S41)) (A2 : Option Addr) (c2 : Nat) (l2 : List Int) (r : Bool) (w : World) (hr0_0 : Kd.C k112 w A0_0 l0_0.length l0_0) (hc0_0 : l0_0.length ≤ c0_0) (hr0_2 : Kd.C (Kd.int .i64) w A0_2 l0_2.length l0_2) (hc0_2 : l0_2.length ≤ c0_2) (hr0_5 : Kd.C k104 w A0_5 l0_5.length l0_5) (hc0_5 : l0_5.length ≤ c0_5) (hr1 : Kd.C k41 w A1 l1.length l1) (hc1 : l1.length ≤ c1) (hr2 : Kd.C (Kd.int .i64) w A2 l2.length l2) (hc2 : l2.length ≤ c2) (h : impl_IsReplay.f k l0_0 a0_1 l0_2 a0_3 a0_4 l0_5 l1 l2 = some r) :
  Calls Tryz.prog 28 #[.agg #[.slice A0_0 l0_0.length c0_0, .int .i64 a0_1, .slice A0_2 l0_2.length c0_2, .int .i64 a0_3, .int .i64 a0_4, .slice A0_5 l0_5.length c0_5], .slice A1 l1.length c1, .slice A2 l2.length c2] w fun e w' => e = .returned (.bool r) ∧ Below w.heap.size w w' := by
 replace hr0_0 := RdE.mk hr0_0
 replace hc0_0 := LeI.mk hc0_0
 replace hr0_2 := RdE.mk hr0_2
 replace hc0_2 := LeI.mk hc0_2
 replace hr0_5 := RdE.mk hr0_5
 replace hc0_5 := LeI.mk hc0_5
 replace hr1 := RdE.mk hr1
 replace hc1 := LeI.mk hc1
 replace hr2 := RdE.mk hr2
 replace hc2 := LeI.mk hc2
 unfold impl_IsReplay.f at h
 have hu37 := Tryz.underlying37
 (repeat' first | ((with_reducible replace h := ite_some h); rcases h with ⟨hc, h⟩ | ⟨hc, h⟩ <;> first | exact (none_some h).elim | exact absurd hc (by decide) | subst hc | (replace hc := hF_ hc; subst hc) | (replace hc := hG_ hc; subst hc) | (replace hc := hH_ hc; subst hc) | (have hd : (_ == _) = true := hc) | (have hd : (_ == _) = false := hF_ hc) | (have hd := hI_ hc; have he := hJ_ hc; clear hc) | (have hd := hK_ hc; have he := hL_ hc) | (have hd := decide_eq_false hc) | (have hd := decide_eq_true hc; (try (have hn := Int.natCast_pos.mp hc; have hm := decide_eq_true hn; replace hn := eq_true hn)); first | (obtain ⟨g_, e_, i_⟩ := form_ (by assumption) (by first | assumption | decide) hc; cases e_) | (obtain ⟨a_, e_, c_⟩ := atI_ (by assumption) (by first | assumption | decide) hc; cases e_)) | (have hd := decide_eq_true hc) | skip) | ((with_reducible have hj : impl_IsReplay.j0 k _ _ _ _ _ _ _ _ _ = _ := h); clear hj; rcases k with _ | k <;> rw [impl_IsReplay.j0] at h <;> first | exact (none_some h).elim | skip) | ((with_reducible replace h := bind_set_ h); obtain ⟨hl_, h⟩ := h; replace hl_ := A_ hl_; (try dsimp only at h)))
 all_goals go_enter Tryz.func28, Tryz.ntmps28
 all_goals go_wp2_with ((first
  | ((with_reducible refine gate_dst (N := 3) rfl ?_); refine bV #[.slice A0_0 l0_0.length c0_0, .int .i64 a0_1, .slice A0_2 l0_2.length c0_2, .int .i64 a0_3, .int .i64 a0_4, .slice A0_5 l0_5.length c0_5] 37 fun g w1 j1 j2 j3 => ?_)
  | ((with_reducible refine gate_dst (N := 7) rfl ?_); refine bV #[.slice none 0 0, .int .i64 0, .slice none 0 0, .int .i64 0, .int .i64 0, .slice none 0 0] 37 fun g w1 j1 j2 j3 => ?_)
  | (go_at_call 32; (try rw [hl_.out]); replace h := bI h; obtain ⟨t, A, h⟩ := h; (try dsimp only at h); refine (impl_ShopOk.calls _ _ _ _ _ _ _ _ _ _ _ _ _ _ _ Rd.out LeI.out Rd.out LeI.out Rd.out LeI.out A).mono ?_; rintro e w2 ⟨rfl, hb⟩; have jb := Bel.mk hb; clear A hb)
  | (go_at_call 20; (try rw [hl_.out]); replace h := bI h; obtain ⟨⟨t1, t2, t3, t4, t5, t6, t7⟩, A, h⟩ := h; (try dsimp only at h); refine (impl_RunActs.calls _ _ _ _ _ _ _ _ _ _ _ _ _ _ _ _ _ _ _ _ _ _ _ _ Rd.out LeI.out Rd.out LeI.out Rd.out LeI.out Rd.out LeI.out A).mono ?_; rintro e w2 ⟨v0, v1, v2, v3, rfl, ho0, ho1, ho2, ho3, hb⟩; obtain ⟨B0, b0, rfl, j0, q0⟩ := rowS ho0; replace ho1 := rowAny ho1; obtain ⟨B1, b1, rfl, j1, q1⟩ := rowS ho1; obtain ⟨B2, b2, rfl, j2, q2⟩ := rowS ho2; replace ho3 := rowAny ho3; obtain ⟨B3, b3, rfl, j3, q3⟩ := rowS ho3; have jb := Bel.mk hb; clear A ho0 ho1 ho2 ho3 hb)
  | (go_at_call 71; (try rw [hl_.out]); replace h := bI h; obtain ⟨t, A, h⟩ := h; (try dsimp only at h); refine (impl_orderInts.calls _ _ _ _ _ _ _ _ _ Rd.out LeI.out Rd.out LeI.out A).mono ?_; rintro e w2 ⟨rfl, n, rfl⟩; clear A)); (repeat' first | ((with_reducible replace h := ite_some h); rcases h with ⟨hc, h⟩ | ⟨hc, h⟩ <;> first | exact (none_some h).elim | exact absurd hc (by decide) | subst hc | (replace hc := hF_ hc; subst hc) | (replace hc := hG_ hc; subst hc) | (replace hc := hH_ hc; subst hc) | (have hd : (_ == _) = true := hc) | (have hd : (_ == _) = false := hF_ hc) | (have hd := hI_ hc; have he := hJ_ hc; clear hc) | (have hd := hK_ hc; have he := hL_ hc) | (have hd := decide_eq_false hc) | (have hd := decide_eq_true hc; (try (have hn := Int.natCast_pos.mp hc; have hm := decide_eq_true hn; replace hn := eq_true hn)); first | (obtain ⟨g_, e_, i_⟩ := form_ (by assumption) (by first | assumption | decide) hc; cases e_) | (obtain ⟨a_, e_, c_⟩ := atI_ (by assumption) (by first | assumption | decide) hc; cases e_)) | (have hd := decide_eq_true hc) | skip) | ((with_reducible have hj : impl_IsReplay.j0 k _ _ _ _ _ _ _ _ _ = _ := h); clear hj; rcases k with _ | k <;> rw [impl_IsReplay.j0] at h <;> first | exact (none_some h).elim | skip) | ((with_reducible replace h := bind_set_ h); obtain ⟨hl_, h⟩ := h; replace hl_ := A_ hl_; (try dsimp only at h))))
 all_goals try (exfalso; simp at hd; omega)
 all_goals obtain rfl := Option.some.inj h
 all_goals go_ret
 all_goals exact ⟨(by first | rfl | (simp_all; done)), From.out⟩
end Go.Proofs.YtanhnhkcpbdfmaaGreat.P
namespace Go.Proofs.YtanhnhkcpbdfmaaGreat.Q
open Go.RowKit Go.Proofs.YtanhnhkcpbdfmaaGreat.P Go.Proofs.YtanhnhkcpbdfmaaGreatW.PrintWords Go.Proofs.YtanhnhkcpbdfmaaGreatW.PrintMore
def openF (l : List S104) : List S104 := if logOk l = true then openUp l l.length else []
theorem open_impl (l : List S104) (hl : l.length ≤ 1048577) : impl_OpenFaults.f l = some (openF l) := by
  unfold impl_OpenFaults.f
  rw [if_pos hl]
  rfl
def nextR (l : List S104) : Int × Int × Bool := match openF l with
  | [] => (0, 0, false)
  | x :: _ => (x.f0.f0, x.f0.f1, true)
theorem next_impl (l : List S104) (hl : l.length ≤ 1048577) : impl_NextRepair.f l = some (nextR l) := by
  unfold impl_NextRepair.f nextR
  rw [open_impl l hl]
  simp only [Option.bind_some]
  cases h : openF l with
  | nil => simp
  | cons x r =>
    rw [if_neg (by first | (simp; done) | (simp; omega)), if_pos (by first | (simp; done) | (simp; omega))]
    simp [rd_T104]
def repNext (l : List S104) (m : Int) : List S104 × Bool := if (nextR l).2.2 = true then addEntry l (nextR l).1 (nextR l).2.1 0 m else (l, false)
theorem repNext_impl (l : List S104) (m : Int) (hl : l.length ≤ 1048576) : Ev (fun k => impl_RepairNext.f k l m) (repNext l m) := by
  unfold impl_RepairNext.f repNext
  refine evb (next_impl l (by omega)) ?_
  by_cases h : (nextR l).2.2 = true
  · exact rpos h <| evp h (Ev.bind (add_impl l _ _ _ _ hl) (Ev.now _))
  · exact rneg h <| evn h (evb (copyLog_eq l (by omega)) (Ev.now _))
theorem repNext_len (l : List S104) (m : Int) : (repNext l m).1.length ≤ l.length + 1 := by
  unfold repNext
  split
  · exact addEntry_len _ _ _ _ _
  · simp
end Go.Proofs.YtanhnhkcpbdfmaaGreat.Q
namespace Go.Proofs.YtanhnhkcpbdfmaaGreat.P
set_option maxRecDepth 100000
set_option synthInstance.maxHeartbeats 400000
set_option synthInstance.maxSize 100000
open Go.RowKit Go.Proofs.YtanhnhkcpbdfmaaGreatW.PrintWords Go.Proofs.YtanhnhkcpbdfmaaGreatW.PrintLast Go.Proofs.YtanhnhkcpbdfmaaGreatW.PrintMore Go.Proofs.YtanhnhkcpbdfmaaGreat.V
attribute [local go_sem] cell_b frozen_b
attribute [local go_sem] max2_int min2_int max_two min_two max_three min_three max_four min_four
def spec_ShopOk.f (k : Nat) (l0_0 : List (S112)) (a0_1 : Int) (l0_2 : List Int) (a0_3 : Int) (a0_4 : Int) (l0_5 : List (S104)) : Option (Bool) := (spec_WorkOk.f k l0_0 a0_1 l0_2).bind fun b => some (b && (Q.logOk l0_5 && (decide (-10 ≤ a0_3 ∧ a0_3 ≤ 40) && (decide (0 ≤ a0_4 ∧ a0_4 ≤ 100000) && decide (Q.lastOk l0_5 a0_4)))))
def spec_ShopOk.T2 : Bool × List (List Nat × List Nat) := (true, [([], []), ([0], [0]), ([1], [1]), ([2, 2], [2]), ([3], [3]), ([4, 3], [3, 4]), ([5, 3, 3], [3, 5]), ([3, 6], [3, 6]), ([7, 6], [7]), ([8], [8]), ([9, 8], [8, 9]), ([10, 8, 8], [8, 10]), ([8, 11], [8, 11]), ([12, 11], [12]), ([13], [13]), ([14, 13], [13, 14]), ([15, 13, 13], [13, 15]), ([13, 16], [13, 16]), ([17, 16], [17]), ([18], [18]), ([19, 18], [18, 19]), ([20, 18, 18], [18, 20]), ([21], [21]), ([22, 21], [21, 22]), ([21], [21]), ([24, 21], [21, 24]), ([23, 25, 21], [21, 23, 25]), ([26, 21], [21, 26]), ([27, 21], [21, 27]), ([21], [21]), ([29, 21], [21, 29]), ([28, 30, 21], [21, 28, 30]), ([21, 31, 18], [18, 21, 31]), ([18, 32], [18, 32]), ([33, 21, 0, 1, 2, 3, 4, 5, 6, 7, 8, 9, 10, 11, 12, 13, 14, 15, 16, 17, 18, 19, 20, 21, 22, 23, 24, 25, 26, 27, 28, 29, 30, 31, 32, 33], [33])])
def spec_ShopOk.B2 : List Nat := [0, 1, 3, 7, 15, 31, 63, 127, 255, 511, 1023, 2047, 4095, 8191, 16383, 32767, 65535, 131071, 262143, 524287, 1048575, 2097151, 4194303, 8388607, 4194303, 20971519, 67108863, 134217727, 268435455, 4194303, 541065215, 2147483647, 4294967295, 8589934591, 17179869183]
theorem spec_ShopOk.tab2 : rtab .any (opsOf Tryz.f37 2) = spec_ShopOk.T2 := by kernel_rfl
theorem spec_ShopOk.bits2 : waitsOk spec_ShopOk.T2.2 spec_ShopOk.B2 = true := by kernel_rfl
def spec_ShopOk.m (n : Nat) : Array Bool := ((List.range 35).map (fun j => decide (j < n))).toArray
attribute [local go_sem] cellR_c
set_option maxHeartbeats 4000000 in
theorem spec_ShopOk.calls (k : Nat) (A0_0 : Option Addr) (c0_0 : Nat) (l0_0 : List (S112)) (a0_1 : Int) (A0_2 : Option Addr) (c0_2 : Nat) (l0_2 : List Int) (a0_3 : Int) (a0_4 : Int) (A0_5 : Option Addr) (c0_5 : Nat) (l0_5 : List (S104)) (r : Bool) (w : World) (hr0_0 : Kd.C k112 w A0_0 l0_0.length l0_0) (hc0_0 : l0_0.length ≤ c0_0) (hr0_2 : Kd.C (Kd.int .i64) w A0_2 l0_2.length l0_2) (hc0_2 : l0_2.length ≤ c0_2) (hr0_5 : Kd.C k104 w A0_5 l0_5.length l0_5) (hc0_5 : l0_5.length ≤ c0_5) (h : spec_ShopOk.f k l0_0 a0_1 l0_2 a0_3 a0_4 l0_5 = some r) :
  Calls Tryz.prog 37 #[.agg #[.slice A0_0 l0_0.length c0_0, .int .i64 a0_1, .slice A0_2 l0_2.length c0_2, .int .i64 a0_3, .int .i64 a0_4, .slice A0_5 l0_5.length c0_5]] w fun e w' => e = .returned (.bool r) ∧ Below w.heap.size w w' := by
 obtain ⟨b1, hb1, h⟩ := Option.bind_eq_some_iff.mp h
 obtain ⟨b2, hb2⟩ : ∃ b, Q.logOk l0_5 = b := ⟨_, rfl⟩
 obtain ⟨b3, hb3⟩ : ∃ b, decide (-10 ≤ a0_3 ∧ a0_3 ≤ 40) = b := ⟨_, rfl⟩
 obtain ⟨b4, hb4⟩ : ∃ b, decide (0 ≤ a0_4 ∧ a0_4 ≤ 100000) = b := ⟨_, rfl⟩
 obtain ⟨b5, hb5⟩ : ∃ b, decide (Q.lastOk l0_5 a0_4) = b := ⟨_, rfl⟩
 have HQ : Aside0 ((b1 && (b2 && (b3 && (b4 && b5)))) = r) := ⟨by rw [← hb2, ← hb3, ← hb4, ← hb5]; exact Option.some.inj h⟩
 have A1 : Aside0 (spec_WorkOk.f k l0_0 a0_1 l0_2 = some b1) := ⟨hb1⟩
 have A2 : Aside0 (spec_LogOk.f k l0_5 = some b2) := ⟨by rw [← hb2]; rfl⟩
 have A3 : Aside0 (spec_l01In.f a0_3 (-10) 40 = some b3) := ⟨by rw [← hb3]; unfold spec_l01In.f; by_cases hh : a0_3 ≥ -10 <;> simp [hh] <;> omega⟩
 have A4 : Aside0 (spec_l01In.f a0_4 0 100000 = some b4) := ⟨by rw [← hb4]; unfold spec_l01In.f; by_cases hh : a0_4 ≥ 0 <;> simp [hh] <;> omega⟩
 have H5 := A_ hb5
 have HR := A_ hr0_5
 have HM := A_ (Kd.C_max hr0_5)
 have i0 := RdE.mk hr0_0
 have i1 := LeI.mk hc0_0
 have i2 := RdE.mk hr0_2
 have i3 := LeI.mk hc0_2
 have i4 := RdE.mk hr0_5
 have i5 := LeI.mk hc0_5
 have hu := Tryz.underlying37
 clear hr0_0 hc0_0 hr0_2 hc0_2 hr0_5 hc0_5 h hb1 hb2 hb3 hb4 hb5
 have hzz : l0_5.length = 0 ∨ ∃ (ad2 : Addr) (j : Nat) (y : S104), A0_5 = some ad2 ∧ ((l0_5.length : Int) == 0) = false ∧ ((l0_5.length : Int) != 0) = true ∧ wrap64 ((l0_5.length : Int) - 1) = (j : Int) ∧ IntKind.i64.wrap ((l0_5.length : Int) - 1) = (j : Int) ∧ (j : Int) < (l0_5.length : Int) ∧ j < l0_5.length ∧ CelR w ⟨(ad2.add (j * 4)).block, (ad2.add (j * 4)).off + 3, none⟩ (.int .i64 y.f2) ∧ decide (y.f2 ≤ a0_4) = b5 := by
  by_cases hz : l0_5.length = 0
  ·exact .inl hz
  right
  obtain ⟨j, hj⟩ : ∃ j, j + 1 = l0_5.length := ⟨l0_5.length - 1, by omega⟩
  have hM := HM.out
  obtain ⟨ad2, e2, _, _, _, hy3⟩ := at_T104 HR.out (j : Int) (by omega) (by omega)
  have hw1 : wrap64 ((l0_5.length : Int) - 1) = (j : Int) := by unfold wrap64; omega
  simp only [Int.toNat_natCast] at hy3
  refine ⟨ad2, j, rd_T104 l0_5 (j : Int), e2, beq_eq_false_iff_ne.mpr (by omega), bne_iff_ne.mpr (by omega), hw1, by rw [i64_w]; exact hw1, by omega, by omega, ⟨hy3⟩, ?_⟩
  rw [← H5.out]
  refine decide_eq_decide.mpr ?_
  unfold Q.lastOk
  rw [show l0_5.length - 1 = j by omega]
  simp [rd_T104, hz]
 have hways : (b1 = false ∧ r = false) ∨ (b1 = true ∧ b2 = false ∧ r = false) ∨ (b1 = true ∧ b2 = true ∧ b3 = false ∧ r = false) ∨ (b1 = true ∧ b2 = true ∧ b3 = true ∧ b4 = false ∧ r = false) ∨ (b1 = true ∧ b2 = true ∧ b3 = true ∧ b4 = true ∧ b5 = r) := by
  have := HQ.out
  cases b1 <;> cases b2 <;> cases b3 <;> cases b4 <;> simp_all
 replace hzz := hzz.imp (fun hz => (⟨by rw [← H5.out]; exact (decide_eq_true (.inl hz)).symm, beq_iff_eq.mpr (by omega), bne_eq_false_iff_eq.mpr (by omega)⟩ : true = b5 ∧ ((l0_5.length : Int) == 0) = true ∧ ((l0_5.length : Int) != 0) = false)) id
 clear HQ H5 HR HM
 rcases hways with ⟨rfl, rfl⟩ | ⟨rfl, rfl, rfl⟩ | ⟨rfl, rfl, rfl, rfl⟩ | ⟨rfl, rfl, rfl, rfl, rfl⟩ | ⟨rfl, rfl, rfl, rfl, rfl⟩
 rotate_right
 rcases hzz with ⟨rfl, z1, z2⟩ | ⟨ad2, j, y, rfl, z1, z2, z3, z4, z5, z6, z7, z8⟩
 all_goals try clear hzz
 all_goals go_enter Tryz.func37, Tryz.ntmps37
 all_goals go_wp2_with (first | ((with_reducible refine gate_dst (N := 1) rfl ?_); (try (refine gate_guard (by rfl) ?_; dsimp only)); (first | refine box_event rfl (N := 1) rfl (cs := #[.slice A0_0 l0_0.length c0_0, .int .i64 a0_1, .slice A0_2 l0_2.length c0_2, .int .i64 a0_3, .int .i64 a0_4, .slice A0_5 l0_5.length c0_5]) (t := 37) (by first | (go_simp; done) | (go_simp; rfl)) ?_ | refine box_event rfl (N := 1) rfl (cs := #[.slice A0_0 l0_0.length c0_0, .int .i64 a0_1, .slice A0_2 l0_2.length c0_2, .int .i64 a0_3, .int .i64 a0_4, .slice (some ad2) l0_5.length c0_5]) (t := 37) (by first | (go_simp; done) | (go_simp; rfl)) ?_); intro g hg w1 hk hb; have j1 := Born.mk hg; have j2 := Bel.mk hb; have j3 := Blk.mk hk; clear hg hb hk))
 all_goals (refine start_ (n := 35) (S := fun w' => Below w1.heap.size w1 w') (ds := []) (spec_ShopOk.m 0) (by kernel_rfl) rfl (by kernel_rfl) From.out (fun hHeld => ?_); refine with_tabW spec_ShopOk.tab2 spec_ShopOk.bits2 (fun HT_ HW_ => ?_))
 all_goals first | (refine pA 0 (some 7) HT_.out ?_ (l' := (spec_ShopOk.m 1)) (hl := by rfl)) | (refine pU 0 (some 7) HT_.out ?_ (l' := (spec_ShopOk.m 1)) (hl := by rfl))
 all_goals first | (refine pT 1 (some 8) HT_.out HW_.out hHeld ?_ (l' := (spec_ShopOk.m 2)) (hl := by rfl) (hy := by intro w' hS; have jS : Sin w1 w' := ⟨hS⟩; go_simp; with_reducible rfl)) | (refine pU 1 (some 8) HT_.out ?_ (l' := (spec_ShopOk.m 2)) (hl := by rfl))
 all_goals first | (refine one_ (i := 2) (N := some 9) (spec_ShopOk.m 3) rfl rfl (one_of HT_.out (by kernel_rfl)) (by decide) (fun K hK => ?_); refine goes_ Tryz.func86 (by kernel_rfl) rfl #[.agg #[.slice A0_0 l0_0.length c0_0, .int .i64 a0_1, .slice A0_2 l0_2.length c0_2]] (by rfl) rfl rfl (by (try simp only [List.map_toArray, List.map_cons, List.map_nil]); first | done | rfl) ?_; refine (spec_WorkOk.calls k _ _ _ _ _ _ _ _ _ Rd.out LeI.out Rd.out LeI.out A1.out).mono ?_; rintro e w2 ⟨rfl, hb⟩; have jb := Bel.mk hb; clear hb; refine ⟨_, rfl, ?_⟩; refine hK.out _ _ From.out (fun hHeld => ?_); clear hK K; refine norm_ (a' := ?_) ?_ ?_; rotate_left; (focus (show Act.put _ (some 9) _ = _; simp only [Act.put, List.setIfInBounds_toArray, List.set_cons_zero, List.set_cons_succ, i64_w, i32_w]; rfl))) | (refine pU 2 (some 9) HT_.out ?_ (l' := (spec_ShopOk.m 3)) (hl := by rfl))
 all_goals first | (refine pA 3 (some 10) HT_.out ?_ (l' := (spec_ShopOk.m 4)) (hl := by rfl)) | (refine pU 3 (some 10) HT_.out ?_ (l' := (spec_ShopOk.m 4)) (hl := by rfl))
 all_goals first | (refine pA 4 (some 11) HT_.out ?_ (l' := (spec_ShopOk.m 5)) (hl := by rfl)) | (refine pU 4 (some 11) HT_.out ?_ (l' := (spec_ShopOk.m 5)) (hl := by rfl))
 all_goals first | (refine pT 5 (some 12) HT_.out HW_.out hHeld ?_ (l' := (spec_ShopOk.m 6)) (hl := by rfl) (hy := by intro w' hS; have jS : Sin w1 w' := ⟨hS⟩; go_simp; with_reducible rfl)) | (refine pU 5 (some 12) HT_.out ?_ (l' := (spec_ShopOk.m 6)) (hl := by rfl))
 all_goals first | (refine one_ (i := 6) (N := some 13) (spec_ShopOk.m 7) rfl rfl (one_of HT_.out (by kernel_rfl)) (by decide) (fun K hK => ?_); refine goes_ Tryz.func87 (by kernel_rfl) rfl #[.slice _ l0_5.length c0_5] (by rfl) rfl rfl (by (try simp only [List.map_toArray, List.map_cons, List.map_nil]); first | done | rfl) ?_; refine (spec_LogOk.calls k _ _ _ _ _ Rd.out LeI.out A2.out).mono ?_; rintro e w2 ⟨rfl, hb⟩; have jb := Bel.mk hb; clear hb; refine ⟨_, rfl, ?_⟩; refine hK.out _ _ From.out (fun hHeld => ?_); clear hK K; refine norm_ (a' := ?_) ?_ ?_; rotate_left; (focus (show Act.put _ (some 13) _ = _; simp only [Act.put, List.setIfInBounds_toArray, List.set_cons_zero, List.set_cons_succ, i64_w, i32_w]; rfl))) | (refine pU 6 (some 13) HT_.out ?_ (l' := (spec_ShopOk.m 7)) (hl := by rfl))
 all_goals first | (refine pA 7 (some 14) HT_.out ?_ (l' := (spec_ShopOk.m 8)) (hl := by rfl)) | (refine pU 7 (some 14) HT_.out ?_ (l' := (spec_ShopOk.m 8)) (hl := by rfl))
 all_goals first | (refine pA 8 (some 15) HT_.out ?_ (l' := (spec_ShopOk.m 9)) (hl := by rfl)) | (refine pU 8 (some 15) HT_.out ?_ (l' := (spec_ShopOk.m 9)) (hl := by rfl))
 all_goals first | (refine pA 9 (some 16) HT_.out ?_ (l' := (spec_ShopOk.m 10)) (hl := by rfl)) | (refine pU 9 (some 16) HT_.out ?_ (l' := (spec_ShopOk.m 10)) (hl := by rfl))
 all_goals first | (refine pT 10 (some 17) HT_.out HW_.out hHeld ?_ (l' := (spec_ShopOk.m 11)) (hl := by rfl) (hy := by intro w' hS; have jS : Sin w1 w' := ⟨hS⟩; go_simp; with_reducible rfl)) | (refine pU 10 (some 17) HT_.out ?_ (l' := (spec_ShopOk.m 11)) (hl := by rfl))
 all_goals first | (refine one_ (i := 11) (N := some 18) (spec_ShopOk.m 12) rfl rfl (one_of HT_.out (by kernel_rfl)) (by decide) (fun K hK => ?_); refine goes_ Tryz.func88 (by kernel_rfl) rfl #[.int .i64 a0_3, .int .i64 (-10), .int .i64 40] (by rfl) rfl rfl (by (try simp only [List.map_toArray, List.map_cons, List.map_nil]); first | done | rfl) ?_; refine (spec_l01In.calls _ _ _ _ _ A3.out).mono ?_; rintro e w2 ⟨rfl, n, rfl⟩; refine ⟨_, rfl, ?_⟩; refine hK.out _ _ From.out (fun hHeld => ?_); clear hK K; refine norm_ (a' := ?_) ?_ ?_; rotate_left; (focus (show Act.put _ (some 18) _ = _; simp only [Act.put, List.setIfInBounds_toArray, List.set_cons_zero, List.set_cons_succ, i64_w, i32_w]; rfl))) | (refine pU 11 (some 18) HT_.out ?_ (l' := (spec_ShopOk.m 12)) (hl := by rfl))
 all_goals first | (refine pA 12 (some 19) HT_.out ?_ (l' := (spec_ShopOk.m 13)) (hl := by rfl)) | (refine pU 12 (some 19) HT_.out ?_ (l' := (spec_ShopOk.m 13)) (hl := by rfl))
 all_goals first | (refine pA 13 (some 20) HT_.out ?_ (l' := (spec_ShopOk.m 14)) (hl := by rfl)) | (refine pU 13 (some 20) HT_.out ?_ (l' := (spec_ShopOk.m 14)) (hl := by rfl))
 all_goals first | (refine pA 14 (some 21) HT_.out ?_ (l' := (spec_ShopOk.m 15)) (hl := by rfl)) | (refine pU 14 (some 21) HT_.out ?_ (l' := (spec_ShopOk.m 15)) (hl := by rfl))
 all_goals first | (refine pT 15 (some 22) HT_.out HW_.out hHeld ?_ (l' := (spec_ShopOk.m 16)) (hl := by rfl) (hy := by intro w' hS; have jS : Sin w1 w' := ⟨hS⟩; go_simp; with_reducible rfl)) | (refine pU 15 (some 22) HT_.out ?_ (l' := (spec_ShopOk.m 16)) (hl := by rfl))
 all_goals first | (refine one_ (i := 16) (N := some 23) (spec_ShopOk.m 17) rfl rfl (one_of HT_.out (by kernel_rfl)) (by decide) (fun K hK => ?_); refine goes_ Tryz.func88 (by kernel_rfl) rfl #[.int .i64 a0_4, .int .i64 0, .int .i64 100000] (by rfl) rfl rfl (by (try simp only [List.map_toArray, List.map_cons, List.map_nil]); first | done | rfl) ?_; refine (spec_l01In.calls _ _ _ _ _ A4.out).mono ?_; rintro e w2 ⟨rfl, n, rfl⟩; refine ⟨_, rfl, ?_⟩; refine hK.out _ _ From.out (fun hHeld => ?_); clear hK K; refine norm_ (a' := ?_) ?_ ?_; rotate_left; (focus (show Act.put _ (some 23) _ = _; simp only [Act.put, List.setIfInBounds_toArray, List.set_cons_zero, List.set_cons_succ, i64_w, i32_w]; rfl))) | (refine pU 16 (some 23) HT_.out ?_ (l' := (spec_ShopOk.m 17)) (hl := by rfl))
 all_goals first | (refine pA 17 (some 24) HT_.out ?_ (l' := (spec_ShopOk.m 18)) (hl := by rfl)) | (refine pU 17 (some 24) HT_.out ?_ (l' := (spec_ShopOk.m 18)) (hl := by rfl))
 all_goals first | (refine pA 18 (some 25) HT_.out ?_ (l' := (spec_ShopOk.m 19)) (hl := by rfl)) | (refine pU 18 (some 25) HT_.out ?_ (l' := (spec_ShopOk.m 19)) (hl := by rfl))
 all_goals first | (refine pA 19 (some 26) HT_.out ?_ (l' := (spec_ShopOk.m 20)) (hl := by rfl)) | (refine pU 19 (some 26) HT_.out ?_ (l' := (spec_ShopOk.m 20)) (hl := by rfl))
 all_goals first | (refine pA 20 (some 27) HT_.out ?_ (l' := (spec_ShopOk.m 21)) (hl := by rfl)) | (refine pU 20 (some 27) HT_.out ?_ (l' := (spec_ShopOk.m 21)) (hl := by rfl))
 all_goals first | (refine pA 21 (some 28) HT_.out ?_ (l' := (spec_ShopOk.m 22)) (hl := by rfl)) | (refine pU 21 (some 28) HT_.out ?_ (l' := (spec_ShopOk.m 22)) (hl := by rfl))
 all_goals first | (refine pA 22 (some 29) HT_.out ?_ (l' := (spec_ShopOk.m 23)) (hl := by rfl)) | (refine pU 22 (some 29) HT_.out ?_ (l' := (spec_ShopOk.m 23)) (hl := by rfl))
 all_goals first | (refine pT 23 (some 30) HT_.out HW_.out hHeld ?_ (l' := (spec_ShopOk.m 24)) (hl := by rfl) (hy := by intro w' hS; have jS : Sin w1 w' := ⟨hS⟩; go_simp; with_reducible rfl)) | (refine pU 23 (some 30) HT_.out ?_ (l' := (spec_ShopOk.m 24)) (hl := by rfl))
 all_goals first | (refine pA 24 (some 31) HT_.out ?_ (l' := (spec_ShopOk.m 25)) (hl := by rfl)) | (refine pU 24 (some 31) HT_.out ?_ (l' := (spec_ShopOk.m 25)) (hl := by rfl))
 all_goals first | (refine pA 25 (some 32) HT_.out ?_ (l' := (spec_ShopOk.m 26)) (hl := by rfl)) | (refine pU 25 (some 32) HT_.out ?_ (l' := (spec_ShopOk.m 26)) (hl := by rfl))
 all_goals first | (refine pA 26 (some 33) HT_.out ?_ (l' := (spec_ShopOk.m 27)) (hl := by rfl)) | (refine pU 26 (some 33) HT_.out ?_ (l' := (spec_ShopOk.m 27)) (hl := by rfl))
 all_goals first | (refine pA 27 (some 34) HT_.out ?_ (l' := (spec_ShopOk.m 28)) (hl := by rfl)) | (refine pU 27 (some 34) HT_.out ?_ (l' := (spec_ShopOk.m 28)) (hl := by rfl))
 all_goals first | (refine pT 28 (some 35) HT_.out HW_.out hHeld ?_ (l' := (spec_ShopOk.m 29)) (hl := by rfl) (hy := by intro w' hS; have jS : Sin w1 w' := ⟨hS⟩; go_simp; with_reducible rfl)) | (refine pU 28 (some 35) HT_.out ?_ (l' := (spec_ShopOk.m 29)) (hl := by rfl))
 all_goals first | (refine pA 29 (some 36) HT_.out ?_ (l' := (spec_ShopOk.m 30)) (hl := by rfl)) | (refine pU 29 (some 36) HT_.out ?_ (l' := (spec_ShopOk.m 30)) (hl := by rfl))
 all_goals first | (refine pT 30 (some 37) HT_.out HW_.out hHeld ?_ (l' := (spec_ShopOk.m 31)) (hl := by rfl) (hy := by intro w' hS; have jS : Sin w1 w' := ⟨hS⟩; go_simp; with_reducible rfl)) | (refine pU 30 (some 37) HT_.out ?_ (l' := (spec_ShopOk.m 31)) (hl := by rfl))
 all_goals first | (refine pA 31 (some 38) HT_.out ?_ (l' := (spec_ShopOk.m 32)) (hl := by rfl)) | (refine pU 31 (some 38) HT_.out ?_ (l' := (spec_ShopOk.m 32)) (hl := by rfl))
 all_goals first | (refine pA 32 (some 39) HT_.out ?_ (l' := (spec_ShopOk.m 33)) (hl := by rfl)) | (refine pU 32 (some 39) HT_.out ?_ (l' := (spec_ShopOk.m 33)) (hl := by rfl))
 all_goals first | (refine pA 33 (some 40) HT_.out ?_ (l' := (spec_ShopOk.m 34)) (hl := by rfl)) | (refine pU 33 (some 40) HT_.out ?_ (l' := (spec_ShopOk.m 34)) (hl := by rfl))
 all_goals first | (refine pA 34 (some 2) HT_.out ?_ (l' := (spec_ShopOk.m 35)) (hl := by rfl)) | (refine pU 34 (some 2) HT_.out ?_ (l' := (spec_ShopOk.m 35)) (hl := by rfl))
 all_goals refine done_ (done_of HT_.out (by kernel_rfl)) ?_
 all_goals try go_wp2
 all_goals go_ret
 all_goals exact ⟨by first | rfl | (simp [*]; done), From.out⟩
end Go.Proofs.YtanhnhkcpbdfmaaGreat.P
namespace Go.Proofs.YtanhnhkcpbdfmaaGreat.P
set_option maxHeartbeats 8000000
set_option maxRecDepth 100000
set_option synthInstance.maxHeartbeats 400000
set_option synthInstance.maxSize 100000
open Go.RowKit Go.Proofs.YtanhnhkcpbdfmaaGreatW.PrintWords Go.Proofs.YtanhnhkcpbdfmaaGreatW.PrintLast Go.Proofs.YtanhnhkcpbdfmaaGreatW.PrintMore Go.Proofs.YtanhnhkcpbdfmaaGreat.V
attribute [local go_sem] cell_b frozen_b
attribute [local go_sem] max2_int min2_int max_two min_two max_three min_three max_four min_four
def spec_ShopTune.f (k : Nat) (l0_0 : List (S112)) (a0_1 : Int) (l0_2 : List Int) (a0_3 : Int) (a0_4 : Int) (l0_5 : List (S104)) : Option ((List (S112)) × Int × List Int × Int × Int × (List (S104)) × Bool) := (spec_l38Copy.f l0_0 a0_1 l0_2 a0_3 a0_4 l0_5).bind fun bt227 => ((spec_ShopOk.f k l0_0 a0_1 l0_2 a0_3 a0_4 l0_5).bind fun t240 => (if t240 = true then ((spec_WrongSteps.f k l0_0 a0_1 l0_2).bind fun t241 => (if (t241.length : Int) > 0 then ((spec_MendStep.f k l0_0 a0_1 l0_2).bind fun bt244 => (some (bt244.1, bt244.2.1, bt244.2.2.1, bt227.2.2.2.1, bt227.2.2.2.2.1, bt227.2.2.2.2.2, bt244.2.2.2))) else ((spec_WorkStep.f k l0_0 a0_1 l0_2).bind fun bt252 => (some (bt252.1, bt252.2.1, bt252.2.2.1, bt227.2.2.2.1, bt227.2.2.2.2.1, bt227.2.2.2.2.2, bt252.2.2.2))))) else (some (bt227.1, bt227.2.1, bt227.2.2.1, bt227.2.2.2.1, bt227.2.2.2.2.1, bt227.2.2.2.2.2, false))))
theorem spec_ShopTune.calls (k : Nat) (A0_0 : Option Addr) (c0_0 : Nat) (l0_0 : List (S112)) (a0_1 : Int) (A0_2 : Option Addr) (c0_2 : Nat) (l0_2 : List Int) (a0_3 : Int) (a0_4 : Int) (A0_5 : Option Addr) (c0_5 : Nat) (l0_5 : List (S104)) (r1 : List (S112)) (r2 : Int) (r3 : List Int) (r4 : Int) (r5 : Int) (r6 : List (S104)) (r7 : Bool) (w : World) (hr0_0 : Kd.C k112 w A0_0 l0_0.length l0_0) (hc0_0 : l0_0.length ≤ c0_0) (hr0_2 : Kd.C (Kd.int .i64) w A0_2 l0_2.length l0_2) (hc0_2 : l0_2.length ≤ c0_2) (hr0_5 : Kd.C k104 w A0_5 l0_5.length l0_5) (hc0_5 : l0_5.length ≤ c0_5) (h : spec_ShopTune.f k l0_0 a0_1 l0_2 a0_3 a0_4 l0_5 = some (r1, r2, r3, r4, r5, r6, r7)) :
  Calls Tryz.prog 47 #[.agg #[.slice A0_0 l0_0.length c0_0, .int .i64 a0_1, .slice A0_2 l0_2.length c0_2, .int .i64 a0_3, .int .i64 a0_4, .slice A0_5 l0_5.length c0_5]] w fun e w' => ∃ v0_ v2_ v5_ : Value, e = .returned (.tuple #[.agg #[v0_, .int .i64 r2, v2_, .int .i64 r4, .int .i64 r5, v5_], .bool r7]) ∧ Kd.R k112 112 w' w.heap.size (fun _ => True) v0_ r1 ∧ Kd.R (Kd.int .i64) 3 w' w.heap.size (fun _ => True) v2_ r3 ∧ Kd.R k104 104 w' w.heap.size (fun _ => True) v5_ r6 ∧ Below w.heap.size w w' := by
 replace hr0_0 := RdE.mk hr0_0
 replace hc0_0 := LeI.mk hc0_0
 replace hr0_2 := RdE.mk hr0_2
 replace hc0_2 := LeI.mk hc0_2
 replace hr0_5 := RdE.mk hr0_5
 replace hc0_5 := LeI.mk hc0_5
 unfold spec_ShopTune.f at h
 have hu37 := Tryz.underlying37
 (repeat' first | ((with_reducible replace h := ite_some h); rcases h with ⟨hc, h⟩ | ⟨hc, h⟩ <;> first | exact (none_some h).elim | exact absurd hc (by decide) | subst hc | (replace hc := hF_ hc; subst hc) | (have hd := hI_ hc; have he := hJ_ hc; clear hc) | (have hd := hK_ hc; have he := hL_ hc) | (have hd := decide_eq_false hc) | (have hd := decide_eq_true hc) | skip))
 all_goals go_enter Tryz.func47, Tryz.ntmps47
 all_goals go_wp2_with ((first
  | ((with_reducible refine gate_dst (N := 1) rfl ?_); refine bV #[.slice A0_0 l0_0.length c0_0, .int .i64 a0_1, .slice A0_2 l0_2.length c0_2, .int .i64 a0_3, .int .i64 a0_4, .slice A0_5 l0_5.length c0_5] 37 fun g w1 j1 j2 j3 => ?_)
  | ((with_reducible refine gate_dst (N := 2) rfl ?_); refine bV #[.slice none 0 0, .int .i64 0, .slice none 0 0, .int .i64 0, .int .i64 0, .slice none 0 0] 37 fun g w1 j1 j2 j3 => ?_)
  | ((with_reducible refine gate_dst (N := 4) rfl ?_); refine bV #[.slice none 0 0, .int .i64 0, .slice none 0 0, .int .i64 0, .int .i64 0, .slice none 0 0] 37 fun g w1 j1 j2 j3 => ?_)
  | (go_at_call 45; replace h := bI h; obtain ⟨⟨t1, t2, t3, t4, t5, t6⟩, A, h⟩ := h; (try dsimp only at h); refine (spec_l38Copy.calls _ _ _ _ _ _ _ _ _ _ _ _ _ _ _ _ _ _ _ Rd.out LeI.out Rd.out LeI.out Rd.out LeI.out A).mono ?_; rintro e w2 ⟨v0, v1, v2, rfl, ho0, ho1, ho2, hb⟩; obtain ⟨B0, b0, rfl, j0, q0⟩ := rowS ho0; obtain ⟨B1, b1, rfl, j1, q1⟩ := rowS ho1; obtain ⟨B2, b2, rfl, j2, q2⟩ := rowS ho2; have jb := Bel.mk hb; clear A ho0 ho1 ho2 hb)
  | (go_at_call 37; replace h := bI h; obtain ⟨t, A, h⟩ := h; (try dsimp only at h); refine (spec_ShopOk.calls _ _ _ _ _ _ _ _ _ _ _ _ _ _ _ Rd.out LeI.out Rd.out LeI.out Rd.out LeI.out A).mono ?_; rintro e w2 ⟨rfl, hb⟩; have jb := Bel.mk hb; clear A hb)
  | (go_at_call 83; replace h := bI h; obtain ⟨t, A, h⟩ := h; (try dsimp only at h); refine (spec_WrongSteps.calls _ _ _ _ _ _ _ _ _ _ Rd.out LeI.out Rd.out LeI.out A).mono ?_; rintro e w2 ⟨v0, rfl, ho0, hb⟩; obtain ⟨B0, b0, rfl, j0, q0⟩ := rowS ho0; have jb := Bel.mk hb; clear A ho0 hb)
  | (go_at_call 97; replace h := bI h; obtain ⟨⟨t1, t2, t3, t4⟩, A, h⟩ := h; (try dsimp only at h); refine (spec_MendStep.calls _ _ _ _ _ _ _ _ _ _ _ _ _ Rd.out LeI.out Rd.out LeI.out A).mono ?_; rintro e w2 ⟨v0, v1, rfl, ho0, ho1, hb⟩; obtain ⟨B0, b0, rfl, j0, q0⟩ := rowS ho0; obtain ⟨B1, b1, rfl, j1, q1⟩ := rowS ho1; have jb := Bel.mk hb; clear A ho0 ho1 hb)
  | (go_at_call 98; replace h := bI h; obtain ⟨⟨t1, t2, t3, t4⟩, A, h⟩ := h; (try dsimp only at h); refine (spec_WorkStep.calls _ _ _ _ _ _ _ _ _ _ _ _ _ Rd.out LeI.out Rd.out LeI.out A).mono ?_; rintro e w2 ⟨v0, v1, rfl, ho0, ho1, hb⟩; obtain ⟨B0, b0, rfl, j0, q0⟩ := rowS ho0; obtain ⟨B1, b1, rfl, j1, q1⟩ := rowS ho1; have jb := Bel.mk hb; clear A ho0 ho1 hb)); (repeat' first | ((with_reducible replace h := ite_some h); rcases h with ⟨hc, h⟩ | ⟨hc, h⟩ <;> first | exact (none_some h).elim | exact absurd hc (by decide) | subst hc | (replace hc := hF_ hc; subst hc) | (have hd := hI_ hc; have he := hJ_ hc; clear hc) | (have hd := hK_ hc; have he := hL_ hc) | (have hd := decide_eq_false hc) | (have hd := decide_eq_true hc) | skip)); all_goals (try have hn : decide (0 < t.length) = true := decide_eq_true (by omega)); all_goals (try have hn : decide (0 < t.length) = false := decide_eq_false (by omega)))
 all_goals simp only [Option.some.injEq, Prod.mk.injEq] at h
 all_goals obtain ⟨rfl, rfl, rfl, rfl, rfl, rfl, rfl⟩ := h
 all_goals refine bodyPost_ret (results_ct rfl _ _ _ _ _ (0, 0) _ rfl Blk.out Tryz.underlying37 rfl (by kernel_rfl)) rfl ?_
 all_goals exact ⟨_, _, _, rfl, (by first | exact rowFin | exact Kd.R_nil _ _ _ _ _), (by first | exact rowFin | exact Kd.R_nil _ _ _ _ _), (by first | exact rowFin | exact Kd.R_nil _ _ _ _ _), From.out⟩
def spec_ShopWarm.f (k : Nat) (l0_0 : List (S112)) (a0_1 : Int) (l0_2 : List Int) (a0_3 : Int) (a0_4 : Int) (l0_5 : List (S104)) (a1 : Int) : Option ((List (S112)) × Int × List Int × Int × Int × (List (S104)) × Bool) := (spec_l38Copy.f l0_0 a0_1 l0_2 a0_3 a0_4 l0_5).bind fun bt262 => ((spec_ShopOk.f k l0_0 a0_1 l0_2 a0_3 a0_4 l0_5).bind fun t275 => (if t275 = true then (if a0_4 = 100000 then ((spec_l38Copy.f l0_0 a0_1 l0_2 a0_3 a0_4 l0_5).bind fun bt276 => (some (bt276.1, bt276.2.1, bt276.2.2.1, bt276.2.2.2.1, bt276.2.2.2.2.1, bt276.2.2.2.2.2, false))) else ((spec_ShopOk.f k bt262.1 bt262.2.1 bt262.2.2.1 a1 bt262.2.2.2.2.1 bt262.2.2.2.2.2).bind fun t288 => (if t288 = true then (some (bt262.1, bt262.2.1, bt262.2.2.1, a1, wrap64 (a0_4 + 1), bt262.2.2.2.2.2, true)) else ((spec_l38Copy.f l0_0 a0_1 l0_2 a0_3 a0_4 l0_5).bind fun bt289 => (some (bt289.1, bt289.2.1, bt289.2.2.1, bt289.2.2.2.1, bt289.2.2.2.2.1, bt289.2.2.2.2.2, false)))))) else ((spec_l38Copy.f l0_0 a0_1 l0_2 a0_3 a0_4 l0_5).bind fun bt301 => (some (bt301.1, bt301.2.1, bt301.2.2.1, bt301.2.2.2.1, bt301.2.2.2.2.1, bt301.2.2.2.2.2, false)))))
theorem spec_ShopWarm.calls (k : Nat) (A0_0 : Option Addr) (c0_0 : Nat) (l0_0 : List (S112)) (a0_1 : Int) (A0_2 : Option Addr) (c0_2 : Nat) (l0_2 : List Int) (a0_3 : Int) (a0_4 : Int) (A0_5 : Option Addr) (c0_5 : Nat) (l0_5 : List (S104)) (a1 : Int) (r1 : List (S112)) (r2 : Int) (r3 : List Int) (r4 : Int) (r5 : Int) (r6 : List (S104)) (r7 : Bool) (w : World) (hr0_0 : Kd.C k112 w A0_0 l0_0.length l0_0) (hc0_0 : l0_0.length ≤ c0_0) (hr0_2 : Kd.C (Kd.int .i64) w A0_2 l0_2.length l0_2) (hc0_2 : l0_2.length ≤ c0_2) (hr0_5 : Kd.C k104 w A0_5 l0_5.length l0_5) (hc0_5 : l0_5.length ≤ c0_5) (h : spec_ShopWarm.f k l0_0 a0_1 l0_2 a0_3 a0_4 l0_5 a1 = some (r1, r2, r3, r4, r5, r6, r7)) :
  Calls Tryz.prog 48 #[.agg #[.slice A0_0 l0_0.length c0_0, .int .i64 a0_1, .slice A0_2 l0_2.length c0_2, .int .i64 a0_3, .int .i64 a0_4, .slice A0_5 l0_5.length c0_5], .int .i64 a1] w fun e w' => ∃ v0_ v2_ v5_ : Value, e = .returned (.tuple #[.agg #[v0_, .int .i64 r2, v2_, .int .i64 r4, .int .i64 r5, v5_], .bool r7]) ∧ Kd.R k112 112 w' w.heap.size (fun _ => True) v0_ r1 ∧ Kd.R (Kd.int .i64) 3 w' w.heap.size (fun _ => True) v2_ r3 ∧ Kd.R k104 104 w' w.heap.size (fun _ => True) v5_ r6 ∧ Below w.heap.size w w' := by
 replace hr0_0 := RdE.mk hr0_0
 replace hc0_0 := LeI.mk hc0_0
 replace hr0_2 := RdE.mk hr0_2
 replace hc0_2 := LeI.mk hc0_2
 replace hr0_5 := RdE.mk hr0_5
 replace hc0_5 := LeI.mk hc0_5
 unfold spec_ShopWarm.f at h
 have hu37 := Tryz.underlying37
 (repeat' first | ((with_reducible replace h := ite_some h); rcases h with ⟨hc, h⟩ | ⟨hc, h⟩ <;> first | exact (none_some h).elim | exact absurd hc (by decide) | subst hc | (replace hc := hF_ hc; subst hc) | (have hd := hI_ hc; have he := hJ_ hc; clear hc) | (have hd := hK_ hc; have he := hL_ hc) | (have hd := decide_eq_false hc) | (have hd := decide_eq_true hc) | skip))
 all_goals go_enter Tryz.func48, Tryz.ntmps48
 all_goals go_wp2_with ((first
  | ((with_reducible refine gate_dst (N := 2) rfl ?_); refine bV #[.slice A0_0 l0_0.length c0_0, .int .i64 a0_1, .slice A0_2 l0_2.length c0_2, .int .i64 a0_3, .int .i64 a0_4, .slice A0_5 l0_5.length c0_5] 37 fun g w1 j1 j2 j3 => ?_)
  | ((with_reducible refine gate_dst (N := 4) rfl ?_); refine bV #[.slice none 0 0, .int .i64 0, .slice none 0 0, .int .i64 0, .int .i64 0, .slice none 0 0] 37 fun g w1 j1 j2 j3 => ?_)
  | ((with_reducible refine gate_dst (N := 6) rfl ?_); refine bV #[.slice none 0 0, .int .i64 0, .slice none 0 0, .int .i64 0, .int .i64 0, .slice none 0 0] 37 fun g w1 j1 j2 j3 => ?_)
  | (go_at_call 45; replace h := bI h; obtain ⟨⟨t1, t2, t3, t4, t5, t6⟩, A, h⟩ := h; (try dsimp only at h); refine (spec_l38Copy.calls _ _ _ _ _ _ _ _ _ _ _ _ _ _ _ _ _ _ _ Rd.out LeI.out Rd.out LeI.out Rd.out LeI.out A).mono ?_; rintro e w2 ⟨v0, v1, v2, rfl, ho0, ho1, ho2, hb⟩; obtain ⟨B0, b0, rfl, j0, q0⟩ := rowS ho0; obtain ⟨B1, b1, rfl, j1, q1⟩ := rowS ho1; obtain ⟨B2, b2, rfl, j2, q2⟩ := rowS ho2; have jb := Bel.mk hb; clear A ho0 ho1 ho2 hb)
  | (go_at_call 37; replace h := bI h; obtain ⟨t, A, h⟩ := h; (try dsimp only at h); refine (spec_ShopOk.calls _ _ _ _ _ _ _ _ _ _ _ _ _ _ _ Rd.out LeI.out Rd.out LeI.out Rd.out LeI.out A).mono ?_; rintro e w2 ⟨rfl, hb⟩; have jb := Bel.mk hb; clear A hb)); (repeat' first | ((with_reducible replace h := ite_some h); rcases h with ⟨hc, h⟩ | ⟨hc, h⟩ <;> first | exact (none_some h).elim | exact absurd hc (by decide) | subst hc | (replace hc := hF_ hc; subst hc) | (have hd := hI_ hc; have he := hJ_ hc; clear hc) | (have hd := hK_ hc; have he := hL_ hc) | (have hd := decide_eq_false hc) | (have hd := decide_eq_true hc) | skip)))
 all_goals simp only [Option.some.injEq, Prod.mk.injEq] at h
 all_goals obtain ⟨rfl, rfl, rfl, rfl, rfl, rfl, rfl⟩ := h
 all_goals refine bodyPost_ret (results_ct rfl _ _ _ _ _ (0, 0) _ rfl Blk.out Tryz.underlying37 rfl (by kernel_rfl)) rfl ?_
 all_goals exact ⟨_, _, _, rfl, (by first | exact rowFin | exact Kd.R_nil _ _ _ _ _), (by first | exact rowFin | exact Kd.R_nil _ _ _ _ _), (by first | exact rowFin | exact Kd.R_nil _ _ _ _ _), From.out⟩
def spec_ShopFault.f (k : Nat) (l0_0 : List (S112)) (a0_1 : Int) (l0_2 : List Int) (a0_3 : Int) (a0_4 : Int) (l0_5 : List (S104)) (a1_0 : Int) (a1_1 : Int) (a2 : Int) : Option ((List (S112)) × Int × List Int × Int × Int × (List (S104)) × Bool) := (spec_l38Copy.f l0_0 a0_1 l0_2 a0_3 a0_4 l0_5).bind fun bt334 => ((spec_AddEntry.f k l0_5 a1_0 a1_1 a2 a0_4).bind fun bt347 => ((spec_ShopOk.f k l0_0 a0_1 l0_2 a0_3 a0_4 l0_5).bind fun t351 => (if t351 = true then (if bt347.2 = true then (some (bt334.1, bt334.2.1, bt334.2.2.1, bt334.2.2.2.1, bt334.2.2.2.2.1, bt347.1, true)) else (some (bt334.1, bt334.2.1, bt334.2.2.1, bt334.2.2.2.1, bt334.2.2.2.2.1, bt334.2.2.2.2.2, false))) else (some (bt334.1, bt334.2.1, bt334.2.2.1, bt334.2.2.2.1, bt334.2.2.2.2.1, bt334.2.2.2.2.2, false)))))
theorem spec_ShopFault.calls (k : Nat) (A0_0 : Option Addr) (c0_0 : Nat) (l0_0 : List (S112)) (a0_1 : Int) (A0_2 : Option Addr) (c0_2 : Nat) (l0_2 : List Int) (a0_3 : Int) (a0_4 : Int) (A0_5 : Option Addr) (c0_5 : Nat) (l0_5 : List (S104)) (a1_0 : Int) (a1_1 : Int) (a2 : Int) (r1 : List (S112)) (r2 : Int) (r3 : List Int) (r4 : Int) (r5 : Int) (r6 : List (S104)) (r7 : Bool) (w : World) (hr0_0 : Kd.C k112 w A0_0 l0_0.length l0_0) (hc0_0 : l0_0.length ≤ c0_0) (hr0_2 : Kd.C (Kd.int .i64) w A0_2 l0_2.length l0_2) (hc0_2 : l0_2.length ≤ c0_2) (hr0_5 : Kd.C k104 w A0_5 l0_5.length l0_5) (hc0_5 : l0_5.length ≤ c0_5) (h : spec_ShopFault.f k l0_0 a0_1 l0_2 a0_3 a0_4 l0_5 a1_0 a1_1 a2 = some (r1, r2, r3, r4, r5, r6, r7)) :
  Calls Tryz.prog 49 #[.agg #[.slice A0_0 l0_0.length c0_0, .int .i64 a0_1, .slice A0_2 l0_2.length c0_2, .int .i64 a0_3, .int .i64 a0_4, .slice A0_5 l0_5.length c0_5], .agg #[.int .i64 a1_0, .int .i64 a1_1], .int .i64 a2] w fun e w' => ∃ v0_ v2_ v5_ : Value, e = .returned (.tuple #[.agg #[v0_, .int .i64 r2, v2_, .int .i64 r4, .int .i64 r5, v5_], .bool r7]) ∧ Kd.R k112 112 w' w.heap.size (fun _ => True) v0_ r1 ∧ Kd.R (Kd.int .i64) 3 w' w.heap.size (fun _ => True) v2_ r3 ∧ Kd.R k104 104 w' w.heap.size (fun _ => True) v5_ r6 ∧ Below w.heap.size w w' := by
 replace hr0_0 := RdE.mk hr0_0
 replace hc0_0 := LeI.mk hc0_0
 replace hr0_2 := RdE.mk hr0_2
 replace hc0_2 := LeI.mk hc0_2
 replace hr0_5 := RdE.mk hr0_5
 replace hc0_5 := LeI.mk hc0_5
 unfold spec_ShopFault.f at h
 have hu37 := Tryz.underlying37
 have hu74 := Tryz.underlying74
 (repeat' first | ((with_reducible replace h := ite_some h); rcases h with ⟨hc, h⟩ | ⟨hc, h⟩ <;> first | exact (none_some h).elim | exact absurd hc (by decide) | subst hc | (replace hc := hF_ hc; subst hc) | (have hd := hI_ hc; have he := hJ_ hc; clear hc) | (have hd := hK_ hc; have he := hL_ hc) | (have hd := decide_eq_false hc) | (have hd := decide_eq_true hc) | skip))
 all_goals go_enter Tryz.func49, Tryz.ntmps49
 all_goals go_wp2_with ((first
  | ((with_reducible refine gate_dst (N := 3) rfl ?_); refine bV #[.slice A0_0 l0_0.length c0_0, .int .i64 a0_1, .slice A0_2 l0_2.length c0_2, .int .i64 a0_3, .int .i64 a0_4, .slice A0_5 l0_5.length c0_5] 37 fun g w1 j1 j2 j3 => ?_)
  | ((with_reducible refine gate_dst (N := 4) rfl ?_); refine bV #[.int .i64 a1_0, .int .i64 a1_1] 74 fun g w1 j1 j2 j3 => ?_)
  | ((with_reducible refine gate_dst (N := 6) rfl ?_); refine bV #[.slice none 0 0, .int .i64 0, .slice none 0 0, .int .i64 0, .int .i64 0, .slice none 0 0] 37 fun g w1 j1 j2 j3 => ?_)
  | ((with_reducible refine gate_dst (N := 8) rfl ?_); refine bV #[.slice none 0 0, .int .i64 0, .slice none 0 0, .int .i64 0, .int .i64 0, .slice none 0 0] 37 fun g w1 j1 j2 j3 => ?_)
  | (go_at_call 45; replace h := bI h; obtain ⟨⟨t1, t2, t3, t4, t5, t6⟩, A, h⟩ := h; (try dsimp only at h); refine (spec_l38Copy.calls _ _ _ _ _ _ _ _ _ _ _ _ _ _ _ _ _ _ _ Rd.out LeI.out Rd.out LeI.out Rd.out LeI.out A).mono ?_; rintro e w2 ⟨v0, v1, v2, rfl, ho0, ho1, ho2, hb⟩; obtain ⟨B0, b0, rfl, j0, q0⟩ := rowS ho0; obtain ⟨B1, b1, rfl, j1, q1⟩ := rowS ho1; obtain ⟨B2, b2, rfl, j2, q2⟩ := rowS ho2; have jb := Bel.mk hb; clear A ho0 ho1 ho2 hb)
  | (go_at_call 99; replace h := bI h; obtain ⟨⟨t1, t2⟩, A, h⟩ := h; (try dsimp only at h); refine (spec_AddEntry.calls _ _ _ _ _ _ _ _ _ _ _ Rd.out LeI.out A).mono ?_; rintro e w2 ⟨v0, rfl, ho0, hb⟩; obtain ⟨B0, b0, rfl, j0, q0⟩ := rowS ho0; have jb := Bel.mk hb; clear A ho0 hb)
  | (go_at_call 37; replace h := bI h; obtain ⟨t, A, h⟩ := h; (try dsimp only at h); refine (spec_ShopOk.calls _ _ _ _ _ _ _ _ _ _ _ _ _ _ _ Rd.out LeI.out Rd.out LeI.out Rd.out LeI.out A).mono ?_; rintro e w2 ⟨rfl, hb⟩; have jb := Bel.mk hb; clear A hb)); (repeat' first | ((with_reducible replace h := ite_some h); rcases h with ⟨hc, h⟩ | ⟨hc, h⟩ <;> first | exact (none_some h).elim | exact absurd hc (by decide) | subst hc | (replace hc := hF_ hc; subst hc) | (have hd := hI_ hc; have he := hJ_ hc; clear hc) | (have hd := hK_ hc; have he := hL_ hc) | (have hd := decide_eq_false hc) | (have hd := decide_eq_true hc) | skip)))
 all_goals simp only [Option.some.injEq, Prod.mk.injEq] at h
 all_goals obtain ⟨rfl, rfl, rfl, rfl, rfl, rfl, rfl⟩ := h
 all_goals refine bodyPost_ret (results_ct rfl _ _ _ _ _ (0, 0) _ rfl Blk.out Tryz.underlying37 rfl (by kernel_rfl)) rfl ?_
 all_goals exact ⟨_, _, _, rfl, (by first | exact rowFin | exact Kd.R_nil _ _ _ _ _), (by first | exact rowFin | exact Kd.R_nil _ _ _ _ _), (by first | exact rowFin | exact Kd.R_nil _ _ _ _ _), From.out⟩
def spec_ShopKnock.f (k : Nat) (l0_0 : List (S112)) (a0_1 : Int) (l0_2 : List Int) (a0_3 : Int) (a0_4 : Int) (l0_5 : List (S104)) (a1 : Int) (a2 : Int) : Option ((List (S112)) × Int × List Int × Int × Int × (List (S104)) × Bool) := (spec_l38Copy.f l0_0 a0_1 l0_2 a0_3 a0_4 l0_5).bind fun bt378 => ((spec_ShopOk.f k l0_0 a0_1 l0_2 a0_3 a0_4 l0_5).bind fun t391 => (if t391 = true then ((spec_KnockKey.f k l0_0 a0_1 l0_2 a1 a2).bind fun bt392 => (some (bt392.1, bt392.2.1, bt392.2.2.1, bt378.2.2.2.1, bt378.2.2.2.2.1, bt378.2.2.2.2.2, bt392.2.2.2))) else (some (bt378.1, bt378.2.1, bt378.2.2.1, bt378.2.2.2.1, bt378.2.2.2.2.1, bt378.2.2.2.2.2, false))))
theorem spec_ShopKnock.calls (k : Nat) (A0_0 : Option Addr) (c0_0 : Nat) (l0_0 : List (S112)) (a0_1 : Int) (A0_2 : Option Addr) (c0_2 : Nat) (l0_2 : List Int) (a0_3 : Int) (a0_4 : Int) (A0_5 : Option Addr) (c0_5 : Nat) (l0_5 : List (S104)) (a1 : Int) (a2 : Int) (r1 : List (S112)) (r2 : Int) (r3 : List Int) (r4 : Int) (r5 : Int) (r6 : List (S104)) (r7 : Bool) (w : World) (hr0_0 : Kd.C k112 w A0_0 l0_0.length l0_0) (hc0_0 : l0_0.length ≤ c0_0) (hr0_2 : Kd.C (Kd.int .i64) w A0_2 l0_2.length l0_2) (hc0_2 : l0_2.length ≤ c0_2) (hr0_5 : Kd.C k104 w A0_5 l0_5.length l0_5) (hc0_5 : l0_5.length ≤ c0_5) (h : spec_ShopKnock.f k l0_0 a0_1 l0_2 a0_3 a0_4 l0_5 a1 a2 = some (r1, r2, r3, r4, r5, r6, r7)) :
  Calls Tryz.prog 50 #[.agg #[.slice A0_0 l0_0.length c0_0, .int .i64 a0_1, .slice A0_2 l0_2.length c0_2, .int .i64 a0_3, .int .i64 a0_4, .slice A0_5 l0_5.length c0_5], .int .i64 a1, .int .i64 a2] w fun e w' => ∃ v0_ v2_ v5_ : Value, e = .returned (.tuple #[.agg #[v0_, .int .i64 r2, v2_, .int .i64 r4, .int .i64 r5, v5_], .bool r7]) ∧ Kd.R k112 112 w' w.heap.size (fun _ => True) v0_ r1 ∧ Kd.R (Kd.int .i64) 3 w' w.heap.size (fun _ => True) v2_ r3 ∧ Kd.R k104 104 w' w.heap.size (fun _ => True) v5_ r6 ∧ Below w.heap.size w w' := by
 replace hr0_0 := RdE.mk hr0_0
 replace hc0_0 := LeI.mk hc0_0
 replace hr0_2 := RdE.mk hr0_2
 replace hc0_2 := LeI.mk hc0_2
 replace hr0_5 := RdE.mk hr0_5
 replace hc0_5 := LeI.mk hc0_5
 unfold spec_ShopKnock.f at h
 have hu34 := Tryz.underlying34
 have hu37 := Tryz.underlying37
 (repeat' first | ((with_reducible replace h := ite_some h); rcases h with ⟨hc, h⟩ | ⟨hc, h⟩ <;> first | exact (none_some h).elim | exact absurd hc (by decide) | subst hc | (replace hc := hF_ hc; subst hc) | (have hd := hI_ hc; have he := hJ_ hc; clear hc) | (have hd := hK_ hc; have he := hL_ hc) | (have hd := decide_eq_false hc) | (have hd := decide_eq_true hc) | skip))
 all_goals go_enter Tryz.func50, Tryz.ntmps50
 all_goals go_wp2_with ((first
  | ((with_reducible refine gate_dst (N := 3) rfl ?_); refine bV #[.slice A0_0 l0_0.length c0_0, .int .i64 a0_1, .slice A0_2 l0_2.length c0_2, .int .i64 a0_3, .int .i64 a0_4, .slice A0_5 l0_5.length c0_5] 37 fun g w1 j1 j2 j3 => ?_)
  | ((with_reducible refine gate_dst (N := 6) rfl ?_); refine bV #[.slice none 0 0, .int .i64 0, .slice none 0 0, .int .i64 0, .int .i64 0, .slice none 0 0] 37 fun g w1 j1 j2 j3 => ?_)
  | ((with_reducible refine gate_dst (N := 8) rfl ?_); refine bV #[.slice none 0 0, .int .i64 0, .slice none 0 0, .int .i64 0, .int .i64 0, .slice none 0 0] 37 fun g w1 j1 j2 j3 => ?_)
  | ((with_reducible refine gate_dst (N := 9) rfl ?_); refine bV #[.slice none 0 0, .int .i64 0, .slice none 0 0] 34 fun g w1 j1 j2 j3 => ?_)
  | (go_at_call 45; replace h := bI h; obtain ⟨⟨t1, t2, t3, t4, t5, t6⟩, A, h⟩ := h; (try dsimp only at h); refine (spec_l38Copy.calls _ _ _ _ _ _ _ _ _ _ _ _ _ _ _ _ _ _ _ Rd.out LeI.out Rd.out LeI.out Rd.out LeI.out A).mono ?_; rintro e w2 ⟨v0, v1, v2, rfl, ho0, ho1, ho2, hb⟩; obtain ⟨B0, b0, rfl, j0, q0⟩ := rowS ho0; obtain ⟨B1, b1, rfl, j1, q1⟩ := rowS ho1; obtain ⟨B2, b2, rfl, j2, q2⟩ := rowS ho2; have jb := Bel.mk hb; clear A ho0 ho1 ho2 hb)
  | (go_at_call 37; replace h := bI h; obtain ⟨t, A, h⟩ := h; (try dsimp only at h); refine (spec_ShopOk.calls _ _ _ _ _ _ _ _ _ _ _ _ _ _ _ Rd.out LeI.out Rd.out LeI.out Rd.out LeI.out A).mono ?_; rintro e w2 ⟨rfl, hb⟩; have jb := Bel.mk hb; clear A hb)
  | (go_at_call 100; replace h := bI h; obtain ⟨⟨t1, t2, t3, t4⟩, A, h⟩ := h; (try dsimp only at h); refine (spec_KnockKey.calls _ _ _ _ _ _ _ _ _ _ _ _ _ _ _ Rd.out LeI.out Rd.out LeI.out A).mono ?_; rintro e w2 ⟨v0, v1, rfl, ho0, ho1, hb⟩; obtain ⟨B0, b0, rfl, j0, q0⟩ := rowS ho0; obtain ⟨B1, b1, rfl, j1, q1⟩ := rowS ho1; have jb := Bel.mk hb; clear A ho0 ho1 hb)); (repeat' first | ((with_reducible replace h := ite_some h); rcases h with ⟨hc, h⟩ | ⟨hc, h⟩ <;> first | exact (none_some h).elim | exact absurd hc (by decide) | subst hc | (replace hc := hF_ hc; subst hc) | (have hd := hI_ hc; have he := hJ_ hc; clear hc) | (have hd := hK_ hc; have he := hL_ hc) | (have hd := decide_eq_false hc) | (have hd := decide_eq_true hc) | skip)))
 all_goals simp only [Option.some.injEq, Prod.mk.injEq] at h
 all_goals obtain ⟨rfl, rfl, rfl, rfl, rfl, rfl, rfl⟩ := h
 all_goals refine bodyPost_ret (results_ct rfl _ _ _ _ _ (0, 0) _ rfl Blk.out Tryz.underlying37 rfl (by kernel_rfl)) rfl ?_
 all_goals exact ⟨_, _, _, rfl, (by first | exact rowFin | exact Kd.R_nil _ _ _ _ _), (by first | exact rowFin | exact Kd.R_nil _ _ _ _ _), (by first | exact rowFin | exact Kd.R_nil _ _ _ _ _), From.out⟩
end Go.Proofs.YtanhnhkcpbdfmaaGreat.P
namespace Go.Proofs.YtanhnhkcpbdfmaaGreat.P
set_option maxHeartbeats 8000000
set_option maxRecDepth 100000
open Go.RowKit Go.Proofs.YtanhnhkcpbdfmaaGreatW.PrintWords Go.Proofs.YtanhnhkcpbdfmaaGreatW.PrintLast Go.Proofs.YtanhnhkcpbdfmaaGreatW.PrintMore
attribute [local go_sem] max2_int min2_int max_two min_two max_three min_three max_four min_four
def spec_l38Shop.l0 : Nat → Int → Int → List Int → Int → Int → List (S112) → Int → List Int → Int → Int → List (S104) → Option ((List (S112)) × Int × List Int × Int × Int × (List (S104)) × Int × Int)
 | 0, _, _, _, _, _, _, _, _, _, _, _ => none
 | k + 1, x5, x6, x1000, x1001, x1002, x1679000, x1679001, x1679002, x1679003, x1679004, x1679005 => if x6 < x5 then ((spec_l01Below.f x1000 x1001 x1002 8).bind fun bt1682 => (if bt1682.1 = 0 then ((spec_l01Below.f x1000 bt1682.2.1 bt1682.2.2 30).bind fun bt1685 => ((spec_ShopWarm.f k x1679000 x1679001 x1679002 x1679003 x1679004 x1679005 bt1685.1).bind fun bt1688 => (spec_l38Shop.l0 k x5 (wrap64 (x6 + 1)) x1000 bt1685.2.1 bt1685.2.2 bt1688.1 bt1688.2.1 bt1688.2.2.1 bt1688.2.2.2.1 bt1688.2.2.2.2.1 bt1688.2.2.2.2.2.1))) else (if bt1682.1 = 1 then ((spec_l34Pipe.f x1000 bt1682.2.1 bt1682.2.2).bind fun bt1701 => ((spec_l01Below.f x1000 bt1701.2.2.1 bt1701.2.2.2 3).bind fun bt1706 => ((spec_ShopFault.f k x1679000 x1679001 x1679002 x1679003 x1679004 x1679005 bt1701.1 bt1701.2.1 bt1706.1).bind fun bt1709 => (spec_l38Shop.l0 k x5 (wrap64 (x6 + 1)) x1000 bt1706.2.1 bt1706.2.2 bt1709.1 bt1709.2.1 bt1709.2.2.1 bt1709.2.2.2.1 bt1709.2.2.2.2.1 bt1709.2.2.2.2.2.1)))) else (if bt1682.1 = 2 then ((spec_l01Below.f x1000 bt1682.2.1 bt1682.2.2 12).bind fun bt1722 => ((spec_l01Below.f x1000 bt1722.2.1 bt1722.2.2 2001).bind fun bt1725 => ((spec_ShopKnock.f k x1679000 x1679001 x1679002 x1679003 x1679004 x1679005 bt1722.1 (wrap64 (bt1725.1 - 1000))).bind fun bt1728 => (spec_l38Shop.l0 k x5 (wrap64 (x6 + 1)) x1000 bt1725.2.1 bt1725.2.2 bt1728.1 bt1728.2.1 bt1728.2.2.1 bt1728.2.2.2.1 bt1728.2.2.2.2.1 bt1728.2.2.2.2.2.1)))) else ((spec_ShopTune.f k x1679000 x1679001 x1679002 x1679003 x1679004 x1679005).bind fun bt1741 => (spec_l38Shop.l0 k x5 (wrap64 (x6 + 1)) x1000 bt1682.2.1 bt1682.2.2 bt1741.1 bt1741.2.1 bt1741.2.2.1 bt1741.2.2.2.1 bt1741.2.2.2.2.1 bt1741.2.2.2.2.2.1)))))) else (some (x1679000, x1679001, x1679002, x1679003, x1679004, x1679005, x1001, x1002))
def spec_l38Shop.f (k : Nat) (s0_0 : List Int) (s0_1 : Int) (s0_2 : Int) : Option ((List (S112)) × Int × List Int × Int × Int × (List (S104)) × Int × Int) := (spec_l01Below.f s0_0 s0_1 s0_2 100000).bind fun bt1657 => ((spec_l19Plan.f k s0_0 bt1657.2.1 bt1657.2.2).bind fun bt1660 => ((spec_NewShop.f k (wrap64 (200000 + bt1657.1)) bt1660.1).bind fun bt1665 => ((spec_l01Below.f s0_0 bt1660.2.1 bt1660.2.2 20).bind fun bt1679 => (spec_l38Shop.l0 k bt1679.1 0 s0_0 bt1679.2.1 bt1679.2.2 bt1665.1 bt1665.2.1 bt1665.2.2.1 bt1665.2.2.2.1 bt1665.2.2.2.2.1 bt1665.2.2.2.2.2.1))))
def spec_l38Shop.T9 : Bool × List (List Nat × List Nat) := (true, [([], []), ([], []), ([1], [1]), ([0, 2, 2], [0, 2]), ([3], [3]), ([4], [4]), ([4], [4]), ([5, 3, 0, 1, 2, 3, 4, 5], [5])])
def spec_l38Shop.B9 : List Nat := [0, 0, 2, 7, 15, 31, 31, 63]
theorem spec_l38Shop.tab9 : rtab .any (opsOf Tryz.f117 9) = spec_l38Shop.T9 := by kernel_rfl
theorem spec_l38Shop.bits9 : waitsOk spec_l38Shop.T9.2 spec_l38Shop.B9 = true := by kernel_rfl
def spec_l38Shop.T12 : Bool × List (List Nat × List Nat) := (true, [([], []), ([], []), ([], []), ([2], [2]), ([0, 1, 3, 3], [0, 1, 3]), ([4], [4]), ([5], [5]), ([5], [5]), ([6, 4, 0, 1, 2, 3, 4, 5, 6], [6])])
def spec_l38Shop.B12 : List Nat := [0, 0, 0, 4, 15, 31, 63, 63, 127]
theorem spec_l38Shop.tab12 : rtab .any (opsOf Tryz.f117 12) = spec_l38Shop.T12 := by kernel_rfl
theorem spec_l38Shop.bits12 : waitsOk spec_l38Shop.T12.2 spec_l38Shop.B12 = true := by kernel_rfl
def spec_l38Shop.T15 : Bool × List (List Nat × List Nat) := (true, [([], []), ([], []), ([], []), ([2], [2]), ([3], [3]), ([0, 1, 4, 3], [0, 1, 4]), ([5], [5]), ([6], [6]), ([6], [6]), ([7, 5, 0, 1, 2, 3, 4, 5, 6, 7], [7])])
def spec_l38Shop.B15 : List Nat := [0, 0, 0, 4, 12, 31, 63, 127, 127, 255]
theorem spec_l38Shop.tab15 : rtab .any (opsOf Tryz.f117 15) = spec_l38Shop.T15 := by kernel_rfl
theorem spec_l38Shop.bits15 : waitsOk spec_l38Shop.T15.2 spec_l38Shop.B15 = true := by kernel_rfl
theorem spec_l38Shop.calls (k : Nat) (g : Nat) (s0_0 : List Int) (s0_1 : Int) (s0_2 : Int) (r1 : List (S112)) (r2 : Int) (r3 : List Int) (r4 : Int) (r5 : Int) (r6 : List (S104)) (r7 : Int) (r8 : Int) (w0 w : World) (hI : IsS132 w0 w g s0_0 s0_1 s0_2) (hB : Below w0.heap.size w0 w) (h : spec_l38Shop.f k s0_0 s0_1 s0_2 = some (r1, r2, r3, r4, r5, r6, r7, r8)) :
  Calls Tryz.prog 117 #[.pointer (some ⟨g, 0, none⟩)] w fun e w' => ∃ v0_ v2_ v5_ : Value, e = .returned (.agg #[v0_, .int .i64 r2, v2_, .int .i64 r4, .int .i64 r5, v5_]) ∧ Kd.R k112 112 w' w.heap.size (fun _ => True) v0_ r1 ∧ Kd.R (Kd.int .i64) 3 w' w.heap.size (fun _ => True) v2_ r3 ∧ Kd.R k104 104 w' w.heap.size (fun _ => True) v5_ r6 ∧ IsS132 w0 w' g s0_0 r7 r8 ∧ Below w0.heap.size w0 w' ∧ KeepBut w w' g none := by
 have hu37 := Tryz.underlying37
 have hu74 := Tryz.underlying74
 have HI0 := A_ hI
 have HK := A_ (KeepBut.refl w g none)
 have HL := A_ hB.size
 clear hI
 have HW0 := A_ hB.size
 have HB := A_ hB
 clear hB
 have H : ((spec_l01Below.f s0_0 s0_1 s0_2 100000).bind fun bt1657 => ((spec_l19Plan.f k s0_0 bt1657.2.1 bt1657.2.2).bind fun bt1660 => ((spec_NewShop.f k (wrap64 (200000 + bt1657.1)) bt1660.1).bind fun bt1665 => ((spec_l01Below.f s0_0 bt1660.2.1 bt1660.2.2 20).bind fun bt1679 => (spec_l38Shop.l0 k bt1679.1 0 s0_0 bt1679.2.1 bt1679.2.2 bt1665.1 bt1665.2.1 bt1665.2.2.1 bt1665.2.2.2.1 bt1665.2.2.2.2.1 bt1665.2.2.2.2.2.1))))) = some (r1, r2, r3, r4, r5, r6, r7, r8) := h
 clear h
 replace H := Option.bind_eq_some_iff.mp H
 obtain ⟨⟨t1657, t1658, t1659⟩, A20, H⟩ := H
 (try dsimp only at H)
 have A2 := A_ A20
 clear A20
 replace H := Option.bind_eq_some_iff.mp H
 obtain ⟨⟨t1660, t1663, t1664⟩, A30, H⟩ := H
 (try dsimp only at H)
 have A3 := A_ A30
 clear A30
 replace H := Option.bind_eq_some_iff.mp H
 obtain ⟨⟨t1665, t1668, t1669, t1672, t1673, t1674, t1677⟩, A40, H⟩ := H
 (try dsimp only at H)
 have A4 := A_ A40
 clear A40
 replace H := Option.bind_eq_some_iff.mp H
 obtain ⟨⟨t1679, t1680, t1681⟩, A50, H⟩ := H
 (try dsimp only at H)
 have A5 := A_ A50
 clear A50
 have H' := A_ H
 clear H
 go_enter Tryz.func117, Tryz.ntmps117
 go_wp2_with (first | ((with_reducible refine gate_dst (N := 2) rfl ?_); refine bX (N := 2) (cs := #[.slice none 0 0, .int .i64 0, .slice none 0 0, .int .i64 0, .int .i64 0, .slice none 0 0]) (t := 37) ?_; intro gb1656 hg w6 hbox hb; have n0_ := A_ (IsS132.below (oI132 HI0) hb); have n1_ := A_ (KeepBut.trans (oKe HK) (KeepBut.of_below hb g none) (.inl rfl)); have n2_ := A_ (below_step (oB132 HB) hb); have n3_ := A_ (hbox); have n4_ := A_ ((by rw [hg]; exact (keep_size (w := w) (g := g) (row := none) (by repeat (first | (with_reducible first | exact HK.out | apply KeepBut.set_ | apply keep_drewN | apply keep_drew | apply keep_alloc) | exact HK.out))) : w.heap.size ≤ gb1656)); have n5_ := A_ ((Nat.le_trans HW0.out (by rw [hg]; exact (keep_size (w := w) (g := g) (row := none) (by repeat (first | (with_reducible first | exact HK.out | apply KeepBut.set_ | apply keep_drewN | apply keep_drew | apply keep_alloc) | exact HK.out))) : w.heap.size ≤ gb1656) : w0.heap.size ≤ gb1656)); have n6_ := A_ ((by rw [hg]; exact Nat.ne_of_lt (IsS132.lt (show IsS132 w0 _ g s0_0 s0_1 s0_2 from oI132 HI0)) : g ≠ gb1656)); have n7_ := A_ ((by rw [hg]; exact Nat.ne_of_gt (IsS132.lt (show IsS132 w0 _ g s0_0 s0_1 s0_2 from oI132 HI0)) : gb1656 ≠ g)); clear HI0; clear HK; clear HB; have HI0 := n0_; have HK := n1_; have HB := n2_; have BK1656 := n3_; have GW1656 := n4_; have GE1656 := n5_; have NB0_1656 := n6_; have NB1656_0 := n7_; clear n0_ n1_ n2_ n3_ n4_ n5_ n6_ n7_; clear hb hbox hg) | ((with_reducible refine gate_callee (f := 75) rfl ?_); refine gL (some 11) Tryz.func75 #[.pointer (some ⟨g, 0, none⟩), .int .i64 100000] ?_; (with_reducible refine (spec_l01Below.calls g s0_0 s0_1 s0_2 100000 t1657 t1658 t1659 w0 _ ?side1 ?side2 A2.out).mono ?_); (case side1 => exact oI132 HI0); (case side2 => exact oB132 HB); rintro e w7 ⟨rfl, hi, hb, hk⟩; refine ⟨_, rfl, ?_⟩; have n0_ := A_ (KeepBut.blk hk (g' := gb1656) (o := .cells #[.slice none 0 0, .int .i64 0, .slice none 0 0, .int .i64 0, .int .i64 0, .slice none 0 0] 37 (0, 0)) (oK BK1656) NB1656_0.out (by simp)); have n1_ := A_ (KeepBut.trans (oKe HK) hk (.inl rfl)); have n2_ := A_ (hb); have n3_ := A_ (hi); clear BK1656; clear HK; clear HB; clear HI0; have BK1656 := n0_; have HK := n1_; have HB := n2_; have HI0 := n3_; clear n0_ n1_ n2_ n3_; (try clear hb); (try clear hb2); (try clear hk); (try clear hi)) | ((with_reducible refine gate_callee (f := 137) rfl ?_); refine gL (some 14) Tryz.func137 #[.pointer (some ⟨g, 0, none⟩)] ?_; (with_reducible refine (spec_l19Plan.calls k g s0_0 t1658 t1659 t1660 t1663 t1664 w0 _ ?side1 ?side2 A3.out).mono ?_); (case side1 => exact oI132 HI0); (case side2 => exact oB132 HB); rintro e w8 ⟨v1661, rfl, ho0, hi, hb, hk⟩; refine ⟨_, rfl, ?_⟩; have n0_ := A_ (KeepBut.blk hk (g' := gb1656) (o := .cells #[.slice none 0 0, .int .i64 0, .slice none 0 0, .int .i64 0, .int .i64 0, .slice none 0 0] 37 (0, 0)) (oK BK1656) NB1656_0.out (by simp)); have n1_ := A_ (Kd.R_lower ho0 (keep_size (w := w) (g := g) (row := none) (by repeat (first | (with_reducible first | exact HK.out | apply KeepBut.set_ | apply keep_drewN | apply keep_drew | apply keep_alloc | refine keep_far ?_ GW1656.out _) | exact HK.out)))); have n2_ := A_ (KeepBut.trans (oKe HK) hk (.inl rfl)); have n3_ := A_ (hb); have n4_ := A_ (hi); clear BK1656; clear HK; clear HB; clear HI0; have BK1656 := n0_; have HO1662 := n1_; have HK := n2_; have HB := n3_; have HI0 := n4_; clear n0_ n1_ n2_ n3_ n4_; (try clear hb); (try clear hb2); (try clear hk); (try clear hi); (try clear ho0); obtain ⟨Ao9, co9, eo9⟩ := Kd.R_slice HO1662.out; subst eo9) | ((with_reducible refine gate_callee (f := 135) rfl ?_); refine gL (some 15) Tryz.func135 #[.int .i64 (wrap64 (200000 + t1657)), .slice Ao9 t1660.length co9] ?_; (with_reducible refine (spec_NewShop.calls k (wrap64 (200000 + t1657)) _ _ t1660 t1665 t1668 t1669 t1672 t1673 t1674 t1677 _ ?side1 ?side2 A4.out).mono ?_); (case side1 => repeat (first | exact (Kd.R_reads' HO1662.out).2.2 | (with_reducible refine Kd.C_alloc ?_ _) | (with_reducible refine Kd.C_drewN ?_ _) | (with_reducible refine Kd.C_drew ?_))); (case side2 => exact (Kd.R_reads' HO1662.out).2.1); rintro e w10 ⟨v1666, v1670, v1675, rfl, ho0, ho1, ho2, hb⟩; refine ⟨_, rfl, ?_⟩; have n0_ := A_ (Kd.R_elder' (oR HO1662) (Kd.R_base ho0) hb); have n1_ := A_ (Kd.R_lower (Kd.R_new' ho0 (Kd.R_lt (oR HO1662))) (keep_size (w := w) (g := g) (row := none) (by repeat (first | (with_reducible first | exact HK.out | apply KeepBut.set_ | apply keep_drewN | apply keep_drew | apply keep_alloc | refine keep_far ?_ GW1656.out _) | exact HK.out)))); have n2_ := A_ (Kd.R_lower ho1 (keep_size (w := w) (g := g) (row := none) (by repeat (first | (with_reducible first | exact HK.out | apply KeepBut.set_ | apply keep_drewN | apply keep_drew | apply keep_alloc | refine keep_far ?_ GW1656.out _) | exact HK.out)))); have n3_ := A_ (Kd.R_lower ho2 (keep_size (w := w) (g := g) (row := none) (by repeat (first | (with_reducible first | exact HK.out | apply KeepBut.set_ | apply keep_drewN | apply keep_drew | apply keep_alloc | refine keep_far ?_ GW1656.out _) | exact HK.out)))); have n4_ := A_ (IsS132.below (oI132 HI0) hb); have n5_ := A_ (bb BK1656 hb); have n6_ := A_ (KeepBut.trans (oKe HK) (KeepBut.of_below hb g none) (.inl rfl)); have n7_ := A_ (below_step (oB132 HB) hb); clear HO1662; clear HI0; clear BK1656; clear HK; clear HB; have HO1662 := n0_; have HO1667 := n1_; have HO1671 := n2_; have HO1676 := n3_; have HI0 := n4_; have BK1656 := n5_; have HK := n6_; have HB := n7_; clear n0_ n1_ n2_ n3_ n4_ n5_ n6_ n7_; (try clear hb); (try clear hb2); (try clear hk); (try clear hi); (try clear ho0); (try clear ho1); (try clear ho2)) | ((with_reducible refine gate_dst (N := 3) rfl ?_); refine bX (N := 3) (cs := #[.slice none 0 0, .int .i64 0, .slice none 0 0, .int .i64 0, .int .i64 0, .slice none 0 0]) (t := 37) ?_; intro gb1678 hg w11 hbox hb; have n0_ := A_ (Kd.R_below (oR HO1662) hb); have n1_ := A_ (Kd.R_below (oR HO1667) hb); have n2_ := A_ (Kd.R_below (oR HO1671) hb); have n3_ := A_ (Kd.R_below (oR HO1676) hb); have n4_ := A_ (IsS132.below (oI132 HI0) hb); have n5_ := A_ (bb BK1656 hb); have n6_ := A_ (KeepBut.trans (oKe HK) (KeepBut.of_below hb g none) (.inl rfl)); have n7_ := A_ (below_step (oB132 HB) hb); have n8_ := A_ (hbox); have n9_ := A_ ((by rw [hg]; exact (keep_size (w := w) (g := g) (row := none) (by repeat (first | (with_reducible first | exact HK.out | apply KeepBut.set_ | apply keep_drewN | apply keep_drew | apply keep_alloc | refine keep_far ?_ GW1656.out _) | exact HK.out))) : w.heap.size ≤ gb1678)); have n10_ := A_ ((Nat.le_trans HW0.out (by rw [hg]; exact (keep_size (w := w) (g := g) (row := none) (by repeat (first | (with_reducible first | exact HK.out | apply KeepBut.set_ | apply keep_drewN | apply keep_drew | apply keep_alloc | refine keep_far ?_ GW1656.out _) | exact HK.out))) : w.heap.size ≤ gb1678) : w0.heap.size ≤ gb1678)); have n11_ := A_ (nL BK1656 hg); have n12_ := A_ (nG BK1656 hg); have n13_ := A_ ((by rw [hg]; exact Nat.ne_of_lt (IsS132.lt (show IsS132 w0 _ g s0_0 t1663 t1664 from oI132 HI0)) : g ≠ gb1678)); have n14_ := A_ ((by rw [hg]; exact Nat.ne_of_gt (IsS132.lt (show IsS132 w0 _ g s0_0 t1663 t1664 from oI132 HI0)) : gb1678 ≠ g)); clear HO1662; clear HO1667; clear HO1671; clear HO1676; clear HI0; clear BK1656; clear HK; clear HB; have HO1662 := n0_; have HO1667 := n1_; have HO1671 := n2_; have HO1676 := n3_; have HI0 := n4_; have BK1656 := n5_; have HK := n6_; have HB := n7_; have BK1678 := n8_; have GW1678 := n9_; have GE1678 := n10_; have NB1656_1678 := n11_; have NB1678_1656 := n12_; have NB0_1678 := n13_; have NB1678_0 := n14_; clear n0_ n1_ n2_ n3_ n4_ n5_ n6_ n7_ n8_ n9_ n10_ n11_ n12_ n13_ n14_; clear hb hbox hg; obtain ⟨Ao12, co12, eo12⟩ := Kd.R_slice HO1667.out; subst eo12; have hnb13 := NB1678_1656.out; have hnc13 := NB1656_1678.out; have hnb14 := NB1678_0.out; have hnc14 := NB0_1678.out; have hcz15_0 := cz BK1678 0; have hcz15_1 := cz BK1678 1; have hcz15_2 := cz BK1678 2; have hcz15_3 := cz BK1678 3; have hcz15_4 := cz BK1678 4; have hcz15_5 := cz BK1678 5; have hfz15_0 := blk_frozen BK1678.out 0; have hfz15_1 := blk_frozen BK1678.out 1; have hfz15_2 := blk_frozen BK1678.out 2; have hfz15_3 := blk_frozen BK1678.out 3; have hfz15_4 := blk_frozen BK1678.out 4; have hfz15_5 := blk_frozen BK1678.out 5; obtain ⟨Ao16, co16, eo16⟩ := Kd.R_slice HO1671.out; subst eo16; obtain ⟨Ao17, co17, eo17⟩ := Kd.R_slice HO1676.out; subst eo17) | ((with_reducible refine gate_callee (f := 75) rfl ?_); refine gL (some 19) Tryz.func75 #[.pointer (some ⟨g, 0, none⟩), .int .i64 20] ?_; (with_reducible refine (spec_l01Below.calls g s0_0 t1663 t1664 20 t1679 t1680 t1681 w0 _ ?side1 ?side2 A5.out).mono ?_); (case side1 => exact oI132 HI0); (case side2 => exact oB132 HB); rintro e w18 ⟨rfl, hi, hb, hk⟩; refine ⟨_, rfl, ?_⟩; have n0_ := A_ (KeepBut.blk hk (g' := gb1656) (o := .cells #[.slice none 0 0, .int .i64 0, .slice none 0 0, .int .i64 0, .int .i64 0, .slice none 0 0] 37 (0, 0)) (by (with_reducible repeat (first | refine blk_drewN ?_ _ | refine blk_drew ?_ | refine blk_alloc ?_ _)); refine blk_far ?_ NB1656_1678.out _; (with_reducible repeat (first | refine blk_drewN ?_ _ | refine blk_drew ?_ | refine blk_alloc ?_ _)); refine blk_far ?_ NB1656_1678.out _; (with_reducible repeat (first | refine blk_drewN ?_ _ | refine blk_drew ?_ | refine blk_alloc ?_ _)); refine blk_far ?_ NB1656_1678.out _; (with_reducible repeat (first | refine blk_drewN ?_ _ | refine blk_drew ?_ | refine blk_alloc ?_ _)); refine blk_far ?_ NB1656_1678.out _; (with_reducible repeat (first | refine blk_drewN ?_ _ | refine blk_drew ?_ | refine blk_alloc ?_ _)); refine blk_far ?_ NB1656_1678.out _; (with_reducible repeat (first | refine blk_drewN ?_ _ | refine blk_drew ?_ | refine blk_alloc ?_ _)); refine blk_far ?_ NB1656_1678.out _; (with_reducible repeat (first | refine blk_drewN ?_ _ | refine blk_drew ?_ | refine blk_alloc ?_ _)); exact BK1656.out) NB1656_0.out (by simp)); have n1_ := A_ (Kd.R_mono (Kd.R_keep (IsS132.apart (show IsS132 w0 _ g s0_0 t1663 t1664 from oI132 HI0) (by (with_reducible repeat (first | apply Kd.R_alloc | apply Kd.R_drewN | apply Kd.R_drew)); exact (Kd.R_mono (Kd.R_far (p := ⟨gb1678, 5, none⟩) (Kd.R_far (p := ⟨gb1678, 4, none⟩) (Kd.R_far (p := ⟨gb1678, 3, none⟩) (Kd.R_far (p := ⟨gb1678, 2, none⟩) (Kd.R_far (p := ⟨gb1678, 1, none⟩) (Kd.R_far (p := ⟨gb1678, 0, none⟩) (Kd.R_types HO1662.out BK1678.out (by decide)) (fun _ hk => hk.2) (.slice Ao12 t1665.length co12)) (fun _ hk => hk.2) (.int .i64 t1668)) (fun _ hk => hk.2) (.slice Ao16 t1669.length co16)) (fun _ hk => hk.2) (.int .i64 t1672)) (fun _ hk => hk.2) (.int .i64 t1673)) (fun _ hk => hk.2) (.slice Ao17 t1674.length co17)) (fun _ h_ => h_.1))) (by decide)) hk (fun _ h => h.2)) (fun _ h => h.1)); have n2_ := A_ (Kd.R_mono (Kd.R_keep (IsS132.apart (show IsS132 w0 _ g s0_0 t1663 t1664 from oI132 HI0) (by (with_reducible repeat (first | apply Kd.R_alloc | apply Kd.R_drewN | apply Kd.R_drew)); exact (Kd.R_mono (Kd.R_far (p := ⟨gb1678, 5, none⟩) (Kd.R_far (p := ⟨gb1678, 4, none⟩) (Kd.R_far (p := ⟨gb1678, 3, none⟩) (Kd.R_far (p := ⟨gb1678, 2, none⟩) (Kd.R_far (p := ⟨gb1678, 1, none⟩) (Kd.R_far (p := ⟨gb1678, 0, none⟩) (Kd.R_types HO1667.out BK1678.out (by decide)) (fun _ hk => hk.2) (.slice Ao12 t1665.length co12)) (fun _ hk => hk.2) (.int .i64 t1668)) (fun _ hk => hk.2) (.slice Ao16 t1669.length co16)) (fun _ hk => hk.2) (.int .i64 t1672)) (fun _ hk => hk.2) (.int .i64 t1673)) (fun _ hk => hk.2) (.slice Ao17 t1674.length co17)) (fun _ h_ => h_.1))) (by decide)) hk (fun _ h => h.2)) (fun _ h => h.1)); have n3_ := A_ (Kd.R_mono (Kd.R_keep (IsS132.apart (show IsS132 w0 _ g s0_0 t1663 t1664 from oI132 HI0) (by (with_reducible repeat (first | apply Kd.R_alloc | apply Kd.R_drewN | apply Kd.R_drew)); exact (Kd.R_mono (Kd.R_far (p := ⟨gb1678, 5, none⟩) (Kd.R_far (p := ⟨gb1678, 4, none⟩) (Kd.R_far (p := ⟨gb1678, 3, none⟩) (Kd.R_far (p := ⟨gb1678, 2, none⟩) (Kd.R_far (p := ⟨gb1678, 1, none⟩) (Kd.R_far (p := ⟨gb1678, 0, none⟩) (Kd.R_types HO1671.out BK1678.out (by decide)) (fun _ hk => hk.2) (.slice Ao12 t1665.length co12)) (fun _ hk => hk.2) (.int .i64 t1668)) (fun _ hk => hk.2) (.slice Ao16 t1669.length co16)) (fun _ hk => hk.2) (.int .i64 t1672)) (fun _ hk => hk.2) (.int .i64 t1673)) (fun _ hk => hk.2) (.slice Ao17 t1674.length co17)) (fun _ h_ => h_.1))) (by decide)) hk (fun _ h => h.2)) (fun _ h => h.1)); have n4_ := A_ (Kd.R_mono (Kd.R_keep (IsS132.apart (show IsS132 w0 _ g s0_0 t1663 t1664 from oI132 HI0) (by (with_reducible repeat (first | apply Kd.R_alloc | apply Kd.R_drewN | apply Kd.R_drew)); exact (Kd.R_mono (Kd.R_far (p := ⟨gb1678, 5, none⟩) (Kd.R_far (p := ⟨gb1678, 4, none⟩) (Kd.R_far (p := ⟨gb1678, 3, none⟩) (Kd.R_far (p := ⟨gb1678, 2, none⟩) (Kd.R_far (p := ⟨gb1678, 1, none⟩) (Kd.R_far (p := ⟨gb1678, 0, none⟩) (Kd.R_types HO1676.out BK1678.out (by decide)) (fun _ hk => hk.2) (.slice Ao12 t1665.length co12)) (fun _ hk => hk.2) (.int .i64 t1668)) (fun _ hk => hk.2) (.slice Ao16 t1669.length co16)) (fun _ hk => hk.2) (.int .i64 t1672)) (fun _ hk => hk.2) (.int .i64 t1673)) (fun _ hk => hk.2) (.slice Ao17 t1674.length co17)) (fun _ h_ => h_.1))) (by decide)) hk (fun _ h => h.2)) (fun _ h => h.1)); have n5_ := A_ (KeepBut.blk hk (g' := gb1678) (o := .cells #[.slice Ao12 t1665.length co12, .int .i64 t1668, .slice Ao16 t1669.length co16, .int .i64 t1672, .int .i64 t1673, .slice Ao17 t1674.length co17] 37 (0, 0)) (by (with_reducible repeat (first | refine blk_drewN ?_ _ | refine blk_drew ?_ | refine blk_alloc ?_ _)); refine blk_put (cs := #[.slice Ao12 t1665.length co12, .int .i64 t1668, .slice Ao16 t1669.length co16, .int .i64 t1672, .int .i64 t1673, .slice none 0 0]) ?_ 5 _ rfl; (with_reducible repeat (first | refine blk_drewN ?_ _ | refine blk_drew ?_ | refine blk_alloc ?_ _)); refine blk_put (cs := #[.slice Ao12 t1665.length co12, .int .i64 t1668, .slice Ao16 t1669.length co16, .int .i64 t1672, .int .i64 0, .slice none 0 0]) ?_ 4 _ rfl; (with_reducible repeat (first | refine blk_drewN ?_ _ | refine blk_drew ?_ | refine blk_alloc ?_ _)); refine blk_put (cs := #[.slice Ao12 t1665.length co12, .int .i64 t1668, .slice Ao16 t1669.length co16, .int .i64 0, .int .i64 0, .slice none 0 0]) ?_ 3 _ rfl; (with_reducible repeat (first | refine blk_drewN ?_ _ | refine blk_drew ?_ | refine blk_alloc ?_ _)); refine blk_put (cs := #[.slice Ao12 t1665.length co12, .int .i64 t1668, .slice none 0 0, .int .i64 0, .int .i64 0, .slice none 0 0]) ?_ 2 _ rfl; (with_reducible repeat (first | refine blk_drewN ?_ _ | refine blk_drew ?_ | refine blk_alloc ?_ _)); refine blk_put (cs := #[.slice Ao12 t1665.length co12, .int .i64 0, .slice none 0 0, .int .i64 0, .int .i64 0, .slice none 0 0]) ?_ 1 _ rfl; (with_reducible repeat (first | refine blk_drewN ?_ _ | refine blk_drew ?_ | refine blk_alloc ?_ _)); refine blk_put (cs := #[.slice none 0 0, .int .i64 0, .slice none 0 0, .int .i64 0, .int .i64 0, .slice none 0 0]) ?_ 0 _ rfl; (with_reducible repeat (first | refine blk_drewN ?_ _ | refine blk_drew ?_ | refine blk_alloc ?_ _)); exact BK1678.out) NB1678_0.out (by simp)); have n6_ := A_ (KeepBut.trans (oKe HK) hk (.inl rfl)); have n7_ := A_ (hb); have n8_ := A_ (hi); clear BK1656; clear HO1662; clear HO1667; clear HO1671; clear HO1676; clear BK1678; clear HK; clear HB; clear HI0; have BK1656 := n0_; have HO1662 := n1_; have HO1667 := n2_; have HO1671 := n3_; have HO1676 := n4_; have BK1678 := n5_; have HK := n6_; have HB := n7_; have HI0 := n8_; clear n0_ n1_ n2_ n3_ n4_ n5_ n6_ n7_ n8_; (try clear hb); (try clear hb2); (try clear hk); (try clear hi)))
 go_loopg [6] k (fun kq v6 w' => ∃ (x6_1 : Int) (x1001_1 : Int) (x1002_1 : Int) (x1679000_1 : List (S112)) (x1679001_1 : Int) (x1679002_1 : List Int) (x1679003_1 : Int) (x1679004_1 : Int) (x1679005_1 : List (S104)) (u1679000 : Value) (u1679002 : Value) (u1679005 : Value), v6 = .int .i64 x6_1 ∧ Aside0 (spec_l38Shop.l0 kq t1679 x6_1 s0_0 x1001_1 x1002_1 x1679000_1 x1679001_1 x1679002_1 x1679003_1 x1679004_1 x1679005_1 = some (r1, r2, r3, r4, r5, r6, r7, r8)) ∧ Aside0 (kq ≤ k) ∧ Aside0 (Kd.R k112 112 w' w.heap.size (fun _ => True) u1679000 x1679000_1) ∧ Aside0 (Kd.R (Kd.int .i64) 3 w' w.heap.size (fun _ => True) u1679002 x1679002_1) ∧ Aside0 (Kd.R k104 104 w' w.heap.size (fun _ => True) u1679005 x1679005_1) ∧ Aside0 (w'.heap[gb1656]? = some (.cells #[(.slice none 0 0), .int .i64 0, (.slice none 0 0), .int .i64 0, .int .i64 0, (.slice none 0 0)] 37 (0, 0))) ∧ Aside0 (w'.heap[gb1678]? = some (.cells #[u1679000, .int .i64 x1679001_1, u1679002, .int .i64 x1679003_1, .int .i64 x1679004_1, u1679005] 37 (0, 0))) ∧ Aside0 (IsS132 w0 w' g s0_0 x1001_1 x1002_1) ∧ Aside0 (KeepBut w w' g none) ∧ Aside0 (Below w0.heap.size w0 w'))
 case atStart => exact ⟨(0), (t1680), (t1681), (t1665), (t1668), (t1669), (t1672), (t1673), (t1674), (.slice Ao12 t1665.length co12), (.slice Ao16 t1669.length co16), (.slice Ao17 t1674.length co17), eS, H', ⟨Nat.le_refl _⟩, ⟨by (with_reducible repeat (first | apply Kd.R_alloc | apply Kd.R_drewN | apply Kd.R_drew)); exact Kd.R_mono HO1667.out (fun _ hk => trivial)⟩, ⟨oR HO1671⟩, ⟨oR HO1676⟩, ⟨oK BK1656⟩, ⟨oK BK1678⟩, ⟨oI132 HI0⟩, ⟨oKe HK⟩, ⟨oB132 HB⟩⟩
 case round =>
  clear H'
  try clear c1
  try clear p2
  try clear p6
  try clear c7
  try clear c11
  try clear c13
  try clear c14
  try clear hcz15_0
  try clear hcz15_1
  try clear hcz15_2
  try clear hcz15_3
  try clear hcz15_4
  try clear hcz15_5
  try clear hfz15_0
  try clear hfz15_1
  try clear hfz15_2
  try clear hfz15_3
  try clear hfz15_4
  try clear hfz15_5
  obtain ⟨x6_1, x1001_1, x1002_1, x1679000_1, x1679001_1, x1679002_1, x1679003_1, x1679004_1, x1679005_1, u1679000, u1679002, u1679005, rfl, HA, HK1, HO_1679000, HO_1679002, HO_1679005, BK1656, BK1678, HI0, HK, HB⟩ := hrel
  cases gk with
  | zero => exact absurd HA.out (by simp [spec_l38Shop.l0])
  | succ k1 =>
   have H := HA.out
   clear HA
   simp only [spec_l38Shop.l0] at H
   by_cases c19 : x6_1 < t1679
   ·rw [if_pos c19] at H
    have c19b0 : decide (x6_1 < t1679) = true := decide_eq_true c19
    clear c19
    replace H := Option.bind_eq_some_iff.mp H
    obtain ⟨⟨t1682, t1683, t1684⟩, A200, H⟩ := H
    (try dsimp only at H)
    have A20 := A_ A200
    clear A200
    by_cases c21 : t1682 = 0
    ·rw [if_pos c21] at H
     have c21b0 : (t1682 == 0) = true := beq_iff_eq.mpr c21
     have c21b1 : (t1682 != 0) = false := bne_eq_false_iff_eq.mpr c21
     clear c21
     replace H := Option.bind_eq_some_iff.mp H
     obtain ⟨⟨t1685, t1686, t1687⟩, A220, H⟩ := H
     (try dsimp only at H)
     have A22 := A_ A220
     clear A220
     replace H := Option.bind_eq_some_iff.mp H
     obtain ⟨⟨t1688, t1691, t1692, t1695, t1696, t1697, t1700⟩, A230, H⟩ := H
     (try dsimp only at H)
     have A23 := A_ A230
     clear A230
     have H' := A_ H
     clear H
     try go_wp2_with (first | ((with_reducible refine gate_callee (f := 75) rfl ?_); refine gL (some 26) Tryz.func75 #[.pointer (some ⟨g, 0, none⟩), .int .i64 8] ?_; (with_reducible refine (spec_l01Below.calls g s0_0 x1001_1 x1002_1 8 t1682 t1683 t1684 w0 _ ?side1 ?side2 A20.out).mono ?_); (case side1 => exact oI132 HI0); (case side2 => exact oB132 HB); rintro e w24 ⟨rfl, hi, hb, hk⟩; refine ⟨_, rfl, ?_⟩; have n0_ := A_ (Kd.R_mono (Kd.R_keep (IsS132.apart (show IsS132 w0 _ g s0_0 x1001_1 x1002_1 from oI132 HI0) (oR HO_1679000) (by decide)) hk (fun _ h => h.2)) (fun _ h => h.1)); have n1_ := A_ (Kd.R_mono (Kd.R_keep (IsS132.apart (show IsS132 w0 _ g s0_0 x1001_1 x1002_1 from oI132 HI0) (oR HO_1679002) (by decide)) hk (fun _ h => h.2)) (fun _ h => h.1)); have n2_ := A_ (Kd.R_mono (Kd.R_keep (IsS132.apart (show IsS132 w0 _ g s0_0 x1001_1 x1002_1 from oI132 HI0) (oR HO_1679005) (by decide)) hk (fun _ h => h.2)) (fun _ h => h.1)); have n3_ := A_ (KeepBut.blk hk (g' := gb1656) (o := .cells #[.slice none 0 0, .int .i64 0, .slice none 0 0, .int .i64 0, .int .i64 0, .slice none 0 0] 37 (0, 0)) (oK BK1656) NB1656_0.out (by simp)); have n4_ := A_ (KeepBut.blk hk (g' := gb1678) (o := .cells #[u1679000, .int .i64 x1679001_1, u1679002, .int .i64 x1679003_1, .int .i64 x1679004_1, u1679005] 37 (0, 0)) (oK BK1678) NB1678_0.out (by simp)); have n5_ := A_ (KeepBut.trans (oKe HK) hk (.inl rfl)); have n6_ := A_ (hb); have n7_ := A_ (hi); clear HO_1679000; clear HO_1679002; clear HO_1679005; clear BK1656; clear BK1678; clear HK; clear HB; clear HI0; have HO_1679000 := n0_; have HO_1679002 := n1_; have HO_1679005 := n2_; have BK1656 := n3_; have BK1678 := n4_; have HK := n5_; have HB := n6_; have HI0 := n7_; clear n0_ n1_ n2_ n3_ n4_ n5_ n6_ n7_; (try clear hb); (try clear hb2); (try clear hk); (try clear hi)))
     have n0_ := A_ (Kd.R_drew HO_1679000.out)
     have n1_ := A_ (Kd.R_drew HO_1679002.out)
     have n2_ := A_ (Kd.R_drew HO_1679005.out)
     have n3_ := A_ (blk_drew BK1656.out)
     have n4_ := A_ (blk_drew BK1678.out)
     have n5_ := A_ (IsS132.drew HI0.out)
     have n6_ := A_ (keep_drew HK.out)
     have n7_ := A_ (below_drew1 HB.out)
     clear HO_1679000
     clear HO_1679002
     clear HO_1679005
     clear BK1656
     clear BK1678
     clear HI0
     clear HK
     clear HB
     have HO_1679000 := n0_
     have HO_1679002 := n1_
     have HO_1679005 := n2_
     have BK1656 := n3_
     have BK1678 := n4_
     have HI0 := n5_
     have HK := n6_
     have HB := n7_
     clear n0_ n1_ n2_ n3_ n4_ n5_ n6_ n7_
     refine start_ (n := 8) (S := fun w' => w'.cell? ⟨gb1678, 0, none⟩ = some (u1679000) ∧ w'.cell? ⟨gb1678, 1, none⟩ = some (.int .i64 x1679001_1) ∧ w'.cell? ⟨gb1678, 2, none⟩ = some (u1679002) ∧ w'.cell? ⟨gb1678, 3, none⟩ = some (.int .i64 x1679003_1) ∧ w'.cell? ⟨gb1678, 4, none⟩ = some (.int .i64 x1679004_1) ∧ w'.cell? ⟨gb1678, 5, none⟩ = some (u1679005)) (ds := [7]) #[false, false, false, false, false, false, false, false] (by kernel_rfl) rfl rfl ⟨cz BK1678 0, cz BK1678 1, cz BK1678 2, cz BK1678 3, cz BK1678 4, cz BK1678 5⟩ (fun hHeld => ?_); refine with_tabW spec_l38Shop.tab9 spec_l38Shop.bits9 (fun HT_ HW_ => ?_)
     generalize w24.drew = w25 at HO_1679000 HO_1679002 HO_1679005 BK1656 BK1678 HI0 HK HB hHeld ⊢
     refine pA 1 (some 36) HT_.out ?_
     refine pT 0 (some 35) HT_.out HW_.out hHeld ?_
     refine one_ (i := 2) (N := some 37) #[true, true, true, false, false, false, false, false] rfl rfl (one_of HT_.out (by kernel_rfl)) (by decide) (fun K hK => ?_)
     refine goes_ Tryz.func75 (by kernel_rfl) rfl #[.pointer (some ⟨g, 0, none⟩), .int .i64 30] (by rfl) rfl rfl (by (try simp only [List.map_toArray, List.map_cons, List.map_nil]); first | done | rfl | (simp only [List.length_drop, List.length_take]; rfl)) ?_
     with_reducible refine (spec_l01Below.calls g s0_0 t1683 t1684 30 t1685 t1686 t1687 w0 _ ?side1 ?side2 A22.out).mono ?_
     (case side1 => exact oI132 HI0)
     (case side2 => exact oB132 HB)
     rintro e w26 ⟨rfl, hi, hb, hk⟩
     refine ⟨_, rfl, ?_⟩
     have n0_ := A_ (Kd.R_mono (Kd.R_keep (IsS132.apart (show IsS132 w0 _ g s0_0 t1683 t1684 from oI132 HI0) (oR HO_1679000) (by decide)) hk (fun _ h => h.2)) (fun _ h => h.1))
     have n1_ := A_ (Kd.R_mono (Kd.R_keep (IsS132.apart (show IsS132 w0 _ g s0_0 t1683 t1684 from oI132 HI0) (oR HO_1679002) (by decide)) hk (fun _ h => h.2)) (fun _ h => h.1))
     have n2_ := A_ (Kd.R_mono (Kd.R_keep (IsS132.apart (show IsS132 w0 _ g s0_0 t1683 t1684 from oI132 HI0) (oR HO_1679005) (by decide)) hk (fun _ h => h.2)) (fun _ h => h.1))
     have n3_ := A_ (KeepBut.blk hk (g' := gb1656) (o := .cells #[.slice none 0 0, .int .i64 0, .slice none 0 0, .int .i64 0, .int .i64 0, .slice none 0 0] 37 (0, 0)) (oK BK1656) NB1656_0.out (by simp))
     have n4_ := A_ (KeepBut.blk hk (g' := gb1678) (o := .cells #[u1679000, .int .i64 x1679001_1, u1679002, .int .i64 x1679003_1, .int .i64 x1679004_1, u1679005] 37 (0, 0)) (oK BK1678) NB1678_0.out (by simp))
     have n5_ := A_ (KeepBut.trans (oKe HK) hk (.inl rfl))
     have n6_ := A_ (hb)
     have n7_ := A_ (hi)
     clear HO_1679000
     clear HO_1679002
     clear HO_1679005
     clear BK1656
     clear BK1678
     clear HK
     clear HB
     clear HI0
     have HO_1679000 := n0_
     have HO_1679002 := n1_
     have HO_1679005 := n2_
     have BK1656 := n3_
     have BK1678 := n4_
     have HK := n5_
     have HB := n6_
     have HI0 := n7_
     clear n0_ n1_ n2_ n3_ n4_ n5_ n6_ n7_
     (try clear hb)
     (try clear hb2)
     (try clear hk)
     (try clear hi)
     obtain ⟨Ao27, co27, eo27⟩ := Kd.R_slice HO_1679000.out
     (first | subst eo27 | (injection eo27 with f1_ f2_ f3_; have f4_ := f1_.symm; have f5_ := f3_.symm; clear f1_ f2_ f3_; subst f4_; subst f5_))
     obtain ⟨Ao28, co28, eo28⟩ := Kd.R_slice HO_1679002.out
     (first | subst eo28 | (injection eo28 with f1_ f2_ f3_; have f4_ := f1_.symm; have f5_ := f3_.symm; clear f1_ f2_ f3_; subst f4_; subst f5_))
     obtain ⟨Ao29, co29, eo29⟩ := Kd.R_slice HO_1679005.out
     (first | subst eo29 | (injection eo29 with f1_ f2_ f3_; have f4_ := f1_.symm; have f5_ := f3_.symm; clear f1_ f2_ f3_; subst f4_; subst f5_))
     refine hK.out _ _ ⟨cz BK1678 0, cz BK1678 1, cz BK1678 2, cz BK1678 3, cz BK1678 4, cz BK1678 5⟩ (fun hHeld => ?_)
     clear hK K
     refine norm_ (a' := ?_) ?_ ?_
     rotate_left
     ·show Act.put _ (some 37) _ = _
      simp only [Act.put, List.setIfInBounds_toArray, List.set_cons_zero, List.set_cons_succ, i64_w, i32_w]
      rfl
     refine one_ (i := 3) (N := some 38) #[true, true, true, true, false, false, false, false] rfl rfl (one_of HT_.out (by kernel_rfl)) (by decide) (fun K hK => ?_)
     refine goes_ Tryz.func48 (by kernel_rfl) rfl #[.agg #[.slice Ao27 x1679000_1.length co27, .int .i64 x1679001_1, .slice Ao28 x1679002_1.length co28, .int .i64 x1679003_1, .int .i64 x1679004_1, .slice Ao29 x1679005_1.length co29], .int .i64 t1685] (by rfl) rfl rfl (by (try simp only [List.map_toArray, List.map_cons, List.map_nil]); first | done | rfl | (simp only [List.length_drop, List.length_take]; rfl)) ?_
     with_reducible refine (spec_ShopWarm.calls k1 _ _ x1679000_1 x1679001_1 _ _ x1679002_1 x1679003_1 x1679004_1 _ _ x1679005_1 t1685 t1688 t1691 t1692 t1695 t1696 t1697 t1700 _ ?side1 ?side2 ?side3 ?side4 ?side5 ?side6 A23.out).mono ?_
     (case side1 => repeat (first | exact (Kd.R_reads' HO_1679000.out).2.2 | (with_reducible refine Kd.C_alloc ?_ _) | (with_reducible refine Kd.C_drewN ?_ _) | (with_reducible refine Kd.C_drew ?_)))
     (case side2 => exact (Kd.R_reads' HO_1679000.out).2.1)
     (case side3 => repeat (first | exact (Kd.R_reads' HO_1679002.out).2.2 | (with_reducible refine Kd.C_alloc ?_ _) | (with_reducible refine Kd.C_drewN ?_ _) | (with_reducible refine Kd.C_drew ?_)))
     (case side4 => exact (Kd.R_reads' HO_1679002.out).2.1)
     (case side5 => repeat (first | exact (Kd.R_reads' HO_1679005.out).2.2 | (with_reducible refine Kd.C_alloc ?_ _) | (with_reducible refine Kd.C_drewN ?_ _) | (with_reducible refine Kd.C_drew ?_)))
     (case side6 => exact (Kd.R_reads' HO_1679005.out).2.1)
     rintro e w30 ⟨v1689, v1693, v1698, rfl, ho0, ho1, ho2, hb⟩
     refine ⟨_, rfl, ?_⟩
     have n0_ := A_ (Kd.R_elder' (oR HO_1679000) (Kd.R_base ho0) hb)
     have n1_ := A_ (Kd.R_elder' (oR HO_1679002) (Kd.R_base ho1) hb)
     have n2_ := A_ (Kd.R_elder' (oR HO_1679005) (Kd.R_base ho2) hb)
     have n3_ := A_ (Kd.R_lower (Kd.R_new' ho0 (Kd.R_lt (oR HO_1679000))) (keep_size (w := w) (g := g) (row := none) (by repeat (first | (with_reducible first | exact HK.out | apply KeepBut.set_ | apply keep_drewN | apply keep_drew | apply keep_alloc | refine keep_far ?_ GW1656.out _ | refine keep_far ?_ GW1678.out _) | exact HK.out))))
     have n4_ := A_ (Kd.R_lower (Kd.R_new' ho1 (Kd.R_lt (oR HO_1679002))) (keep_size (w := w) (g := g) (row := none) (by repeat (first | (with_reducible first | exact HK.out | apply KeepBut.set_ | apply keep_drewN | apply keep_drew | apply keep_alloc | refine keep_far ?_ GW1656.out _ | refine keep_far ?_ GW1678.out _) | exact HK.out))))
     have n5_ := A_ (Kd.R_lower (Kd.R_new' ho2 (Kd.R_lt (oR HO_1679005))) (keep_size (w := w) (g := g) (row := none) (by repeat (first | (with_reducible first | exact HK.out | apply KeepBut.set_ | apply keep_drewN | apply keep_drew | apply keep_alloc | refine keep_far ?_ GW1656.out _ | refine keep_far ?_ GW1678.out _) | exact HK.out))))
     have n6_ := A_ (bb BK1656 hb)
     have n7_ := A_ (bb BK1678 hb)
     have n8_ := A_ (IsS132.below (oI132 HI0) hb)
     have n9_ := A_ (KeepBut.trans (oKe HK) (KeepBut.of_below hb g none) (.inl rfl))
     have n10_ := A_ (below_step (oB132 HB) hb)
     clear HO_1679000
     clear HO_1679002
     clear HO_1679005
     clear BK1656
     clear BK1678
     clear HI0
     clear HK
     clear HB
     have HO_1679000 := n0_
     have HO_1679002 := n1_
     have HO_1679005 := n2_
     have HO1690 := n3_
     have HO1694 := n4_
     have HO1699 := n5_
     have BK1656 := n6_
     have BK1678 := n7_
     have HI0 := n8_
     have HK := n9_
     have HB := n10_
     clear n0_ n1_ n2_ n3_ n4_ n5_ n6_ n7_ n8_ n9_ n10_
     (try clear hb)
     (try clear hb2)
     (try clear hk)
     (try clear hi)
     (try clear ho0)
     (try clear ho1)
     (try clear ho2)
     obtain ⟨Ao31, co31, eo31⟩ := Kd.R_slice HO1690.out
     (first | subst eo31 | (injection eo31 with f1_ f2_ f3_; have f4_ := f1_.symm; have f5_ := f3_.symm; clear f1_ f2_ f3_; subst f4_; subst f5_))
     obtain ⟨Ao34, co34, eo34⟩ := Kd.R_slice HO1694.out
     (first | subst eo34 | (injection eo34 with f1_ f2_ f3_; have f4_ := f1_.symm; have f5_ := f3_.symm; clear f1_ f2_ f3_; subst f4_; subst f5_))
     obtain ⟨Ao38, co38, eo38⟩ := Kd.R_slice HO1699.out
     (first | subst eo38 | (injection eo38 with f1_ f2_ f3_; have f4_ := f1_.symm; have f5_ := f3_.symm; clear f1_ f2_ f3_; subst f4_; subst f5_))
     refine hK.out _ _ ⟨cz BK1678 0, cz BK1678 1, cz BK1678 2, cz BK1678 3, cz BK1678 4, cz BK1678 5⟩ (fun hHeld => ?_)
     clear hK K
     refine norm_ (a' := ?_) ?_ ?_
     rotate_left
     ·show Act.put _ (some 38) _ = _
      simp only [Act.put, List.setIfInBounds_toArray, List.set_cons_zero, List.set_cons_succ, i64_w, i32_w]
      rfl
     refine pA 4 (some 34) HT_.out ?_
     refine pA 5 (some 39) HT_.out ?_
     refine pA 6 (some 40) HT_.out ?_
     refine last_ (i := 7) (N := none) #[true, true, true, true, true, true, true, true] rfl rfl (one_of HT_.out (by kernel_rfl)) (by decide) (fun K hK => ?_)
     have hs32 := cz BK1678 0
     have hfs32 := blk_frozen BK1678.out 0
     have hns32_0 := NB1656_1678.out
     have hms32_0 := NB1678_1656.out
     have hs33 := cz BK1678 1
     have hfs33 := blk_frozen BK1678.out 1
     have hns33_0 := NB1656_1678.out
     have hms33_0 := NB1678_1656.out
     have hs35 := cz BK1678 2
     have hfs35 := blk_frozen BK1678.out 2
     have hns35_0 := NB1656_1678.out
     have hms35_0 := NB1678_1656.out
     have hs36 := cz BK1678 3
     have hfs36 := blk_frozen BK1678.out 3
     have hns36_0 := NB1656_1678.out
     have hms36_0 := NB1678_1656.out
     have hs37 := cz BK1678 4
     have hfs37 := blk_frozen BK1678.out 4
     have hns37_0 := NB1656_1678.out
     have hms37_0 := NB1678_1656.out
     have hs39 := cz BK1678 5
     have hfs39 := blk_frozen BK1678.out 5
     have hns39_0 := NB1656_1678.out
     have hms39_0 := NB1678_1656.out
     refine skip_ (w1 := ?_) (by rfl) rfl ?_ ?_
     rotate_left
     ·go_simp
      rfl
     refine hK.out _ _ ?_
     clear hK K
     refine done_ (done_of HT_.out (by kernel_rfl)) ?_
     try go_wp2
     go_roundg k1
     case measure => have := HK1.out; omega
     case rel => exact ⟨(wrap64 (x6_1 + 1)), (t1686), (t1687), (t1688), (t1691), (t1692), (t1695), (t1696), (t1697), (.slice Ao31 t1688.length co31), (.slice Ao34 t1692.length co34), (.slice Ao38 t1697.length co38), eS, H', ⟨by have := HK1.out; omega⟩, ⟨by (with_reducible repeat (first | apply Kd.R_alloc | apply Kd.R_drewN | apply Kd.R_drew)); exact Kd.R_mono (Kd.R_far (p := ⟨gb1678, 5, none⟩) (Kd.R_far (p := ⟨gb1678, 4, none⟩) (Kd.R_far (p := ⟨gb1678, 3, none⟩) (Kd.R_far (p := ⟨gb1678, 2, none⟩) (Kd.R_far (p := ⟨gb1678, 1, none⟩) (Kd.R_far (p := ⟨gb1678, 0, none⟩) (Kd.R_types HO1690.out BK1678.out (by decide)) (fun _ hk => hk.2) (.slice Ao31 t1688.length co31)) (fun _ hk => hk.2) (.int .i64 t1691)) (fun _ hk => hk.2) (.slice Ao34 t1692.length co34)) (fun _ hk => hk.2) (.int .i64 t1695)) (fun _ hk => hk.2) (.int .i64 t1696)) (fun _ hk => hk.2) (.slice Ao38 t1697.length co38)) (fun _ hk => trivial)⟩, ⟨by (with_reducible repeat (first | apply Kd.R_alloc | apply Kd.R_drewN | apply Kd.R_drew)); exact Kd.R_mono (Kd.R_far (p := ⟨gb1678, 5, none⟩) (Kd.R_far (p := ⟨gb1678, 4, none⟩) (Kd.R_far (p := ⟨gb1678, 3, none⟩) (Kd.R_far (p := ⟨gb1678, 2, none⟩) (Kd.R_far (p := ⟨gb1678, 1, none⟩) (Kd.R_far (p := ⟨gb1678, 0, none⟩) (Kd.R_types HO1694.out BK1678.out (by decide)) (fun _ hk => hk.2) (.slice Ao31 t1688.length co31)) (fun _ hk => hk.2) (.int .i64 t1691)) (fun _ hk => hk.2) (.slice Ao34 t1692.length co34)) (fun _ hk => hk.2) (.int .i64 t1695)) (fun _ hk => hk.2) (.int .i64 t1696)) (fun _ hk => hk.2) (.slice Ao38 t1697.length co38)) (fun _ hk => trivial)⟩, ⟨by (with_reducible repeat (first | apply Kd.R_alloc | apply Kd.R_drewN | apply Kd.R_drew)); exact Kd.R_mono (Kd.R_far (p := ⟨gb1678, 5, none⟩) (Kd.R_far (p := ⟨gb1678, 4, none⟩) (Kd.R_far (p := ⟨gb1678, 3, none⟩) (Kd.R_far (p := ⟨gb1678, 2, none⟩) (Kd.R_far (p := ⟨gb1678, 1, none⟩) (Kd.R_far (p := ⟨gb1678, 0, none⟩) (Kd.R_types HO1699.out BK1678.out (by decide)) (fun _ hk => hk.2) (.slice Ao31 t1688.length co31)) (fun _ hk => hk.2) (.int .i64 t1691)) (fun _ hk => hk.2) (.slice Ao34 t1692.length co34)) (fun _ hk => hk.2) (.int .i64 t1695)) (fun _ hk => hk.2) (.int .i64 t1696)) (fun _ hk => hk.2) (.slice Ao38 t1697.length co38)) (fun _ hk => trivial)⟩, ⟨by (with_reducible repeat (first | refine blk_drewN ?_ _ | refine blk_drew ?_ | refine blk_alloc ?_ _)); refine blk_far ?_ NB1656_1678.out _; (with_reducible repeat (first | refine blk_drewN ?_ _ | refine blk_drew ?_ | refine blk_alloc ?_ _)); refine blk_far ?_ NB1656_1678.out _; (with_reducible repeat (first | refine blk_drewN ?_ _ | refine blk_drew ?_ | refine blk_alloc ?_ _)); refine blk_far ?_ NB1656_1678.out _; (with_reducible repeat (first | refine blk_drewN ?_ _ | refine blk_drew ?_ | refine blk_alloc ?_ _)); refine blk_far ?_ NB1656_1678.out _; (with_reducible repeat (first | refine blk_drewN ?_ _ | refine blk_drew ?_ | refine blk_alloc ?_ _)); refine blk_far ?_ NB1656_1678.out _; (with_reducible repeat (first | refine blk_drewN ?_ _ | refine blk_drew ?_ | refine blk_alloc ?_ _)); refine blk_far ?_ NB1656_1678.out _; (with_reducible repeat (first | refine blk_drewN ?_ _ | refine blk_drew ?_ | refine blk_alloc ?_ _)); exact BK1656.out⟩, ⟨by (with_reducible repeat (first | refine blk_drewN ?_ _ | refine blk_drew ?_ | refine blk_alloc ?_ _)); refine blk_put (cs := #[.slice Ao31 t1688.length co31, .int .i64 t1691, .slice Ao34 t1692.length co34, .int .i64 t1695, .int .i64 t1696, .slice Ao29 x1679005_1.length co29]) ?_ 5 _ rfl; (with_reducible repeat (first | refine blk_drewN ?_ _ | refine blk_drew ?_ | refine blk_alloc ?_ _)); refine blk_put (cs := #[.slice Ao31 t1688.length co31, .int .i64 t1691, .slice Ao34 t1692.length co34, .int .i64 t1695, .int .i64 x1679004_1, .slice Ao29 x1679005_1.length co29]) ?_ 4 _ rfl; (with_reducible repeat (first | refine blk_drewN ?_ _ | refine blk_drew ?_ | refine blk_alloc ?_ _)); refine blk_put (cs := #[.slice Ao31 t1688.length co31, .int .i64 t1691, .slice Ao34 t1692.length co34, .int .i64 x1679003_1, .int .i64 x1679004_1, .slice Ao29 x1679005_1.length co29]) ?_ 3 _ rfl; (with_reducible repeat (first | refine blk_drewN ?_ _ | refine blk_drew ?_ | refine blk_alloc ?_ _)); refine blk_put (cs := #[.slice Ao31 t1688.length co31, .int .i64 t1691, .slice Ao28 x1679002_1.length co28, .int .i64 x1679003_1, .int .i64 x1679004_1, .slice Ao29 x1679005_1.length co29]) ?_ 2 _ rfl; (with_reducible repeat (first | refine blk_drewN ?_ _ | refine blk_drew ?_ | refine blk_alloc ?_ _)); refine blk_put (cs := #[.slice Ao31 t1688.length co31, .int .i64 x1679001_1, .slice Ao28 x1679002_1.length co28, .int .i64 x1679003_1, .int .i64 x1679004_1, .slice Ao29 x1679005_1.length co29]) ?_ 1 _ rfl; (with_reducible repeat (first | refine blk_drewN ?_ _ | refine blk_drew ?_ | refine blk_alloc ?_ _)); refine blk_put (cs := #[.slice Ao27 x1679000_1.length co27, .int .i64 x1679001_1, .slice Ao28 x1679002_1.length co28, .int .i64 x1679003_1, .int .i64 x1679004_1, .slice Ao29 x1679005_1.length co29]) ?_ 0 _ rfl; (with_reducible repeat (first | refine blk_drewN ?_ _ | refine blk_drew ?_ | refine blk_alloc ?_ _)); exact BK1678.out⟩, ⟨oI132 HI0⟩, ⟨oKe HK⟩, ⟨oB132 HB⟩⟩
    ·rw [if_neg c21] at H
     have c21b0 : (t1682 == 0) = false := beq_eq_false_iff_ne.mpr c21
     have c21b1 : (t1682 != 0) = true := bne_iff_ne.mpr c21
     by_cases c40 : t1682 = 1
     ·rw [if_pos c40] at H
      have c40b0 : (t1682 == 1) = true := beq_iff_eq.mpr c40
      have c40b1 : (t1682 != 1) = false := bne_eq_false_iff_eq.mpr c40
      clear c40
      replace H := Option.bind_eq_some_iff.mp H
      obtain ⟨⟨t1701, t1702, t1703, t1704⟩, A410, H⟩ := H
      (try dsimp only at H)
      have A41 := A_ A410
      clear A410
      replace H := Option.bind_eq_some_iff.mp H
      obtain ⟨⟨t1706, t1707, t1708⟩, A420, H⟩ := H
      (try dsimp only at H)
      have A42 := A_ A420
      clear A420
      replace H := Option.bind_eq_some_iff.mp H
      obtain ⟨⟨t1709, t1712, t1713, t1716, t1717, t1718, t1721⟩, A430, H⟩ := H
      (try dsimp only at H)
      have A43 := A_ A430
      clear A430
      have H' := A_ H
      clear H
      try go_wp2_with (first | ((with_reducible refine gate_callee (f := 75) rfl ?_); refine gL (some 26) Tryz.func75 #[.pointer (some ⟨g, 0, none⟩), .int .i64 8] ?_; (with_reducible refine (spec_l01Below.calls g s0_0 x1001_1 x1002_1 8 t1682 t1683 t1684 w0 _ ?side1 ?side2 A20.out).mono ?_); (case side1 => exact oI132 HI0); (case side2 => exact oB132 HB); rintro e w44 ⟨rfl, hi, hb, hk⟩; refine ⟨_, rfl, ?_⟩; have n0_ := A_ (Kd.R_mono (Kd.R_keep (IsS132.apart (show IsS132 w0 _ g s0_0 x1001_1 x1002_1 from oI132 HI0) (oR HO_1679000) (by decide)) hk (fun _ h => h.2)) (fun _ h => h.1)); have n1_ := A_ (Kd.R_mono (Kd.R_keep (IsS132.apart (show IsS132 w0 _ g s0_0 x1001_1 x1002_1 from oI132 HI0) (oR HO_1679002) (by decide)) hk (fun _ h => h.2)) (fun _ h => h.1)); have n2_ := A_ (Kd.R_mono (Kd.R_keep (IsS132.apart (show IsS132 w0 _ g s0_0 x1001_1 x1002_1 from oI132 HI0) (oR HO_1679005) (by decide)) hk (fun _ h => h.2)) (fun _ h => h.1)); have n3_ := A_ (KeepBut.blk hk (g' := gb1656) (o := .cells #[.slice none 0 0, .int .i64 0, .slice none 0 0, .int .i64 0, .int .i64 0, .slice none 0 0] 37 (0, 0)) (oK BK1656) NB1656_0.out (by simp)); have n4_ := A_ (KeepBut.blk hk (g' := gb1678) (o := .cells #[u1679000, .int .i64 x1679001_1, u1679002, .int .i64 x1679003_1, .int .i64 x1679004_1, u1679005] 37 (0, 0)) (oK BK1678) NB1678_0.out (by simp)); have n5_ := A_ (KeepBut.trans (oKe HK) hk (.inl rfl)); have n6_ := A_ (hb); have n7_ := A_ (hi); clear HO_1679000; clear HO_1679002; clear HO_1679005; clear BK1656; clear BK1678; clear HK; clear HB; clear HI0; have HO_1679000 := n0_; have HO_1679002 := n1_; have HO_1679005 := n2_; have BK1656 := n3_; have BK1678 := n4_; have HK := n5_; have HB := n6_; have HI0 := n7_; clear n0_ n1_ n2_ n3_ n4_ n5_ n6_ n7_; (try clear hb); (try clear hb2); (try clear hk); (try clear hi)) | ((with_reducible refine gate_callee (f := 138) rfl ?_); refine gL (some 44) Tryz.func138 #[.pointer (some ⟨g, 0, none⟩)] ?_; (with_reducible refine (spec_l34Pipe.calls g s0_0 t1683 t1684 t1701 t1702 t1703 t1704 w0 _ ?side1 ?side2 A41.out).mono ?_); (case side1 => exact oI132 HI0); (case side2 => exact oB132 HB); rintro e w45 ⟨rfl, hi, hb, hk⟩; refine ⟨_, rfl, ?_⟩; have n0_ := A_ (Kd.R_mono (Kd.R_keep (IsS132.apart (show IsS132 w0 _ g s0_0 t1683 t1684 from oI132 HI0) (oR HO_1679000) (by decide)) hk (fun _ h => h.2)) (fun _ h => h.1)); have n1_ := A_ (Kd.R_mono (Kd.R_keep (IsS132.apart (show IsS132 w0 _ g s0_0 t1683 t1684 from oI132 HI0) (oR HO_1679002) (by decide)) hk (fun _ h => h.2)) (fun _ h => h.1)); have n2_ := A_ (Kd.R_mono (Kd.R_keep (IsS132.apart (show IsS132 w0 _ g s0_0 t1683 t1684 from oI132 HI0) (oR HO_1679005) (by decide)) hk (fun _ h => h.2)) (fun _ h => h.1)); have n3_ := A_ (KeepBut.blk hk (g' := gb1656) (o := .cells #[.slice none 0 0, .int .i64 0, .slice none 0 0, .int .i64 0, .int .i64 0, .slice none 0 0] 37 (0, 0)) (oK BK1656) NB1656_0.out (by simp)); have n4_ := A_ (KeepBut.blk hk (g' := gb1678) (o := .cells #[u1679000, .int .i64 x1679001_1, u1679002, .int .i64 x1679003_1, .int .i64 x1679004_1, u1679005] 37 (0, 0)) (oK BK1678) NB1678_0.out (by simp)); have n5_ := A_ (KeepBut.trans (oKe HK) hk (.inl rfl)); have n6_ := A_ (hb); have n7_ := A_ (hi); clear HO_1679000; clear HO_1679002; clear HO_1679005; clear BK1656; clear BK1678; clear HK; clear HB; clear HI0; have HO_1679000 := n0_; have HO_1679002 := n1_; have HO_1679005 := n2_; have BK1656 := n3_; have BK1678 := n4_; have HK := n5_; have HB := n6_; have HI0 := n7_; clear n0_ n1_ n2_ n3_ n4_ n5_ n6_ n7_; (try clear hb); (try clear hb2); (try clear hk); (try clear hi)) | ((with_reducible refine gate_dst (N := 7) rfl ?_); refine bX (N := 7) (cs := #[.int .i64 0, .int .i64 0]) (t := 74) ?_; intro gb1705 hg w46 hbox hb; have n0_ := A_ (Kd.R_below (oR HO_1679000) hb); have n1_ := A_ (Kd.R_below (oR HO_1679002) hb); have n2_ := A_ (Kd.R_below (oR HO_1679005) hb); have n3_ := A_ (bb BK1656 hb); have n4_ := A_ (bb BK1678 hb); have n5_ := A_ (IsS132.below (oI132 HI0) hb); have n6_ := A_ (KeepBut.trans (oKe HK) (KeepBut.of_below hb g none) (.inl rfl)); have n7_ := A_ (below_step (oB132 HB) hb); have n8_ := A_ (hbox); have n9_ := A_ ((by rw [hg]; exact (keep_size (w := w) (g := g) (row := none) (by repeat (first | (with_reducible first | exact HK.out | apply KeepBut.set_ | apply keep_drewN | apply keep_drew | apply keep_alloc | refine keep_far ?_ GW1656.out _ | refine keep_far ?_ GW1678.out _) | exact HK.out))) : w.heap.size ≤ gb1705)); have n10_ := A_ ((Nat.le_trans HW0.out (by rw [hg]; exact (keep_size (w := w) (g := g) (row := none) (by repeat (first | (with_reducible first | exact HK.out | apply KeepBut.set_ | apply keep_drewN | apply keep_drew | apply keep_alloc | refine keep_far ?_ GW1656.out _ | refine keep_far ?_ GW1678.out _) | exact HK.out))) : w.heap.size ≤ gb1705) : w0.heap.size ≤ gb1705)); have n11_ := A_ (nL BK1656 hg); have n12_ := A_ (nG BK1656 hg); have n13_ := A_ (nL BK1678 hg); have n14_ := A_ (nG BK1678 hg); have n15_ := A_ ((by rw [hg]; exact Nat.ne_of_lt (IsS132.lt (show IsS132 w0 _ g s0_0 t1703 t1704 from oI132 HI0)) : g ≠ gb1705)); have n16_ := A_ ((by rw [hg]; exact Nat.ne_of_gt (IsS132.lt (show IsS132 w0 _ g s0_0 t1703 t1704 from oI132 HI0)) : gb1705 ≠ g)); clear HO_1679000; clear HO_1679002; clear HO_1679005; clear BK1656; clear BK1678; clear HI0; clear HK; clear HB; have HO_1679000 := n0_; have HO_1679002 := n1_; have HO_1679005 := n2_; have BK1656 := n3_; have BK1678 := n4_; have HI0 := n5_; have HK := n6_; have HB := n7_; have BK1705 := n8_; have GW1705 := n9_; have GE1705 := n10_; have NB1656_1705 := n11_; have NB1705_1656 := n12_; have NB1678_1705 := n13_; have NB1705_1678 := n14_; have NB0_1705 := n15_; have NB1705_0 := n16_; clear n0_ n1_ n2_ n3_ n4_ n5_ n6_ n7_ n8_ n9_ n10_ n11_ n12_ n13_ n14_ n15_ n16_; clear hb hbox hg; have hnb47 := NB1705_1656.out; have hnc47 := NB1656_1705.out; have hnb48 := NB1705_1678.out; have hnc48 := NB1678_1705.out; have hnb49 := NB1705_0.out; have hnc49 := NB0_1705.out; have hcz50_0 := cz BK1705 0; have hcz50_1 := cz BK1705 1; have hfz50_0 := blk_frozen BK1705.out 0; have hfz50_1 := blk_frozen BK1705.out 1))
      have n0_ : Aside0 (Kd.R k112 112 ((w46.setCell ⟨gb1705, 0, none⟩ (.int .i64 t1701)).setCell ⟨gb1705, 1, none⟩ (.int .i64 t1702)) w.heap.size (fun _ => True) u1679000 x1679000_1) := ⟨by (with_reducible repeat (first | apply Kd.R_alloc | apply Kd.R_drewN | apply Kd.R_drew)); exact Kd.R_mono (Kd.R_far (p := ⟨gb1705, 1, none⟩) (Kd.R_far (p := ⟨gb1705, 0, none⟩) (Kd.R_types HO_1679000.out BK1705.out (by decide)) (fun _ hk => hk.2) (.int .i64 t1701)) (fun _ hk => hk.2) (.int .i64 t1702)) (fun _ hk => trivial)⟩
      have n1_ : Aside0 (Kd.R (Kd.int .i64) 3 ((w46.setCell ⟨gb1705, 0, none⟩ (.int .i64 t1701)).setCell ⟨gb1705, 1, none⟩ (.int .i64 t1702)) w.heap.size (fun _ => True) u1679002 x1679002_1) := ⟨by (with_reducible repeat (first | apply Kd.R_alloc | apply Kd.R_drewN | apply Kd.R_drew)); exact Kd.R_mono (Kd.R_far (p := ⟨gb1705, 1, none⟩) (Kd.R_far (p := ⟨gb1705, 0, none⟩) (Kd.R_types HO_1679002.out BK1705.out (by decide)) (fun _ hk => hk.2) (.int .i64 t1701)) (fun _ hk => hk.2) (.int .i64 t1702)) (fun _ hk => trivial)⟩
      have n2_ : Aside0 (Kd.R k104 104 ((w46.setCell ⟨gb1705, 0, none⟩ (.int .i64 t1701)).setCell ⟨gb1705, 1, none⟩ (.int .i64 t1702)) w.heap.size (fun _ => True) u1679005 x1679005_1) := ⟨by (with_reducible repeat (first | apply Kd.R_alloc | apply Kd.R_drewN | apply Kd.R_drew)); exact Kd.R_mono (Kd.R_far (p := ⟨gb1705, 1, none⟩) (Kd.R_far (p := ⟨gb1705, 0, none⟩) (Kd.R_types HO_1679005.out BK1705.out (by decide)) (fun _ hk => hk.2) (.int .i64 t1701)) (fun _ hk => hk.2) (.int .i64 t1702)) (fun _ hk => trivial)⟩
      have n3_ : Aside0 (((w46.setCell ⟨gb1705, 0, none⟩ (.int .i64 t1701)).setCell ⟨gb1705, 1, none⟩ (.int .i64 t1702)).heap[gb1656]? = some (.cells #[.slice none 0 0, .int .i64 0, .slice none 0 0, .int .i64 0, .int .i64 0, .slice none 0 0] 37 (0, 0))) := ⟨by (with_reducible repeat (first | refine blk_drewN ?_ _ | refine blk_drew ?_ | refine blk_alloc ?_ _)); refine blk_far ?_ NB1656_1705.out _; (with_reducible repeat (first | refine blk_drewN ?_ _ | refine blk_drew ?_ | refine blk_alloc ?_ _)); refine blk_far ?_ NB1656_1705.out _; (with_reducible repeat (first | refine blk_drewN ?_ _ | refine blk_drew ?_ | refine blk_alloc ?_ _)); exact BK1656.out⟩
      have n4_ : Aside0 (((w46.setCell ⟨gb1705, 0, none⟩ (.int .i64 t1701)).setCell ⟨gb1705, 1, none⟩ (.int .i64 t1702)).heap[gb1678]? = some (.cells #[u1679000, .int .i64 x1679001_1, u1679002, .int .i64 x1679003_1, .int .i64 x1679004_1, u1679005] 37 (0, 0))) := ⟨by (with_reducible repeat (first | refine blk_drewN ?_ _ | refine blk_drew ?_ | refine blk_alloc ?_ _)); refine blk_far ?_ NB1678_1705.out _; (with_reducible repeat (first | refine blk_drewN ?_ _ | refine blk_drew ?_ | refine blk_alloc ?_ _)); refine blk_far ?_ NB1678_1705.out _; (with_reducible repeat (first | refine blk_drewN ?_ _ | refine blk_drew ?_ | refine blk_alloc ?_ _)); exact BK1678.out⟩
      have n5_ : Aside0 (((w46.setCell ⟨gb1705, 0, none⟩ (.int .i64 t1701)).setCell ⟨gb1705, 1, none⟩ (.int .i64 t1702)).heap[gb1705]? = some (.cells #[.int .i64 t1701, .int .i64 t1702] 74 (0, 0))) := ⟨by (with_reducible repeat (first | refine blk_drewN ?_ _ | refine blk_drew ?_ | refine blk_alloc ?_ _)); refine blk_put (cs := #[.int .i64 t1701, .int .i64 0]) ?_ 1 _ rfl; (with_reducible repeat (first | refine blk_drewN ?_ _ | refine blk_drew ?_ | refine blk_alloc ?_ _)); refine blk_put (cs := #[.int .i64 0, .int .i64 0]) ?_ 0 _ rfl; (with_reducible repeat (first | refine blk_drewN ?_ _ | refine blk_drew ?_ | refine blk_alloc ?_ _)); exact BK1705.out⟩
      have n6_ : Aside0 (IsS132 w0 ((w46.setCell ⟨gb1705, 0, none⟩ (.int .i64 t1701)).setCell ⟨gb1705, 1, none⟩ (.int .i64 t1702)) g s0_0 t1703 t1704) := ⟨oI132 HI0⟩
      have n7_ : Aside0 (KeepBut w ((w46.setCell ⟨gb1705, 0, none⟩ (.int .i64 t1701)).setCell ⟨gb1705, 1, none⟩ (.int .i64 t1702)) g none) := ⟨oKe HK⟩
      have n8_ : Aside0 (Below w0.heap.size w0 ((w46.setCell ⟨gb1705, 0, none⟩ (.int .i64 t1701)).setCell ⟨gb1705, 1, none⟩ (.int .i64 t1702))) := ⟨oB132 HB⟩
      (try clear HO_1679000)
      (try clear HO_1679002)
      (try clear HO_1679005)
      (try clear BK1656)
      (try clear BK1678)
      (try clear BK1705)
      (try clear HI0)
      (try clear HK)
      (try clear HB)
      generalize ((w46.setCell ⟨gb1705, 0, none⟩ (.int .i64 t1701)).setCell ⟨gb1705, 1, none⟩ (.int .i64 t1702)) = w51 at n0_ n1_ n2_ n3_ n4_ n5_ n6_ n7_ n8_ ⊢
      have HO_1679000 := n0_
      have HO_1679002 := n1_
      have HO_1679005 := n2_
      have BK1656 := n3_
      have BK1678 := n4_
      have BK1705 := n5_
      have HI0 := n6_
      have HK := n7_
      have HB := n8_
      clear n0_ n1_ n2_ n3_ n4_ n5_ n6_ n7_ n8_
      have n0_ := A_ (Kd.R_drew HO_1679000.out)
      have n1_ := A_ (Kd.R_drew HO_1679002.out)
      have n2_ := A_ (Kd.R_drew HO_1679005.out)
      have n3_ := A_ (blk_drew BK1656.out)
      have n4_ := A_ (blk_drew BK1678.out)
      have n5_ := A_ (blk_drew BK1705.out)
      have n6_ := A_ (IsS132.drew HI0.out)
      have n7_ := A_ (keep_drew HK.out)
      have n8_ := A_ (below_drew1 HB.out)
      clear HO_1679000
      clear HO_1679002
      clear HO_1679005
      clear BK1656
      clear BK1678
      clear BK1705
      clear HI0
      clear HK
      clear HB
      have HO_1679000 := n0_
      have HO_1679002 := n1_
      have HO_1679005 := n2_
      have BK1656 := n3_
      have BK1678 := n4_
      have BK1705 := n5_
      have HI0 := n6_
      have HK := n7_
      have HB := n8_
      clear n0_ n1_ n2_ n3_ n4_ n5_ n6_ n7_ n8_
      refine start_ (n := 9) (S := fun w' => w'.cell? ⟨gb1678, 0, none⟩ = some (u1679000) ∧ w'.cell? ⟨gb1678, 1, none⟩ = some (.int .i64 x1679001_1) ∧ w'.cell? ⟨gb1678, 2, none⟩ = some (u1679002) ∧ w'.cell? ⟨gb1678, 3, none⟩ = some (.int .i64 x1679003_1) ∧ w'.cell? ⟨gb1678, 4, none⟩ = some (.int .i64 x1679004_1) ∧ w'.cell? ⟨gb1678, 5, none⟩ = some (u1679005) ∧ w'.cell? ⟨gb1705, 0, none⟩ = some (.int .i64 t1701) ∧ w'.cell? ⟨gb1705, 1, none⟩ = some (.int .i64 t1702)) (ds := [8]) #[false, false, false, false, false, false, false, false, false] (by kernel_rfl) rfl rfl ⟨cz BK1678 0, cz BK1678 1, cz BK1678 2, cz BK1678 3, cz BK1678 4, cz BK1678 5, cz BK1705 0, cz BK1705 1⟩ (fun hHeld => ?_); refine with_tabW spec_l38Shop.tab12 spec_l38Shop.bits12 (fun HT_ HW_ => ?_)
      generalize w51.drew = w52 at HO_1679000 HO_1679002 HO_1679005 BK1656 BK1678 BK1705 HI0 HK HB hHeld ⊢
      refine pA 2 (some 48) HT_.out ?_
      refine pT 0 (some 46) HT_.out HW_.out hHeld ?_
      refine pT 1 (some 47) HT_.out HW_.out hHeld ?_
      refine one_ (i := 3) (N := some 49) #[true, true, true, true, false, false, false, false, false] rfl rfl (one_of HT_.out (by kernel_rfl)) (by decide) (fun K hK => ?_)
      refine goes_ Tryz.func75 (by kernel_rfl) rfl #[.pointer (some ⟨g, 0, none⟩), .int .i64 3] (by rfl) rfl rfl (by (try simp only [List.map_toArray, List.map_cons, List.map_nil]); first | done | rfl | (simp only [List.length_drop, List.length_take]; rfl)) ?_
      with_reducible refine (spec_l01Below.calls g s0_0 t1703 t1704 3 t1706 t1707 t1708 w0 _ ?side1 ?side2 A42.out).mono ?_
      (case side1 => exact oI132 HI0)
      (case side2 => exact oB132 HB)
      rintro e w53 ⟨rfl, hi, hb, hk⟩
      refine ⟨_, rfl, ?_⟩
      have n0_ := A_ (Kd.R_mono (Kd.R_keep (IsS132.apart (show IsS132 w0 _ g s0_0 t1703 t1704 from oI132 HI0) (oR HO_1679000) (by decide)) hk (fun _ h => h.2)) (fun _ h => h.1))
      have n1_ := A_ (Kd.R_mono (Kd.R_keep (IsS132.apart (show IsS132 w0 _ g s0_0 t1703 t1704 from oI132 HI0) (oR HO_1679002) (by decide)) hk (fun _ h => h.2)) (fun _ h => h.1))
      have n2_ := A_ (Kd.R_mono (Kd.R_keep (IsS132.apart (show IsS132 w0 _ g s0_0 t1703 t1704 from oI132 HI0) (oR HO_1679005) (by decide)) hk (fun _ h => h.2)) (fun _ h => h.1))
      have n3_ := A_ (KeepBut.blk hk (g' := gb1656) (o := .cells #[.slice none 0 0, .int .i64 0, .slice none 0 0, .int .i64 0, .int .i64 0, .slice none 0 0] 37 (0, 0)) (oK BK1656) NB1656_0.out (by simp))
      have n4_ := A_ (KeepBut.blk hk (g' := gb1678) (o := .cells #[u1679000, .int .i64 x1679001_1, u1679002, .int .i64 x1679003_1, .int .i64 x1679004_1, u1679005] 37 (0, 0)) (oK BK1678) NB1678_0.out (by simp))
      have n5_ := A_ (KeepBut.blk hk (g' := gb1705) (o := .cells #[.int .i64 t1701, .int .i64 t1702] 74 (0, 0)) (oK BK1705) NB1705_0.out (by simp))
      have n6_ := A_ (KeepBut.trans (oKe HK) hk (.inl rfl))
      have n7_ := A_ (hb)
      have n8_ := A_ (hi)
      clear HO_1679000
      clear HO_1679002
      clear HO_1679005
      clear BK1656
      clear BK1678
      clear BK1705
      clear HK
      clear HB
      clear HI0
      have HO_1679000 := n0_
      have HO_1679002 := n1_
      have HO_1679005 := n2_
      have BK1656 := n3_
      have BK1678 := n4_
      have BK1705 := n5_
      have HK := n6_
      have HB := n7_
      have HI0 := n8_
      clear n0_ n1_ n2_ n3_ n4_ n5_ n6_ n7_ n8_
      (try clear hb)
      (try clear hb2)
      (try clear hk)
      (try clear hi)
      obtain ⟨Ao54, co54, eo54⟩ := Kd.R_slice HO_1679000.out
      (first | subst eo54 | (injection eo54 with f1_ f2_ f3_; have f4_ := f1_.symm; have f5_ := f3_.symm; clear f1_ f2_ f3_; subst f4_; subst f5_))
      obtain ⟨Ao55, co55, eo55⟩ := Kd.R_slice HO_1679002.out
      (first | subst eo55 | (injection eo55 with f1_ f2_ f3_; have f4_ := f1_.symm; have f5_ := f3_.symm; clear f1_ f2_ f3_; subst f4_; subst f5_))
      obtain ⟨Ao56, co56, eo56⟩ := Kd.R_slice HO_1679005.out
      (first | subst eo56 | (injection eo56 with f1_ f2_ f3_; have f4_ := f1_.symm; have f5_ := f3_.symm; clear f1_ f2_ f3_; subst f4_; subst f5_))
      refine hK.out _ _ ⟨cz BK1678 0, cz BK1678 1, cz BK1678 2, cz BK1678 3, cz BK1678 4, cz BK1678 5, cz BK1705 0, cz BK1705 1⟩ (fun hHeld => ?_)
      clear hK K
      refine norm_ (a' := ?_) ?_ ?_
      rotate_left
      ·show Act.put _ (some 49) _ = _
       simp only [Act.put, List.setIfInBounds_toArray, List.set_cons_zero, List.set_cons_succ, i64_w, i32_w]
       rfl
      refine one_ (i := 4) (N := some 50) #[true, true, true, true, true, false, false, false, false] rfl rfl (one_of HT_.out (by kernel_rfl)) (by decide) (fun K hK => ?_)
      refine goes_ Tryz.func49 (by kernel_rfl) rfl #[.agg #[.slice Ao54 x1679000_1.length co54, .int .i64 x1679001_1, .slice Ao55 x1679002_1.length co55, .int .i64 x1679003_1, .int .i64 x1679004_1, .slice Ao56 x1679005_1.length co56], .agg #[.int .i64 t1701, .int .i64 t1702], .int .i64 t1706] (by rfl) rfl rfl (by (try simp only [List.map_toArray, List.map_cons, List.map_nil]); first | done | rfl | (simp only [List.length_drop, List.length_take]; rfl)) ?_
      with_reducible refine (spec_ShopFault.calls k1 _ _ x1679000_1 x1679001_1 _ _ x1679002_1 x1679003_1 x1679004_1 _ _ x1679005_1 t1701 t1702 t1706 t1709 t1712 t1713 t1716 t1717 t1718 t1721 _ ?side1 ?side2 ?side3 ?side4 ?side5 ?side6 A43.out).mono ?_
      (case side1 => repeat (first | exact (Kd.R_reads' HO_1679000.out).2.2 | (with_reducible refine Kd.C_alloc ?_ _) | (with_reducible refine Kd.C_drewN ?_ _) | (with_reducible refine Kd.C_drew ?_)))
      (case side2 => exact (Kd.R_reads' HO_1679000.out).2.1)
      (case side3 => repeat (first | exact (Kd.R_reads' HO_1679002.out).2.2 | (with_reducible refine Kd.C_alloc ?_ _) | (with_reducible refine Kd.C_drewN ?_ _) | (with_reducible refine Kd.C_drew ?_)))
      (case side4 => exact (Kd.R_reads' HO_1679002.out).2.1)
      (case side5 => repeat (first | exact (Kd.R_reads' HO_1679005.out).2.2 | (with_reducible refine Kd.C_alloc ?_ _) | (with_reducible refine Kd.C_drewN ?_ _) | (with_reducible refine Kd.C_drew ?_)))
      (case side6 => exact (Kd.R_reads' HO_1679005.out).2.1)
      rintro e w57 ⟨v1710, v1714, v1719, rfl, ho0, ho1, ho2, hb⟩
      refine ⟨_, rfl, ?_⟩
      have n0_ := A_ (Kd.R_elder' (oR HO_1679000) (Kd.R_base ho0) hb)
      have n1_ := A_ (Kd.R_elder' (oR HO_1679002) (Kd.R_base ho1) hb)
      have n2_ := A_ (Kd.R_elder' (oR HO_1679005) (Kd.R_base ho2) hb)
      have n3_ := A_ (Kd.R_lower (Kd.R_new' ho0 (Kd.R_lt (oR HO_1679000))) (keep_size (w := w) (g := g) (row := none) (by repeat (first | (with_reducible first | exact HK.out | apply KeepBut.set_ | apply keep_drewN | apply keep_drew | apply keep_alloc | refine keep_far ?_ GW1656.out _ | refine keep_far ?_ GW1678.out _ | refine keep_far ?_ GW1705.out _) | exact HK.out))))
      have n4_ := A_ (Kd.R_lower (Kd.R_new' ho1 (Kd.R_lt (oR HO_1679002))) (keep_size (w := w) (g := g) (row := none) (by repeat (first | (with_reducible first | exact HK.out | apply KeepBut.set_ | apply keep_drewN | apply keep_drew | apply keep_alloc | refine keep_far ?_ GW1656.out _ | refine keep_far ?_ GW1678.out _ | refine keep_far ?_ GW1705.out _) | exact HK.out))))
      have n5_ := A_ (Kd.R_lower (Kd.R_new' ho2 (Kd.R_lt (oR HO_1679005))) (keep_size (w := w) (g := g) (row := none) (by repeat (first | (with_reducible first | exact HK.out | apply KeepBut.set_ | apply keep_drewN | apply keep_drew | apply keep_alloc | refine keep_far ?_ GW1656.out _ | refine keep_far ?_ GW1678.out _ | refine keep_far ?_ GW1705.out _) | exact HK.out))))
      have n6_ := A_ (bb BK1656 hb)
      have n7_ := A_ (bb BK1678 hb)
      have n8_ := A_ (IsS132.below (oI132 HI0) hb)
      have n9_ := A_ (bb BK1705 hb)
      have n10_ := A_ (KeepBut.trans (oKe HK) (KeepBut.of_below hb g none) (.inl rfl))
      have n11_ := A_ (below_step (oB132 HB) hb)
      clear HO_1679000
      clear HO_1679002
      clear HO_1679005
      clear BK1656
      clear BK1678
      clear HI0
      clear BK1705
      clear HK
      clear HB
      have HO_1679000 := n0_
      have HO_1679002 := n1_
      have HO_1679005 := n2_
      have HO1711 := n3_
      have HO1715 := n4_
      have HO1720 := n5_
      have BK1656 := n6_
      have BK1678 := n7_
      have HI0 := n8_
      have BK1705 := n9_
      have HK := n10_
      have HB := n11_
      clear n0_ n1_ n2_ n3_ n4_ n5_ n6_ n7_ n8_ n9_ n10_ n11_
      (try clear hb)
      (try clear hb2)
      (try clear hk)
      (try clear hi)
      (try clear ho0)
      (try clear ho1)
      (try clear ho2)
      obtain ⟨Ao58, co58, eo58⟩ := Kd.R_slice HO1711.out
      (first | subst eo58 | (injection eo58 with f1_ f2_ f3_; have f4_ := f1_.symm; have f5_ := f3_.symm; clear f1_ f2_ f3_; subst f4_; subst f5_))
      obtain ⟨Ao61, co61, eo61⟩ := Kd.R_slice HO1715.out
      (first | subst eo61 | (injection eo61 with f1_ f2_ f3_; have f4_ := f1_.symm; have f5_ := f3_.symm; clear f1_ f2_ f3_; subst f4_; subst f5_))
      obtain ⟨Ao65, co65, eo65⟩ := Kd.R_slice HO1720.out
      (first | subst eo65 | (injection eo65 with f1_ f2_ f3_; have f4_ := f1_.symm; have f5_ := f3_.symm; clear f1_ f2_ f3_; subst f4_; subst f5_))
      refine hK.out _ _ ⟨cz BK1678 0, cz BK1678 1, cz BK1678 2, cz BK1678 3, cz BK1678 4, cz BK1678 5, cz BK1705 0, cz BK1705 1⟩ (fun hHeld => ?_)
      clear hK K
      refine norm_ (a' := ?_) ?_ ?_
      rotate_left
      ·show Act.put _ (some 50) _ = _
       simp only [Act.put, List.setIfInBounds_toArray, List.set_cons_zero, List.set_cons_succ, i64_w, i32_w]
       rfl
      refine pA 5 (some 45) HT_.out ?_
      refine pA 6 (some 51) HT_.out ?_
      refine pA 7 (some 52) HT_.out ?_
      refine last_ (i := 8) (N := none) #[true, true, true, true, true, true, true, true, true] rfl rfl (one_of HT_.out (by kernel_rfl)) (by decide) (fun K hK => ?_)
      have hs59 := cz BK1678 0
      have hfs59 := blk_frozen BK1678.out 0
      have hns59_0 := NB1656_1678.out
      have hns59_2 := NB1705_1678.out
      have hms59_0 := NB1678_1656.out
      have hms59_2 := NB1678_1705.out
      have hs60 := cz BK1678 1
      have hfs60 := blk_frozen BK1678.out 1
      have hns60_0 := NB1656_1678.out
      have hns60_2 := NB1705_1678.out
      have hms60_0 := NB1678_1656.out
      have hms60_2 := NB1678_1705.out
      have hs62 := cz BK1678 2
      have hfs62 := blk_frozen BK1678.out 2
      have hns62_0 := NB1656_1678.out
      have hns62_2 := NB1705_1678.out
      have hms62_0 := NB1678_1656.out
      have hms62_2 := NB1678_1705.out
      have hs63 := cz BK1678 3
      have hfs63 := blk_frozen BK1678.out 3
      have hns63_0 := NB1656_1678.out
      have hns63_2 := NB1705_1678.out
      have hms63_0 := NB1678_1656.out
      have hms63_2 := NB1678_1705.out
      have hs64 := cz BK1678 4
      have hfs64 := blk_frozen BK1678.out 4
      have hns64_0 := NB1656_1678.out
      have hns64_2 := NB1705_1678.out
      have hms64_0 := NB1678_1656.out
      have hms64_2 := NB1678_1705.out
      have hs66 := cz BK1678 5
      have hfs66 := blk_frozen BK1678.out 5
      have hns66_0 := NB1656_1678.out
      have hns66_2 := NB1705_1678.out
      have hms66_0 := NB1678_1656.out
      have hms66_2 := NB1678_1705.out
      refine skip_ (w1 := ?_) (by rfl) rfl ?_ ?_
      rotate_left
      ·go_simp
       rfl
      refine hK.out _ _ ?_
      clear hK K
      refine done_ (done_of HT_.out (by kernel_rfl)) ?_
      try go_wp2
      go_roundg k1
      case measure => have := HK1.out; omega
      case rel => exact ⟨(wrap64 (x6_1 + 1)), (t1707), (t1708), (t1709), (t1712), (t1713), (t1716), (t1717), (t1718), (.slice Ao58 t1709.length co58), (.slice Ao61 t1713.length co61), (.slice Ao65 t1718.length co65), eS, H', ⟨by have := HK1.out; omega⟩, ⟨by (with_reducible repeat (first | apply Kd.R_alloc | apply Kd.R_drewN | apply Kd.R_drew)); exact Kd.R_mono (Kd.R_far (p := ⟨gb1678, 5, none⟩) (Kd.R_far (p := ⟨gb1678, 4, none⟩) (Kd.R_far (p := ⟨gb1678, 3, none⟩) (Kd.R_far (p := ⟨gb1678, 2, none⟩) (Kd.R_far (p := ⟨gb1678, 1, none⟩) (Kd.R_far (p := ⟨gb1678, 0, none⟩) (Kd.R_types HO1711.out BK1678.out (by decide)) (fun _ hk => hk.2) (.slice Ao58 t1709.length co58)) (fun _ hk => hk.2) (.int .i64 t1712)) (fun _ hk => hk.2) (.slice Ao61 t1713.length co61)) (fun _ hk => hk.2) (.int .i64 t1716)) (fun _ hk => hk.2) (.int .i64 t1717)) (fun _ hk => hk.2) (.slice Ao65 t1718.length co65)) (fun _ hk => trivial)⟩, ⟨by (with_reducible repeat (first | apply Kd.R_alloc | apply Kd.R_drewN | apply Kd.R_drew)); exact Kd.R_mono (Kd.R_far (p := ⟨gb1678, 5, none⟩) (Kd.R_far (p := ⟨gb1678, 4, none⟩) (Kd.R_far (p := ⟨gb1678, 3, none⟩) (Kd.R_far (p := ⟨gb1678, 2, none⟩) (Kd.R_far (p := ⟨gb1678, 1, none⟩) (Kd.R_far (p := ⟨gb1678, 0, none⟩) (Kd.R_types HO1715.out BK1678.out (by decide)) (fun _ hk => hk.2) (.slice Ao58 t1709.length co58)) (fun _ hk => hk.2) (.int .i64 t1712)) (fun _ hk => hk.2) (.slice Ao61 t1713.length co61)) (fun _ hk => hk.2) (.int .i64 t1716)) (fun _ hk => hk.2) (.int .i64 t1717)) (fun _ hk => hk.2) (.slice Ao65 t1718.length co65)) (fun _ hk => trivial)⟩, ⟨by (with_reducible repeat (first | apply Kd.R_alloc | apply Kd.R_drewN | apply Kd.R_drew)); exact Kd.R_mono (Kd.R_far (p := ⟨gb1678, 5, none⟩) (Kd.R_far (p := ⟨gb1678, 4, none⟩) (Kd.R_far (p := ⟨gb1678, 3, none⟩) (Kd.R_far (p := ⟨gb1678, 2, none⟩) (Kd.R_far (p := ⟨gb1678, 1, none⟩) (Kd.R_far (p := ⟨gb1678, 0, none⟩) (Kd.R_types HO1720.out BK1678.out (by decide)) (fun _ hk => hk.2) (.slice Ao58 t1709.length co58)) (fun _ hk => hk.2) (.int .i64 t1712)) (fun _ hk => hk.2) (.slice Ao61 t1713.length co61)) (fun _ hk => hk.2) (.int .i64 t1716)) (fun _ hk => hk.2) (.int .i64 t1717)) (fun _ hk => hk.2) (.slice Ao65 t1718.length co65)) (fun _ hk => trivial)⟩, ⟨by (with_reducible repeat (first | refine blk_drewN ?_ _ | refine blk_drew ?_ | refine blk_alloc ?_ _)); refine blk_far ?_ NB1656_1678.out _; (with_reducible repeat (first | refine blk_drewN ?_ _ | refine blk_drew ?_ | refine blk_alloc ?_ _)); refine blk_far ?_ NB1656_1678.out _; (with_reducible repeat (first | refine blk_drewN ?_ _ | refine blk_drew ?_ | refine blk_alloc ?_ _)); refine blk_far ?_ NB1656_1678.out _; (with_reducible repeat (first | refine blk_drewN ?_ _ | refine blk_drew ?_ | refine blk_alloc ?_ _)); refine blk_far ?_ NB1656_1678.out _; (with_reducible repeat (first | refine blk_drewN ?_ _ | refine blk_drew ?_ | refine blk_alloc ?_ _)); refine blk_far ?_ NB1656_1678.out _; (with_reducible repeat (first | refine blk_drewN ?_ _ | refine blk_drew ?_ | refine blk_alloc ?_ _)); refine blk_far ?_ NB1656_1678.out _; (with_reducible repeat (first | refine blk_drewN ?_ _ | refine blk_drew ?_ | refine blk_alloc ?_ _)); exact BK1656.out⟩, ⟨by (with_reducible repeat (first | refine blk_drewN ?_ _ | refine blk_drew ?_ | refine blk_alloc ?_ _)); refine blk_put (cs := #[.slice Ao58 t1709.length co58, .int .i64 t1712, .slice Ao61 t1713.length co61, .int .i64 t1716, .int .i64 t1717, .slice Ao56 x1679005_1.length co56]) ?_ 5 _ rfl; (with_reducible repeat (first | refine blk_drewN ?_ _ | refine blk_drew ?_ | refine blk_alloc ?_ _)); refine blk_put (cs := #[.slice Ao58 t1709.length co58, .int .i64 t1712, .slice Ao61 t1713.length co61, .int .i64 t1716, .int .i64 x1679004_1, .slice Ao56 x1679005_1.length co56]) ?_ 4 _ rfl; (with_reducible repeat (first | refine blk_drewN ?_ _ | refine blk_drew ?_ | refine blk_alloc ?_ _)); refine blk_put (cs := #[.slice Ao58 t1709.length co58, .int .i64 t1712, .slice Ao61 t1713.length co61, .int .i64 x1679003_1, .int .i64 x1679004_1, .slice Ao56 x1679005_1.length co56]) ?_ 3 _ rfl; (with_reducible repeat (first | refine blk_drewN ?_ _ | refine blk_drew ?_ | refine blk_alloc ?_ _)); refine blk_put (cs := #[.slice Ao58 t1709.length co58, .int .i64 t1712, .slice Ao55 x1679002_1.length co55, .int .i64 x1679003_1, .int .i64 x1679004_1, .slice Ao56 x1679005_1.length co56]) ?_ 2 _ rfl; (with_reducible repeat (first | refine blk_drewN ?_ _ | refine blk_drew ?_ | refine blk_alloc ?_ _)); refine blk_put (cs := #[.slice Ao58 t1709.length co58, .int .i64 x1679001_1, .slice Ao55 x1679002_1.length co55, .int .i64 x1679003_1, .int .i64 x1679004_1, .slice Ao56 x1679005_1.length co56]) ?_ 1 _ rfl; (with_reducible repeat (first | refine blk_drewN ?_ _ | refine blk_drew ?_ | refine blk_alloc ?_ _)); refine blk_put (cs := #[.slice Ao54 x1679000_1.length co54, .int .i64 x1679001_1, .slice Ao55 x1679002_1.length co55, .int .i64 x1679003_1, .int .i64 x1679004_1, .slice Ao56 x1679005_1.length co56]) ?_ 0 _ rfl; (with_reducible repeat (first | refine blk_drewN ?_ _ | refine blk_drew ?_ | refine blk_alloc ?_ _)); exact BK1678.out⟩, ⟨oI132 HI0⟩, ⟨oKe HK⟩, ⟨oB132 HB⟩⟩
     ·rw [if_neg c40] at H
      have c40b0 : (t1682 == 1) = false := beq_eq_false_iff_ne.mpr c40
      have c40b1 : (t1682 != 1) = true := bne_iff_ne.mpr c40
      by_cases c67 : t1682 = 2
      ·rw [if_pos c67] at H
       have c67b0 : (t1682 == 2) = true := beq_iff_eq.mpr c67
       have c67b1 : (t1682 != 2) = false := bne_eq_false_iff_eq.mpr c67
       clear c67
       replace H := Option.bind_eq_some_iff.mp H
       obtain ⟨⟨t1722, t1723, t1724⟩, A680, H⟩ := H
       (try dsimp only at H)
       have A68 := A_ A680
       clear A680
       replace H := Option.bind_eq_some_iff.mp H
       obtain ⟨⟨t1725, t1726, t1727⟩, A690, H⟩ := H
       (try dsimp only at H)
       have A69 := A_ A690
       clear A690
       replace H := Option.bind_eq_some_iff.mp H
       obtain ⟨⟨t1728, t1731, t1732, t1735, t1736, t1737, t1740⟩, A700, H⟩ := H
       (try dsimp only at H)
       have A70 := A_ A700
       clear A700
       have H' := A_ H
       clear H
       try go_wp2_with (first | ((with_reducible refine gate_callee (f := 75) rfl ?_); refine gL (some 26) Tryz.func75 #[.pointer (some ⟨g, 0, none⟩), .int .i64 8] ?_; (with_reducible refine (spec_l01Below.calls g s0_0 x1001_1 x1002_1 8 t1682 t1683 t1684 w0 _ ?side1 ?side2 A20.out).mono ?_); (case side1 => exact oI132 HI0); (case side2 => exact oB132 HB); rintro e w71 ⟨rfl, hi, hb, hk⟩; refine ⟨_, rfl, ?_⟩; have n0_ := A_ (Kd.R_mono (Kd.R_keep (IsS132.apart (show IsS132 w0 _ g s0_0 x1001_1 x1002_1 from oI132 HI0) (oR HO_1679000) (by decide)) hk (fun _ h => h.2)) (fun _ h => h.1)); have n1_ := A_ (Kd.R_mono (Kd.R_keep (IsS132.apart (show IsS132 w0 _ g s0_0 x1001_1 x1002_1 from oI132 HI0) (oR HO_1679002) (by decide)) hk (fun _ h => h.2)) (fun _ h => h.1)); have n2_ := A_ (Kd.R_mono (Kd.R_keep (IsS132.apart (show IsS132 w0 _ g s0_0 x1001_1 x1002_1 from oI132 HI0) (oR HO_1679005) (by decide)) hk (fun _ h => h.2)) (fun _ h => h.1)); have n3_ := A_ (KeepBut.blk hk (g' := gb1656) (o := .cells #[.slice none 0 0, .int .i64 0, .slice none 0 0, .int .i64 0, .int .i64 0, .slice none 0 0] 37 (0, 0)) (oK BK1656) NB1656_0.out (by simp)); have n4_ := A_ (KeepBut.blk hk (g' := gb1678) (o := .cells #[u1679000, .int .i64 x1679001_1, u1679002, .int .i64 x1679003_1, .int .i64 x1679004_1, u1679005] 37 (0, 0)) (oK BK1678) NB1678_0.out (by simp)); have n5_ := A_ (KeepBut.trans (oKe HK) hk (.inl rfl)); have n6_ := A_ (hb); have n7_ := A_ (hi); clear HO_1679000; clear HO_1679002; clear HO_1679005; clear BK1656; clear BK1678; clear HK; clear HB; clear HI0; have HO_1679000 := n0_; have HO_1679002 := n1_; have HO_1679005 := n2_; have BK1656 := n3_; have BK1678 := n4_; have HK := n5_; have HB := n6_; have HI0 := n7_; clear n0_ n1_ n2_ n3_ n4_ n5_ n6_ n7_; (try clear hb); (try clear hb2); (try clear hk); (try clear hi)) | ((with_reducible refine gate_callee (f := 75) rfl ?_); refine gL (some 56) Tryz.func75 #[.pointer (some ⟨g, 0, none⟩), .int .i64 12] ?_; (with_reducible refine (spec_l01Below.calls g s0_0 t1683 t1684 12 t1722 t1723 t1724 w0 _ ?side1 ?side2 A68.out).mono ?_); (case side1 => exact oI132 HI0); (case side2 => exact oB132 HB); rintro e w72 ⟨rfl, hi, hb, hk⟩; refine ⟨_, rfl, ?_⟩; have n0_ := A_ (Kd.R_mono (Kd.R_keep (IsS132.apart (show IsS132 w0 _ g s0_0 t1683 t1684 from oI132 HI0) (oR HO_1679000) (by decide)) hk (fun _ h => h.2)) (fun _ h => h.1)); have n1_ := A_ (Kd.R_mono (Kd.R_keep (IsS132.apart (show IsS132 w0 _ g s0_0 t1683 t1684 from oI132 HI0) (oR HO_1679002) (by decide)) hk (fun _ h => h.2)) (fun _ h => h.1)); have n2_ := A_ (Kd.R_mono (Kd.R_keep (IsS132.apart (show IsS132 w0 _ g s0_0 t1683 t1684 from oI132 HI0) (oR HO_1679005) (by decide)) hk (fun _ h => h.2)) (fun _ h => h.1)); have n3_ := A_ (KeepBut.blk hk (g' := gb1656) (o := .cells #[.slice none 0 0, .int .i64 0, .slice none 0 0, .int .i64 0, .int .i64 0, .slice none 0 0] 37 (0, 0)) (oK BK1656) NB1656_0.out (by simp)); have n4_ := A_ (KeepBut.blk hk (g' := gb1678) (o := .cells #[u1679000, .int .i64 x1679001_1, u1679002, .int .i64 x1679003_1, .int .i64 x1679004_1, u1679005] 37 (0, 0)) (oK BK1678) NB1678_0.out (by simp)); have n5_ := A_ (KeepBut.trans (oKe HK) hk (.inl rfl)); have n6_ := A_ (hb); have n7_ := A_ (hi); clear HO_1679000; clear HO_1679002; clear HO_1679005; clear BK1656; clear BK1678; clear HK; clear HB; clear HI0; have HO_1679000 := n0_; have HO_1679002 := n1_; have HO_1679005 := n2_; have BK1656 := n3_; have BK1678 := n4_; have HK := n5_; have HB := n6_; have HI0 := n7_; clear n0_ n1_ n2_ n3_ n4_ n5_ n6_ n7_; (try clear hb); (try clear hb2); (try clear hk); (try clear hi)))
       have n0_ := A_ (Kd.R_drew HO_1679000.out)
       have n1_ := A_ (Kd.R_drew HO_1679002.out)
       have n2_ := A_ (Kd.R_drew HO_1679005.out)
       have n3_ := A_ (blk_drew BK1656.out)
       have n4_ := A_ (blk_drew BK1678.out)
       have n5_ := A_ (IsS132.drew HI0.out)
       have n6_ := A_ (keep_drew HK.out)
       have n7_ := A_ (below_drew1 HB.out)
       clear HO_1679000
       clear HO_1679002
       clear HO_1679005
       clear BK1656
       clear BK1678
       clear HI0
       clear HK
       clear HB
       have HO_1679000 := n0_
       have HO_1679002 := n1_
       have HO_1679005 := n2_
       have BK1656 := n3_
       have BK1678 := n4_
       have HI0 := n5_
       have HK := n6_
       have HB := n7_
       clear n0_ n1_ n2_ n3_ n4_ n5_ n6_ n7_
       refine start_ (n := 10) (S := fun w' => w'.cell? ⟨gb1678, 0, none⟩ = some (u1679000) ∧ w'.cell? ⟨gb1678, 1, none⟩ = some (.int .i64 x1679001_1) ∧ w'.cell? ⟨gb1678, 2, none⟩ = some (u1679002) ∧ w'.cell? ⟨gb1678, 3, none⟩ = some (.int .i64 x1679003_1) ∧ w'.cell? ⟨gb1678, 4, none⟩ = some (.int .i64 x1679004_1) ∧ w'.cell? ⟨gb1678, 5, none⟩ = some (u1679005)) (ds := [9]) #[false, false, false, false, false, false, false, false, false, false] (by kernel_rfl) rfl rfl ⟨cz BK1678 0, cz BK1678 1, cz BK1678 2, cz BK1678 3, cz BK1678 4, cz BK1678 5⟩ (fun hHeld => ?_); refine with_tabW spec_l38Shop.tab15 spec_l38Shop.bits15 (fun HT_ HW_ => ?_)
       generalize w72.drew = w73 at HO_1679000 HO_1679002 HO_1679005 BK1656 BK1678 HI0 HK HB hHeld ⊢
       refine pA 1 (some 59) HT_.out ?_
       refine pA 2 (some 60) HT_.out ?_
       refine pT 0 (some 58) HT_.out HW_.out hHeld ?_
       refine one_ (i := 3) (N := some 61) #[true, true, true, true, false, false, false, false, false, false] rfl rfl (one_of HT_.out (by kernel_rfl)) (by decide) (fun K hK => ?_)
       refine goes_ Tryz.func75 (by kernel_rfl) rfl #[.pointer (some ⟨g, 0, none⟩), .int .i64 2001] (by rfl) rfl rfl (by (try simp only [List.map_toArray, List.map_cons, List.map_nil]); first | done | rfl | (simp only [List.length_drop, List.length_take]; rfl)) ?_
       with_reducible refine (spec_l01Below.calls g s0_0 t1723 t1724 2001 t1725 t1726 t1727 w0 _ ?side1 ?side2 A69.out).mono ?_
       (case side1 => exact oI132 HI0)
       (case side2 => exact oB132 HB)
       rintro e w74 ⟨rfl, hi, hb, hk⟩
       refine ⟨_, rfl, ?_⟩
       have n0_ := A_ (Kd.R_mono (Kd.R_keep (IsS132.apart (show IsS132 w0 _ g s0_0 t1723 t1724 from oI132 HI0) (oR HO_1679000) (by decide)) hk (fun _ h => h.2)) (fun _ h => h.1))
       have n1_ := A_ (Kd.R_mono (Kd.R_keep (IsS132.apart (show IsS132 w0 _ g s0_0 t1723 t1724 from oI132 HI0) (oR HO_1679002) (by decide)) hk (fun _ h => h.2)) (fun _ h => h.1))
       have n2_ := A_ (Kd.R_mono (Kd.R_keep (IsS132.apart (show IsS132 w0 _ g s0_0 t1723 t1724 from oI132 HI0) (oR HO_1679005) (by decide)) hk (fun _ h => h.2)) (fun _ h => h.1))
       have n3_ := A_ (KeepBut.blk hk (g' := gb1656) (o := .cells #[.slice none 0 0, .int .i64 0, .slice none 0 0, .int .i64 0, .int .i64 0, .slice none 0 0] 37 (0, 0)) (oK BK1656) NB1656_0.out (by simp))
       have n4_ := A_ (KeepBut.blk hk (g' := gb1678) (o := .cells #[u1679000, .int .i64 x1679001_1, u1679002, .int .i64 x1679003_1, .int .i64 x1679004_1, u1679005] 37 (0, 0)) (oK BK1678) NB1678_0.out (by simp))
       have n5_ := A_ (KeepBut.trans (oKe HK) hk (.inl rfl))
       have n6_ := A_ (hb)
       have n7_ := A_ (hi)
       clear HO_1679000
       clear HO_1679002
       clear HO_1679005
       clear BK1656
       clear BK1678
       clear HK
       clear HB
       clear HI0
       have HO_1679000 := n0_
       have HO_1679002 := n1_
       have HO_1679005 := n2_
       have BK1656 := n3_
       have BK1678 := n4_
       have HK := n5_
       have HB := n6_
       have HI0 := n7_
       clear n0_ n1_ n2_ n3_ n4_ n5_ n6_ n7_
       (try clear hb)
       (try clear hb2)
       (try clear hk)
       (try clear hi)
       obtain ⟨Ao75, co75, eo75⟩ := Kd.R_slice HO_1679000.out
       (first | subst eo75 | (injection eo75 with f1_ f2_ f3_; have f4_ := f1_.symm; have f5_ := f3_.symm; clear f1_ f2_ f3_; subst f4_; subst f5_))
       obtain ⟨Ao76, co76, eo76⟩ := Kd.R_slice HO_1679002.out
       (first | subst eo76 | (injection eo76 with f1_ f2_ f3_; have f4_ := f1_.symm; have f5_ := f3_.symm; clear f1_ f2_ f3_; subst f4_; subst f5_))
       obtain ⟨Ao77, co77, eo77⟩ := Kd.R_slice HO_1679005.out
       (first | subst eo77 | (injection eo77 with f1_ f2_ f3_; have f4_ := f1_.symm; have f5_ := f3_.symm; clear f1_ f2_ f3_; subst f4_; subst f5_))
       refine hK.out _ _ ⟨cz BK1678 0, cz BK1678 1, cz BK1678 2, cz BK1678 3, cz BK1678 4, cz BK1678 5⟩ (fun hHeld => ?_)
       clear hK K
       refine norm_ (a' := ?_) ?_ ?_
       rotate_left
       ·show Act.put _ (some 61) _ = _
        simp only [Act.put, List.setIfInBounds_toArray, List.set_cons_zero, List.set_cons_succ, i64_w, i32_w]
        rfl
       refine pA 4 (some 62) HT_.out ?_
       refine one_ (i := 5) (N := some 63) #[true, true, true, true, true, true, false, false, false, false] rfl rfl (one_of HT_.out (by kernel_rfl)) (by decide) (fun K hK => ?_)
       refine goes_ Tryz.func50 (by kernel_rfl) rfl #[.agg #[.slice Ao75 x1679000_1.length co75, .int .i64 x1679001_1, .slice Ao76 x1679002_1.length co76, .int .i64 x1679003_1, .int .i64 x1679004_1, .slice Ao77 x1679005_1.length co77], .int .i64 t1722, .int .i64 (wrap64 (t1725 - 1000))] (by rfl) rfl rfl (by (try simp only [List.map_toArray, List.map_cons, List.map_nil]); first | done | rfl | (simp only [List.length_drop, List.length_take]; rfl)) ?_
       with_reducible refine (spec_ShopKnock.calls k1 _ _ x1679000_1 x1679001_1 _ _ x1679002_1 x1679003_1 x1679004_1 _ _ x1679005_1 t1722 (wrap64 (t1725 - 1000)) t1728 t1731 t1732 t1735 t1736 t1737 t1740 _ ?side1 ?side2 ?side3 ?side4 ?side5 ?side6 A70.out).mono ?_
       (case side1 => repeat (first | exact (Kd.R_reads' HO_1679000.out).2.2 | (with_reducible refine Kd.C_alloc ?_ _) | (with_reducible refine Kd.C_drewN ?_ _) | (with_reducible refine Kd.C_drew ?_)))
       (case side2 => exact (Kd.R_reads' HO_1679000.out).2.1)
       (case side3 => repeat (first | exact (Kd.R_reads' HO_1679002.out).2.2 | (with_reducible refine Kd.C_alloc ?_ _) | (with_reducible refine Kd.C_drewN ?_ _) | (with_reducible refine Kd.C_drew ?_)))
       (case side4 => exact (Kd.R_reads' HO_1679002.out).2.1)
       (case side5 => repeat (first | exact (Kd.R_reads' HO_1679005.out).2.2 | (with_reducible refine Kd.C_alloc ?_ _) | (with_reducible refine Kd.C_drewN ?_ _) | (with_reducible refine Kd.C_drew ?_)))
       (case side6 => exact (Kd.R_reads' HO_1679005.out).2.1)
       rintro e w78 ⟨v1729, v1733, v1738, rfl, ho0, ho1, ho2, hb⟩
       refine ⟨_, rfl, ?_⟩
       have n0_ := A_ (Kd.R_elder' (oR HO_1679000) (Kd.R_base ho0) hb)
       have n1_ := A_ (Kd.R_elder' (oR HO_1679002) (Kd.R_base ho1) hb)
       have n2_ := A_ (Kd.R_elder' (oR HO_1679005) (Kd.R_base ho2) hb)
       have n3_ := A_ (Kd.R_lower (Kd.R_new' ho0 (Kd.R_lt (oR HO_1679000))) (keep_size (w := w) (g := g) (row := none) (by repeat (first | (with_reducible first | exact HK.out | apply KeepBut.set_ | apply keep_drewN | apply keep_drew | apply keep_alloc | refine keep_far ?_ GW1656.out _ | refine keep_far ?_ GW1678.out _) | exact HK.out))))
       have n4_ := A_ (Kd.R_lower (Kd.R_new' ho1 (Kd.R_lt (oR HO_1679002))) (keep_size (w := w) (g := g) (row := none) (by repeat (first | (with_reducible first | exact HK.out | apply KeepBut.set_ | apply keep_drewN | apply keep_drew | apply keep_alloc | refine keep_far ?_ GW1656.out _ | refine keep_far ?_ GW1678.out _) | exact HK.out))))
       have n5_ := A_ (Kd.R_lower (Kd.R_new' ho2 (Kd.R_lt (oR HO_1679005))) (keep_size (w := w) (g := g) (row := none) (by repeat (first | (with_reducible first | exact HK.out | apply KeepBut.set_ | apply keep_drewN | apply keep_drew | apply keep_alloc | refine keep_far ?_ GW1656.out _ | refine keep_far ?_ GW1678.out _) | exact HK.out))))
       have n6_ := A_ (bb BK1656 hb)
       have n7_ := A_ (bb BK1678 hb)
       have n8_ := A_ (IsS132.below (oI132 HI0) hb)
       have n9_ := A_ (KeepBut.trans (oKe HK) (KeepBut.of_below hb g none) (.inl rfl))
       have n10_ := A_ (below_step (oB132 HB) hb)
       clear HO_1679000
       clear HO_1679002
       clear HO_1679005
       clear BK1656
       clear BK1678
       clear HI0
       clear HK
       clear HB
       have HO_1679000 := n0_
       have HO_1679002 := n1_
       have HO_1679005 := n2_
       have HO1730 := n3_
       have HO1734 := n4_
       have HO1739 := n5_
       have BK1656 := n6_
       have BK1678 := n7_
       have HI0 := n8_
       have HK := n9_
       have HB := n10_
       clear n0_ n1_ n2_ n3_ n4_ n5_ n6_ n7_ n8_ n9_ n10_
       (try clear hb)
       (try clear hb2)
       (try clear hk)
       (try clear hi)
       (try clear ho0)
       (try clear ho1)
       (try clear ho2)
       obtain ⟨Ao79, co79, eo79⟩ := Kd.R_slice HO1730.out
       (first | subst eo79 | (injection eo79 with f1_ f2_ f3_; have f4_ := f1_.symm; have f5_ := f3_.symm; clear f1_ f2_ f3_; subst f4_; subst f5_))
       obtain ⟨Ao82, co82, eo82⟩ := Kd.R_slice HO1734.out
       (first | subst eo82 | (injection eo82 with f1_ f2_ f3_; have f4_ := f1_.symm; have f5_ := f3_.symm; clear f1_ f2_ f3_; subst f4_; subst f5_))
       obtain ⟨Ao86, co86, eo86⟩ := Kd.R_slice HO1739.out
       (first | subst eo86 | (injection eo86 with f1_ f2_ f3_; have f4_ := f1_.symm; have f5_ := f3_.symm; clear f1_ f2_ f3_; subst f4_; subst f5_))
       refine hK.out _ _ ⟨cz BK1678 0, cz BK1678 1, cz BK1678 2, cz BK1678 3, cz BK1678 4, cz BK1678 5⟩ (fun hHeld => ?_)
       clear hK K
       refine norm_ (a' := ?_) ?_ ?_
       rotate_left
       ·show Act.put _ (some 63) _ = _
        simp only [Act.put, List.setIfInBounds_toArray, List.set_cons_zero, List.set_cons_succ, i64_w, i32_w]
        rfl
       refine pA 6 (some 57) HT_.out ?_
       refine pA 7 (some 64) HT_.out ?_
       refine pA 8 (some 65) HT_.out ?_
       refine last_ (i := 9) (N := none) #[true, true, true, true, true, true, true, true, true, true] rfl rfl (one_of HT_.out (by kernel_rfl)) (by decide) (fun K hK => ?_)
       have hs80 := cz BK1678 0
       have hfs80 := blk_frozen BK1678.out 0
       have hns80_0 := NB1656_1678.out
       have hms80_0 := NB1678_1656.out
       have hs81 := cz BK1678 1
       have hfs81 := blk_frozen BK1678.out 1
       have hns81_0 := NB1656_1678.out
       have hms81_0 := NB1678_1656.out
       have hs83 := cz BK1678 2
       have hfs83 := blk_frozen BK1678.out 2
       have hns83_0 := NB1656_1678.out
       have hms83_0 := NB1678_1656.out
       have hs84 := cz BK1678 3
       have hfs84 := blk_frozen BK1678.out 3
       have hns84_0 := NB1656_1678.out
       have hms84_0 := NB1678_1656.out
       have hs85 := cz BK1678 4
       have hfs85 := blk_frozen BK1678.out 4
       have hns85_0 := NB1656_1678.out
       have hms85_0 := NB1678_1656.out
       have hs87 := cz BK1678 5
       have hfs87 := blk_frozen BK1678.out 5
       have hns87_0 := NB1656_1678.out
       have hms87_0 := NB1678_1656.out
       refine skip_ (w1 := ?_) (by rfl) rfl ?_ ?_
       rotate_left
       ·go_simp
        rfl
       refine hK.out _ _ ?_
       clear hK K
       refine done_ (done_of HT_.out (by kernel_rfl)) ?_
       try go_wp2
       go_roundg k1
       case measure => have := HK1.out; omega
       case rel => exact ⟨(wrap64 (x6_1 + 1)), (t1726), (t1727), (t1728), (t1731), (t1732), (t1735), (t1736), (t1737), (.slice Ao79 t1728.length co79), (.slice Ao82 t1732.length co82), (.slice Ao86 t1737.length co86), eS, H', ⟨by have := HK1.out; omega⟩, ⟨by (with_reducible repeat (first | apply Kd.R_alloc | apply Kd.R_drewN | apply Kd.R_drew)); exact Kd.R_mono (Kd.R_far (p := ⟨gb1678, 5, none⟩) (Kd.R_far (p := ⟨gb1678, 4, none⟩) (Kd.R_far (p := ⟨gb1678, 3, none⟩) (Kd.R_far (p := ⟨gb1678, 2, none⟩) (Kd.R_far (p := ⟨gb1678, 1, none⟩) (Kd.R_far (p := ⟨gb1678, 0, none⟩) (Kd.R_types HO1730.out BK1678.out (by decide)) (fun _ hk => hk.2) (.slice Ao79 t1728.length co79)) (fun _ hk => hk.2) (.int .i64 t1731)) (fun _ hk => hk.2) (.slice Ao82 t1732.length co82)) (fun _ hk => hk.2) (.int .i64 t1735)) (fun _ hk => hk.2) (.int .i64 t1736)) (fun _ hk => hk.2) (.slice Ao86 t1737.length co86)) (fun _ hk => trivial)⟩, ⟨by (with_reducible repeat (first | apply Kd.R_alloc | apply Kd.R_drewN | apply Kd.R_drew)); exact Kd.R_mono (Kd.R_far (p := ⟨gb1678, 5, none⟩) (Kd.R_far (p := ⟨gb1678, 4, none⟩) (Kd.R_far (p := ⟨gb1678, 3, none⟩) (Kd.R_far (p := ⟨gb1678, 2, none⟩) (Kd.R_far (p := ⟨gb1678, 1, none⟩) (Kd.R_far (p := ⟨gb1678, 0, none⟩) (Kd.R_types HO1734.out BK1678.out (by decide)) (fun _ hk => hk.2) (.slice Ao79 t1728.length co79)) (fun _ hk => hk.2) (.int .i64 t1731)) (fun _ hk => hk.2) (.slice Ao82 t1732.length co82)) (fun _ hk => hk.2) (.int .i64 t1735)) (fun _ hk => hk.2) (.int .i64 t1736)) (fun _ hk => hk.2) (.slice Ao86 t1737.length co86)) (fun _ hk => trivial)⟩, ⟨by (with_reducible repeat (first | apply Kd.R_alloc | apply Kd.R_drewN | apply Kd.R_drew)); exact Kd.R_mono (Kd.R_far (p := ⟨gb1678, 5, none⟩) (Kd.R_far (p := ⟨gb1678, 4, none⟩) (Kd.R_far (p := ⟨gb1678, 3, none⟩) (Kd.R_far (p := ⟨gb1678, 2, none⟩) (Kd.R_far (p := ⟨gb1678, 1, none⟩) (Kd.R_far (p := ⟨gb1678, 0, none⟩) (Kd.R_types HO1739.out BK1678.out (by decide)) (fun _ hk => hk.2) (.slice Ao79 t1728.length co79)) (fun _ hk => hk.2) (.int .i64 t1731)) (fun _ hk => hk.2) (.slice Ao82 t1732.length co82)) (fun _ hk => hk.2) (.int .i64 t1735)) (fun _ hk => hk.2) (.int .i64 t1736)) (fun _ hk => hk.2) (.slice Ao86 t1737.length co86)) (fun _ hk => trivial)⟩, ⟨by (with_reducible repeat (first | refine blk_drewN ?_ _ | refine blk_drew ?_ | refine blk_alloc ?_ _)); refine blk_far ?_ NB1656_1678.out _; (with_reducible repeat (first | refine blk_drewN ?_ _ | refine blk_drew ?_ | refine blk_alloc ?_ _)); refine blk_far ?_ NB1656_1678.out _; (with_reducible repeat (first | refine blk_drewN ?_ _ | refine blk_drew ?_ | refine blk_alloc ?_ _)); refine blk_far ?_ NB1656_1678.out _; (with_reducible repeat (first | refine blk_drewN ?_ _ | refine blk_drew ?_ | refine blk_alloc ?_ _)); refine blk_far ?_ NB1656_1678.out _; (with_reducible repeat (first | refine blk_drewN ?_ _ | refine blk_drew ?_ | refine blk_alloc ?_ _)); refine blk_far ?_ NB1656_1678.out _; (with_reducible repeat (first | refine blk_drewN ?_ _ | refine blk_drew ?_ | refine blk_alloc ?_ _)); refine blk_far ?_ NB1656_1678.out _; (with_reducible repeat (first | refine blk_drewN ?_ _ | refine blk_drew ?_ | refine blk_alloc ?_ _)); exact BK1656.out⟩, ⟨by (with_reducible repeat (first | refine blk_drewN ?_ _ | refine blk_drew ?_ | refine blk_alloc ?_ _)); refine blk_put (cs := #[.slice Ao79 t1728.length co79, .int .i64 t1731, .slice Ao82 t1732.length co82, .int .i64 t1735, .int .i64 t1736, .slice Ao77 x1679005_1.length co77]) ?_ 5 _ rfl; (with_reducible repeat (first | refine blk_drewN ?_ _ | refine blk_drew ?_ | refine blk_alloc ?_ _)); refine blk_put (cs := #[.slice Ao79 t1728.length co79, .int .i64 t1731, .slice Ao82 t1732.length co82, .int .i64 t1735, .int .i64 x1679004_1, .slice Ao77 x1679005_1.length co77]) ?_ 4 _ rfl; (with_reducible repeat (first | refine blk_drewN ?_ _ | refine blk_drew ?_ | refine blk_alloc ?_ _)); refine blk_put (cs := #[.slice Ao79 t1728.length co79, .int .i64 t1731, .slice Ao82 t1732.length co82, .int .i64 x1679003_1, .int .i64 x1679004_1, .slice Ao77 x1679005_1.length co77]) ?_ 3 _ rfl; (with_reducible repeat (first | refine blk_drewN ?_ _ | refine blk_drew ?_ | refine blk_alloc ?_ _)); refine blk_put (cs := #[.slice Ao79 t1728.length co79, .int .i64 t1731, .slice Ao76 x1679002_1.length co76, .int .i64 x1679003_1, .int .i64 x1679004_1, .slice Ao77 x1679005_1.length co77]) ?_ 2 _ rfl; (with_reducible repeat (first | refine blk_drewN ?_ _ | refine blk_drew ?_ | refine blk_alloc ?_ _)); refine blk_put (cs := #[.slice Ao79 t1728.length co79, .int .i64 x1679001_1, .slice Ao76 x1679002_1.length co76, .int .i64 x1679003_1, .int .i64 x1679004_1, .slice Ao77 x1679005_1.length co77]) ?_ 1 _ rfl; (with_reducible repeat (first | refine blk_drewN ?_ _ | refine blk_drew ?_ | refine blk_alloc ?_ _)); refine blk_put (cs := #[.slice Ao75 x1679000_1.length co75, .int .i64 x1679001_1, .slice Ao76 x1679002_1.length co76, .int .i64 x1679003_1, .int .i64 x1679004_1, .slice Ao77 x1679005_1.length co77]) ?_ 0 _ rfl; (with_reducible repeat (first | refine blk_drewN ?_ _ | refine blk_drew ?_ | refine blk_alloc ?_ _)); exact BK1678.out⟩, ⟨oI132 HI0⟩, ⟨oKe HK⟩, ⟨oB132 HB⟩⟩
      ·rw [if_neg c67] at H
       have c67b0 : (t1682 == 2) = false := beq_eq_false_iff_ne.mpr c67
       have c67b1 : (t1682 != 2) = true := bne_iff_ne.mpr c67
       replace H := Option.bind_eq_some_iff.mp H
       obtain ⟨⟨t1741, t1744, t1745, t1748, t1749, t1750, t1753⟩, A880, H⟩ := H
       (try dsimp only at H)
       have A88 := A_ A880
       clear A880
       have H' := A_ H
       clear H
       go_wp2_with (first | ((with_reducible refine gate_callee (f := 75) rfl ?_); refine gL (some 26) Tryz.func75 #[.pointer (some ⟨g, 0, none⟩), .int .i64 8] ?_; (with_reducible refine (spec_l01Below.calls g s0_0 x1001_1 x1002_1 8 t1682 t1683 t1684 w0 _ ?side1 ?side2 A20.out).mono ?_); (case side1 => exact oI132 HI0); (case side2 => exact oB132 HB); rintro e w89 ⟨rfl, hi, hb, hk⟩; refine ⟨_, rfl, ?_⟩; have n0_ := A_ (Kd.R_mono (Kd.R_keep (IsS132.apart (show IsS132 w0 _ g s0_0 x1001_1 x1002_1 from oI132 HI0) (oR HO_1679000) (by decide)) hk (fun _ h => h.2)) (fun _ h => h.1)); have n1_ := A_ (Kd.R_mono (Kd.R_keep (IsS132.apart (show IsS132 w0 _ g s0_0 x1001_1 x1002_1 from oI132 HI0) (oR HO_1679002) (by decide)) hk (fun _ h => h.2)) (fun _ h => h.1)); have n2_ := A_ (Kd.R_mono (Kd.R_keep (IsS132.apart (show IsS132 w0 _ g s0_0 x1001_1 x1002_1 from oI132 HI0) (oR HO_1679005) (by decide)) hk (fun _ h => h.2)) (fun _ h => h.1)); have n3_ := A_ (KeepBut.blk hk (g' := gb1656) (o := .cells #[.slice none 0 0, .int .i64 0, .slice none 0 0, .int .i64 0, .int .i64 0, .slice none 0 0] 37 (0, 0)) (oK BK1656) NB1656_0.out (by simp)); have n4_ := A_ (KeepBut.blk hk (g' := gb1678) (o := .cells #[u1679000, .int .i64 x1679001_1, u1679002, .int .i64 x1679003_1, .int .i64 x1679004_1, u1679005] 37 (0, 0)) (oK BK1678) NB1678_0.out (by simp)); have n5_ := A_ (KeepBut.trans (oKe HK) hk (.inl rfl)); have n6_ := A_ (hb); have n7_ := A_ (hi); clear HO_1679000; clear HO_1679002; clear HO_1679005; clear BK1656; clear BK1678; clear HK; clear HB; clear HI0; have HO_1679000 := n0_; have HO_1679002 := n1_; have HO_1679005 := n2_; have BK1656 := n3_; have BK1678 := n4_; have HK := n5_; have HB := n6_; have HI0 := n7_; clear n0_ n1_ n2_ n3_ n4_ n5_ n6_ n7_; (try clear hb); (try clear hb2); (try clear hk); (try clear hi); have hnb90 := NB1678_1656.out; have hnc90 := NB1656_1678.out; have hnb91 := NB1678_0.out; have hnc91 := NB0_1678.out; have hcz92_0 := cz BK1678 0; have hcz92_1 := cz BK1678 1; have hcz92_2 := cz BK1678 2; have hcz92_3 := cz BK1678 3; have hcz92_4 := cz BK1678 4; have hcz92_5 := cz BK1678 5; have hfz92_0 := blk_frozen BK1678.out 0; have hfz92_1 := blk_frozen BK1678.out 1; have hfz92_2 := blk_frozen BK1678.out 2; have hfz92_3 := blk_frozen BK1678.out 3; have hfz92_4 := blk_frozen BK1678.out 4; have hfz92_5 := blk_frozen BK1678.out 5; obtain ⟨Ao93, co93, eo93⟩ := Kd.R_slice HO_1679000.out; subst eo93; obtain ⟨Ao94, co94, eo94⟩ := Kd.R_slice HO_1679002.out; subst eo94; obtain ⟨Ao95, co95, eo95⟩ := Kd.R_slice HO_1679005.out; subst eo95) | ((with_reducible refine gate_callee (f := 47) rfl ?_); refine gL (some 29) Tryz.func47 #[.agg #[.slice Ao93 x1679000_1.length co93, .int .i64 x1679001_1, .slice Ao94 x1679002_1.length co94, .int .i64 x1679003_1, .int .i64 x1679004_1, .slice Ao95 x1679005_1.length co95]] ?_; (with_reducible refine (spec_ShopTune.calls k1 _ _ x1679000_1 x1679001_1 _ _ x1679002_1 x1679003_1 x1679004_1 _ _ x1679005_1 t1741 t1744 t1745 t1748 t1749 t1750 t1753 _ ?side1 ?side2 ?side3 ?side4 ?side5 ?side6 A88.out).mono ?_); (case side1 => repeat (first | exact (Kd.R_reads' HO_1679000.out).2.2 | (with_reducible refine Kd.C_alloc ?_ _) | (with_reducible refine Kd.C_drewN ?_ _) | (with_reducible refine Kd.C_drew ?_))); (case side2 => exact (Kd.R_reads' HO_1679000.out).2.1); (case side3 => repeat (first | exact (Kd.R_reads' HO_1679002.out).2.2 | (with_reducible refine Kd.C_alloc ?_ _) | (with_reducible refine Kd.C_drewN ?_ _) | (with_reducible refine Kd.C_drew ?_))); (case side4 => exact (Kd.R_reads' HO_1679002.out).2.1); (case side5 => repeat (first | exact (Kd.R_reads' HO_1679005.out).2.2 | (with_reducible refine Kd.C_alloc ?_ _) | (with_reducible refine Kd.C_drewN ?_ _) | (with_reducible refine Kd.C_drew ?_))); (case side6 => exact (Kd.R_reads' HO_1679005.out).2.1); rintro e w96 ⟨v1742, v1746, v1751, rfl, ho0, ho1, ho2, hb⟩; refine ⟨_, rfl, ?_⟩; have n0_ := A_ (Kd.R_elder' (oR HO_1679000) (Kd.R_base ho0) hb); have n1_ := A_ (Kd.R_elder' (oR HO_1679002) (Kd.R_base ho1) hb); have n2_ := A_ (Kd.R_elder' (oR HO_1679005) (Kd.R_base ho2) hb); have n3_ := A_ (Kd.R_lower (Kd.R_new' ho0 (Kd.R_lt (oR HO_1679000))) (keep_size (w := w) (g := g) (row := none) (by repeat (first | (with_reducible first | exact HK.out | apply KeepBut.set_ | apply keep_drewN | apply keep_drew | apply keep_alloc | refine keep_far ?_ GW1656.out _ | refine keep_far ?_ GW1678.out _) | exact HK.out)))); have n4_ := A_ (Kd.R_lower (Kd.R_new' ho1 (Kd.R_lt (oR HO_1679002))) (keep_size (w := w) (g := g) (row := none) (by repeat (first | (with_reducible first | exact HK.out | apply KeepBut.set_ | apply keep_drewN | apply keep_drew | apply keep_alloc | refine keep_far ?_ GW1656.out _ | refine keep_far ?_ GW1678.out _) | exact HK.out)))); have n5_ := A_ (Kd.R_lower (Kd.R_new' ho2 (Kd.R_lt (oR HO_1679005))) (keep_size (w := w) (g := g) (row := none) (by repeat (first | (with_reducible first | exact HK.out | apply KeepBut.set_ | apply keep_drewN | apply keep_drew | apply keep_alloc | refine keep_far ?_ GW1656.out _ | refine keep_far ?_ GW1678.out _) | exact HK.out)))); have n6_ := A_ (bb BK1656 hb); have n7_ := A_ (bb BK1678 hb); have n8_ := A_ (IsS132.below (oI132 HI0) hb); have n9_ := A_ (KeepBut.trans (oKe HK) (KeepBut.of_below hb g none) (.inl rfl)); have n10_ := A_ (below_step (oB132 HB) hb); clear HO_1679000; clear HO_1679002; clear HO_1679005; clear BK1656; clear BK1678; clear HI0; clear HK; clear HB; have HO_1679000 := n0_; have HO_1679002 := n1_; have HO_1679005 := n2_; have HO1743 := n3_; have HO1747 := n4_; have HO1752 := n5_; have BK1656 := n6_; have BK1678 := n7_; have HI0 := n8_; have HK := n9_; have HB := n10_; clear n0_ n1_ n2_ n3_ n4_ n5_ n6_ n7_ n8_ n9_ n10_; (try clear hb); (try clear hb2); (try clear hk); (try clear hi); (try clear ho0); (try clear ho1); (try clear ho2); obtain ⟨Ao97, co97, eo97⟩ := Kd.R_slice HO1743.out; subst eo97; have hcz98_0 := cz BK1678 0; have hcz98_1 := cz BK1678 1; have hcz98_2 := cz BK1678 2; have hcz98_3 := cz BK1678 3; have hcz98_4 := cz BK1678 4; have hcz98_5 := cz BK1678 5; have hfz98_0 := blk_frozen BK1678.out 0; have hfz98_1 := blk_frozen BK1678.out 1; have hfz98_2 := blk_frozen BK1678.out 2; have hfz98_3 := blk_frozen BK1678.out 3; have hfz98_4 := blk_frozen BK1678.out 4; have hfz98_5 := blk_frozen BK1678.out 5; obtain ⟨Ao99, co99, eo99⟩ := Kd.R_slice HO1747.out; subst eo99; obtain ⟨Ao100, co100, eo100⟩ := Kd.R_slice HO1752.out; subst eo100))
       go_roundg k1
       case measure => have := HK1.out; omega
       case rel => exact ⟨(wrap64 (x6_1 + 1)), (t1683), (t1684), (t1741), (t1744), (t1745), (t1748), (t1749), (t1750), (.slice Ao97 t1741.length co97), (.slice Ao99 t1745.length co99), (.slice Ao100 t1750.length co100), eS, H', ⟨by have := HK1.out; omega⟩, ⟨by (with_reducible repeat (first | apply Kd.R_alloc | apply Kd.R_drewN | apply Kd.R_drew)); exact Kd.R_mono (Kd.R_far (p := ⟨gb1678, 5, none⟩) (Kd.R_far (p := ⟨gb1678, 4, none⟩) (Kd.R_far (p := ⟨gb1678, 3, none⟩) (Kd.R_far (p := ⟨gb1678, 2, none⟩) (Kd.R_far (p := ⟨gb1678, 1, none⟩) (Kd.R_far (p := ⟨gb1678, 0, none⟩) (Kd.R_types HO1743.out BK1678.out (by decide)) (fun _ hk => hk.2) (.slice Ao97 t1741.length co97)) (fun _ hk => hk.2) (.int .i64 t1744)) (fun _ hk => hk.2) (.slice Ao99 t1745.length co99)) (fun _ hk => hk.2) (.int .i64 t1748)) (fun _ hk => hk.2) (.int .i64 t1749)) (fun _ hk => hk.2) (.slice Ao100 t1750.length co100)) (fun _ hk => trivial)⟩, ⟨by (with_reducible repeat (first | apply Kd.R_alloc | apply Kd.R_drewN | apply Kd.R_drew)); exact Kd.R_mono (Kd.R_far (p := ⟨gb1678, 5, none⟩) (Kd.R_far (p := ⟨gb1678, 4, none⟩) (Kd.R_far (p := ⟨gb1678, 3, none⟩) (Kd.R_far (p := ⟨gb1678, 2, none⟩) (Kd.R_far (p := ⟨gb1678, 1, none⟩) (Kd.R_far (p := ⟨gb1678, 0, none⟩) (Kd.R_types HO1747.out BK1678.out (by decide)) (fun _ hk => hk.2) (.slice Ao97 t1741.length co97)) (fun _ hk => hk.2) (.int .i64 t1744)) (fun _ hk => hk.2) (.slice Ao99 t1745.length co99)) (fun _ hk => hk.2) (.int .i64 t1748)) (fun _ hk => hk.2) (.int .i64 t1749)) (fun _ hk => hk.2) (.slice Ao100 t1750.length co100)) (fun _ hk => trivial)⟩, ⟨by (with_reducible repeat (first | apply Kd.R_alloc | apply Kd.R_drewN | apply Kd.R_drew)); exact Kd.R_mono (Kd.R_far (p := ⟨gb1678, 5, none⟩) (Kd.R_far (p := ⟨gb1678, 4, none⟩) (Kd.R_far (p := ⟨gb1678, 3, none⟩) (Kd.R_far (p := ⟨gb1678, 2, none⟩) (Kd.R_far (p := ⟨gb1678, 1, none⟩) (Kd.R_far (p := ⟨gb1678, 0, none⟩) (Kd.R_types HO1752.out BK1678.out (by decide)) (fun _ hk => hk.2) (.slice Ao97 t1741.length co97)) (fun _ hk => hk.2) (.int .i64 t1744)) (fun _ hk => hk.2) (.slice Ao99 t1745.length co99)) (fun _ hk => hk.2) (.int .i64 t1748)) (fun _ hk => hk.2) (.int .i64 t1749)) (fun _ hk => hk.2) (.slice Ao100 t1750.length co100)) (fun _ hk => trivial)⟩, ⟨by (with_reducible repeat (first | refine blk_drewN ?_ _ | refine blk_drew ?_ | refine blk_alloc ?_ _)); refine blk_far ?_ NB1656_1678.out _; (with_reducible repeat (first | refine blk_drewN ?_ _ | refine blk_drew ?_ | refine blk_alloc ?_ _)); refine blk_far ?_ NB1656_1678.out _; (with_reducible repeat (first | refine blk_drewN ?_ _ | refine blk_drew ?_ | refine blk_alloc ?_ _)); refine blk_far ?_ NB1656_1678.out _; (with_reducible repeat (first | refine blk_drewN ?_ _ | refine blk_drew ?_ | refine blk_alloc ?_ _)); refine blk_far ?_ NB1656_1678.out _; (with_reducible repeat (first | refine blk_drewN ?_ _ | refine blk_drew ?_ | refine blk_alloc ?_ _)); refine blk_far ?_ NB1656_1678.out _; (with_reducible repeat (first | refine blk_drewN ?_ _ | refine blk_drew ?_ | refine blk_alloc ?_ _)); refine blk_far ?_ NB1656_1678.out _; (with_reducible repeat (first | refine blk_drewN ?_ _ | refine blk_drew ?_ | refine blk_alloc ?_ _)); exact BK1656.out⟩, ⟨by (with_reducible repeat (first | refine blk_drewN ?_ _ | refine blk_drew ?_ | refine blk_alloc ?_ _)); refine blk_put (cs := #[.slice Ao97 t1741.length co97, .int .i64 t1744, .slice Ao99 t1745.length co99, .int .i64 t1748, .int .i64 t1749, .slice Ao95 x1679005_1.length co95]) ?_ 5 _ rfl; (with_reducible repeat (first | refine blk_drewN ?_ _ | refine blk_drew ?_ | refine blk_alloc ?_ _)); refine blk_put (cs := #[.slice Ao97 t1741.length co97, .int .i64 t1744, .slice Ao99 t1745.length co99, .int .i64 t1748, .int .i64 x1679004_1, .slice Ao95 x1679005_1.length co95]) ?_ 4 _ rfl; (with_reducible repeat (first | refine blk_drewN ?_ _ | refine blk_drew ?_ | refine blk_alloc ?_ _)); refine blk_put (cs := #[.slice Ao97 t1741.length co97, .int .i64 t1744, .slice Ao99 t1745.length co99, .int .i64 x1679003_1, .int .i64 x1679004_1, .slice Ao95 x1679005_1.length co95]) ?_ 3 _ rfl; (with_reducible repeat (first | refine blk_drewN ?_ _ | refine blk_drew ?_ | refine blk_alloc ?_ _)); refine blk_put (cs := #[.slice Ao97 t1741.length co97, .int .i64 t1744, .slice Ao94 x1679002_1.length co94, .int .i64 x1679003_1, .int .i64 x1679004_1, .slice Ao95 x1679005_1.length co95]) ?_ 2 _ rfl; (with_reducible repeat (first | refine blk_drewN ?_ _ | refine blk_drew ?_ | refine blk_alloc ?_ _)); refine blk_put (cs := #[.slice Ao97 t1741.length co97, .int .i64 x1679001_1, .slice Ao94 x1679002_1.length co94, .int .i64 x1679003_1, .int .i64 x1679004_1, .slice Ao95 x1679005_1.length co95]) ?_ 1 _ rfl; (with_reducible repeat (first | refine blk_drewN ?_ _ | refine blk_drew ?_ | refine blk_alloc ?_ _)); refine blk_put (cs := #[.slice Ao93 x1679000_1.length co93, .int .i64 x1679001_1, .slice Ao94 x1679002_1.length co94, .int .i64 x1679003_1, .int .i64 x1679004_1, .slice Ao95 x1679005_1.length co95]) ?_ 0 _ rfl; (with_reducible repeat (first | refine blk_drewN ?_ _ | refine blk_drew ?_ | refine blk_alloc ?_ _)); exact BK1678.out⟩, ⟨oI132 HI0⟩, ⟨oKe HK⟩, ⟨oB132 HB⟩⟩
   ·rw [if_neg c19] at H
    have c19b0 : decide (x6_1 < t1679) = false := decide_eq_false c19
    clear c19
    simp only [Option.some.injEq, Prod.mk.injEq] at H
    obtain ⟨rfl, rfl, rfl, rfl, rfl, rfl, rfl, rfl⟩ := H
    have hnb101 := NB1678_1656.out
    have hnc101 := NB1656_1678.out
    have hnb102 := NB1678_0.out
    have hnc102 := NB0_1678.out
    have hcz103_0 := cz BK1678 0
    have hcz103_1 := cz BK1678 1
    have hcz103_2 := cz BK1678 2
    have hcz103_3 := cz BK1678 3
    have hcz103_4 := cz BK1678 4
    have hcz103_5 := cz BK1678 5
    have hfz103_0 := blk_frozen BK1678.out 0
    have hfz103_1 := blk_frozen BK1678.out 1
    have hfz103_2 := blk_frozen BK1678.out 2
    have hfz103_3 := blk_frozen BK1678.out 3
    have hfz103_4 := blk_frozen BK1678.out 4
    have hfz103_5 := blk_frozen BK1678.out 5
    obtain ⟨Ao104, co104, eo104⟩ := Kd.R_slice HO_1679000.out
    subst eo104
    have hnb105 := NB1656_0.out
    have hnc105 := NB0_1656.out
    have hcz106_0 := cz BK1656 0
    have hcz106_1 := cz BK1656 1
    have hcz106_2 := cz BK1656 2
    have hcz106_3 := cz BK1656 3
    have hcz106_4 := cz BK1656 4
    have hcz106_5 := cz BK1656 5
    have hfz106_0 := blk_frozen BK1656.out 0
    have hfz106_1 := blk_frozen BK1656.out 1
    have hfz106_2 := blk_frozen BK1656.out 2
    have hfz106_3 := blk_frozen BK1656.out 3
    have hfz106_4 := blk_frozen BK1656.out 4
    have hfz106_5 := blk_frozen BK1656.out 5
    obtain ⟨Ao107, co107, eo107⟩ := Kd.R_slice HO_1679002.out
    subst eo107
    obtain ⟨Ao108, co108, eo108⟩ := Kd.R_slice HO_1679005.out
    subst eo108
    go_wp2
    refine bodyPost_ret (results_cell_row rfl _ _ gb1656 37 #[.slice Ao104 x1679000_1.length co104, .int .i64 x1679001_1, .slice Ao107 x1679002_1.length co107, .int .i64 x1679003_1, .int .i64 x1679004_1, .slice Ao108 x1679005_1.length co108] (0, 0) _ rfl (by (with_reducible repeat (first | refine blk_drewN ?_ _ | refine blk_drew ?_ | refine blk_alloc ?_ _)); refine blk_put (cs := #[.slice Ao104 x1679000_1.length co104, .int .i64 x1679001_1, .slice Ao107 x1679002_1.length co107, .int .i64 x1679003_1, .int .i64 x1679004_1, .slice none 0 0]) ?_ 5 _ rfl; (with_reducible repeat (first | refine blk_drewN ?_ _ | refine blk_drew ?_ | refine blk_alloc ?_ _)); refine blk_put (cs := #[.slice Ao104 x1679000_1.length co104, .int .i64 x1679001_1, .slice Ao107 x1679002_1.length co107, .int .i64 x1679003_1, .int .i64 0, .slice none 0 0]) ?_ 4 _ rfl; (with_reducible repeat (first | refine blk_drewN ?_ _ | refine blk_drew ?_ | refine blk_alloc ?_ _)); refine blk_put (cs := #[.slice Ao104 x1679000_1.length co104, .int .i64 x1679001_1, .slice Ao107 x1679002_1.length co107, .int .i64 0, .int .i64 0, .slice none 0 0]) ?_ 3 _ rfl; (with_reducible repeat (first | refine blk_drewN ?_ _ | refine blk_drew ?_ | refine blk_alloc ?_ _)); refine blk_put (cs := #[.slice Ao104 x1679000_1.length co104, .int .i64 x1679001_1, .slice none 0 0, .int .i64 0, .int .i64 0, .slice none 0 0]) ?_ 2 _ rfl; (with_reducible repeat (first | refine blk_drewN ?_ _ | refine blk_drew ?_ | refine blk_alloc ?_ _)); refine blk_put (cs := #[.slice Ao104 x1679000_1.length co104, .int .i64 0, .slice none 0 0, .int .i64 0, .int .i64 0, .slice none 0 0]) ?_ 1 _ rfl; (with_reducible repeat (first | refine blk_drewN ?_ _ | refine blk_drew ?_ | refine blk_alloc ?_ _)); refine blk_put (cs := #[.slice none 0 0, .int .i64 0, .slice none 0 0, .int .i64 0, .int .i64 0, .slice none 0 0]) ?_ 0 _ rfl; (with_reducible repeat (first | refine blk_drewN ?_ _ | refine blk_drew ?_ | refine blk_alloc ?_ _)); exact BK1656.out) Tryz.underlying37 rfl (by kernel_rfl)) rfl ?_
    exact ⟨_, _, _, eR, by (with_reducible repeat (first | apply Kd.R_alloc | apply Kd.R_drewN | apply Kd.R_drew)); exact Kd.R_mono (Kd.R_far (p := ⟨gb1656, 5, none⟩) (Kd.R_far (p := ⟨gb1656, 4, none⟩) (Kd.R_far (p := ⟨gb1656, 3, none⟩) (Kd.R_far (p := ⟨gb1656, 2, none⟩) (Kd.R_far (p := ⟨gb1656, 1, none⟩) (Kd.R_far (p := ⟨gb1656, 0, none⟩) (Kd.R_types HO_1679000.out BK1656.out (by decide)) (fun _ hk => hk.2) (.slice Ao104 x1679000_1.length co104)) (fun _ hk => hk.2) (.int .i64 x1679001_1)) (fun _ hk => hk.2) (.slice Ao107 x1679002_1.length co107)) (fun _ hk => hk.2) (.int .i64 x1679003_1)) (fun _ hk => hk.2) (.int .i64 x1679004_1)) (fun _ hk => hk.2) (.slice Ao108 x1679005_1.length co108)) (fun _ hk => trivial), by (with_reducible repeat (first | apply Kd.R_alloc | apply Kd.R_drewN | apply Kd.R_drew)); exact Kd.R_mono (Kd.R_far (p := ⟨gb1656, 5, none⟩) (Kd.R_far (p := ⟨gb1656, 4, none⟩) (Kd.R_far (p := ⟨gb1656, 3, none⟩) (Kd.R_far (p := ⟨gb1656, 2, none⟩) (Kd.R_far (p := ⟨gb1656, 1, none⟩) (Kd.R_far (p := ⟨gb1656, 0, none⟩) (Kd.R_types HO_1679002.out BK1656.out (by decide)) (fun _ hk => hk.2) (.slice Ao104 x1679000_1.length co104)) (fun _ hk => hk.2) (.int .i64 x1679001_1)) (fun _ hk => hk.2) (.slice Ao107 x1679002_1.length co107)) (fun _ hk => hk.2) (.int .i64 x1679003_1)) (fun _ hk => hk.2) (.int .i64 x1679004_1)) (fun _ hk => hk.2) (.slice Ao108 x1679005_1.length co108)) (fun _ hk => trivial), by (with_reducible repeat (first | apply Kd.R_alloc | apply Kd.R_drewN | apply Kd.R_drew)); exact Kd.R_mono (Kd.R_far (p := ⟨gb1656, 5, none⟩) (Kd.R_far (p := ⟨gb1656, 4, none⟩) (Kd.R_far (p := ⟨gb1656, 3, none⟩) (Kd.R_far (p := ⟨gb1656, 2, none⟩) (Kd.R_far (p := ⟨gb1656, 1, none⟩) (Kd.R_far (p := ⟨gb1656, 0, none⟩) (Kd.R_types HO_1679005.out BK1656.out (by decide)) (fun _ hk => hk.2) (.slice Ao104 x1679000_1.length co104)) (fun _ hk => hk.2) (.int .i64 x1679001_1)) (fun _ hk => hk.2) (.slice Ao107 x1679002_1.length co107)) (fun _ hk => hk.2) (.int .i64 x1679003_1)) (fun _ hk => hk.2) (.int .i64 x1679004_1)) (fun _ hk => hk.2) (.slice Ao108 x1679005_1.length co108)) (fun _ hk => trivial), oI132 HI0, oB132 HB, oKe HK⟩
def spec_l39Shop.f (k : Nat) (s0_0 : List Int) (s0_1 : Int) (s0_2 : Int) : Option ((List (S112)) × Int × List Int × Int × Int × (List (S104)) × Int × Int) := (spec_l01Once.f s0_0 s0_1 s0_2 2).bind fun bt1755 => (if bt1755.1 = true then ((spec_SampleShop.f k).bind fun bt1758 => (some (bt1758.1, bt1758.2.1, bt1758.2.2.1, bt1758.2.2.2.1, bt1758.2.2.2.2.1, bt1758.2.2.2.2.2, bt1755.2.1, bt1755.2.2))) else ((spec_l38Shop.f k s0_0 bt1755.2.1 bt1755.2.2).bind fun bt1770 => (some (bt1770.1, bt1770.2.1, bt1770.2.2.1, bt1770.2.2.2.1, bt1770.2.2.2.2.1, bt1770.2.2.2.2.2.1, bt1770.2.2.2.2.2.2.1, bt1770.2.2.2.2.2.2.2))))
theorem spec_l39Shop.calls (k : Nat) (g : Nat) (s0_0 : List Int) (s0_1 : Int) (s0_2 : Int) (r1 : List (S112)) (r2 : Int) (r3 : List Int) (r4 : Int) (r5 : Int) (r6 : List (S104)) (r7 : Int) (r8 : Int) (w0 w : World) (hI : IsS132 w0 w g s0_0 s0_1 s0_2) (hB : Below w0.heap.size w0 w) (h : spec_l39Shop.f k s0_0 s0_1 s0_2 = some (r1, r2, r3, r4, r5, r6, r7, r8)) :
  Calls Tryz.prog 73 #[.pointer (some ⟨g, 0, none⟩)] w fun e w' => ∃ v0_ v2_ v5_ : Value, e = .returned (.agg #[v0_, .int .i64 r2, v2_, .int .i64 r4, .int .i64 r5, v5_]) ∧ Kd.R k112 112 w' w.heap.size (fun _ => True) v0_ r1 ∧ Kd.R (Kd.int .i64) 3 w' w.heap.size (fun _ => True) v2_ r3 ∧ Kd.R k104 104 w' w.heap.size (fun _ => True) v5_ r6 ∧ IsS132 w0 w' g s0_0 r7 r8 ∧ Below w0.heap.size w0 w' ∧ KeepBut w w' g none := by
 have hu37 := Tryz.underlying37
 have HI0 := A_ hI
 have HK := A_ (KeepBut.refl w g none)
 have HL := A_ hB.size
 clear hI
 have HW0 := A_ hB.size
 have HB := A_ hB
 clear hB
 have H : ((spec_l01Once.f s0_0 s0_1 s0_2 2).bind fun bt1755 => (if bt1755.1 = true then ((spec_SampleShop.f k).bind fun bt1758 => (some (bt1758.1, bt1758.2.1, bt1758.2.2.1, bt1758.2.2.2.1, bt1758.2.2.2.2.1, bt1758.2.2.2.2.2, bt1755.2.1, bt1755.2.2))) else ((spec_l38Shop.f k s0_0 bt1755.2.1 bt1755.2.2).bind fun bt1770 => (some (bt1770.1, bt1770.2.1, bt1770.2.2.1, bt1770.2.2.2.1, bt1770.2.2.2.2.1, bt1770.2.2.2.2.2.1, bt1770.2.2.2.2.2.2.1, bt1770.2.2.2.2.2.2.2))))) = some (r1, r2, r3, r4, r5, r6, r7, r8) := h
 clear h
 replace H := Option.bind_eq_some_iff.mp H
 obtain ⟨⟨t1755, t1756, t1757⟩, A20, H⟩ := H
 (try dsimp only at H)
 have A2 := A_ A20
 clear A20
 by_cases c3 : t1755 = true
 ·subst c3
  rw [if_pos rfl] at H
  replace H := Option.bind_eq_some_iff.mp H
  obtain ⟨⟨t1758, t1761, t1762, t1765, t1766, t1767⟩, A40, H⟩ := H
  (try dsimp only at H)
  have A4 := A_ A40
  clear A40
  simp only [Option.some.injEq, Prod.mk.injEq] at H
  obtain ⟨rfl, rfl, rfl, rfl, rfl, rfl, rfl, rfl⟩ := H
  go_enter Tryz.func73, Tryz.ntmps73
  go_wp2_with (first | ((with_reducible refine gate_dst (N := 2) rfl ?_); refine bX (N := 2) (cs := #[.slice none 0 0, .int .i64 0, .slice none 0 0, .int .i64 0, .int .i64 0, .slice none 0 0]) (t := 37) ?_; intro gb1754 hg w5 hbox hb; have n0_ := A_ (IsS132.below (oI132 HI0) hb); have n1_ := A_ (KeepBut.trans (oKe HK) (KeepBut.of_below hb g none) (.inl rfl)); have n2_ := A_ (below_step (oB132 HB) hb); have n3_ := A_ (hbox); have n4_ := A_ ((by rw [hg]; exact (keep_size (w := w) (g := g) (row := none) (by repeat (first | (with_reducible first | exact HK.out | apply KeepBut.set_ | apply keep_drewN | apply keep_drew | apply keep_alloc) | exact HK.out))) : w.heap.size ≤ gb1754)); have n5_ := A_ ((Nat.le_trans HW0.out (by rw [hg]; exact (keep_size (w := w) (g := g) (row := none) (by repeat (first | (with_reducible first | exact HK.out | apply KeepBut.set_ | apply keep_drewN | apply keep_drew | apply keep_alloc) | exact HK.out))) : w.heap.size ≤ gb1754) : w0.heap.size ≤ gb1754)); have n6_ := A_ ((by rw [hg]; exact Nat.ne_of_lt (IsS132.lt (show IsS132 w0 _ g s0_0 s0_1 s0_2 from oI132 HI0)) : g ≠ gb1754)); have n7_ := A_ ((by rw [hg]; exact Nat.ne_of_gt (IsS132.lt (show IsS132 w0 _ g s0_0 s0_1 s0_2 from oI132 HI0)) : gb1754 ≠ g)); clear HI0; clear HK; clear HB; have HI0 := n0_; have HK := n1_; have HB := n2_; have BK1754 := n3_; have GW1754 := n4_; have GE1754 := n5_; have NB0_1754 := n6_; have NB1754_0 := n7_; clear n0_ n1_ n2_ n3_ n4_ n5_ n6_ n7_; clear hb hbox hg) | ((with_reducible refine gate_callee (f := 115) rfl ?_); refine gL (some 4) Tryz.func115 #[.pointer (some ⟨g, 0, none⟩), .int .i64 2] ?_; (with_reducible refine (spec_l01Once.calls g s0_0 s0_1 s0_2 2 true t1756 t1757 w0 _ ?side1 ?side2 A2.out).mono ?_); (case side1 => exact oI132 HI0); (case side2 => exact oB132 HB); rintro e w6 ⟨rfl, hi, hb, hk⟩; refine ⟨_, rfl, ?_⟩; have n0_ := A_ (KeepBut.blk hk (g' := gb1754) (o := .cells #[.slice none 0 0, .int .i64 0, .slice none 0 0, .int .i64 0, .int .i64 0, .slice none 0 0] 37 (0, 0)) (oK BK1754) NB1754_0.out (by simp)); have n1_ := A_ (KeepBut.trans (oKe HK) hk (.inl rfl)); have n2_ := A_ (hb); have n3_ := A_ (hi); clear BK1754; clear HK; clear HB; clear HI0; have BK1754 := n0_; have HK := n1_; have HB := n2_; have HI0 := n3_; clear n0_ n1_ n2_ n3_; (try clear hb); (try clear hb2); (try clear hk); (try clear hi)) | ((with_reducible refine gate_callee (f := 116) rfl ?_); refine gL (some 5) Tryz.func116 #[] ?_; (with_reducible refine (spec_SampleShop.calls k  t1758 t1761 t1762 t1765 t1766 t1767 _ A4.out).mono ?_); rintro e w7 ⟨v1759, v1763, v1768, rfl, ho0, ho1, ho2, hb⟩; refine ⟨_, rfl, ?_⟩; have n0_ := A_ (Kd.R_lower ho0 (keep_size (w := w) (g := g) (row := none) (by repeat (first | (with_reducible first | exact HK.out | apply KeepBut.set_ | apply keep_drewN | apply keep_drew | apply keep_alloc | refine keep_far ?_ GW1754.out _) | exact HK.out)))); have n1_ := A_ (Kd.R_lower ho1 (keep_size (w := w) (g := g) (row := none) (by repeat (first | (with_reducible first | exact HK.out | apply KeepBut.set_ | apply keep_drewN | apply keep_drew | apply keep_alloc | refine keep_far ?_ GW1754.out _) | exact HK.out)))); have n2_ := A_ (Kd.R_lower ho2 (keep_size (w := w) (g := g) (row := none) (by repeat (first | (with_reducible first | exact HK.out | apply KeepBut.set_ | apply keep_drewN | apply keep_drew | apply keep_alloc | refine keep_far ?_ GW1754.out _) | exact HK.out)))); have n3_ := A_ (IsS132.below (oI132 HI0) hb); have n4_ := A_ (bb BK1754 hb); have n5_ := A_ (KeepBut.trans (oKe HK) (KeepBut.of_below hb g none) (.inl rfl)); have n6_ := A_ (below_step (oB132 HB) hb); clear HI0; clear BK1754; clear HK; clear HB; have HO1760 := n0_; have HO1764 := n1_; have HO1769 := n2_; have HI0 := n3_; have BK1754 := n4_; have HK := n5_; have HB := n6_; clear n0_ n1_ n2_ n3_ n4_ n5_ n6_; (try clear hb); (try clear hb2); (try clear hk); (try clear hi); (try clear ho0); (try clear ho1); (try clear ho2); obtain ⟨Ao8, co8, eo8⟩ := Kd.R_slice HO1760.out; subst eo8; have hnb9 := NB1754_0.out; have hnc9 := NB0_1754.out; have hcz10_0 := cz BK1754 0; have hcz10_1 := cz BK1754 1; have hcz10_2 := cz BK1754 2; have hcz10_3 := cz BK1754 3; have hcz10_4 := cz BK1754 4; have hcz10_5 := cz BK1754 5; have hfz10_0 := blk_frozen BK1754.out 0; have hfz10_1 := blk_frozen BK1754.out 1; have hfz10_2 := blk_frozen BK1754.out 2; have hfz10_3 := blk_frozen BK1754.out 3; have hfz10_4 := blk_frozen BK1754.out 4; have hfz10_5 := blk_frozen BK1754.out 5; obtain ⟨Ao11, co11, eo11⟩ := Kd.R_slice HO1764.out; subst eo11; obtain ⟨Ao12, co12, eo12⟩ := Kd.R_slice HO1769.out; subst eo12))
  refine bodyPost_ret (results_cell_row rfl _ _ gb1754 37 #[.slice Ao8 t1758.length co8, .int .i64 t1761, .slice Ao11 t1762.length co11, .int .i64 t1765, .int .i64 t1766, .slice Ao12 t1767.length co12] (0, 0) _ rfl (by (with_reducible repeat (first | refine blk_drewN ?_ _ | refine blk_drew ?_ | refine blk_alloc ?_ _)); refine blk_put (cs := #[.slice Ao8 t1758.length co8, .int .i64 t1761, .slice Ao11 t1762.length co11, .int .i64 t1765, .int .i64 t1766, .slice none 0 0]) ?_ 5 _ rfl; (with_reducible repeat (first | refine blk_drewN ?_ _ | refine blk_drew ?_ | refine blk_alloc ?_ _)); refine blk_put (cs := #[.slice Ao8 t1758.length co8, .int .i64 t1761, .slice Ao11 t1762.length co11, .int .i64 t1765, .int .i64 0, .slice none 0 0]) ?_ 4 _ rfl; (with_reducible repeat (first | refine blk_drewN ?_ _ | refine blk_drew ?_ | refine blk_alloc ?_ _)); refine blk_put (cs := #[.slice Ao8 t1758.length co8, .int .i64 t1761, .slice Ao11 t1762.length co11, .int .i64 0, .int .i64 0, .slice none 0 0]) ?_ 3 _ rfl; (with_reducible repeat (first | refine blk_drewN ?_ _ | refine blk_drew ?_ | refine blk_alloc ?_ _)); refine blk_put (cs := #[.slice Ao8 t1758.length co8, .int .i64 t1761, .slice none 0 0, .int .i64 0, .int .i64 0, .slice none 0 0]) ?_ 2 _ rfl; (with_reducible repeat (first | refine blk_drewN ?_ _ | refine blk_drew ?_ | refine blk_alloc ?_ _)); refine blk_put (cs := #[.slice Ao8 t1758.length co8, .int .i64 0, .slice none 0 0, .int .i64 0, .int .i64 0, .slice none 0 0]) ?_ 1 _ rfl; (with_reducible repeat (first | refine blk_drewN ?_ _ | refine blk_drew ?_ | refine blk_alloc ?_ _)); refine blk_put (cs := #[.slice none 0 0, .int .i64 0, .slice none 0 0, .int .i64 0, .int .i64 0, .slice none 0 0]) ?_ 0 _ rfl; (with_reducible repeat (first | refine blk_drewN ?_ _ | refine blk_drew ?_ | refine blk_alloc ?_ _)); exact BK1754.out) Tryz.underlying37 rfl (by kernel_rfl)) rfl ?_
  exact ⟨_, _, _, eR, by (with_reducible repeat (first | apply Kd.R_alloc | apply Kd.R_drewN | apply Kd.R_drew)); exact Kd.R_mono (Kd.R_far (p := ⟨gb1754, 5, none⟩) (Kd.R_far (p := ⟨gb1754, 4, none⟩) (Kd.R_far (p := ⟨gb1754, 3, none⟩) (Kd.R_far (p := ⟨gb1754, 2, none⟩) (Kd.R_far (p := ⟨gb1754, 1, none⟩) (Kd.R_far (p := ⟨gb1754, 0, none⟩) (Kd.R_types HO1760.out BK1754.out (by decide)) (fun _ hk => hk.2) (.slice Ao8 t1758.length co8)) (fun _ hk => hk.2) (.int .i64 t1761)) (fun _ hk => hk.2) (.slice Ao11 t1762.length co11)) (fun _ hk => hk.2) (.int .i64 t1765)) (fun _ hk => hk.2) (.int .i64 t1766)) (fun _ hk => hk.2) (.slice Ao12 t1767.length co12)) (fun _ hk => trivial), by (with_reducible repeat (first | apply Kd.R_alloc | apply Kd.R_drewN | apply Kd.R_drew)); exact Kd.R_mono (Kd.R_far (p := ⟨gb1754, 5, none⟩) (Kd.R_far (p := ⟨gb1754, 4, none⟩) (Kd.R_far (p := ⟨gb1754, 3, none⟩) (Kd.R_far (p := ⟨gb1754, 2, none⟩) (Kd.R_far (p := ⟨gb1754, 1, none⟩) (Kd.R_far (p := ⟨gb1754, 0, none⟩) (Kd.R_types HO1764.out BK1754.out (by decide)) (fun _ hk => hk.2) (.slice Ao8 t1758.length co8)) (fun _ hk => hk.2) (.int .i64 t1761)) (fun _ hk => hk.2) (.slice Ao11 t1762.length co11)) (fun _ hk => hk.2) (.int .i64 t1765)) (fun _ hk => hk.2) (.int .i64 t1766)) (fun _ hk => hk.2) (.slice Ao12 t1767.length co12)) (fun _ hk => trivial), by (with_reducible repeat (first | apply Kd.R_alloc | apply Kd.R_drewN | apply Kd.R_drew)); exact Kd.R_mono (Kd.R_far (p := ⟨gb1754, 5, none⟩) (Kd.R_far (p := ⟨gb1754, 4, none⟩) (Kd.R_far (p := ⟨gb1754, 3, none⟩) (Kd.R_far (p := ⟨gb1754, 2, none⟩) (Kd.R_far (p := ⟨gb1754, 1, none⟩) (Kd.R_far (p := ⟨gb1754, 0, none⟩) (Kd.R_types HO1769.out BK1754.out (by decide)) (fun _ hk => hk.2) (.slice Ao8 t1758.length co8)) (fun _ hk => hk.2) (.int .i64 t1761)) (fun _ hk => hk.2) (.slice Ao11 t1762.length co11)) (fun _ hk => hk.2) (.int .i64 t1765)) (fun _ hk => hk.2) (.int .i64 t1766)) (fun _ hk => hk.2) (.slice Ao12 t1767.length co12)) (fun _ hk => trivial), oI132 HI0, oB132 HB, oKe HK⟩
 ·replace c3 := Bool.eq_false_iff.mpr c3
  subst c3
  rw [if_neg (show ¬ (false = true) by decide)] at H
  replace H := Option.bind_eq_some_iff.mp H
  obtain ⟨⟨t1770, t1773, t1774, t1777, t1778, t1779, t1782, t1783⟩, A130, H⟩ := H
  (try dsimp only at H)
  have A13 := A_ A130
  clear A130
  simp only [Option.some.injEq, Prod.mk.injEq] at H
  obtain ⟨rfl, rfl, rfl, rfl, rfl, rfl, rfl, rfl⟩ := H
  go_enter Tryz.func73, Tryz.ntmps73
  go_wp2_with (first | ((with_reducible refine gate_dst (N := 2) rfl ?_); refine bX (N := 2) (cs := #[.slice none 0 0, .int .i64 0, .slice none 0 0, .int .i64 0, .int .i64 0, .slice none 0 0]) (t := 37) ?_; intro gb1754 hg w14 hbox hb; have n0_ := A_ (IsS132.below (oI132 HI0) hb); have n1_ := A_ (KeepBut.trans (oKe HK) (KeepBut.of_below hb g none) (.inl rfl)); have n2_ := A_ (below_step (oB132 HB) hb); have n3_ := A_ (hbox); have n4_ := A_ ((by rw [hg]; exact (keep_size (w := w) (g := g) (row := none) (by repeat (first | (with_reducible first | exact HK.out | apply KeepBut.set_ | apply keep_drewN | apply keep_drew | apply keep_alloc) | exact HK.out))) : w.heap.size ≤ gb1754)); have n5_ := A_ ((Nat.le_trans HW0.out (by rw [hg]; exact (keep_size (w := w) (g := g) (row := none) (by repeat (first | (with_reducible first | exact HK.out | apply KeepBut.set_ | apply keep_drewN | apply keep_drew | apply keep_alloc) | exact HK.out))) : w.heap.size ≤ gb1754) : w0.heap.size ≤ gb1754)); have n6_ := A_ ((by rw [hg]; exact Nat.ne_of_lt (IsS132.lt (show IsS132 w0 _ g s0_0 s0_1 s0_2 from oI132 HI0)) : g ≠ gb1754)); have n7_ := A_ ((by rw [hg]; exact Nat.ne_of_gt (IsS132.lt (show IsS132 w0 _ g s0_0 s0_1 s0_2 from oI132 HI0)) : gb1754 ≠ g)); clear HI0; clear HK; clear HB; have HI0 := n0_; have HK := n1_; have HB := n2_; have BK1754 := n3_; have GW1754 := n4_; have GE1754 := n5_; have NB0_1754 := n6_; have NB1754_0 := n7_; clear n0_ n1_ n2_ n3_ n4_ n5_ n6_ n7_; clear hb hbox hg) | ((with_reducible refine gate_callee (f := 115) rfl ?_); refine gL (some 4) Tryz.func115 #[.pointer (some ⟨g, 0, none⟩), .int .i64 2] ?_; (with_reducible refine (spec_l01Once.calls g s0_0 s0_1 s0_2 2 false t1756 t1757 w0 _ ?side1 ?side2 A2.out).mono ?_); (case side1 => exact oI132 HI0); (case side2 => exact oB132 HB); rintro e w15 ⟨rfl, hi, hb, hk⟩; refine ⟨_, rfl, ?_⟩; have n0_ := A_ (KeepBut.blk hk (g' := gb1754) (o := .cells #[.slice none 0 0, .int .i64 0, .slice none 0 0, .int .i64 0, .int .i64 0, .slice none 0 0] 37 (0, 0)) (oK BK1754) NB1754_0.out (by simp)); have n1_ := A_ (KeepBut.trans (oKe HK) hk (.inl rfl)); have n2_ := A_ (hb); have n3_ := A_ (hi); clear BK1754; clear HK; clear HB; clear HI0; have BK1754 := n0_; have HK := n1_; have HB := n2_; have HI0 := n3_; clear n0_ n1_ n2_ n3_; (try clear hb); (try clear hb2); (try clear hk); (try clear hi)) | ((with_reducible refine gate_callee (f := 117) rfl ?_); refine gL (some 7) Tryz.func117 #[.pointer (some ⟨g, 0, none⟩)] ?_; (with_reducible refine (spec_l38Shop.calls k g s0_0 t1756 t1757 t1770 t1773 t1774 t1777 t1778 t1779 t1782 t1783 w0 _ ?side1 ?side2 A13.out).mono ?_); (case side1 => exact oI132 HI0); (case side2 => exact oB132 HB); rintro e w16 ⟨v1771, v1775, v1780, rfl, ho0, ho1, ho2, hi, hb, hk⟩; refine ⟨_, rfl, ?_⟩; have n0_ := A_ (KeepBut.blk hk (g' := gb1754) (o := .cells #[.slice none 0 0, .int .i64 0, .slice none 0 0, .int .i64 0, .int .i64 0, .slice none 0 0] 37 (0, 0)) (oK BK1754) NB1754_0.out (by simp)); have n1_ := A_ (Kd.R_lower ho0 (keep_size (w := w) (g := g) (row := none) (by repeat (first | (with_reducible first | exact HK.out | apply KeepBut.set_ | apply keep_drewN | apply keep_drew | apply keep_alloc | refine keep_far ?_ GW1754.out _) | exact HK.out)))); have n2_ := A_ (Kd.R_lower ho1 (keep_size (w := w) (g := g) (row := none) (by repeat (first | (with_reducible first | exact HK.out | apply KeepBut.set_ | apply keep_drewN | apply keep_drew | apply keep_alloc | refine keep_far ?_ GW1754.out _) | exact HK.out)))); have n3_ := A_ (Kd.R_lower ho2 (keep_size (w := w) (g := g) (row := none) (by repeat (first | (with_reducible first | exact HK.out | apply KeepBut.set_ | apply keep_drewN | apply keep_drew | apply keep_alloc | refine keep_far ?_ GW1754.out _) | exact HK.out)))); have n4_ := A_ (KeepBut.trans (oKe HK) hk (.inl rfl)); have n5_ := A_ (hb); have n6_ := A_ (hi); clear BK1754; clear HK; clear HB; clear HI0; have BK1754 := n0_; have HO1772 := n1_; have HO1776 := n2_; have HO1781 := n3_; have HK := n4_; have HB := n5_; have HI0 := n6_; clear n0_ n1_ n2_ n3_ n4_ n5_ n6_; (try clear hb); (try clear hb2); (try clear hk); (try clear hi); (try clear ho0); (try clear ho1); (try clear ho2); obtain ⟨Ao17, co17, eo17⟩ := Kd.R_slice HO1772.out; subst eo17; have hnb18 := NB1754_0.out; have hnc18 := NB0_1754.out; have hcz19_0 := cz BK1754 0; have hcz19_1 := cz BK1754 1; have hcz19_2 := cz BK1754 2; have hcz19_3 := cz BK1754 3; have hcz19_4 := cz BK1754 4; have hcz19_5 := cz BK1754 5; have hfz19_0 := blk_frozen BK1754.out 0; have hfz19_1 := blk_frozen BK1754.out 1; have hfz19_2 := blk_frozen BK1754.out 2; have hfz19_3 := blk_frozen BK1754.out 3; have hfz19_4 := blk_frozen BK1754.out 4; have hfz19_5 := blk_frozen BK1754.out 5; obtain ⟨Ao20, co20, eo20⟩ := Kd.R_slice HO1776.out; subst eo20; obtain ⟨Ao21, co21, eo21⟩ := Kd.R_slice HO1781.out; subst eo21))
  refine bodyPost_ret (results_cell_row rfl _ _ gb1754 37 #[.slice Ao17 t1770.length co17, .int .i64 t1773, .slice Ao20 t1774.length co20, .int .i64 t1777, .int .i64 t1778, .slice Ao21 t1779.length co21] (0, 0) _ rfl (by (with_reducible repeat (first | refine blk_drewN ?_ _ | refine blk_drew ?_ | refine blk_alloc ?_ _)); refine blk_put (cs := #[.slice Ao17 t1770.length co17, .int .i64 t1773, .slice Ao20 t1774.length co20, .int .i64 t1777, .int .i64 t1778, .slice none 0 0]) ?_ 5 _ rfl; (with_reducible repeat (first | refine blk_drewN ?_ _ | refine blk_drew ?_ | refine blk_alloc ?_ _)); refine blk_put (cs := #[.slice Ao17 t1770.length co17, .int .i64 t1773, .slice Ao20 t1774.length co20, .int .i64 t1777, .int .i64 0, .slice none 0 0]) ?_ 4 _ rfl; (with_reducible repeat (first | refine blk_drewN ?_ _ | refine blk_drew ?_ | refine blk_alloc ?_ _)); refine blk_put (cs := #[.slice Ao17 t1770.length co17, .int .i64 t1773, .slice Ao20 t1774.length co20, .int .i64 0, .int .i64 0, .slice none 0 0]) ?_ 3 _ rfl; (with_reducible repeat (first | refine blk_drewN ?_ _ | refine blk_drew ?_ | refine blk_alloc ?_ _)); refine blk_put (cs := #[.slice Ao17 t1770.length co17, .int .i64 t1773, .slice none 0 0, .int .i64 0, .int .i64 0, .slice none 0 0]) ?_ 2 _ rfl; (with_reducible repeat (first | refine blk_drewN ?_ _ | refine blk_drew ?_ | refine blk_alloc ?_ _)); refine blk_put (cs := #[.slice Ao17 t1770.length co17, .int .i64 0, .slice none 0 0, .int .i64 0, .int .i64 0, .slice none 0 0]) ?_ 1 _ rfl; (with_reducible repeat (first | refine blk_drewN ?_ _ | refine blk_drew ?_ | refine blk_alloc ?_ _)); refine blk_put (cs := #[.slice none 0 0, .int .i64 0, .slice none 0 0, .int .i64 0, .int .i64 0, .slice none 0 0]) ?_ 0 _ rfl; (with_reducible repeat (first | refine blk_drewN ?_ _ | refine blk_drew ?_ | refine blk_alloc ?_ _)); exact BK1754.out) Tryz.underlying37 rfl (by kernel_rfl)) rfl ?_
  exact ⟨_, _, _, eR, by (with_reducible repeat (first | apply Kd.R_alloc | apply Kd.R_drewN | apply Kd.R_drew)); exact Kd.R_mono (Kd.R_far (p := ⟨gb1754, 5, none⟩) (Kd.R_far (p := ⟨gb1754, 4, none⟩) (Kd.R_far (p := ⟨gb1754, 3, none⟩) (Kd.R_far (p := ⟨gb1754, 2, none⟩) (Kd.R_far (p := ⟨gb1754, 1, none⟩) (Kd.R_far (p := ⟨gb1754, 0, none⟩) (Kd.R_types HO1772.out BK1754.out (by decide)) (fun _ hk => hk.2) (.slice Ao17 t1770.length co17)) (fun _ hk => hk.2) (.int .i64 t1773)) (fun _ hk => hk.2) (.slice Ao20 t1774.length co20)) (fun _ hk => hk.2) (.int .i64 t1777)) (fun _ hk => hk.2) (.int .i64 t1778)) (fun _ hk => hk.2) (.slice Ao21 t1779.length co21)) (fun _ hk => trivial), by (with_reducible repeat (first | apply Kd.R_alloc | apply Kd.R_drewN | apply Kd.R_drew)); exact Kd.R_mono (Kd.R_far (p := ⟨gb1754, 5, none⟩) (Kd.R_far (p := ⟨gb1754, 4, none⟩) (Kd.R_far (p := ⟨gb1754, 3, none⟩) (Kd.R_far (p := ⟨gb1754, 2, none⟩) (Kd.R_far (p := ⟨gb1754, 1, none⟩) (Kd.R_far (p := ⟨gb1754, 0, none⟩) (Kd.R_types HO1776.out BK1754.out (by decide)) (fun _ hk => hk.2) (.slice Ao17 t1770.length co17)) (fun _ hk => hk.2) (.int .i64 t1773)) (fun _ hk => hk.2) (.slice Ao20 t1774.length co20)) (fun _ hk => hk.2) (.int .i64 t1777)) (fun _ hk => hk.2) (.int .i64 t1778)) (fun _ hk => hk.2) (.slice Ao21 t1779.length co21)) (fun _ hk => trivial), by (with_reducible repeat (first | apply Kd.R_alloc | apply Kd.R_drewN | apply Kd.R_drew)); exact Kd.R_mono (Kd.R_far (p := ⟨gb1754, 5, none⟩) (Kd.R_far (p := ⟨gb1754, 4, none⟩) (Kd.R_far (p := ⟨gb1754, 3, none⟩) (Kd.R_far (p := ⟨gb1754, 2, none⟩) (Kd.R_far (p := ⟨gb1754, 1, none⟩) (Kd.R_far (p := ⟨gb1754, 0, none⟩) (Kd.R_types HO1781.out BK1754.out (by decide)) (fun _ hk => hk.2) (.slice Ao17 t1770.length co17)) (fun _ hk => hk.2) (.int .i64 t1773)) (fun _ hk => hk.2) (.slice Ao20 t1774.length co20)) (fun _ hk => hk.2) (.int .i64 t1777)) (fun _ hk => hk.2) (.int .i64 t1778)) (fun _ hk => hk.2) (.slice Ao21 t1779.length co21)) (fun _ hk => trivial), oI132 HI0, oB132 HB, oKe HK⟩
end Go.Proofs.YtanhnhkcpbdfmaaGreat.P
