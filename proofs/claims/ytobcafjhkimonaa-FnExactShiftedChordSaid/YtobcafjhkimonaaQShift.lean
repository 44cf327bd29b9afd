/- Chords: what ShiftCost, BestShift and ShiftedChord of the program and of the reference come to. -/
import Derived.Test.YtobcafjhkimonaaQKit
import Derived.Test.YtobcafjhkimonaaFSpecL01In
import Derived.Test.YtobcafjhkimonaaFImplWithin
import Derived.Test.YtobcafjhkimonaaFSpecL33Shape
import Derived.Test.YtobcafjhkimonaaFImplApart
import Derived.Test.YtobcafjhkimonaaFSpecShiftCost
import Derived.Test.YtobcafjhkimonaaFImplShiftCost
import Derived.Test.YtobcafjhkimonaaFSpecBestShift
import Derived.Test.YtobcafjhkimonaaFImplBestShift
import Derived.Test.YtobcafjhkimonaaFSpecShiftedChord
import Derived.Test.YtobcafjhkimonaaFImplShiftedChord
namespace Go.Proofs.Ytobcafjhkimonaa.Q
set_option linter.unusedVariables false
set_option linter.unusedSimpArgs false
open Go.RowKit Go.Proofs.Ytobcafjhkimonaa.P Go.Proofs.YtobcafjhkimonaaW.PrintWords Go.Proofs.YtobcafjhkimonaaW.PrintMore

theorem within_eq (a b c : Int) : impl_within.f a b c = some (decide (b ≤ a ∧ a ≤ c)) := by
  unfold impl_within.f; by_cases h : b ≤ a <;> simp [h]
theorem l01In_eq (a b c : Int) : spec_l01In.f a b c = some (decide (b ≤ a ∧ a ≤ c)) := by
  unfold spec_l01In.f; by_cases h : a ≥ b
  · rw [if_pos h]; simp [show b ≤ a from h]
  · rw [if_neg h]; simp [show ¬ b ≤ a from h]

def inR (x : Int) : Bool := decide (-1000 ≤ x ∧ x ≤ 1000)
def okH (x : Int) : Bool := inR x || decide (x = 1000000)
def gap (s x h : Int) : Int := mx (s + x - h) (h - (s + x))
def csum (s : Int) : List Int → List Int → Int → Int
  | x :: xs, h :: hs, acc => csum s xs hs (if h = 1000000 then acc else acc + gap s x h)
  | _, _, acc => acc
def inS (s : Int) : Bool := decide (-2000 ≤ s ∧ s ≤ 2000)
def scost (sh hd : List Int) (s : Int) : Int :=
  if hd.length = sh.length ∧ sh.length ≤ 8 ∧ sh.all inR = true ∧ inS s = true ∧ hd.all okH = true then csum s sh hd 0 else -1

theorem inR_iff (x : Int) : inR x = true ↔ -1000 ≤ x ∧ x ≤ 1000 := by simp [inR]
theorem gap_bd {s x h : Int} (hs : inS s = true) (hx : inR x = true) (hh : inR h = true) : 0 ≤ gap s x h ∧ gap s x h ≤ 4000 := by
  simp [inS] at hs; simp [inR] at hx hh; unfold gap mx; split <;> omega

/-! ### the reference -/
theorem l33Shape_ev (sh : List Int) (s : Int) (hl : sh.length ≤ 1048576) : Ev (fun k => spec_l33Shape.f k sh s) (sh.all inR && decide (sh.length ≤ 8) && inS s) := by
  have key : ∀ i, i ≤ sh.length → Ev (fun k => spec_l33Shape.l0 k sh s (i : Int)) ((sh.drop i).all inR && decide (sh.length ≤ 8) && inS s) := by
    refine down (n := sh.length) ?_ ?_
    · refine Ev.step (fun k => by rw [spec_l33Shape.l0]) (evn (by omega) (evi (fun h => ?_) (fun h => ?_)))
      · rw [drop_end]
        refine evb (l01In_eq _ _ _) (evs ?_)
        have : sh.length ≤ 8 := by omega
        simp [this, inS]
      · rw [drop_end]
        refine evs ?_
        have : ¬ sh.length ≤ 8 := by omega
        simp [this]
    · intro i hi ih
      refine Ev.step (fun k => by rw [spec_l33Shape.l0]) (evp (by omega) (evp (by omega) (evb (l01In_eq _ _ _) ?_)))
      rw [rd_nat sh i hi, drop_cons sh i hi, List.all_cons]
      by_cases h : inR sh[i] = true
      · refine evp (by simpa [inR] using h) ?_
        rw [w64 (by omega) (by omega), h, Bool.true_and]
        exact ih
      · refine evn (by simpa [inR] using h) (evs ?_)
        rw [Bool.eq_false_iff.2 h]; simp
  have := key 0 (Nat.zero_le _)
  unfold spec_l33Shape.f
  simpa using this

theorem cost_spec (sh hd : List Int) (s : Int) (hl : sh.length ≤ 1048576) (hh : hd.length ≤ 1048576) : Ev (fun k => spec_ShiftCost.f k sh hd s) (scost sh hd s) := by
  unfold spec_ShiftCost.f
  refine Ev.bind (l33Shape_ev sh s hl) ?_
  by_cases hA : (sh.all inR && decide (sh.length ≤ 8) && inS s) = true
  rotate_left
  · refine evn hA (Ev.step (fun k => by rw [spec_ShiftCost.j0]) (evp rfl (evs ?_)))
    unfold scost
    rw [if_neg]
    rintro ⟨_, h1, h2, h3, _⟩
    exact hA (by simp [h1, h2, h3])
  refine evp hA (Ev.step (fun k => by rw [spec_ShiftCost.j0]) ?_)
  simp only [Bool.and_eq_true, decide_eq_true_eq] at hA
  obtain ⟨⟨hR, h8⟩, hS⟩ := hA
  by_cases hL : hd.length = sh.length
  rotate_left
  · refine evp (by simpa using fun h => hL (by omega)) (evs ?_)
    unfold scost
    rw [if_neg (fun h => hL h.1)]
  refine evn (by simp [hL]) ?_
  have key : ∀ i, i ≤ hd.length → ∀ acc : Int, 0 ≤ acc → acc ≤ 4000 * i → Ev (fun k => spec_ShiftCost.l0 k sh hd s acc (i : Int)) (if (hd.drop i).all okH = true then csum s (sh.drop i) (hd.drop i) acc else -1) := by
    refine down (n := hd.length) ?_ ?_
    · intro acc h0 h1
      refine Ev.step (fun k => by rw [spec_ShiftCost.l0]) (evn (by omega) (evs ?_))
      rw [drop_end, List.all_nil, if_pos rfl]
      cases hq : sh.drop hd.length <;> rfl
    · intro i hi ih acc h0 h1
      have his : i < sh.length := by omega
      refine Ev.step (fun k => by rw [spec_ShiftCost.l0]) (evp (by omega) (evp (by omega) ?_))
      rw [rd_nat hd i hi, rd_nat sh i his, drop_cons hd i hi, drop_cons sh i his, List.all_cons]
      by_cases hN : hd[i] = 1000000
      · refine evp hN ?_
        rw [w64 (by omega) (by omega)]
        refine evr (ih acc h0 (by push_cast; omega)) ?_
        simp [csum, hN, okH]
      · refine evn hN (evb (l01In_eq _ _ _) ?_)
        by_cases hi2 : inR hd[i] = true
        · refine evp (by simpa [inR] using hi2) (evp (by omega) ?_)
          have hx : inR sh[i] = true := List.all_eq_true.1 hR _ (List.getElem_mem _)
          have hg := gap_bd hS hx hi2
          have hS' := hS
          simp [inS] at hS'
          have hx' := (inR_iff _).1 hx
          have hi' := (inR_iff _).1 hi2
          rw [w64 (n := s + sh[i]) (by omega) (by omega), w64 (n := s + sh[i] - hd[i]) (by omega) (by omega), w64 (n := -(s + sh[i] - hd[i])) (by omega) (by omega),
            show -(s + sh[i] - hd[i]) = hd[i] - (s + sh[i]) by omega]
          have e : mx (s + sh[i] - hd[i]) (hd[i] - (s + sh[i])) = gap s sh[i] hd[i] := rfl
          rw [e, w64 (n := acc + gap s sh[i] hd[i]) (by omega) (by omega), w64 (by omega) (by omega)]
          refine evr (ih _ (by omega) (by push_cast; omega)) ?_
          simp [csum, hN, okH, hi2]
        · refine evn (by simpa [inR] using hi2) (evs ?_)
          simp [okH, hi2, hN]
  have := key 0 (Nat.zero_le _) 0 (by omega) (by omega)
  refine evr this ?_
  unfold scost
  by_cases hO : hd.all okH = true
  · rw [if_pos (by simpa using hO), if_pos ⟨hL, h8, hR, hS, hO⟩]; rfl
  · rw [if_neg (by simpa using hO), if_neg (fun h => hO h.2.2.2.2)]

/-! ### the program -/
theorem cost_impl (sh hd : List Int) (s : Int) (hl : sh.length ≤ 1048576) (hh : hd.length ≤ 1048576) : Ev (fun k => impl_ShiftCost.f k sh hd s) (scost sh hd s) := by
  unfold impl_ShiftCost.f
  by_cases hL : hd.length = sh.length
  rotate_left
  · refine evn (by omega) (Ev.step (fun k => by rw [impl_ShiftCost.j0]) (evp rfl (evs ?_)))
    unfold scost
    rw [if_neg (fun h => hL h.1)]
  refine evp (by omega) (Ev.step (fun k => by rw [impl_ShiftCost.j0]) ?_)
  by_cases h8 : sh.length ≤ 8
  rotate_left
  · refine evp (by simp; omega) (evs ?_)
    unfold scost
    rw [if_neg (fun h => h8 h.2.1)]
  refine evn (by simp; omega) ?_
  have key2 : ∀ i, i ≤ hd.length → ∀ acc : Int, 0 ≤ acc → acc ≤ 4000 * i → sh.all inR = true → hd.all okH = true → inS s = true →
      Ev (fun k => impl_ShiftCost.l2 k sh s acc hd (hd.length : Int) (i : Int)) (csum s (sh.drop i) (hd.drop i) acc) := by
    refine down (n := hd.length) ?_ ?_
    · intro acc h0 h1 _ _ _
      refine Ev.step (fun k => by rw [impl_ShiftCost.l2]) (evn (by omega) (evs ?_))
      rw [drop_end]
      cases hq : sh.drop hd.length <;> rfl
    · intro i hi ih acc h0 h1 hR hO hS
      have his : i < sh.length := by omega
      refine Ev.step (fun k => by rw [impl_ShiftCost.l2]) (evp (by omega) (evp (by omega) (evp (by omega) ?_)))
      rw [rd_nat hd i hi, rd_nat sh i his, drop_cons hd i hi, drop_cons sh i his]
      by_cases hN : hd[i] = 1000000
      · refine evp hN ?_
        rw [w64 (by omega) (by omega)]
        refine evr (ih acc h0 (by push_cast; omega) hR hO hS) ?_
        simp [csum, hN]
      · refine evn hN (evp (by omega) ?_)
        have hx : inR sh[i] = true := List.all_eq_true.1 hR _ (List.getElem_mem _)
        have hi2 : inR hd[i] = true := by
          have := List.all_eq_true.1 hO _ (List.getElem_mem hi)
          simpa [okH, hN] using this
        have hg := gap_bd hS hx hi2
        have hS' := hS
        simp [inS] at hS'
        have hx' := (inR_iff _).1 hx
        have hi' := (inR_iff _).1 hi2
        have e : impl_apart.f (wrap64 (s + sh[i])) hd[i] = some (gap s sh[i] hd[i]) := by
          unfold impl_apart.f gap
          rw [w64 (n := s + sh[i]) (by omega) (by omega), w64 (n := s + sh[i] - hd[i]) (by omega) (by omega), w64 (n := hd[i] - (s + sh[i])) (by omega) (by omega)]
        refine evb e ?_
        rw [w64 (n := acc + gap s sh[i] hd[i]) (by omega) (by omega), w64 (by omega) (by omega)]
        refine evr (ih _ (by omega) (by push_cast; omega) hR hO hS) ?_
        simp [csum, hN]
  have key1 : ∀ i, i ≤ hd.length → sh.all inR = true → ((hd.take i).all okH = true) → Ev (fun k => impl_ShiftCost.l1 k sh hd s hd (hd.length : Int) (i : Int)) (scost sh hd s) := by
    refine down (n := hd.length) ?_ ?_
    · intro hR hO
      rw [List.take_of_length_le (Nat.le_refl _)] at hO
      refine Ev.step (fun k => by rw [impl_ShiftCost.l1]) (evn (by omega) (evb (within_eq _ _ _) ?_))
      by_cases hS : inS s = true
      · refine evp (by simpa [inS] using hS) ?_
        have := key2 0 (Nat.zero_le _) 0 (by omega) (by omega) hR hO hS
        refine evr this ?_
        unfold scost
        rw [if_pos ⟨hL, h8, hR, hS, hO⟩]; rfl
      · refine evn (by simpa [inS] using hS) (evs ?_)
        unfold scost
        rw [if_neg (fun h => hS h.2.2.2.1)]
    · intro i hi ih hR hO
      refine Ev.step (fun k => by rw [impl_ShiftCost.l1]) (evp (by omega) (evp (by omega) (evp (by omega) (evb (within_eq _ _ _) ?_))))
      rw [rd_nat hd i hi, w64 (by omega) (by omega)]
      have hO' : okH hd[i] = true → (hd.take (i + 1)).all okH = true := by
        intro h
        rw [List.take_succ_eq_append_getElem hi, List.all_append, hO]; simp [h]
      by_cases hi2 : inR hd[i] = true
      · exact evp (by simpa [inR] using hi2) (ih hR (hO' (by simp [okH, hi2])))
      · refine evn (by simpa [inR] using hi2) ?_
        by_cases hN : hd[i] = 1000000
        · exact evp hN (ih hR (hO' (by simp [okH, hN])))
        · refine evn hN (evs ?_)
          unfold scost
          rw [if_neg]
          intro h
          have := List.all_eq_true.1 h.2.2.2.2 _ (List.getElem_mem hi)
          simp [okH, hi2, hN] at this
  have key0 : ∀ i, i ≤ sh.length → ((sh.take i).all inR = true) → Ev (fun k => impl_ShiftCost.l0 k sh hd s sh (sh.length : Int) (i : Int)) (scost sh hd s) := by
    refine down (n := sh.length) ?_ ?_
    · intro hR
      rw [List.take_of_length_le (Nat.le_refl _)] at hR
      refine Ev.step (fun k => by rw [impl_ShiftCost.l0]) (evn (by omega) ?_)
      exact key1 0 (Nat.zero_le _) hR (by simp)
    · intro i hi ih hR
      refine Ev.step (fun k => by rw [impl_ShiftCost.l0]) (evp (by omega) (evp (by omega) (evp (by omega) (evb (within_eq _ _ _) ?_))))
      rw [rd_nat sh i hi, w64 (by omega) (by omega)]
      by_cases hi2 : inR sh[i] = true
      · refine evp (by simpa [inR] using hi2) (ih ?_)
        rw [List.take_succ_eq_append_getElem hi, List.all_append, hR]; simp [hi2]
      · refine evn (by simpa [inR] using hi2) (evs ?_)
        unfold scost
        rw [if_neg]
        intro h
        exact hi2 (List.all_eq_true.1 h.2.2.1 _ (List.getElem_mem hi))
  exact key0 0 (Nat.zero_le _) (by simp)
end Go.Proofs.Ytobcafjhkimonaa.Q
