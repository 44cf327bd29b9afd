/- Chords: what BestShift and ShiftedChord of the program and of the reference come to. -/
import Derived.Test.YtobcafjhkimonaaQShift
namespace Go.Proofs.Ytobcafjhkimonaa.Q
set_option linter.unusedVariables false
set_option linter.unusedSimpArgs false
open Go.RowKit Go.Proofs.Ytobcafjhkimonaa.P Go.Proofs.YtobcafjhkimonaaW.PrintWords Go.Proofs.YtobcafjhkimonaaW.PrintMore

/-- One round: first the shift down, then the one up; a lower cost takes the place. -/
def better (c : Int → Int) (b k : Int) : Int := if c k < c b then k else b
def bests (c : Int → Int) : Nat → Int → Int → Int
  | 0, b, _ => b
  | n + 1, b, i => bests c n (better c (better c b (-i)) i) (i + 1)
def sbest (sh hd : List Int) : Int := if scost sh hd 0 < 0 then 0 else bests (scost sh hd) 2000 0 1

theorem best_spec (sh hd : List Int) (hl : sh.length ≤ 1048576) (hh : hd.length ≤ 1048576) : Ev (fun k => spec_BestShift.f k sh hd) (sbest sh hd) := by
  unfold spec_BestShift.f
  have C := fun s => cost_spec sh hd s hl hh
  refine Ev.bind (C 0) ?_
  unfold sbest
  by_cases h0 : scost sh hd 0 < 0
  · rw [if_pos h0]; exact evp h0 (Ev.now _)
  rw [if_neg h0]
  refine evn h0 ?_
  have key : ∀ (n : Nat), n ≤ 2000 → ∀ b : Int, Ev (fun k => spec_BestShift.l0 k sh hd b (2001 - n : Int)) (bests (scost sh hd) n b (2001 - n)) := by
    intro n
    induction n with
    | zero => intro _ b; refine Ev.step (fun k => by rw [spec_BestShift.l0]) (evn (by omega) ?_); exact Ev.now _
    | succ n ih =>
      intro hn b
      refine Ev.step (fun k => by rw [spec_BestShift.l0]) (evp (by omega) ?_)
      rw [w64 (n := -(2001 - ((n + 1 : Nat) : Int))) (by omega) (by omega)]
      refine Ev.bind (C _) (Ev.bind (C _) ?_)
      have up : ∀ b : Int, Ev (fun k => spec_BestShift.j1 k sh hd b (2001 - ((n + 1 : Nat) : Int))) (bests (scost sh hd) n (better (scost sh hd) b (2001 - ((n + 1 : Nat) : Int))) (2001 - n)) := by
        intro b
        refine Ev.step (fun k => by rw [spec_BestShift.j1]) (Ev.bind (C _) (Ev.bind (C _) ?_))
        rw [w64 (n := 2001 - ((n + 1 : Nat) : Int) + 1) (by omega) (by omega), show 2001 - ((n + 1 : Nat) : Int) + 1 = 2001 - (n : Int) by omega]
        unfold better
        by_cases h : scost sh hd (2001 - ((n + 1 : Nat) : Int)) < scost sh hd b
        · rw [if_pos h]; exact evp h (ih (by omega) _)
        · rw [if_neg h]; exact evn h (ih (by omega) _)
      rw [bests, show 2001 - ((n + 1 : Nat) : Int) + 1 = 2001 - (n : Int) by omega]
      by_cases h : scost sh hd (-(2001 - ((n + 1 : Nat) : Int))) < scost sh hd b
      · have e : better (scost sh hd) b (-(2001 - ((n + 1 : Nat) : Int))) = -(2001 - ((n + 1 : Nat) : Int)) := if_pos h
        rw [e]; exact evp h (up _)
      · have e : better (scost sh hd) b (-(2001 - ((n + 1 : Nat) : Int))) = b := if_neg h
        rw [e]; exact evn h (up _)
  have := key 2000 (Nat.le_refl _) 0
  simpa using this

theorem best_impl (sh hd : List Int) (hl : sh.length ≤ 1048576) (hh : hd.length ≤ 1048576) : Ev (fun k => impl_BestShift.f k sh hd) (sbest sh hd) := by
  unfold impl_BestShift.f
  have C := fun s => cost_impl sh hd s hl hh
  refine Ev.bind (C 0) ?_
  unfold sbest
  by_cases h0 : scost sh hd 0 < 0
  · rw [if_pos h0]; exact evp h0 (Ev.now _)
  rw [if_neg h0]
  refine evn h0 ?_
  have key : ∀ (n : Nat), n ≤ 2000 → ∀ b : Int, Ev (fun k => impl_BestShift.l0 k sh hd b (scost sh hd b) (2001 - n : Int)) (bests (scost sh hd) n b (2001 - n)) := by
    intro n
    induction n with
    | zero => intro _ b; refine Ev.step (fun k => by rw [impl_BestShift.l0]) (evn (by omega) ?_); exact Ev.now _
    | succ n ih =>
      intro hn b
      refine Ev.step (fun k => by rw [impl_BestShift.l0]) (evp (by omega) (evb rfl ?_))
      rw [w64 (n := -(2001 - ((n + 1 : Nat) : Int))) (by omega) (by omega), bests, show 2001 - ((n + 1 : Nat) : Int) + 1 = 2001 - (n : Int) by omega]
      generalize hi : 2001 - ((n + 1 : Nat) : Int) = i
      have one : ∀ (j : Nat) (hj : j < 2) (b : Int) (r : Int), Ev (fun k => impl_BestShift.l1 k sh hd (better (scost sh hd) b ([-i, i][j])) (scost sh hd (better (scost sh hd) b ([-i, i][j]))) i [-i, i] 2 ((j : Int) + 1)) r →
          Ev (fun k => impl_BestShift.l1 k sh hd b (scost sh hd b) i [-i, i] 2 (j : Int)) r := by
        intro j hj b r h
        refine Ev.step (fun k => by rw [impl_BestShift.l1]) (evp (by omega) (evp (by omega) (evp (by simp; omega) ?_)))
        rw [rd_nat _ j (by simpa using hj), w64 (n := (j : Int) + 1) (by omega) (by omega)]
        refine Ev.bind (C _) ?_
        unfold better at h
        by_cases hc : scost sh hd ([-i, i][j]) < scost sh hd b
        · rw [if_pos hc] at h; exact evp hc h
        · rw [if_neg hc] at h; exact evn hc h
      show Ev (fun k => impl_BestShift.l1 k sh hd b (scost sh hd b) i [-i, i] 2 ((0 : Nat) : Int)) _
      refine one 0 (by omega) b _ ?_
      show Ev (fun k => impl_BestShift.l1 k sh hd (better (scost sh hd) b (-i)) (scost sh hd (better (scost sh hd) b (-i))) i [-i, i] 2 ((1 : Nat) : Int)) _
      refine one 1 (by omega) _ _ ?_
      show Ev (fun k => impl_BestShift.l1 k sh hd (better (scost sh hd) (better (scost sh hd) b (-i)) i) (scost sh hd (better (scost sh hd) (better (scost sh hd) b (-i)) i)) i [-i, i] 2 2) _
      refine Ev.step (fun k => by rw [impl_BestShift.l1]) (evn (by omega) ?_)
      rw [w64 (n := i + 1) (by omega) (by omega), show i + 1 = 2001 - (n : Int) by omega]
      exact ih (by omega) _
  have := key 2000 (Nat.le_refl _) 0
  simpa using this

def schord (sh : List Int) (s : Int) : List Int := if sh.length ≤ 8 ∧ sh.all inR = true ∧ inS s = true then sh.map (· + s) else []

theorem chord_spec (sh : List Int) (s : Int) (hl : sh.length ≤ 1048576) : Ev (fun k => spec_ShiftedChord.f k sh s) (schord sh s) := by
  unfold spec_ShiftedChord.f schord
  have L := l33Shape_ev sh s hl
  by_cases hA : (sh.all inR && decide (sh.length ≤ 8) && inS s) = true
  · rw [hA] at L
    simp only [Bool.and_eq_true, decide_eq_true_eq] at hA
    obtain ⟨⟨hR, h8⟩, hS⟩ := hA
    rw [if_pos ⟨h8, hR, hS⟩]
    have key : ∀ i, i ≤ sh.length → ∀ acc : List Int, acc.length = i → Ev (fun k => spec_ShiftedChord.l0 k sh s acc (i : Int)) (acc ++ (sh.drop i).map (· + s)) := by
      refine down (n := sh.length) ?_ ?_
      · intro acc _
        exact Ev.step (fun k => by rw [spec_ShiftedChord.l0]) (evn (by omega) (evs (by simp)))
      · intro i hi ih acc ha
        refine Ev.step (fun k => by rw [spec_ShiftedChord.l0]) (evp (by omega) ?_)
        refine Ev.bind L ?_
        refine evp rfl (evp (by omega) (evp (by omega) ?_))
        have hx := (inR_iff _).1 (List.all_eq_true.1 hR _ (List.getElem_mem hi))
        have hS' := hS
        simp [inS] at hS'
        rw [rd_nat sh i hi, w64 (n := sh[i] + s) (by omega) (by omega), w64 (by omega) (by omega)]
        refine evr (ih (acc ++ [sh[i] + s]) (by simp [ha])) ?_
        rw [drop_cons sh i hi, List.map_cons, List.append_assoc]; rfl
    have := key 0 (Nat.zero_le _) [] rfl
    simpa using this
  · rw [Bool.not_eq_true] at hA
    rw [hA] at L
    rw [if_neg (by rintro ⟨h1, h2, h3⟩; simp [h1, h2, h3] at hA)]
    refine Ev.step (fun k => by rw [spec_ShiftedChord.l0]) (evi (fun h => ?_) (fun h => Ev.now _))
    exact Ev.bind L (evn (by simp) (Ev.now _))

theorem chord_impl (sh : List Int) (s : Int) (hl : sh.length ≤ 1048576) : Ev (fun k => impl_ShiftedChord.f k sh s) (schord sh s) := by
  unfold impl_ShiftedChord.f
  by_cases h8 : sh.length ≤ 8
  rotate_left
  · refine evp (by omega) (Ev.step (fun k => by rw [impl_ShiftedChord.j0]) (evp rfl (evs ?_)))
    unfold schord
    rw [if_neg (fun h => h8 h.1)]
  refine evn (by omega) (evb (within_eq _ _ _) (Ev.step (fun k => by rw [impl_ShiftedChord.j0]) ?_))
  by_cases hS : inS s = true
  rotate_left
  · have hS2 : decide (-2000 ≤ s ∧ s ≤ 2000) = false := Bool.eq_false_iff.2 hS
    refine evp (by rw [hS2]; rfl) (evs ?_)
    unfold schord
    rw [if_neg (fun h => hS h.2.2)]
  have hS2 : decide (-2000 ≤ s ∧ s ≤ 2000) = true := hS
  refine evn (by rw [hS2]; decide) ?_
  have hS' := hS
  simp [inS] at hS'
  have key : ∀ i, i ≤ sh.length → ∀ acc : List Int, acc.length = i → (sh.take i).all inR = true → acc = (sh.take i).map (· + s) → Ev (fun k => impl_ShiftedChord.l0 k s acc sh (sh.length : Int) (i : Int)) (schord sh s) := by
    refine down (n := sh.length) ?_ ?_
    · intro acc _ hR ha
      rw [List.take_of_length_le (Nat.le_refl _)] at hR ha
      refine Ev.step (fun k => by rw [impl_ShiftedChord.l0]) (evn (by omega) (evs ?_))
      unfold schord
      rw [if_pos ⟨h8, hR, hS⟩, ha]
    · intro i hi ih acc hlen hR ha
      refine Ev.step (fun k => by rw [impl_ShiftedChord.l0]) (evp (by omega) (evp (by omega) (evp (by omega) (evb (within_eq _ _ _) ?_))))
      rw [rd_nat sh i hi]
      by_cases hi2 : inR sh[i] = true
      · have hx := (inR_iff _).1 hi2
        refine evp (by simpa [inR] using hi2) (evp (by omega) ?_)
        rw [w64 (n := sh[i] + s) (by omega) (by omega), w64 (by omega) (by omega)]
        refine ih (acc ++ [sh[i] + s]) (by simp [hlen]) ?_ ?_
        · rw [List.take_succ_eq_append_getElem hi, List.all_append, hR]; simp [hi2]
        · rw [List.take_succ_eq_append_getElem hi, ha, List.map_append]; rfl
      · refine evn (by simpa [inR] using hi2) (evs ?_)
        unfold schord
        rw [if_neg]
        intro h
        exact hi2 (List.all_eq_true.1 h.2.1 _ (List.getElem_mem _))
  exact key 0 (Nat.zero_le _) [] rfl (by simp) (by simp)
end Go.Proofs.Ytobcafjhkimonaa.Q
