/- Acts: what ActOk of the program and of the reference comes to. -/
import Derived.Test.YtobcafjhkimonaaQNum
import Derived.Test.YtobcafjhkimonaaFSpecActOk
import Derived.Test.YtobcafjhkimonaaFImplActOk
import Derived.Test.YtobcafjhkimonaaFImplIsWarmth
namespace Go.Proofs.Ytobcafjhkimonaa.Q
set_option linter.unusedVariables false
set_option linter.unusedSimpArgs false
open Go.RowKit Go.Proofs.Ytobcafjhkimonaa.P Go.Proofs.YtobcafjhkimonaaW.PrintWords Go.Proofs.YtobcafjhkimonaaW.PrintMore

theorem isWarmth_eq (a : Int) : impl_isWarmth.f a = some (decide (-10 ≤ a ∧ a ≤ 40)) := by
  unfold impl_isWarmth.f; rw [within_eq]; rfl
def actOk (n a b c : Int) : Bool :=
  if n = 1 ∨ n = 5 ∨ n = 6 then decide (a = 0 ∧ b = 0 ∧ c = 0)
  else if n = 2 then decide ((-10 ≤ a ∧ a ≤ 40) ∧ b = 0 ∧ c = 0)
  else if n = 3 then decide ((0 ≤ a ∧ a ≤ 3) ∧ (0 ≤ b ∧ b ≤ 39) ∧ (0 ≤ c ∧ c ≤ 2))
  else if n = 4 then decide ((0 ≤ a ∧ a ≤ 11) ∧ (-100000 ≤ b ∧ b ≤ 100000) ∧ c = 0)
  else if n = 7 then decide ((0 ≤ a ∧ a ≤ 11) ∧ b = 0 ∧ c = 0) else false

theorem actOk_impl (n a b c : Int) : Ev (fun k => impl_ActOk.f k n a b c) (actOk n a b c) := by
  have J : ∀ x : Bool, x = decide (n = 1 ∨ n = 5 ∨ n = 6) → Ev (fun k => impl_ActOk.j0 k n x n a b c) (actOk n a b c) := by
    intro x hx
    refine Ev.step (fun k => by rw [impl_ActOk.j0]) ?_
    unfold actOk
    by_cases h : n = 1 ∨ n = 5 ∨ n = 6
    · refine evp (by simp [hx, h]) (evs ?_)
      rw [if_pos h, Bool.eq_iff_iff]; simp
    rw [if_neg h]
    refine evn (by simp [hx, h]) ?_
    by_cases h2 : n = 2
    · refine evp h2 ?_
      rw [if_pos h2]
      by_cases hz : b = 0 ∧ c = 0
      · refine evp (by simp [hz]) (evb (isWarmth_eq _) (evs ?_))
        simp [hz]
      · refine evn (by simpa using hz) (evs ?_)
        rw [Bool.eq_iff_iff]; simp; intros; omega
    refine evn h2 ?_
    rw [if_neg h2]
    by_cases h3 : n = 3
    · refine evp h3 ?_
      rw [if_pos h3]
      refine evb (within_eq _ _ _) ?_
      by_cases p1 : 0 ≤ a ∧ a ≤ 3
      rotate_left
      · exact evn (by simpa using p1) (evs (by simp [p1]))
      refine evp (by simpa using p1) (evb (within_eq _ _ _) ?_)
      by_cases p2 : 0 ≤ b ∧ b ≤ 39
      rotate_left
      · exact evn (by simpa using p2) (evs (by simp [p2]))
      refine evp (by simpa using p2) (evb (within_eq _ _ _) (evs ?_))
      simp [p1, p2]
    refine evn h3 ?_
    rw [if_neg h3]
    by_cases h4 : n = 4
    · refine evp h4 ?_
      rw [if_pos h4]
      by_cases p0 : c = 0
      rotate_left
      · exact evn (by simpa using p0) (evs (by simp [p0]))
      refine evp (by simpa using p0) (evb (within_eq _ _ _) ?_)
      by_cases p1 : 0 ≤ a ∧ a ≤ 11
      rotate_left
      · exact evn (by simpa using p1) (evs (by simp [p1]))
      refine evp (by simpa using p1) (evb (within_eq _ _ _) (evs ?_))
      simp [p0, p1]
    refine evn h4 ?_
    rw [if_neg h4]
    by_cases h7 : n = 7
    · refine evp h7 ?_
      rw [if_pos h7]
      by_cases hz : b = 0 ∧ c = 0
      · refine evp (by simp [hz]) (evb (within_eq _ _ _) (evs ?_))
        simp [hz]
      · refine evn (by simpa using hz) (evs ?_)
        rw [Bool.eq_iff_iff]; simp; intros; omega
    refine evn h7 ?_
    rw [if_neg h7]
    exact Ev.now _
  unfold impl_ActOk.f
  refine evi (fun h => J _ (by simp [h])) (fun h => evi (fun h5 => J _ (by simp [h5])) (fun h5 => J _ ?_))
  rw [Bool.eq_iff_iff]; simp [h, h5]

theorem actOk_spec (n a b c : Int) : Ev (fun k => spec_ActOk.f k n a b c) (actOk n a b c) := by
  have Z : ∀ (p : Prop) [Decidable p], p → Ev (fun _ => if b = 0 then some (c == 0) else some false) (decide (p ∧ b = 0 ∧ c = 0)) := by
    intro p _ hp
    by_cases hb : b = 0
    · refine evp hb (evs ?_); rw [Bool.eq_iff_iff]; simp [hp, hb]
    · refine evn hb (evs ?_); simp [hb]
  have J : ∀ x : Bool, x = decide (n = 1 ∨ n = 5 ∨ n = 6) → Ev (fun k => spec_ActOk.j0 k n x n a b c) (actOk n a b c) := by
    intro x hx
    refine Ev.step (fun k => by rw [spec_ActOk.j0]) ?_
    unfold actOk
    by_cases h : n = 1 ∨ n = 5 ∨ n = 6
    · rw [if_pos h]
      refine evp (by simp [hx, h]) ?_
      by_cases ha : a = 0
      · exact evp ha (Z (a = 0) ha)
      · exact evn ha (evs (by simp [ha]))
    rw [if_neg h]
    refine evn (by simp [hx, h]) ?_
    by_cases h2 : n = 2
    · refine evp h2 ?_
      rw [if_pos h2]
      refine evb (l01In_eq _ _ _) ?_
      by_cases p1 : -10 ≤ a ∧ a ≤ 40
      · exact evp (by simpa using p1) (Z _ p1)
      · exact evn (by simpa using p1) (evs (by simp [p1]))
    refine evn h2 ?_
    rw [if_neg h2]
    by_cases h3 : n = 3
    · refine evp h3 ?_
      rw [if_pos h3]
      refine evb (l01In_eq _ _ _) ?_
      by_cases p1 : 0 ≤ a ∧ a ≤ 3
      rotate_left
      · exact evn (by simpa using p1) (evs (by simp [p1]))
      refine evp (by simpa using p1) (evb (l01In_eq _ _ _) ?_)
      by_cases p2 : 0 ≤ b ∧ b ≤ 39
      rotate_left
      · exact evn (by simpa using p2) (evs (by simp [p2]))
      refine evp (by simpa using p2) (evb (l01In_eq _ _ _) (evs ?_))
      simp [p1, p2]
    refine evn h3 ?_
    rw [if_neg h3]
    by_cases h4 : n = 4
    · refine evp h4 ?_
      rw [if_pos h4]
      refine evb (l01In_eq _ _ _) ?_
      by_cases p1 : 0 ≤ a ∧ a ≤ 11
      rotate_left
      · exact evn (by simpa using p1) (evs (by simp [p1]))
      refine evp (by simpa using p1) (evb (l01In_eq _ _ _) ?_)
      by_cases p2 : -100000 ≤ b ∧ b ≤ 100000
      · refine evp (by simpa using p2) (evs ?_); rw [Bool.eq_iff_iff]; simp [p1, p2]
      · refine evn (by simpa using p2) (evs ?_); simp [p2]
    refine evn h4 ?_
    rw [if_neg h4]
    by_cases h7 : n = 7
    · refine evp h7 ?_
      rw [if_pos h7]
      refine evb (l01In_eq _ _ _) ?_
      by_cases p1 : 0 ≤ a ∧ a ≤ 11
      · exact evp (by simpa using p1) (Z _ p1)
      · exact evn (by simpa using p1) (evs (by simp [p1]))
    refine evn h7 ?_
    rw [if_neg h7]
    exact Ev.now _
  unfold spec_ActOk.f
  refine evi (fun h => J _ (by simp [h])) (fun h => evi (fun h5 => J _ (by simp [h5])) (fun h5 => J _ ?_))
  rw [Bool.eq_iff_iff]; simp [h, h5]
end Go.Proofs.Ytobcafjhkimonaa.Q
