/- What functions of the program come to (f), that their calls come to just this (calls), and the plain laws over lists and numbers, and the law FnShops: for every argument it answers true. No condition but those of the given row. -/
import Derived.Test.YtbkkpllejgedcaaRows
import Derived.Test.YtbkkpllejgedcaaC5
import Derived.Deep.Slices
import Derived.ChangeArms
import Derived.ChangeSame
import Derived.WalkKit
import Derived.ProofKit
import Derived.OpenShut
import Derived.ShutString
import Derived.ChangeOld
import Derived.Below
import Derived.SizedLaws
namespace Go.Proofs.Ytbkkpllejgedcaa.Q
set_option linter.unusedVariables false
set_option linter.unusedSimpArgs false
open Go.RowKit Go.Proofs.Ytbkkpllejgedcaa.P Go.Proofs.YtbkkpllejgedcaaW.PrintWords Go.Proofs.YtbkkpllejgedcaaW.PrintMore
def workStep (p : List S96) (d : Int) (q : List Int) : List S96 × Int × List Int × Bool :=
  if workOk p d q = true then
    if d = (p.length : Int) then (p, d, q, false)
    else if tuneAt p q d.toNat = 0 then (p, d, q, false)
    else (p, d + 1, q.set (p.getD d.toNat z96).f1.toNat (tuneAt p q d.toNat), true)
  else (p, d, q, false)
theorem step_spec (p : List S96) (d : Int) (q : List Int) (hp : p.length ≤ 4000000) (hq : q.length ≤ 4000000) : Ev (fun n => spec_WorkStep.f n p d q) (workStep p d q) := by
  have jt : Ev (fun n => spec_WorkStep.j0 n true p d q p d q) (p, d, q, false) := Ev.step (fun n => by rw [spec_WorkStep.j0]) (evp rfl (Ev.now _))
  unfold spec_WorkStep.f workStep
  refine evb (l36Copy_eq p d q hp hq) (Ev.bind (workOk_spec p d q) ?_)
  by_cases h : workOk p d q = true
  rotate_left
  · exact rneg h <| evn h jt
  refine rpos h <| evp h ?_
  have hp := workOk_plan h; have hd := workOk_done h; have hq := workOk_len h; have hl := planOk_len hp
  obtain ⟨m, rfl⟩ := Int.eq_ofNat_of_zero_le hd.1
  by_cases he : (m : Int) = (p.length : Int)
  · rw [show ((m : Int) == (p.length : Int)) = true by simpa using he]; exact rpos he jt
  rw [show ((m : Int) == (p.length : Int)) = false by simpa using he]
  refine rneg he ?_
  have hm : m < p.length := by omega
  obtain ⟨k0, k1, k2, k3, k4⟩ := planOk_in hp p[m] (List.getElem_mem hm)
  refine Ev.step (fun n => by rw [spec_WorkStep.j0]) ?_
  refine evn (by decide) (evp (by omega) (evp (by omega) ?_))
  rw [rdS p m hm]
  refine evp k0 (evp (by omega) (Ev.bind (tuned_spec _ _ _) ?_))
  rw [rd_get]
  have et : tunedPitch (q.getD p[m].f0.toNat 0) p[m].f2 p[m].f3 = tuneAt p q m := by unfold tuneAt; rw [getS p m hm]
  rw [et, getS p ((m : Int).toNat) hm]
  simp only [Int.toNat_natCast]
  by_cases hz : tuneAt p q m = 0
  · exact rpos hz <| evp hz (Ev.now _)
  refine rneg hz <| evn hz ?_
  rw [w64 (n := (m : Int) + 1) (by omega) (by omega)]
  exact evp k2 (evp (by omega) (Ev.now _))
end Go.Proofs.Ytbkkpllejgedcaa.Q


namespace Go.Proofs.Ytbkkpllejgedcaa.Q
set_option linter.unusedVariables false
set_option linter.unusedSimpArgs false
open Go.RowKit Go.Proofs.Ytbkkpllejgedcaa.P Go.Proofs.YtbkkpllejgedcaaW.PrintWords Go.Proofs.YtbkkpllejgedcaaW.PrintMore
def isBad (p : List S96) (q : List Int) (i : Nat) : Bool := decide (q.getD (p.getD i z96).f1.toNat 0 ≠ tuneAt p q i)
def wrongs (p : List S96) (q : List Int) (l : List Nat) : List Int := (l.filter (isBad p q)).map (fun (i : Nat) => (i : Int))
def wrongSteps (p : List S96) (d : Int) (q : List Int) : List Int := if workOk p d q = true then wrongs p q (List.range d.toNat) else []
theorem wrongs_cons (p : List S96) (q : List Int) (i : Nat) (l : List Nat) : wrongs p q (i :: l) = if isBad p q i = true then (i : Int) :: wrongs p q l else wrongs p q l := by
  unfold wrongs; rw [List.filter_cons]; split <;> rfl
theorem wrong_impl (p : List S96) (d : Int) (q : List Int) : Ev (fun n => impl_WrongSteps.f n p d q) (wrongSteps p d q) := by
  unfold impl_WrongSteps.f wrongSteps
  refine evb (workImpl_eq p d q) ?_
  by_cases h : workOk p d q = true
  rotate_left
  · exact rneg h <| evn h (Ev.now _)
  have hp := workOk_plan h; have hd := workOk_done h; have hq := workOk_len h; have hl := planOk_len hp
  obtain ⟨m, rfl⟩ := Int.eq_ofNat_of_zero_le hd.1
  refine rpos h <| evp h (evp hd.1 (evp hd.2 ?_))
  simp only [Option.bind_some, Int.toNat_natCast]
  have key : ∀ i, i ≤ m → ∀ acc : List Int, acc.length ≤ i → Ev (fun n => impl_WrongSteps.l0 n acc (p.take m) ((p.take m).length : Int) (i : Int) p m q) (acc ++ wrongs p q ((List.range m).drop i)) := by
    refine down (n := m) ?_ ?_
    · intro acc ha
      refine Ev.step (fun n => by rw [impl_WrongSteps.l0]) (evn (by rw [List.length_take]; omega) (evs ?_))
      rw [List.drop_eq_nil_of_le (by simp)]; simp [wrongs]
    · intro i hi ih acc ha
      obtain ⟨k0, k1, k2, k3, k4⟩ := planOk_in hp p[i] (List.getElem_mem (by omega))
      have e : (p.take m)[i]'(by rw [List.length_take]; omega) = p[i] := by simp
      refine Ev.step (fun n => by rw [impl_WrongSteps.l0]) ?_
      refine evp (by rw [List.length_take]; omega) (evp (by omega) (evp (by rw [List.length_take]; omega) ?_))
      rw [rdS (p.take m) i (by rw [List.length_take]; omega), e]
      refine evp k2 (evp (by omega) (Ev.bind (tunedBy_ev p _ q i hp hq (by omega)) ?_))
      rw [drop_cons _ i (by simpa using hi), List.getElem_range, rd_get, w64 (n := (i : Int) + 1) (by omega) (by omega)]
      have g := getS p i (by omega)
      have eb : isBad p q i = decide (q.getD p[i].f1.toNat 0 ≠ tuneAt p q i) := by unfold isBad; rw [g]
      by_cases hb : q.getD p[i].f1.toNat 0 = tuneAt p q i
      · rw [show wrongs p q (i :: (List.range m).drop (i + 1)) = wrongs p q ((List.range m).drop (i + 1)) by rw [wrongs_cons, eb, if_neg (by simp only [decide_eq_true_eq]; exact fun h => h hb)]]
        refine evp hb ?_
        exact ih acc (by omega)
      · rw [show wrongs p q (i :: (List.range m).drop (i + 1)) = (i : Int) :: wrongs p q ((List.range m).drop (i + 1)) by rw [wrongs_cons, eb, if_pos (by simp only [decide_eq_true_eq]; exact hb)]]
        refine evn hb (evp (by omega) ?_)
        have := ih (acc ++ [(i : Int)]) (by simp; omega)
        rw [List.append_assoc] at this
        exact this
  have := key 0 (Nat.zero_le _) [] (Nat.le_refl _)
  simpa using this
theorem wrong_spec (p : List S96) (d : Int) (q : List Int) : Ev (fun n => spec_WrongSteps.f n p d q) (wrongSteps p d q) := by
  unfold spec_WrongSteps.f wrongSteps
  simp only [Option.bind_some]
  refine Ev.bind (workOk_spec p d q) ?_
  by_cases h : workOk p d q = true
  rotate_left
  · exact rneg h <| evn h (Ev.now _)
  have hp := workOk_plan h; have hd := workOk_done h; have hq := workOk_len h; have hl := planOk_len hp
  obtain ⟨m, rfl⟩ := Int.eq_ofNat_of_zero_le hd.1
  refine rpos h <| evp h ?_
  simp only [Int.toNat_natCast]
  have key : ∀ i, i ≤ m → ∀ acc : List Int, acc.length ≤ i → Ev (fun n => spec_WrongSteps.l0 n acc (i : Int) p m q) (acc ++ wrongs p q ((List.range m).drop i)) := by
    refine down (n := m) ?_ ?_
    · intro acc ha
      refine Ev.step (fun n => by rw [spec_WrongSteps.l0]) (evn (by omega) (evs ?_))
      rw [List.drop_eq_nil_of_le (by simp)]; simp [wrongs]
    · intro i hi ih acc ha
      obtain ⟨k0, k1, k2, k3, k4⟩ := planOk_in hp p[i] (List.getElem_mem (by omega))
      refine Ev.step (fun n => by rw [spec_WrongSteps.l0]) ?_
      refine evp (by omega) (evp (by omega) (evp (by omega) ?_))
      rw [rdS p i (by omega)]
      refine evp k2 (evp (by omega) (evp k0 (evp (by omega) (Ev.bind (tuned_spec _ _ _) ?_))))
      rw [drop_cons _ i (by simpa using hi), List.getElem_range, rd_get, rd_get, w64 (n := (i : Int) + 1) (by omega) (by omega)]
      have g := getS p i (by omega)
      have eb : isBad p q i = decide (q.getD p[i].f1.toNat 0 ≠ tuneAt p q i) := by unfold isBad; rw [g]
      by_cases hb : q.getD p[i].f1.toNat 0 = tuneAt p q i
      · rw [show wrongs p q (i :: (List.range m).drop (i + 1)) = wrongs p q ((List.range m).drop (i + 1)) by rw [wrongs_cons, eb, if_neg (by simp only [decide_eq_true_eq]; exact fun h => h hb)]]
        refine evp (by rw [hb]; unfold tuneAt; rw [g]) ?_
        exact ih acc (by omega)
      · rw [show wrongs p q (i :: (List.range m).drop (i + 1)) = (i : Int) :: wrongs p q ((List.range m).drop (i + 1)) by rw [wrongs_cons, eb, if_pos (by simp only [decide_eq_true_eq]; exact hb)]]
        refine evn (by unfold tuneAt at hb; rw [g] at hb; exact hb) (evp (by omega) ?_)
        have := ih (acc ++ [(i : Int)]) (by simp; omega)
        rw [List.append_assoc] at this
        exact this
  have := key 0 (Nat.zero_le _) [] (Nat.le_refl _)
  simpa using this
end Go.Proofs.Ytbkkpllejgedcaa.Q


namespace Go.Proofs.Ytbkkpllejgedcaa.Q
set_option linter.unusedVariables false
set_option linter.unusedSimpArgs false
open Go.RowKit Go.Proofs.Ytbkkpllejgedcaa.P Go.Proofs.YtbkkpllejgedcaaW.PrintWords Go.Proofs.YtbkkpllejgedcaaW.PrintMore
def mendStep (p : List S96) (d : Int) (q : List Int) : List S96 × Int × List Int × Bool :=
  match wrongSteps p d q with
  | [] => (p, d, q, false)
  | i :: _ => if tuneAt p q i.toNat = 0 then (p, d, q, false) else (p, d, q.set (p.getD i.toNat z96).f1.toNat (tuneAt p q i.toNat), true)
theorem wrongSteps_head {p : List S96} {d : Int} {q : List Int} {i : Int} {r : List Int} (h : wrongSteps p d q = i :: r) : workOk p d q = true ∧ ∃ j : Nat, i = j ∧ (j : Int) < d ∧ j < p.length := by
  unfold wrongSteps at h
  by_cases hw : workOk p d q = true
  rotate_left
  · rw [if_neg hw] at h; exact absurd h (by simp)
  rw [if_pos hw] at h
  refine ⟨hw, ?_⟩
  have hi : i ∈ wrongs p q (List.range d.toNat) := by rw [h]; exact List.mem_cons_self
  unfold wrongs at hi
  obtain ⟨j, hj, rfl⟩ := List.mem_map.1 hi
  have hd := workOk_done hw
  have := List.mem_range.1 (List.mem_filter.1 hj).1
  exact ⟨j, rfl, by omega, by omega⟩
theorem mend_spec (p : List S96) (d : Int) (q : List Int) (hp : p.length ≤ 4000000) (hq : q.length ≤ 4000000) : Ev (fun n => spec_MendStep.f n p d q) (mendStep p d q) := by
  unfold spec_MendStep.f mendStep
  refine evb (l36Copy_eq p d q hp hq) (Ev.bind (wrong_spec p d q) ?_)
  cases h : wrongSteps p d q with
  | nil => exact evp rfl (Ev.now _)
  | cons i r =>
    obtain ⟨hw, j, rfl, hj, hj2⟩ := wrongSteps_head h
    have hp := workOk_plan hw; have hq := workOk_len hw
    obtain ⟨k0, k1, k2, k3, k4⟩ := planOk_in hp p[j] (List.getElem_mem hj2)
    refine evn (by simp; omega) (evp (by simp) ?_)
    rw [show rd ((j : Int) :: r) 0 = (j : Int) from rfl]
    refine evp (by omega) (evp (by omega) ?_)
    rw [rdS p j hj2]
    refine evp k0 (evp (by omega) (Ev.bind (tuned_spec _ _ _) ?_))
    rw [rd_get]
    have et : tunedPitch (q.getD p[j].f0.toNat 0) p[j].f2 p[j].f3 = tuneAt p q j := by unfold tuneAt; rw [getS p j hj2]
    simp only [Int.toNat_natCast]
    rw [et, getS p j hj2]
    by_cases hz : tuneAt p q j = 0
    · exact rpos hz <| evp hz (Ev.now _)
    exact rneg hz <| evn hz (evp k2 (evp (by omega) (Ev.now _)))
end Go.Proofs.Ytbkkpllejgedcaa.Q


namespace Go.Proofs.Ytbkkpllejgedcaa.Q
set_option linter.unusedVariables false
set_option linter.unusedSimpArgs false
open Go.RowKit Go.Proofs.Ytbkkpllejgedcaa.P Go.Proofs.YtbkkpllejgedcaaW.PrintWords Go.Proofs.YtbkkpllejgedcaaW.PrintMore
def knocked (q : List Int) (c x : Int) : List Int := q.set c.toNat (wrap64 (q.getD c.toNat 0 + x))
def knockKey (p : List S96) (d : Int) (q : List Int) (c x : Int) : List S96 × Int × List Int × Bool :=
  if workOk p d q = true ∧ (0 ≤ c ∧ c ≤ 11) ∧ (-100000 ≤ x ∧ x ≤ 100000) ∧ q.getD c.toNat 0 ≠ 0 then
    if workOk p d (knocked q c x) = true then (p, d, knocked q c x, true) else (p, d, q, false)
  else (p, d, q, false)
theorem knock_impl (p : List S96) (d : Int) (q : List Int) (c x : Int) (hp : p.length ≤ 4000000) (hq : q.length ≤ 4000000) : Ev (fun n => impl_KnockKey.f n p d q c x) (knockKey p d q c x) := by
  have jt : Ev (fun n => impl_KnockKey.j0 n c x true p d q p d q) (p, d, q, false) := Ev.step (fun n => by rw [impl_KnockKey.j0]) (evp rfl (Ev.now _))
  unfold impl_KnockKey.f knockKey
  refine evb (copyWork_eq p d q hp hq) (evb (workImpl_eq p d q) ?_)
  by_cases h : workOk p d q = true
  rotate_left
  · exact rneg (fun h2 => h h2.1) <| evn h jt
  have hl := workOk_len h
  refine evp h (evb (within_eq _ _ _) ?_)
  by_cases hc : 0 ≤ c ∧ c ≤ 11
  rotate_left
  · exact rneg (fun h2 => hc h2.2.1) <| evn (bfalse hc) jt
  refine evp (btrue hc) (evp hc.1 (evp (by omega) ?_))
  rw [rd_get]
  by_cases hz : q.getD c.toNat 0 = 0
  · exact rneg (fun h2 => h2.2.2.2 hz) <| evp hz jt
  refine evn hz (evb (within_eq _ _ _) ?_)
  by_cases hx : -100000 ≤ x ∧ x ≤ 100000
  rotate_left
  · rw [decide_eq_false hx]; exact rneg (fun h2 => hx h2.2.2.1) jt
  rw [decide_eq_true hx]
  refine rpos ⟨h, hc, hx, hz⟩ ?_
  refine Ev.step (fun n => by rw [impl_KnockKey.j0]) ?_
  refine evn (by decide) (evp hc.1 (evp (by show c < (q.length : Int); omega) ?_))
  simp only [Option.bind_some, rd_get]
  refine evb (workImpl_eq p d _) ?_
  by_cases h3 : workOk p d (knocked q c x) = true
  · exact rpos h3 <| evp h3 (Ev.now _)
  · exact rneg h3 <| evn h3 (evb (copyWork_eq p d q hp hq) (Ev.now _))
theorem knock_spec (p : List S96) (d : Int) (q : List Int) (c x : Int) (hp : p.length ≤ 4000000) (hq : q.length ≤ 4000000) : Ev (fun n => spec_KnockKey.f n p d q c x) (knockKey p d q c x) := by
  have jt : Ev (fun n => spec_KnockKey.j0 n c x true p d q p d q) (p, d, q, false) := Ev.step (fun n => by rw [spec_KnockKey.j0]) (evp rfl (Ev.now _))
  unfold spec_KnockKey.f knockKey
  refine evb (l36Copy_eq p d q hp hq) (Ev.bind (workOk_spec p d q) ?_)
  by_cases h : workOk p d q = true
  rotate_left
  · exact rneg (fun h2 => h h2.1) <| evn h jt
  have hl := workOk_len h
  refine evp h (evb (l01In_eq _ _ _) ?_)
  by_cases hc : 0 ≤ c ∧ c ≤ 11
  rotate_left
  · exact rneg (fun h2 => hc h2.2.1) <| evn (bfalse hc) jt
  refine evp (btrue hc) (evb (l01In_eq _ _ _) ?_)
  by_cases hx : -100000 ≤ x ∧ x ≤ 100000
  rotate_left
  · exact rneg (fun h2 => hx h2.2.2.1) <| evn (bfalse hx) jt
  refine evp (btrue hx) (evp hc.1 (evp (by omega) ?_))
  rw [rd_get]
  by_cases hz : q.getD c.toNat 0 = 0
  · rw [show (q.getD c.toNat 0 == 0) = true by rw [hz]; rfl]; exact rneg (fun h2 => h2.2.2.2 hz) jt
  rw [show (q.getD c.toNat 0 == 0) = false from beq_eq_false_iff_ne.mpr hz]
  refine rpos ⟨h, hc, hx, hz⟩ ?_
  refine Ev.step (fun n => by rw [spec_KnockKey.j0]) ?_
  refine evn (by decide) (evp hc.1 (evp (by show c < (q.length : Int); omega) ?_))
  simp only [Option.bind_some, rd_get]
  refine Ev.bind (workOk_spec p d _) ?_
  by_cases h3 : workOk p d (knocked q c x) = true
  · exact rpos h3 <| evp h3 (Ev.now _)
  · exact rneg h3 <| evn h3 (evb (l36Copy_eq p d q hp hq) (Ev.now _))
end Go.Proofs.Ytbkkpllejgedcaa.Q


namespace Go.Proofs.Ytbkkpllejgedcaa.Q
set_option linter.unusedVariables false
set_option linter.unusedSimpArgs false
open Go.RowKit Go.Proofs.Ytbkkpllejgedcaa.P Go.Proofs.YtbkkpllejgedcaaW.PrintWords Go.Proofs.YtbkkpllejgedcaaW.PrintMore
def newWork (a : Int) (p : List S96) : List S96 × Int × List Int × Bool := if (runPlan a p).2 = true then (p, 0, begun a, true) else ([], 0, [], false)
theorem runPlan_plan {a : Int} {p : List S96} (h : (runPlan a p).2 = true) : planOk p = true ∧ fine a = true := by
  unfold runPlan at h
  by_cases h2 : planOk p = true ∧ fine a = true
  · exact h2
  · rw [if_neg h2] at h; exact absurd h (by simp)
theorem newWork_spec (a : Int) (p : List S96) : Ev (fun n => spec_NewWork.f n a p) (newWork a p) := by
  unfold spec_NewWork.f newWork
  refine Ev.bind (runPlan_spec a p) ?_
  by_cases h : (runPlan a p).2 = true
  rotate_left
  · exact rneg h <| evn h (Ev.now _)
  refine rpos h <| evp h (evb (l19Copy_eq p (by have := planOk_len (runPlan_plan h).1; omega)) (evp (by decide) ?_))
  simp only [Option.bind_some]
  exact evp (by simp) (Ev.now _)
end Go.Proofs.Ytbkkpllejgedcaa.Q


namespace Go.Proofs.Ytbkkpllejgedcaa.Q
set_option linter.unusedVariables false
set_option linter.unusedSimpArgs false
open Go.RowKit Go.Proofs.Ytbkkpllejgedcaa.P Go.Proofs.YtbkkpllejgedcaaW.PrintWords Go.Proofs.YtbkkpllejgedcaaW.PrintMore
def rightTo (p : List S96) (q : List Int) (i : Nat) : Prop := ∀ k : Nat, k ≤ i → q.getD k 0 = pit p (q.getD 0 0) k
theorem rightTo_zero (p : List S96) (q : List Int) : rightTo p q 0 := by
  intro k hk
  obtain rfl : k = 0 := by omega
  rfl
theorem rightTo_pits (p : List S96) (s : Int) (n : Nat) (hn : n < 12) : rightTo p (pits p s n) n := fun k hk => by
  rw [pits_get p s n k (by omega), if_pos hk, pits_get p s n 0 (by omega), if_pos (Nat.zero_le _)]; rfl
section
variable {p : List S96} (g : gPlan p)
include g
theorem tuneAt_right {q : List Int} {i : Nat} (hi : i < p.length) (h : q.getD i 0 = pit p (q.getD 0 0) i) : tuneAt p q i = pit p (q.getD 0 0) (i + 1) := by
  unfold tuneAt
  rw [(gAt g i hi).1, Int.toNat_natCast, h]; rfl
theorem isBad_iff {q : List Int} {i : Nat} (hi : i < p.length) : isBad p q i = true ↔ q.getD (i + 1) 0 ≠ tuneAt p q i := by
  unfold isBad
  rw [(gAt g i hi).2.1, show ((i : Int) + 1).toNat = i + 1 by omega, decide_eq_true_iff]
theorem rightTo_succ {q : List Int} {i : Nat} (hi : i < p.length) (h : rightTo p q i) (hb : ¬ isBad p q i = true) : rightTo p q (i + 1) := by
  rw [isBad_iff g hi] at hb
  have hb2 : q.getD (i + 1) 0 = tuneAt p q i := Classical.byContradiction hb
  intro k hk
  by_cases e : k = i + 1
  · subst e; rw [hb2]; exact tuneAt_right g hi (h i (Nat.le_refl _))
  · exact h k (by omega)
theorem notBad {q : List Int} {i j : Nat} (hi : i ≤ p.length) (h : rightTo p q i) (hj : j < i) : isBad p q j = false := by
  have : ¬ isBad p q j = true := by
    rw [isBad_iff g (by omega), Classical.not_not, tuneAt_right g (by omega) (h j (by omega))]
    exact h (j + 1) (by omega)
  simpa using this
theorem wrongs_skip {q : List Int} {i : Nat} (hi : i ≤ p.length) (h : rightTo p q i) (r : List Nat) : wrongs p q (List.range i ++ r) = wrongs p q r := by
  unfold wrongs
  rw [List.filter_append, List.filter_eq_nil_iff.2 (fun j hj => by rw [notBad g hi h (List.mem_range.1 hj)]; simp)]
  rfl
theorem wrongs_none {q : List Int} {i : Nat} (hi : i ≤ p.length) (h : rightTo p q i) : wrongs p q (List.range i) = [] := by
  have := wrongs_skip g hi h []
  rw [List.append_nil] at this
  rw [this]; rfl
theorem wrongs_first {q : List Int} {i j : Nat} (hi : i + (j + 1) ≤ p.length) (h : rightTo p q i) (hb : isBad p q i = true) : ∃ r, wrongs p q (List.range (i + (j + 1))) = (i : Int) :: r := by
  rw [List.range_add, wrongs_skip g (by omega) h, List.range_succ_eq_map, List.map_cons, Nat.add_zero, wrongs_cons, if_pos hb]
  exact ⟨_, rfl⟩
theorem right_pits {q : List Int} {n : Nat} (hn : n ≤ p.length) (hw : workOk p (n : Int) q = true) (h : rightTo p q n) : q = pits p (q.getD 0 0) n := by
  obtain ⟨h1, h2, h3⟩ := (workOk_good g n hn q).1 hw
  refine list_ext12 h1 (pits_len _ _ _) (fun k hk => ?_)
  rw [pits_get _ _ n k hk]
  by_cases e : k ≤ n
  · rw [if_pos e]; exact h k e
  · rw [if_neg e]; exact h3 k (by omega) hk
theorem mended {q : List Int} {i n : Nat} (hn : n ≤ p.length) (hi : i < n) (hw : workOk p (n : Int) q = true) (hs : 155000 ≤ q.getD 0 0 ∧ q.getD 0 0 ≤ 345000) (h : rightTo p q i) :
    workOk p (n : Int) (q.set (i + 1) (pit p (q.getD 0 0) (i + 1))) = true ∧ (q.set (i + 1) (pit p (q.getD 0 0) (i + 1))).getD 0 0 = q.getD 0 0 ∧ rightTo p (q.set (i + 1) (pit p (q.getD 0 0) (i + 1))) (i + 1) := by
  obtain ⟨h1, h2, h3⟩ := (workOk_good g n hn q).1 hw
  have hl := g.1
  have hf := pit_fine g hs (i + 1) (by omega)
  have e0 : (q.set (i + 1) (pit p (q.getD 0 0) (i + 1))).getD 0 0 = q.getD 0 0 := getD_set_ne _ _ _ _ (by omega)
  refine ⟨(workOk_good g n hn _).2 ⟨by simpa using h1, fun k hk => ?_, fun k hk hk2 => ?_⟩, e0, fun k hk => ?_⟩
  · by_cases e : i + 1 = k
    · subst e; rw [getD_set_self _ _ _ (by omega)]; omega
    · rw [getD_set_ne _ _ _ _ e]; exact h2 k hk
  · rw [getD_set_ne _ _ _ _ (by omega)]; exact h3 k hk hk2
  · rw [e0]
    by_cases e : i + 1 = k
    · subst e; rw [getD_set_self _ _ _ (by omega)]
    · rw [getD_set_ne _ _ _ _ e]; exact h k (by omega)
omit g in
theorem wrongSteps_good {q : List Int} {n : Nat} (hw : workOk p (n : Int) q = true) : wrongSteps p (n : Int) q = wrongs p q (List.range n) := by
  unfold wrongSteps; rw [if_pos hw, Int.toNat_natCast]
theorem mendStep_good {q : List Int} {i j n : Nat} (hn : n ≤ p.length) (hij : n = i + (j + 1)) (hw : workOk p (n : Int) q = true) (hs : 155000 ≤ q.getD 0 0 ∧ q.getD 0 0 ≤ 345000) (h : rightTo p q i) (hb : isBad p q i = true) :
    mendStep p (n : Int) q = (p, (n : Int), q.set (i + 1) (pit p (q.getD 0 0) (i + 1)), true) := by
  obtain ⟨r, hr⟩ := wrongs_first g (by omega : i + (j + 1) ≤ p.length) h hb
  have hf := pit_fine g hs (i + 1) (by omega)
  unfold mendStep
  rw [wrongSteps_good hw, hij, hr]
  simp only [Int.toNat_natCast]
  rw [tuneAt_right g (by omega) (h i (Nat.le_refl _)), if_neg (by omega), (gAt g i (by omega)).2.1, show ((i : Int) + 1).toNat = i + 1 by omega]
theorem workStep_good {s : Int} (hs : 155000 ≤ s ∧ s ≤ 345000) {n : Nat} (hn : n < p.length) : workStep p (n : Int) (pits p s n) = (p, ((n + 1 : Nat) : Int), pits p s (n + 1), true) := by
  have hl := g.1
  have hf := pit_fine g hs (n + 1) hn
  have e0 : (pits p s n).getD 0 0 = s := by rw [pits_get p s n 0 (by omega), if_pos (Nat.zero_le _)]; rfl
  have e1 : tuneAt p (pits p s n) n = pit p s (n + 1) := by
    have := tuneAt_right g hn (q := pits p s n) (rightTo_pits p s n (by omega) n (Nat.le_refl _))
    rwa [e0] at this
  unfold workStep
  rw [if_pos (workOk_pits g hs n (by omega)), if_neg (by omega), Int.toNat_natCast, e1, if_neg (by omega), (gAt g n hn).2.1, show ((n : Int) + 1).toNat = n + 1 by omega, pits_succ p s n (by omega)]
  rfl
theorem workStep_end {s : Int} (hs : 155000 ≤ s ∧ s ≤ 345000) : workStep p (p.length : Int) (pits p s p.length) = (p, (p.length : Int), pits p s p.length, false) := by
  unfold workStep
  rw [if_pos (workOk_pits g hs p.length (Nat.le_refl _)), if_pos rfl]
theorem newWork_good {s : Int} (hs : 155000 ≤ s ∧ s ≤ 345000) : newWork s p = (p, ((0 : Nat) : Int), pits p s 0, true) := by
  unfold newWork
  rw [runPlan_good g hs, if_pos rfl, pits_zero]; rfl
theorem knock_good {q : List Int} {n : Nat} (hn : n ≤ p.length) (hw : workOk p (n : Int) q = true) (c x : Int) (hx : -1000 ≤ x ∧ x ≤ 1000) :
    (knockKey p (n : Int) q c x).1 = p ∧ (knockKey p (n : Int) q c x).2.1 = (n : Int) ∧ workOk p (n : Int) (knockKey p (n : Int) q c x).2.2.1 = true ∧
      q.getD 0 0 - 1000 ≤ (knockKey p (n : Int) q c x).2.2.1.getD 0 0 ∧ (knockKey p (n : Int) q c x).2.2.1.getD 0 0 ≤ q.getD 0 0 + 1000 := by
  obtain ⟨h1, h2, h3⟩ := (workOk_good g n hn q).1 hw
  have h20 := h2 0 (Nat.zero_le _)
  unfold knockKey
  split
  · rename_i hk
    split
    · rename_i hok
      refine ⟨rfl, rfl, hok, ?_⟩
      show _ ≤ (knocked q c x).getD 0 0 ∧ (knocked q c x).getD 0 0 ≤ _
      unfold knocked
      by_cases e : c.toNat = 0
      · rw [e, getD_set_self _ _ _ (by omega), w64 (by omega) (by omega)]; omega
      · rw [getD_set_ne _ _ _ _ e]; omega
    · exact ⟨rfl, rfl, hw, by dsimp only; omega⟩
  · exact ⟨rfl, rfl, hw, by dsimp only; omega⟩
end
end Go.Proofs.Ytbkkpllejgedcaa.Q


namespace Go.Proofs.Ytbkkpllejgedcaa.Q
set_option linter.unusedVariables false
set_option linter.unusedSimpArgs false
open Go.RowKit Go.Proofs.Ytbkkpllejgedcaa.P Go.Proofs.YtbkkpllejgedcaaW.PrintWords Go.Proofs.YtbkkpllejgedcaaW.PrintMore
def newShop (x : Int) (p : List S96) : List S96 × Int × List Int × Int × Int × List S74 × Bool :=
  if (newWork x p).2.2.2 = true then ((newWork x p).1, (newWork x p).2.1, (newWork x p).2.2.1, 15, 0, [], true) else ([], 0, [], 0, 0, [], false)
theorem newShop_spec (x : Int) (p : List S96) : Ev (fun k => spec_NewShop.f k x p) (newShop x p) := by
  unfold spec_NewShop.f newShop
  refine Ev.bind (newWork_spec x p) ?_
  by_cases h : (newWork x p).2.2.2 = true
  · exact rpos h <| evp h (Ev.now _)
  · exact rneg h <| evn h (Ev.now _)
end Go.Proofs.Ytbkkpllejgedcaa.Q


namespace Go.Proofs.Ytbkkpllejgedcaa.Q
set_option linter.unusedVariables false
set_option linter.unusedSimpArgs false
open Go.RowKit Go.Proofs.Ytbkkpllejgedcaa.P Go.Proofs.YtbkkpllejgedcaaW.PrintWords Go.Proofs.YtbkkpllejgedcaaW.PrintMore
theorem isWarmth_eq (a : Int) : impl_isWarmth.f a = some (decide (-10 ≤ a ∧ a ≤ 40)) := by unfold impl_isWarmth.f; rw [within_eq]; rfl
theorem shopOk_impl (p : List S96) (d : Int) (q : List Int) (a m : Int) (l : List S74) (hl : l.length ≤ 1048577) : Ev (fun k => impl_ShopOk.f k p d q a m l) (shopOk p d q a m l) := Ev.now _
theorem shopOk_spec (p : List S96) (d : Int) (q : List Int) (a m : Int) (l : List S74) (hl : l.length ≤ 1048577) : Ev (fun k => spec_ShopOk.f k p d q a m l) (shopOk p d q a m l) := Ev.bind (workOk_spec p d q) (Ev.now _)
end Go.Proofs.Ytbkkpllejgedcaa.Q


namespace Go.Proofs.Ytbkkpllejgedcaa.Q
set_option linter.unusedVariables false
set_option linter.unusedSimpArgs false
open Go.RowKit Go.Proofs.Ytbkkpllejgedcaa.P Go.Proofs.YtbkkpllejgedcaaW.PrintWords Go.Proofs.YtbkkpllejgedcaaW.PrintMore
theorem copyLog_eq (l : List S74) (hl : l.length ≤ 4000000) : impl_copyLog.f l = some l := by
  unfold impl_copyLog.f; simp only [Option.bind_some]; rw [if_pos (by simp; omega)]; simp
theorem l34Copy_eq (l : List S74) (hl : l.length ≤ 4000000) : spec_l34Copy.f l = some l := by
  unfold spec_l34Copy.f; simp only [Option.bind_some]; rw [if_pos (by simp; omega)]; simp
end Go.Proofs.Ytbkkpllejgedcaa.Q


namespace Go.Proofs.Ytbkkpllejgedcaa.Q
set_option linter.unusedVariables false
set_option linter.unusedSimpArgs false
open Go.RowKit Go.Proofs.Ytbkkpllejgedcaa.P Go.Proofs.YtbkkpllejgedcaaW.PrintWords Go.Proofs.YtbkkpllejgedcaaW.PrintMore
theorem copyShop_eq (p : List S96) (d : Int) (q : List Int) (a m : Int) (l : List S74) (hp : p.length ≤ 4000000) (hq : q.length ≤ 4000000) (hl : l.length ≤ 4000000) : impl_copyShop.f p d q a m l = some (p, d, q, a, m, l) := by
  unfold impl_copyShop.f; rw [copyWork_eq p d q hp hq, Option.bind_some, copyLog_eq l hl]; rfl
theorem l38Copy_eq (p : List S96) (d : Int) (q : List Int) (a m : Int) (l : List S74) (hp : p.length ≤ 4000000) (hq : q.length ≤ 4000000) (hl : l.length ≤ 4000000) : spec_l38Copy.f p d q a m l = some (p, d, q, a, m, l) := by
  unfold spec_l38Copy.f; rw [l36Copy_eq p d q hp hq, Option.bind_some, l34Copy_eq l hl]; rfl
end Go.Proofs.Ytbkkpllejgedcaa.Q


namespace Go.Proofs.Ytbkkpllejgedcaa.Q
set_option linter.unusedVariables false
set_option linter.unusedSimpArgs false
open Go.RowKit Go.Proofs.Ytbkkpllejgedcaa.P Go.Proofs.YtbkkpllejgedcaaW.PrintWords Go.Proofs.YtbkkpllejgedcaaW.PrintMore
def shopWarm (p : List S96) (d : Int) (q : List Int) (a m : Int) (l : List S74) (x : Int) : List S96 × Int × List Int × Int × Int × List S74 × Bool :=
  if shopOk p d q a m l = true ∧ m ≠ 100000 ∧ (-10 ≤ x ∧ x ≤ 40) then (p, d, q, x, m + 1, l, true) else (p, d, q, a, m, l, false)
theorem lastOk_mono {l : List S74} {m n : Int} (h : lastOk l m) (hm : m ≤ n) : lastOk l n := by
  rcases h with h | h
  · exact .inl h
  · exact .inr (by omega)
theorem swarm_impl (p : List S96) (d : Int) (q : List Int) (a m : Int) (l : List S74) (x : Int) (hp : p.length ≤ 4000000) (hq : q.length ≤ 4000000) (hl : l.length ≤ 1048576) : Ev (fun k => impl_ShopWarm.f k p d q a m l x) (shopWarm p d q a m l x) := by
  unfold impl_ShopWarm.f shopWarm
  refine evb (copyShop_eq p d q a m l hp hq (by omega)) (Ev.bind (shopOk_impl p d q a m l (by omega)) ?_)
  by_cases h : shopOk p d q a m l = true
  rotate_left
  · exact rneg (fun h2 => h h2.1) <| evn h (evb (copyShop_eq p d q a m l hp hq (by omega)) (Ev.now _))
  obtain ⟨h1, h2, h3, h4, h5⟩ := shopOk_iff.1 h
  rw [w64 (n := m + 1) (by omega) (by omega)]
  refine evp h (Ev.bind (shopOk_impl p d q x (m + 1) l (by omega)) ?_)
  by_cases h6 : m ≠ 100000 ∧ (-10 ≤ x ∧ x ≤ 40)
  · exact rpos ⟨h, h6⟩ <| evp (shopOk_iff.2 ⟨h1, h2, h6.2, by omega, lastOk_mono h5 (by omega)⟩) (Ev.now _)
  · refine rneg (fun h7 => h6 h7.2) <| evn (fun h7 => ?_) (evb (copyShop_eq p d q a m l hp hq (by omega)) (Ev.now _))
    obtain ⟨g1, g2, g3, g4, g5⟩ := shopOk_iff.1 h7
    exact h6 ⟨by omega, g3⟩
theorem swarm_spec (p : List S96) (d : Int) (q : List Int) (a m : Int) (l : List S74) (x : Int) (hp : p.length ≤ 4000000) (hq : q.length ≤ 4000000) (hl : l.length ≤ 1048576) : Ev (fun k => spec_ShopWarm.f k p d q a m l x) (shopWarm p d q a m l x) := by
  unfold spec_ShopWarm.f shopWarm
  refine evb (l38Copy_eq p d q a m l hp hq (by omega)) (Ev.bind (shopOk_spec p d q a m l (by omega)) ?_)
  by_cases h : shopOk p d q a m l = true
  rotate_left
  · exact rneg (fun h2 => h h2.1) <| evn h (evb (l38Copy_eq p d q a m l hp hq (by omega)) (Ev.now _))
  obtain ⟨h1, h2, h3, h4, h5⟩ := shopOk_iff.1 h
  refine evp h ?_
  by_cases h8 : m = 100000
  · exact rneg (fun h7 => h7.2.1 h8) <| evp h8 (evb (l38Copy_eq p d q a m l hp hq (by omega)) (Ev.now _))
  refine evn h8 (Ev.bind (shopOk_spec p d q x m l (by omega)) ?_)
  by_cases h6 : -10 ≤ x ∧ x ≤ 40
  · rw [w64 (n := m + 1) (by omega) (by omega)]
    exact rpos ⟨h, h8, h6⟩ <| evp (shopOk_iff.2 ⟨h1, h2, h6, h4, h5⟩) (Ev.now _)
  · refine rneg (fun h7 => h6 h7.2.2) <| evn (fun h7 => ?_) (evb (l38Copy_eq p d q a m l hp hq (by omega)) (Ev.now _))
    exact h6 (shopOk_iff.1 h7).2.2.1
end Go.Proofs.Ytbkkpllejgedcaa.Q


namespace Go.Proofs.Ytbkkpllejgedcaa.Q
set_option linter.unusedVariables false
set_option linter.unusedSimpArgs false
open Go.RowKit Go.Proofs.Ytbkkpllejgedcaa.P Go.Proofs.YtbkkpllejgedcaaW.PrintWords Go.Proofs.YtbkkpllejgedcaaW.PrintMore
def ent (r n f m : Int) : S74 := ⟨⟨r, n⟩, f, m⟩
def addEntry (l : List S74) (r n f m : Int) : List S74 × Bool := if logOk l = true ∧ logOk (l ++ [ent r n f m]) = true then (l ++ [ent r n f m], true) else (l, false)
theorem add_impl (l : List S74) (r n f m : Int) (hl : l.length ≤ 1048576) : Ev (fun k => impl_AddEntry.f k l r n f m) (addEntry l r n f m) := by
  unfold impl_AddEntry.f addEntry
  refine evb (copyLog_eq l (by omega)) (evb rfl (evp (by simp; omega) (evb rfl (Ev.bind (logOk_impl l (by omega)) ?_))))
  by_cases h : logOk l = true
  rotate_left
  · exact rneg (fun h2 => h h2.1) <| evn h (evb (copyLog_eq l (by omega)) (Ev.now _))
  refine evp h (Ev.bind (logOk_impl _ (by simp; omega)) ?_)
  by_cases h2 : logOk (l ++ [ent r n f m]) = true
  · exact rpos ⟨h, h2⟩ <| evp h2 (Ev.now _)
  · exact rneg (fun h3 => h2 h3.2) <| evn h2 (evb (copyLog_eq l (by omega)) (Ev.now _))
theorem add_spec (l : List S74) (r n f m : Int) (hl : l.length ≤ 1048576) : Ev (fun k => spec_AddEntry.f k l r n f m) (addEntry l r n f m) := by
  unfold spec_AddEntry.f addEntry
  refine evb (l34Copy_eq l (by omega)) (evb rfl (evp (by simp; omega) (evb rfl (Ev.bind (logOk_spec l (by omega)) ?_))))
  by_cases h : logOk l = true
  rotate_left
  · exact rneg (fun h2 => h h2.1) <| evn h (evb (l34Copy_eq l (by omega)) (Ev.now _))
  refine evp h (Ev.bind (logOk_spec _ (by simp; omega)) ?_)
  by_cases h2 : logOk (l ++ [ent r n f m]) = true
  · exact rpos ⟨h, h2⟩ <| evp h2 (Ev.now _)
  · exact rneg (fun h3 => h2 h3.2) <| evn h2 (evb (l34Copy_eq l (by omega)) (Ev.now _))
end Go.Proofs.Ytbkkpllejgedcaa.Q


namespace Go.Proofs.Ytbkkpllejgedcaa.Q
set_option linter.unusedVariables false
set_option linter.unusedSimpArgs false
open Go.RowKit Go.Proofs.Ytbkkpllejgedcaa.P Go.Proofs.YtbkkpllejgedcaaW.PrintWords Go.Proofs.YtbkkpllejgedcaaW.PrintMore
def shopFault (p : List S96) (d : Int) (q : List Int) (a m : Int) (l : List S74) (r n f : Int) : List S96 × Int × List Int × Int × Int × List S74 × Bool :=
  if shopOk p d q a m l = true ∧ (addEntry l r n f m).2 = true then (p, d, q, a, m, (addEntry l r n f m).1, true) else (p, d, q, a, m, l, false)
theorem sfault_impl (p : List S96) (d : Int) (q : List Int) (a m : Int) (l : List S74) (r n f : Int) (hp : p.length ≤ 4000000) (hq : q.length ≤ 4000000) (hl : l.length ≤ 1048576) : Ev (fun k => impl_ShopFault.f k p d q a m l r n f) (shopFault p d q a m l r n f) := by
  unfold impl_ShopFault.f shopFault
  refine evb (copyShop_eq p d q a m l hp hq (by omega)) (Ev.bind (shopOk_impl p d q a m l (by omega)) ?_)
  by_cases h : shopOk p d q a m l = true
  rotate_left
  · exact rneg (fun h2 => h h2.1) <| evn h (Ev.now _)
  refine evp h (Ev.bind (add_impl l r n f m hl) ?_)
  by_cases h2 : (addEntry l r n f m).2 = true
  · exact rpos ⟨h, h2⟩ <| evp h2 (Ev.now _)
  · exact rneg (fun h3 => h2 h3.2) <| evn h2 (Ev.now _)
theorem sfault_spec (p : List S96) (d : Int) (q : List Int) (a m : Int) (l : List S74) (r n f : Int) (hp : p.length ≤ 4000000) (hq : q.length ≤ 4000000) (hl : l.length ≤ 1048576) : Ev (fun k => spec_ShopFault.f k p d q a m l r n f) (shopFault p d q a m l r n f) := by
  unfold spec_ShopFault.f shopFault
  refine evb (l38Copy_eq p d q a m l hp hq (by omega)) (Ev.bind (add_spec l r n f m hl) (Ev.bind (shopOk_spec p d q a m l (by omega)) ?_))
  by_cases h : shopOk p d q a m l = true
  rotate_left
  · exact rneg (fun h2 => h h2.1) <| evn h (Ev.now _)
  refine evp h ?_
  by_cases h2 : (addEntry l r n f m).2 = true
  · exact rpos ⟨h, h2⟩ <| evp h2 (Ev.now _)
  · exact rneg (fun h3 => h2 h3.2) <| evn h2 (Ev.now _)
end Go.Proofs.Ytbkkpllejgedcaa.Q


namespace Go.Proofs.Ytbkkpllejgedcaa.Q
set_option linter.unusedVariables false
set_option linter.unusedSimpArgs false
open Go.RowKit Go.Proofs.Ytbkkpllejgedcaa.P Go.Proofs.YtbkkpllejgedcaaW.PrintWords Go.Proofs.YtbkkpllejgedcaaW.PrintMore
def shopKnock (p : List S96) (d : Int) (q : List Int) (a m : Int) (l : List S74) (c x : Int) : List S96 × Int × List Int × Int × Int × List S74 × Bool :=
  if shopOk p d q a m l = true then ((knockKey p d q c x).1, (knockKey p d q c x).2.1, (knockKey p d q c x).2.2.1, a, m, l, (knockKey p d q c x).2.2.2) else (p, d, q, a, m, l, false)
theorem sknock_impl (p : List S96) (d : Int) (q : List Int) (a m : Int) (l : List S74) (c x : Int) (hp : p.length ≤ 4000000) (hq : q.length ≤ 4000000) (hl : l.length ≤ 1048576) : Ev (fun k => impl_ShopKnock.f k p d q a m l c x) (shopKnock p d q a m l c x) := by
  unfold impl_ShopKnock.f shopKnock
  refine evb (copyShop_eq p d q a m l hp hq (by omega)) (Ev.bind (shopOk_impl p d q a m l (by omega)) ?_)
  by_cases h : shopOk p d q a m l = true
  · exact rpos h <| evp h (Ev.bind (knock_impl p d q c x hp hq) (Ev.now _))
  · exact rneg h <| evn h (Ev.now _)
theorem sknock_spec (p : List S96) (d : Int) (q : List Int) (a m : Int) (l : List S74) (c x : Int) (hp : p.length ≤ 4000000) (hq : q.length ≤ 4000000) (hl : l.length ≤ 1048576) : Ev (fun k => spec_ShopKnock.f k p d q a m l c x) (shopKnock p d q a m l c x) := by
  unfold spec_ShopKnock.f shopKnock
  refine evb (l38Copy_eq p d q a m l hp hq (by omega)) (Ev.bind (shopOk_spec p d q a m l (by omega)) ?_)
  by_cases h : shopOk p d q a m l = true
  · exact rpos h <| evp h (Ev.bind (knock_spec p d q c x hp hq) (Ev.now _))
  · exact rneg h <| evn h (Ev.now _)
end Go.Proofs.Ytbkkpllejgedcaa.Q


namespace Go.Proofs.Ytbkkpllejgedcaa.Q
set_option linter.unusedVariables false
set_option linter.unusedSimpArgs false
open Go.RowKit Go.Proofs.Ytbkkpllejgedcaa.P Go.Proofs.YtbkkpllejgedcaaW.PrintWords Go.Proofs.YtbkkpllejgedcaaW.PrintMore
def tuneStep (p : List S96) (d : Int) (q : List Int) : List S96 × Int × List Int × Bool := if (((wrongSteps p d q).length : Nat) : Int) > 0 then mendStep p d q else workStep p d q
def shopTune (p : List S96) (d : Int) (q : List Int) (a m : Int) (l : List S74) : List S96 × Int × List Int × Int × Int × List S74 × Bool :=
  if shopOk p d q a m l = true then ((tuneStep p d q).1, (tuneStep p d q).2.1, (tuneStep p d q).2.2.1, a, m, l, (tuneStep p d q).2.2.2) else (p, d, q, a, m, l, false)
theorem stune_spec (p : List S96) (d : Int) (q : List Int) (a m : Int) (l : List S74) (hp : p.length ≤ 4000000) (hq : q.length ≤ 4000000) (hl : l.length ≤ 1048576) : Ev (fun k => spec_ShopTune.f k p d q a m l) (shopTune p d q a m l) := by
  unfold spec_ShopTune.f shopTune tuneStep
  refine evb (l38Copy_eq p d q a m l hp hq (by omega)) (Ev.bind (shopOk_spec p d q a m l (by omega)) ?_)
  by_cases h : shopOk p d q a m l = true
  rotate_left
  · exact rneg h <| evn h (Ev.now _)
  refine rpos h <| evp h (Ev.bind (wrong_spec p d q) ?_)
  by_cases h2 : (((wrongSteps p d q).length : Nat) : Int) > 0
  · simp only [if_pos h2]; exact Ev.bind (mend_spec p d q hp hq) (Ev.now _)
  · simp only [if_neg h2]; exact Ev.bind (step_spec p d q hp hq) (Ev.now _)
end Go.Proofs.Ytbkkpllejgedcaa.Q


namespace Go.Proofs.Ytbkkpllejgedcaa.Q
set_option linter.unusedVariables false
set_option linter.unusedSimpArgs false
open Go.RowKit Go.Proofs.Ytbkkpllejgedcaa.P Go.Proofs.YtbkkpllejgedcaaW.PrintWords Go.Proofs.YtbkkpllejgedcaaW.PrintMore
theorem bits_and (x y : Int) : Go.bits .and .i64 x y = wrap64 (((BitVec.ofInt IntKind.i64.bits x &&& BitVec.ofInt IntKind.i64.bits y).toNat : Nat) : Int) := by
  unfold Go.bits
  rw [IntWalk.i64_left]
theorem bits255 (x : Int) : 0 ≤ Go.bits .and .i64 x 255 ∧ Go.bits .and .i64 x 255 ≤ 255 := by
  have h2 : (BitVec.ofInt IntKind.i64.bits 255).toNat ≤ 255 := by decide
  rw [bits_and]
  obtain ⟨y, hy⟩ : ∃ y, BitVec.ofInt IntKind.i64.bits 255 = y := ⟨_, rfl⟩
  rw [hy] at h2 ⊢
  have h : (BitVec.ofInt IntKind.i64.bits x &&& y).toNat ≤ 255 := by
    rw [BitVec.toNat_and]; exact Nat.le_trans Nat.and_le_right h2
  rw [w64 (by omega) (by omega)]
  omega
section
variable (b : List Int) (hb : b.length ≤ 1048576)
include hb
theorem byte_ev (i h : Int) (hi : 0 ≤ i) : ∃ v i' h', spec_l01Byte.f b i h = some (v, i', h') ∧ 0 ≤ v ∧ v ≤ 255 ∧ 0 ≤ i' := by
  unfold spec_l01Byte.f
  by_cases h1 : i < (b.length : Int)
  · rw [if_pos h1, if_pos hi]
    exact ⟨_, _, _, rfl, (bits255 _).1, (bits255 _).2, by rw [w64 (by omega) (by omega)]; omega⟩
  · rw [if_neg h1]
    exact ⟨_, _, _, rfl, (bits255 _).1, (bits255 _).2, hi⟩
theorem below_ev (i h n : Int) (hi : 0 ≤ i) : ∃ v i' h', spec_l01Below.f b i h n = some (v, i', h') ∧ 0 ≤ v ∧ (0 < n → v < n) ∧ (n ≤ 0 → v = 0) ∧ 0 ≤ i' := by
  unfold spec_l01Below.f
  by_cases h1 : n ≤ 0
  · rw [if_pos h1]
    exact ⟨_, _, _, rfl, by omega, by omega, fun _ => rfl, hi⟩
  rw [if_neg h1]
  have key : ∀ v : Int, 0 ≤ v → 0 ≤ Int.tmod v n ∧ (0 < n → Int.tmod v n < n) := fun v hv => ⟨Int.tmod_nonneg n hv, fun h2 => by rw [Int.tmod_eq_emod_of_nonneg hv]; exact Int.emod_lt_of_pos v h2⟩
  by_cases h2 : n ≤ 256
  · rw [if_pos h2]
    obtain ⟨v, i1, h1', e, v0, v1, i0⟩ := byte_ev b hb i h hi
    rw [e, Option.bind_some, if_neg (by omega)]
    exact ⟨_, _, _, rfl, (key v v0).1, (key v v0).2, by omega, i0⟩
  rw [if_neg h2]
  obtain ⟨x, i1, g1, e1, x0, x1, j1⟩ := byte_ev b hb i h hi
  obtain ⟨y, i2, g2, e2, y0, y1, j2⟩ := byte_ev b hb i1 g1 j1
  obtain ⟨z, i3, g3, e3, z0, z1, j3⟩ := byte_ev b hb i2 g2 j2
  obtain ⟨u, i4, g4, e4, u0, u1, j4⟩ := byte_ev b hb i3 g3 j3
  rw [e1, Option.bind_some]; dsimp only
  rw [e2, Option.bind_some]; dsimp only
  rw [e3, Option.bind_some]; dsimp only
  rw [e4, Option.bind_some, if_neg (by omega)]; dsimp only
  rw [w64 (n := x * 16777216) (by omega) (by omega), w64 (n := y * 65536) (by omega) (by omega), w64 (n := z * 256) (by omega) (by omega), w64 (n := x * 16777216 + y * 65536) (by omega) (by omega), w64 (n := x * 16777216 + y * 65536 + z * 256) (by omega) (by omega), w64 (by omega) (by omega)]
  exact ⟨_, _, _, rfl, (key _ (by omega)).1, (key _ (by omega)).2, by omega, j4⟩
omit hb in
theorem new_ev : ∃ h, Ev (fun k => spec_l01New.f k b) (b, 0, h) := by
  have key : ∀ i, i ≤ b.length → ∀ x : Int, ∃ h, Ev (fun k => spec_l01New.l0 k b x (i : Int)) (b, 0, h) := by
    refine down (n := b.length) ?_ ?_
    · intro x
      exact ⟨x, Ev.step (fun k => by rw [spec_l01New.l0]) (evn (by omega) (Ev.now _))⟩
    · intro i hi ih x
      by_cases h4 : (i : Int) < 4000
      · obtain ⟨h, he⟩ := ih (Go.bits .and .i64 (wrap64 ((wrap64 ((wrap64 (x * 131)) + (wrap64 (rd b (i : Int))))) + 7)) 1073741823)
        refine ⟨h, Ev.step (fun k => by rw [spec_l01New.l0]) (evp (by omega) (evp h4 (evp (by omega) ?_)))⟩
        rw [w64 (n := (i : Int) + 1) (by omega) (by omega)]
        exact he
      · exact ⟨x, Ev.step (fun k => by rw [spec_l01New.l0]) (evp (by omega) (evn h4 (Ev.now _)))⟩
  unfold spec_l01New.f
  exact key 0 (Nat.zero_le _) _
end
end Go.Proofs.Ytbkkpllejgedcaa.Q


namespace Go.Proofs.Ytbkkpllejgedcaa.Q
set_option linter.unusedVariables false
set_option linter.unusedSimpArgs false
open Go.RowKit Go.Proofs.Ytbkkpllejgedcaa.P Go.Proofs.YtbkkpllejgedcaaW.PrintWords Go.Proofs.YtbkkpllejgedcaaW.PrintMore
def gPipe (p : S56) : Prop := 0 ≤ p.f0 ∧ p.f0 ≤ 1 ∧ 0 ≤ p.f1 ∧ p.f1 ≤ 5
section
variable (b : List Int) (hb : b.length ≤ 1048576)
include hb
theorem pipe_ev (i h : Int) (hi : 0 ≤ i) : ∃ r n i' h', spec_l34Pipe.f b i h = some (r, n, i', h') ∧ gPipe ⟨r, n⟩ ∧ 0 ≤ i' := by
  unfold spec_l34Pipe.f
  obtain ⟨r, i1, h1, e1, r0, r1, _, j1⟩ := below_ev b hb i h 2 hi
  obtain ⟨n, i2, h2, e2, n0, n1, _, j2⟩ := below_ev b hb i1 h1 6 j1
  rw [e1, Option.bind_some]; dsimp only
  rw [e2, Option.bind_some]
  exact ⟨_, _, _, _, rfl, ⟨r0, by have := r1 (by omega); dsimp only; omega, n0, by have := n1 (by omega); dsimp only; omega⟩, j2⟩
end
end Go.Proofs.Ytbkkpllejgedcaa.Q


namespace Go.Proofs.Ytbkkpllejgedcaa.Q
set_option linter.unusedVariables false
set_option linter.unusedSimpArgs false
open Go.RowKit Go.Proofs.Ytbkkpllejgedcaa.P Go.Proofs.YtbkkpllejgedcaaW.PrintWords Go.Proofs.YtbkkpllejgedcaaW.PrintMore
section
variable (b : List Int) (hb : b.length ≤ 1048576)
include hb
theorem once_ev (i h n : Int) (hi : 0 ≤ i) : ∃ v i' h', spec_l01Once.f b i h n = some (v, i', h') ∧ 0 ≤ i' := by
  unfold spec_l01Once.f
  obtain ⟨v, i1, h1, e, _, _, _, j⟩ := below_ev b hb i h n hi
  rw [e, Option.bind_some]
  exact ⟨_, _, _, rfl, j⟩
theorem pick_ev (i h : Int) (l : List Int) (hi : 0 ≤ i) (hl : 0 < l.length) : ∃ v i' h', spec_l01PickInt.f b i h l = some (v, i', h') ∧ v ∈ l ∧ 0 ≤ i' := by
  unfold spec_l01PickInt.f
  obtain ⟨v, i1, h1, e, v0, v1, _, j⟩ := below_ev b hb i h (l.length : Int) hi
  rw [e, Option.bind_some, if_pos v0, if_pos (v1 (by omega))]
  obtain ⟨m, rfl⟩ := Int.eq_ofNat_of_zero_le v0
  have hm : m < l.length := by have := v1 (by omega); omega
  exact ⟨_, _, _, rfl, by dsimp only; rw [rd_nat l m hm]; exact List.getElem_mem hm, j⟩
end
end Go.Proofs.Ytbkkpllejgedcaa.Q


namespace Go.Proofs.Ytbkkpllejgedcaa.Q
set_option linter.unusedVariables false
set_option linter.unusedSimpArgs false
open Go.RowKit Go.Proofs.Ytbkkpllejgedcaa.P Go.Proofs.YtbkkpllejgedcaaW.PrintWords Go.Proofs.YtbkkpllejgedcaaW.PrintMore
theorem plan_ev (b : List Int) (hb : b.length ≤ 1048576) (i h : Int) (hi : 0 ≤ i) : ∃ p i' h', Ev (fun k => spec_l19Plan.f k b i h) (p, i', h') ∧ gPlan p ∧ 0 ≤ i' := by
  have key : ∀ j : Nat, j ≤ 11 → ∀ L : List S96, L.length = 11 → gPlan L → ∀ i h : Int, 0 ≤ i → ∃ p i' h', Ev (fun k => spec_l19Plan.l0 k L (j : Int) b i h) (p, i', h') ∧ gPlan p ∧ 0 ≤ i' := by
    refine down (P := fun j => ∀ L : List S96, L.length = 11 → gPlan L → ∀ i h : Int, 0 ≤ i → ∃ p i' h', Ev (fun k => spec_l19Plan.l0 k L (j : Int) b i h) (p, i', h') ∧ gPlan p ∧ 0 ≤ i') (n := 11) ?_ ?_
    · intro L hL g i h hi
      obtain ⟨v, i1, h1, e1, v0, v1, _, j1⟩ := below_ev b hb i h 12 hi
      obtain ⟨u, i2, h2, e2, hu, j2⟩ := pick_ev b hb i1 h1 [11, 11, 11, v] j1 (by simp)
      have hu2 : 0 ≤ u ∧ u ≤ 11 := by simp at hu; have := v1 (by omega); omega
      refine ⟨L.take u.toNat, i2, h2, ?_, gPlan_take g _, j2⟩
      refine Ev.step (fun k => by rw [spec_l19Plan.l0]) ?_
      refine evn (by omega) (evb e1 ?_)
      dsimp only
      refine evb e2 ?_
      dsimp only
      refine evp hu2.1 ?_
      refine evp (by omega) ?_
      exact Ev.now _
    · intro j hj ih L hL g i h hi
      obtain ⟨v, i1, h1, e1, v0, v1, _, j1⟩ := below_ev b hb i h 1500 hi
      obtain ⟨o, i2, h2, e2, j2⟩ := once_ev b hb i1 h1 5 j1
      have hr : ∀ M : List S96, M.length = 11 → rd_T96 M (j : Int) = M.getD j z96 := fun M hM => by rw [rdS M j (by omega)]; simp [List.getD_eq_getElem?_getD, show j < M.length by omega]
      have gs : ∀ M : List S96, M.length = 11 → gPlan M → ∀ x, gStep j x → gPlan (M.set j x) := fun M hM gM x gx => by
        refine ⟨by simp; omega, fun i hi => ?_⟩
        rw [List.getElem_set]
        split
        · rename_i e; subst e; exact gx
        · exact gM.2 i _
      have gd : ∀ M : List S96, M.length = 11 → gPlan M → gStep j (M.getD j z96) := fun M hM gM => by
        have hj2 : j < M.length := by omega
        have := gM.2 j hj2
        simpa [List.getD_eq_getElem?_getD, hj2] using this
      have g1 := gd L hL g
      have gy := gs L hL g (⟨(L.getD j z96).f0, (L.getD j z96).f1, (L.getD j z96).f2, v⟩ : S96) ⟨g1.1, g1.2.1, g1.2.2.1, v0, v1 (by omega)⟩
      obtain ⟨Y, hY⟩ : ∃ Y, L.set j (⟨(L.getD j z96).f0, (L.getD j z96).f1, (L.getD j z96).f2, v⟩ : S96) = Y := ⟨_, rfl⟩
      rw [hY] at gy
      have hYl : Y.length = 11 := by rw [← hY]; simpa using hL
      have g2 := gd Y hYl gy
      have gz := gs Y hYl gy (⟨(Y.getD j z96).f0, (Y.getD j z96).f1, 2, (Y.getD j z96).f3⟩ : S96) ⟨g2.1, g2.2.1, .inl rfl, g2.2.2.2.1, g2.2.2.2.2⟩
      have w1 : wrap64 ((j : Int) + 1) = ((j + 1 : Nat) : Int) := w64 (by omega) (by omega)
      have e3 : (some (L.set (j : Int).toNat (⟨(rd_T96 L (j : Int)).f0, (rd_T96 L (j : Int)).f1, (rd_T96 L (j : Int)).f2, v⟩ : S96) : List S96)) = some Y := by rw [hr L hL, Int.toNat_natCast, hY]
      cases ho : o with
      | true =>
        obtain ⟨p, i', h', ep, gp, jp⟩ := ih _ (by simpa using hYl) gz i2 h2 j2
        refine ⟨p, i', h', ?_, gp, jp⟩
        refine Ev.step (fun k => by rw [spec_l19Plan.l0]) ?_
        refine evp (by omega) (evb e1 ?_)
        refine evp (by omega) (evb e3 ?_)
        refine evb e2 ?_
        refine evp ho ?_
        rw [hr Y hYl, Int.toNat_natCast, w1]
        exact ep
      | false =>
        obtain ⟨p, i', h', ep, gp, jp⟩ := ih Y hYl gy i2 h2 j2
        refine ⟨p, i', h', ?_, gp, jp⟩
        refine Ev.step (fun k => by rw [spec_l19Plan.l0]) ?_
        refine evp (by omega) (evb e1 ?_)
        refine evp (by omega) (evb e3 ?_)
        refine evb e2 ?_
        refine evn (by rw [ho]; simp) ?_
        rw [w1]
        exact ep
  unfold spec_l19Plan.f
  obtain ⟨g, hg⟩ := gPlan_usual 0 (by omega)
  obtain ⟨p, i', h', e, g', j⟩ := key 0 (Nat.zero_le _) (usualPlan 0) hg g i h hi
  exact ⟨p, i', h', Ev.bind (usual_spec 0) e, g', j⟩
end Go.Proofs.Ytbkkpllejgedcaa.Q


namespace Go.Proofs.Ytbkkpllejgedcaa.Q
set_option linter.unusedVariables false
set_option linter.unusedSimpArgs false
open Go.RowKit Go.Proofs.Ytbkkpllejgedcaa.P Go.Proofs.YtbkkpllejgedcaaW.PrintWords Go.Proofs.YtbkkpllejgedcaaW.PrintMore
structure GShop (p : List S96) (d : Int) (q : List Int) (a m : Int) (l : List S74) (c : Nat) : Prop where
  plan : gPlan p
  work : ∃ n : Nat, d = (n : Int) ∧ n ≤ p.length ∧ workOk p (n : Int) q = true
  lo : 200000 - 1000 * (c : Int) ≤ q.getD 0 0
  hi : q.getD 0 0 ≤ 299999 + 1000 * (c : Int)
  log : logOk l = true
  last : lastOk l m
  warm : -10 ≤ a ∧ a ≤ 40
  mom : 0 ≤ m ∧ m ≤ (c : Int)
  few : l.length ≤ c
section
variable {p : List S96} {d : Int} {q : List Int} {a m : Int} {l : List S74} {c : Nat}
theorem GShop.ok (h : GShop p d q a m l c) (hc : c ≤ 45) : shopOk p d q a m l = true := by
  obtain ⟨n, rfl, hn, hw⟩ := h.work
  have := h.mom
  exact shopOk_iff.2 ⟨hw, h.log, h.warm, by omega, h.last⟩
theorem GShop.len (h : GShop p d q a m l c) : q.length = 12 := by
  obtain ⟨n, rfl, hn, hw⟩ := h.work
  exact ((workOk_good h.plan n hn q).1 hw).1
theorem logOk_len {l : List S74} (h : logOk l = true) : l.length ≤ 30 := by
  unfold logOk at h
  simp only [Bool.and_eq_true, decide_eq_true_eq] at h
  exact h.2
theorem GShop.step (h : GShop p d q a m l c) : GShop p d q a m l (c + 1) :=
  ⟨h.plan, h.work, by have := h.lo; omega, by have := h.hi; omega, h.log, h.last, h.warm, by have := h.mom; omega, by have := h.few; omega⟩
theorem GShop.warmed (h : GShop p d q a m l c) (x : Int) :
    GShop (shopWarm p d q a m l x).1 (shopWarm p d q a m l x).2.1 (shopWarm p d q a m l x).2.2.1 (shopWarm p d q a m l x).2.2.2.1 (shopWarm p d q a m l x).2.2.2.2.1 (shopWarm p d q a m l x).2.2.2.2.2.1 (c + 1) := by
  unfold shopWarm
  split
  · rename_i hc
    have := h.mom
    exact ⟨h.plan, h.work, by have := h.lo; dsimp only; omega, by have := h.hi; dsimp only; omega, h.log, lastOk_mono h.last (by dsimp only; omega), hc.2.2, by dsimp only; omega, by have := h.few; dsimp only; omega⟩
  · exact h.step
theorem GShop.faulted (h : GShop p d q a m l c) (r n f : Int) :
    GShop (shopFault p d q a m l r n f).1 (shopFault p d q a m l r n f).2.1 (shopFault p d q a m l r n f).2.2.1 (shopFault p d q a m l r n f).2.2.2.1 (shopFault p d q a m l r n f).2.2.2.2.1 (shopFault p d q a m l r n f).2.2.2.2.2.1 (c + 1) := by
  unfold shopFault
  split
  · rename_i hc
    refine ⟨h.plan, h.work, by have := h.lo; dsimp only; omega, by have := h.hi; dsimp only; omega, ?_, ?_, h.warm, by have := h.mom; dsimp only; omega, by have := h.few; dsimp only; unfold addEntry; split <;> simp <;> omega⟩
    · have h2 := hc.2
      unfold addEntry at h2 ⊢
      split
      · rename_i h3; exact h3.2
      · rename_i h3; rw [if_neg h3] at h2; cases h2
    · have h2 := hc.2
      unfold addEntry at h2 ⊢
      split
      · exact .inr (by simp [List.getD_eq_getElem?_getD, ent])
      · rename_i h3; rw [if_neg h3] at h2; cases h2
  · exact h.step
theorem GShop.knocked (h : GShop p d q a m l c) (k x : Int) (hx : -1000 ≤ x ∧ x ≤ 1000) :
    GShop (shopKnock p d q a m l k x).1 (shopKnock p d q a m l k x).2.1 (shopKnock p d q a m l k x).2.2.1 (shopKnock p d q a m l k x).2.2.2.1 (shopKnock p d q a m l k x).2.2.2.2.1 (shopKnock p d q a m l k x).2.2.2.2.2.1 (c + 1) := by
  obtain ⟨n, rfl, hn, hw⟩ := h.work
  obtain ⟨k1, k2, k3, k4, k5⟩ := knock_good h.plan hn hw k x hx
  unfold shopKnock
  split
  · refine ⟨by rw [k1]; exact h.plan, ⟨n, k2, by rw [k1]; exact hn, by rw [k1]; exact k3⟩, by have := h.lo; dsimp only; omega, by have := h.hi; dsimp only; omega, h.log, h.last, h.warm, by have := h.mom; dsimp only; omega, by have := h.few; dsimp only; omega⟩
  · exact h.step
theorem bad_or (g : gPlan p) (q : List Int) : ∀ i : Nat, i ≤ p.length → (∃ j, j < i ∧ rightTo p q j ∧ isBad p q j = true) ∨ rightTo p q i := by
  intro i
  induction i with
  | zero => exact fun _ => .inr (rightTo_zero p q)
  | succ i ih =>
    intro hi
    rcases ih (by omega) with ⟨j, h1, h2, h3⟩ | h
    · exact .inl ⟨j, by omega, h2, h3⟩
    · by_cases hb : isBad p q i = true
      · exact .inl ⟨i, by omega, h, hb⟩
      · exact .inr (rightTo_succ g (by omega) h hb)
theorem tune_good (g : gPlan p) {n : Nat} (hn : n ≤ p.length) (hw : workOk p (n : Int) q = true) (hs : 155000 ≤ q.getD 0 0 ∧ q.getD 0 0 ≤ 345000) :
    (tuneStep p (n : Int) q).1 = p ∧ (∃ n' : Nat, (tuneStep p (n : Int) q).2.1 = (n' : Int) ∧ n' ≤ p.length ∧ workOk p (n' : Int) (tuneStep p (n : Int) q).2.2.1 = true) ∧ (tuneStep p (n : Int) q).2.2.1.getD 0 0 = q.getD 0 0 := by
  unfold tuneStep
  rcases bad_or g q n hn with ⟨j, h1, h2, h3⟩ | h
  · obtain ⟨e, he⟩ : ∃ e, n = j + (e + 1) := ⟨n - j - 1, by omega⟩
    obtain ⟨r, hr⟩ := wrongs_first g (by omega : j + (e + 1) ≤ p.length) h2 h3
    have hm := mendStep_good g hn he hw hs h2 h3
    obtain ⟨m1, m2, m3⟩ := mended g hn h1 hw hs h2
    rw [wrongSteps_good hw, if_pos (by rw [he, hr]; simp only [List.length_cons]; omega), hm]
    exact ⟨rfl, ⟨n, rfl, hn, m1⟩, m2⟩
  · rw [wrongSteps_good hw, wrongs_none g hn h, if_neg (by simp)]
    have hq := right_pits g hn hw h
    have e0 : ∀ k, (pits p (q.getD 0 0) k).getD 0 0 = q.getD 0 0 := fun k => by rw [pits_get _ _ _ _ (by omega), if_pos (Nat.zero_le _)]; rfl
    by_cases hlt : n < p.length
    · have := workStep_good g hs hlt
      rw [← hq] at this
      rw [this]
      exact ⟨rfl, ⟨n + 1, rfl, hlt, workOk_pits g hs (n + 1) hlt⟩, e0 _⟩
    · obtain rfl : n = p.length := by omega
      have := workStep_end g hs
      rw [← hq] at this
      rw [this]
      exact ⟨rfl, ⟨p.length, rfl, Nat.le_refl _, hw⟩, rfl⟩
theorem GShop.tuned (h : GShop p d q a m l c) (hc : c ≤ 45) :
    GShop (shopTune p d q a m l).1 (shopTune p d q a m l).2.1 (shopTune p d q a m l).2.2.1 (shopTune p d q a m l).2.2.2.1 (shopTune p d q a m l).2.2.2.2.1 (shopTune p d q a m l).2.2.2.2.2.1 (c + 1) := by
  obtain ⟨n, rfl, hn, hw⟩ := h.work
  have h1 := h.lo
  have h2 := h.hi
  obtain ⟨t1, ⟨n', t2, t3, t4⟩, t5⟩ := tune_good h.plan hn hw ⟨by omega, by omega⟩
  unfold shopTune
  split
  · exact ⟨by rw [t1]; exact h.plan, ⟨n', t2, by rw [t1]; exact t3, by rw [t1]; exact t4⟩, by dsimp only; omega, by dsimp only; omega, h.log, h.last, h.warm, by have := h.mom; dsimp only; omega, by have := h.few; dsimp only; omega⟩
  · exact h.step
end
theorem made_good (p : List S96) (g : gPlan p) (s : Int) (hs : 200000 ≤ s ∧ s ≤ 299999) :
    GShop (newShop s p).1 (newShop s p).2.1 (newShop s p).2.2.1 (newShop s p).2.2.2.1 (newShop s p).2.2.2.2.1 (newShop s p).2.2.2.2.2.1 0 := by
  have hn := newWork_good g (s := s) ⟨by omega, by omega⟩
  unfold newShop
  rw [if_pos (by rw [hn]), hn]
  have e0 : (pits p s 0).getD 0 0 = s := by rw [pits_get _ _ _ _ (by omega), if_pos (Nat.zero_le _)]; rfl
  refine ⟨g, ⟨0, rfl, Nat.zero_le _, workOk_pits g ⟨by omega, by omega⟩ 0 (Nat.zero_le _)⟩, ?_, ?_, (show logOk ([] : List S74) = true from by decide), .inl rfl, (by dsimp only; omega), (by dsimp only; omega), Nat.le_refl _⟩
  · show _ ≤ (pits p s 0).getD 0 0; rw [e0]; omega
  · show (pits p s 0).getD 0 0 ≤ _; rw [e0]; omega
def Drawn (s : List S96 × Int × List Int × Int × Int × List S74) : Prop := GShop s.1 s.2.1 s.2.2.1 s.2.2.2.1 s.2.2.2.2.1 s.2.2.2.2.2 20
theorem GShop.more {p : List S96} {d : Int} {q : List Int} {a m : Int} {l : List S74} {c c' : Nat} (h : GShop p d q a m l c) (hc : c ≤ c') : GShop p d q a m l c' :=
  ⟨h.plan, h.work, by have := h.lo; omega, by have := h.hi; omega, h.log, h.last, h.warm, by have := h.mom; omega, by have := h.few; omega⟩
section
variable (b : List Int) (hb : b.length ≤ 1048576)
include hb
theorem shop_l0 (N : Nat) (hN : N ≤ 19) : ∀ e : Nat, e ≤ N → ∀ (i h : Int) (p : List S96) (d : Int) (q : List Int) (a m : Int) (l : List S74), 0 ≤ i → GShop p d q a m l (N - e) →
    ∃ s i' h', Ev (fun k => spec_l38Shop.l0 k (N : Int) ((N - e : Nat) : Int) b i h p d q a m l) (s.1, s.2.1, s.2.2.1, s.2.2.2.1, s.2.2.2.2.1, s.2.2.2.2.2, i', h') ∧ Drawn s ∧ 0 ≤ i' := by
  intro e
  induction e with
  | zero =>
    intro _ i h p d q a m l hi g
    exact ⟨(p, d, q, a, m, l), i, h, Ev.step (fun k => by rw [spec_l38Shop.l0]) (evn (by omega) (Ev.now _)), g.more (by omega), hi⟩
  | succ e ih =>
    intro he i h p d q a m l hi g
    have lq := g.len
    have lp := g.plan.1
    have ll := logOk_len g.log
    obtain ⟨x, i1, h1, e1, x0, x1, _, j1⟩ := below_ev b hb i h 8 hi
    have hs : N - e = N - (e + 1) + 1 := by omega
    by_cases y0 : x = 0
    · obtain ⟨y, i2, h2, e2, _, _, _, j2⟩ := below_ev b hb i1 h1 30 j1
      obtain ⟨s, i', h', ev, gs, hi'⟩ := ih (by omega) i2 h2 _ _ _ _ _ _ j2 (hs ▸ g.warmed y)
      refine ⟨s, i', h', Ev.step (fun k => by rw [spec_l38Shop.l0]) (evp (by omega) (evb e1 (evp y0 (evb e2 (Ev.bind (swarm_spec p d q a m l y (by omega) (by omega) (by omega)) ?_))))), gs, hi'⟩
      rw [show wrap64 (((N - (e + 1) : Nat) : Int) + 1) = ((N - e : Nat) : Int) from by rw [w64 (by omega) (by omega)]; omega]; exact ev
    by_cases y1 : x = 1
    · obtain ⟨r, n, i2, h2, e2, gp, j2⟩ := pipe_ev b hb i1 h1 j1
      obtain ⟨f, i3, h3, e3, _, _, _, j3⟩ := below_ev b hb i2 h2 3 j2
      obtain ⟨s, i', h', ev, gs, hi'⟩ := ih (by omega) i3 h3 _ _ _ _ _ _ j3 (hs ▸ g.faulted r n f)
      refine ⟨s, i', h', Ev.step (fun k => by rw [spec_l38Shop.l0]) (evp (by omega) (evb e1 (evn y0 (evp y1 (evb e2 (evb e3 (Ev.bind (sfault_spec p d q a m l r n f (by omega) (by omega) (by omega)) ?_))))))), gs, hi'⟩
      rw [show wrap64 (((N - (e + 1) : Nat) : Int) + 1) = ((N - e : Nat) : Int) from by rw [w64 (by omega) (by omega)]; omega]; exact ev
    by_cases y2 : x = 2
    · obtain ⟨k0, i2, h2, e2, _, _, _, j2⟩ := below_ev b hb i1 h1 12 j1
      obtain ⟨z, i3, h3, e3, z0, z1, _, j3⟩ := below_ev b hb i2 h2 2001 j2
      have z2 := z1 (by omega)
      obtain ⟨s, i', h', ev, gs, hi'⟩ := ih (by omega) i3 h3 _ _ _ _ _ _ j3 (hs ▸ g.knocked k0 (z - 1000) (by omega))
      refine ⟨s, i', h', Ev.step (fun k => by rw [spec_l38Shop.l0]) (evp (by omega) (evb e1 (evn y0 (evn y1 (evp y2 (evb e2 (evb e3 ?_))))))), gs, hi'⟩
      dsimp only
      rw [show wrap64 (z - 1000) = z - 1000 from w64 (by omega) (by omega)]
      refine Ev.bind (sknock_spec p d q a m l k0 (z - 1000) (by omega) (by omega) (by omega)) ?_
      rw [show wrap64 (((N - (e + 1) : Nat) : Int) + 1) = ((N - e : Nat) : Int) from by rw [w64 (by omega) (by omega)]; omega]; exact ev
    · obtain ⟨s, i', h', ev, gs, hi'⟩ := ih (by omega) i1 h1 _ _ _ _ _ _ j1 (hs ▸ g.tuned (by omega))
      refine ⟨s, i', h', Ev.step (fun k => by rw [spec_l38Shop.l0]) (evp (by omega) (evb e1 (evn y0 (evn y1 (evn y2 (Ev.bind (stune_spec p d q a m l (by omega) (by omega) (by omega)) ?_)))))), gs, hi'⟩
      rw [show wrap64 (((N - (e + 1) : Nat) : Int) + 1) = ((N - e : Nat) : Int) from by rw [w64 (by omega) (by omega)]; omega]; exact ev
theorem shop_ev (i h : Int) (hi : 0 ≤ i) : ∃ s i' h', Ev (fun k => spec_l38Shop.f k b i h) (s.1, s.2.1, s.2.2.1, s.2.2.2.1, s.2.2.2.2.1, s.2.2.2.2.2, i', h') ∧ Drawn s ∧ 0 ≤ i' := by
  obtain ⟨x, i1, h1, e1, x0, x1, _, j1⟩ := below_ev b hb i h 100000 hi
  have x2 := x1 (by omega)
  obtain ⟨p, i2, h2, e2, g, j2⟩ := plan_ev b hb i1 h1 j1
  obtain ⟨y, i3, h3, e3, y0, y1, _, j3⟩ := below_ev b hb i2 h2 20 j2
  have y2 := y1 (by omega)
  obtain ⟨N, rfl⟩ := Int.eq_ofNat_of_zero_le y0
  obtain ⟨s, i', h', ev, gs, hi'⟩ := shop_l0 b hb N (by omega) N (Nat.le_refl _) i3 h3 _ _ _ _ _ _ j3 ((made_good p g (200000 + x) (by omega)).more (Nat.zero_le _))
  refine ⟨s, i', h', ?_, gs, hi'⟩
  unfold spec_l38Shop.f
  refine evb e1 (Ev.bind e2 ?_)
  dsimp only
  rw [show wrap64 (200000 + x) = 200000 + x from w64 (by omega) (by omega)]
  refine Ev.bind (newShop_spec (200000 + x) p) (evb e3 ?_)
  rw [show N - N = 0 by omega] at ev
  exact ev
end
end Go.Proofs.Ytbkkpllejgedcaa.Q


namespace Go.Proofs.Ytbkkpllejgedcaa.Q
set_option linter.unusedVariables false
set_option linter.unusedSimpArgs false
open Go.RowKit Go.Proofs.Ytbkkpllejgedcaa.P Go.Proofs.YtbkkpllejgedcaaW.PrintWords Go.Proofs.YtbkkpllejgedcaaW.PrintMore
def stepsLeft (p : List S96) (d : Int) (q : List Int) (a m : Int) (l : List S74) : Int :=
  if shopOk p d q a m l = true then wrap64 ((wrap64 ((p.length : Int) - d)) + ((wrongSteps p d q).length : Int)) else 0
theorem left_impl (p : List S96) (d : Int) (q : List Int) (a m : Int) (l : List S74) (hl : l.length ≤ 1048577) : Ev (fun k => impl_StepsLeft.f k p d q a m l) (stepsLeft p d q a m l) := by
  unfold impl_StepsLeft.f stepsLeft
  refine Ev.bind (shopOk_impl p d q a m l hl) ?_
  by_cases h : shopOk p d q a m l = true
  · exact rpos h <| evp h (Ev.bind (wrong_impl p d q) (Ev.now _))
  · exact rneg h <| evn h (Ev.now _)
end Go.Proofs.Ytbkkpllejgedcaa.Q


namespace Go.Proofs.Ytbkkpllejgedcaa.P
open Go.RowKit Go.Proofs.YtbkkpllejgedcaaW.PrintWords Go.Proofs.YtbkkpllejgedcaaW.PrintLast Go.Proofs.YtbkkpllejgedcaaW.PrintMore
attribute [local go_sem] max2_int min2_int max_two min_two max_three min_three max_four min_four
set_option linter.unusedVariables false
set_option linter.unusedSimpArgs false
theorem eqA56 (d : Nat) (w : World) (x0 y0 : Int) (x1 y1 : Int) :
  (Op.equalIn (d + 2) 56 (.agg #[.int .i64 x0, .int .i64 x1]) (.agg #[.int .i64 y0, .int .i64 y1])).run Try.prog w = .ok (x0 == y0 && (x1 == y1)) w := by
 refine eqA_of Try.underlying56 (by kernel_rfl) ?_
 refine eqf_cons (by rfl) (by go_simp; rfl) (by go_simp; rfl) (by go_simp) ?_
 exact eqf_last (by rfl) (by go_simp; rfl) (by go_simp; rfl) (by go_simp)
end Go.Proofs.Ytbkkpllejgedcaa.P


namespace Go.Proofs.Ytbkkpllejgedcaa.Q
set_option linter.unusedVariables false
set_option linter.unusedSimpArgs false
open Go.RowKit Go.Proofs.Ytbkkpllejgedcaa.P Go.Proofs.YtbkkpllejgedcaaW.PrintWords Go.Proofs.YtbkkpllejgedcaaW.PrintMore
theorem faultOf_snoc (l : List S74) (x : S74) (p : S56) : faultOf (l ++ [x]) p = if p = x.f0 then x.f1 else faultOf l p := by
  unfold faultOf
  rw [lastMap_snoc]
  by_cases h : p = x.f0 <;> simp [h]
end Go.Proofs.Ytbkkpllejgedcaa.Q


namespace Go.Proofs.Ytbkkpllejgedcaa.Q
set_option linter.unusedVariables false
set_option linter.unusedSimpArgs false
open Go.RowKit Go.Proofs.Ytbkkpllejgedcaa.P Go.Proofs.YtbkkpllejgedcaaW.PrintWords Go.Proofs.YtbkkpllejgedcaaW.PrintMore
def warmPitch (p t : Int) : Int := if fine p = true then (if -10 ≤ t ∧ t ≤ 40 then wrap64 (Int.tdiv (wrap64 (p * (wrap64 (1000 + (wrap64 (2 * (wrap64 (t - 15)))))))) 1000) else 0) else 0
theorem warm_impl (p t : Int) : impl_WarmPitch.f p t = some (warmPitch p t) := by
  unfold impl_WarmPitch.f warmPitch
  rw [isFine_eq, isWarmth_eq]
  cases fine p <;> by_cases h : -10 ≤ t ∧ t ≤ 40 <;> simp [h]
theorem warm_zero (t : Int) : warmPitch 0 t = 0 := by
  have : fine 0 = false := by decide
  unfold warmPitch
  rw [this]
  rfl
def heardAt (p : List S96) (d : Int) (q : List Int) (a m : Int) (l : List S74) (c : Int) : Int :=
  if shopOk p d q a m l = true then (if 0 ≤ c ∧ c ≤ 11 then (if faultOf l ⟨0, c⟩ = 1 then 0 else warmPitch (rd q c) a) else 0) else 0
theorem heard_impl (p : List S96) (d : Int) (q : List Int) (a m : Int) (l : List S74) (c : Int) (hl : l.length ≤ 1048577) : Ev (fun k => impl_HeardAt.f k p d q a m l c) (heardAt p d q a m l c) := by
  unfold impl_HeardAt.f
  refine Ev.bind (shopOk_impl p d q a m l hl) ?_
  by_cases h0 : shopOk p d q a m l = true
  rotate_left
  · exact evn h0 (evs (by simp [heardAt, h0]))
  refine evp h0 (evb (within_eq _ _ _) ?_)
  obtain ⟨hw, hlo, _⟩ := shopOk_iff.mp h0
  have hq : q.length = 12 := by
    unfold workOk at hw
    simp only [Bool.and_eq_true, decide_eq_true_eq] at hw
    exact hw.2.2.1
  by_cases hc : 0 ≤ c ∧ c ≤ 11
  rotate_left
  · exact evn (by simpa using hc) (evs (by simp [heardAt, hc]))
  refine evp (by simpa using hc) (evp hc.1 (evp (by omega) ?_))
  by_cases hz : rd q c = 0
  · exact evp hz (evs (by simp [heardAt, hz, warm_zero]))
  refine evn hz ?_
  have F : impl_FaultOf.f l 0 c = some (faultOf l ⟨0, c⟩) := by
    unfold impl_FaultOf.f
    rw [if_pos ⟨wf64_of (by omega) (by omega), wf64_of (by omega) (by omega), hl⟩, if_pos hlo]
  refine evb F ?_
  by_cases hf : faultOf l ⟨0, c⟩ = 1
  · exact evp hf (evs (by simp [heardAt, hf]))
  exact evn hf (evb (warm_impl _ _) (evs (by simp [heardAt, h0, hc, hf])))
end Go.Proofs.Ytbkkpllejgedcaa.Q


namespace Go.Proofs.Ytbkkpllejgedcaa.Q
set_option linter.unusedVariables false
set_option linter.unusedSimpArgs false
open Go.RowKit Go.Proofs.Ytbkkpllejgedcaa.P Go.Proofs.YtbkkpllejgedcaaW.PrintWords Go.Proofs.YtbkkpllejgedcaaW.PrintMore
theorem at_ev (b : List Int) (hb : b.length ≤ 1048576) (hw : ∀ x ∈ b, (Lit.int .u8 x).wf = true) (a : Int) (h0 : 0 ≤ a) (h1 : a ≤ 100000) : ∃ v, laws_at.f b a = some v ∧ 0 ≤ v ∧ v ≤ 255 := by
  unfold laws_at.f
  by_cases h : (b.length : Int) = 0
  · rw [if_pos h]; exact ⟨0, rfl, by omega, by omega⟩
  rw [if_neg h, w64 (n := a * 5) (by omega) (by omega), w64 (n := a * 5 + 1) (by omega) (by omega)]
  have e0 : 0 ≤ Int.tmod (a * 5 + 1) (b.length : Int) := Int.tmod_nonneg _ (by omega)
  have e1 : Int.tmod (a * 5 + 1) (b.length : Int) < (b.length : Int) := by rw [Int.tmod_eq_emod_of_nonneg (by omega)]; exact Int.emod_lt_of_pos _ (by omega)
  rw [if_pos e0, if_pos e1]
  obtain ⟨m, hm⟩ := Int.eq_ofNat_of_zero_le e0
  rw [hm, rd_nat b m (by omega)]
  have h2 := hw b[m] (List.getElem_mem _)
  have h3 : 0 ≤ b[m] ∧ b[m] ≤ 255 := by
    simp [Lit.wf, IntKind.min, IntKind.max, IntKind.signed, IntKind.bits] at h2
    omega
  exact ⟨_, rfl, by rw [w64 (by omega) (by omega)]; omega, by rw [w64 (by omega) (by omega)]; omega⟩
theorem tmod_range {v : Int} (n : Int) (hn : 0 < n) (h : 0 ≤ v) : 0 ≤ Int.tmod v n ∧ Int.tmod v n < n := ⟨Int.tmod_nonneg _ h, by rw [Int.tmod_eq_emod_of_nonneg h]; exact Int.emod_lt_of_pos _ hn⟩
end Go.Proofs.Ytbkkpllejgedcaa.Q


namespace Go.Proofs.Ytbkkpllejgedcaa.Q
set_option linter.unusedVariables false
set_option linter.unusedSimpArgs false
open Go.RowKit Go.Proofs.Ytbkkpllejgedcaa.P Go.Proofs.YtbkkpllejgedcaaW.PrintWords Go.Proofs.YtbkkpllejgedcaaW.PrintMore
theorem sameInts_ev (l : List Int) (hl : l.length ≤ 9000000000000000000) : Ev (fun k => laws_sameInts.f k l l) true := by
  have key : ∀ i, i ≤ l.length → Ev (fun k => laws_sameInts.l0 k l l (i : Int)) true := by
    refine down (n := l.length) ?_ ?_
    · exact Ev.step (fun k => by rw [laws_sameInts.l0]) (evn (by omega) (evs rfl))
    · intro i hi ih
      refine Ev.step (fun k => by rw [laws_sameInts.l0]) (evp (by omega) (evp (by omega) (evp (by omega) (evp rfl ?_))))
      rw [w64 (by omega) (by omega)]
      exact ih
  unfold laws_sameInts.f
  exact evp rfl (key 0 (Nat.zero_le _))
end Go.Proofs.Ytbkkpllejgedcaa.Q


namespace Go.Proofs.Ytbkkpllejgedcaa.Q
set_option linter.unusedVariables false
set_option linter.unusedSimpArgs false
open Go.RowKit Go.Deep Go.ChangeShapes Go.WideShapes Go.Proofs.YtbkkpllejgedcaaW.PrintWords
def Opens {α : Type} (P : Program) (w : World) (d : Kd α) (T : TypeId) (G : α → Prop) : Prop :=
  ∀ (H : Type) (enc : TypeId × Value → H) (base : Nat) (spare : Nat → Bool) (held : Bool) (fuel : Nat) (cs : List Value) (x : DataW H × List MemPlace),
    DataW.trod enc P w base spare held fuel T cs = some x → ∃ v, d.K w v cs ∧ G v
def OpensFs {α : Type} (P : Program) (w : World) (d : Kd α) (off : Nat) (fs : Array Field) (i : Nat) (G : α → Prop) : Prop :=
  ∀ (H : Type) (enc : TypeId × Value → H) (base : Nat) (spare : Nat → Bool) (held : Bool) (fuel : Nat) (cs : List Value), cs.length = off + d.sz →
    (∀ j f, i ≤ j → fs[j]? = some f → ∃ y : DataW H × List MemPlace, DataW.trod enc P w base spare held fuel f.type ((cs.drop f.offset).take (P.cellsOf f.type)) = some y) → ∃ v, d.K w v (cs.drop off) ∧ G v
section
variable {P : Program} {w : World}
theorem Opens.int {k : IntKind} {T : TypeId} (ht : P.underlying T = some (.int k)) : Opens P w (Kd.int k) T (fun n => (Lit.int k n).wf = true) := by
  intro H enc base spare held fuel cs x hx
  obtain ⟨n, rfl, _, hw⟩ := DataW.trod_int ht hx
  exact ⟨n, rfl, hw⟩
theorem Opens.slice {α : Type} (z : α) {d : Kd α} {E T : TypeId} {G : α → Prop} (ht : P.underlying T = some (.slice E)) (hC : P.cellsOf E = d.sz) (h : Opens P w d E G) :
    Opens P w (Kd.slice E d) T (fun l => l.length ≤ 9223372036854775807 ∧ ∀ x ∈ l, G x) := by
  haveI : Inhabited α := ⟨z⟩
  intro H enc base spare held fuel cs x hx
  rcases open_slice ht hx with ⟨rfl, _⟩ | ⟨a, len, cap, m, n, D, Pl, rfl, hb, hl, hm, hmm, _, hi⟩
  · exact ⟨[], ⟨none, 0, rfl, Nat.le_refl _, rfl, by simp, fun h => absurd h (by simp)⟩, by simp, by simp⟩
  · have hlm : len ≤ m := by rw [hmm]; split <;> omega
    obtain ⟨V, hV⟩ := choose_lt (α := α) (n := len) (p := fun i v => G v ∧ ∃ c, c.length = d.sz ∧ d.K w v c ∧ ∀ j u, c[j]? = some u → w.cell? (a.add (i * d.sz + j)) = some u) (fun i hil => by
      obtain ⟨cs', h1, h2⟩ := hi i (by omega)
      obtain ⟨v, hv, g⟩ := h H enc base spare held n cs' _ h2
      obtain ⟨_, hcl, hat⟩ := World.cells?_some h1
      refine ⟨v, g, cs', by rw [hcl, hC], hv, fun j u hu => ?_⟩
      have hj : j < P.cellsOf E := by rw [← hcl]; exact (List.getElem?_eq_some_iff.1 hu).1
      have := hat j hj
      rw [hC, Go.Deep.add_add] at this
      rw [this, hu])
    refine ⟨(List.range len).map V, ⟨some a, cap, by simp, by simpa using hl, by simp, by have := hm; unfold maxLen at this; simp; omega, fun _ => ⟨a, rfl, fun j p hj => ?_⟩⟩, ?_⟩
    · have hj' : j < len := by have := (List.getElem?_eq_some_iff.1 hj).1; simpa using this
      obtain rfl : V j = p := by simpa [hj'] using hj
      exact (hV j hj').2
    · refine ⟨by have := hm; unfold maxLen at this; simp; omega, fun x hx => ?_⟩
      obtain ⟨i, hi, rfl⟩ := List.mem_map.1 hx
      exact (hV i (List.mem_range.1 hi)).1
theorem OpensFs.one {α : Type} {d : Kd α} {off i : Nat} {fs : Array Field} {f : Field} {G : α → Prop} (hf : fs[i]? = some f) (h : Opens P w d f.type G) (ho : f.offset = off) (hc : P.cellsOf f.type = d.sz) : OpensFs P w d off fs i G := by
  intro H enc base spare held fuel cs hlen hfs
  obtain ⟨y, hy⟩ := hfs i f (Nat.le_refl _) hf
  rw [ho, hc, List.take_of_length_le (by simp [hlen])] at hy
  exact h H enc base spare held fuel _ _ hy
theorem OpensFs.more {α β : Type} {d : Kd α} {d2 : Kd β} {off i : Nat} {fs : Array Field} {f : Field} {G : α → Prop} {G2 : β → Prop} (hf : fs[i]? = some f) (h : Opens P w d f.type G) (ho : f.offset = off) (hc : P.cellsOf f.type = d.sz)
    (h2 : OpensFs P w d2 (off + d.sz) fs (i + 1) G2) : OpensFs P w (Kd.pair d d2) off fs i (fun x => G x.1 ∧ G2 x.2) := by
  intro H enc base spare held fuel cs hlen hfs
  have hlen' : cs.length = off + (d.sz + d2.sz) := hlen
  obtain ⟨y, hy⟩ := hfs i f (Nat.le_refl _) hf
  rw [ho, hc] at hy
  obtain ⟨v, hv, g⟩ := h H enc base spare held fuel _ _ hy
  obtain ⟨v2, hv2, g2⟩ := h2 H enc base spare held fuel cs (by omega) (fun j f' hj hf' => hfs j f' (by omega) hf')
  refine ⟨(v, v2), ⟨_, _, ?_, hv, hv2⟩, g, g2⟩
  rw [← List.drop_drop, List.take_append_drop]
end
end Go.Proofs.Ytbkkpllejgedcaa.Q


namespace Go.Proofs.Ytbkkpllejgedcaa.Pure
set_option linter.unusedVariables false
set_option linter.unusedSimpArgs false
open Go.RowKit Go.Proofs.Ytbkkpllejgedcaa.P Go.Proofs.Ytbkkpllejgedcaa.Q Go.Proofs.YtbkkpllejgedcaaW.PrintWords Go.Proofs.YtbkkpllejgedcaaW.PrintLast
theorem logGo_last (e : S74) (he : entOk e = true) : ∀ (l : List S74) (p : Int), logGo p l = true → (l.length = 0 → p ≤ e.f2) → (0 < l.length → (l.getD (l.length - 1) z74).f2 ≤ e.f2) → logGo p (l ++ [e]) = true
  | [], p, h, h1, h2 => by
    have := h1 rfl
    simp [logGo, he, this]
  | x :: r, p, h, h1, h2 => by
    simp only [logGo, Bool.and_eq_true, decide_eq_true_eq] at h
    have h3 := h2 (by simp)
    simp only [List.cons_append, logGo, Bool.and_eq_true, decide_eq_true_eq]
    refine ⟨h.1, h.2.1, logGo_last e he r x.f2 h.2.2 (fun hr => ?_) (fun hr => ?_)⟩
    · obtain rfl : r = [] := List.eq_nil_of_length_eq_zero hr
      simpa using h3
    · obtain ⟨k, hk⟩ : ∃ k, r.length = k + 1 := ⟨r.length - 1, by omega⟩
      simp only [List.length_cons, hk, Nat.add_sub_cancel, List.getD_cons_succ] at h3 ⊢
      exact h3
theorem fault_ok {p : List S96} {d : Int} {q : List Int} {a m : Int} {l : List S74} {c : Nat} (g : GShop p d q a m l c) (hc : c ≤ 20) {n : Int} (hn : 0 ≤ n ∧ n ≤ 39) : logOk (l ++ [ent 0 n 1 m]) = true := by
  have hl := g.log
  have hf := g.few
  have hm := g.mom
  unfold logOk at hl ⊢
  simp only [Bool.and_eq_true, decide_eq_true_eq] at hl ⊢
  refine ⟨logGo_last _ ?_ l 0 hl.1 (fun _ => ?_) (fun h => ?_), by simp; omega⟩
  · unfold entOk ent
    simp only [Bool.and_eq_true, decide_eq_true_eq]
    omega
  · show (0 : Int) ≤ m
    omega
  · rcases g.last with h2 | h2
    · omega
    · exact h2
theorem FnShops : laws_FnShops.Pure := by
  intro b hb1 hb2 hb3
  refine Ev.rounds ?_
  unfold laws_FnShops.f
  by_cases hbig : (b.length : Int) > 1048576
  · exact evb (a := true) (by unfold laws_big.f; rw [decide_eq_true hbig]) (evp rfl (Ev.now _))
  refine evb (a := false) (by unfold laws_big.f; rw [decide_eq_false hbig]) (evn (by decide) ?_)
  have hb : b.length ≤ 1048576 := by omega
  obtain ⟨hh0, eh0⟩ := new_ev b
  obtain ⟨⟨p, d, q, a, m, l⟩, i1, h1, hev, g, j1⟩ := shop_ev b hb 0 hh0 (by omega)
  have D : Ev (fun k => spec_DrawShop.f k b) (p, d, q, a, m, l) := by
    unfold spec_DrawShop.f
    exact Ev.bind eh0 (Ev.bind hev (Ev.now _))
  have g : GShop p d q a m l 20 := g
  have lq := g.len
  have lp := g.plan.1
  have lf := g.few
  have hok := g.ok (by omega)
  have hm := g.mom
  obtain ⟨v0, e0, a0, b0⟩ := at_ev b hb hb3 0 (by omega) (by omega)
  obtain ⟨v1, e1, a1, b1⟩ := at_ev b hb hb3 1 (by omega) (by omega)
  obtain ⟨v2, e2, a2, b2⟩ := at_ev b hb hb3 2 (by omega) (by omega)
  obtain ⟨x0, y0⟩ := tmod_range 50 (by omega) a0
  obtain ⟨x1, y1⟩ := tmod_range 40 (by omega) a1
  obtain ⟨x2, y2⟩ := tmod_range 12 (by omega) a2
  obtain ⟨x, hx⟩ : ∃ x, Int.tmod v0 50 = x := ⟨_, rfl⟩
  obtain ⟨n, hn⟩ : ∃ n, Int.tmod v1 40 = n := ⟨_, rfl⟩
  obtain ⟨c, hc⟩ : ∃ c, Int.tmod v2 12 = c := ⟨_, rfl⟩
  rw [hx] at x0 y0
  rw [hn] at x1 y1
  rw [hc] at x2 y2
  have wx : wrap64 (x - 10) = x - 10 := w64 (by omega) (by omega)
  have A := swarm_impl p d q a m l (x - 10) (by omega) (by omega) (by omega)
  have gA := g.warmed (x - 10)
  have eA : shopWarm p d q a m l (x - 10) = (p, d, q, x - 10, m + 1, l, true) := by unfold shopWarm; rw [if_pos ⟨hok, by omega, by omega⟩]
  have okB := fault_ok g (by omega) (n := n) ⟨by omega, by omega⟩
  have B := sfault_impl p d q a m l 0 n 1 (by omega) (by omega) (by omega)
  have gB := g.faulted 0 n 1
  have eB : shopFault p d q a m l 0 n 1 = (p, d, q, a, m, l ++ [ent 0 n 1 m], true) := by
    have : addEntry l 0 n 1 m = (l ++ [ent 0 n 1 m], true) := by unfold addEntry; rw [if_pos ⟨g.log, okB⟩]
    unfold shopFault
    rw [this, if_pos ⟨hok, rfl⟩]
  have C := sknock_impl p d q a m l c 3 (by omega) (by omega) (by omega)
  have gC := g.knocked c 3 (by omega)
  rw [eA] at A gA
  rw [eB] at B gB
  dsimp only at gA gB gC
  have okA := gA.ok (by omega)
  have okB2 := gB.ok (by omega)
  have okC := gC.ok (by omega)
  obtain ⟨⟨p3, d3, q3, a3, m3, l3, t3⟩, eC⟩ : ∃ s, shopKnock p d q a m l c 3 = s := ⟨_, rfl⟩
  rw [eC] at C okC gC
  dsimp only at okC gC
  have hl3 := gC.few
  have N := left_impl p d q a m l (by omega)
  have NA := left_impl p d q (x - 10) (m + 1) l (by omega)
  have NB := left_impl p d q a m (l ++ [ent 0 n 1 m]) (by simp; omega)
  have eNA : stepsLeft p d q (x - 10) (m + 1) l = stepsLeft p d q a m l := by unfold stepsLeft; rw [if_pos hok, if_pos okA]
  have eNB : stepsLeft p d q a m (l ++ [ent 0 n 1 m]) = stepsLeft p d q a m l := by unfold stepsLeft; rw [if_pos hok, if_pos okB2]
  rw [eNA] at NA
  rw [eNB] at NB
  have H := heard_impl p d q a m (l ++ [ent 0 n 1 m]) n (by simp; omega)
  have eH : heardAt p d q a m (l ++ [ent 0 n 1 m]) n = 0 := by
    unfold heardAt
    rw [if_pos okB2]
    split
    · rw [faultOf_snoc, if_pos (show (⟨0, n⟩ : S56) = (ent 0 n 1 m).f0 from rfl), if_pos (show (ent 0 n 1 m).f1 = 1 from rfl)]
    · rfl
  rw [eH] at H
  have O := shopOk_impl p d q a m l (by omega)
  have OA := shopOk_impl p d q (x - 10) (m + 1) l (by omega)
  have OB := shopOk_impl p d q a m (l ++ [ent 0 n 1 m]) (by simp; omega)
  have OC := shopOk_impl p3 d3 q3 a3 m3 l3 (by omega)
  rw [hok] at O
  rw [okA] at OA
  rw [okB2] at OB
  rw [okC] at OC
  have S := sameInts_ev q (by omega)
  have wm : wrap64 (m + 1) = m + 1 := w64 (by omega) (by omega)
  generalize stepsLeft p d q a m l = z at *
  repeat' first
    | exact Ev.now _
    | (rw [hx]; fail_if_success rfl)
    | (rw [hn]; fail_if_success rfl)
    | (rw [hc]; fail_if_success rfl)
    | rw [wx]
    | rw [wm]
    | refine evb e0 ?_
    | refine evb e1 ?_
    | refine evb e2 ?_
    | refine Ev.bind D ?_
    | refine Ev.bind A ?_
    | refine Ev.bind B ?_
    | refine Ev.bind C ?_
    | refine Ev.bind N ?_
    | refine Ev.bind NA ?_
    | refine Ev.bind NB ?_
    | refine Ev.bind H ?_
    | refine Ev.bind O ?_
    | refine Ev.bind OA ?_
    | refine Ev.bind OB ?_
    | refine Ev.bind OC ?_
    | refine Ev.bind S ?_
    | refine evp rfl ?_
    | refine evp (by first | decide | (dsimp only; omega) | simp) ?_
    | refine evn (by first | decide | (dsimp only; omega) | simp) ?_
end Go.Proofs.Ytbkkpllejgedcaa.Pure


namespace Go.Proofs.Ytbkkpllejgedcaa.fnShops
open Go.ChangeShapes Go.WideShapes Go.ChangeAt Go.RowKit
open Go.ChangeMaps (open_string shut_string)
set_option linter.unusedVariables false
theorem own : ownKnob Try.prog.godebug = none := by kernel_rfl
theorem laidOut : laidOutB Try.prog = true := by kernel_rfl
def IsRow (k : IntKind) (w : World) (a : Option Addr) (len cap : Nat) (zs : List Int) : Prop :=
  (a = none ∧ len = 0 ∧ cap = 0 ∧ zs = []) ∨
  ∃ x, a = some x ∧ len ≤ cap ∧ cap ≤ maxLen ∧ zs.length = cap ∧ (∀ i, i < zs.length → w.cell? (x.add i) = some (.int k (zs.getD i 0))) ∧ ∀ n ∈ zs, (Lit.int k n).wf = true
set_option maxRecDepth 100000 in
theorem lifted (os : Os) (started : os.Started) (H : Type) (enc : TypeId × Value → H) :
    ReturnsInHanded {} Try.checked os 12 .any (Rows.fnShopsSpec.pre6 enc Try.prog Try.f12 Rows.fnShopsRow.domain false) (Rows.fnShopsSpec.post enc Try.prog Try.f12 false true false false) := by
  refine returnsInHanded_of_change_sized (C := Try.checked) own started (by kernel_rfl) Try.func12
    (ChangeSpec.witness6 (enc := enc) (C := Try.checked) false ⟨#[], #[.slice none 0 0], []⟩ 8 (by kernel_rfl) (by kernel_rfl) (by kernel_rfl) (by kernel_rfl)) ?_
  intro W base args ds gs before hval0 hW hcnd hsz0 _
  have hsz : (DataW.weightsEach Try.prog (Try.f12.params.toList ++ Rows.fnShopsSpec.plain.varTypes Try.prog) (ds ++ gs)).all (· ≤ reachBytes) = true := hsz0
  have hval : ∀ (j : Nat) t v, Try.f12.params[j]? = some t → args[j]? = some v → Value.okWide Try.prog W .any base t v := hval0
  have hW' := hW
  obtain ⟨p, q, hA0, hV, rfl, hfz, hnd⟩ := hW
  have hA : DataW.TrodAll enc Try.prog W 0 (fun _ => true) true Try.f12.params.toList args.toList ds p := hA0
  rw [Try.params12] at hA hval hsz
  obtain ⟨v0, vs0, d0, ds0, p0, q0, hargs, rfl, rfl, h0, r0⟩ := trodAll_cons hA
  obtain ⟨rfl, rfl, rfl⟩ := trodAll_nil r0
  obtain rfl : args = #[v0] := by cases args; simp_all
  obtain ⟨rfl, rfl⟩ := trodVars_none hV
  obtain ⟨a0, len0, cap0, rfl⟩ := okWide_slice Try.underlying62 (hval 0 62 v0 rfl rfl)
  have k0 := h0
  have lt0 : ∀ x ∈ p0, x.block < W.heap.size := by obtain ⟨m, hm⟩ := k0; exact DataW.trod_lt m _ _ _ hm
  obtain ⟨z0, w0⟩ : ∃ zs, IsRow .u8 W a0 len0 cap0 zs := by
    obtain ⟨fuel, hf⟩ := h0
    rcases open_ints Try.underlying62 Try.underlying5 (by kernel_rfl) hf with ⟨hcs, _⟩ | ⟨x, l, c, zs, hcs, _, hl, hm, hz, _, hcell, hwz⟩
    · simp [Value.cells] at hcs
      obtain ⟨rfl, rfl, rfl⟩ := hcs
      exact ⟨[], .inl ⟨rfl, rfl, rfl, rfl⟩⟩
    · simp [Value.cells] at hcs
      obtain ⟨rfl, rfl, rfl⟩ := hcs
      exact ⟨zs, .inr ⟨_, rfl, hl, hm, by simpa using hz, hcell, hwz⟩⟩
  have y0 : len0 * 1 ≤ 140737488351232 := Go.Proofs.YtbkkpllejgedcaaW.PrintWords.sized_ints hsz (j := 0) (t := 62) rfl rfl Try.underlying62 Try.underlying5 (by kernel_rfl) (by kernel_rfl) h0
  clear hA0 hval0 hsz0 hsz
  refine (P.laws_FnShops.walk Pure.FnShops a0 len0 cap0 z0 W w0 y0).mono fun e W' ⟨he, bel⟩ => ?_
  subst he
  exact ⟨_, rfl, _, _, _, [], _, [], hW', trodAll_mk1 (shut_bool Try.underlying4 _), (trodAll_cons_mk (Below.trod laidOut (by kernel_rfl) (of_decide_eq_true (by kernel_rfl)) k0 bel lt0) trodAll_mk0), rfl, bel.frame _, fun h => by cases h⟩
theorem over : Rows.fnShopsRow.holds Try.pinned (OpenSpec.ofChange Rows.fnShopsSpec) :=
  OpenClaim.holds_of_wide 12 Try.f12 rfl rfl rfl rfl rfl rfl rfl ⟨rfl, rfl, rfl, rfl, rfl⟩ rfl rfl rfl rfl rfl (by kernel_rfl) Try.func12 (by kernel_rfl)
    (of_decide_eq_true (by kernel_rfl)) (by unfold Func.isWrapper; first | (rw [if_pos (by decide +kernel)]; kernel_rfl) | (rw [if_neg (by decide +kernel)]; exact ⟨rfl, rfl⟩))
    (fun os started H enc _ => lifted os started H enc)
theorem proved : Rows.FnShopsSaid := over
#print axioms proved
end Go.Proofs.Ytbkkpllejgedcaa.fnShops
namespace Go.Proofs.Ytbkkpllejgedcaa
theorem fnShops_holds : Rows.FnShopsSaid := fnShops.proved
end Go.Proofs.Ytbkkpllejgedcaa

