/- The range tests of the program and of the reference. -/
import Derived.Test.YtobcafjhkimonaaQKit
import Derived.Test.YtobcafjhkimonaaFSpecL01In
import Derived.Test.YtobcafjhkimonaaFImplWithin
namespace Go.Proofs.Ytobcafjhkimonaa.Q
set_option linter.unusedVariables false
set_option linter.unusedSimpArgs false
open Go.RowKit Go.Proofs.Ytobcafjhkimonaa.P Go.Proofs.YtobcafjhkimonaaW.PrintWords

theorem within_eq (a b c : Int) : impl_within.f a b c = some (decide (b ≤ a ∧ a ≤ c)) := by
  unfold impl_within.f; by_cases h : b ≤ a <;> simp [h]
theorem l01In_eq (a b c : Int) : spec_l01In.f a b c = some (decide (b ≤ a ∧ a ≤ c)) := by
  unfold spec_l01In.f; by_cases h : a ≥ b
  · rw [if_pos h]; simp [show b ≤ a from h]
  · rw [if_neg h]; simp [show ¬ b ≤ a from h]
end Go.Proofs.Ytobcafjhkimonaa.Q
