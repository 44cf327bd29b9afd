/- For every log the law on LogOk answers true: the plain part, over numbers and lists. -/
import Derived.Test.YtobcafjhkimonaaQLog
import Derived.Test.YtobcafjhkimonaaQTypes
import Derived.Test.YtobcafjhkimonaaFLawsFnExactLogOk
namespace Go.Proofs.Ytobcafjhkimonaa.Pure
set_option linter.unusedVariables false
set_option linter.unusedSimpArgs false
open Go.RowKit Go.Proofs.Ytobcafjhkimonaa.P Go.Proofs.Ytobcafjhkimonaa.Q Go.Proofs.YtobcafjhkimonaaW.PrintWords Go.Proofs.YtobcafjhkimonaaW.PrintLast

theorem FnExactLogOk (l0 : List S57) (h0 : l0.length ≤ 9223372036854775807 ∧ ∀ y ∈ l0, good57 y) : ∃ k, laws_FnExactLogOk.f k l0 = some true := by
  refine Ev.rounds ?_
  unfold laws_FnExactLogOk.f
  refine evb (szEntryS_eq l0 1048576 (by omega) (by omega) h0.1) ?_
  by_cases h : (1048576 : Int) < l0.length
  · rw [if_pos h]; exact evp (by omega) (Ev.now _)
  rw [if_neg h]
  refine evn (by omega) ?_
  have T := toEntryS_ev l0 (by omega)
  have hl : (l0.map cEntry).length ≤ 1048577 := by simp; omega
  refine Ev.bind T (Ev.bind (logOk_spec _ hl) (Ev.bind T (Ev.bind (logOk_impl _ hl) ?_)))
  refine evn (by simp) (Ev.bind T (Ev.bind (eqEntryS_ev _ (by omega)) ?_))
  exact evp rfl (Ev.now _)
end Go.Proofs.Ytobcafjhkimonaa.Pure
