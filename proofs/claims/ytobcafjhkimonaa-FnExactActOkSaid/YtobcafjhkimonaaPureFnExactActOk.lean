/- For every act the law on ActOk answers true: the plain part, over numbers. -/
import Derived.Test.YtobcafjhkimonaaQAct
import Derived.Test.YtobcafjhkimonaaFLawsFnExactActOk
namespace Go.Proofs.Ytobcafjhkimonaa.Pure
set_option linter.unusedVariables false
set_option linter.unusedSimpArgs false
open Go.RowKit Go.Proofs.Ytobcafjhkimonaa.P Go.Proofs.Ytobcafjhkimonaa.Q Go.Proofs.YtobcafjhkimonaaW.PrintWords Go.Proofs.YtobcafjhkimonaaW.PrintLast

theorem FnExactActOk (n a b c : Int) (_ : (Lit.int .i64 n).wf = true ∧ (Lit.int .i64 a).wf = true ∧ (Lit.int .i64 b).wf = true ∧ (Lit.int .i64 c).wf = true) : ∃ k, laws_FnExactActOk.f k n a b c = some true := by
  refine Ev.rounds ?_
  unfold laws_FnExactActOk.f
  refine evb (a := (n, a, b, c)) rfl (Ev.bind (actOk_spec n a b c) (evb (a := (n, a, b, c)) rfl (Ev.bind (actOk_impl n a b c) ?_)))
  exact evn (by simp) (Ev.now _)
end Go.Proofs.Ytobcafjhkimonaa.Pure
