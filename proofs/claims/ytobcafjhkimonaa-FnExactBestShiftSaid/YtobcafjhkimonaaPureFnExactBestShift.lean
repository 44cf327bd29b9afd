/- For every argument the law on BestShift answers true: the plain part, over numbers and lists. -/
import Derived.Test.YtobcafjhkimonaaQInts
import Derived.Test.YtobcafjhkimonaaQBest
import Derived.Test.YtobcafjhkimonaaFLawsFnExactBestShift
namespace Go.Proofs.Ytobcafjhkimonaa.Pure
set_option linter.unusedVariables false
set_option linter.unusedSimpArgs false
open Go.RowKit Go.Proofs.Ytobcafjhkimonaa.P Go.Proofs.Ytobcafjhkimonaa.Q Go.Proofs.YtobcafjhkimonaaW.PrintWords Go.Proofs.YtobcafjhkimonaaW.PrintLast

theorem FnExactBestShift : laws_FnExactBestShift.Pure := by
  intro l0 l1 _ _ _ _ _ _
  refine Ev.rounds ?_
  unfold laws_FnExactBestShift.f
  refine evi (fun h => Ev.now _) (fun h => evi (fun h1 => Ev.now _) (fun h1 => ?_))
  have n0 : l0.length ≤ 1048576 := by omega
  have n1 : l1.length ≤ 1048576 := by omega
  refine Ev.bind (toIntS_ev l0 n0) (Ev.bind (toIntS_ev l1 n1) (Ev.bind (best_spec l0 l1 n0 n1) (Ev.bind (toIntS_ev l0 n0) (Ev.bind (toIntS_ev l1 n1) (Ev.bind (best_impl l0 l1 n0 n1) ?_)))))
  refine evp rfl (Ev.bind (toIntS_ev l0 n0) (Ev.bind (eqIntS_ev l0 (by omega)) ?_))
  refine evp rfl (Ev.bind (toIntS_ev l1 n1) (Ev.bind (eqIntS_ev l1 (by omega)) ?_))
  exact evp rfl (Ev.now _)

end Go.Proofs.Ytobcafjhkimonaa.Pure
