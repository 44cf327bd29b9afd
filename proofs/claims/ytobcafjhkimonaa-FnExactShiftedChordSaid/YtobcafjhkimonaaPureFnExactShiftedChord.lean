/- For every argument the law on ShiftedChord answers true: the plain part, over numbers and lists. -/
import Derived.Test.YtobcafjhkimonaaQInts
import Derived.Test.YtobcafjhkimonaaQBest
import Derived.Test.YtobcafjhkimonaaFLawsFnExactShiftedChord
namespace Go.Proofs.Ytobcafjhkimonaa.Pure
set_option linter.unusedVariables false
set_option linter.unusedSimpArgs false
open Go.RowKit Go.Proofs.Ytobcafjhkimonaa.P Go.Proofs.Ytobcafjhkimonaa.Q Go.Proofs.YtobcafjhkimonaaW.PrintWords Go.Proofs.YtobcafjhkimonaaW.PrintLast

theorem FnExactShiftedChord : laws_FnExactShiftedChord.Pure := by
  intro l0 a1 _ _ _ _
  refine Ev.rounds ?_
  unfold laws_FnExactShiftedChord.f
  refine evi (fun h => Ev.now _) (fun h => ?_)
  have n0 : l0.length ≤ 1048576 := by omega
  have hc : (schord l0 a1).length ≤ 1048576 := by
    unfold schord; split
    · simpa using n0
    · simp
  have E := eqIntS_ev (schord l0 a1) (by omega)
  refine Ev.bind (toIntS_ev l0 n0) (Ev.bind (chord_spec l0 a1 n0) (Ev.bind (toIntS_ev l0 n0) (Ev.bind (chord_impl l0 a1 n0) (Ev.bind E ?_))))
  refine evp rfl (Ev.bind (toIntS_ev l0 n0) (Ev.bind (eqIntS_ev l0 (by omega)) ?_))
  refine evp rfl (Ev.bind (markIntS_ev l0 1 (by omega) (by omega)) ?_)
  refine evn (by simp only []; omega) (Ev.bind E ?_)
  refine Ev.step (fun k => by rw [laws_FnExactShiftedChord.j0]) (evn (by simp) ?_)
  refine Ev.bind (markIntS_ev (schord l0 a1) 1 (by omega) (by omega)) ?_
  have H := heldIntS_ev (schord l0 a1).length 1 (by omega) (by omega)
  refine Ev.bind H (evn (by omega) (evp rfl ?_))
  refine Ev.bind (toIntS_ev l0 n0) (Ev.bind (chord_impl l0 a1 n0) (Ev.bind E ?_))
  refine evp rfl (Ev.bind H ?_)
  exact evn (by omega) (evp rfl (Ev.now _))

end Go.Proofs.Ytobcafjhkimonaa.Pure
