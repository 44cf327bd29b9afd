/- How the arguments of the laws of this seat read, type by type. Printed by a program. -/
import Derived.Test.YtobcafjhkimonaaF0
import Derived.Test.YtobcafjhkimonaaQOpen
import Derived.KernelRfl
namespace Go.Proofs.Ytobcafjhkimonaa.Q
open Go.RowKit Go.Proofs.Ytobcafjhkimonaa.P Go.Proofs.YtobcafjhkimonaaW.PrintWords
def good44 (x : S44) : Prop := ((Lit.int .i64 x.f0).wf = true ∧ (Lit.int .i64 x.f1).wf = true)
theorem op44 {w : World} : Opens Try.prog w k44 44 good44 := (Opens.struct (fun x => (⟨x.1, x.2⟩ : S44)) (G := good44) Try.underlying44 (by kernel_rfl) (fun _ => rfl) (OpensFs.more rfl (Opens.int Try.underlying3) rfl (by kernel_rfl) (OpensFs.one rfl (Opens.int Try.underlying3) rfl (by kernel_rfl))) (fun _ h => h))
def good57 (x : S57) : Prop := (((Lit.int .i64 x.f0.f0).wf = true ∧ (Lit.int .i64 x.f0.f1).wf = true) ∧ (Lit.int .i64 x.f1).wf = true ∧ (Lit.int .i64 x.f2).wf = true)
theorem op57 {w : World} : Opens Try.prog w k57 57 good57 := (Opens.struct (fun x => (⟨x.1, x.2.1, x.2.2⟩ : S57)) (G := good57) Try.underlying57 (by kernel_rfl) (fun _ => rfl) (OpensFs.more rfl op44 rfl (by kernel_rfl) (OpensFs.more rfl (Opens.int Try.underlying3) rfl (by kernel_rfl) (OpensFs.one rfl (Opens.int Try.underlying3) rfl (by kernel_rfl)))) (fun _ h => h))
end Go.Proofs.Ytobcafjhkimonaa.Q
