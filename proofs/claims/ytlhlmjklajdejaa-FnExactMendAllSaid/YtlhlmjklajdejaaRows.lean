/-
  No cell of these rows narrows 'for every input' (looked for: loops, veiled, ifaces, maps, wideKeys, modest, calm, conditions, laid).
  DERIVED. THE GIVEN ROWS OF THIS SEAT. 12 by the template 'for every input the law returns true; each argument reads behind the call as it read before'; 0 by the template 'total and deterministic' (their statements: YtlhlmjklajdejaaTotals.lean).
  GIVEN WITH THE SEED: the statements are not yours to turn. If you find one false, say at which input.
  Laid BY PROGRAM, IN A SANDBOX (cutbox-rows.mjs): the forced cells as the released guide's own fill.sh prints them over the translation b71e72db8a980785… (all of the seat's roots in one cut). By AI agents, Wed Nov 11 2026. No macro, syntax, notation, axiom, sorry.
-/
import Derived.Test.YtlhlmjklajdejaaChecked
import GoSem.Claim
import GoSem.ClaimJoined
import GoSem.ClaimMapViews
import Derived.JoinedTies
import Derived.KernelRfl
namespace Go.Proofs.Ytlhlmjklajdejaa
/- THE CELL 'sum', in the pinned program and in every row, IS THE sha256 OF THE DUMP (.gsa) THAT YtlhlmjklajdejaaProg.lean LOADS. Nothing in Lean hashes anything: it is a label: what it is worth is what the hold of that sum in a sandbox is worth. -/
noncomputable def Try.pinned : Pinned := { name := "ytlhlmjklajdejaa", sum := "b71e72db8a98078533907ff81dd63dd6279762c8b61ca69e6030cafca3bcd366", checked := Try.checked }
namespace Rows
def none {H : Type} : Left H := { results := [], args := [] }

/-- 'laws.FnExactWorkOk': WHATEVER THE INPUT: true; the input reads as it did. -/
def fnExactWorkOkSpec : ChangeSpec := { name := "fnExactWorkOk", fn := fun _ => fun
  | [d] => { results := [.lit (.bool true)], args := [d] }
  | _ => none }
def fnExactWorkOkRow : OpenClaim := { program := "ytlhlmjklajdejaa", sum := "b71e72db8a98078533907ff81dd63dd6279762c8b61ca69e6030cafca3bcd366", func := "loop.example/g00989/laws.FnExactWorkOk", spec := "fnExactWorkOk", apart := false }
def FnExactWorkOkSaid : Prop := fnExactWorkOkRow.holds Try.pinned (OpenSpec.ofChange fnExactWorkOkSpec)

/-- ITS FALSE NEIGHBOUR: 'it returns false'. Refute it at one input. -/
def fnExactWorkOkWrong : ChangeSpec := { name := "fnExactWorkOk", fn := fun _ => fun
  | [d] => { results := [.lit (.bool false)], args := [d] }
  | _ => none }
def FnExactWorkOkWrongFalsely : Prop := fnExactWorkOkRow.holds Try.pinned (OpenSpec.ofChange fnExactWorkOkWrong)

/-- 'laws.FnExactIsFinished': WHATEVER THE INPUT: true; the input reads as it did. -/
def fnExactIsFinishedSpec : ChangeSpec := { name := "fnExactIsFinished", fn := fun _ => fun
  | [d] => { results := [.lit (.bool true)], args := [d] }
  | _ => none }
def fnExactIsFinishedRow : OpenClaim := { program := "ytlhlmjklajdejaa", sum := "b71e72db8a98078533907ff81dd63dd6279762c8b61ca69e6030cafca3bcd366", func := "loop.example/g00989/laws.FnExactIsFinished", spec := "fnExactIsFinished", apart := false }
def FnExactIsFinishedSaid : Prop := fnExactIsFinishedRow.holds Try.pinned (OpenSpec.ofChange fnExactIsFinishedSpec)

/-- ITS FALSE NEIGHBOUR: 'it returns false'. Refute it at one input. -/
def fnExactIsFinishedWrong : ChangeSpec := { name := "fnExactIsFinished", fn := fun _ => fun
  | [d] => { results := [.lit (.bool false)], args := [d] }
  | _ => none }
def FnExactIsFinishedWrongFalsely : Prop := fnExactIsFinishedRow.holds Try.pinned (OpenSpec.ofChange fnExactIsFinishedWrong)

/-- 'laws.FnExactNewWork': WHATEVER THE INPUT: true; the input reads as it did. -/
def fnExactNewWorkSpec : ChangeSpec := { name := "fnExactNewWork", fn := fun _ => fun
  | [d1, d2] => { results := [.lit (.bool true)], args := [d1, d2] }
  | _ => none }
def fnExactNewWorkRow : OpenClaim := { program := "ytlhlmjklajdejaa", sum := "b71e72db8a98078533907ff81dd63dd6279762c8b61ca69e6030cafca3bcd366", func := "loop.example/g00989/laws.FnExactNewWork", spec := "fnExactNewWork", apart := false }
def FnExactNewWorkSaid : Prop := fnExactNewWorkRow.holds Try.pinned (OpenSpec.ofChange fnExactNewWorkSpec)

/-- ITS FALSE NEIGHBOUR: 'it returns false'. Refute it at one input. -/
def fnExactNewWorkWrong : ChangeSpec := { name := "fnExactNewWork", fn := fun _ => fun
  | [d1, d2] => { results := [.lit (.bool false)], args := [d1, d2] }
  | _ => none }
def FnExactNewWorkWrongFalsely : Prop := fnExactNewWorkRow.holds Try.pinned (OpenSpec.ofChange fnExactNewWorkWrong)

/-- 'laws.FnExactKnockKey': WHATEVER THE INPUT: true; the input reads as it did. -/
def fnExactKnockKeySpec : ChangeSpec := { name := "fnExactKnockKey", fn := fun _ => fun
  | [d1, d2, d3] => { results := [.lit (.bool true)], args := [d1, d2, d3] }
  | _ => none }
def fnExactKnockKeyRow : OpenClaim := { program := "ytlhlmjklajdejaa", sum := "b71e72db8a98078533907ff81dd63dd6279762c8b61ca69e6030cafca3bcd366", func := "loop.example/g00989/laws.FnExactKnockKey", spec := "fnExactKnockKey", apart := false }
def FnExactKnockKeySaid : Prop := fnExactKnockKeyRow.holds Try.pinned (OpenSpec.ofChange fnExactKnockKeySpec)

/-- ITS FALSE NEIGHBOUR: 'it returns false'. Refute it at one input. -/
def fnExactKnockKeyWrong : ChangeSpec := { name := "fnExactKnockKey", fn := fun _ => fun
  | [d1, d2, d3] => { results := [.lit (.bool false)], args := [d1, d2, d3] }
  | _ => none }
def FnExactKnockKeyWrongFalsely : Prop := fnExactKnockKeyRow.holds Try.pinned (OpenSpec.ofChange fnExactKnockKeyWrong)

/-- 'laws.FnExactClosingGap': WHATEVER THE INPUT: true; the input reads as it did. -/
def fnExactClosingGapSpec : ChangeSpec := { name := "fnExactClosingGap", fn := fun _ => fun
  | [d] => { results := [.lit (.bool true)], args := [d] }
  | _ => none }
def fnExactClosingGapRow : OpenClaim := { program := "ytlhlmjklajdejaa", sum := "b71e72db8a98078533907ff81dd63dd6279762c8b61ca69e6030cafca3bcd366", func := "loop.example/g00989/laws.FnExactClosingGap", spec := "fnExactClosingGap", apart := false }
def FnExactClosingGapSaid : Prop := fnExactClosingGapRow.holds Try.pinned (OpenSpec.ofChange fnExactClosingGapSpec)

/-- ITS FALSE NEIGHBOUR: 'it returns false'. Refute it at one input. -/
def fnExactClosingGapWrong : ChangeSpec := { name := "fnExactClosingGap", fn := fun _ => fun
  | [d] => { results := [.lit (.bool false)], args := [d] }
  | _ => none }
def FnExactClosingGapWrongFalsely : Prop := fnExactClosingGapRow.holds Try.pinned (OpenSpec.ofChange fnExactClosingGapWrong)

/-- 'laws.FnExactWrongSteps': WHATEVER THE INPUT: true; the input reads as it did. -/
def fnExactWrongStepsSpec : ChangeSpec := { name := "fnExactWrongSteps", fn := fun _ => fun
  | [d] => { results := [.lit (.bool true)], args := [d] }
  | _ => none }
def fnExactWrongStepsRow : OpenClaim := { program := "ytlhlmjklajdejaa", sum := "b71e72db8a98078533907ff81dd63dd6279762c8b61ca69e6030cafca3bcd366", func := "loop.example/g00989/laws.FnExactWrongSteps", spec := "fnExactWrongSteps", apart := false }
def FnExactWrongStepsSaid : Prop := fnExactWrongStepsRow.holds Try.pinned (OpenSpec.ofChange fnExactWrongStepsSpec)

/-- ITS FALSE NEIGHBOUR: 'it returns false'. Refute it at one input. -/
def fnExactWrongStepsWrong : ChangeSpec := { name := "fnExactWrongSteps", fn := fun _ => fun
  | [d] => { results := [.lit (.bool false)], args := [d] }
  | _ => none }
def FnExactWrongStepsWrongFalsely : Prop := fnExactWrongStepsRow.holds Try.pinned (OpenSpec.ofChange fnExactWrongStepsWrong)

/-- 'laws.FnExactWorkStep': WHATEVER THE INPUT: true; the input reads as it did. -/
def fnExactWorkStepSpec : ChangeSpec := { name := "fnExactWorkStep", fn := fun _ => fun
  | [d] => { results := [.lit (.bool true)], args := [d] }
  | _ => none }
def fnExactWorkStepRow : OpenClaim := { program := "ytlhlmjklajdejaa", sum := "b71e72db8a98078533907ff81dd63dd6279762c8b61ca69e6030cafca3bcd366", func := "loop.example/g00989/laws.FnExactWorkStep", spec := "fnExactWorkStep", apart := false }
def FnExactWorkStepSaid : Prop := fnExactWorkStepRow.holds Try.pinned (OpenSpec.ofChange fnExactWorkStepSpec)

/-- ITS FALSE NEIGHBOUR: 'it returns false'. Refute it at one input. -/
def fnExactWorkStepWrong : ChangeSpec := { name := "fnExactWorkStep", fn := fun _ => fun
  | [d] => { results := [.lit (.bool false)], args := [d] }
  | _ => none }
def FnExactWorkStepWrongFalsely : Prop := fnExactWorkStepRow.holds Try.pinned (OpenSpec.ofChange fnExactWorkStepWrong)

/-- 'laws.FnExactWorkSteps': WHATEVER THE INPUT: true; the input reads as it did. -/
def fnExactWorkStepsSpec : ChangeSpec := { name := "fnExactWorkSteps", fn := fun _ => fun
  | [d1, d2] => { results := [.lit (.bool true)], args := [d1, d2] }
  | _ => none }
def fnExactWorkStepsRow : OpenClaim := { program := "ytlhlmjklajdejaa", sum := "b71e72db8a98078533907ff81dd63dd6279762c8b61ca69e6030cafca3bcd366", func := "loop.example/g00989/laws.FnExactWorkSteps", spec := "fnExactWorkSteps", apart := false }
def FnExactWorkStepsSaid : Prop := fnExactWorkStepsRow.holds Try.pinned (OpenSpec.ofChange fnExactWorkStepsSpec)

/-- ITS FALSE NEIGHBOUR: 'it returns false'. Refute it at one input. -/
def fnExactWorkStepsWrong : ChangeSpec := { name := "fnExactWorkSteps", fn := fun _ => fun
  | [d1, d2] => { results := [.lit (.bool false)], args := [d1, d2] }
  | _ => none }
def FnExactWorkStepsWrongFalsely : Prop := fnExactWorkStepsRow.holds Try.pinned (OpenSpec.ofChange fnExactWorkStepsWrong)

/-- 'laws.FnExactMendStep': WHATEVER THE INPUT: true; the input reads as it did. -/
def fnExactMendStepSpec : ChangeSpec := { name := "fnExactMendStep", fn := fun _ => fun
  | [d] => { results := [.lit (.bool true)], args := [d] }
  | _ => none }
def fnExactMendStepRow : OpenClaim := { program := "ytlhlmjklajdejaa", sum := "b71e72db8a98078533907ff81dd63dd6279762c8b61ca69e6030cafca3bcd366", func := "loop.example/g00989/laws.FnExactMendStep", spec := "fnExactMendStep", apart := false }
def FnExactMendStepSaid : Prop := fnExactMendStepRow.holds Try.pinned (OpenSpec.ofChange fnExactMendStepSpec)

/-- ITS FALSE NEIGHBOUR: 'it returns false'. Refute it at one input. -/
def fnExactMendStepWrong : ChangeSpec := { name := "fnExactMendStep", fn := fun _ => fun
  | [d] => { results := [.lit (.bool false)], args := [d] }
  | _ => none }
def FnExactMendStepWrongFalsely : Prop := fnExactMendStepRow.holds Try.pinned (OpenSpec.ofChange fnExactMendStepWrong)

/-- 'laws.FnExactMendAll': WHATEVER THE INPUT: true; the input reads as it did. -/
def fnExactMendAllSpec : ChangeSpec := { name := "fnExactMendAll", fn := fun _ => fun
  | [d] => { results := [.lit (.bool true)], args := [d] }
  | _ => none }
def fnExactMendAllRow : OpenClaim := { program := "ytlhlmjklajdejaa", sum := "b71e72db8a98078533907ff81dd63dd6279762c8b61ca69e6030cafca3bcd366", func := "loop.example/g00989/laws.FnExactMendAll", spec := "fnExactMendAll", apart := false }
def FnExactMendAllSaid : Prop := fnExactMendAllRow.holds Try.pinned (OpenSpec.ofChange fnExactMendAllSpec)

/-- ITS FALSE NEIGHBOUR: 'it returns false'. Refute it at one input. -/
def fnExactMendAllWrong : ChangeSpec := { name := "fnExactMendAll", fn := fun _ => fun
  | [d] => { results := [.lit (.bool false)], args := [d] }
  | _ => none }
def FnExactMendAllWrongFalsely : Prop := fnExactMendAllRow.holds Try.pinned (OpenSpec.ofChange fnExactMendAllWrong)

/-- 'laws.FnParts': WHATEVER THE INPUT: true; the input reads as it did. -/
def fnPartsSpec : ChangeSpec := { name := "fnParts", fn := fun _ => fun
  | [d] => { results := [.lit (.bool true)], args := [d] }
  | _ => none }
def fnPartsRow : OpenClaim := { program := "ytlhlmjklajdejaa", sum := "b71e72db8a98078533907ff81dd63dd6279762c8b61ca69e6030cafca3bcd366", func := "loop.example/g00989/laws.FnParts", spec := "fnParts", apart := false }
def FnPartsSaid : Prop := fnPartsRow.holds Try.pinned (OpenSpec.ofChange fnPartsSpec)

/-- ITS FALSE NEIGHBOUR: 'it returns false'. Refute it at one input. -/
def fnPartsWrong : ChangeSpec := { name := "fnParts", fn := fun _ => fun
  | [d] => { results := [.lit (.bool false)], args := [d] }
  | _ => none }
def FnPartsWrongFalsely : Prop := fnPartsRow.holds Try.pinned (OpenSpec.ofChange fnPartsWrong)

/-- 'laws.FnMends': WHATEVER THE INPUT: true; the input reads as it did. -/
def fnMendsSpec : ChangeSpec := { name := "fnMends", fn := fun _ => fun
  | [d] => { results := [.lit (.bool true)], args := [d] }
  | _ => none }
def fnMendsRow : OpenClaim := { program := "ytlhlmjklajdejaa", sum := "b71e72db8a98078533907ff81dd63dd6279762c8b61ca69e6030cafca3bcd366", func := "loop.example/g00989/laws.FnMends", spec := "fnMends", apart := false }
def FnMendsSaid : Prop := fnMendsRow.holds Try.pinned (OpenSpec.ofChange fnMendsSpec)

/-- ITS FALSE NEIGHBOUR: 'it returns false'. Refute it at one input. -/
def fnMendsWrong : ChangeSpec := { name := "fnMends", fn := fun _ => fun
  | [d] => { results := [.lit (.bool false)], args := [d] }
  | _ => none }
def FnMendsWrongFalsely : Prop := fnMendsRow.holds Try.pinned (OpenSpec.ofChange fnMendsWrong)

/- THE SECOND FORM. 'bulk': how many values and letters a reading holds, each counted each time it is reached (what is shared counts as often as it is met; a slice's spare places count too). A statement '..UptoSaid' is the law's where the arguments, and the package variables that the reading takes, are together of bulk at most 1048576: NARROWER than '..Said'. Prove '..Said' where nothing that the law and all that it calls make is longer than what came in: it says more and counts as full. Else prove '..UptoSaid'. A law counts once. -/
mutual
def uptoBulk {H : Type} : DataW H → Nat
  | .lit (.string bytes) => bytes.length + 1
  | .lit _ => 1
  | .nil => 1
  | .ptr d => uptoBulk d + 1
  | .slice elems spare => uptoBulkAll elems + uptoBulkAll spare + 1
  | .agg parts => uptoBulkAll parts + 1
  | .iface _ d => uptoBulk d + 1
  | .map entries => uptoBulkEntries entries + 1
  | .held _ => 1
def uptoBulkAll {H : Type} : List (DataW H) → Nat
  | [] => 0
  | d :: r => uptoBulk d + uptoBulkAll r
def uptoBulkEntries {H : Type} : List (Lit × DataW H) → Nat
  | [] => 0
  | x :: r => uptoBulkEntry x + uptoBulkEntries r
def uptoBulkEntry {H : Type} : Lit × DataW H → Nat
  | (.string bytes, d) => bytes.length + uptoBulk d + 1
  | (_, d) => uptoBulk d + 1
 end
def uptoSmall : (H : Type) → List (DataW H) → Bool := fun _ ds => decide (uptoBulkAll ds ≤ 1048576)
def OpenSpec.upto (s : _root_.Go.ChangeSpec) : _root_.Go.OpenSpec := { _root_.Go.OpenSpec.ofChange s with cond := some uptoSmall }

/-- 'laws.FnExactWorkOk', WHERE WHAT IT READS IS OF BULK AT MOST 1048576: true; the input reads as it did. -/
def fnExactWorkOkUptoRow : OpenClaim := { program := "ytlhlmjklajdejaa", sum := "b71e72db8a98078533907ff81dd63dd6279762c8b61ca69e6030cafca3bcd366", func := "loop.example/g00989/laws.FnExactWorkOk", spec := "fnExactWorkOk", apart := false, narrowed := true }
def FnExactWorkOkUptoSaid : Prop := fnExactWorkOkUptoRow.holds Try.pinned (OpenSpec.upto fnExactWorkOkSpec)

/-- 'laws.FnExactIsFinished', WHERE WHAT IT READS IS OF BULK AT MOST 1048576: true; the input reads as it did. -/
def fnExactIsFinishedUptoRow : OpenClaim := { program := "ytlhlmjklajdejaa", sum := "b71e72db8a98078533907ff81dd63dd6279762c8b61ca69e6030cafca3bcd366", func := "loop.example/g00989/laws.FnExactIsFinished", spec := "fnExactIsFinished", apart := false, narrowed := true }
def FnExactIsFinishedUptoSaid : Prop := fnExactIsFinishedUptoRow.holds Try.pinned (OpenSpec.upto fnExactIsFinishedSpec)

/-- 'laws.FnExactNewWork', WHERE WHAT IT READS IS OF BULK AT MOST 1048576: true; the input reads as it did. -/
def fnExactNewWorkUptoRow : OpenClaim := { program := "ytlhlmjklajdejaa", sum := "b71e72db8a98078533907ff81dd63dd6279762c8b61ca69e6030cafca3bcd366", func := "loop.example/g00989/laws.FnExactNewWork", spec := "fnExactNewWork", apart := false, narrowed := true }
def FnExactNewWorkUptoSaid : Prop := fnExactNewWorkUptoRow.holds Try.pinned (OpenSpec.upto fnExactNewWorkSpec)

/-- 'laws.FnExactKnockKey', WHERE WHAT IT READS IS OF BULK AT MOST 1048576: true; the input reads as it did. -/
def fnExactKnockKeyUptoRow : OpenClaim := { program := "ytlhlmjklajdejaa", sum := "b71e72db8a98078533907ff81dd63dd6279762c8b61ca69e6030cafca3bcd366", func := "loop.example/g00989/laws.FnExactKnockKey", spec := "fnExactKnockKey", apart := false, narrowed := true }
def FnExactKnockKeyUptoSaid : Prop := fnExactKnockKeyUptoRow.holds Try.pinned (OpenSpec.upto fnExactKnockKeySpec)

/-- 'laws.FnExactClosingGap', WHERE WHAT IT READS IS OF BULK AT MOST 1048576: true; the input reads as it did. -/
def fnExactClosingGapUptoRow : OpenClaim := { program := "ytlhlmjklajdejaa", sum := "b71e72db8a98078533907ff81dd63dd6279762c8b61ca69e6030cafca3bcd366", func := "loop.example/g00989/laws.FnExactClosingGap", spec := "fnExactClosingGap", apart := false, narrowed := true }
def FnExactClosingGapUptoSaid : Prop := fnExactClosingGapUptoRow.holds Try.pinned (OpenSpec.upto fnExactClosingGapSpec)

/-- 'laws.FnExactWrongSteps', WHERE WHAT IT READS IS OF BULK AT MOST 1048576: true; the input reads as it did. -/
def fnExactWrongStepsUptoRow : OpenClaim := { program := "ytlhlmjklajdejaa", sum := "b71e72db8a98078533907ff81dd63dd6279762c8b61ca69e6030cafca3bcd366", func := "loop.example/g00989/laws.FnExactWrongSteps", spec := "fnExactWrongSteps", apart := false, narrowed := true }
def FnExactWrongStepsUptoSaid : Prop := fnExactWrongStepsUptoRow.holds Try.pinned (OpenSpec.upto fnExactWrongStepsSpec)

/-- 'laws.FnExactWorkStep', WHERE WHAT IT READS IS OF BULK AT MOST 1048576: true; the input reads as it did. -/
def fnExactWorkStepUptoRow : OpenClaim := { program := "ytlhlmjklajdejaa", sum := "b71e72db8a98078533907ff81dd63dd6279762c8b61ca69e6030cafca3bcd366", func := "loop.example/g00989/laws.FnExactWorkStep", spec := "fnExactWorkStep", apart := false, narrowed := true }
def FnExactWorkStepUptoSaid : Prop := fnExactWorkStepUptoRow.holds Try.pinned (OpenSpec.upto fnExactWorkStepSpec)

/-- 'laws.FnExactWorkSteps', WHERE WHAT IT READS IS OF BULK AT MOST 1048576: true; the input reads as it did. -/
def fnExactWorkStepsUptoRow : OpenClaim := { program := "ytlhlmjklajdejaa", sum := "b71e72db8a98078533907ff81dd63dd6279762c8b61ca69e6030cafca3bcd366", func := "loop.example/g00989/laws.FnExactWorkSteps", spec := "fnExactWorkSteps", apart := false, narrowed := true }
def FnExactWorkStepsUptoSaid : Prop := fnExactWorkStepsUptoRow.holds Try.pinned (OpenSpec.upto fnExactWorkStepsSpec)

/-- 'laws.FnExactMendStep', WHERE WHAT IT READS IS OF BULK AT MOST 1048576: true; the input reads as it did. -/
def fnExactMendStepUptoRow : OpenClaim := { program := "ytlhlmjklajdejaa", sum := "b71e72db8a98078533907ff81dd63dd6279762c8b61ca69e6030cafca3bcd366", func := "loop.example/g00989/laws.FnExactMendStep", spec := "fnExactMendStep", apart := false, narrowed := true }
def FnExactMendStepUptoSaid : Prop := fnExactMendStepUptoRow.holds Try.pinned (OpenSpec.upto fnExactMendStepSpec)

/-- 'laws.FnExactMendAll', WHERE WHAT IT READS IS OF BULK AT MOST 1048576: true; the input reads as it did. -/
def fnExactMendAllUptoRow : OpenClaim := { program := "ytlhlmjklajdejaa", sum := "b71e72db8a98078533907ff81dd63dd6279762c8b61ca69e6030cafca3bcd366", func := "loop.example/g00989/laws.FnExactMendAll", spec := "fnExactMendAll", apart := false, narrowed := true }
def FnExactMendAllUptoSaid : Prop := fnExactMendAllUptoRow.holds Try.pinned (OpenSpec.upto fnExactMendAllSpec)

/-- 'laws.FnParts', WHERE WHAT IT READS IS OF BULK AT MOST 1048576: true; the input reads as it did. -/
def fnPartsUptoRow : OpenClaim := { program := "ytlhlmjklajdejaa", sum := "b71e72db8a98078533907ff81dd63dd6279762c8b61ca69e6030cafca3bcd366", func := "loop.example/g00989/laws.FnParts", spec := "fnParts", apart := false, narrowed := true }
def FnPartsUptoSaid : Prop := fnPartsUptoRow.holds Try.pinned (OpenSpec.upto fnPartsSpec)

/-- 'laws.FnMends', WHERE WHAT IT READS IS OF BULK AT MOST 1048576: true; the input reads as it did. -/
def fnMendsUptoRow : OpenClaim := { program := "ytlhlmjklajdejaa", sum := "b71e72db8a98078533907ff81dd63dd6279762c8b61ca69e6030cafca3bcd366", func := "loop.example/g00989/laws.FnMends", spec := "fnMends", apart := false, narrowed := true }
def FnMendsUptoSaid : Prop := fnMendsUptoRow.holds Try.pinned (OpenSpec.upto fnMendsSpec)

end Rows
end Go.Proofs.Ytlhlmjklajdejaa
