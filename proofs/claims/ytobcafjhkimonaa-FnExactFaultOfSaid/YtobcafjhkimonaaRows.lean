/-
  No cell of these rows narrows 'for every input' (looked for: loops, veiled, ifaces, maps, wideKeys, modest, calm, conditions, laid).
  DERIVED. THE GIVEN ROWS OF THIS SEAT. 6 by the template 'for every input the law returns true; each argument reads behind the call as it read before'; 0 by the template 'total and deterministic' (their statements: YtobcafjhkimonaaTotals.lean).
  GIVEN WITH THE SEED: the statements are not yours to turn. If you find one false, say at which input.
  Laid BY PROGRAM, IN A SANDBOX (cutbox-rows.mjs): the forced cells as the released guide's own fill.sh prints them over the translation d02675f68832ced9… (all of the seat's roots in one cut). By AI agents, Wed Nov 11 2026. No macro, syntax, notation, axiom, sorry.
-/
import Derived.Test.YtobcafjhkimonaaChecked
import GoSem.Claim
import GoSem.ClaimJoined
import GoSem.ClaimMapViews
import Derived.JoinedTies
import Derived.KernelRfl
namespace Go.Proofs.Ytobcafjhkimonaa
/- THE CELL 'sum', in the pinned program and in every row, IS THE sha256 OF THE DUMP (.gsa) THAT YtobcafjhkimonaaProg.lean LOADS. Nothing in Lean hashes anything: it is a label: what it is worth is what the hold of that sum in a sandbox is worth. -/
noncomputable def Try.pinned : Pinned := { name := "ytobcafjhkimonaa", sum := "d02675f68832ced90c07f176fcd8fdbe431d27a14921e8e4cd332d284ef2c560", checked := Try.checked }
namespace Rows
def none {H : Type} : Left H := { results := [], args := [] }

/-- 'laws.FnExactActOk': WHATEVER THE INPUT: true; the input reads as it did. -/
def fnExactActOkSpec : ChangeSpec := { name := "fnExactActOk", fn := fun _ => fun
  | [d] => { results := [.lit (.bool true)], args := [d] }
  | _ => none }
def fnExactActOkRow : OpenClaim := { program := "ytobcafjhkimonaa", sum := "d02675f68832ced90c07f176fcd8fdbe431d27a14921e8e4cd332d284ef2c560", func := "loop.example/g00989/laws.FnExactActOk", spec := "fnExactActOk", plainKeys := false, apart := false }
def FnExactActOkSaid : Prop := fnExactActOkRow.holds Try.pinned (OpenSpec.ofChange fnExactActOkSpec)

/-- ITS FALSE NEIGHBOUR: 'it returns false'. Refute it at one input. -/
def fnExactActOkWrong : ChangeSpec := { name := "fnExactActOk", fn := fun _ => fun
  | [d] => { results := [.lit (.bool false)], args := [d] }
  | _ => none }
def FnExactActOkWrongFalsely : Prop := fnExactActOkRow.holds Try.pinned (OpenSpec.ofChange fnExactActOkWrong)

/-- 'laws.FnExactShiftedChord': WHATEVER THE INPUT: true; the input reads as it did. -/
def fnExactShiftedChordSpec : ChangeSpec := { name := "fnExactShiftedChord", fn := fun _ => fun
  | [d1, d2] => { results := [.lit (.bool true)], args := [d1, d2] }
  | _ => none }
def fnExactShiftedChordRow : OpenClaim := { program := "ytobcafjhkimonaa", sum := "d02675f68832ced90c07f176fcd8fdbe431d27a14921e8e4cd332d284ef2c560", func := "loop.example/g00989/laws.FnExactShiftedChord", spec := "fnExactShiftedChord", plainKeys := false, apart := false }
def FnExactShiftedChordSaid : Prop := fnExactShiftedChordRow.holds Try.pinned (OpenSpec.ofChange fnExactShiftedChordSpec)

/-- ITS FALSE NEIGHBOUR: 'it returns false'. Refute it at one input. -/
def fnExactShiftedChordWrong : ChangeSpec := { name := "fnExactShiftedChord", fn := fun _ => fun
  | [d1, d2] => { results := [.lit (.bool false)], args := [d1, d2] }
  | _ => none }
def FnExactShiftedChordWrongFalsely : Prop := fnExactShiftedChordRow.holds Try.pinned (OpenSpec.ofChange fnExactShiftedChordWrong)

/-- 'laws.FnExactShiftCost': WHATEVER THE INPUT: true; the input reads as it did. -/
def fnExactShiftCostSpec : ChangeSpec := { name := "fnExactShiftCost", fn := fun _ => fun
  | [d1, d2, d3] => { results := [.lit (.bool true)], args := [d1, d2, d3] }
  | _ => none }
def fnExactShiftCostRow : OpenClaim := { program := "ytobcafjhkimonaa", sum := "d02675f68832ced90c07f176fcd8fdbe431d27a14921e8e4cd332d284ef2c560", func := "loop.example/g00989/laws.FnExactShiftCost", spec := "fnExactShiftCost", plainKeys := false, apart := false }
def FnExactShiftCostSaid : Prop := fnExactShiftCostRow.holds Try.pinned (OpenSpec.ofChange fnExactShiftCostSpec)

/-- ITS FALSE NEIGHBOUR: 'it returns false'. Refute it at one input. -/
def fnExactShiftCostWrong : ChangeSpec := { name := "fnExactShiftCost", fn := fun _ => fun
  | [d1, d2, d3] => { results := [.lit (.bool false)], args := [d1, d2, d3] }
  | _ => none }
def FnExactShiftCostWrongFalsely : Prop := fnExactShiftCostRow.holds Try.pinned (OpenSpec.ofChange fnExactShiftCostWrong)

/-- 'laws.FnExactLogOk': WHATEVER THE INPUT: true; the input reads as it did. -/
def fnExactLogOkSpec : ChangeSpec := { name := "fnExactLogOk", fn := fun _ => fun
  | [d] => { results := [.lit (.bool true)], args := [d] }
  | _ => none }
def fnExactLogOkRow : OpenClaim := { program := "ytobcafjhkimonaa", sum := "d02675f68832ced90c07f176fcd8fdbe431d27a14921e8e4cd332d284ef2c560", func := "loop.example/g00989/laws.FnExactLogOk", spec := "fnExactLogOk", plainKeys := false, apart := false }
def FnExactLogOkSaid : Prop := fnExactLogOkRow.holds Try.pinned (OpenSpec.ofChange fnExactLogOkSpec)

/-- ITS FALSE NEIGHBOUR: 'it returns false'. Refute it at one input. -/
def fnExactLogOkWrong : ChangeSpec := { name := "fnExactLogOk", fn := fun _ => fun
  | [d] => { results := [.lit (.bool false)], args := [d] }
  | _ => none }
def FnExactLogOkWrongFalsely : Prop := fnExactLogOkRow.holds Try.pinned (OpenSpec.ofChange fnExactLogOkWrong)

/-- 'laws.FnExactFaultOf': WHATEVER THE INPUT: true; the input reads as it did. -/
def fnExactFaultOfSpec : ChangeSpec := { name := "fnExactFaultOf", fn := fun _ => fun
  | [d1, d2] => { results := [.lit (.bool true)], args := [d1, d2] }
  | _ => none }
def fnExactFaultOfRow : OpenClaim := { program := "ytobcafjhkimonaa", sum := "d02675f68832ced90c07f176fcd8fdbe431d27a14921e8e4cd332d284ef2c560", func := "loop.example/g00989/laws.FnExactFaultOf", spec := "fnExactFaultOf", plainKeys := false, apart := false }
def FnExactFaultOfSaid : Prop := fnExactFaultOfRow.holds Try.pinned (OpenSpec.ofChange fnExactFaultOfSpec)

/-- ITS FALSE NEIGHBOUR: 'it returns false'. Refute it at one input. -/
def fnExactFaultOfWrong : ChangeSpec := { name := "fnExactFaultOf", fn := fun _ => fun
  | [d1, d2] => { results := [.lit (.bool false)], args := [d1, d2] }
  | _ => none }
def FnExactFaultOfWrongFalsely : Prop := fnExactFaultOfRow.holds Try.pinned (OpenSpec.ofChange fnExactFaultOfWrong)

/-- 'laws.FnExactBestShift': WHATEVER THE INPUT: true; the input reads as it did. -/
def fnExactBestShiftSpec : ChangeSpec := { name := "fnExactBestShift", fn := fun _ => fun
  | [d1, d2] => { results := [.lit (.bool true)], args := [d1, d2] }
  | _ => none }
def fnExactBestShiftRow : OpenClaim := { program := "ytobcafjhkimonaa", sum := "d02675f68832ced90c07f176fcd8fdbe431d27a14921e8e4cd332d284ef2c560", func := "loop.example/g00989/laws.FnExactBestShift", spec := "fnExactBestShift", plainKeys := false, apart := false }
def FnExactBestShiftSaid : Prop := fnExactBestShiftRow.holds Try.pinned (OpenSpec.ofChange fnExactBestShiftSpec)

/-- ITS FALSE NEIGHBOUR: 'it returns false'. Refute it at one input. -/
def fnExactBestShiftWrong : ChangeSpec := { name := "fnExactBestShift", fn := fun _ => fun
  | [d1, d2] => { results := [.lit (.bool false)], args := [d1, d2] }
  | _ => none }
def FnExactBestShiftWrongFalsely : Prop := fnExactBestShiftRow.holds Try.pinned (OpenSpec.ofChange fnExactBestShiftWrong)

/- THE SECOND FORM. 'bulk': how many values and letters a reading holds, each counted each time it is reached (what is shared counts as often as it is met; a slice's spare places count too). A statement '..UptoSaid' is the law's where the arguments, and the package variables that the reading takes, are together of bulk at most 1048576: NARROWER than '..Said'. Prove '..Said' where nothing that the law and all that it calls make is longer than what came in: it says more and counts as full. Else prove '..UptoSaid'. A law counts once. -/
mutual
def uptoBulk {H : Type} : DataW H → Nat
  | .lit (.string bytes) => bytes.length + 1
  | .lit _ => 1
  | .nil => 1
  | .ptr d => uptoBulk d + 1
  | .slice elems spare => uptoBulkAll elems + uptoBulkAll spare + 1
  | .agg parts => uptoBulkAll parts + 1
  | .iface _ d => uptoBulk d + 1
  | .map entries => uptoBulkEntries entries + 1
  | .held _ => 1
def uptoBulkAll {H : Type} : List (DataW H) → Nat
  | [] => 0
  | d :: r => uptoBulk d + uptoBulkAll r
def uptoBulkEntries {H : Type} : List (Lit × DataW H) → Nat
  | [] => 0
  | x :: r => uptoBulkEntry x + uptoBulkEntries r
def uptoBulkEntry {H : Type} : Lit × DataW H → Nat
  | (.string bytes, d) => bytes.length + uptoBulk d + 1
  | (_, d) => uptoBulk d + 1
 end
def uptoSmall : (H : Type) → List (DataW H) → Bool := fun _ ds => decide (uptoBulkAll ds ≤ 1048576)
def OpenSpec.upto (s : _root_.Go.ChangeSpec) : _root_.Go.OpenSpec := { _root_.Go.OpenSpec.ofChange s with cond := some uptoSmall }

/-- 'laws.FnExactActOk', WHERE WHAT IT READS IS OF BULK AT MOST 1048576: true; the input reads as it did. -/
def fnExactActOkUptoRow : OpenClaim := { program := "ytobcafjhkimonaa", sum := "d02675f68832ced90c07f176fcd8fdbe431d27a14921e8e4cd332d284ef2c560", func := "loop.example/g00989/laws.FnExactActOk", spec := "fnExactActOk", plainKeys := false, apart := false, narrowed := true }
def FnExactActOkUptoSaid : Prop := fnExactActOkUptoRow.holds Try.pinned (OpenSpec.upto fnExactActOkSpec)

/-- 'laws.FnExactShiftedChord', WHERE WHAT IT READS IS OF BULK AT MOST 1048576: true; the input reads as it did. -/
def fnExactShiftedChordUptoRow : OpenClaim := { program := "ytobcafjhkimonaa", sum := "d02675f68832ced90c07f176fcd8fdbe431d27a14921e8e4cd332d284ef2c560", func := "loop.example/g00989/laws.FnExactShiftedChord", spec := "fnExactShiftedChord", plainKeys := false, apart := false, narrowed := true }
def FnExactShiftedChordUptoSaid : Prop := fnExactShiftedChordUptoRow.holds Try.pinned (OpenSpec.upto fnExactShiftedChordSpec)

/-- 'laws.FnExactShiftCost', WHERE WHAT IT READS IS OF BULK AT MOST 1048576: true; the input reads as it did. -/
def fnExactShiftCostUptoRow : OpenClaim := { program := "ytobcafjhkimonaa", sum := "d02675f68832ced90c07f176fcd8fdbe431d27a14921e8e4cd332d284ef2c560", func := "loop.example/g00989/laws.FnExactShiftCost", spec := "fnExactShiftCost", plainKeys := false, apart := false, narrowed := true }
def FnExactShiftCostUptoSaid : Prop := fnExactShiftCostUptoRow.holds Try.pinned (OpenSpec.upto fnExactShiftCostSpec)

/-- 'laws.FnExactLogOk', WHERE WHAT IT READS IS OF BULK AT MOST 1048576: true; the input reads as it did. -/
def fnExactLogOkUptoRow : OpenClaim := { program := "ytobcafjhkimonaa", sum := "d02675f68832ced90c07f176fcd8fdbe431d27a14921e8e4cd332d284ef2c560", func := "loop.example/g00989/laws.FnExactLogOk", spec := "fnExactLogOk", plainKeys := false, apart := false, narrowed := true }
def FnExactLogOkUptoSaid : Prop := fnExactLogOkUptoRow.holds Try.pinned (OpenSpec.upto fnExactLogOkSpec)

/-- 'laws.FnExactFaultOf', WHERE WHAT IT READS IS OF BULK AT MOST 1048576: true; the input reads as it did. -/
def fnExactFaultOfUptoRow : OpenClaim := { program := "ytobcafjhkimonaa", sum := "d02675f68832ced90c07f176fcd8fdbe431d27a14921e8e4cd332d284ef2c560", func := "loop.example/g00989/laws.FnExactFaultOf", spec := "fnExactFaultOf", plainKeys := false, apart := false, narrowed := true }
def FnExactFaultOfUptoSaid : Prop := fnExactFaultOfUptoRow.holds Try.pinned (OpenSpec.upto fnExactFaultOfSpec)

/-- 'laws.FnExactBestShift', WHERE WHAT IT READS IS OF BULK AT MOST 1048576: true; the input reads as it did. -/
def fnExactBestShiftUptoRow : OpenClaim := { program := "ytobcafjhkimonaa", sum := "d02675f68832ced90c07f176fcd8fdbe431d27a14921e8e4cd332d284ef2c560", func := "loop.example/g00989/laws.FnExactBestShift", spec := "fnExactBestShift", plainKeys := false, apart := false, narrowed := true }
def FnExactBestShiftUptoSaid : Prop := fnExactBestShiftUptoRow.holds Try.pinned (OpenSpec.upto fnExactBestShiftSpec)

end Rows
end Go.Proofs.Ytobcafjhkimonaa
