/-
  No cell of these rows narrows 'for every input' (looked for: loops, veiled, ifaces, maps, wideKeys, modest, calm, conditions, laid).
  DERIVED. THE GIVEN ROWS OF THIS SEAT. 12 by the template 'for every input the law returns true; each argument reads behind the call as it read before'; 0 by the template 'total and deterministic' (their statements: YtbkkpllejgedcaaTotals.lean).
  GIVEN WITH THE SEED: the statements are not yours to turn. If you find one false, say at which input.
  Laid BY PROGRAM, IN A SANDBOX (cutbox-rows.mjs): the forced cells as the released guide's own fill.sh prints them over the translation 9757d648d6acd572… (all of the seat's roots in one cut). By AI agents, Wed Nov 11 2026. No macro, syntax, notation, axiom, sorry.
-/
import Derived.Test.YtbkkpllejgedcaaChecked
import GoSem.Claim
import GoSem.ClaimJoined
import GoSem.ClaimMapViews
import Derived.JoinedTies
import Derived.KernelRfl
namespace Go.Proofs.Ytbkkpllejgedcaa
/- THE CELL 'sum', in the pinned program and in every row, IS THE sha256 OF THE DUMP (.gsa) THAT YtbkkpllejgedcaaProg.lean LOADS. Nothing in Lean hashes anything: it is a label: what it is worth is what the hold of that sum in a sandbox is worth. -/
noncomputable def Try.pinned : Pinned := { name := "ytbkkpllejgedcaa", sum := "9757d648d6acd572e90ecfccd81771ac66f1da448d59c70684ba8febbc760a65", checked := Try.checked }
namespace Rows
def none {H : Type} : Left H := { results := [], args := [] }

/-- 'laws.FnExactShopOk': WHATEVER THE INPUT: true; the input reads as it did. -/
def fnExactShopOkSpec : ChangeSpec := { name := "fnExactShopOk", fn := fun _ => fun
  | [d] => { results := [.lit (.bool true)], args := [d] }
  | _ => none }
def fnExactShopOkRow : OpenClaim := { program := "ytbkkpllejgedcaa", sum := "9757d648d6acd572e90ecfccd81771ac66f1da448d59c70684ba8febbc760a65", func := "loop.example/g00989/laws.FnExactShopOk", spec := "fnExactShopOk", plainKeys := false, apart := false }
def FnExactShopOkSaid : Prop := fnExactShopOkRow.holds Try.pinned (OpenSpec.ofChange fnExactShopOkSpec)

/-- ITS FALSE NEIGHBOUR: 'it returns false'. Refute it at one input. -/
def fnExactShopOkWrong : ChangeSpec := { name := "fnExactShopOk", fn := fun _ => fun
  | [d] => { results := [.lit (.bool false)], args := [d] }
  | _ => none }
def FnExactShopOkWrongFalsely : Prop := fnExactShopOkRow.holds Try.pinned (OpenSpec.ofChange fnExactShopOkWrong)

/-- 'laws.FnExactHeardAt': WHATEVER THE INPUT: true; the input reads as it did. -/
def fnExactHeardAtSpec : ChangeSpec := { name := "fnExactHeardAt", fn := fun _ => fun
  | [d1, d2] => { results := [.lit (.bool true)], args := [d1, d2] }
  | _ => none }
def fnExactHeardAtRow : OpenClaim := { program := "ytbkkpllejgedcaa", sum := "9757d648d6acd572e90ecfccd81771ac66f1da448d59c70684ba8febbc760a65", func := "loop.example/g00989/laws.FnExactHeardAt", spec := "fnExactHeardAt", plainKeys := false, apart := false }
def FnExactHeardAtSaid : Prop := fnExactHeardAtRow.holds Try.pinned (OpenSpec.ofChange fnExactHeardAtSpec)

/-- ITS FALSE NEIGHBOUR: 'it returns false'. Refute it at one input. -/
def fnExactHeardAtWrong : ChangeSpec := { name := "fnExactHeardAt", fn := fun _ => fun
  | [d1, d2] => { results := [.lit (.bool false)], args := [d1, d2] }
  | _ => none }
def FnExactHeardAtWrongFalsely : Prop := fnExactHeardAtRow.holds Try.pinned (OpenSpec.ofChange fnExactHeardAtWrong)

/-- 'laws.FnExactNewShop': WHATEVER THE INPUT: true; the input reads as it did. -/
def fnExactNewShopSpec : ChangeSpec := { name := "fnExactNewShop", fn := fun _ => fun
  | [d1, d2] => { results := [.lit (.bool true)], args := [d1, d2] }
  | _ => none }
def fnExactNewShopRow : OpenClaim := { program := "ytbkkpllejgedcaa", sum := "9757d648d6acd572e90ecfccd81771ac66f1da448d59c70684ba8febbc760a65", func := "loop.example/g00989/laws.FnExactNewShop", spec := "fnExactNewShop", plainKeys := false, apart := false }
def FnExactNewShopSaid : Prop := fnExactNewShopRow.holds Try.pinned (OpenSpec.ofChange fnExactNewShopSpec)

/-- ITS FALSE NEIGHBOUR: 'it returns false'. Refute it at one input. -/
def fnExactNewShopWrong : ChangeSpec := { name := "fnExactNewShop", fn := fun _ => fun
  | [d1, d2] => { results := [.lit (.bool false)], args := [d1, d2] }
  | _ => none }
def FnExactNewShopWrongFalsely : Prop := fnExactNewShopRow.holds Try.pinned (OpenSpec.ofChange fnExactNewShopWrong)

/-- 'laws.FnExactStepsLeft': WHATEVER THE INPUT: true; the input reads as it did. -/
def fnExactStepsLeftSpec : ChangeSpec := { name := "fnExactStepsLeft", fn := fun _ => fun
  | [d] => { results := [.lit (.bool true)], args := [d] }
  | _ => none }
def fnExactStepsLeftRow : OpenClaim := { program := "ytbkkpllejgedcaa", sum := "9757d648d6acd572e90ecfccd81771ac66f1da448d59c70684ba8febbc760a65", func := "loop.example/g00989/laws.FnExactStepsLeft", spec := "fnExactStepsLeft", plainKeys := false, apart := false }
def FnExactStepsLeftSaid : Prop := fnExactStepsLeftRow.holds Try.pinned (OpenSpec.ofChange fnExactStepsLeftSpec)

/-- ITS FALSE NEIGHBOUR: 'it returns false'. Refute it at one input. -/
def fnExactStepsLeftWrong : ChangeSpec := { name := "fnExactStepsLeft", fn := fun _ => fun
  | [d] => { results := [.lit (.bool false)], args := [d] }
  | _ => none }
def FnExactStepsLeftWrongFalsely : Prop := fnExactStepsLeftRow.holds Try.pinned (OpenSpec.ofChange fnExactStepsLeftWrong)

/-- 'laws.FnExactSampleShop': WHATEVER THE INPUT: true; the input reads as it did. -/
def fnExactSampleShopSpec : ChangeSpec := { name := "fnExactSampleShop", fn := fun _ => fun
  | [] => { results := [.lit (.bool true)], args := [] }
  | _ => none }
def fnExactSampleShopRow : OpenClaim := { program := "ytbkkpllejgedcaa", sum := "9757d648d6acd572e90ecfccd81771ac66f1da448d59c70684ba8febbc760a65", func := "loop.example/g00989/laws.FnExactSampleShop", spec := "fnExactSampleShop", plainKeys := false, apart := false }
def FnExactSampleShopSaid : Prop := fnExactSampleShopRow.holds Try.pinned (OpenSpec.ofChange fnExactSampleShopSpec)

/-- ITS FALSE NEIGHBOUR: 'it returns false'. Refute it at one input. -/
def fnExactSampleShopWrong : ChangeSpec := { name := "fnExactSampleShop", fn := fun _ => fun
  | [] => { results := [.lit (.bool false)], args := [] }
  | _ => none }
def FnExactSampleShopWrongFalsely : Prop := fnExactSampleShopRow.holds Try.pinned (OpenSpec.ofChange fnExactSampleShopWrong)

/-- 'laws.FnExactShopWarm': WHATEVER THE INPUT: true; the input reads as it did. -/
def fnExactShopWarmSpec : ChangeSpec := { name := "fnExactShopWarm", fn := fun _ => fun
  | [d1, d2] => { results := [.lit (.bool true)], args := [d1, d2] }
  | _ => none }
def fnExactShopWarmRow : OpenClaim := { program := "ytbkkpllejgedcaa", sum := "9757d648d6acd572e90ecfccd81771ac66f1da448d59c70684ba8febbc760a65", func := "loop.example/g00989/laws.FnExactShopWarm", spec := "fnExactShopWarm", plainKeys := false, apart := false }
def FnExactShopWarmSaid : Prop := fnExactShopWarmRow.holds Try.pinned (OpenSpec.ofChange fnExactShopWarmSpec)

/-- ITS FALSE NEIGHBOUR: 'it returns false'. Refute it at one input. -/
def fnExactShopWarmWrong : ChangeSpec := { name := "fnExactShopWarm", fn := fun _ => fun
  | [d1, d2] => { results := [.lit (.bool false)], args := [d1, d2] }
  | _ => none }
def FnExactShopWarmWrongFalsely : Prop := fnExactShopWarmRow.holds Try.pinned (OpenSpec.ofChange fnExactShopWarmWrong)

/-- 'laws.FnExactShopFault': WHATEVER THE INPUT: true; the input reads as it did. -/
def fnExactShopFaultSpec : ChangeSpec := { name := "fnExactShopFault", fn := fun _ => fun
  | [d1, d2, d3] => { results := [.lit (.bool true)], args := [d1, d2, d3] }
  | _ => none }
def fnExactShopFaultRow : OpenClaim := { program := "ytbkkpllejgedcaa", sum := "9757d648d6acd572e90ecfccd81771ac66f1da448d59c70684ba8febbc760a65", func := "loop.example/g00989/laws.FnExactShopFault", spec := "fnExactShopFault", plainKeys := false, apart := false }
def FnExactShopFaultSaid : Prop := fnExactShopFaultRow.holds Try.pinned (OpenSpec.ofChange fnExactShopFaultSpec)

/-- ITS FALSE NEIGHBOUR: 'it returns false'. Refute it at one input. -/
def fnExactShopFaultWrong : ChangeSpec := { name := "fnExactShopFault", fn := fun _ => fun
  | [d1, d2, d3] => { results := [.lit (.bool false)], args := [d1, d2, d3] }
  | _ => none }
def FnExactShopFaultWrongFalsely : Prop := fnExactShopFaultRow.holds Try.pinned (OpenSpec.ofChange fnExactShopFaultWrong)

/-- 'laws.FnExactShopKnock': WHATEVER THE INPUT: true; the input reads as it did. -/
def fnExactShopKnockSpec : ChangeSpec := { name := "fnExactShopKnock", fn := fun _ => fun
  | [d1, d2, d3] => { results := [.lit (.bool true)], args := [d1, d2, d3] }
  | _ => none }
def fnExactShopKnockRow : OpenClaim := { program := "ytbkkpllejgedcaa", sum := "9757d648d6acd572e90ecfccd81771ac66f1da448d59c70684ba8febbc760a65", func := "loop.example/g00989/laws.FnExactShopKnock", spec := "fnExactShopKnock", plainKeys := false, apart := false }
def FnExactShopKnockSaid : Prop := fnExactShopKnockRow.holds Try.pinned (OpenSpec.ofChange fnExactShopKnockSpec)

/-- ITS FALSE NEIGHBOUR: 'it returns false'. Refute it at one input. -/
def fnExactShopKnockWrong : ChangeSpec := { name := "fnExactShopKnock", fn := fun _ => fun
  | [d1, d2, d3] => { results := [.lit (.bool false)], args := [d1, d2, d3] }
  | _ => none }
def FnExactShopKnockWrongFalsely : Prop := fnExactShopKnockRow.holds Try.pinned (OpenSpec.ofChange fnExactShopKnockWrong)

/-- 'laws.FnExactShopTune': WHATEVER THE INPUT: true; the input reads as it did. -/
def fnExactShopTuneSpec : ChangeSpec := { name := "fnExactShopTune", fn := fun _ => fun
  | [d] => { results := [.lit (.bool true)], args := [d] }
  | _ => none }
def fnExactShopTuneRow : OpenClaim := { program := "ytbkkpllejgedcaa", sum := "9757d648d6acd572e90ecfccd81771ac66f1da448d59c70684ba8febbc760a65", func := "loop.example/g00989/laws.FnExactShopTune", spec := "fnExactShopTune", plainKeys := false, apart := false }
def FnExactShopTuneSaid : Prop := fnExactShopTuneRow.holds Try.pinned (OpenSpec.ofChange fnExactShopTuneSpec)

/-- ITS FALSE NEIGHBOUR: 'it returns false'. Refute it at one input. -/
def fnExactShopTuneWrong : ChangeSpec := { name := "fnExactShopTune", fn := fun _ => fun
  | [d] => { results := [.lit (.bool false)], args := [d] }
  | _ => none }
def FnExactShopTuneWrongFalsely : Prop := fnExactShopTuneRow.holds Try.pinned (OpenSpec.ofChange fnExactShopTuneWrong)

/-- 'laws.FnShops': WHATEVER THE INPUT: true; the input reads as it did. -/
def fnShopsSpec : ChangeSpec := { name := "fnShops", fn := fun _ => fun
  | [d] => { results := [.lit (.bool true)], args := [d] }
  | _ => none }
def fnShopsRow : OpenClaim := { program := "ytbkkpllejgedcaa", sum := "9757d648d6acd572e90ecfccd81771ac66f1da448d59c70684ba8febbc760a65", func := "loop.example/g00989/laws.FnShops", spec := "fnShops", plainKeys := false, apart := false }
def FnShopsSaid : Prop := fnShopsRow.holds Try.pinned (OpenSpec.ofChange fnShopsSpec)

/-- ITS FALSE NEIGHBOUR: 'it returns false'. Refute it at one input. -/
def fnShopsWrong : ChangeSpec := { name := "fnShops", fn := fun _ => fun
  | [d] => { results := [.lit (.bool false)], args := [d] }
  | _ => none }
def FnShopsWrongFalsely : Prop := fnShopsRow.holds Try.pinned (OpenSpec.ofChange fnShopsWrong)

/-- 'laws.FnExactAddEntry': WHATEVER THE INPUT: true; the input reads as it did. -/
def fnExactAddEntrySpec : ChangeSpec := { name := "fnExactAddEntry", fn := fun _ => fun
  | [d1, d2] => { results := [.lit (.bool true)], args := [d1, d2] }
  | _ => none }
def fnExactAddEntryRow : OpenClaim := { program := "ytbkkpllejgedcaa", sum := "9757d648d6acd572e90ecfccd81771ac66f1da448d59c70684ba8febbc760a65", func := "loop.example/g00989/laws.FnExactAddEntry", spec := "fnExactAddEntry", plainKeys := false, apart := false }
def FnExactAddEntrySaid : Prop := fnExactAddEntryRow.holds Try.pinned (OpenSpec.ofChange fnExactAddEntrySpec)

/-- ITS FALSE NEIGHBOUR: 'it returns false'. Refute it at one input. -/
def fnExactAddEntryWrong : ChangeSpec := { name := "fnExactAddEntry", fn := fun _ => fun
  | [d1, d2] => { results := [.lit (.bool false)], args := [d1, d2] }
  | _ => none }
def FnExactAddEntryWrongFalsely : Prop := fnExactAddEntryRow.holds Try.pinned (OpenSpec.ofChange fnExactAddEntryWrong)

/-- 'laws.FnChords': WHATEVER THE INPUT: true; the input reads as it did. -/
def fnChordsSpec : ChangeSpec := { name := "fnChords", fn := fun _ => fun
  | [d] => { results := [.lit (.bool true)], args := [d] }
  | _ => none }
def fnChordsRow : OpenClaim := { program := "ytbkkpllejgedcaa", sum := "9757d648d6acd572e90ecfccd81771ac66f1da448d59c70684ba8febbc760a65", func := "loop.example/g00989/laws.FnChords", spec := "fnChords", plainKeys := false, apart := false }
def FnChordsSaid : Prop := fnChordsRow.holds Try.pinned (OpenSpec.ofChange fnChordsSpec)

/-- ITS FALSE NEIGHBOUR: 'it returns false'. Refute it at one input. -/
def fnChordsWrong : ChangeSpec := { name := "fnChords", fn := fun _ => fun
  | [d] => { results := [.lit (.bool false)], args := [d] }
  | _ => none }
def FnChordsWrongFalsely : Prop := fnChordsRow.holds Try.pinned (OpenSpec.ofChange fnChordsWrong)

/- THE SECOND FORM. 'bulk': how many values and letters a reading holds, each counted each time it is reached (what is shared counts as often as it is met; a slice's spare places count too). A statement '..UptoSaid' is the law's where the arguments, and the package variables that the reading takes, are together of bulk at most 1048576: NARROWER than '..Said'. Prove '..Said' where nothing that the law and all that it calls make is longer than what came in: it says more and counts as full. Else prove '..UptoSaid'. A law counts once. -/
mutual
def uptoBulk {H : Type} : DataW H → Nat
  | .lit (.string bytes) => bytes.length + 1
  | .lit _ => 1
  | .nil => 1
  | .ptr d => uptoBulk d + 1
  | .slice elems spare => uptoBulkAll elems + uptoBulkAll spare + 1
  | .agg parts => uptoBulkAll parts + 1
  | .iface _ d => uptoBulk d + 1
  | .map entries => uptoBulkEntries entries + 1
  | .held _ => 1
def uptoBulkAll {H : Type} : List (DataW H) → Nat
  | [] => 0
  | d :: r => uptoBulk d + uptoBulkAll r
def uptoBulkEntries {H : Type} : List (Lit × DataW H) → Nat
  | [] => 0
  | x :: r => uptoBulkEntry x + uptoBulkEntries r
def uptoBulkEntry {H : Type} : Lit × DataW H → Nat
  | (.string bytes, d) => bytes.length + uptoBulk d + 1
  | (_, d) => uptoBulk d + 1
 end
def uptoSmall : (H : Type) → List (DataW H) → Bool := fun _ ds => decide (uptoBulkAll ds ≤ 1048576)
def OpenSpec.upto (s : _root_.Go.ChangeSpec) : _root_.Go.OpenSpec := { _root_.Go.OpenSpec.ofChange s with cond := some uptoSmall }

/-- 'laws.FnExactShopOk', WHERE WHAT IT READS IS OF BULK AT MOST 1048576: true; the input reads as it did. -/
def fnExactShopOkUptoRow : OpenClaim := { program := "ytbkkpllejgedcaa", sum := "9757d648d6acd572e90ecfccd81771ac66f1da448d59c70684ba8febbc760a65", func := "loop.example/g00989/laws.FnExactShopOk", spec := "fnExactShopOk", plainKeys := false, apart := false, narrowed := true }
def FnExactShopOkUptoSaid : Prop := fnExactShopOkUptoRow.holds Try.pinned (OpenSpec.upto fnExactShopOkSpec)

/-- 'laws.FnExactHeardAt', WHERE WHAT IT READS IS OF BULK AT MOST 1048576: true; the input reads as it did. -/
def fnExactHeardAtUptoRow : OpenClaim := { program := "ytbkkpllejgedcaa", sum := "9757d648d6acd572e90ecfccd81771ac66f1da448d59c70684ba8febbc760a65", func := "loop.example/g00989/laws.FnExactHeardAt", spec := "fnExactHeardAt", plainKeys := false, apart := false, narrowed := true }
def FnExactHeardAtUptoSaid : Prop := fnExactHeardAtUptoRow.holds Try.pinned (OpenSpec.upto fnExactHeardAtSpec)

/-- 'laws.FnExactNewShop', WHERE WHAT IT READS IS OF BULK AT MOST 1048576: true; the input reads as it did. -/
def fnExactNewShopUptoRow : OpenClaim := { program := "ytbkkpllejgedcaa", sum := "9757d648d6acd572e90ecfccd81771ac66f1da448d59c70684ba8febbc760a65", func := "loop.example/g00989/laws.FnExactNewShop", spec := "fnExactNewShop", plainKeys := false, apart := false, narrowed := true }
def FnExactNewShopUptoSaid : Prop := fnExactNewShopUptoRow.holds Try.pinned (OpenSpec.upto fnExactNewShopSpec)

/-- 'laws.FnExactStepsLeft', WHERE WHAT IT READS IS OF BULK AT MOST 1048576: true; the input reads as it did. -/
def fnExactStepsLeftUptoRow : OpenClaim := { program := "ytbkkpllejgedcaa", sum := "9757d648d6acd572e90ecfccd81771ac66f1da448d59c70684ba8febbc760a65", func := "loop.example/g00989/laws.FnExactStepsLeft", spec := "fnExactStepsLeft", plainKeys := false, apart := false, narrowed := true }
def FnExactStepsLeftUptoSaid : Prop := fnExactStepsLeftUptoRow.holds Try.pinned (OpenSpec.upto fnExactStepsLeftSpec)

/-- 'laws.FnExactSampleShop', WHERE WHAT IT READS IS OF BULK AT MOST 1048576: true; the input reads as it did. -/
def fnExactSampleShopUptoRow : OpenClaim := { program := "ytbkkpllejgedcaa", sum := "9757d648d6acd572e90ecfccd81771ac66f1da448d59c70684ba8febbc760a65", func := "loop.example/g00989/laws.FnExactSampleShop", spec := "fnExactSampleShop", plainKeys := false, apart := false, narrowed := true }
def FnExactSampleShopUptoSaid : Prop := fnExactSampleShopUptoRow.holds Try.pinned (OpenSpec.upto fnExactSampleShopSpec)

/-- 'laws.FnExactShopWarm', WHERE WHAT IT READS IS OF BULK AT MOST 1048576: true; the input reads as it did. -/
def fnExactShopWarmUptoRow : OpenClaim := { program := "ytbkkpllejgedcaa", sum := "9757d648d6acd572e90ecfccd81771ac66f1da448d59c70684ba8febbc760a65", func := "loop.example/g00989/laws.FnExactShopWarm", spec := "fnExactShopWarm", plainKeys := false, apart := false, narrowed := true }
def FnExactShopWarmUptoSaid : Prop := fnExactShopWarmUptoRow.holds Try.pinned (OpenSpec.upto fnExactShopWarmSpec)

/-- 'laws.FnExactShopFault', WHERE WHAT IT READS IS OF BULK AT MOST 1048576: true; the input reads as it did. -/
def fnExactShopFaultUptoRow : OpenClaim := { program := "ytbkkpllejgedcaa", sum := "9757d648d6acd572e90ecfccd81771ac66f1da448d59c70684ba8febbc760a65", func := "loop.example/g00989/laws.FnExactShopFault", spec := "fnExactShopFault", plainKeys := false, apart := false, narrowed := true }
def FnExactShopFaultUptoSaid : Prop := fnExactShopFaultUptoRow.holds Try.pinned (OpenSpec.upto fnExactShopFaultSpec)

/-- 'laws.FnExactShopKnock', WHERE WHAT IT READS IS OF BULK AT MOST 1048576: true; the input reads as it did. -/
def fnExactShopKnockUptoRow : OpenClaim := { program := "ytbkkpllejgedcaa", sum := "9757d648d6acd572e90ecfccd81771ac66f1da448d59c70684ba8febbc760a65", func := "loop.example/g00989/laws.FnExactShopKnock", spec := "fnExactShopKnock", plainKeys := false, apart := false, narrowed := true }
def FnExactShopKnockUptoSaid : Prop := fnExactShopKnockUptoRow.holds Try.pinned (OpenSpec.upto fnExactShopKnockSpec)

/-- 'laws.FnExactShopTune', WHERE WHAT IT READS IS OF BULK AT MOST 1048576: true; the input reads as it did. -/
def fnExactShopTuneUptoRow : OpenClaim := { program := "ytbkkpllejgedcaa", sum := "9757d648d6acd572e90ecfccd81771ac66f1da448d59c70684ba8febbc760a65", func := "loop.example/g00989/laws.FnExactShopTune", spec := "fnExactShopTune", plainKeys := false, apart := false, narrowed := true }
def FnExactShopTuneUptoSaid : Prop := fnExactShopTuneUptoRow.holds Try.pinned (OpenSpec.upto fnExactShopTuneSpec)

/-- 'laws.FnShops', WHERE WHAT IT READS IS OF BULK AT MOST 1048576: true; the input reads as it did. -/
def fnShopsUptoRow : OpenClaim := { program := "ytbkkpllejgedcaa", sum := "9757d648d6acd572e90ecfccd81771ac66f1da448d59c70684ba8febbc760a65", func := "loop.example/g00989/laws.FnShops", spec := "fnShops", plainKeys := false, apart := false, narrowed := true }
def FnShopsUptoSaid : Prop := fnShopsUptoRow.holds Try.pinned (OpenSpec.upto fnShopsSpec)

/-- 'laws.FnExactAddEntry', WHERE WHAT IT READS IS OF BULK AT MOST 1048576: true; the input reads as it did. -/
def fnExactAddEntryUptoRow : OpenClaim := { program := "ytbkkpllejgedcaa", sum := "9757d648d6acd572e90ecfccd81771ac66f1da448d59c70684ba8febbc760a65", func := "loop.example/g00989/laws.FnExactAddEntry", spec := "fnExactAddEntry", plainKeys := false, apart := false, narrowed := true }
def FnExactAddEntryUptoSaid : Prop := fnExactAddEntryUptoRow.holds Try.pinned (OpenSpec.upto fnExactAddEntrySpec)

/-- 'laws.FnChords', WHERE WHAT IT READS IS OF BULK AT MOST 1048576: true; the input reads as it did. -/
def fnChordsUptoRow : OpenClaim := { program := "ytbkkpllejgedcaa", sum := "9757d648d6acd572e90ecfccd81771ac66f1da448d59c70684ba8febbc760a65", func := "loop.example/g00989/laws.FnChords", spec := "fnChords", plainKeys := false, apart := false, narrowed := true }
def FnChordsUptoSaid : Prop := fnChordsUptoRow.holds Try.pinned (OpenSpec.upto fnChordsSpec)

end Rows
end Go.Proofs.Ytbkkpllejgedcaa
