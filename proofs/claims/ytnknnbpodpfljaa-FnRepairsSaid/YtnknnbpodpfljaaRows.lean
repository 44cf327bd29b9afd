/-
  No cell of these rows narrows 'for every input' (looked for: loops, veiled, ifaces, maps, wideKeys, modest, calm, conditions, laid).
  DERIVED. THE GIVEN ROWS OF THIS SEAT. 8 by the template 'for every input the law returns true; each argument reads behind the call as it read before'; 0 by the template 'total and deterministic' (their statements: YtnknnbpodpfljaaTotals.lean).
  GIVEN WITH THE SEED: the statements are not yours to turn. If you find one false, say at which input.
  Laid BY PROGRAM, IN A SANDBOX (cutbox-rows.mjs): the forced cells as the released guide's own fill.sh prints them over the translation f9fca70bec38923b… (all of the seat's roots in one cut). By AI agents, Wed Nov 11 2026. No macro, syntax, notation, axiom, sorry.
-/
import Derived.Test.YtnknnbpodpfljaaChecked
import GoSem.Claim
import GoSem.ClaimJoined
import GoSem.ClaimMapViews
import Derived.JoinedTies
import Derived.KernelRfl
namespace Go.Proofs.Ytnknnbpodpfljaa
/- THE CELL 'sum', in the pinned program and in every row, IS THE sha256 OF THE DUMP (.gsa) THAT YtnknnbpodpfljaaProg.lean LOADS. Nothing in Lean hashes anything: it is a label: what it is worth is what the hold of that sum in a sandbox is worth. -/
noncomputable def Try.pinned : Pinned := { name := "ytnknnbpodpfljaa", sum := "f9fca70bec38923b71e020517e9ffdf065d7d912b1dd0c1e2aada88151fd9ed9", checked := Try.checked }
namespace Rows
def none {H : Type} : Left H := { results := [], args := [] }

/-- 'laws.FnLogs': WHATEVER THE INPUT: true; the input reads as it did. -/
def fnLogsSpec : ChangeSpec := { name := "fnLogs", fn := fun _ => fun
  | [d] => { results := [.lit (.bool true)], args := [d] }
  | _ => none }
def fnLogsRow : OpenClaim := { program := "ytnknnbpodpfljaa", sum := "f9fca70bec38923b71e020517e9ffdf065d7d912b1dd0c1e2aada88151fd9ed9", func := "loop.example/g00989/laws.FnLogs", spec := "fnLogs", inPlace := ["internal/reflectlite.ValueOf", "internal/reflectlite.Swapper", "(internal/reflectlite.Value).Len"], unfollowed := true, recurses := true, plainKeys := false, apart := false }
def FnLogsSaid : Prop := fnLogsRow.holds Try.pinned (OpenSpec.ofChange fnLogsSpec)

/-- ITS FALSE NEIGHBOUR: 'it returns false'. Refute it at one input. -/
def fnLogsWrong : ChangeSpec := { name := "fnLogs", fn := fun _ => fun
  | [d] => { results := [.lit (.bool false)], args := [d] }
  | _ => none }
def FnLogsWrongFalsely : Prop := fnLogsRow.holds Try.pinned (OpenSpec.ofChange fnLogsWrong)

/-- 'laws.FnExactCountFaults': WHATEVER THE INPUT: true; the input reads as it did. -/
def fnExactCountFaultsSpec : ChangeSpec := { name := "fnExactCountFaults", fn := fun _ => fun
  | [d] => { results := [.lit (.bool true)], args := [d] }
  | _ => none }
def fnExactCountFaultsRow : OpenClaim := { program := "ytnknnbpodpfljaa", sum := "f9fca70bec38923b71e020517e9ffdf065d7d912b1dd0c1e2aada88151fd9ed9", func := "loop.example/g00989/laws.FnExactCountFaults", spec := "fnExactCountFaults", inPlace := ["internal/reflectlite.ValueOf", "internal/reflectlite.Swapper", "(internal/reflectlite.Value).Len"], unfollowed := true, recurses := true, plainKeys := false, apart := false }
def FnExactCountFaultsSaid : Prop := fnExactCountFaultsRow.holds Try.pinned (OpenSpec.ofChange fnExactCountFaultsSpec)

/-- ITS FALSE NEIGHBOUR: 'it returns false'. Refute it at one input. -/
def fnExactCountFaultsWrong : ChangeSpec := { name := "fnExactCountFaults", fn := fun _ => fun
  | [d] => { results := [.lit (.bool false)], args := [d] }
  | _ => none }
def FnExactCountFaultsWrongFalsely : Prop := fnExactCountFaultsRow.holds Try.pinned (OpenSpec.ofChange fnExactCountFaultsWrong)

/-- 'laws.FnExactNextRepair': WHATEVER THE INPUT: true; the input reads as it did. -/
def fnExactNextRepairSpec : ChangeSpec := { name := "fnExactNextRepair", fn := fun _ => fun
  | [d] => { results := [.lit (.bool true)], args := [d] }
  | _ => none }
def fnExactNextRepairRow : OpenClaim := { program := "ytnknnbpodpfljaa", sum := "f9fca70bec38923b71e020517e9ffdf065d7d912b1dd0c1e2aada88151fd9ed9", func := "loop.example/g00989/laws.FnExactNextRepair", spec := "fnExactNextRepair", inPlace := ["internal/reflectlite.ValueOf", "internal/reflectlite.Swapper", "(internal/reflectlite.Value).Len"], unfollowed := true, recurses := true, plainKeys := false, apart := false }
def FnExactNextRepairSaid : Prop := fnExactNextRepairRow.holds Try.pinned (OpenSpec.ofChange fnExactNextRepairSpec)

/-- ITS FALSE NEIGHBOUR: 'it returns false'. Refute it at one input. -/
def fnExactNextRepairWrong : ChangeSpec := { name := "fnExactNextRepair", fn := fun _ => fun
  | [d] => { results := [.lit (.bool false)], args := [d] }
  | _ => none }
def FnExactNextRepairWrongFalsely : Prop := fnExactNextRepairRow.holds Try.pinned (OpenSpec.ofChange fnExactNextRepairWrong)

/-- 'laws.FnRepairs': WHATEVER THE INPUT: true; the input reads as it did. -/
def fnRepairsSpec : ChangeSpec := { name := "fnRepairs", fn := fun _ => fun
  | [d] => { results := [.lit (.bool true)], args := [d] }
  | _ => none }
def fnRepairsRow : OpenClaim := { program := "ytnknnbpodpfljaa", sum := "f9fca70bec38923b71e020517e9ffdf065d7d912b1dd0c1e2aada88151fd9ed9", func := "loop.example/g00989/laws.FnRepairs", spec := "fnRepairs", inPlace := ["internal/reflectlite.ValueOf", "internal/reflectlite.Swapper", "(internal/reflectlite.Value).Len"], unfollowed := true, recurses := true, plainKeys := false, apart := false }
def FnRepairsSaid : Prop := fnRepairsRow.holds Try.pinned (OpenSpec.ofChange fnRepairsSpec)

/-- ITS FALSE NEIGHBOUR: 'it returns false'. Refute it at one input. -/
def fnRepairsWrong : ChangeSpec := { name := "fnRepairs", fn := fun _ => fun
  | [d] => { results := [.lit (.bool false)], args := [d] }
  | _ => none }
def FnRepairsWrongFalsely : Prop := fnRepairsRow.holds Try.pinned (OpenSpec.ofChange fnRepairsWrong)

/-- 'laws.FnExactOpenFaults': WHATEVER THE INPUT: true; the input reads as it did. -/
def fnExactOpenFaultsSpec : ChangeSpec := { name := "fnExactOpenFaults", fn := fun _ => fun
  | [d] => { results := [.lit (.bool true)], args := [d] }
  | _ => none }
def fnExactOpenFaultsRow : OpenClaim := { program := "ytnknnbpodpfljaa", sum := "f9fca70bec38923b71e020517e9ffdf065d7d912b1dd0c1e2aada88151fd9ed9", func := "loop.example/g00989/laws.FnExactOpenFaults", spec := "fnExactOpenFaults", inPlace := ["internal/reflectlite.ValueOf", "internal/reflectlite.Swapper", "(internal/reflectlite.Value).Len"], unfollowed := true, recurses := true, plainKeys := false, apart := false }
def FnExactOpenFaultsSaid : Prop := fnExactOpenFaultsRow.holds Try.pinned (OpenSpec.ofChange fnExactOpenFaultsSpec)

/-- ITS FALSE NEIGHBOUR: 'it returns false'. Refute it at one input. -/
def fnExactOpenFaultsWrong : ChangeSpec := { name := "fnExactOpenFaults", fn := fun _ => fun
  | [d] => { results := [.lit (.bool false)], args := [d] }
  | _ => none }
def FnExactOpenFaultsWrongFalsely : Prop := fnExactOpenFaultsRow.holds Try.pinned (OpenSpec.ofChange fnExactOpenFaultsWrong)

/-- 'laws.FnExactFaultyPipes': WHATEVER THE INPUT: true; the input reads as it did. -/
def fnExactFaultyPipesSpec : ChangeSpec := { name := "fnExactFaultyPipes", fn := fun _ => fun
  | [d1, d2] => { results := [.lit (.bool true)], args := [d1, d2] }
  | _ => none }
def fnExactFaultyPipesRow : OpenClaim := { program := "ytnknnbpodpfljaa", sum := "f9fca70bec38923b71e020517e9ffdf065d7d912b1dd0c1e2aada88151fd9ed9", func := "loop.example/g00989/laws.FnExactFaultyPipes", spec := "fnExactFaultyPipes", inPlace := ["internal/reflectlite.ValueOf", "internal/reflectlite.Swapper", "(internal/reflectlite.Value).Len"], unfollowed := true, recurses := true, plainKeys := false, apart := false }
def FnExactFaultyPipesSaid : Prop := fnExactFaultyPipesRow.holds Try.pinned (OpenSpec.ofChange fnExactFaultyPipesSpec)

/-- ITS FALSE NEIGHBOUR: 'it returns false'. Refute it at one input. -/
def fnExactFaultyPipesWrong : ChangeSpec := { name := "fnExactFaultyPipes", fn := fun _ => fun
  | [d1, d2] => { results := [.lit (.bool false)], args := [d1, d2] }
  | _ => none }
def FnExactFaultyPipesWrongFalsely : Prop := fnExactFaultyPipesRow.holds Try.pinned (OpenSpec.ofChange fnExactFaultyPipesWrong)

/-- 'laws.FnExactRepairNext': WHATEVER THE INPUT: true; the input reads as it did. -/
def fnExactRepairNextSpec : ChangeSpec := { name := "fnExactRepairNext", fn := fun _ => fun
  | [d1, d2] => { results := [.lit (.bool true)], args := [d1, d2] }
  | _ => none }
def fnExactRepairNextRow : OpenClaim := { program := "ytnknnbpodpfljaa", sum := "f9fca70bec38923b71e020517e9ffdf065d7d912b1dd0c1e2aada88151fd9ed9", func := "loop.example/g00989/laws.FnExactRepairNext", spec := "fnExactRepairNext", inPlace := ["internal/reflectlite.ValueOf", "internal/reflectlite.Swapper", "(internal/reflectlite.Value).Len"], unfollowed := true, recurses := true, plainKeys := false, apart := false }
def FnExactRepairNextSaid : Prop := fnExactRepairNextRow.holds Try.pinned (OpenSpec.ofChange fnExactRepairNextSpec)

/-- ITS FALSE NEIGHBOUR: 'it returns false'. Refute it at one input. -/
def fnExactRepairNextWrong : ChangeSpec := { name := "fnExactRepairNext", fn := fun _ => fun
  | [d1, d2] => { results := [.lit (.bool false)], args := [d1, d2] }
  | _ => none }
def FnExactRepairNextWrongFalsely : Prop := fnExactRepairNextRow.holds Try.pinned (OpenSpec.ofChange fnExactRepairNextWrong)

/-- 'laws.FnExactRepairAll': WHATEVER THE INPUT: true; the input reads as it did. -/
def fnExactRepairAllSpec : ChangeSpec := { name := "fnExactRepairAll", fn := fun _ => fun
  | [d1, d2] => { results := [.lit (.bool true)], args := [d1, d2] }
  | _ => none }
def fnExactRepairAllRow : OpenClaim := { program := "ytnknnbpodpfljaa", sum := "f9fca70bec38923b71e020517e9ffdf065d7d912b1dd0c1e2aada88151fd9ed9", func := "loop.example/g00989/laws.FnExactRepairAll", spec := "fnExactRepairAll", inPlace := ["internal/reflectlite.ValueOf", "internal/reflectlite.Swapper", "(internal/reflectlite.Value).Len"], unfollowed := true, recurses := true, plainKeys := false, apart := false }
def FnExactRepairAllSaid : Prop := fnExactRepairAllRow.holds Try.pinned (OpenSpec.ofChange fnExactRepairAllSpec)

/-- ITS FALSE NEIGHBOUR: 'it returns false'. Refute it at one input. -/
def fnExactRepairAllWrong : ChangeSpec := { name := "fnExactRepairAll", fn := fun _ => fun
  | [d1, d2] => { results := [.lit (.bool false)], args := [d1, d2] }
  | _ => none }
def FnExactRepairAllWrongFalsely : Prop := fnExactRepairAllRow.holds Try.pinned (OpenSpec.ofChange fnExactRepairAllWrong)

/- THE SECOND FORM. 'bulk': how many values and letters a reading holds, each counted each time it is reached (what is shared counts as often as it is met; a slice's spare places count too). A statement '..UptoSaid' is the law's where the arguments, and the package variables that the reading takes, are together of bulk at most 1048576: NARROWER than '..Said'. Prove '..Said' where nothing that the law and all that it calls make is longer than what came in: it says more and counts as full. Else prove '..UptoSaid'. A law counts once. -/
mutual
def uptoBulk {H : Type} : DataW H → Nat
  | .lit (.string bytes) => bytes.length + 1
  | .lit _ => 1
  | .nil => 1
  | .ptr d => uptoBulk d + 1
  | .slice elems spare => uptoBulkAll elems + uptoBulkAll spare + 1
  | .agg parts => uptoBulkAll parts + 1
  | .iface _ d => uptoBulk d + 1
  | .map entries => uptoBulkEntries entries + 1
  | .held _ => 1
def uptoBulkAll {H : Type} : List (DataW H) → Nat
  | [] => 0
  | d :: r => uptoBulk d + uptoBulkAll r
def uptoBulkEntries {H : Type} : List (Lit × DataW H) → Nat
  | [] => 0
  | x :: r => uptoBulkEntry x + uptoBulkEntries r
def uptoBulkEntry {H : Type} : Lit × DataW H → Nat
  | (.string bytes, d) => bytes.length + uptoBulk d + 1
  | (_, d) => uptoBulk d + 1
 end
def uptoSmall : (H : Type) → List (DataW H) → Bool := fun _ ds => decide (uptoBulkAll ds ≤ 1048576)
def OpenSpec.upto (s : _root_.Go.ChangeSpec) : _root_.Go.OpenSpec := { _root_.Go.OpenSpec.ofChange s with cond := some uptoSmall }

/-- 'laws.FnLogs', WHERE WHAT IT READS IS OF BULK AT MOST 1048576: true; the input reads as it did. -/
def fnLogsUptoRow : OpenClaim := { program := "ytnknnbpodpfljaa", sum := "f9fca70bec38923b71e020517e9ffdf065d7d912b1dd0c1e2aada88151fd9ed9", func := "loop.example/g00989/laws.FnLogs", spec := "fnLogs", inPlace := ["internal/reflectlite.ValueOf", "internal/reflectlite.Swapper", "(internal/reflectlite.Value).Len"], unfollowed := true, recurses := true, plainKeys := false, apart := false, narrowed := true }
def FnLogsUptoSaid : Prop := fnLogsUptoRow.holds Try.pinned (OpenSpec.upto fnLogsSpec)

/-- 'laws.FnExactCountFaults', WHERE WHAT IT READS IS OF BULK AT MOST 1048576: true; the input reads as it did. -/
def fnExactCountFaultsUptoRow : OpenClaim := { program := "ytnknnbpodpfljaa", sum := "f9fca70bec38923b71e020517e9ffdf065d7d912b1dd0c1e2aada88151fd9ed9", func := "loop.example/g00989/laws.FnExactCountFaults", spec := "fnExactCountFaults", inPlace := ["internal/reflectlite.ValueOf", "internal/reflectlite.Swapper", "(internal/reflectlite.Value).Len"], unfollowed := true, recurses := true, plainKeys := false, apart := false, narrowed := true }
def FnExactCountFaultsUptoSaid : Prop := fnExactCountFaultsUptoRow.holds Try.pinned (OpenSpec.upto fnExactCountFaultsSpec)

/-- 'laws.FnExactNextRepair', WHERE WHAT IT READS IS OF BULK AT MOST 1048576: true; the input reads as it did. -/
def fnExactNextRepairUptoRow : OpenClaim := { program := "ytnknnbpodpfljaa", sum := "f9fca70bec38923b71e020517e9ffdf065d7d912b1dd0c1e2aada88151fd9ed9", func := "loop.example/g00989/laws.FnExactNextRepair", spec := "fnExactNextRepair", inPlace := ["internal/reflectlite.ValueOf", "internal/reflectlite.Swapper", "(internal/reflectlite.Value).Len"], unfollowed := true, recurses := true, plainKeys := false, apart := false, narrowed := true }
def FnExactNextRepairUptoSaid : Prop := fnExactNextRepairUptoRow.holds Try.pinned (OpenSpec.upto fnExactNextRepairSpec)

/-- 'laws.FnRepairs', WHERE WHAT IT READS IS OF BULK AT MOST 1048576: true; the input reads as it did. -/
def fnRepairsUptoRow : OpenClaim := { program := "ytnknnbpodpfljaa", sum := "f9fca70bec38923b71e020517e9ffdf065d7d912b1dd0c1e2aada88151fd9ed9", func := "loop.example/g00989/laws.FnRepairs", spec := "fnRepairs", inPlace := ["internal/reflectlite.ValueOf", "internal/reflectlite.Swapper", "(internal/reflectlite.Value).Len"], unfollowed := true, recurses := true, plainKeys := false, apart := false, narrowed := true }
def FnRepairsUptoSaid : Prop := fnRepairsUptoRow.holds Try.pinned (OpenSpec.upto fnRepairsSpec)

/-- 'laws.FnExactOpenFaults', WHERE WHAT IT READS IS OF BULK AT MOST 1048576: true; the input reads as it did. -/
def fnExactOpenFaultsUptoRow : OpenClaim := { program := "ytnknnbpodpfljaa", sum := "f9fca70bec38923b71e020517e9ffdf065d7d912b1dd0c1e2aada88151fd9ed9", func := "loop.example/g00989/laws.FnExactOpenFaults", spec := "fnExactOpenFaults", inPlace := ["internal/reflectlite.ValueOf", "internal/reflectlite.Swapper", "(internal/reflectlite.Value).Len"], unfollowed := true, recurses := true, plainKeys := false, apart := false, narrowed := true }
def FnExactOpenFaultsUptoSaid : Prop := fnExactOpenFaultsUptoRow.holds Try.pinned (OpenSpec.upto fnExactOpenFaultsSpec)

/-- 'laws.FnExactFaultyPipes', WHERE WHAT IT READS IS OF BULK AT MOST 1048576: true; the input reads as it did. -/
def fnExactFaultyPipesUptoRow : OpenClaim := { program := "ytnknnbpodpfljaa", sum := "f9fca70bec38923b71e020517e9ffdf065d7d912b1dd0c1e2aada88151fd9ed9", func := "loop.example/g00989/laws.FnExactFaultyPipes", spec := "fnExactFaultyPipes", inPlace := ["internal/reflectlite.ValueOf", "internal/reflectlite.Swapper", "(internal/reflectlite.Value).Len"], unfollowed := true, recurses := true, plainKeys := false, apart := false, narrowed := true }
def FnExactFaultyPipesUptoSaid : Prop := fnExactFaultyPipesUptoRow.holds Try.pinned (OpenSpec.upto fnExactFaultyPipesSpec)

/-- 'laws.FnExactRepairNext', WHERE WHAT IT READS IS OF BULK AT MOST 1048576: true; the input reads as it did. -/
def fnExactRepairNextUptoRow : OpenClaim := { program := "ytnknnbpodpfljaa", sum := "f9fca70bec38923b71e020517e9ffdf065d7d912b1dd0c1e2aada88151fd9ed9", func := "loop.example/g00989/laws.FnExactRepairNext", spec := "fnExactRepairNext", inPlace := ["internal/reflectlite.ValueOf", "internal/reflectlite.Swapper", "(internal/reflectlite.Value).Len"], unfollowed := true, recurses := true, plainKeys := false, apart := false, narrowed := true }
def FnExactRepairNextUptoSaid : Prop := fnExactRepairNextUptoRow.holds Try.pinned (OpenSpec.upto fnExactRepairNextSpec)

/-- 'laws.FnExactRepairAll', WHERE WHAT IT READS IS OF BULK AT MOST 1048576: true; the input reads as it did. -/
def fnExactRepairAllUptoRow : OpenClaim := { program := "ytnknnbpodpfljaa", sum := "f9fca70bec38923b71e020517e9ffdf065d7d912b1dd0c1e2aada88151fd9ed9", func := "loop.example/g00989/laws.FnExactRepairAll", spec := "fnExactRepairAll", inPlace := ["internal/reflectlite.ValueOf", "internal/reflectlite.Swapper", "(internal/reflectlite.Value).Len"], unfollowed := true, recurses := true, plainKeys := false, apart := false, narrowed := true }
def FnExactRepairAllUptoSaid : Prop := fnExactRepairAllUptoRow.holds Try.pinned (OpenSpec.upto fnExactRepairAllSpec)

end Rows
end Go.Proofs.Ytnknnbpodpfljaa
