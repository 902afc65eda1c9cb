/-
  No cell of these rows narrows 'for every input' (looked for: loops, veiled, ifaces, maps, wideKeys, modest, calm, conditions, laid).
  DERIVED. THE GIVEN ROWS OF THIS SEAT. 7 by the template 'for every input the law returns true; each argument reads behind the call as it read before'; 0 by the template 'total and deterministic' (their statements: YtefndlmbidiodaaTotals.lean).
  GIVEN WITH THE SEED: the statements are not yours to turn. If you find one false, say at which input.
  Laid BY PROGRAM, IN A SANDBOX (cutbox-rows.mjs): the forced cells as the released guide's own fill.sh prints them over the translation da003a06dbafac44… (all of the seat's roots in one cut). By AI agents, Wed Nov 11 2026. No macro, syntax, notation, axiom, sorry.
-/
import Derived.Test.YtefndlmbidiodaaChecked
import GoSem.Claim
import GoSem.ClaimJoined
import GoSem.ClaimMapViews
import Derived.JoinedTies
import Derived.KernelRfl
namespace Go.Proofs.Ytefndlmbidiodaa
/- THE CELL 'sum', in the pinned program and in every row, IS THE sha256 OF THE DUMP (.gsa) THAT YtefndlmbidiodaaProg.lean LOADS. Nothing in Lean hashes anything: it is a label: what it is worth is what the hold of that sum in a sandbox is worth. -/
noncomputable def Try.pinned : Pinned := { name := "ytefndlmbidiodaa", sum := "da003a06dbafac44739232a9e42733049f79409dd1f0ec27d3d6cdaa7b75b55b", checked := Try.checked }
namespace Rows
def none {H : Type} : Left H := { results := [], args := [] }

/-- 'laws.FnExactGateRun': WHATEVER THE INPUT: true; the input reads as it did. -/
def fnExactGateRunSpec : ChangeSpec := { name := "fnExactGateRun", fn := fun _ => fun
  | [d1, d2, d3] => { results := [.lit (.bool true)], args := [d1, d2, d3] }
  | _ => none }
def fnExactGateRunRow : OpenClaim := { program := "ytefndlmbidiodaa", sum := "da003a06dbafac44739232a9e42733049f79409dd1f0ec27d3d6cdaa7b75b55b", func := "loop.example/reversiblecircuits/laws.FnExactGateRun", spec := "fnExactGateRun", plainKeys := false, apart := false }
def FnExactGateRunSaid : Prop := fnExactGateRunRow.holds Try.pinned (OpenSpec.ofChange fnExactGateRunSpec)

/-- ITS FALSE NEIGHBOUR: 'it returns false'. Refute it at one input. -/
def fnExactGateRunWrong : ChangeSpec := { name := "fnExactGateRun", fn := fun _ => fun
  | [d1, d2, d3] => { results := [.lit (.bool false)], args := [d1, d2, d3] }
  | _ => none }
def FnExactGateRunWrongFalsely : Prop := fnExactGateRunRow.holds Try.pinned (OpenSpec.ofChange fnExactGateRunWrong)

/-- 'laws.FnExactCommute': WHATEVER THE INPUT: true; the input reads as it did. -/
def fnExactCommuteSpec : ChangeSpec := { name := "fnExactCommute", fn := fun _ => fun
  | [d1, d2, d3] => { results := [.lit (.bool true)], args := [d1, d2, d3] }
  | _ => none }
def fnExactCommuteRow : OpenClaim := { program := "ytefndlmbidiodaa", sum := "da003a06dbafac44739232a9e42733049f79409dd1f0ec27d3d6cdaa7b75b55b", func := "loop.example/reversiblecircuits/laws.FnExactCommute", spec := "fnExactCommute", plainKeys := false, apart := false }
def FnExactCommuteSaid : Prop := fnExactCommuteRow.holds Try.pinned (OpenSpec.ofChange fnExactCommuteSpec)

/-- ITS FALSE NEIGHBOUR: 'it returns false'. Refute it at one input. -/
def fnExactCommuteWrong : ChangeSpec := { name := "fnExactCommute", fn := fun _ => fun
  | [d1, d2, d3] => { results := [.lit (.bool false)], args := [d1, d2, d3] }
  | _ => none }
def FnExactCommuteWrongFalsely : Prop := fnExactCommuteRow.holds Try.pinned (OpenSpec.ofChange fnExactCommuteWrong)

/-- 'laws.FnExactGateMoves': WHATEVER THE INPUT: true; the input reads as it did. -/
def fnExactGateMovesSpec : ChangeSpec := { name := "fnExactGateMoves", fn := fun _ => fun
  | [d1, d2] => { results := [.lit (.bool true)], args := [d1, d2] }
  | _ => none }
def fnExactGateMovesRow : OpenClaim := { program := "ytefndlmbidiodaa", sum := "da003a06dbafac44739232a9e42733049f79409dd1f0ec27d3d6cdaa7b75b55b", func := "loop.example/reversiblecircuits/laws.FnExactGateMoves", spec := "fnExactGateMoves", plainKeys := false, apart := false }
def FnExactGateMovesSaid : Prop := fnExactGateMovesRow.holds Try.pinned (OpenSpec.ofChange fnExactGateMovesSpec)

/-- ITS FALSE NEIGHBOUR: 'it returns false'. Refute it at one input. -/
def fnExactGateMovesWrong : ChangeSpec := { name := "fnExactGateMoves", fn := fun _ => fun
  | [d1, d2] => { results := [.lit (.bool false)], args := [d1, d2] }
  | _ => none }
def FnExactGateMovesWrongFalsely : Prop := fnExactGateMovesRow.holds Try.pinned (OpenSpec.ofChange fnExactGateMovesWrong)

/-- 'laws.FnExactCircuitRun': WHATEVER THE INPUT: true; the input reads as it did. -/
def fnExactCircuitRunSpec : ChangeSpec := { name := "fnExactCircuitRun", fn := fun _ => fun
  | [d1, d2, d3] => { results := [.lit (.bool true)], args := [d1, d2, d3] }
  | _ => none }
def fnExactCircuitRunRow : OpenClaim := { program := "ytefndlmbidiodaa", sum := "da003a06dbafac44739232a9e42733049f79409dd1f0ec27d3d6cdaa7b75b55b", func := "loop.example/reversiblecircuits/laws.FnExactCircuitRun", spec := "fnExactCircuitRun", unfollowed := true, recurses := true, plainKeys := false, apart := false }
def FnExactCircuitRunSaid : Prop := fnExactCircuitRunRow.holds Try.pinned (OpenSpec.ofChange fnExactCircuitRunSpec)

/-- ITS FALSE NEIGHBOUR: 'it returns false'. Refute it at one input. -/
def fnExactCircuitRunWrong : ChangeSpec := { name := "fnExactCircuitRun", fn := fun _ => fun
  | [d1, d2, d3] => { results := [.lit (.bool false)], args := [d1, d2, d3] }
  | _ => none }
def FnExactCircuitRunWrongFalsely : Prop := fnExactCircuitRunRow.holds Try.pinned (OpenSpec.ofChange fnExactCircuitRunWrong)

/-- 'laws.FnExactSameCircuit': WHATEVER THE INPUT: true; the input reads as it did. -/
def fnExactSameCircuitSpec : ChangeSpec := { name := "fnExactSameCircuit", fn := fun _ => fun
  | [d1, d2, d3] => { results := [.lit (.bool true)], args := [d1, d2, d3] }
  | _ => none }
def fnExactSameCircuitRow : OpenClaim := { program := "ytefndlmbidiodaa", sum := "da003a06dbafac44739232a9e42733049f79409dd1f0ec27d3d6cdaa7b75b55b", func := "loop.example/reversiblecircuits/laws.FnExactSameCircuit", spec := "fnExactSameCircuit", unfollowed := true, recurses := true, plainKeys := false, apart := false }
def FnExactSameCircuitSaid : Prop := fnExactSameCircuitRow.holds Try.pinned (OpenSpec.ofChange fnExactSameCircuitSpec)

/-- ITS FALSE NEIGHBOUR: 'it returns false'. Refute it at one input. -/
def fnExactSameCircuitWrong : ChangeSpec := { name := "fnExactSameCircuit", fn := fun _ => fun
  | [d1, d2, d3] => { results := [.lit (.bool false)], args := [d1, d2, d3] }
  | _ => none }
def FnExactSameCircuitWrongFalsely : Prop := fnExactSameCircuitRow.holds Try.pinned (OpenSpec.ofChange fnExactSameCircuitWrong)

/-- 'laws.FnExactCircuitTable': WHATEVER THE INPUT: true; the input reads as it did. -/
def fnExactCircuitTableSpec : ChangeSpec := { name := "fnExactCircuitTable", fn := fun _ => fun
  | [d1, d2] => { results := [.lit (.bool true)], args := [d1, d2] }
  | _ => none }
def fnExactCircuitTableRow : OpenClaim := { program := "ytefndlmbidiodaa", sum := "da003a06dbafac44739232a9e42733049f79409dd1f0ec27d3d6cdaa7b75b55b", func := "loop.example/reversiblecircuits/laws.FnExactCircuitTable", spec := "fnExactCircuitTable", unfollowed := true, recurses := true, plainKeys := false, apart := false }
def FnExactCircuitTableSaid : Prop := fnExactCircuitTableRow.holds Try.pinned (OpenSpec.ofChange fnExactCircuitTableSpec)

/-- ITS FALSE NEIGHBOUR: 'it returns false'. Refute it at one input. -/
def fnExactCircuitTableWrong : ChangeSpec := { name := "fnExactCircuitTable", fn := fun _ => fun
  | [d1, d2] => { results := [.lit (.bool false)], args := [d1, d2] }
  | _ => none }
def FnExactCircuitTableWrongFalsely : Prop := fnExactCircuitTableRow.holds Try.pinned (OpenSpec.ofChange fnExactCircuitTableWrong)

/-- 'laws.FnExactLeastTwo': WHATEVER THE INPUT: true; the input reads as it did. -/
def fnExactLeastTwoSpec : ChangeSpec := { name := "fnExactLeastTwo", fn := fun _ => fun
  | [d] => { results := [.lit (.bool true)], args := [d] }
  | _ => none }
def fnExactLeastTwoRow : OpenClaim := { program := "ytefndlmbidiodaa", sum := "da003a06dbafac44739232a9e42733049f79409dd1f0ec27d3d6cdaa7b75b55b", func := "loop.example/reversiblecircuits/laws.FnExactLeastTwo", spec := "fnExactLeastTwo", plainKeys := false, apart := false }
def FnExactLeastTwoSaid : Prop := fnExactLeastTwoRow.holds Try.pinned (OpenSpec.ofChange fnExactLeastTwoSpec)

/-- ITS FALSE NEIGHBOUR: 'it returns false'. Refute it at one input. -/
def fnExactLeastTwoWrong : ChangeSpec := { name := "fnExactLeastTwo", fn := fun _ => fun
  | [d] => { results := [.lit (.bool false)], args := [d] }
  | _ => none }
def FnExactLeastTwoWrongFalsely : Prop := fnExactLeastTwoRow.holds Try.pinned (OpenSpec.ofChange fnExactLeastTwoWrong)

/- THE SECOND FORM. 'bulk': how many values and letters a reading holds, each counted each time it is reached (what is shared counts as often as it is met; a slice's spare places count too). A statement '..UptoSaid' is the law's where the arguments, and the package variables that the reading takes, are together of bulk at most 1048576: NARROWER than '..Said'. Prove '..Said' where nothing that the law and all that it calls make is longer than what came in: it says more and counts as full. Else prove '..UptoSaid'. A law counts once. -/
mutual
def uptoBulk {H : Type} : DataW H → Nat
  | .lit (.string bytes) => bytes.length + 1
  | .lit _ => 1
  | .nil => 1
  | .ptr d => uptoBulk d + 1
  | .slice elems spare => uptoBulkAll elems + uptoBulkAll spare + 1
  | .agg parts => uptoBulkAll parts + 1
  | .iface _ d => uptoBulk d + 1
  | .map entries => uptoBulkEntries entries + 1
  | .held _ => 1
def uptoBulkAll {H : Type} : List (DataW H) → Nat
  | [] => 0
  | d :: r => uptoBulk d + uptoBulkAll r
def uptoBulkEntries {H : Type} : List (Lit × DataW H) → Nat
  | [] => 0
  | x :: r => uptoBulkEntry x + uptoBulkEntries r
def uptoBulkEntry {H : Type} : Lit × DataW H → Nat
  | (.string bytes, d) => bytes.length + uptoBulk d + 1
  | (_, d) => uptoBulk d + 1
 end
def uptoSmall : (H : Type) → List (DataW H) → Bool := fun _ ds => decide (uptoBulkAll ds ≤ 1048576)
def OpenSpec.upto (s : _root_.Go.ChangeSpec) : _root_.Go.OpenSpec := { _root_.Go.OpenSpec.ofChange s with cond := some uptoSmall }

/-- 'laws.FnExactGateRun', WHERE WHAT IT READS IS OF BULK AT MOST 1048576: true; the input reads as it did. -/
def fnExactGateRunUptoRow : OpenClaim := { program := "ytefndlmbidiodaa", sum := "da003a06dbafac44739232a9e42733049f79409dd1f0ec27d3d6cdaa7b75b55b", func := "loop.example/reversiblecircuits/laws.FnExactGateRun", spec := "fnExactGateRun", plainKeys := false, apart := false, narrowed := true }
def FnExactGateRunUptoSaid : Prop := fnExactGateRunUptoRow.holds Try.pinned (OpenSpec.upto fnExactGateRunSpec)

/-- 'laws.FnExactCommute', WHERE WHAT IT READS IS OF BULK AT MOST 1048576: true; the input reads as it did. -/
def fnExactCommuteUptoRow : OpenClaim := { program := "ytefndlmbidiodaa", sum := "da003a06dbafac44739232a9e42733049f79409dd1f0ec27d3d6cdaa7b75b55b", func := "loop.example/reversiblecircuits/laws.FnExactCommute", spec := "fnExactCommute", plainKeys := false, apart := false, narrowed := true }
def FnExactCommuteUptoSaid : Prop := fnExactCommuteUptoRow.holds Try.pinned (OpenSpec.upto fnExactCommuteSpec)

/-- 'laws.FnExactGateMoves', WHERE WHAT IT READS IS OF BULK AT MOST 1048576: true; the input reads as it did. -/
def fnExactGateMovesUptoRow : OpenClaim := { program := "ytefndlmbidiodaa", sum := "da003a06dbafac44739232a9e42733049f79409dd1f0ec27d3d6cdaa7b75b55b", func := "loop.example/reversiblecircuits/laws.FnExactGateMoves", spec := "fnExactGateMoves", plainKeys := false, apart := false, narrowed := true }
def FnExactGateMovesUptoSaid : Prop := fnExactGateMovesUptoRow.holds Try.pinned (OpenSpec.upto fnExactGateMovesSpec)

/-- 'laws.FnExactCircuitRun', WHERE WHAT IT READS IS OF BULK AT MOST 1048576: true; the input reads as it did. -/
def fnExactCircuitRunUptoRow : OpenClaim := { program := "ytefndlmbidiodaa", sum := "da003a06dbafac44739232a9e42733049f79409dd1f0ec27d3d6cdaa7b75b55b", func := "loop.example/reversiblecircuits/laws.FnExactCircuitRun", spec := "fnExactCircuitRun", unfollowed := true, recurses := true, plainKeys := false, apart := false, narrowed := true }
def FnExactCircuitRunUptoSaid : Prop := fnExactCircuitRunUptoRow.holds Try.pinned (OpenSpec.upto fnExactCircuitRunSpec)

/-- 'laws.FnExactSameCircuit', WHERE WHAT IT READS IS OF BULK AT MOST 1048576: true; the input reads as it did. -/
def fnExactSameCircuitUptoRow : OpenClaim := { program := "ytefndlmbidiodaa", sum := "da003a06dbafac44739232a9e42733049f79409dd1f0ec27d3d6cdaa7b75b55b", func := "loop.example/reversiblecircuits/laws.FnExactSameCircuit", spec := "fnExactSameCircuit", unfollowed := true, recurses := true, plainKeys := false, apart := false, narrowed := true }
def FnExactSameCircuitUptoSaid : Prop := fnExactSameCircuitUptoRow.holds Try.pinned (OpenSpec.upto fnExactSameCircuitSpec)

/-- 'laws.FnExactCircuitTable', WHERE WHAT IT READS IS OF BULK AT MOST 1048576: true; the input reads as it did. -/
def fnExactCircuitTableUptoRow : OpenClaim := { program := "ytefndlmbidiodaa", sum := "da003a06dbafac44739232a9e42733049f79409dd1f0ec27d3d6cdaa7b75b55b", func := "loop.example/reversiblecircuits/laws.FnExactCircuitTable", spec := "fnExactCircuitTable", unfollowed := true, recurses := true, plainKeys := false, apart := false, narrowed := true }
def FnExactCircuitTableUptoSaid : Prop := fnExactCircuitTableUptoRow.holds Try.pinned (OpenSpec.upto fnExactCircuitTableSpec)

/-- 'laws.FnExactLeastTwo', WHERE WHAT IT READS IS OF BULK AT MOST 1048576: true; the input reads as it did. -/
def fnExactLeastTwoUptoRow : OpenClaim := { program := "ytefndlmbidiodaa", sum := "da003a06dbafac44739232a9e42733049f79409dd1f0ec27d3d6cdaa7b75b55b", func := "loop.example/reversiblecircuits/laws.FnExactLeastTwo", spec := "fnExactLeastTwo", plainKeys := false, apart := false, narrowed := true }
def FnExactLeastTwoUptoSaid : Prop := fnExactLeastTwoUptoRow.holds Try.pinned (OpenSpec.upto fnExactLeastTwoSpec)

end Rows
end Go.Proofs.Ytefndlmbidiodaa
