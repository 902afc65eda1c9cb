/-
  No cell of these rows narrows 'for every input' (looked for: loops, veiled, ifaces, maps, wideKeys, modest, calm, conditions, laid).
  DERIVED. THE GIVEN ROWS OF THIS SEAT. 7 by the template 'for every input the law returns true; each argument reads behind the call as it read before'; 0 by the template 'total and deterministic' (their statements: YtdkphnojloanoaaTotals.lean).
  GIVEN WITH THE SEED: the statements are not yours to turn. If you find one false, say at which input.
  Laid BY PROGRAM, IN A SANDBOX (cutbox-rows.mjs): the forced cells as the released guide's own fill.sh prints them over the translation ff9b569c196c0295… (all of the seat's roots in one cut). By AI agents, Wed Nov 11 2026. No macro, syntax, notation, axiom, sorry.
-/
import Derived.Test.YtdkphnojloanoaaChecked
import GoSem.Claim
import GoSem.ClaimJoined
import GoSem.ClaimMapViews
import Derived.JoinedTies
import Derived.KernelRfl
namespace Go.Proofs.Ytdkphnojloanoaa
/- THE CELL 'sum', in the pinned program and in every row, IS THE sha256 OF THE DUMP (.gsa) THAT YtdkphnojloanoaaProg.lean LOADS. Nothing in Lean hashes anything: it is a label: what it is worth is what the hold of that sum in a sandbox is worth. -/
noncomputable def Try.pinned : Pinned := { name := "ytdkphnojloanoaa", sum := "ff9b569c196c02952c5feaa537668a7c001f3f44ac1537c72193f43f9766047f", checked := Try.checked }
namespace Rows
def none {H : Type} : Left H := { results := [], args := [] }

/-- 'laws.FnRipple': WHATEVER THE INPUT: true; the input reads as it did. -/
def fnRippleSpec : ChangeSpec := { name := "fnRipple", fn := fun _ => fun
  | [d] => { results := [.lit (.bool true)], args := [d] }
  | _ => none }
def fnRippleRow : OpenClaim := { program := "ytdkphnojloanoaa", sum := "ff9b569c196c02952c5feaa537668a7c001f3f44ac1537c72193f43f9766047f", func := "loop.example/reversiblecircuits/laws.FnRipple", spec := "fnRipple", unfollowed := true, recurses := true, apart := false }
def FnRippleSaid : Prop := fnRippleRow.holds Try.pinned (OpenSpec.ofChange fnRippleSpec)

/-- ITS FALSE NEIGHBOUR: 'it returns false'. Refute it at one input. -/
def fnRippleWrong : ChangeSpec := { name := "fnRipple", fn := fun _ => fun
  | [d] => { results := [.lit (.bool false)], args := [d] }
  | _ => none }
def FnRippleWrongFalsely : Prop := fnRippleRow.holds Try.pinned (OpenSpec.ofChange fnRippleWrong)

/-- 'laws.FnKeeps': WHATEVER THE INPUT: true; the input reads as it did. -/
def fnKeepsSpec : ChangeSpec := { name := "fnKeeps", fn := fun _ => fun
  | [d] => { results := [.lit (.bool true)], args := [d] }
  | _ => none }
def fnKeepsRow : OpenClaim := { program := "ytdkphnojloanoaa", sum := "ff9b569c196c02952c5feaa537668a7c001f3f44ac1537c72193f43f9766047f", func := "loop.example/reversiblecircuits/laws.FnKeeps", spec := "fnKeeps", apart := false }
def FnKeepsSaid : Prop := fnKeepsRow.holds Try.pinned (OpenSpec.ofChange fnKeepsSpec)

/-- ITS FALSE NEIGHBOUR: 'it returns false'. Refute it at one input. -/
def fnKeepsWrong : ChangeSpec := { name := "fnKeeps", fn := fun _ => fun
  | [d] => { results := [.lit (.bool false)], args := [d] }
  | _ => none }
def FnKeepsWrongFalsely : Prop := fnKeepsRow.holds Try.pinned (OpenSpec.ofChange fnKeepsWrong)

/-- 'laws.FnStepGates': WHATEVER THE INPUT: true; the input reads as it did. -/
def fnStepGatesSpec : ChangeSpec := { name := "fnStepGates", fn := fun _ => fun
  | [d] => { results := [.lit (.bool true)], args := [d] }
  | _ => none }
def fnStepGatesRow : OpenClaim := { program := "ytdkphnojloanoaa", sum := "ff9b569c196c02952c5feaa537668a7c001f3f44ac1537c72193f43f9766047f", func := "loop.example/reversiblecircuits/laws.FnStepGates", spec := "fnStepGates", unfollowed := true, recurses := true, apart := false }
def FnStepGatesSaid : Prop := fnStepGatesRow.holds Try.pinned (OpenSpec.ofChange fnStepGatesSpec)

/-- ITS FALSE NEIGHBOUR: 'it returns false'. Refute it at one input. -/
def fnStepGatesWrong : ChangeSpec := { name := "fnStepGates", fn := fun _ => fun
  | [d] => { results := [.lit (.bool false)], args := [d] }
  | _ => none }
def FnStepGatesWrongFalsely : Prop := fnStepGatesRow.holds Try.pinned (OpenSpec.ofChange fnStepGatesWrong)

/-- 'laws.FnGateMoves': WHATEVER THE INPUT: true; the input reads as it did. -/
def fnGateMovesSpec : ChangeSpec := { name := "fnGateMoves", fn := fun _ => fun
  | [d] => { results := [.lit (.bool true)], args := [d] }
  | _ => none }
def fnGateMovesRow : OpenClaim := { program := "ytdkphnojloanoaa", sum := "ff9b569c196c02952c5feaa537668a7c001f3f44ac1537c72193f43f9766047f", func := "loop.example/reversiblecircuits/laws.FnGateMoves", spec := "fnGateMoves", apart := false }
def FnGateMovesSaid : Prop := fnGateMovesRow.holds Try.pinned (OpenSpec.ofChange fnGateMovesSpec)

/-- ITS FALSE NEIGHBOUR: 'it returns false'. Refute it at one input. -/
def fnGateMovesWrong : ChangeSpec := { name := "fnGateMoves", fn := fun _ => fun
  | [d] => { results := [.lit (.bool false)], args := [d] }
  | _ => none }
def FnGateMovesWrongFalsely : Prop := fnGateMovesRow.holds Try.pinned (OpenSpec.ofChange fnGateMovesWrong)

/-- 'laws.FnCommute': WHATEVER THE INPUT: true; the input reads as it did. -/
def fnCommuteSpec : ChangeSpec := { name := "fnCommute", fn := fun _ => fun
  | [d] => { results := [.lit (.bool true)], args := [d] }
  | _ => none }
def fnCommuteRow : OpenClaim := { program := "ytdkphnojloanoaa", sum := "ff9b569c196c02952c5feaa537668a7c001f3f44ac1537c72193f43f9766047f", func := "loop.example/reversiblecircuits/laws.FnCommute", spec := "fnCommute", apart := false }
def FnCommuteSaid : Prop := fnCommuteRow.holds Try.pinned (OpenSpec.ofChange fnCommuteSpec)

/-- ITS FALSE NEIGHBOUR: 'it returns false'. Refute it at one input. -/
def fnCommuteWrong : ChangeSpec := { name := "fnCommute", fn := fun _ => fun
  | [d] => { results := [.lit (.bool false)], args := [d] }
  | _ => none }
def FnCommuteWrongFalsely : Prop := fnCommuteRow.holds Try.pinned (OpenSpec.ofChange fnCommuteWrong)

/-- 'laws.FnGateRun': WHATEVER THE INPUT: true; the input reads as it did. -/
def fnGateRunSpec : ChangeSpec := { name := "fnGateRun", fn := fun _ => fun
  | [d] => { results := [.lit (.bool true)], args := [d] }
  | _ => none }
def fnGateRunRow : OpenClaim := { program := "ytdkphnojloanoaa", sum := "ff9b569c196c02952c5feaa537668a7c001f3f44ac1537c72193f43f9766047f", func := "loop.example/reversiblecircuits/laws.FnGateRun", spec := "fnGateRun", apart := false }
def FnGateRunSaid : Prop := fnGateRunRow.holds Try.pinned (OpenSpec.ofChange fnGateRunSpec)

/-- ITS FALSE NEIGHBOUR: 'it returns false'. Refute it at one input. -/
def fnGateRunWrong : ChangeSpec := { name := "fnGateRun", fn := fun _ => fun
  | [d] => { results := [.lit (.bool false)], args := [d] }
  | _ => none }
def FnGateRunWrongFalsely : Prop := fnGateRunRow.holds Try.pinned (OpenSpec.ofChange fnGateRunWrong)

/-- 'laws.FnCircuitJoin': WHATEVER THE INPUT: true; the input reads as it did. -/
def fnCircuitJoinSpec : ChangeSpec := { name := "fnCircuitJoin", fn := fun _ => fun
  | [d] => { results := [.lit (.bool true)], args := [d] }
  | _ => none }
def fnCircuitJoinRow : OpenClaim := { program := "ytdkphnojloanoaa", sum := "ff9b569c196c02952c5feaa537668a7c001f3f44ac1537c72193f43f9766047f", func := "loop.example/reversiblecircuits/laws.FnCircuitJoin", spec := "fnCircuitJoin", unfollowed := true, recurses := true, apart := false }
def FnCircuitJoinSaid : Prop := fnCircuitJoinRow.holds Try.pinned (OpenSpec.ofChange fnCircuitJoinSpec)

/-- ITS FALSE NEIGHBOUR: 'it returns false'. Refute it at one input. -/
def fnCircuitJoinWrong : ChangeSpec := { name := "fnCircuitJoin", fn := fun _ => fun
  | [d] => { results := [.lit (.bool false)], args := [d] }
  | _ => none }
def FnCircuitJoinWrongFalsely : Prop := fnCircuitJoinRow.holds Try.pinned (OpenSpec.ofChange fnCircuitJoinWrong)

/- THE SECOND FORM. 'bulk': how many values and letters a reading holds, each counted each time it is reached (what is shared counts as often as it is met; a slice's spare places count too). A statement '..UptoSaid' is the law's where the arguments, and the package variables that the reading takes, are together of bulk at most 1048576: NARROWER than '..Said'. Prove '..Said' where nothing that the law and all that it calls make is longer than what came in: it says more and counts as full. Else prove '..UptoSaid'. A law counts once. -/
mutual
def uptoBulk {H : Type} : DataW H → Nat
  | .lit (.string bytes) => bytes.length + 1
  | .lit _ => 1
  | .nil => 1
  | .ptr d => uptoBulk d + 1
  | .slice elems spare => uptoBulkAll elems + uptoBulkAll spare + 1
  | .agg parts => uptoBulkAll parts + 1
  | .iface _ d => uptoBulk d + 1
  | .map entries => uptoBulkEntries entries + 1
  | .held _ => 1
def uptoBulkAll {H : Type} : List (DataW H) → Nat
  | [] => 0
  | d :: r => uptoBulk d + uptoBulkAll r
def uptoBulkEntries {H : Type} : List (Lit × DataW H) → Nat
  | [] => 0
  | x :: r => uptoBulkEntry x + uptoBulkEntries r
def uptoBulkEntry {H : Type} : Lit × DataW H → Nat
  | (.string bytes, d) => bytes.length + uptoBulk d + 1
  | (_, d) => uptoBulk d + 1
 end
def uptoSmall : (H : Type) → List (DataW H) → Bool := fun _ ds => decide (uptoBulkAll ds ≤ 1048576)
def OpenSpec.upto (s : _root_.Go.ChangeSpec) : _root_.Go.OpenSpec := { _root_.Go.OpenSpec.ofChange s with cond := some uptoSmall }

/-- 'laws.FnRipple', WHERE WHAT IT READS IS OF BULK AT MOST 1048576: true; the input reads as it did. -/
def fnRippleUptoRow : OpenClaim := { program := "ytdkphnojloanoaa", sum := "ff9b569c196c02952c5feaa537668a7c001f3f44ac1537c72193f43f9766047f", func := "loop.example/reversiblecircuits/laws.FnRipple", spec := "fnRipple", unfollowed := true, recurses := true, apart := false, narrowed := true }
def FnRippleUptoSaid : Prop := fnRippleUptoRow.holds Try.pinned (OpenSpec.upto fnRippleSpec)

/-- 'laws.FnKeeps', WHERE WHAT IT READS IS OF BULK AT MOST 1048576: true; the input reads as it did. -/
def fnKeepsUptoRow : OpenClaim := { program := "ytdkphnojloanoaa", sum := "ff9b569c196c02952c5feaa537668a7c001f3f44ac1537c72193f43f9766047f", func := "loop.example/reversiblecircuits/laws.FnKeeps", spec := "fnKeeps", apart := false, narrowed := true }
def FnKeepsUptoSaid : Prop := fnKeepsUptoRow.holds Try.pinned (OpenSpec.upto fnKeepsSpec)

/-- 'laws.FnStepGates', WHERE WHAT IT READS IS OF BULK AT MOST 1048576: true; the input reads as it did. -/
def fnStepGatesUptoRow : OpenClaim := { program := "ytdkphnojloanoaa", sum := "ff9b569c196c02952c5feaa537668a7c001f3f44ac1537c72193f43f9766047f", func := "loop.example/reversiblecircuits/laws.FnStepGates", spec := "fnStepGates", unfollowed := true, recurses := true, apart := false, narrowed := true }
def FnStepGatesUptoSaid : Prop := fnStepGatesUptoRow.holds Try.pinned (OpenSpec.upto fnStepGatesSpec)

/-- 'laws.FnGateMoves', WHERE WHAT IT READS IS OF BULK AT MOST 1048576: true; the input reads as it did. -/
def fnGateMovesUptoRow : OpenClaim := { program := "ytdkphnojloanoaa", sum := "ff9b569c196c02952c5feaa537668a7c001f3f44ac1537c72193f43f9766047f", func := "loop.example/reversiblecircuits/laws.FnGateMoves", spec := "fnGateMoves", apart := false, narrowed := true }
def FnGateMovesUptoSaid : Prop := fnGateMovesUptoRow.holds Try.pinned (OpenSpec.upto fnGateMovesSpec)

/-- 'laws.FnCommute', WHERE WHAT IT READS IS OF BULK AT MOST 1048576: true; the input reads as it did. -/
def fnCommuteUptoRow : OpenClaim := { program := "ytdkphnojloanoaa", sum := "ff9b569c196c02952c5feaa537668a7c001f3f44ac1537c72193f43f9766047f", func := "loop.example/reversiblecircuits/laws.FnCommute", spec := "fnCommute", apart := false, narrowed := true }
def FnCommuteUptoSaid : Prop := fnCommuteUptoRow.holds Try.pinned (OpenSpec.upto fnCommuteSpec)

/-- 'laws.FnGateRun', WHERE WHAT IT READS IS OF BULK AT MOST 1048576: true; the input reads as it did. -/
def fnGateRunUptoRow : OpenClaim := { program := "ytdkphnojloanoaa", sum := "ff9b569c196c02952c5feaa537668a7c001f3f44ac1537c72193f43f9766047f", func := "loop.example/reversiblecircuits/laws.FnGateRun", spec := "fnGateRun", apart := false, narrowed := true }
def FnGateRunUptoSaid : Prop := fnGateRunUptoRow.holds Try.pinned (OpenSpec.upto fnGateRunSpec)

/-- 'laws.FnCircuitJoin', WHERE WHAT IT READS IS OF BULK AT MOST 1048576: true; the input reads as it did. -/
def fnCircuitJoinUptoRow : OpenClaim := { program := "ytdkphnojloanoaa", sum := "ff9b569c196c02952c5feaa537668a7c001f3f44ac1537c72193f43f9766047f", func := "loop.example/reversiblecircuits/laws.FnCircuitJoin", spec := "fnCircuitJoin", unfollowed := true, recurses := true, apart := false, narrowed := true }
def FnCircuitJoinUptoSaid : Prop := fnCircuitJoinUptoRow.holds Try.pinned (OpenSpec.upto fnCircuitJoinSpec)

end Rows
end Go.Proofs.Ytdkphnojloanoaa
