/-
  No cell of these rows narrows 'for every input' (looked for: loops, veiled, ifaces, maps, wideKeys, modest, calm, conditions, laid).
  DERIVED. THE GIVEN ROWS OF THIS SEAT. 5 by the template 'for every input the law returns true; each argument reads behind the call as it read before'; 0 by the template 'total and deterministic' (their statements: YtefkbjccgajbiaaTotals.lean).
  GIVEN WITH THE SEED: the statements are not yours to turn. If you find one false, say at which input.
  Laid BY PROGRAM, IN A SANDBOX (cutbox-rows.mjs): the forced cells as the released guide's own fill.sh prints them over the translation 645e3a18898b32ae… (all of the seat's roots in one cut). By AI agents, Wed Nov 11 2026. No macro, syntax, notation, axiom, sorry.
-/
import Derived.Test.YtefkbjccgajbiaaChecked
import GoSem.Claim
import GoSem.ClaimJoined
import GoSem.ClaimMapViews
import Derived.JoinedTies
import Derived.KernelRfl
namespace Go.Proofs.Ytefkbjccgajbiaa
/- THE CELL 'sum', in the pinned program and in every row, IS THE sha256 OF THE DUMP (.gsa) THAT YtefkbjccgajbiaaProg.lean LOADS. Nothing in Lean hashes anything: it is a label: what it is worth is what the hold of that sum in a sandbox is worth. -/
noncomputable def Try.pinned : Pinned := { name := "ytefkbjccgajbiaa", sum := "645e3a18898b32ae668b75b04677621aa30851011f6690059d457e8307108519", checked := Try.checked }
namespace Rows
def none {H : Type} : Left H := { results := [], args := [] }

/-- 'laws.FnRuleLinear': WHATEVER THE INPUT: true; the input reads as it did. -/
def fnRuleLinearSpec : ChangeSpec := { name := "fnRuleLinear", fn := fun _ => fun
  | [d1, d2] => { results := [.lit (.bool true)], args := [d1, d2] }
  | _ => none }
def fnRuleLinearRow : OpenClaim := { program := "ytefkbjccgajbiaa", sum := "645e3a18898b32ae668b75b04677621aa30851011f6690059d457e8307108519", func := "loop.example/reversiblecircuits/laws.FnRuleLinear", spec := "fnRuleLinear", unfollowed := true, recurses := true, apart := false }
def FnRuleLinearSaid : Prop := fnRuleLinearRow.holds Try.pinned (OpenSpec.ofChange fnRuleLinearSpec)

/-- ITS FALSE NEIGHBOUR: 'it returns false'. Refute it at one input. -/
def fnRuleLinearWrong : ChangeSpec := { name := "fnRuleLinear", fn := fun _ => fun
  | [d1, d2] => { results := [.lit (.bool false)], args := [d1, d2] }
  | _ => none }
def FnRuleLinearWrongFalsely : Prop := fnRuleLinearRow.holds Try.pinned (OpenSpec.ofChange fnRuleLinearWrong)

/-- 'laws.FnExactRingRun': WHATEVER THE INPUT: true; the input reads as it did. -/
def fnExactRingRunSpec : ChangeSpec := { name := "fnExactRingRun", fn := fun _ => fun
  | [d1, d2, d3, d4] => { results := [.lit (.bool true)], args := [d1, d2, d3, d4] }
  | _ => none }
def fnExactRingRunRow : OpenClaim := { program := "ytefkbjccgajbiaa", sum := "645e3a18898b32ae668b75b04677621aa30851011f6690059d457e8307108519", func := "loop.example/reversiblecircuits/laws.FnExactRingRun", spec := "fnExactRingRun", unfollowed := true, recurses := true, apart := false }
def FnExactRingRunSaid : Prop := fnExactRingRunRow.holds Try.pinned (OpenSpec.ofChange fnExactRingRunSpec)

/-- ITS FALSE NEIGHBOUR: 'it returns false'. Refute it at one input. -/
def fnExactRingRunWrong : ChangeSpec := { name := "fnExactRingRun", fn := fun _ => fun
  | [d1, d2, d3, d4] => { results := [.lit (.bool false)], args := [d1, d2, d3, d4] }
  | _ => none }
def FnExactRingRunWrongFalsely : Prop := fnExactRingRunRow.holds Try.pinned (OpenSpec.ofChange fnExactRingRunWrong)

/-- 'laws.FnRuleRing': WHATEVER THE INPUT: true; the input reads as it did. -/
def fnRuleRingSpec : ChangeSpec := { name := "fnRuleRing", fn := fun _ => fun
  | [d] => { results := [.lit (.bool true)], args := [d] }
  | _ => none }
def fnRuleRingRow : OpenClaim := { program := "ytefkbjccgajbiaa", sum := "645e3a18898b32ae668b75b04677621aa30851011f6690059d457e8307108519", func := "loop.example/reversiblecircuits/laws.FnRuleRing", spec := "fnRuleRing", unfollowed := true, recurses := true, apart := false }
def FnRuleRingSaid : Prop := fnRuleRingRow.holds Try.pinned (OpenSpec.ofChange fnRuleRingSpec)

/-- ITS FALSE NEIGHBOUR: 'it returns false'. Refute it at one input. -/
def fnRuleRingWrong : ChangeSpec := { name := "fnRuleRing", fn := fun _ => fun
  | [d] => { results := [.lit (.bool false)], args := [d] }
  | _ => none }
def FnRuleRingWrongFalsely : Prop := fnRuleRingRow.holds Try.pinned (OpenSpec.ofChange fnRuleRingWrong)

/-- 'laws.FnRingRun': WHATEVER THE INPUT: true; the input reads as it did. -/
def fnRingRunSpec : ChangeSpec := { name := "fnRingRun", fn := fun _ => fun
  | [d1, d2] => { results := [.lit (.bool true)], args := [d1, d2] }
  | _ => none }
def fnRingRunRow : OpenClaim := { program := "ytefkbjccgajbiaa", sum := "645e3a18898b32ae668b75b04677621aa30851011f6690059d457e8307108519", func := "loop.example/reversiblecircuits/laws.FnRingRun", spec := "fnRingRun", unfollowed := true, recurses := true, apart := false }
def FnRingRunSaid : Prop := fnRingRunRow.holds Try.pinned (OpenSpec.ofChange fnRingRunSpec)

/-- ITS FALSE NEIGHBOUR: 'it returns false'. Refute it at one input. -/
def fnRingRunWrong : ChangeSpec := { name := "fnRingRun", fn := fun _ => fun
  | [d1, d2] => { results := [.lit (.bool false)], args := [d1, d2] }
  | _ => none }
def FnRingRunWrongFalsely : Prop := fnRingRunRow.holds Try.pinned (OpenSpec.ofChange fnRingRunWrong)

/-- 'laws.FnRingPeriod': WHATEVER THE INPUT: true; the input reads as it did. -/
def fnRingPeriodSpec : ChangeSpec := { name := "fnRingPeriod", fn := fun _ => fun
  | [d] => { results := [.lit (.bool true)], args := [d] }
  | _ => none }
def fnRingPeriodRow : OpenClaim := { program := "ytefkbjccgajbiaa", sum := "645e3a18898b32ae668b75b04677621aa30851011f6690059d457e8307108519", func := "loop.example/reversiblecircuits/laws.FnRingPeriod", spec := "fnRingPeriod", unfollowed := true, recurses := true, apart := false }
def FnRingPeriodSaid : Prop := fnRingPeriodRow.holds Try.pinned (OpenSpec.ofChange fnRingPeriodSpec)

/-- ITS FALSE NEIGHBOUR: 'it returns false'. Refute it at one input. -/
def fnRingPeriodWrong : ChangeSpec := { name := "fnRingPeriod", fn := fun _ => fun
  | [d] => { results := [.lit (.bool false)], args := [d] }
  | _ => none }
def FnRingPeriodWrongFalsely : Prop := fnRingPeriodRow.holds Try.pinned (OpenSpec.ofChange fnRingPeriodWrong)

/- THE SECOND FORM. 'bulk': how many values and letters a reading holds, each counted each time it is reached (what is shared counts as often as it is met; a slice's spare places count too). A statement '..UptoSaid' is the law's where the arguments, and the package variables that the reading takes, are together of bulk at most 1048576: NARROWER than '..Said'. Prove '..Said' where nothing that the law and all that it calls make is longer than what came in: it says more and counts as full. Else prove '..UptoSaid'. A law counts once. -/
mutual
def uptoBulk {H : Type} : DataW H → Nat
  | .lit (.string bytes) => bytes.length + 1
  | .lit _ => 1
  | .nil => 1
  | .ptr d => uptoBulk d + 1
  | .slice elems spare => uptoBulkAll elems + uptoBulkAll spare + 1
  | .agg parts => uptoBulkAll parts + 1
  | .iface _ d => uptoBulk d + 1
  | .map entries => uptoBulkEntries entries + 1
  | .held _ => 1
def uptoBulkAll {H : Type} : List (DataW H) → Nat
  | [] => 0
  | d :: r => uptoBulk d + uptoBulkAll r
def uptoBulkEntries {H : Type} : List (Lit × DataW H) → Nat
  | [] => 0
  | x :: r => uptoBulkEntry x + uptoBulkEntries r
def uptoBulkEntry {H : Type} : Lit × DataW H → Nat
  | (.string bytes, d) => bytes.length + uptoBulk d + 1
  | (_, d) => uptoBulk d + 1
 end
def uptoSmall : (H : Type) → List (DataW H) → Bool := fun _ ds => decide (uptoBulkAll ds ≤ 1048576)
def OpenSpec.upto (s : _root_.Go.ChangeSpec) : _root_.Go.OpenSpec := { _root_.Go.OpenSpec.ofChange s with cond := some uptoSmall }

/-- 'laws.FnRuleLinear', WHERE WHAT IT READS IS OF BULK AT MOST 1048576: true; the input reads as it did. -/
def fnRuleLinearUptoRow : OpenClaim := { program := "ytefkbjccgajbiaa", sum := "645e3a18898b32ae668b75b04677621aa30851011f6690059d457e8307108519", func := "loop.example/reversiblecircuits/laws.FnRuleLinear", spec := "fnRuleLinear", unfollowed := true, recurses := true, apart := false, narrowed := true }
def FnRuleLinearUptoSaid : Prop := fnRuleLinearUptoRow.holds Try.pinned (OpenSpec.upto fnRuleLinearSpec)

/-- 'laws.FnExactRingRun', WHERE WHAT IT READS IS OF BULK AT MOST 1048576: true; the input reads as it did. -/
def fnExactRingRunUptoRow : OpenClaim := { program := "ytefkbjccgajbiaa", sum := "645e3a18898b32ae668b75b04677621aa30851011f6690059d457e8307108519", func := "loop.example/reversiblecircuits/laws.FnExactRingRun", spec := "fnExactRingRun", unfollowed := true, recurses := true, apart := false, narrowed := true }
def FnExactRingRunUptoSaid : Prop := fnExactRingRunUptoRow.holds Try.pinned (OpenSpec.upto fnExactRingRunSpec)

/-- 'laws.FnRuleRing', WHERE WHAT IT READS IS OF BULK AT MOST 1048576: true; the input reads as it did. -/
def fnRuleRingUptoRow : OpenClaim := { program := "ytefkbjccgajbiaa", sum := "645e3a18898b32ae668b75b04677621aa30851011f6690059d457e8307108519", func := "loop.example/reversiblecircuits/laws.FnRuleRing", spec := "fnRuleRing", unfollowed := true, recurses := true, apart := false, narrowed := true }
def FnRuleRingUptoSaid : Prop := fnRuleRingUptoRow.holds Try.pinned (OpenSpec.upto fnRuleRingSpec)

/-- 'laws.FnRingRun', WHERE WHAT IT READS IS OF BULK AT MOST 1048576: true; the input reads as it did. -/
def fnRingRunUptoRow : OpenClaim := { program := "ytefkbjccgajbiaa", sum := "645e3a18898b32ae668b75b04677621aa30851011f6690059d457e8307108519", func := "loop.example/reversiblecircuits/laws.FnRingRun", spec := "fnRingRun", unfollowed := true, recurses := true, apart := false, narrowed := true }
def FnRingRunUptoSaid : Prop := fnRingRunUptoRow.holds Try.pinned (OpenSpec.upto fnRingRunSpec)

/-- 'laws.FnRingPeriod', WHERE WHAT IT READS IS OF BULK AT MOST 1048576: true; the input reads as it did. -/
def fnRingPeriodUptoRow : OpenClaim := { program := "ytefkbjccgajbiaa", sum := "645e3a18898b32ae668b75b04677621aa30851011f6690059d457e8307108519", func := "loop.example/reversiblecircuits/laws.FnRingPeriod", spec := "fnRingPeriod", unfollowed := true, recurses := true, apart := false, narrowed := true }
def FnRingPeriodUptoSaid : Prop := fnRingPeriodUptoRow.holds Try.pinned (OpenSpec.upto fnRingPeriodSpec)

end Rows
end Go.Proofs.Ytefkbjccgajbiaa
