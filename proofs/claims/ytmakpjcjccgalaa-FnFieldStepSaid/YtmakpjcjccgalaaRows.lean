/-
  No cell of these rows narrows 'for every input' (looked for: loops, veiled, ifaces, maps, wideKeys, modest, calm, conditions, laid).
  DERIVED. THE GIVEN ROWS OF THIS SEAT. 4 by the template 'for every input the law returns true; each argument reads behind the call as it read before'; 0 by the template 'total and deterministic' (their statements: YtmakpjcjccgalaaTotals.lean).
  GIVEN WITH THE SEED: the statements are not yours to turn. If you find one false, say at which input.
  Laid BY PROGRAM, IN A SANDBOX (cutbox-rows.mjs): the forced cells as the released guide's own fill.sh prints them over the translation 6282a1d4c223a1d1… (all of the seat's roots in one cut). By AI agents, Wed Nov 11 2026. No macro, syntax, notation, axiom, sorry.
-/
import Derived.Test.YtmakpjcjccgalaaChecked
import GoSem.Claim
import GoSem.ClaimJoined
import GoSem.ClaimMapViews
import Derived.JoinedTies
import Derived.KernelRfl
namespace Go.Proofs.Ytmakpjcjccgalaa
/- THE CELL 'sum', in the pinned program and in every row, IS THE sha256 OF THE DUMP (.gsa) THAT YtmakpjcjccgalaaProg.lean LOADS. Nothing in Lean hashes anything: it is a label: what it is worth is what the hold of that sum in a sandbox is worth. -/
noncomputable def Try.pinned : Pinned := { name := "ytmakpjcjccgalaa", sum := "6282a1d4c223a1d183a5891cfe50d99473abe7d205b023ff4e155d12a7cf0f47", checked := Try.checked }
namespace Rows
def none {H : Type} : Left H := { results := [], args := [] }

/-- 'laws.FnBallsMany': WHATEVER THE INPUT: true; the input reads as it did. -/
def fnBallsManySpec : ChangeSpec := { name := "fnBallsMany", fn := fun _ => fun
  | [d] => { results := [.lit (.bool true)], args := [d] }
  | _ => none }
def fnBallsManyRow : OpenClaim := { program := "ytmakpjcjccgalaa", sum := "6282a1d4c223a1d183a5891cfe50d99473abe7d205b023ff4e155d12a7cf0f47", func := "loop.example/reversiblecircuits/laws.FnBallsMany", spec := "fnBallsMany", unfollowed := true, recurses := true, apart := false }
def FnBallsManySaid : Prop := fnBallsManyRow.holds Try.pinned (OpenSpec.ofChange fnBallsManySpec)

/-- ITS FALSE NEIGHBOUR: 'it returns false'. Refute it at one input. -/
def fnBallsManyWrong : ChangeSpec := { name := "fnBallsMany", fn := fun _ => fun
  | [d] => { results := [.lit (.bool false)], args := [d] }
  | _ => none }
def FnBallsManyWrongFalsely : Prop := fnBallsManyRow.holds Try.pinned (OpenSpec.ofChange fnBallsManyWrong)

/-- 'laws.FnExactFieldBack': WHATEVER THE INPUT: true; the input reads as it did. -/
def fnExactFieldBackSpec : ChangeSpec := { name := "fnExactFieldBack", fn := fun _ => fun
  | [d] => { results := [.lit (.bool true)], args := [d] }
  | _ => none }
def fnExactFieldBackRow : OpenClaim := { program := "ytmakpjcjccgalaa", sum := "6282a1d4c223a1d183a5891cfe50d99473abe7d205b023ff4e155d12a7cf0f47", func := "loop.example/reversiblecircuits/laws.FnExactFieldBack", spec := "fnExactFieldBack", unfollowed := true, recurses := true, apart := false }
def FnExactFieldBackSaid : Prop := fnExactFieldBackRow.holds Try.pinned (OpenSpec.ofChange fnExactFieldBackSpec)

/-- ITS FALSE NEIGHBOUR: 'it returns false'. Refute it at one input. -/
def fnExactFieldBackWrong : ChangeSpec := { name := "fnExactFieldBack", fn := fun _ => fun
  | [d] => { results := [.lit (.bool false)], args := [d] }
  | _ => none }
def FnExactFieldBackWrongFalsely : Prop := fnExactFieldBackRow.holds Try.pinned (OpenSpec.ofChange fnExactFieldBackWrong)

/-- 'laws.FnFieldBack': WHATEVER THE INPUT: true; the input reads as it did. -/
def fnFieldBackSpec : ChangeSpec := { name := "fnFieldBack", fn := fun _ => fun
  | [d] => { results := [.lit (.bool true)], args := [d] }
  | _ => none }
def fnFieldBackRow : OpenClaim := { program := "ytmakpjcjccgalaa", sum := "6282a1d4c223a1d183a5891cfe50d99473abe7d205b023ff4e155d12a7cf0f47", func := "loop.example/reversiblecircuits/laws.FnFieldBack", spec := "fnFieldBack", unfollowed := true, recurses := true, apart := false }
def FnFieldBackSaid : Prop := fnFieldBackRow.holds Try.pinned (OpenSpec.ofChange fnFieldBackSpec)

/-- ITS FALSE NEIGHBOUR: 'it returns false'. Refute it at one input. -/
def fnFieldBackWrong : ChangeSpec := { name := "fnFieldBack", fn := fun _ => fun
  | [d] => { results := [.lit (.bool false)], args := [d] }
  | _ => none }
def FnFieldBackWrongFalsely : Prop := fnFieldBackRow.holds Try.pinned (OpenSpec.ofChange fnFieldBackWrong)

/-- 'laws.FnFieldStep': WHATEVER THE INPUT: true; the input reads as it did. -/
def fnFieldStepSpec : ChangeSpec := { name := "fnFieldStep", fn := fun _ => fun
  | [d] => { results := [.lit (.bool true)], args := [d] }
  | _ => none }
def fnFieldStepRow : OpenClaim := { program := "ytmakpjcjccgalaa", sum := "6282a1d4c223a1d183a5891cfe50d99473abe7d205b023ff4e155d12a7cf0f47", func := "loop.example/reversiblecircuits/laws.FnFieldStep", spec := "fnFieldStep", unfollowed := true, recurses := true, apart := false }
def FnFieldStepSaid : Prop := fnFieldStepRow.holds Try.pinned (OpenSpec.ofChange fnFieldStepSpec)

/-- ITS FALSE NEIGHBOUR: 'it returns false'. Refute it at one input. -/
def fnFieldStepWrong : ChangeSpec := { name := "fnFieldStep", fn := fun _ => fun
  | [d] => { results := [.lit (.bool false)], args := [d] }
  | _ => none }
def FnFieldStepWrongFalsely : Prop := fnFieldStepRow.holds Try.pinned (OpenSpec.ofChange fnFieldStepWrong)

/- THE SECOND FORM. 'bulk': how many values and letters a reading holds, each counted each time it is reached (what is shared counts as often as it is met; a slice's spare places count too). A statement '..UptoSaid' is the law's where the arguments, and the package variables that the reading takes, are together of bulk at most 1048576: NARROWER than '..Said'. Prove '..Said' where nothing that the law and all that it calls make is longer than what came in: it says more and counts as full. Else prove '..UptoSaid'. A law counts once. -/
mutual
def uptoBulk {H : Type} : DataW H → Nat
  | .lit (.string bytes) => bytes.length + 1
  | .lit _ => 1
  | .nil => 1
  | .ptr d => uptoBulk d + 1
  | .slice elems spare => uptoBulkAll elems + uptoBulkAll spare + 1
  | .agg parts => uptoBulkAll parts + 1
  | .iface _ d => uptoBulk d + 1
  | .map entries => uptoBulkEntries entries + 1
  | .held _ => 1
def uptoBulkAll {H : Type} : List (DataW H) → Nat
  | [] => 0
  | d :: r => uptoBulk d + uptoBulkAll r
def uptoBulkEntries {H : Type} : List (Lit × DataW H) → Nat
  | [] => 0
  | x :: r => uptoBulkEntry x + uptoBulkEntries r
def uptoBulkEntry {H : Type} : Lit × DataW H → Nat
  | (.string bytes, d) => bytes.length + uptoBulk d + 1
  | (_, d) => uptoBulk d + 1
 end
def uptoSmall : (H : Type) → List (DataW H) → Bool := fun _ ds => decide (uptoBulkAll ds ≤ 1048576)
def OpenSpec.upto (s : _root_.Go.ChangeSpec) : _root_.Go.OpenSpec := { _root_.Go.OpenSpec.ofChange s with cond := some uptoSmall }

/-- 'laws.FnBallsMany', WHERE WHAT IT READS IS OF BULK AT MOST 1048576: true; the input reads as it did. -/
def fnBallsManyUptoRow : OpenClaim := { program := "ytmakpjcjccgalaa", sum := "6282a1d4c223a1d183a5891cfe50d99473abe7d205b023ff4e155d12a7cf0f47", func := "loop.example/reversiblecircuits/laws.FnBallsMany", spec := "fnBallsMany", unfollowed := true, recurses := true, apart := false, narrowed := true }
def FnBallsManyUptoSaid : Prop := fnBallsManyUptoRow.holds Try.pinned (OpenSpec.upto fnBallsManySpec)

/-- 'laws.FnExactFieldBack', WHERE WHAT IT READS IS OF BULK AT MOST 1048576: true; the input reads as it did. -/
def fnExactFieldBackUptoRow : OpenClaim := { program := "ytmakpjcjccgalaa", sum := "6282a1d4c223a1d183a5891cfe50d99473abe7d205b023ff4e155d12a7cf0f47", func := "loop.example/reversiblecircuits/laws.FnExactFieldBack", spec := "fnExactFieldBack", unfollowed := true, recurses := true, apart := false, narrowed := true }
def FnExactFieldBackUptoSaid : Prop := fnExactFieldBackUptoRow.holds Try.pinned (OpenSpec.upto fnExactFieldBackSpec)

/-- 'laws.FnFieldBack', WHERE WHAT IT READS IS OF BULK AT MOST 1048576: true; the input reads as it did. -/
def fnFieldBackUptoRow : OpenClaim := { program := "ytmakpjcjccgalaa", sum := "6282a1d4c223a1d183a5891cfe50d99473abe7d205b023ff4e155d12a7cf0f47", func := "loop.example/reversiblecircuits/laws.FnFieldBack", spec := "fnFieldBack", unfollowed := true, recurses := true, apart := false, narrowed := true }
def FnFieldBackUptoSaid : Prop := fnFieldBackUptoRow.holds Try.pinned (OpenSpec.upto fnFieldBackSpec)

/-- 'laws.FnFieldStep', WHERE WHAT IT READS IS OF BULK AT MOST 1048576: true; the input reads as it did. -/
def fnFieldStepUptoRow : OpenClaim := { program := "ytmakpjcjccgalaa", sum := "6282a1d4c223a1d183a5891cfe50d99473abe7d205b023ff4e155d12a7cf0f47", func := "loop.example/reversiblecircuits/laws.FnFieldStep", spec := "fnFieldStep", unfollowed := true, recurses := true, apart := false, narrowed := true }
def FnFieldStepUptoSaid : Prop := fnFieldStepUptoRow.holds Try.pinned (OpenSpec.upto fnFieldStepSpec)

end Rows
end Go.Proofs.Ytmakpjcjccgalaa
