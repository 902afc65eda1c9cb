/-
  No cell of these rows narrows 'for every input' (looked for: loops, veiled, ifaces, maps, wideKeys, modest, calm, conditions, laid).
  DERIVED. THE GIVEN ROWS OF THIS SEAT. 5 by the template 'for every input the law returns true; each argument reads behind the call as it read before'; 0 by the template 'total and deterministic' (their statements: YtmfchamhankaoaaTotals.lean).
  GIVEN WITH THE SEED: the statements are not yours to turn. If you find one false, say at which input.
  Laid BY PROGRAM, IN A SANDBOX (cutbox-rows.mjs): the forced cells as the released guide's own fill.sh prints them over the translation 5eb511f6595e1cb8… (all of the seat's roots in one cut). By AI agents, Wed Nov 11 2026. No macro, syntax, notation, axiom, sorry.
-/
import Derived.Test.YtmfchamhankaoaaChecked
import GoSem.Claim
import GoSem.ClaimJoined
import GoSem.ClaimMapViews
import Derived.JoinedTies
import Derived.KernelRfl
namespace Go.Proofs.Ytmfchamhankaoaa
/- THE CELL 'sum', in the pinned program and in every row, IS THE sha256 OF THE DUMP (.gsa) THAT YtmfchamhankaoaaProg.lean LOADS. Nothing in Lean hashes anything: it is a label: what it is worth is what the hold of that sum in a sandbox is worth. -/
noncomputable def Try.pinned : Pinned := { name := "ytmfchamhankaoaa", sum := "5eb511f6595e1cb8161be80e88b8a42e144d9ce4aef00269013728e78d8fa6a3", checked := Try.checked }
namespace Rows
def none {H : Type} : Left H := { results := [], args := [] }

/-- 'laws.FnFuncValid': WHATEVER THE INPUT: true; the input reads as it did. -/
def fnFuncValidSpec : ChangeSpec := { name := "fnFuncValid", fn := fun _ => fun
  | [d] => { results := [.lit (.bool true)], args := [d] }
  | _ => none }
def fnFuncValidRow : OpenClaim := { program := "ytmfchamhankaoaa", sum := "5eb511f6595e1cb8161be80e88b8a42e144d9ce4aef00269013728e78d8fa6a3", func := "loop.example/reversiblecircuits/laws.FnFuncValid", spec := "fnFuncValid", unfollowed := true, recurses := true, apart := false }
def FnFuncValidSaid : Prop := fnFuncValidRow.holds Try.pinned (OpenSpec.ofChange fnFuncValidSpec)

/-- ITS FALSE NEIGHBOUR: 'it returns false'. Refute it at one input. -/
def fnFuncValidWrong : ChangeSpec := { name := "fnFuncValid", fn := fun _ => fun
  | [d] => { results := [.lit (.bool false)], args := [d] }
  | _ => none }
def FnFuncValidWrongFalsely : Prop := fnFuncValidRow.holds Try.pinned (OpenSpec.ofChange fnFuncValidWrong)

/-- 'laws.FnSameMany': WHATEVER THE INPUT: true; the input reads as it did. -/
def fnSameManySpec : ChangeSpec := { name := "fnSameMany", fn := fun _ => fun
  | [d] => { results := [.lit (.bool true)], args := [d] }
  | _ => none }
def fnSameManyRow : OpenClaim := { program := "ytmfchamhankaoaa", sum := "5eb511f6595e1cb8161be80e88b8a42e144d9ce4aef00269013728e78d8fa6a3", func := "loop.example/reversiblecircuits/laws.FnSameMany", spec := "fnSameMany", unfollowed := true, recurses := true, apart := false }
def FnSameManySaid : Prop := fnSameManyRow.holds Try.pinned (OpenSpec.ofChange fnSameManySpec)

/-- ITS FALSE NEIGHBOUR: 'it returns false'. Refute it at one input. -/
def fnSameManyWrong : ChangeSpec := { name := "fnSameMany", fn := fun _ => fun
  | [d] => { results := [.lit (.bool false)], args := [d] }
  | _ => none }
def FnSameManyWrongFalsely : Prop := fnSameManyRow.holds Try.pinned (OpenSpec.ofChange fnSameManyWrong)

/-- 'laws.FnSameMost': WHATEVER THE INPUT: true; the input reads as it did. -/
def fnSameMostSpec : ChangeSpec := { name := "fnSameMost", fn := fun _ => fun
  | [d] => { results := [.lit (.bool true)], args := [d] }
  | _ => none }
def fnSameMostRow : OpenClaim := { program := "ytmfchamhankaoaa", sum := "5eb511f6595e1cb8161be80e88b8a42e144d9ce4aef00269013728e78d8fa6a3", func := "loop.example/reversiblecircuits/laws.FnSameMost", spec := "fnSameMost", unfollowed := true, recurses := true, apart := false }
def FnSameMostSaid : Prop := fnSameMostRow.holds Try.pinned (OpenSpec.ofChange fnSameMostSpec)

/-- ITS FALSE NEIGHBOUR: 'it returns false'. Refute it at one input. -/
def fnSameMostWrong : ChangeSpec := { name := "fnSameMost", fn := fun _ => fun
  | [d] => { results := [.lit (.bool false)], args := [d] }
  | _ => none }
def FnSameMostWrongFalsely : Prop := fnSameMostRow.holds Try.pinned (OpenSpec.ofChange fnSameMostWrong)

/-- 'laws.FnFuncThen': WHATEVER THE INPUT: true; the input reads as it did. -/
def fnFuncThenSpec : ChangeSpec := { name := "fnFuncThen", fn := fun _ => fun
  | [d] => { results := [.lit (.bool true)], args := [d] }
  | _ => none }
def fnFuncThenRow : OpenClaim := { program := "ytmfchamhankaoaa", sum := "5eb511f6595e1cb8161be80e88b8a42e144d9ce4aef00269013728e78d8fa6a3", func := "loop.example/reversiblecircuits/laws.FnFuncThen", spec := "fnFuncThen", unfollowed := true, recurses := true, apart := false }
def FnFuncThenSaid : Prop := fnFuncThenRow.holds Try.pinned (OpenSpec.ofChange fnFuncThenSpec)

/-- ITS FALSE NEIGHBOUR: 'it returns false'. Refute it at one input. -/
def fnFuncThenWrong : ChangeSpec := { name := "fnFuncThen", fn := fun _ => fun
  | [d] => { results := [.lit (.bool false)], args := [d] }
  | _ => none }
def FnFuncThenWrongFalsely : Prop := fnFuncThenRow.holds Try.pinned (OpenSpec.ofChange fnFuncThenWrong)

/-- 'laws.FnKeepLines': WHATEVER THE INPUT: true; the input reads as it did. -/
def fnKeepLinesSpec : ChangeSpec := { name := "fnKeepLines", fn := fun _ => fun
  | [d] => { results := [.lit (.bool true)], args := [d] }
  | _ => none }
def fnKeepLinesRow : OpenClaim := { program := "ytmfchamhankaoaa", sum := "5eb511f6595e1cb8161be80e88b8a42e144d9ce4aef00269013728e78d8fa6a3", func := "loop.example/reversiblecircuits/laws.FnKeepLines", spec := "fnKeepLines", unfollowed := true, recurses := true, apart := false }
def FnKeepLinesSaid : Prop := fnKeepLinesRow.holds Try.pinned (OpenSpec.ofChange fnKeepLinesSpec)

/-- ITS FALSE NEIGHBOUR: 'it returns false'. Refute it at one input. -/
def fnKeepLinesWrong : ChangeSpec := { name := "fnKeepLines", fn := fun _ => fun
  | [d] => { results := [.lit (.bool false)], args := [d] }
  | _ => none }
def FnKeepLinesWrongFalsely : Prop := fnKeepLinesRow.holds Try.pinned (OpenSpec.ofChange fnKeepLinesWrong)

/- THE SECOND FORM. 'bulk': how many values and letters a reading holds, each counted each time it is reached (what is shared counts as often as it is met; a slice's spare places count too). A statement '..UptoSaid' is the law's where the arguments, and the package variables that the reading takes, are together of bulk at most 1048576: NARROWER than '..Said'. Prove '..Said' where nothing that the law and all that it calls make is longer than what came in: it says more and counts as full. Else prove '..UptoSaid'. A law counts once. -/
mutual
def uptoBulk {H : Type} : DataW H → Nat
  | .lit (.string bytes) => bytes.length + 1
  | .lit _ => 1
  | .nil => 1
  | .ptr d => uptoBulk d + 1
  | .slice elems spare => uptoBulkAll elems + uptoBulkAll spare + 1
  | .agg parts => uptoBulkAll parts + 1
  | .iface _ d => uptoBulk d + 1
  | .map entries => uptoBulkEntries entries + 1
  | .held _ => 1
def uptoBulkAll {H : Type} : List (DataW H) → Nat
  | [] => 0
  | d :: r => uptoBulk d + uptoBulkAll r
def uptoBulkEntries {H : Type} : List (Lit × DataW H) → Nat
  | [] => 0
  | x :: r => uptoBulkEntry x + uptoBulkEntries r
def uptoBulkEntry {H : Type} : Lit × DataW H → Nat
  | (.string bytes, d) => bytes.length + uptoBulk d + 1
  | (_, d) => uptoBulk d + 1
 end
def uptoSmall : (H : Type) → List (DataW H) → Bool := fun _ ds => decide (uptoBulkAll ds ≤ 1048576)
def OpenSpec.upto (s : _root_.Go.ChangeSpec) : _root_.Go.OpenSpec := { _root_.Go.OpenSpec.ofChange s with cond := some uptoSmall }

/-- 'laws.FnFuncValid', WHERE WHAT IT READS IS OF BULK AT MOST 1048576: true; the input reads as it did. -/
def fnFuncValidUptoRow : OpenClaim := { program := "ytmfchamhankaoaa", sum := "5eb511f6595e1cb8161be80e88b8a42e144d9ce4aef00269013728e78d8fa6a3", func := "loop.example/reversiblecircuits/laws.FnFuncValid", spec := "fnFuncValid", unfollowed := true, recurses := true, apart := false, narrowed := true }
def FnFuncValidUptoSaid : Prop := fnFuncValidUptoRow.holds Try.pinned (OpenSpec.upto fnFuncValidSpec)

/-- 'laws.FnSameMany', WHERE WHAT IT READS IS OF BULK AT MOST 1048576: true; the input reads as it did. -/
def fnSameManyUptoRow : OpenClaim := { program := "ytmfchamhankaoaa", sum := "5eb511f6595e1cb8161be80e88b8a42e144d9ce4aef00269013728e78d8fa6a3", func := "loop.example/reversiblecircuits/laws.FnSameMany", spec := "fnSameMany", unfollowed := true, recurses := true, apart := false, narrowed := true }
def FnSameManyUptoSaid : Prop := fnSameManyUptoRow.holds Try.pinned (OpenSpec.upto fnSameManySpec)

/-- 'laws.FnSameMost', WHERE WHAT IT READS IS OF BULK AT MOST 1048576: true; the input reads as it did. -/
def fnSameMostUptoRow : OpenClaim := { program := "ytmfchamhankaoaa", sum := "5eb511f6595e1cb8161be80e88b8a42e144d9ce4aef00269013728e78d8fa6a3", func := "loop.example/reversiblecircuits/laws.FnSameMost", spec := "fnSameMost", unfollowed := true, recurses := true, apart := false, narrowed := true }
def FnSameMostUptoSaid : Prop := fnSameMostUptoRow.holds Try.pinned (OpenSpec.upto fnSameMostSpec)

/-- 'laws.FnFuncThen', WHERE WHAT IT READS IS OF BULK AT MOST 1048576: true; the input reads as it did. -/
def fnFuncThenUptoRow : OpenClaim := { program := "ytmfchamhankaoaa", sum := "5eb511f6595e1cb8161be80e88b8a42e144d9ce4aef00269013728e78d8fa6a3", func := "loop.example/reversiblecircuits/laws.FnFuncThen", spec := "fnFuncThen", unfollowed := true, recurses := true, apart := false, narrowed := true }
def FnFuncThenUptoSaid : Prop := fnFuncThenUptoRow.holds Try.pinned (OpenSpec.upto fnFuncThenSpec)

/-- 'laws.FnKeepLines', WHERE WHAT IT READS IS OF BULK AT MOST 1048576: true; the input reads as it did. -/
def fnKeepLinesUptoRow : OpenClaim := { program := "ytmfchamhankaoaa", sum := "5eb511f6595e1cb8161be80e88b8a42e144d9ce4aef00269013728e78d8fa6a3", func := "loop.example/reversiblecircuits/laws.FnKeepLines", spec := "fnKeepLines", unfollowed := true, recurses := true, apart := false, narrowed := true }
def FnKeepLinesUptoSaid : Prop := fnKeepLinesUptoRow.holds Try.pinned (OpenSpec.upto fnKeepLinesSpec)

end Rows
end Go.Proofs.Ytmfchamhankaoaa
