/-
  No cell of these rows narrows 'for every input' (looked for: loops, veiled, ifaces, maps, wideKeys, modest, calm, conditions, laid).
  DERIVED. THE GIVEN ROWS OF THIS SEAT. 5 by the template 'for every input the law returns true; each argument reads behind the call as it read before'; 0 by the template 'total and deterministic' (their statements: YtniikjobchgcjaaTotals.lean).
  GIVEN WITH THE SEED: the statements are not yours to turn. If you find one false, say at which input.
  Laid BY PROGRAM, IN A SANDBOX (cutbox-rows.mjs): the forced cells as the released guide's own fill.sh prints them over the translation 9f4f209bc0f7d514… (all of the seat's roots in one cut). By AI agents, Wed Nov 11 2026. No macro, syntax, notation, axiom, sorry.
-/
import Derived.Test.YtniikjobchgcjaaChecked
import GoSem.Claim
import GoSem.ClaimJoined
import GoSem.ClaimMapViews
import Derived.JoinedTies
import Derived.KernelRfl
namespace Go.Proofs.Ytniikjobchgcjaa
/- THE CELL 'sum', in the pinned program and in every row, IS THE sha256 OF THE DUMP (.gsa) THAT YtniikjobchgcjaaProg.lean LOADS. Nothing in Lean hashes anything: it is a label: what it is worth is what the hold of that sum in a sandbox is worth. -/
noncomputable def Try.pinned : Pinned := { name := "ytniikjobchgcjaa", sum := "9f4f209bc0f7d514e142fbcebe8585cb2e9f789aea793bcc89a8f40fa5cd1de7", checked := Try.checked }
namespace Rows
def none {H : Type} : Left H := { results := [], args := [] }

/-- 'laws.FnExactFuncThen': WHATEVER THE INPUT: true; the input reads as it did. -/
def fnExactFuncThenSpec : ChangeSpec := { name := "fnExactFuncThen", fn := fun _ => fun
  | [d1, d2, d3, d4, d5] => { results := [.lit (.bool true)], args := [d1, d2, d3, d4, d5] }
  | _ => none }
def fnExactFuncThenRow : OpenClaim := { program := "ytniikjobchgcjaa", sum := "9f4f209bc0f7d514e142fbcebe8585cb2e9f789aea793bcc89a8f40fa5cd1de7", func := "loop.example/reversiblecircuits/laws.FnExactFuncThen", spec := "fnExactFuncThen", unfollowed := true, recurses := true, apart := false }
def FnExactFuncThenSaid : Prop := fnExactFuncThenRow.holds Try.pinned (OpenSpec.ofChange fnExactFuncThenSpec)

/-- ITS FALSE NEIGHBOUR: 'it returns false'. Refute it at one input. -/
def fnExactFuncThenWrong : ChangeSpec := { name := "fnExactFuncThen", fn := fun _ => fun
  | [d1, d2, d3, d4, d5] => { results := [.lit (.bool false)], args := [d1, d2, d3, d4, d5] }
  | _ => none }
def FnExactFuncThenWrongFalsely : Prop := fnExactFuncThenRow.holds Try.pinned (OpenSpec.ofChange fnExactFuncThenWrong)

/-- 'laws.FnExactEmbeds': WHATEVER THE INPUT: true; the input reads as it did. -/
def fnExactEmbedsSpec : ChangeSpec := { name := "fnExactEmbeds", fn := fun _ => fun
  | [d1, d2, d3, d4, d5] => { results := [.lit (.bool true)], args := [d1, d2, d3, d4, d5] }
  | _ => none }
def fnExactEmbedsRow : OpenClaim := { program := "ytniikjobchgcjaa", sum := "9f4f209bc0f7d514e142fbcebe8585cb2e9f789aea793bcc89a8f40fa5cd1de7", func := "loop.example/reversiblecircuits/laws.FnExactEmbeds", spec := "fnExactEmbeds", unfollowed := true, recurses := true, apart := false }
def FnExactEmbedsSaid : Prop := fnExactEmbedsRow.holds Try.pinned (OpenSpec.ofChange fnExactEmbedsSpec)

/-- ITS FALSE NEIGHBOUR: 'it returns false'. Refute it at one input. -/
def fnExactEmbedsWrong : ChangeSpec := { name := "fnExactEmbeds", fn := fun _ => fun
  | [d1, d2, d3, d4, d5] => { results := [.lit (.bool false)], args := [d1, d2, d3, d4, d5] }
  | _ => none }
def FnExactEmbedsWrongFalsely : Prop := fnExactEmbedsRow.holds Try.pinned (OpenSpec.ofChange fnExactEmbedsWrong)

/-- 'laws.FnExactKeepLines': WHATEVER THE INPUT: true; the input reads as it did. -/
def fnExactKeepLinesSpec : ChangeSpec := { name := "fnExactKeepLines", fn := fun _ => fun
  | [d1, d2, d3] => { results := [.lit (.bool true)], args := [d1, d2, d3] }
  | _ => none }
def fnExactKeepLinesRow : OpenClaim := { program := "ytniikjobchgcjaa", sum := "9f4f209bc0f7d514e142fbcebe8585cb2e9f789aea793bcc89a8f40fa5cd1de7", func := "loop.example/reversiblecircuits/laws.FnExactKeepLines", spec := "fnExactKeepLines", unfollowed := true, recurses := true, apart := false }
def FnExactKeepLinesSaid : Prop := fnExactKeepLinesRow.holds Try.pinned (OpenSpec.ofChange fnExactKeepLinesSpec)

/-- ITS FALSE NEIGHBOUR: 'it returns false'. Refute it at one input. -/
def fnExactKeepLinesWrong : ChangeSpec := { name := "fnExactKeepLines", fn := fun _ => fun
  | [d1, d2, d3] => { results := [.lit (.bool false)], args := [d1, d2, d3] }
  | _ => none }
def FnExactKeepLinesWrongFalsely : Prop := fnExactKeepLinesRow.holds Try.pinned (OpenSpec.ofChange fnExactKeepLinesWrong)

/-- 'laws.FnExactEmbedLines': WHATEVER THE INPUT: true; the input reads as it did. -/
def fnExactEmbedLinesSpec : ChangeSpec := { name := "fnExactEmbedLines", fn := fun _ => fun
  | [d1, d2, d3] => { results := [.lit (.bool true)], args := [d1, d2, d3] }
  | _ => none }
def fnExactEmbedLinesRow : OpenClaim := { program := "ytniikjobchgcjaa", sum := "9f4f209bc0f7d514e142fbcebe8585cb2e9f789aea793bcc89a8f40fa5cd1de7", func := "loop.example/reversiblecircuits/laws.FnExactEmbedLines", spec := "fnExactEmbedLines", unfollowed := true, recurses := true, apart := false }
def FnExactEmbedLinesSaid : Prop := fnExactEmbedLinesRow.holds Try.pinned (OpenSpec.ofChange fnExactEmbedLinesSpec)

/-- ITS FALSE NEIGHBOUR: 'it returns false'. Refute it at one input. -/
def fnExactEmbedLinesWrong : ChangeSpec := { name := "fnExactEmbedLines", fn := fun _ => fun
  | [d1, d2, d3] => { results := [.lit (.bool false)], args := [d1, d2, d3] }
  | _ => none }
def FnExactEmbedLinesWrongFalsely : Prop := fnExactEmbedLinesRow.holds Try.pinned (OpenSpec.ofChange fnExactEmbedLinesWrong)

/-- 'laws.FnExactEmbedTable': WHATEVER THE INPUT: true; the input reads as it did. -/
def fnExactEmbedTableSpec : ChangeSpec := { name := "fnExactEmbedTable", fn := fun _ => fun
  | [d1, d2, d3] => { results := [.lit (.bool true)], args := [d1, d2, d3] }
  | _ => none }
def fnExactEmbedTableRow : OpenClaim := { program := "ytniikjobchgcjaa", sum := "9f4f209bc0f7d514e142fbcebe8585cb2e9f789aea793bcc89a8f40fa5cd1de7", func := "loop.example/reversiblecircuits/laws.FnExactEmbedTable", spec := "fnExactEmbedTable", unfollowed := true, recurses := true, apart := false }
def FnExactEmbedTableSaid : Prop := fnExactEmbedTableRow.holds Try.pinned (OpenSpec.ofChange fnExactEmbedTableSpec)

/-- ITS FALSE NEIGHBOUR: 'it returns false'. Refute it at one input. -/
def fnExactEmbedTableWrong : ChangeSpec := { name := "fnExactEmbedTable", fn := fun _ => fun
  | [d1, d2, d3] => { results := [.lit (.bool false)], args := [d1, d2, d3] }
  | _ => none }
def FnExactEmbedTableWrongFalsely : Prop := fnExactEmbedTableRow.holds Try.pinned (OpenSpec.ofChange fnExactEmbedTableWrong)

/- THE SECOND FORM. 'bulk': how many values and letters a reading holds, each counted each time it is reached (what is shared counts as often as it is met; a slice's spare places count too). A statement '..UptoSaid' is the law's where the arguments, and the package variables that the reading takes, are together of bulk at most 1048576: NARROWER than '..Said'. Prove '..Said' where nothing that the law and all that it calls make is longer than what came in: it says more and counts as full. Else prove '..UptoSaid'. A law counts once. -/
mutual
def uptoBulk {H : Type} : DataW H → Nat
  | .lit (.string bytes) => bytes.length + 1
  | .lit _ => 1
  | .nil => 1
  | .ptr d => uptoBulk d + 1
  | .slice elems spare => uptoBulkAll elems + uptoBulkAll spare + 1
  | .agg parts => uptoBulkAll parts + 1
  | .iface _ d => uptoBulk d + 1
  | .map entries => uptoBulkEntries entries + 1
  | .held _ => 1
def uptoBulkAll {H : Type} : List (DataW H) → Nat
  | [] => 0
  | d :: r => uptoBulk d + uptoBulkAll r
def uptoBulkEntries {H : Type} : List (Lit × DataW H) → Nat
  | [] => 0
  | x :: r => uptoBulkEntry x + uptoBulkEntries r
def uptoBulkEntry {H : Type} : Lit × DataW H → Nat
  | (.string bytes, d) => bytes.length + uptoBulk d + 1
  | (_, d) => uptoBulk d + 1
 end
def uptoSmall : (H : Type) → List (DataW H) → Bool := fun _ ds => decide (uptoBulkAll ds ≤ 1048576)
def OpenSpec.upto (s : _root_.Go.ChangeSpec) : _root_.Go.OpenSpec := { _root_.Go.OpenSpec.ofChange s with cond := some uptoSmall }

/-- 'laws.FnExactFuncThen', WHERE WHAT IT READS IS OF BULK AT MOST 1048576: true; the input reads as it did. -/
def fnExactFuncThenUptoRow : OpenClaim := { program := "ytniikjobchgcjaa", sum := "9f4f209bc0f7d514e142fbcebe8585cb2e9f789aea793bcc89a8f40fa5cd1de7", func := "loop.example/reversiblecircuits/laws.FnExactFuncThen", spec := "fnExactFuncThen", unfollowed := true, recurses := true, apart := false, narrowed := true }
def FnExactFuncThenUptoSaid : Prop := fnExactFuncThenUptoRow.holds Try.pinned (OpenSpec.upto fnExactFuncThenSpec)

/-- 'laws.FnExactEmbeds', WHERE WHAT IT READS IS OF BULK AT MOST 1048576: true; the input reads as it did. -/
def fnExactEmbedsUptoRow : OpenClaim := { program := "ytniikjobchgcjaa", sum := "9f4f209bc0f7d514e142fbcebe8585cb2e9f789aea793bcc89a8f40fa5cd1de7", func := "loop.example/reversiblecircuits/laws.FnExactEmbeds", spec := "fnExactEmbeds", unfollowed := true, recurses := true, apart := false, narrowed := true }
def FnExactEmbedsUptoSaid : Prop := fnExactEmbedsUptoRow.holds Try.pinned (OpenSpec.upto fnExactEmbedsSpec)

/-- 'laws.FnExactKeepLines', WHERE WHAT IT READS IS OF BULK AT MOST 1048576: true; the input reads as it did. -/
def fnExactKeepLinesUptoRow : OpenClaim := { program := "ytniikjobchgcjaa", sum := "9f4f209bc0f7d514e142fbcebe8585cb2e9f789aea793bcc89a8f40fa5cd1de7", func := "loop.example/reversiblecircuits/laws.FnExactKeepLines", spec := "fnExactKeepLines", unfollowed := true, recurses := true, apart := false, narrowed := true }
def FnExactKeepLinesUptoSaid : Prop := fnExactKeepLinesUptoRow.holds Try.pinned (OpenSpec.upto fnExactKeepLinesSpec)

/-- 'laws.FnExactEmbedLines', WHERE WHAT IT READS IS OF BULK AT MOST 1048576: true; the input reads as it did. -/
def fnExactEmbedLinesUptoRow : OpenClaim := { program := "ytniikjobchgcjaa", sum := "9f4f209bc0f7d514e142fbcebe8585cb2e9f789aea793bcc89a8f40fa5cd1de7", func := "loop.example/reversiblecircuits/laws.FnExactEmbedLines", spec := "fnExactEmbedLines", unfollowed := true, recurses := true, apart := false, narrowed := true }
def FnExactEmbedLinesUptoSaid : Prop := fnExactEmbedLinesUptoRow.holds Try.pinned (OpenSpec.upto fnExactEmbedLinesSpec)

/-- 'laws.FnExactEmbedTable', WHERE WHAT IT READS IS OF BULK AT MOST 1048576: true; the input reads as it did. -/
def fnExactEmbedTableUptoRow : OpenClaim := { program := "ytniikjobchgcjaa", sum := "9f4f209bc0f7d514e142fbcebe8585cb2e9f789aea793bcc89a8f40fa5cd1de7", func := "loop.example/reversiblecircuits/laws.FnExactEmbedTable", spec := "fnExactEmbedTable", unfollowed := true, recurses := true, apart := false, narrowed := true }
def FnExactEmbedTableUptoSaid : Prop := fnExactEmbedTableUptoRow.holds Try.pinned (OpenSpec.upto fnExactEmbedTableSpec)

end Rows
end Go.Proofs.Ytniikjobchgcjaa
