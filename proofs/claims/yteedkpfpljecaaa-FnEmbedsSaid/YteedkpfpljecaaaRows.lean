/-
  No cell of these rows narrows 'for every input' (looked for: loops, veiled, ifaces, maps, wideKeys, modest, calm, conditions, laid).
  DERIVED. THE GIVEN ROWS OF THIS SEAT. 3 by the template 'for every input the law returns true; each argument reads behind the call as it read before'; 0 by the template 'total and deterministic' (their statements: YteedkpfpljecaaaTotals.lean).
  GIVEN WITH THE SEED: the statements are not yours to turn. If you find one false, say at which input.
  Laid BY PROGRAM, IN A SANDBOX (cutbox-rows.mjs): the forced cells as the released guide's own fill.sh prints them over the translation dcc8a22a4e3c86a1… (all of the seat's roots in one cut). By AI agents, Wed Nov 11 2026. No macro, syntax, notation, axiom, sorry.
-/
import Derived.Test.YteedkpfpljecaaaChecked
import GoSem.Claim
import GoSem.ClaimJoined
import GoSem.ClaimMapViews
import Derived.JoinedTies
import Derived.KernelRfl
namespace Go.Proofs.Yteedkpfpljecaaa
/- THE CELL 'sum', in the pinned program and in every row, IS THE sha256 OF THE DUMP (.gsa) THAT YteedkpfpljecaaaProg.lean LOADS. Nothing in Lean hashes anything: it is a label: what it is worth is what the hold of that sum in a sandbox is worth. -/
noncomputable def Try.pinned : Pinned := { name := "yteedkpfpljecaaa", sum := "dcc8a22a4e3c86a15d0be602e0c0e9ae1cdff5a5df61fba30c41e8458c298a3a", checked := Try.checked }
namespace Rows
def none {H : Type} : Left H := { results := [], args := [] }

/-- 'laws.FnOnto': WHATEVER THE INPUT: true; the input reads as it did. -/
def fnOntoSpec : ChangeSpec := { name := "fnOnto", fn := fun _ => fun
  | [d] => { results := [.lit (.bool true)], args := [d] }
  | _ => none }
def fnOntoRow : OpenClaim := { program := "yteedkpfpljecaaa", sum := "dcc8a22a4e3c86a15d0be602e0c0e9ae1cdff5a5df61fba30c41e8458c298a3a", func := "loop.example/reversiblecircuits/laws.FnOnto", spec := "fnOnto", unfollowed := true, recurses := true, apart := false }
def FnOntoSaid : Prop := fnOntoRow.holds Try.pinned (OpenSpec.ofChange fnOntoSpec)

/-- ITS FALSE NEIGHBOUR: 'it returns false'. Refute it at one input. -/
def fnOntoWrong : ChangeSpec := { name := "fnOnto", fn := fun _ => fun
  | [d] => { results := [.lit (.bool false)], args := [d] }
  | _ => none }
def FnOntoWrongFalsely : Prop := fnOntoRow.holds Try.pinned (OpenSpec.ofChange fnOntoWrong)

/-- 'laws.FnOneToOne': WHATEVER THE INPUT: true; the input reads as it did. -/
def fnOneToOneSpec : ChangeSpec := { name := "fnOneToOne", fn := fun _ => fun
  | [d] => { results := [.lit (.bool true)], args := [d] }
  | _ => none }
def fnOneToOneRow : OpenClaim := { program := "yteedkpfpljecaaa", sum := "dcc8a22a4e3c86a15d0be602e0c0e9ae1cdff5a5df61fba30c41e8458c298a3a", func := "loop.example/reversiblecircuits/laws.FnOneToOne", spec := "fnOneToOne", unfollowed := true, recurses := true, apart := false }
def FnOneToOneSaid : Prop := fnOneToOneRow.holds Try.pinned (OpenSpec.ofChange fnOneToOneSpec)

/-- ITS FALSE NEIGHBOUR: 'it returns false'. Refute it at one input. -/
def fnOneToOneWrong : ChangeSpec := { name := "fnOneToOne", fn := fun _ => fun
  | [d] => { results := [.lit (.bool false)], args := [d] }
  | _ => none }
def FnOneToOneWrongFalsely : Prop := fnOneToOneRow.holds Try.pinned (OpenSpec.ofChange fnOneToOneWrong)

/-- 'laws.FnEmbeds': WHATEVER THE INPUT: true; the input reads as it did. -/
def fnEmbedsSpec : ChangeSpec := { name := "fnEmbeds", fn := fun _ => fun
  | [d] => { results := [.lit (.bool true)], args := [d] }
  | _ => none }
def fnEmbedsRow : OpenClaim := { program := "yteedkpfpljecaaa", sum := "dcc8a22a4e3c86a15d0be602e0c0e9ae1cdff5a5df61fba30c41e8458c298a3a", func := "loop.example/reversiblecircuits/laws.FnEmbeds", spec := "fnEmbeds", unfollowed := true, recurses := true, apart := false }
def FnEmbedsSaid : Prop := fnEmbedsRow.holds Try.pinned (OpenSpec.ofChange fnEmbedsSpec)

/-- ITS FALSE NEIGHBOUR: 'it returns false'. Refute it at one input. -/
def fnEmbedsWrong : ChangeSpec := { name := "fnEmbeds", fn := fun _ => fun
  | [d] => { results := [.lit (.bool false)], args := [d] }
  | _ => none }
def FnEmbedsWrongFalsely : Prop := fnEmbedsRow.holds Try.pinned (OpenSpec.ofChange fnEmbedsWrong)

/- THE SECOND FORM. 'bulk': how many values and letters a reading holds, each counted each time it is reached (what is shared counts as often as it is met; a slice's spare places count too). A statement '..UptoSaid' is the law's where the arguments, and the package variables that the reading takes, are together of bulk at most 1048576: NARROWER than '..Said'. Prove '..Said' where nothing that the law and all that it calls make is longer than what came in: it says more and counts as full. Else prove '..UptoSaid'. A law counts once. -/
mutual
def uptoBulk {H : Type} : DataW H → Nat
  | .lit (.string bytes) => bytes.length + 1
  | .lit _ => 1
  | .nil => 1
  | .ptr d => uptoBulk d + 1
  | .slice elems spare => uptoBulkAll elems + uptoBulkAll spare + 1
  | .agg parts => uptoBulkAll parts + 1
  | .iface _ d => uptoBulk d + 1
  | .map entries => uptoBulkEntries entries + 1
  | .held _ => 1
def uptoBulkAll {H : Type} : List (DataW H) → Nat
  | [] => 0
  | d :: r => uptoBulk d + uptoBulkAll r
def uptoBulkEntries {H : Type} : List (Lit × DataW H) → Nat
  | [] => 0
  | x :: r => uptoBulkEntry x + uptoBulkEntries r
def uptoBulkEntry {H : Type} : Lit × DataW H → Nat
  | (.string bytes, d) => bytes.length + uptoBulk d + 1
  | (_, d) => uptoBulk d + 1
 end
def uptoSmall : (H : Type) → List (DataW H) → Bool := fun _ ds => decide (uptoBulkAll ds ≤ 1048576)
def OpenSpec.upto (s : _root_.Go.ChangeSpec) : _root_.Go.OpenSpec := { _root_.Go.OpenSpec.ofChange s with cond := some uptoSmall }

/-- 'laws.FnOnto', WHERE WHAT IT READS IS OF BULK AT MOST 1048576: true; the input reads as it did. -/
def fnOntoUptoRow : OpenClaim := { program := "yteedkpfpljecaaa", sum := "dcc8a22a4e3c86a15d0be602e0c0e9ae1cdff5a5df61fba30c41e8458c298a3a", func := "loop.example/reversiblecircuits/laws.FnOnto", spec := "fnOnto", unfollowed := true, recurses := true, apart := false, narrowed := true }
def FnOntoUptoSaid : Prop := fnOntoUptoRow.holds Try.pinned (OpenSpec.upto fnOntoSpec)

/-- 'laws.FnOneToOne', WHERE WHAT IT READS IS OF BULK AT MOST 1048576: true; the input reads as it did. -/
def fnOneToOneUptoRow : OpenClaim := { program := "yteedkpfpljecaaa", sum := "dcc8a22a4e3c86a15d0be602e0c0e9ae1cdff5a5df61fba30c41e8458c298a3a", func := "loop.example/reversiblecircuits/laws.FnOneToOne", spec := "fnOneToOne", unfollowed := true, recurses := true, apart := false, narrowed := true }
def FnOneToOneUptoSaid : Prop := fnOneToOneUptoRow.holds Try.pinned (OpenSpec.upto fnOneToOneSpec)

/-- 'laws.FnEmbeds', WHERE WHAT IT READS IS OF BULK AT MOST 1048576: true; the input reads as it did. -/
def fnEmbedsUptoRow : OpenClaim := { program := "yteedkpfpljecaaa", sum := "dcc8a22a4e3c86a15d0be602e0c0e9ae1cdff5a5df61fba30c41e8458c298a3a", func := "loop.example/reversiblecircuits/laws.FnEmbeds", spec := "fnEmbeds", unfollowed := true, recurses := true, apart := false, narrowed := true }
def FnEmbedsUptoSaid : Prop := fnEmbedsUptoRow.holds Try.pinned (OpenSpec.upto fnEmbedsSpec)

end Rows
end Go.Proofs.Yteedkpfpljecaaa
