/-
  No cell of these rows narrows 'for every input' (looked for: loops, veiled, ifaces, maps, wideKeys, modest, calm, conditions, laid).
  DERIVED. THE GIVEN ROWS OF THIS SEAT. 6 by the template 'for every input the law returns true; each argument reads behind the call as it read before'; 0 by the template 'total and deterministic' (their statements: YtkakhajellemcaaTotals.lean).
  GIVEN WITH THE SEED: the statements are not yours to turn. If you find one false, say at which input.
  Laid BY PROGRAM, IN A SANDBOX (cutbox-rows.mjs): the forced cells as the released guide's own fill.sh prints them over the translation 333398561fff1f70… (all of the seat's roots in one cut). By AI agents, Wed Nov 11 2026. No macro, syntax, notation, axiom, sorry.
-/
import Derived.Test.YtkakhajellemcaaChecked
import GoSem.Claim
import GoSem.ClaimJoined
import GoSem.ClaimMapViews
import Derived.JoinedTies
import Derived.KernelRfl
namespace Go.Proofs.Ytkakhajellemcaa
/- THE CELL 'sum', in the pinned program and in every row, IS THE sha256 OF THE DUMP (.gsa) THAT YtkakhajellemcaaProg.lean LOADS. Nothing in Lean hashes anything: it is a label: what it is worth is what the hold of that sum in a sandbox is worth. -/
noncomputable def Try.pinned : Pinned := { name := "ytkakhajellemcaa", sum := "333398561fff1f707ee92c668a299e5f1f4284d40f28435f031ec87aa24b2426", checked := Try.checked }
namespace Rows
def none {H : Type} : Left H := { results := [], args := [] }

/-- 'laws.FnExactLineValid': WHATEVER THE INPUT: true; the input reads as it did. -/
def fnExactLineValidSpec : ChangeSpec := { name := "fnExactLineValid", fn := fun _ => fun
  | [d] => { results := [.lit (.bool true)], args := [d] }
  | _ => none }
def fnExactLineValidRow : OpenClaim := { program := "ytkakhajellemcaa", sum := "333398561fff1f707ee92c668a299e5f1f4284d40f28435f031ec87aa24b2426", func := "loop.example/reversiblecircuits/laws.FnExactLineValid", spec := "fnExactLineValid", apart := false }
def FnExactLineValidSaid : Prop := fnExactLineValidRow.holds Try.pinned (OpenSpec.ofChange fnExactLineValidSpec)

/-- ITS FALSE NEIGHBOUR: 'it returns false'. Refute it at one input. -/
def fnExactLineValidWrong : ChangeSpec := { name := "fnExactLineValid", fn := fun _ => fun
  | [d] => { results := [.lit (.bool false)], args := [d] }
  | _ => none }
def FnExactLineValidWrongFalsely : Prop := fnExactLineValidRow.holds Try.pinned (OpenSpec.ofChange fnExactLineValidWrong)

/-- 'laws.FnExactLineBack': WHATEVER THE INPUT: true; the input reads as it did. -/
def fnExactLineBackSpec : ChangeSpec := { name := "fnExactLineBack", fn := fun _ => fun
  | [d] => { results := [.lit (.bool true)], args := [d] }
  | _ => none }
def fnExactLineBackRow : OpenClaim := { program := "ytkakhajellemcaa", sum := "333398561fff1f707ee92c668a299e5f1f4284d40f28435f031ec87aa24b2426", func := "loop.example/reversiblecircuits/laws.FnExactLineBack", spec := "fnExactLineBack", apart := false }
def FnExactLineBackSaid : Prop := fnExactLineBackRow.holds Try.pinned (OpenSpec.ofChange fnExactLineBackSpec)

/-- ITS FALSE NEIGHBOUR: 'it returns false'. Refute it at one input. -/
def fnExactLineBackWrong : ChangeSpec := { name := "fnExactLineBack", fn := fun _ => fun
  | [d] => { results := [.lit (.bool false)], args := [d] }
  | _ => none }
def FnExactLineBackWrongFalsely : Prop := fnExactLineBackRow.holds Try.pinned (OpenSpec.ofChange fnExactLineBackWrong)

/-- 'laws.FnLineValid': WHATEVER THE INPUT: true; the input reads as it did. -/
def fnLineValidSpec : ChangeSpec := { name := "fnLineValid", fn := fun _ => fun
  | [d] => { results := [.lit (.bool true)], args := [d] }
  | _ => none }
def fnLineValidRow : OpenClaim := { program := "ytkakhajellemcaa", sum := "333398561fff1f707ee92c668a299e5f1f4284d40f28435f031ec87aa24b2426", func := "loop.example/reversiblecircuits/laws.FnLineValid", spec := "fnLineValid", apart := false }
def FnLineValidSaid : Prop := fnLineValidRow.holds Try.pinned (OpenSpec.ofChange fnLineValidSpec)

/-- ITS FALSE NEIGHBOUR: 'it returns false'. Refute it at one input. -/
def fnLineValidWrong : ChangeSpec := { name := "fnLineValid", fn := fun _ => fun
  | [d] => { results := [.lit (.bool false)], args := [d] }
  | _ => none }
def FnLineValidWrongFalsely : Prop := fnLineValidRow.holds Try.pinned (OpenSpec.ofChange fnLineValidWrong)

/-- 'laws.FnLineBack': WHATEVER THE INPUT: true; the input reads as it did. -/
def fnLineBackSpec : ChangeSpec := { name := "fnLineBack", fn := fun _ => fun
  | [d] => { results := [.lit (.bool true)], args := [d] }
  | _ => none }
def fnLineBackRow : OpenClaim := { program := "ytkakhajellemcaa", sum := "333398561fff1f707ee92c668a299e5f1f4284d40f28435f031ec87aa24b2426", func := "loop.example/reversiblecircuits/laws.FnLineBack", spec := "fnLineBack", apart := false }
def FnLineBackSaid : Prop := fnLineBackRow.holds Try.pinned (OpenSpec.ofChange fnLineBackSpec)

/-- ITS FALSE NEIGHBOUR: 'it returns false'. Refute it at one input. -/
def fnLineBackWrong : ChangeSpec := { name := "fnLineBack", fn := fun _ => fun
  | [d] => { results := [.lit (.bool false)], args := [d] }
  | _ => none }
def FnLineBackWrongFalsely : Prop := fnLineBackRow.holds Try.pinned (OpenSpec.ofChange fnLineBackWrong)

/-- 'laws.FnExactProgramValid': WHATEVER THE INPUT: true; the input reads as it did. -/
def fnExactProgramValidSpec : ChangeSpec := { name := "fnExactProgramValid", fn := fun _ => fun
  | [d] => { results := [.lit (.bool true)], args := [d] }
  | _ => none }
def fnExactProgramValidRow : OpenClaim := { program := "ytkakhajellemcaa", sum := "333398561fff1f707ee92c668a299e5f1f4284d40f28435f031ec87aa24b2426", func := "loop.example/reversiblecircuits/laws.FnExactProgramValid", spec := "fnExactProgramValid", unfollowed := true, recurses := true, apart := false }
def FnExactProgramValidSaid : Prop := fnExactProgramValidRow.holds Try.pinned (OpenSpec.ofChange fnExactProgramValidSpec)

/-- ITS FALSE NEIGHBOUR: 'it returns false'. Refute it at one input. -/
def fnExactProgramValidWrong : ChangeSpec := { name := "fnExactProgramValid", fn := fun _ => fun
  | [d] => { results := [.lit (.bool false)], args := [d] }
  | _ => none }
def FnExactProgramValidWrongFalsely : Prop := fnExactProgramValidRow.holds Try.pinned (OpenSpec.ofChange fnExactProgramValidWrong)

/-- 'laws.FnProgramValid': WHATEVER THE INPUT: true; the input reads as it did. -/
def fnProgramValidSpec : ChangeSpec := { name := "fnProgramValid", fn := fun _ => fun
  | [d] => { results := [.lit (.bool true)], args := [d] }
  | _ => none }
def fnProgramValidRow : OpenClaim := { program := "ytkakhajellemcaa", sum := "333398561fff1f707ee92c668a299e5f1f4284d40f28435f031ec87aa24b2426", func := "loop.example/reversiblecircuits/laws.FnProgramValid", spec := "fnProgramValid", unfollowed := true, recurses := true, apart := false }
def FnProgramValidSaid : Prop := fnProgramValidRow.holds Try.pinned (OpenSpec.ofChange fnProgramValidSpec)

/-- ITS FALSE NEIGHBOUR: 'it returns false'. Refute it at one input. -/
def fnProgramValidWrong : ChangeSpec := { name := "fnProgramValid", fn := fun _ => fun
  | [d] => { results := [.lit (.bool false)], args := [d] }
  | _ => none }
def FnProgramValidWrongFalsely : Prop := fnProgramValidRow.holds Try.pinned (OpenSpec.ofChange fnProgramValidWrong)

/- THE SECOND FORM. 'bulk': how many values and letters a reading holds, each counted each time it is reached (what is shared counts as often as it is met; a slice's spare places count too). A statement '..UptoSaid' is the law's where the arguments, and the package variables that the reading takes, are together of bulk at most 1048576: NARROWER than '..Said'. Prove '..Said' where nothing that the law and all that it calls make is longer than what came in: it says more and counts as full. Else prove '..UptoSaid'. A law counts once. -/
mutual
def uptoBulk {H : Type} : DataW H → Nat
  | .lit (.string bytes) => bytes.length + 1
  | .lit _ => 1
  | .nil => 1
  | .ptr d => uptoBulk d + 1
  | .slice elems spare => uptoBulkAll elems + uptoBulkAll spare + 1
  | .agg parts => uptoBulkAll parts + 1
  | .iface _ d => uptoBulk d + 1
  | .map entries => uptoBulkEntries entries + 1
  | .held _ => 1
def uptoBulkAll {H : Type} : List (DataW H) → Nat
  | [] => 0
  | d :: r => uptoBulk d + uptoBulkAll r
def uptoBulkEntries {H : Type} : List (Lit × DataW H) → Nat
  | [] => 0
  | x :: r => uptoBulkEntry x + uptoBulkEntries r
def uptoBulkEntry {H : Type} : Lit × DataW H → Nat
  | (.string bytes, d) => bytes.length + uptoBulk d + 1
  | (_, d) => uptoBulk d + 1
 end
def uptoSmall : (H : Type) → List (DataW H) → Bool := fun _ ds => decide (uptoBulkAll ds ≤ 1048576)
def OpenSpec.upto (s : _root_.Go.ChangeSpec) : _root_.Go.OpenSpec := { _root_.Go.OpenSpec.ofChange s with cond := some uptoSmall }

/-- 'laws.FnExactLineValid', WHERE WHAT IT READS IS OF BULK AT MOST 1048576: true; the input reads as it did. -/
def fnExactLineValidUptoRow : OpenClaim := { program := "ytkakhajellemcaa", sum := "333398561fff1f707ee92c668a299e5f1f4284d40f28435f031ec87aa24b2426", func := "loop.example/reversiblecircuits/laws.FnExactLineValid", spec := "fnExactLineValid", apart := false, narrowed := true }
def FnExactLineValidUptoSaid : Prop := fnExactLineValidUptoRow.holds Try.pinned (OpenSpec.upto fnExactLineValidSpec)

/-- 'laws.FnExactLineBack', WHERE WHAT IT READS IS OF BULK AT MOST 1048576: true; the input reads as it did. -/
def fnExactLineBackUptoRow : OpenClaim := { program := "ytkakhajellemcaa", sum := "333398561fff1f707ee92c668a299e5f1f4284d40f28435f031ec87aa24b2426", func := "loop.example/reversiblecircuits/laws.FnExactLineBack", spec := "fnExactLineBack", apart := false, narrowed := true }
def FnExactLineBackUptoSaid : Prop := fnExactLineBackUptoRow.holds Try.pinned (OpenSpec.upto fnExactLineBackSpec)

/-- 'laws.FnLineValid', WHERE WHAT IT READS IS OF BULK AT MOST 1048576: true; the input reads as it did. -/
def fnLineValidUptoRow : OpenClaim := { program := "ytkakhajellemcaa", sum := "333398561fff1f707ee92c668a299e5f1f4284d40f28435f031ec87aa24b2426", func := "loop.example/reversiblecircuits/laws.FnLineValid", spec := "fnLineValid", apart := false, narrowed := true }
def FnLineValidUptoSaid : Prop := fnLineValidUptoRow.holds Try.pinned (OpenSpec.upto fnLineValidSpec)

/-- 'laws.FnLineBack', WHERE WHAT IT READS IS OF BULK AT MOST 1048576: true; the input reads as it did. -/
def fnLineBackUptoRow : OpenClaim := { program := "ytkakhajellemcaa", sum := "333398561fff1f707ee92c668a299e5f1f4284d40f28435f031ec87aa24b2426", func := "loop.example/reversiblecircuits/laws.FnLineBack", spec := "fnLineBack", apart := false, narrowed := true }
def FnLineBackUptoSaid : Prop := fnLineBackUptoRow.holds Try.pinned (OpenSpec.upto fnLineBackSpec)

/-- 'laws.FnExactProgramValid', WHERE WHAT IT READS IS OF BULK AT MOST 1048576: true; the input reads as it did. -/
def fnExactProgramValidUptoRow : OpenClaim := { program := "ytkakhajellemcaa", sum := "333398561fff1f707ee92c668a299e5f1f4284d40f28435f031ec87aa24b2426", func := "loop.example/reversiblecircuits/laws.FnExactProgramValid", spec := "fnExactProgramValid", unfollowed := true, recurses := true, apart := false, narrowed := true }
def FnExactProgramValidUptoSaid : Prop := fnExactProgramValidUptoRow.holds Try.pinned (OpenSpec.upto fnExactProgramValidSpec)

/-- 'laws.FnProgramValid', WHERE WHAT IT READS IS OF BULK AT MOST 1048576: true; the input reads as it did. -/
def fnProgramValidUptoRow : OpenClaim := { program := "ytkakhajellemcaa", sum := "333398561fff1f707ee92c668a299e5f1f4284d40f28435f031ec87aa24b2426", func := "loop.example/reversiblecircuits/laws.FnProgramValid", spec := "fnProgramValid", unfollowed := true, recurses := true, apart := false, narrowed := true }
def FnProgramValidUptoSaid : Prop := fnProgramValidUptoRow.holds Try.pinned (OpenSpec.upto fnProgramValidSpec)

end Rows
end Go.Proofs.Ytkakhajellemcaa
