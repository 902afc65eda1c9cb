/-
  No cell of these rows narrows 'for every input' (looked for: loops, veiled, ifaces, maps, wideKeys, modest, calm, conditions, laid).
  DERIVED. THE GIVEN ROWS OF THIS SEAT. 20 by the template 'for every input the law returns true; each argument reads behind the call as it read before'; 0 by the template 'total and deterministic' (their statements: YtcebbllibchgiaaTotals.lean).
  GIVEN WITH THE SEED: the statements are not yours to turn. If you find one false, say at which input.
  Laid BY PROGRAM, IN A SANDBOX (cutbox-rows.mjs): the forced cells as the released guide's own fill.sh prints them over the translation d39ecae7bad2accc… (all of the seat's roots in one cut). By AI agents, Wed Nov 11 2026. No macro, syntax, notation, axiom, sorry.
-/
import Derived.Test.YtcebbllibchgiaaChecked
import GoSem.Claim
import GoSem.ClaimJoined
import GoSem.ClaimMapViews
import Derived.JoinedTies
import Derived.KernelRfl
namespace Go.Proofs.Ytcebbllibchgiaa
/- THE CELL 'sum', in the pinned program and in every row, IS THE sha256 OF THE DUMP (.gsa) THAT YtcebbllibchgiaaProg.lean LOADS. Nothing in Lean hashes anything: it is a label: what it is worth is what the hold of that sum in a sandbox is worth. -/
noncomputable def Try.pinned : Pinned := { name := "ytcebbllibchgiaa", sum := "d39ecae7bad2accc18de1fd186e5705b9865aaf62e2c92b69795636ec96cebcb", checked := Try.checked }
namespace Rows
def none {H : Type} : Left H := { results := [], args := [] }

/-- 'laws.FnExactFuncValid': WHATEVER THE INPUT: true; the input reads as it did. -/
def fnExactFuncValidSpec : ChangeSpec := { name := "fnExactFuncValid", fn := fun _ => fun
  | [d1, d2, d3] => { results := [.lit (.bool true)], args := [d1, d2, d3] }
  | _ => none }
def fnExactFuncValidRow : OpenClaim := { program := "ytcebbllibchgiaa", sum := "d39ecae7bad2accc18de1fd186e5705b9865aaf62e2c92b69795636ec96cebcb", func := "loop.example/reversiblecircuits/laws.FnExactFuncValid", spec := "fnExactFuncValid", unfollowed := true, recurses := true, apart := false }
def FnExactFuncValidSaid : Prop := fnExactFuncValidRow.holds Try.pinned (OpenSpec.ofChange fnExactFuncValidSpec)

/-- ITS FALSE NEIGHBOUR: 'it returns false'. Refute it at one input. -/
def fnExactFuncValidWrong : ChangeSpec := { name := "fnExactFuncValid", fn := fun _ => fun
  | [d1, d2, d3] => { results := [.lit (.bool false)], args := [d1, d2, d3] }
  | _ => none }
def FnExactFuncValidWrongFalsely : Prop := fnExactFuncValidRow.holds Try.pinned (OpenSpec.ofChange fnExactFuncValidWrong)

/-- 'laws.FnExactSameMany': WHATEVER THE INPUT: true; the input reads as it did. -/
def fnExactSameManySpec : ChangeSpec := { name := "fnExactSameMany", fn := fun _ => fun
  | [d1, d2, d3, d4] => { results := [.lit (.bool true)], args := [d1, d2, d3, d4] }
  | _ => none }
def fnExactSameManyRow : OpenClaim := { program := "ytcebbllibchgiaa", sum := "d39ecae7bad2accc18de1fd186e5705b9865aaf62e2c92b69795636ec96cebcb", func := "loop.example/reversiblecircuits/laws.FnExactSameMany", spec := "fnExactSameMany", unfollowed := true, recurses := true, apart := false }
def FnExactSameManySaid : Prop := fnExactSameManyRow.holds Try.pinned (OpenSpec.ofChange fnExactSameManySpec)

/-- ITS FALSE NEIGHBOUR: 'it returns false'. Refute it at one input. -/
def fnExactSameManyWrong : ChangeSpec := { name := "fnExactSameMany", fn := fun _ => fun
  | [d1, d2, d3, d4] => { results := [.lit (.bool false)], args := [d1, d2, d3, d4] }
  | _ => none }
def FnExactSameManyWrongFalsely : Prop := fnExactSameManyRow.holds Try.pinned (OpenSpec.ofChange fnExactSameManyWrong)

/-- 'laws.FnFuncValid': WHATEVER THE INPUT: true; the input reads as it did. -/
def fnFuncValidSpec : ChangeSpec := { name := "fnFuncValid", fn := fun _ => fun
  | [d] => { results := [.lit (.bool true)], args := [d] }
  | _ => none }
def fnFuncValidRow : OpenClaim := { program := "ytcebbllibchgiaa", sum := "d39ecae7bad2accc18de1fd186e5705b9865aaf62e2c92b69795636ec96cebcb", func := "loop.example/reversiblecircuits/laws.FnFuncValid", spec := "fnFuncValid", unfollowed := true, recurses := true, apart := false }
def FnFuncValidSaid : Prop := fnFuncValidRow.holds Try.pinned (OpenSpec.ofChange fnFuncValidSpec)

/-- ITS FALSE NEIGHBOUR: 'it returns false'. Refute it at one input. -/
def fnFuncValidWrong : ChangeSpec := { name := "fnFuncValid", fn := fun _ => fun
  | [d] => { results := [.lit (.bool false)], args := [d] }
  | _ => none }
def FnFuncValidWrongFalsely : Prop := fnFuncValidRow.holds Try.pinned (OpenSpec.ofChange fnFuncValidWrong)

/-- 'laws.FnExactFuncThen': WHATEVER THE INPUT: true; the input reads as it did. -/
def fnExactFuncThenSpec : ChangeSpec := { name := "fnExactFuncThen", fn := fun _ => fun
  | [d1, d2, d3, d4, d5] => { results := [.lit (.bool true)], args := [d1, d2, d3, d4, d5] }
  | _ => none }
def fnExactFuncThenRow : OpenClaim := { program := "ytcebbllibchgiaa", sum := "d39ecae7bad2accc18de1fd186e5705b9865aaf62e2c92b69795636ec96cebcb", func := "loop.example/reversiblecircuits/laws.FnExactFuncThen", spec := "fnExactFuncThen", unfollowed := true, recurses := true, apart := false }
def FnExactFuncThenSaid : Prop := fnExactFuncThenRow.holds Try.pinned (OpenSpec.ofChange fnExactFuncThenSpec)

/-- ITS FALSE NEIGHBOUR: 'it returns false'. Refute it at one input. -/
def fnExactFuncThenWrong : ChangeSpec := { name := "fnExactFuncThen", fn := fun _ => fun
  | [d1, d2, d3, d4, d5] => { results := [.lit (.bool false)], args := [d1, d2, d3, d4, d5] }
  | _ => none }
def FnExactFuncThenWrongFalsely : Prop := fnExactFuncThenRow.holds Try.pinned (OpenSpec.ofChange fnExactFuncThenWrong)

/-- 'laws.FnExactOnto': WHATEVER THE INPUT: true; the input reads as it did. -/
def fnExactOntoSpec : ChangeSpec := { name := "fnExactOnto", fn := fun _ => fun
  | [d1, d2, d3] => { results := [.lit (.bool true)], args := [d1, d2, d3] }
  | _ => none }
def fnExactOntoRow : OpenClaim := { program := "ytcebbllibchgiaa", sum := "d39ecae7bad2accc18de1fd186e5705b9865aaf62e2c92b69795636ec96cebcb", func := "loop.example/reversiblecircuits/laws.FnExactOnto", spec := "fnExactOnto", unfollowed := true, recurses := true, apart := false }
def FnExactOntoSaid : Prop := fnExactOntoRow.holds Try.pinned (OpenSpec.ofChange fnExactOntoSpec)

/-- ITS FALSE NEIGHBOUR: 'it returns false'. Refute it at one input. -/
def fnExactOntoWrong : ChangeSpec := { name := "fnExactOnto", fn := fun _ => fun
  | [d1, d2, d3] => { results := [.lit (.bool false)], args := [d1, d2, d3] }
  | _ => none }
def FnExactOntoWrongFalsely : Prop := fnExactOntoRow.holds Try.pinned (OpenSpec.ofChange fnExactOntoWrong)

/-- 'laws.FnExactSameMost': WHATEVER THE INPUT: true; the input reads as it did. -/
def fnExactSameMostSpec : ChangeSpec := { name := "fnExactSameMost", fn := fun _ => fun
  | [d1, d2, d3] => { results := [.lit (.bool true)], args := [d1, d2, d3] }
  | _ => none }
def fnExactSameMostRow : OpenClaim := { program := "ytcebbllibchgiaa", sum := "d39ecae7bad2accc18de1fd186e5705b9865aaf62e2c92b69795636ec96cebcb", func := "loop.example/reversiblecircuits/laws.FnExactSameMost", spec := "fnExactSameMost", unfollowed := true, recurses := true, apart := false }
def FnExactSameMostSaid : Prop := fnExactSameMostRow.holds Try.pinned (OpenSpec.ofChange fnExactSameMostSpec)

/-- ITS FALSE NEIGHBOUR: 'it returns false'. Refute it at one input. -/
def fnExactSameMostWrong : ChangeSpec := { name := "fnExactSameMost", fn := fun _ => fun
  | [d1, d2, d3] => { results := [.lit (.bool false)], args := [d1, d2, d3] }
  | _ => none }
def FnExactSameMostWrongFalsely : Prop := fnExactSameMostRow.holds Try.pinned (OpenSpec.ofChange fnExactSameMostWrong)

/-- 'laws.FnExactOneToOne': WHATEVER THE INPUT: true; the input reads as it did. -/
def fnExactOneToOneSpec : ChangeSpec := { name := "fnExactOneToOne", fn := fun _ => fun
  | [d1, d2, d3] => { results := [.lit (.bool true)], args := [d1, d2, d3] }
  | _ => none }
def fnExactOneToOneRow : OpenClaim := { program := "ytcebbllibchgiaa", sum := "d39ecae7bad2accc18de1fd186e5705b9865aaf62e2c92b69795636ec96cebcb", func := "loop.example/reversiblecircuits/laws.FnExactOneToOne", spec := "fnExactOneToOne", unfollowed := true, recurses := true, apart := false }
def FnExactOneToOneSaid : Prop := fnExactOneToOneRow.holds Try.pinned (OpenSpec.ofChange fnExactOneToOneSpec)

/-- ITS FALSE NEIGHBOUR: 'it returns false'. Refute it at one input. -/
def fnExactOneToOneWrong : ChangeSpec := { name := "fnExactOneToOne", fn := fun _ => fun
  | [d1, d2, d3] => { results := [.lit (.bool false)], args := [d1, d2, d3] }
  | _ => none }
def FnExactOneToOneWrongFalsely : Prop := fnExactOneToOneRow.holds Try.pinned (OpenSpec.ofChange fnExactOneToOneWrong)

/-- 'laws.FnExactEmbeds': WHATEVER THE INPUT: true; the input reads as it did. -/
def fnExactEmbedsSpec : ChangeSpec := { name := "fnExactEmbeds", fn := fun _ => fun
  | [d1, d2, d3, d4, d5] => { results := [.lit (.bool true)], args := [d1, d2, d3, d4, d5] }
  | _ => none }
def fnExactEmbedsRow : OpenClaim := { program := "ytcebbllibchgiaa", sum := "d39ecae7bad2accc18de1fd186e5705b9865aaf62e2c92b69795636ec96cebcb", func := "loop.example/reversiblecircuits/laws.FnExactEmbeds", spec := "fnExactEmbeds", unfollowed := true, recurses := true, apart := false }
def FnExactEmbedsSaid : Prop := fnExactEmbedsRow.holds Try.pinned (OpenSpec.ofChange fnExactEmbedsSpec)

/-- ITS FALSE NEIGHBOUR: 'it returns false'. Refute it at one input. -/
def fnExactEmbedsWrong : ChangeSpec := { name := "fnExactEmbeds", fn := fun _ => fun
  | [d1, d2, d3, d4, d5] => { results := [.lit (.bool false)], args := [d1, d2, d3, d4, d5] }
  | _ => none }
def FnExactEmbedsWrongFalsely : Prop := fnExactEmbedsRow.holds Try.pinned (OpenSpec.ofChange fnExactEmbedsWrong)

/-- 'laws.FnSameMany': WHATEVER THE INPUT: true; the input reads as it did. -/
def fnSameManySpec : ChangeSpec := { name := "fnSameMany", fn := fun _ => fun
  | [d] => { results := [.lit (.bool true)], args := [d] }
  | _ => none }
def fnSameManyRow : OpenClaim := { program := "ytcebbllibchgiaa", sum := "d39ecae7bad2accc18de1fd186e5705b9865aaf62e2c92b69795636ec96cebcb", func := "loop.example/reversiblecircuits/laws.FnSameMany", spec := "fnSameMany", unfollowed := true, recurses := true, apart := false }
def FnSameManySaid : Prop := fnSameManyRow.holds Try.pinned (OpenSpec.ofChange fnSameManySpec)

/-- ITS FALSE NEIGHBOUR: 'it returns false'. Refute it at one input. -/
def fnSameManyWrong : ChangeSpec := { name := "fnSameMany", fn := fun _ => fun
  | [d] => { results := [.lit (.bool false)], args := [d] }
  | _ => none }
def FnSameManyWrongFalsely : Prop := fnSameManyRow.holds Try.pinned (OpenSpec.ofChange fnSameManyWrong)

/-- 'laws.FnSameMost': WHATEVER THE INPUT: true; the input reads as it did. -/
def fnSameMostSpec : ChangeSpec := { name := "fnSameMost", fn := fun _ => fun
  | [d] => { results := [.lit (.bool true)], args := [d] }
  | _ => none }
def fnSameMostRow : OpenClaim := { program := "ytcebbllibchgiaa", sum := "d39ecae7bad2accc18de1fd186e5705b9865aaf62e2c92b69795636ec96cebcb", func := "loop.example/reversiblecircuits/laws.FnSameMost", spec := "fnSameMost", unfollowed := true, recurses := true, apart := false }
def FnSameMostSaid : Prop := fnSameMostRow.holds Try.pinned (OpenSpec.ofChange fnSameMostSpec)

/-- ITS FALSE NEIGHBOUR: 'it returns false'. Refute it at one input. -/
def fnSameMostWrong : ChangeSpec := { name := "fnSameMost", fn := fun _ => fun
  | [d] => { results := [.lit (.bool false)], args := [d] }
  | _ => none }
def FnSameMostWrongFalsely : Prop := fnSameMostRow.holds Try.pinned (OpenSpec.ofChange fnSameMostWrong)

/-- 'laws.FnFuncThen': WHATEVER THE INPUT: true; the input reads as it did. -/
def fnFuncThenSpec : ChangeSpec := { name := "fnFuncThen", fn := fun _ => fun
  | [d] => { results := [.lit (.bool true)], args := [d] }
  | _ => none }
def fnFuncThenRow : OpenClaim := { program := "ytcebbllibchgiaa", sum := "d39ecae7bad2accc18de1fd186e5705b9865aaf62e2c92b69795636ec96cebcb", func := "loop.example/reversiblecircuits/laws.FnFuncThen", spec := "fnFuncThen", unfollowed := true, recurses := true, apart := false }
def FnFuncThenSaid : Prop := fnFuncThenRow.holds Try.pinned (OpenSpec.ofChange fnFuncThenSpec)

/-- ITS FALSE NEIGHBOUR: 'it returns false'. Refute it at one input. -/
def fnFuncThenWrong : ChangeSpec := { name := "fnFuncThen", fn := fun _ => fun
  | [d] => { results := [.lit (.bool false)], args := [d] }
  | _ => none }
def FnFuncThenWrongFalsely : Prop := fnFuncThenRow.holds Try.pinned (OpenSpec.ofChange fnFuncThenWrong)

/-- 'laws.FnExactKeepLines': WHATEVER THE INPUT: true; the input reads as it did. -/
def fnExactKeepLinesSpec : ChangeSpec := { name := "fnExactKeepLines", fn := fun _ => fun
  | [d1, d2, d3] => { results := [.lit (.bool true)], args := [d1, d2, d3] }
  | _ => none }
def fnExactKeepLinesRow : OpenClaim := { program := "ytcebbllibchgiaa", sum := "d39ecae7bad2accc18de1fd186e5705b9865aaf62e2c92b69795636ec96cebcb", func := "loop.example/reversiblecircuits/laws.FnExactKeepLines", spec := "fnExactKeepLines", unfollowed := true, recurses := true, apart := false }
def FnExactKeepLinesSaid : Prop := fnExactKeepLinesRow.holds Try.pinned (OpenSpec.ofChange fnExactKeepLinesSpec)

/-- ITS FALSE NEIGHBOUR: 'it returns false'. Refute it at one input. -/
def fnExactKeepLinesWrong : ChangeSpec := { name := "fnExactKeepLines", fn := fun _ => fun
  | [d1, d2, d3] => { results := [.lit (.bool false)], args := [d1, d2, d3] }
  | _ => none }
def FnExactKeepLinesWrongFalsely : Prop := fnExactKeepLinesRow.holds Try.pinned (OpenSpec.ofChange fnExactKeepLinesWrong)

/-- 'laws.FnKeepLines': WHATEVER THE INPUT: true; the input reads as it did. -/
def fnKeepLinesSpec : ChangeSpec := { name := "fnKeepLines", fn := fun _ => fun
  | [d] => { results := [.lit (.bool true)], args := [d] }
  | _ => none }
def fnKeepLinesRow : OpenClaim := { program := "ytcebbllibchgiaa", sum := "d39ecae7bad2accc18de1fd186e5705b9865aaf62e2c92b69795636ec96cebcb", func := "loop.example/reversiblecircuits/laws.FnKeepLines", spec := "fnKeepLines", unfollowed := true, recurses := true, apart := false }
def FnKeepLinesSaid : Prop := fnKeepLinesRow.holds Try.pinned (OpenSpec.ofChange fnKeepLinesSpec)

/-- ITS FALSE NEIGHBOUR: 'it returns false'. Refute it at one input. -/
def fnKeepLinesWrong : ChangeSpec := { name := "fnKeepLines", fn := fun _ => fun
  | [d] => { results := [.lit (.bool false)], args := [d] }
  | _ => none }
def FnKeepLinesWrongFalsely : Prop := fnKeepLinesRow.holds Try.pinned (OpenSpec.ofChange fnKeepLinesWrong)

/-- 'laws.FnExactEmbedLines': WHATEVER THE INPUT: true; the input reads as it did. -/
def fnExactEmbedLinesSpec : ChangeSpec := { name := "fnExactEmbedLines", fn := fun _ => fun
  | [d1, d2, d3] => { results := [.lit (.bool true)], args := [d1, d2, d3] }
  | _ => none }
def fnExactEmbedLinesRow : OpenClaim := { program := "ytcebbllibchgiaa", sum := "d39ecae7bad2accc18de1fd186e5705b9865aaf62e2c92b69795636ec96cebcb", func := "loop.example/reversiblecircuits/laws.FnExactEmbedLines", spec := "fnExactEmbedLines", unfollowed := true, recurses := true, apart := false }
def FnExactEmbedLinesSaid : Prop := fnExactEmbedLinesRow.holds Try.pinned (OpenSpec.ofChange fnExactEmbedLinesSpec)

/-- ITS FALSE NEIGHBOUR: 'it returns false'. Refute it at one input. -/
def fnExactEmbedLinesWrong : ChangeSpec := { name := "fnExactEmbedLines", fn := fun _ => fun
  | [d1, d2, d3] => { results := [.lit (.bool false)], args := [d1, d2, d3] }
  | _ => none }
def FnExactEmbedLinesWrongFalsely : Prop := fnExactEmbedLinesRow.holds Try.pinned (OpenSpec.ofChange fnExactEmbedLinesWrong)

/-- 'laws.FnEmbedLines': WHATEVER THE INPUT: true; the input reads as it did. -/
def fnEmbedLinesSpec : ChangeSpec := { name := "fnEmbedLines", fn := fun _ => fun
  | [d] => { results := [.lit (.bool true)], args := [d] }
  | _ => none }
def fnEmbedLinesRow : OpenClaim := { program := "ytcebbllibchgiaa", sum := "d39ecae7bad2accc18de1fd186e5705b9865aaf62e2c92b69795636ec96cebcb", func := "loop.example/reversiblecircuits/laws.FnEmbedLines", spec := "fnEmbedLines", unfollowed := true, recurses := true, apart := false }
def FnEmbedLinesSaid : Prop := fnEmbedLinesRow.holds Try.pinned (OpenSpec.ofChange fnEmbedLinesSpec)

/-- ITS FALSE NEIGHBOUR: 'it returns false'. Refute it at one input. -/
def fnEmbedLinesWrong : ChangeSpec := { name := "fnEmbedLines", fn := fun _ => fun
  | [d] => { results := [.lit (.bool false)], args := [d] }
  | _ => none }
def FnEmbedLinesWrongFalsely : Prop := fnEmbedLinesRow.holds Try.pinned (OpenSpec.ofChange fnEmbedLinesWrong)

/-- 'laws.FnExactEmbedTable': WHATEVER THE INPUT: true; the input reads as it did. -/
def fnExactEmbedTableSpec : ChangeSpec := { name := "fnExactEmbedTable", fn := fun _ => fun
  | [d1, d2, d3] => { results := [.lit (.bool true)], args := [d1, d2, d3] }
  | _ => none }
def fnExactEmbedTableRow : OpenClaim := { program := "ytcebbllibchgiaa", sum := "d39ecae7bad2accc18de1fd186e5705b9865aaf62e2c92b69795636ec96cebcb", func := "loop.example/reversiblecircuits/laws.FnExactEmbedTable", spec := "fnExactEmbedTable", unfollowed := true, recurses := true, apart := false }
def FnExactEmbedTableSaid : Prop := fnExactEmbedTableRow.holds Try.pinned (OpenSpec.ofChange fnExactEmbedTableSpec)

/-- ITS FALSE NEIGHBOUR: 'it returns false'. Refute it at one input. -/
def fnExactEmbedTableWrong : ChangeSpec := { name := "fnExactEmbedTable", fn := fun _ => fun
  | [d1, d2, d3] => { results := [.lit (.bool false)], args := [d1, d2, d3] }
  | _ => none }
def FnExactEmbedTableWrongFalsely : Prop := fnExactEmbedTableRow.holds Try.pinned (OpenSpec.ofChange fnExactEmbedTableWrong)

/-- 'laws.FnEmbedTable': WHATEVER THE INPUT: true; the input reads as it did. -/
def fnEmbedTableSpec : ChangeSpec := { name := "fnEmbedTable", fn := fun _ => fun
  | [d] => { results := [.lit (.bool true)], args := [d] }
  | _ => none }
def fnEmbedTableRow : OpenClaim := { program := "ytcebbllibchgiaa", sum := "d39ecae7bad2accc18de1fd186e5705b9865aaf62e2c92b69795636ec96cebcb", func := "loop.example/reversiblecircuits/laws.FnEmbedTable", spec := "fnEmbedTable", unfollowed := true, recurses := true, apart := false }
def FnEmbedTableSaid : Prop := fnEmbedTableRow.holds Try.pinned (OpenSpec.ofChange fnEmbedTableSpec)

/-- ITS FALSE NEIGHBOUR: 'it returns false'. Refute it at one input. -/
def fnEmbedTableWrong : ChangeSpec := { name := "fnEmbedTable", fn := fun _ => fun
  | [d] => { results := [.lit (.bool false)], args := [d] }
  | _ => none }
def FnEmbedTableWrongFalsely : Prop := fnEmbedTableRow.holds Try.pinned (OpenSpec.ofChange fnEmbedTableWrong)

/-- 'laws.FnOnto': WHATEVER THE INPUT: true; the input reads as it did. -/
def fnOntoSpec : ChangeSpec := { name := "fnOnto", fn := fun _ => fun
  | [d] => { results := [.lit (.bool true)], args := [d] }
  | _ => none }
def fnOntoRow : OpenClaim := { program := "ytcebbllibchgiaa", sum := "d39ecae7bad2accc18de1fd186e5705b9865aaf62e2c92b69795636ec96cebcb", func := "loop.example/reversiblecircuits/laws.FnOnto", spec := "fnOnto", unfollowed := true, recurses := true, apart := false }
def FnOntoSaid : Prop := fnOntoRow.holds Try.pinned (OpenSpec.ofChange fnOntoSpec)

/-- ITS FALSE NEIGHBOUR: 'it returns false'. Refute it at one input. -/
def fnOntoWrong : ChangeSpec := { name := "fnOnto", fn := fun _ => fun
  | [d] => { results := [.lit (.bool false)], args := [d] }
  | _ => none }
def FnOntoWrongFalsely : Prop := fnOntoRow.holds Try.pinned (OpenSpec.ofChange fnOntoWrong)

/-- 'laws.FnOneToOne': WHATEVER THE INPUT: true; the input reads as it did. -/
def fnOneToOneSpec : ChangeSpec := { name := "fnOneToOne", fn := fun _ => fun
  | [d] => { results := [.lit (.bool true)], args := [d] }
  | _ => none }
def fnOneToOneRow : OpenClaim := { program := "ytcebbllibchgiaa", sum := "d39ecae7bad2accc18de1fd186e5705b9865aaf62e2c92b69795636ec96cebcb", func := "loop.example/reversiblecircuits/laws.FnOneToOne", spec := "fnOneToOne", unfollowed := true, recurses := true, apart := false }
def FnOneToOneSaid : Prop := fnOneToOneRow.holds Try.pinned (OpenSpec.ofChange fnOneToOneSpec)

/-- ITS FALSE NEIGHBOUR: 'it returns false'. Refute it at one input. -/
def fnOneToOneWrong : ChangeSpec := { name := "fnOneToOne", fn := fun _ => fun
  | [d] => { results := [.lit (.bool false)], args := [d] }
  | _ => none }
def FnOneToOneWrongFalsely : Prop := fnOneToOneRow.holds Try.pinned (OpenSpec.ofChange fnOneToOneWrong)

/-- 'laws.FnEmbeds': WHATEVER THE INPUT: true; the input reads as it did. -/
def fnEmbedsSpec : ChangeSpec := { name := "fnEmbeds", fn := fun _ => fun
  | [d] => { results := [.lit (.bool true)], args := [d] }
  | _ => none }
def fnEmbedsRow : OpenClaim := { program := "ytcebbllibchgiaa", sum := "d39ecae7bad2accc18de1fd186e5705b9865aaf62e2c92b69795636ec96cebcb", func := "loop.example/reversiblecircuits/laws.FnEmbeds", spec := "fnEmbeds", unfollowed := true, recurses := true, apart := false }
def FnEmbedsSaid : Prop := fnEmbedsRow.holds Try.pinned (OpenSpec.ofChange fnEmbedsSpec)

/-- ITS FALSE NEIGHBOUR: 'it returns false'. Refute it at one input. -/
def fnEmbedsWrong : ChangeSpec := { name := "fnEmbeds", fn := fun _ => fun
  | [d] => { results := [.lit (.bool false)], args := [d] }
  | _ => none }
def FnEmbedsWrongFalsely : Prop := fnEmbedsRow.holds Try.pinned (OpenSpec.ofChange fnEmbedsWrong)

/- THE SECOND FORM. 'bulk': how many values and letters a reading holds, each counted each time it is reached (what is shared counts as often as it is met; a slice's spare places count too). A statement '..UptoSaid' is the law's where the arguments, and the package variables that the reading takes, are together of bulk at most 1048576: NARROWER than '..Said'. Prove '..Said' where nothing that the law and all that it calls make is longer than what came in: it says more and counts as full. Else prove '..UptoSaid'. A law counts once. -/
mutual
def uptoBulk {H : Type} : DataW H → Nat
  | .lit (.string bytes) => bytes.length + 1
  | .lit _ => 1
  | .nil => 1
  | .ptr d => uptoBulk d + 1
  | .slice elems spare => uptoBulkAll elems + uptoBulkAll spare + 1
  | .agg parts => uptoBulkAll parts + 1
  | .iface _ d => uptoBulk d + 1
  | .map entries => uptoBulkEntries entries + 1
  | .held _ => 1
def uptoBulkAll {H : Type} : List (DataW H) → Nat
  | [] => 0
  | d :: r => uptoBulk d + uptoBulkAll r
def uptoBulkEntries {H : Type} : List (Lit × DataW H) → Nat
  | [] => 0
  | x :: r => uptoBulkEntry x + uptoBulkEntries r
def uptoBulkEntry {H : Type} : Lit × DataW H → Nat
  | (.string bytes, d) => bytes.length + uptoBulk d + 1
  | (_, d) => uptoBulk d + 1
 end
def uptoSmall : (H : Type) → List (DataW H) → Bool := fun _ ds => decide (uptoBulkAll ds ≤ 1048576)
def OpenSpec.upto (s : _root_.Go.ChangeSpec) : _root_.Go.OpenSpec := { _root_.Go.OpenSpec.ofChange s with cond := some uptoSmall }

/-- 'laws.FnExactFuncValid', WHERE WHAT IT READS IS OF BULK AT MOST 1048576: true; the input reads as it did. -/
def fnExactFuncValidUptoRow : OpenClaim := { program := "ytcebbllibchgiaa", sum := "d39ecae7bad2accc18de1fd186e5705b9865aaf62e2c92b69795636ec96cebcb", func := "loop.example/reversiblecircuits/laws.FnExactFuncValid", spec := "fnExactFuncValid", unfollowed := true, recurses := true, apart := false, narrowed := true }
def FnExactFuncValidUptoSaid : Prop := fnExactFuncValidUptoRow.holds Try.pinned (OpenSpec.upto fnExactFuncValidSpec)

/-- 'laws.FnExactSameMany', WHERE WHAT IT READS IS OF BULK AT MOST 1048576: true; the input reads as it did. -/
def fnExactSameManyUptoRow : OpenClaim := { program := "ytcebbllibchgiaa", sum := "d39ecae7bad2accc18de1fd186e5705b9865aaf62e2c92b69795636ec96cebcb", func := "loop.example/reversiblecircuits/laws.FnExactSameMany", spec := "fnExactSameMany", unfollowed := true, recurses := true, apart := false, narrowed := true }
def FnExactSameManyUptoSaid : Prop := fnExactSameManyUptoRow.holds Try.pinned (OpenSpec.upto fnExactSameManySpec)

/-- 'laws.FnFuncValid', WHERE WHAT IT READS IS OF BULK AT MOST 1048576: true; the input reads as it did. -/
def fnFuncValidUptoRow : OpenClaim := { program := "ytcebbllibchgiaa", sum := "d39ecae7bad2accc18de1fd186e5705b9865aaf62e2c92b69795636ec96cebcb", func := "loop.example/reversiblecircuits/laws.FnFuncValid", spec := "fnFuncValid", unfollowed := true, recurses := true, apart := false, narrowed := true }
def FnFuncValidUptoSaid : Prop := fnFuncValidUptoRow.holds Try.pinned (OpenSpec.upto fnFuncValidSpec)

/-- 'laws.FnExactFuncThen', WHERE WHAT IT READS IS OF BULK AT MOST 1048576: true; the input reads as it did. -/
def fnExactFuncThenUptoRow : OpenClaim := { program := "ytcebbllibchgiaa", sum := "d39ecae7bad2accc18de1fd186e5705b9865aaf62e2c92b69795636ec96cebcb", func := "loop.example/reversiblecircuits/laws.FnExactFuncThen", spec := "fnExactFuncThen", unfollowed := true, recurses := true, apart := false, narrowed := true }
def FnExactFuncThenUptoSaid : Prop := fnExactFuncThenUptoRow.holds Try.pinned (OpenSpec.upto fnExactFuncThenSpec)

/-- 'laws.FnExactOnto', WHERE WHAT IT READS IS OF BULK AT MOST 1048576: true; the input reads as it did. -/
def fnExactOntoUptoRow : OpenClaim := { program := "ytcebbllibchgiaa", sum := "d39ecae7bad2accc18de1fd186e5705b9865aaf62e2c92b69795636ec96cebcb", func := "loop.example/reversiblecircuits/laws.FnExactOnto", spec := "fnExactOnto", unfollowed := true, recurses := true, apart := false, narrowed := true }
def FnExactOntoUptoSaid : Prop := fnExactOntoUptoRow.holds Try.pinned (OpenSpec.upto fnExactOntoSpec)

/-- 'laws.FnExactSameMost', WHERE WHAT IT READS IS OF BULK AT MOST 1048576: true; the input reads as it did. -/
def fnExactSameMostUptoRow : OpenClaim := { program := "ytcebbllibchgiaa", sum := "d39ecae7bad2accc18de1fd186e5705b9865aaf62e2c92b69795636ec96cebcb", func := "loop.example/reversiblecircuits/laws.FnExactSameMost", spec := "fnExactSameMost", unfollowed := true, recurses := true, apart := false, narrowed := true }
def FnExactSameMostUptoSaid : Prop := fnExactSameMostUptoRow.holds Try.pinned (OpenSpec.upto fnExactSameMostSpec)

/-- 'laws.FnExactOneToOne', WHERE WHAT IT READS IS OF BULK AT MOST 1048576: true; the input reads as it did. -/
def fnExactOneToOneUptoRow : OpenClaim := { program := "ytcebbllibchgiaa", sum := "d39ecae7bad2accc18de1fd186e5705b9865aaf62e2c92b69795636ec96cebcb", func := "loop.example/reversiblecircuits/laws.FnExactOneToOne", spec := "fnExactOneToOne", unfollowed := true, recurses := true, apart := false, narrowed := true }
def FnExactOneToOneUptoSaid : Prop := fnExactOneToOneUptoRow.holds Try.pinned (OpenSpec.upto fnExactOneToOneSpec)

/-- 'laws.FnExactEmbeds', WHERE WHAT IT READS IS OF BULK AT MOST 1048576: true; the input reads as it did. -/
def fnExactEmbedsUptoRow : OpenClaim := { program := "ytcebbllibchgiaa", sum := "d39ecae7bad2accc18de1fd186e5705b9865aaf62e2c92b69795636ec96cebcb", func := "loop.example/reversiblecircuits/laws.FnExactEmbeds", spec := "fnExactEmbeds", unfollowed := true, recurses := true, apart := false, narrowed := true }
def FnExactEmbedsUptoSaid : Prop := fnExactEmbedsUptoRow.holds Try.pinned (OpenSpec.upto fnExactEmbedsSpec)

/-- 'laws.FnSameMany', WHERE WHAT IT READS IS OF BULK AT MOST 1048576: true; the input reads as it did. -/
def fnSameManyUptoRow : OpenClaim := { program := "ytcebbllibchgiaa", sum := "d39ecae7bad2accc18de1fd186e5705b9865aaf62e2c92b69795636ec96cebcb", func := "loop.example/reversiblecircuits/laws.FnSameMany", spec := "fnSameMany", unfollowed := true, recurses := true, apart := false, narrowed := true }
def FnSameManyUptoSaid : Prop := fnSameManyUptoRow.holds Try.pinned (OpenSpec.upto fnSameManySpec)

/-- 'laws.FnSameMost', WHERE WHAT IT READS IS OF BULK AT MOST 1048576: true; the input reads as it did. -/
def fnSameMostUptoRow : OpenClaim := { program := "ytcebbllibchgiaa", sum := "d39ecae7bad2accc18de1fd186e5705b9865aaf62e2c92b69795636ec96cebcb", func := "loop.example/reversiblecircuits/laws.FnSameMost", spec := "fnSameMost", unfollowed := true, recurses := true, apart := false, narrowed := true }
def FnSameMostUptoSaid : Prop := fnSameMostUptoRow.holds Try.pinned (OpenSpec.upto fnSameMostSpec)

/-- 'laws.FnFuncThen', WHERE WHAT IT READS IS OF BULK AT MOST 1048576: true; the input reads as it did. -/
def fnFuncThenUptoRow : OpenClaim := { program := "ytcebbllibchgiaa", sum := "d39ecae7bad2accc18de1fd186e5705b9865aaf62e2c92b69795636ec96cebcb", func := "loop.example/reversiblecircuits/laws.FnFuncThen", spec := "fnFuncThen", unfollowed := true, recurses := true, apart := false, narrowed := true }
def FnFuncThenUptoSaid : Prop := fnFuncThenUptoRow.holds Try.pinned (OpenSpec.upto fnFuncThenSpec)

/-- 'laws.FnExactKeepLines', WHERE WHAT IT READS IS OF BULK AT MOST 1048576: true; the input reads as it did. -/
def fnExactKeepLinesUptoRow : OpenClaim := { program := "ytcebbllibchgiaa", sum := "d39ecae7bad2accc18de1fd186e5705b9865aaf62e2c92b69795636ec96cebcb", func := "loop.example/reversiblecircuits/laws.FnExactKeepLines", spec := "fnExactKeepLines", unfollowed := true, recurses := true, apart := false, narrowed := true }
def FnExactKeepLinesUptoSaid : Prop := fnExactKeepLinesUptoRow.holds Try.pinned (OpenSpec.upto fnExactKeepLinesSpec)

/-- 'laws.FnKeepLines', WHERE WHAT IT READS IS OF BULK AT MOST 1048576: true; the input reads as it did. -/
def fnKeepLinesUptoRow : OpenClaim := { program := "ytcebbllibchgiaa", sum := "d39ecae7bad2accc18de1fd186e5705b9865aaf62e2c92b69795636ec96cebcb", func := "loop.example/reversiblecircuits/laws.FnKeepLines", spec := "fnKeepLines", unfollowed := true, recurses := true, apart := false, narrowed := true }
def FnKeepLinesUptoSaid : Prop := fnKeepLinesUptoRow.holds Try.pinned (OpenSpec.upto fnKeepLinesSpec)

/-- 'laws.FnExactEmbedLines', WHERE WHAT IT READS IS OF BULK AT MOST 1048576: true; the input reads as it did. -/
def fnExactEmbedLinesUptoRow : OpenClaim := { program := "ytcebbllibchgiaa", sum := "d39ecae7bad2accc18de1fd186e5705b9865aaf62e2c92b69795636ec96cebcb", func := "loop.example/reversiblecircuits/laws.FnExactEmbedLines", spec := "fnExactEmbedLines", unfollowed := true, recurses := true, apart := false, narrowed := true }
def FnExactEmbedLinesUptoSaid : Prop := fnExactEmbedLinesUptoRow.holds Try.pinned (OpenSpec.upto fnExactEmbedLinesSpec)

/-- 'laws.FnEmbedLines', WHERE WHAT IT READS IS OF BULK AT MOST 1048576: true; the input reads as it did. -/
def fnEmbedLinesUptoRow : OpenClaim := { program := "ytcebbllibchgiaa", sum := "d39ecae7bad2accc18de1fd186e5705b9865aaf62e2c92b69795636ec96cebcb", func := "loop.example/reversiblecircuits/laws.FnEmbedLines", spec := "fnEmbedLines", unfollowed := true, recurses := true, apart := false, narrowed := true }
def FnEmbedLinesUptoSaid : Prop := fnEmbedLinesUptoRow.holds Try.pinned (OpenSpec.upto fnEmbedLinesSpec)

/-- 'laws.FnExactEmbedTable', WHERE WHAT IT READS IS OF BULK AT MOST 1048576: true; the input reads as it did. -/
def fnExactEmbedTableUptoRow : OpenClaim := { program := "ytcebbllibchgiaa", sum := "d39ecae7bad2accc18de1fd186e5705b9865aaf62e2c92b69795636ec96cebcb", func := "loop.example/reversiblecircuits/laws.FnExactEmbedTable", spec := "fnExactEmbedTable", unfollowed := true, recurses := true, apart := false, narrowed := true }
def FnExactEmbedTableUptoSaid : Prop := fnExactEmbedTableUptoRow.holds Try.pinned (OpenSpec.upto fnExactEmbedTableSpec)

/-- 'laws.FnEmbedTable', WHERE WHAT IT READS IS OF BULK AT MOST 1048576: true; the input reads as it did. -/
def fnEmbedTableUptoRow : OpenClaim := { program := "ytcebbllibchgiaa", sum := "d39ecae7bad2accc18de1fd186e5705b9865aaf62e2c92b69795636ec96cebcb", func := "loop.example/reversiblecircuits/laws.FnEmbedTable", spec := "fnEmbedTable", unfollowed := true, recurses := true, apart := false, narrowed := true }
def FnEmbedTableUptoSaid : Prop := fnEmbedTableUptoRow.holds Try.pinned (OpenSpec.upto fnEmbedTableSpec)

/-- 'laws.FnOnto', WHERE WHAT IT READS IS OF BULK AT MOST 1048576: true; the input reads as it did. -/
def fnOntoUptoRow : OpenClaim := { program := "ytcebbllibchgiaa", sum := "d39ecae7bad2accc18de1fd186e5705b9865aaf62e2c92b69795636ec96cebcb", func := "loop.example/reversiblecircuits/laws.FnOnto", spec := "fnOnto", unfollowed := true, recurses := true, apart := false, narrowed := true }
def FnOntoUptoSaid : Prop := fnOntoUptoRow.holds Try.pinned (OpenSpec.upto fnOntoSpec)

/-- 'laws.FnOneToOne', WHERE WHAT IT READS IS OF BULK AT MOST 1048576: true; the input reads as it did. -/
def fnOneToOneUptoRow : OpenClaim := { program := "ytcebbllibchgiaa", sum := "d39ecae7bad2accc18de1fd186e5705b9865aaf62e2c92b69795636ec96cebcb", func := "loop.example/reversiblecircuits/laws.FnOneToOne", spec := "fnOneToOne", unfollowed := true, recurses := true, apart := false, narrowed := true }
def FnOneToOneUptoSaid : Prop := fnOneToOneUptoRow.holds Try.pinned (OpenSpec.upto fnOneToOneSpec)

/-- 'laws.FnEmbeds', WHERE WHAT IT READS IS OF BULK AT MOST 1048576: true; the input reads as it did. -/
def fnEmbedsUptoRow : OpenClaim := { program := "ytcebbllibchgiaa", sum := "d39ecae7bad2accc18de1fd186e5705b9865aaf62e2c92b69795636ec96cebcb", func := "loop.example/reversiblecircuits/laws.FnEmbeds", spec := "fnEmbeds", unfollowed := true, recurses := true, apart := false, narrowed := true }
def FnEmbedsUptoSaid : Prop := fnEmbedsUptoRow.holds Try.pinned (OpenSpec.upto fnEmbedsSpec)

end Rows
end Go.Proofs.Ytcebbllibchgiaa
