/-
  What is known of the kinds of gates: natures, nature, some.
  No condition.
-/
import Derived.Deep.WholeRow
import Derived.Deep.QuietTactic
import Derived.WalkSpells
import Derived.WalkLawsBesides
import Derived.Handy
import Derived.Laws.ResultCell
import Derived.Test.YtlaidoomjnhlaaaGateLaw
namespace Go.Proofs.Ytlaidoomjnhlaaa
open Go.RowKit Go.Sort base
attribute [local go_sem] heap_redrawn
/-- the name of a kind, and its cost -/
def kName (k : Int) : Array UInt8 := if k = 0 then #[110, 111, 116] else if k = 1 then #[99, 111, 112, 121] else if k = 2 then #[98, 111, 116, 104] else if k = 3 then #[115, 119, 97, 112] else #[105, 102]
def kCost (k : Int) : Int := if k = 0 then 1 else if k = 1 then 1 else if k = 2 then 5 else if k = 3 then 3 else 7
def natOf (name : Array UInt8) (l c k : Int) : List Value := [.string ⟨name⟩, .int .i64 l, .int .i64 c, .int .i64 k]
def natCells : Array Value := (natOf #[110, 111, 116] 1 1 1 ++ natOf #[99, 111, 112, 121] 3 2 1 ++ natOf #[98, 111, 116, 104] 7 4 5 ++ natOf #[115, 119, 97, 112] 3 3 3 ++ natOf #[105, 102] 7 6 7).toArray
end Go.Proofs.Ytlaidoomjnhlaaa
