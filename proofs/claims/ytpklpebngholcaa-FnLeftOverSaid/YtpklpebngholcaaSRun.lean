/-
  The word that a gate leads a word to, by the reference.
  No condition.
-/
import Derived.Test.YtpklpebngholcaaRun2
namespace Go.Proofs.Ytpklpebngholcaa
open Go.RowKit Go.Sort base
end Go.Proofs.Ytpklpebngholcaa
