/-
  letterbagref35.All.
-/
import Derived.Test.YtmcmmmaffdenjaaRfo
import Derived.Test.YtmcmmmaffdenjaaLno
import Derived.Test.YtmcmmmaffdenjaaEngCoreB
namespace Go.Proofs.Ytmcmmmaffdenjaa
open Go.RowKit Eng
set_option linter.unusedVariables false
set_option linter.unusedSimpArgs false
set_option maxHeartbeats 8000000
attribute [local irreducible] SC SQ J Qt Calls Iterates
def insB (x : Od) : List Od → List Od
  | [] => [x]
  | y :: ys => if bef y x = true then y :: insB x ys else x :: y :: ys
def allS (p d : Int) (R : List Od) (x : Od) : List Od := if x.frm = p ∧ cov x d = true then insB x R else R
def allF (l : List Od) (p d : Int) : List Od := l.foldl (allS p d) []
end Go.Proofs.Ytmcmmmaffdenjaa
