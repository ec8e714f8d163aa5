/-
  order: Add, Cancel.
-/
import Derived.Test.YtmcmmmaffdenjaaSpn
import Derived.Test.YtmcmmmaffdenjaaLno
namespace Go.Proofs.Ytmcmmmaffdenjaa
open Go.RowKit Eng
set_option linter.unusedVariables false
set_option linter.unusedSimpArgs false
set_option maxHeartbeats 8000000
attribute [local irreducible] SC SQ J Qt Calls Iterates
def usedB (l : List Od) (k : Int) : Bool := l.any fun x => decide (x.idn = k)
end Go.Proofs.Ytmcmmmaffdenjaa
