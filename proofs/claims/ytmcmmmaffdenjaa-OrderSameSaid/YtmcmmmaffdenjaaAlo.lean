/-
  forward: along.
-/
import Derived.Test.YtmcmmmaffdenjaaOn
import Derived.Test.YtmcmmmaffdenjaaEngCoreB
namespace Go.Proofs.Ytmcmmmaffdenjaa
open Go.RowKit Eng
set_option linter.unusedVariables false
set_option linter.unusedSimpArgs false
set_option maxHeartbeats 8000000
attribute [local irreducible] SC SQ J Qt Calls Iterates
def chF (N : List (Int × Od)) (k : Int) : Od := (lkG N k).getD odZ
abbrev encP (x : Int × Od) : List Value := [.int .i64 x.1, odV x.2]
end Go.Proofs.Ytmcmmmaffdenjaa
