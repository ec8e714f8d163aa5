/-
  What the laws of chapter 36 share.
-/
import Derived.Test.YtmcmmmaffdenjaaAwa
import Derived.Test.YtmcmmmaffdenjaaRlp
namespace Go.Proofs.Ytmcmmmaffdenjaa
open Go.RowKit Eng
set_option linter.unusedVariables false
set_option linter.unusedSimpArgs false
set_option maxHeartbeats 8000000
attribute [local irreducible] SC SQ J Qt Calls Iterates
/-- Each once. -/
abbrev cntM (seen : List Int) : List (Int × Value) := seen.map fun k => (k, .int .i64 1)
end Go.Proofs.Ytmcmmmaffdenjaa
