/-
  Releases, plain.
-/
import Derived.Test.YtmcmmmaffdenjaaBlp
import Derived.Test.YtmcmmmaffdenjaaRel
import Derived.Test.YtmcmmmaffdenjaaLps
namespace Go.Proofs.Ytmcmmmaffdenjaa
open Go.RowKit Eng
set_option linter.unusedVariables false
set_option linter.unusedSimpArgs false
set_option maxHeartbeats 8000000
attribute [local irreducible] SC SQ J Qt Calls Iterates
end Go.Proofs.Ytmcmmmaffdenjaa
