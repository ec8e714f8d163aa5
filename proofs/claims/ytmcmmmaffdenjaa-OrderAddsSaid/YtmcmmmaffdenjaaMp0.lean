/-
  Maps as association lists.
-/
import Derived.Test.YtmcmmmaffdenjaaEngCoreB
import Derived.Test.YtmcmmmaffdenjaaOr1
namespace Go.Proofs.Ytmcmmmaffdenjaa
open Go.RowKit Eng
set_option linter.unusedVariables false
set_option linter.unusedSimpArgs false
set_option maxHeartbeats 8000000
attribute [local irreducible] SC SQ J Qt Calls Iterates
def lkG {α : Type} : List (Int × α) → Int → Option α
  | [], _ => none
  | (k', v) :: M, k => if k' = k then some v else lkG M k
abbrev valsG {α : Type} (f : α → Value) (M : List (Int × α)) : List (Int × Value) := M.map fun q => (q.1, f q.2)
end Go.Proofs.Ytmcmmmaffdenjaa
