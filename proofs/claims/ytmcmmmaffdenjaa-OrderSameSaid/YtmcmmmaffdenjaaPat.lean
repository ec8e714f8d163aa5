/-
  forward: path.
-/
import Derived.Test.YtmcmmmaffdenjaaAlo
import Derived.Test.YtmcmmmaffdenjaaEngCoreB
namespace Go.Proofs.Ytmcmmmaffdenjaa
open Go.RowKit Eng
set_option linter.unusedVariables false
set_option linter.unusedSimpArgs false
set_option maxHeartbeats 8000000
attribute [local irreducible] SC SQ J Qt Calls Iterates
def metM (l : List Int) : List (Int × Value) := l.foldl (fun M k => mset M k (.bool true)) []
theorem met_snoc (l : List Int) (k : Int) : metM (l ++ [k]) = mset (metM l) k (.bool true) := by
  unfold metM
  rw [List.foldl_append]
  rfl
/-- A step, and whether the way ends. -/
def stW (s : Wy) (x : Int × Od) : Wy × Option Code := ((wst s x).1, if (wst s x).2 = true then some (.exit 0) else none)
end Go.Proofs.Ytmcmmmaffdenjaa
