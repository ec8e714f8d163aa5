/-
  forward: last, slices.Min, Loops.
-/
import Derived.Test.YtmcmmmaffdenjaaRel
import Derived.Test.YtmcmmmaffdenjaaEngCoreB
namespace Go.Proofs.Ytmcmmmaffdenjaa
open Go.RowKit Eng
set_option linter.unusedVariables false
set_option linter.unusedSimpArgs false
set_option maxHeartbeats 8000000
attribute [local irreducible] SC SQ J Qt Calls Iterates
def minF : Int → List Int → Int
  | a, [] => a
  | a, x :: xs => minF (if x < a then x else a) xs
/-- The points at which something is in force, in order. -/
def ptsF (l : List Od) (d : Int) : List Int := sortI ((keysOf (l.map (·.frm))).filter fun k => decide ((fo l k d).idn ≠ 0))
end Go.Proofs.Ytmcmmmaffdenjaa
