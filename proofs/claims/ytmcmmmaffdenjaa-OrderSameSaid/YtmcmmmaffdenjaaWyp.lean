/-
  More of ways, plain.
-/
import Derived.Test.YtmcmmmaffdenjaaRlp
namespace Go.Proofs.Ytmcmmmaffdenjaa
open Go.RowKit Eng
set_option linter.unusedVariables false
set_option linter.unusedSimpArgs false
set_option maxHeartbeats 8000000
attribute [local irreducible] SC SQ J Qt Calls Iterates
/-- A set of points from which orders lead into the set. -/
def Closed (f : Int → Od) (S : Int → Prop) : Prop := ∀ q, S q → (f q).idn ≠ 0 ∧ (f q).kd ≠ 3 ∧ S (f q).to
end Go.Proofs.Ytmcmmmaffdenjaa
