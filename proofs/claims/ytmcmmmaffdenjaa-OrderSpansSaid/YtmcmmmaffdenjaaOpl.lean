/-
  Plain facts of chapter 35's laws.
-/
import Derived.Test.YtmcmmmaffdenjaaAk5
import Derived.Test.YtmcmmmaffdenjaaBlp
import Derived.Test.YtmcmmmaffdenjaaLcm
namespace Go.Proofs.Ytmcmmmaffdenjaa
open Go.RowKit Eng
set_option linter.unusedVariables false
set_option linter.unusedSimpArgs false
set_option maxHeartbeats 8000000
attribute [local irreducible] SC SQ J Qt Calls Iterates
theorem cov_prop (o : Od) (d : Int) : cov o d = true ↔ o.st ≤ d ∧ (o.kd = 1 ∨ d ≤ o.en) := by
  unfold cov
  rw [decide_eq_true_eq]
end Go.Proofs.Ytmcmmmaffdenjaa
