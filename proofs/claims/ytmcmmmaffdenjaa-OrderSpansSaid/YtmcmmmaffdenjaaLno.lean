/-
  letterbagkit: LentOrders, KeptOrders, SameOrders.
-/
import Derived.Test.YtmcmmmaffdenjaaOr3
import Derived.Test.YtmcmmmaffdenjaaEqs
import Derived.Test.YtmcmmmaffdenjaaEngCoreB
namespace Go.Proofs.Ytmcmmmaffdenjaa
open Go.RowKit Eng
set_option linter.unusedVariables false
set_option linter.unusedSimpArgs false
set_option maxHeartbeats 8000000
attribute [local irreducible] SC SQ J Qt Calls Iterates
def mkO (k i : Int) : Od := ⟨1000003 * (k + 7) + i, 0, 0, 0, 0, 0⟩
def mksO (k : Int) : Nat → List Od
  | 0 => []
  | n + 1 => mksO k n ++ [mkO k n]
theorem eq30r (a : Od) (w : World) : (Op.equalIn 10000 30 (odV a) (odV a)).run Try.prog w = .ok true w := by rw [eq30, decide_eq_true rfl]
def sameOF : List Od → List Od → Bool
  | [], [] => true
  | x :: l, y :: m => decide (x = y) && sameOF l m
  | _, _ => false
end Go.Proofs.Ytmcmmmaffdenjaa
