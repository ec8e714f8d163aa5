/-
  law36.awake returns true.
-/
import Derived.Test.YtmcmmmaffdenjaaAwp
namespace Go.Proofs.Ytmcmmmaffdenjaa
open Go.RowKit Eng
set_option linter.unusedVariables false
set_option linter.unusedSimpArgs false
set_option maxHeartbeats 8000000
attribute [local irreducible] SC SQ J Qt Calls Iterates
def rw1 : Wy := ⟨[10, 20, 30], [1, 2], 2, 5⟩
def rw2 : Wy := ⟨[10, 20, 30], [1, 2], 1, 0⟩
def rw3 : Wy := ⟨[10, 20], [1], 1, 0⟩
def rw4 : Wy := ⟨[10, 20, 30], [1, 2], 3, 0⟩
def rw5 : Wy := ⟨[20, 30], [2], 3, 0⟩
def rw6 : Wy := ⟨[30, 20], [4], 3, 0⟩
end Go.Proofs.Ytmcmmmaffdenjaa
