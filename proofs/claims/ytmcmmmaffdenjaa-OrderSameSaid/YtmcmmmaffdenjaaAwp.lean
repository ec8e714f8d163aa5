/-
  The examples of chapter 36, plain.
-/
import Derived.Test.YtmcmmmaffdenjaaSou
import Derived.Test.YtmcmmmaffdenjaaHlp
namespace Go.Proofs.Ytmcmmmaffdenjaa
open Go.RowKit Eng
set_option linter.unusedVariables false
set_option linter.unusedSimpArgs false
set_option maxHeartbeats 8000000
attribute [local irreducible] SC SQ J Qt Calls Iterates
def ex1 : Od := ⟨1, 10, 20, 0, 0, 1⟩
def ex2 : Od := ⟨2, 20, 30, 3, 7, 2⟩
def ex3 : Od := ⟨3, 30, 0, 4, 5, 3⟩
def ex4 : Od := ⟨4, 30, 20, 0, 0, 1⟩
def exL : List Od := [ex1, ex2, ex3]
def exM : List Od := [ex1, ex2, ex3, ex4]
theorem w1 : wayF exL 10 5 = ⟨[10, 20, 30], [1, 2], 2, 5⟩ := by kernel_rfl
theorem w2 : wayF exL 10 6 = ⟨[10, 20, 30], [1, 2], 1, 0⟩ := by kernel_rfl
theorem r1 : (wayF exL 10 4).kd = 2 := by kernel_rfl
theorem r2 : (wayF exL 10 6).kd = 1 := by kernel_rfl
end Go.Proofs.Ytmcmmmaffdenjaa
