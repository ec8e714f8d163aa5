/-
  letterbagref35.All.
-/
import Derived.Test.YtmcmmmaffdenjaaRfo
import Derived.Test.YtmcmmmaffdenjaaLno
import Derived.Test.YtmcmmmaffdenjaaEngCoreB
namespace Go.Proofs.Ytmcmmmaffdenjaa
open Go.RowKit Eng
set_option linter.unusedVariables false
set_option linter.unusedSimpArgs false
set_option maxHeartbeats 8000000
attribute [local irreducible] SC SQ J Qt Calls Iterates
def insB (x : Od) : List Od → List Od
  | [] => [x]
  | y :: ys => if bef y x = true then y :: insB x ys else x :: y :: ys
theorem insB_len (x : Od) : ∀ R, (insB x R).length = R.length + 1
  | [] => rfl
  | y :: ys => by
    simp only [insB]
    split
    · simp [insB_len x ys]
    · rfl
def allS (p d : Int) (R : List Od) (x : Od) : List Od := if x.frm = p ∧ cov x d = true then insB x R else R
def allF (l : List Od) (p d : Int) : List Od := l.foldl (allS p d) []
theorem allS_len (p d : Int) (R : List Od) (x : Od) : (allS p d R x).length ≤ R.length + 1 := by
  unfold allS
  split
  · rw [insB_len]; omega
  · omega
theorem allF_len (l : List Od) (p d : Int) : (allF l p d).length ≤ l.length := by
  have key : ∀ (l : List Od) (R : List Od), (l.foldl (allS p d) R).length ≤ R.length + l.length := by
    intro l
    induction l with
    | nil => intro R; simp
    | cons x l ih =>
      intro R
      rw [List.foldl_cons]
      have h1 := ih (allS p d R x)
      have h2 := allS_len p d R x
      simp only [List.length_cons]
      omega
  have := key l []
  simpa [allF] using this
end Go.Proofs.Ytmcmmmaffdenjaa
