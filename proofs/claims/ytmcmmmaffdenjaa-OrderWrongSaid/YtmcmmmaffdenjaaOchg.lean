/-
  In one text: Opl, Ocn, Ochg.
-/
import Derived.Test.YtmcmmmaffdenjaaAk5
import Derived.Test.YtmcmmmaffdenjaaLcm
/-
  Plain facts of chapter 35's laws.
-/
namespace Go.Proofs.Ytmcmmmaffdenjaa
open Go.RowKit Eng
set_option linter.unusedVariables false
set_option linter.unusedSimpArgs false
set_option maxHeartbeats 8000000
attribute [local irreducible] SC SQ J Qt Calls Iterates
end Go.Proofs.Ytmcmmmaffdenjaa

/-
  OrderCancels.
-/
namespace Go.Proofs.Ytmcmmmaffdenjaa
open Go.RowKit Eng
set_option linter.unusedVariables false
set_option linter.unusedSimpArgs false
set_option maxHeartbeats 8000000
attribute [local irreducible] SC SQ J Qt Calls Iterates
abbrev neK (k : Int) : Od → Bool := fun x => decide (x.idn ≠ k)
def wantF (k : Int) (Q : List Od) : Int := ((Q.filter (neK k)).head?.map (·.idn)).getD 0
end Go.Proofs.Ytmcmmmaffdenjaa

/-
  OrderChanges.
-/
namespace Go.Proofs.Ytmcmmmaffdenjaa
open Go.RowKit Eng
set_option linter.unusedVariables false
set_option linter.unusedSimpArgs false
set_option maxHeartbeats 8000000
attribute [local irreducible] SC SQ J Qt Calls Iterates
theorem built_len (l : List Fm) : (builtF l).length ≤ 20 := by
  unfold builtF
  rw [bltL_len, List.length_take]
  omega
end Go.Proofs.Ytmcmmmaffdenjaa
