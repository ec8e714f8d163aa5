/-
  forward: on.
-/
import Derived.Test.YtmcmmmaffdenjaaByp
import Derived.Test.YtmcmmmaffdenjaaEngCoreB
namespace Go.Proofs.Ytmcmmmaffdenjaa
open Go.RowKit Eng
set_option linter.unusedVariables false
set_option linter.unusedSimpArgs false
set_option maxHeartbeats 8000000
attribute [local irreducible] SC SQ J Qt Calls Iterates
/-- The rows of a map that is given. -/
def RowsG (w : World) (M : List (Int × Row)) : Prop := ∀ q ∈ M, ∃ A c, q.2.1 = .slice A q.2.2.length c ∧ RS w 6 odC A q.2.2
/-- A chart: what is in force at the points at which something is. -/
structure ChartP (f : Int → Od) (N : List (Int × Od)) : Prop where
  lk : ∀ k, lkG N k = if (f k).idn = 0 then none else some (f k)
  nd : (N.map (·.1)).Nodup
/-- Behind the points of P. -/
structure onI (f : Int → Od) (M : List (Int × Row)) (left : List (Int × Row)) (N : List (Int × Od)) : Prop where
  perm : ∃ P, (P ++ left).Perm M ∧ (∀ k, lkG N k = if k ∈ P.map (·.1) then (if (f k).idn = 0 then none else some (f k)) else none)
  nd : (N.map (·.1)).Nodup
end Go.Proofs.Ytmcmmmaffdenjaa
