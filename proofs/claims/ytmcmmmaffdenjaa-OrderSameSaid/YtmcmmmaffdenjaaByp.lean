/-
  forward: byPoint.
-/
import Derived.Test.YtmcmmmaffdenjaaOr3
namespace Go.Proofs.Ytmcmmmaffdenjaa
open Go.RowKit Eng
set_option linter.unusedVariables false
set_option linter.unusedSimpArgs false
set_option maxHeartbeats 8000000
attribute [local irreducible] SC SQ J Qt Calls Iterates
abbrev Row := Value × List Od
abbrev rowsH (M : List (Int × Row)) : List HA := M.map fun q => .own q.2.1 30 6 q.2.2.length (q.2.2.flatMap odC)
abbrev rowV (r : Row) : Value := r.1
/-- What the map holds behind the first rules. -/
def bpI (l : List Od) (M : List (Int × Row)) : Prop := (∀ k, ((lkG M k).map (·.2)).getD [] = l.filter (fun x => decide (x.frm = k))) ∧ (M.map (·.1)).Nodup
end Go.Proofs.Ytmcmmmaffdenjaa
