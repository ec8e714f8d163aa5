/-
  forward: Loops.
-/
import Derived.Test.YtmcmmmaffdenjaaLoo
namespace Go.Proofs.Ytmcmmmaffdenjaa
open Go.RowKit Eng
set_option linter.unusedVariables false
set_option linter.unusedSimpArgs false
set_option maxHeartbeats 8000000
attribute [local irreducible] SC SQ J Qt Calls Iterates
def lastD (l : List Int) : Int := (l[l.length - 1]?).getD 0
def isLp (l : List Od) (d x : Int) : Bool := decide ((wayF l x d).kd = 3 ∧ (fo l (lastD (wayF l x d).pts) d).to = x ∧ minF x ((wayF l x d).pts.drop 1) = x)
def loopsOf (l : List Od) (d : Int) (D : List Int) : List (List Int) := (D.filter (isLp l d)).map fun x => (wayF l x d).pts
def loopsF (l : List Od) (d : Int) : List (List Int) := loopsOf l d (ptsF l d)
abbrev LRow := Value × List Int
abbrev lrC (q : LRow) : List Value := [q.1]
abbrev rowsI (R : List LRow) : List HA := R.map fun q => .own q.1 3 1 q.2.length (q.2.flatMap intC)
end Go.Proofs.Ytmcmmmaffdenjaa
