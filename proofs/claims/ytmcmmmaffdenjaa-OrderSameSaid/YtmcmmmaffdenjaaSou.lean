/-
  forward: Sources.
-/
import Derived.Test.YtmcmmmaffdenjaaLps
namespace Go.Proofs.Ytmcmmmaffdenjaa
open Go.RowKit Eng
set_option linter.unusedVariables false
set_option linter.unusedSimpArgs false
set_option maxHeartbeats 8000000
attribute [local irreducible] SC SQ J Qt Calls Iterates
def allI : List Int → Bool
  | [] => true
  | q :: l => decide (idI q) && allI l
def srcF (l : List Od) (p d : Int) (pts : List Int) : List Int := pts.filter fun q => decide (lastD (wayF l q d).pts = p)
def sourcesF (l : List Od) (pts : List Int) (p d : Int) : List Int × Int :=
  if ¬ rightB l = true then ([], 2) else if 1000 < pts.length then ([], 5) else if ¬ (idI p ∧ dayI d) then ([], 2) else if ¬ allI pts = true then ([], 2) else (srcF l p d pts, 0)
abbrev SrcR (w : World) (r : List Int × Int) : Ending → World → Prop := fun e w' => ∃ v : Value, True ∧ e = .returned (.tuple #[v, .int .i64 r.2]) ∧ St w Cold [.own v 3 1 r.1.length (r.1.flatMap intC)] w'
end Go.Proofs.Ytmcmmmaffdenjaa
