/-
  forward: Release.
-/
import Derived.Test.YtmcmmmaffdenjaaCha
import Derived.Test.YtmcmmmaffdenjaaEngCoreB
namespace Go.Proofs.Ytmcmmmaffdenjaa
open Go.RowKit Eng
set_option linter.unusedVariables false
set_option linter.unusedSimpArgs false
set_option maxHeartbeats 8000000
attribute [local irreducible] SC SQ J Qt Calls Iterates
def firstFree (l : List Od) (p : Int) : List Int → Int × Int
  | [] => (0, 6)
  | x :: xs => if (wayF l p x).kd = 2 then firstFree l p xs else (x, 0)
def releaseF (l : List Od) (p d : Int) : Int × Int := if rightB l = true ∧ idI p ∧ dayI d then firstFree l p (sortI (keysOf (chgL l d))) else (0, 2)
end Go.Proofs.Ytmcmmmaffdenjaa
