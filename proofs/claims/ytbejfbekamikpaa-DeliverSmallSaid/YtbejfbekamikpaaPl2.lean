/-
  Plain facts: the first open day, the points that are open.
-/
import Derived.Test.YtbejfbekamikpaaPl1
namespace Go.Proofs.Ytbejfbekamikpaa
set_option linter.unusedVariables false
end Go.Proofs.Ytbejfbekamikpaa
namespace Go.Proofs.Ytbejfbekamikpaa
def wantF (pts : List Pt) (l : List Ru) (hol : List Int) (d : Int) : List Int := (pts.filter fun p => decide (lstF (sixU 6) l hol p.id d = 1)).map (·.id)
end Go.Proofs.Ytbejfbekamikpaa
