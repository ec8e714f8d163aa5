/-
  Plain facts: the same date in another year; rules of one kind.
-/
import Derived.Test.YtbejfbekamikpaaPl2
namespace Go.Proofs.Ytbejfbekamikpaa
set_option linter.unusedVariables false
def dayOfF (y m d : Int) : Int := ysF y + cumF m (leapB y) + d - 1
def kindF (k : Int) (l : List Ru) : List Ru := l.filter fun x => decide (x.kd = k)
end Go.Proofs.Ytbejfbekamikpaa
