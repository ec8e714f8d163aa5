/-
  Plain facts about what a point is: statuses of the law's six points.
-/
import Derived.Test.YtbejfbekamikpaaRls
namespace Go.Proofs.Ytbejfbekamikpaa
set_option linter.unusedVariables false
end Go.Proofs.Ytbejfbekamikpaa
