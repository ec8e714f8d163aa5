/-
  What the laws' arguments read as.
-/
import Derived.Test.YtbejfbekamikpaaRls
import Derived.Test.YtbejfbekamikpaaEngCoreA
import Derived.Test.YtbejfbekamikpaaRows
namespace Go.Proofs.Ytbejfbekamikpaa
open Go.RowKit Go.ChangeShapes Go.WideShapes Go.Deep Eng
set_option linter.unusedVariables false
theorem own_ : ownKnob Try.prog.godebug = none := by kernel_rfl
theorem laid_ : laidOutB Try.prog = true := by kernel_rfl
section
variable {H : Type} {enc : TypeId × Value → H} {w : World} {base : Nat} {spare : Nat → Bool} {held : Bool}
end
end Go.Proofs.Ytbejfbekamikpaa
