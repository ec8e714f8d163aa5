/-
  What the laws' arguments read as.
-/
import Derived.Test.YtmakokbpadmfbaaGreatCl2
import Derived.Test.YtmakokbpadmfbaaGreatMe4
import Derived.Test.YtmakokbpadmfbaaGreatEngCoreB
import Derived.Test.YtmakokbpadmfbaaGreatRows
namespace Go.Proofs.YtmakokbpadmfbaaGreat
open Go.RowKit Go.ChangeShapes Go.WideShapes Go.Deep Eng
set_option linter.unusedVariables false
theorem own_ : ownKnob Tryz.prog.godebug = none := by kernel_rfl
/-- The longest of the closed checks, once. -/
theorem may_ : Tryz.prog.mayEnter = true := by kernel_rfl
theorem lifts_ : Tryz.prog.liftsFinal = Rows.serviceLaterRow.lifted := by kernel_rfl
theorem make_ : Tryz.prog.make = some Rows.serviceLaterRow.make := by kernel_rfl
theorem laid_ : laidOutB Tryz.prog = true := by kernel_rfl
section
variable {H : Type} {enc : TypeId × Value → H} {w : World} {base : Nat} {spare : Nat → Bool} {held : Bool}
end
end Go.Proofs.YtmakokbpadmfbaaGreat
