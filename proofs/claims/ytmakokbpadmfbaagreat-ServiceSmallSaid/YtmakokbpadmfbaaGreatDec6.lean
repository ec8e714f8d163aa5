/-
  What standards and items, handed over, read as.
-/
import Derived.Test.YtmakokbpadmfbaaGreatDec
namespace Go.Proofs.YtmakokbpadmfbaaGreat
open Go.RowKit Go.ChangeShapes Go.WideShapes Go.Deep Eng
set_option linter.unusedVariables false
def sdOk (x : Sd) : Prop := (0 ≤ x.cl ∧ x.cl ≤ 255) ∧ (-9223372036854775808 ≤ x.fr ∧ x.fr ≤ 9223372036854775807) ∧ (-9223372036854775808 ≤ x.to ∧ x.to ≤ 9223372036854775807) ∧ (-9223372036854775808 ≤ x.mi ∧ x.mi ≤ 9223372036854775807)
def snOk (x : Sn) : Prop := (-9223372036854775808 ≤ x.it ∧ x.it ≤ 9223372036854775807) ∧ (0 ≤ x.cl ∧ x.cl ≤ 255) ∧ (-9223372036854775808 ≤ x.fr ∧ x.fr ≤ 9223372036854775807) ∧ (-9223372036854775808 ≤ x.to ∧ x.to ≤ 9223372036854775807) ∧ (-9223372036854775808 ≤ x.ac ∧ x.ac ≤ 9223372036854775807) ∧ (-9223372036854775808 ≤ x.de ∧ x.de ≤ 9223372036854775807)
section
variable {H : Type} {enc : TypeId × Value → H} {w : World} {base : Nat} {spare : Nat → Bool} {held : Bool}
end
end Go.Proofs.YtmakokbpadmfbaaGreat
