/-
  Signs turned.
-/
import Derived.Test.YtmlgheoliaplgaaEngNum
namespace Go.Proofs.Ytmlgheoliaplgaa
namespace Eng
open Go.RowKit
set_option linter.unusedVariables false
set_option linter.unusedSimpArgs false
section
variable {C : Cx} {F : Fr} {L : List HA} {o : Oper} {x : Operand} {t : TypeId} {k : IntKind} {a : Int}
theorem q_neg {r : Int} (ho : o.op = .unOp .neg t x) (hx : ev F x = some (.int k a)) (hw : k.wrap (-a) = r) : Qv C o F L (.int k r) :=
  .of_run fun ac w hf hs => by
    subst hw
    simp [execOp, ho, hf.ev hx, Op.unary, Op.intArith]
end
end Eng
end Go.Proofs.Ytmlgheoliaplgaa
