/-
  Signs turned.
-/
import Derived.Test.YtmcmmmaffdenjaaEngNum
import Derived.Laws.Small
namespace Go.Proofs.Ytmcmmmaffdenjaa
namespace Eng
open Go.RowKit
set_option linter.unusedVariables false
set_option linter.unusedSimpArgs false
section
variable {C : Cx} {F : Fr} {L : List HA} {o : Oper} {x : Operand} {t : TypeId} {k : IntKind} {a : Int}
theorem q_neg {r : Int} (ho : o.op = .unOp .neg t x) (hx : ev F x = some (.int k a)) (hw : k.wrap (-a) = r) : Qv C o F L (.int k r) :=
  .of_run fun ac w hf hs => by
    subst hw
    simp [execOp, ho, hf.ev hx, Op.unary, Op.intArith]
end
section
variable {C : Cx} {F : Fr} {L : List HA} {o : Oper} {x y : Operand} {t u : TypeId}
theorem q_neqb {p q : Bool} (ho : o.op = .binOp .neq t x y u) (hu : C.P.underlying t = some .bool) (hx : ev F x = some (.bool p)) (hy : ev F y = some (.bool q)) : Qv C o F L (.bool (!(p == q))) :=
  .of_run fun ac w hf hs => by
    have h1 := run_neq_bool (P := C.P) w t p q hu
    simp only [execOp, ho, hf.ev hx, hf.ev hy]
    simp only [eqGuard]
    simp [h1]
theorem q_eqlb {p q : Bool} (ho : o.op = .binOp .eql t x y u) (hu : C.P.underlying t = some .bool) (hx : ev F x = some (.bool p)) (hy : ev F y = some (.bool q)) : Qv C o F L (.bool (p == q)) :=
  .of_run fun ac w hf hs => by
    have h1 := run_eql_bool (P := C.P) w t p q hu
    simp only [execOp, ho, hf.ev hx, hf.ev hy]
    simp only [eqGuard]
    simp [h1]
theorem q_neqbr (r : Bool) {p q : Bool} (ho : o.op = .binOp .neq t x y u) (hu : C.P.underlying t = some .bool) (hx : ev F x = some (.bool p)) (hy : ev F y = some (.bool q)) (hr : (!(p == q)) = r) : Qv C o F L (.bool r) := hr ▸ q_neqb ho hu hx hy
theorem q_eqlbr (r : Bool) {p q : Bool} (ho : o.op = .binOp .eql t x y u) (hu : C.P.underlying t = some .bool) (hx : ev F x = some (.bool p)) (hy : ev F y = some (.bool q)) (hr : (p == q) = r) : Qv C o F L (.bool r) := hr ▸ q_eqlb ho hu hx hy
end
end Eng
end Go.Proofs.Ytmcmmmaffdenjaa
