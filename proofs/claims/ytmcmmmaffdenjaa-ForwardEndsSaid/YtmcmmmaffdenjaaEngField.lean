/-
  A field of a struct's value, in one cell.
-/
import Derived.Test.YtmcmmmaffdenjaaEngMore
namespace Go.Proofs.Ytmcmmmaffdenjaa
namespace Eng
open Go.RowKit
section
variable {C : Cx} {F : Fr} {L : List HA} {o : Oper}
theorem q_fieldv {t j : Nat} {x : Operand} {vs : List Value} {fs : Array Field} {fd : Field} {ti : TI} {v : Value} (ho : o.op = .field t x j) (hu : C.P.underlying t = some (.struct fs)) (hf : fs[j]? = some fd) (ht : tget C.tab fd.type = some ti) (hk : ti.kind.agg = false)
    (hx : ev F x = some (.agg vs.toArray)) (hv : nth vs fd.offset = some v) : Qv C o F L v :=
  .of_run fun a w hfa hs => by
    have h1 := tk_isAgg (C.ok.get ht) w
    rw [hk] at h1
    rw [nth_eq] at hv
    have h2 : vs.toArray[fd.offset]? = some v := by simpa using hv
    simp [execOp, ho, hfa.ev hx, Instr.field, run_underlying hu, hf, asAgg, part, h1, hv]
end
end Eng
end Go.Proofs.Ytmcmmmaffdenjaa
