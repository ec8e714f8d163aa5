/-
  The engine's frequent rules in one step each.
-/
import Derived.Test.YtmcmmmaffdenjaaEngMore
namespace Go.Proofs.Ytmcmmmaffdenjaa
namespace Eng
open Go.RowKit
set_option linter.unusedVariables false
section
variable {C : Cx} {F : Fr} {L : List HA} {o : Oper} {K : List KI} {ops : Array Oper} {m : Bool} {rest : List Oper}
theorem gJ (h : J C ops m (o :: rest) K F L) : J C ops m (o :: rest) K F L := h
theorem gF (h : J C ops false (o :: rest) K F L) : J C ops false (o :: rest) K F L := h
theorem gSC {c : Code} (h : SC C c K F L) : SC C c K F L := h
theorem gSQ {e : Exit} (h : SQ C e K F L) : SQ C e K F L := h
theorem gload {t : Nat} {x : Operand} (ho : o.op = .load t x) (hg : o.guard = none) (h : J C ops m (o :: rest) K F L) : J C ops m (o :: rest) K F L := h
theorem gcall {al : Array Operand} {fo : Operand} {ats : Array TypeId} (ho : o.op = .call { callee := .value fo, args := al, argTypes := ats }) (hg : o.guard = none) (h : J C ops m (o :: rest) K F L) : J C ops m (o :: rest) K F L := h
def mvOp : Op → Option Operand
  | .move x => some x
  | .assign x => some x
  | _ => none
theorem jmv {d : Nat} {x : Operand} {v : Value} (ho : mvOp o.op = some x) (hg : o.guard = none) (hd : o.dst = some d) (hn : Nat.blt d C.n = true) (hx : ev F x = some v) (h : J C ops m rest K ((d, v) :: F) L) : J C ops m (o :: rest) K F L := by
  refine j_q hg hd hn ?_ h
  cases e : o.op with
  | move y => rw [e] at ho; simp only [mvOp, Option.some.injEq] at ho; subst ho; exact (q_move e hx).qt
  | assign y => rw [e] at ho; simp only [mvOp, Option.some.injEq] at ho; subst ho; exact (q_assign e hx).qt
  | _ => rw [e] at ho; simp [mvOp] at ho
def cmpF : BinOp → Int → Int → Option Bool
  | .lss, a, b => some (decide (a < b))
  | .leq, a, b => some (decide (a ≤ b))
  | .gtr, a, b => some (decide (b < a))
  | .geq, a, b => some (decide (b ≤ a))
  | .eql, a, b => some (decide (a = b))
  | .neq, a, b => some (decide (a ≠ b))
  | _, _, _ => none
theorem jcmp {d : Nat} {op : BinOp} {t u : TypeId} {x y : Operand} {k : IntKind} {a b : Int} {r : Bool} (ho : o.op = .binOp op t x y u) (hg : o.guard = none) (hd : o.dst = some d) (hn : Nat.blt d C.n = true)
    (hx : ev F x = some (.int k a)) (hy : ev F y = some (.int k b)) (hr : cmpF op a b = some r) (h : J C ops m rest K ((d, .bool r) :: F) L) : J C ops m (o :: rest) K F L := by
  refine j_q hg hd hn ?_ h
  cases op <;> simp only [cmpF, Option.some.injEq, reduceCtorEq] at hr <;> subst hr
  · exact (q_eql ho hx hy).qt
  · exact (q_neq ho hx hy).qt
  · exact (q_lss ho hx hy).qt
  · exact (q_leq ho hx hy).qt
  · exact (q_gtr ho hx hy).qt
  · exact (q_geq ho hx hy).qt
def arF : BinOp → Int → Int → Option Int
  | .add, a, b => some (a + b)
  | .sub, a, b => some (a - b)
  | .mul, a, b => some (a * b)
  | _, _, _ => none
theorem jar {d : Nat} {op : BinOp} {t u : TypeId} {x y : Operand} {a b r : Int} (ho : o.op = .binOp op t x y u) (hg : o.guard = none) (hd : o.dst = some d) (hn : Nat.blt d C.n = true)
    (hx : ev F x = some (.int .i64 a)) (hy : ev F y = some (.int .i64 b)) (hr : arF op a b = some r) (hb : -9223372036854775808 ≤ r ∧ r ≤ 9223372036854775807) (h : J C ops m rest K ((d, .int .i64 r) :: F) L) : J C ops m (o :: rest) K F L := by
  refine j_q hg hd hn ?_ h
  cases op <;> simp only [arF, Option.some.injEq, reduceCtorEq] at hr <;> subst hr
  · exact (q_add ho hx hy hb).qt
  · exact (q_sub ho hx hy hb).qt
  · exact (q_mul ho hx hy hb).qt
theorem jfield {d t j off b p : Nat} {x : Operand} {ti : TI} {offs szs : List Nat} (ho : o.op = .fieldAddr t x j) (hg : o.guard = none) (hd : o.dst = some d) (hn : Nat.blt d C.n = true) (ht : tget C.tab t = some ti) (hk : ti.kind = .struct offs szs) (hj : offs[j]? = some off)
    (hx : ev F x = some (.pointer (some ⟨b, p, none⟩))) (h : J C ops m rest K ((d, .pointer (some ⟨b, p + off, none⟩)) :: F) L) : J C ops m (o :: rest) K F L := j_q hg hd hn (q_field_own ho ht hk hj hx).qt h
theorem jextract {d i : Nat} {x : Operand} {vs : List Value} {v : Value} (ho : o.op = .extract x i) (hg : o.guard = none) (hd : o.dst = some d) (hn : Nat.blt d C.n = true) (hx : ev F x = some (.tuple vs.toArray)) (hv : nth vs i = some v) (h : J C ops m rest K ((d, v) :: F) L) :
    J C ops m (o :: rest) K F L := j_q hg hd hn (q_extract ho hx hv).qt h
end
end Eng
end Go.Proofs.Ytmcmmmaffdenjaa
