/-
  Orders are equal just if their fields are.
-/
import Derived.Test.YtmcmmmaffdenjaaOr1
import Derived.Test.YtmcmmmaffdenjaaEngCoreB
namespace Go.Proofs.Ytmcmmmaffdenjaa
open Go.RowKit Eng
set_option linter.unusedVariables false
set_option linter.unusedSimpArgs false
set_option maxHeartbeats 8000000
attribute [local irreducible] SC SQ J Qt Calls Iterates
instance : DecidableEq Od := fun a b =>
  if h : a.idn = b.idn ∧ a.frm = b.frm ∧ a.to = b.to ∧ a.st = b.st ∧ a.en = b.en ∧ a.kd = b.kd then .isTrue (Od.ext' h.1 h.2.1 h.2.2.1 h.2.2.2.1 h.2.2.2.2.1 h.2.2.2.2.2)
  else .isFalse (fun e => h (by subst e; exact ⟨rfl, rfl, rfl, rfl, rfl, rfl⟩))
theorem od_eq (a b : Od) : a = b ↔ a.idn = b.idn ∧ a.frm = b.frm ∧ a.to = b.to ∧ a.st = b.st ∧ a.en = b.en ∧ a.kd = b.kd :=
  ⟨fun e => by subst e; exact ⟨rfl, rfl, rfl, rfl, rfl, rfl⟩, fun h => Od.ext' h.1 h.2.1 h.2.2.1 h.2.2.2.1 h.2.2.2.2.1 h.2.2.2.2.2⟩
theorem eqm30 : Try.prog.eqGuardType Try.prog.depth 30 = false := by kernel_rfl
theorem eq30 (a b : Od) (w : World) : (Op.equalIn 10000 30 (odV a) (odV b)).run Try.prog w = .ok (decide (a = b)) w := by
  have u3 := Try.underlying3
  have a3 := Try.isAgg3
  have z3 := Try.sizeOf3
  have u5 := Try.underlying5
  have a5 := Try.isAgg5
  have z5 := Try.sizeOf5
  rw [run_equalIn_agg w 9999 30 _ _ (by kernel_rfl) (by kernel_rfl)]
  simp only [Program.fieldsOf, Try.underlying30]
  go_simp
  have e : decide (a = b) = decide (a.idn = b.idn ∧ a.frm = b.frm ∧ a.to = b.to ∧ a.st = b.st ∧ a.en = b.en ∧ a.kd = b.kd) := decide_eq_decide.2 (od_eq a b)
  rw [e]
  by_cases h1 : a.idn = b.idn <;> by_cases h2 : a.frm = b.frm <;> by_cases h3 : a.to = b.to <;> by_cases h4 : a.st = b.st <;> by_cases h5 : a.en = b.en <;> by_cases h6 : a.kd = b.kd <;> simp [h1, h2, h3, h4, h5, h6]
end Go.Proofs.Ytmcmmmaffdenjaa
