/-
  What a note, handed over by value, reads as.
-/
import Derived.Test.YtbejfbekamikpaaDec
namespace Go.Proofs.Ytbejfbekamikpaa
open Go.RowKit Go.ChangeShapes Go.WideShapes Go.Deep Eng
set_option linter.unusedVariables false
section
variable {H : Type} {enc : TypeId × Value → H} {w : World} {base : Nat} {spare : Nat → Bool} {held : Bool}
set_option maxRecDepth 100000 in
theorem open_note {r : Reach} {b0 : Nat} {v : Value} {d : DataW H} {ps : List MemPlace} (hv : Value.okWide Try.prog w r b0 44 v) (h : DataW.Trod enc Try.prog w base spare held 44 v d ps) : ∃ y : Nt, v = .agg (ntC y).toArray ∧ ntOk y := by
  obtain ⟨cs, rfl, _⟩ := okWide_struct Try.underlying44 hv
  obtain ⟨n, hn⟩ := h
  obtain ⟨y, hy, hok⟩ := dec_nt n cs.toList _ hn
  refine ⟨y, ?_, hok⟩
  rw [← hy]
end
end Go.Proofs.Ytbejfbekamikpaa
