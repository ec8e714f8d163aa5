/-
  What a form and an order, handed over by value, read as.
-/
import Derived.Test.YtmcmmmaffdenjaaDec
namespace Go.Proofs.Ytmcmmmaffdenjaa
open Go.RowKit Go.ChangeShapes Go.WideShapes Go.Deep Eng
set_option linter.unusedVariables false
section
variable {H : Type} {enc : TypeId × Value → H} {w : World} {base : Nat} {spare : Nat → Bool} {held : Bool}
set_option maxRecDepth 100000 in
theorem open_fm1 {r : Reach} {b0 : Nat} {v : Value} {d : DataW H} {ps : List MemPlace} (hv : Value.okWide Try.prog w r b0 57 v) (h : DataW.Trod enc Try.prog w base spare held 57 v d ps) : ∃ y : Fm, v = .agg (fmC y).toArray ∧ fmOk y := by
  obtain ⟨cs, rfl, _⟩ := okWide_struct Try.underlying57 hv
  obtain ⟨n, hn⟩ := h
  obtain ⟨y, hy, hok⟩ := dec_fm n cs.toList _ hn
  refine ⟨y, ?_, hok⟩
  rw [← hy]
end
end Go.Proofs.Ytmcmmmaffdenjaa
