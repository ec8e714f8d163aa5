/-
  What a form and an order, handed over by value, read as.
-/
import Derived.Test.YtmcmmmaffdenjaaDec
namespace Go.Proofs.Ytmcmmmaffdenjaa
open Go.RowKit Go.ChangeShapes Go.WideShapes Go.Deep Eng
set_option linter.unusedVariables false
section
variable {H : Type} {enc : TypeId × Value → H} {w : World} {base : Nat} {spare : Nat → Bool} {held : Bool}
set_option maxRecDepth 100000 in
theorem open_od1 {r : Reach} {b0 : Nat} {v : Value} {d : DataW H} {ps : List MemPlace} (hv : Value.okWide Try.prog w r b0 30 v) (h : DataW.Trod enc Try.prog w base spare held 30 v d ps) : ∃ y : Od, v = .agg (odC y).toArray ∧ True := by
  obtain ⟨cs, rfl, _⟩ := okWide_struct Try.underlying30 hv
  obtain ⟨n, hn⟩ := h
  obtain ⟨y, hy, _⟩ := dec_od n cs.toList _ hn
  refine ⟨y, ?_, trivial⟩
  rw [← hy]
end
end Go.Proofs.Ytmcmmmaffdenjaa
