/-
  What the laws' arguments read as.
-/
import Derived.Test.YtagndgidfaladaaNk
import Derived.Test.YtagndgidfaladaaEd1
import Derived.Test.YtagndgidfaladaaEngCoreB
import Derived.Test.YtagndgidfaladaaRows
namespace Go.Proofs.Ytagndgidfaladaa
open Go.RowKit Go.ChangeShapes Go.WideShapes Go.Deep Eng
set_option linter.unusedVariables false
theorem own_ : ownKnob Try.prog.godebug = none := by kernel_rfl
/-- The longest of the closed checks, once. -/
theorem may_ : Try.prog.mayEnter = true := by kernel_rfl
theorem lifts_ : Try.prog.liftsFinal = Rows.lexiconAllRow.lifted := by kernel_rfl
theorem make_ : Try.prog.make = some Rows.lexiconAllRow.make := by kernel_rfl
theorem laid_ : laidOutB Try.prog = true := by kernel_rfl
section
variable {H : Type} {enc : TypeId × Value → H} {w : World} {base : Nat} {spare : Nat → Bool} {held : Bool}
set_option maxRecDepth 100000 in
theorem dec_str (n : Nat) (cs : List Value) (x : DataW H × List MemPlace) (h : DataW.trod enc Try.prog w base spare held n 9 cs = some x) : ∃ u : List UInt8, cs = strC u ∧ u.length ≤ 9223372036854775807 := by
  obtain ⟨s, rfl, _, hs⟩ := DataW.trod_string Try.underlying9 h
  refine ⟨s.data.toList, rfl, ?_⟩
  unfold maxLen at hs
  show s.data.toList.length ≤ _
  rw [Array.length_toList]
  have : s.data.size = s.size := rfl
  omega
set_option maxRecDepth 100000 in
theorem open_words {r : Reach} {b0 : Nat} {v : Value} {d : DataW H} {ps : List MemPlace} (hv : Value.okWide Try.prog w r b0 22 v) (h : DataW.Trod enc Try.prog w base spare held 22 v d ps) :
    ∃ (A : Option Addr) (c : Nat) (l : List (List UInt8)), v = .slice A l.length c ∧ Sl A l.length c ∧ RS w 1 strC A l ∧ ∀ y ∈ l, y.length ≤ 9223372036854775807 :=
  open_rs2 (sz := 1) (e := 9) strC (fun y => y.length ≤ 9223372036854775807) Try.underlying22 (by kernel_rfl) (by decide) (fun n cs x hx => dec_str n cs x hx) hv h
set_option maxRecDepth 100000 in
theorem open_str {r : Reach} {b0 : Nat} {v : Value} {d : DataW H} {ps : List MemPlace} (hv : Value.okWide Try.prog w r b0 9 v) (h : DataW.Trod enc Try.prog w base spare held 9 v d ps) : ∃ u : List UInt8, v = strV u ∧ u.length ≤ 9223372036854775807 := by
  obtain ⟨s, rfl⟩ := okWide_string Try.underlying9 hv
  obtain ⟨n, hn⟩ := h
  obtain ⟨u, hu, hl⟩ := dec_str n _ _ hn
  refine ⟨u, ?_, hl⟩
  simpa [Value.cells] using hu
end
end Go.Proofs.Ytagndgidfaladaa
