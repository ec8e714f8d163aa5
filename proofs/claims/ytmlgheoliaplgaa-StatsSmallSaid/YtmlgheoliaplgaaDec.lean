/-
  What the laws' arguments read as.
-/
import Derived.Test.YtmlgheoliaplgaaNat1
import Derived.Test.YtmlgheoliaplgaaEngLaw
import Derived.Test.YtmlgheoliaplgaaRows
namespace Go.Proofs.Ytmlgheoliaplgaa
open Go.RowKit Go.ChangeShapes Go.WideShapes Go.Deep Eng
set_option linter.unusedVariables false
theorem own_ : ownKnob Try.prog.godebug = none := by kernel_rfl
theorem laid_ : laidOutB Try.prog = true := by kernel_rfl
section
variable {H : Type} {enc : TypeId × Value → H} {w : World} {base : Nat} {spare : Nat → Bool} {held : Bool}
set_option maxRecDepth 100000 in
theorem open_ints {r : Reach} {b0 : Nat} {v : Value} {d : DataW H} {ps : List MemPlace} (hv : Value.okWide Try.prog w r b0 24 v) (h : DataW.Trod enc Try.prog w base spare held 24 v d ps) :
    ∃ (A : Option Addr) (c : Nat) (l : List Int), v = .slice A l.length c ∧ l.length ≤ 9223372036854775807 ∧ RS w 1 intC A l ∧ ∀ y ∈ l, -9223372036854775808 ≤ y ∧ y ≤ 9223372036854775807 :=
  open_rs (sz := 1) (e := 3) intC (fun y => -9223372036854775808 ≤ y ∧ y ≤ 9223372036854775807) Try.underlying24 (by kernel_rfl) (by decide) (fun n cs x hx => dec_int Try.underlying3 n cs x hx) hv h
end
end Go.Proofs.Ytmlgheoliaplgaa
