/-
  A list of numbers that comes in.
-/
import Derived.Test.YtmlgheoliaplgaaDec
import Derived.Test.YtmlgheoliaplgaaEngLaw2
namespace Go.Proofs.Ytmlgheoliaplgaa
open Go.RowKit Go.ChangeShapes Go.WideShapes Go.Deep Eng
set_option linter.unusedVariables false
section
variable {H : Type} {enc : TypeId × Value → H} {w : World} {base : Nat} {spare : Nat → Bool} {held : Bool}
set_option maxRecDepth 100000 in
theorem open_ints2 {r : Reach} {b0 : Nat} {v : Value} {d : DataW H} {ps : List MemPlace} (hv : Value.okWide Try.prog w r b0 24 v) (h : DataW.Trod enc Try.prog w base spare held 24 v d ps) :
    ∃ (A : Option Addr) (c : Nat) (l : List Int), v = .slice A l.length c ∧ Sl A l.length c ∧ RS w 1 intC A l ∧ ∀ y ∈ l, -9223372036854775808 ≤ y ∧ y ≤ 9223372036854775807 :=
  open_rs2 (sz := 1) (e := 3) intC (fun y => -9223372036854775808 ≤ y ∧ y ≤ 9223372036854775807) Try.underlying24 (by kernel_rfl) (by decide) (fun n cs x hx => dec_int Try.underlying3 n cs x hx) hv h
set_option maxRecDepth 100000 in
theorem open_ints3 {r : Reach} {b0 : Nat} {v : Value} {d : DataW H} {ps : List MemPlace} (hv : Value.okWide Try.prog w r b0 24 v) (h : DataW.Trod enc Try.prog w base spare held 24 v d ps) :
    ∃ (A : Option Addr) (c : Nat) (l : List Int), v = .slice A l.length c ∧ Sl A l.length c ∧ RS w 1 intC A l ∧ (∀ y ∈ l, -9223372036854775808 ≤ y ∧ y ≤ 9223372036854775807) ∧ Shp d l.length :=
  open_rs3 (sz := 1) (e := 3) intC (fun y => -9223372036854775808 ≤ y ∧ y ≤ 9223372036854775807) Try.underlying24 (by kernel_rfl) (by decide) (fun n cs x hx => dec_int Try.underlying3 n cs x hx) hv h
end
end Go.Proofs.Ytmlgheoliaplgaa
