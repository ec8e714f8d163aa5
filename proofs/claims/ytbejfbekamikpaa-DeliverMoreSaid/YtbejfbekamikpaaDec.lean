/-
  What the laws' arguments read as.
-/
import Derived.Test.YtbejfbekamikpaaRls
import Derived.Test.YtbejfbekamikpaaEngLaw
import Derived.Test.YtbejfbekamikpaaRows
namespace Go.Proofs.Ytbejfbekamikpaa
open Go.RowKit Go.ChangeShapes Go.WideShapes Go.Deep Eng
set_option linter.unusedVariables false
theorem own_ : ownKnob Try.prog.godebug = none := by kernel_rfl
theorem laid_ : laidOutB Try.prog = true := by kernel_rfl
section
variable {H : Type} {enc : TypeId × Value → H} {w : World} {base : Nat} {spare : Nat → Bool} {held : Bool}
theorem dec_nt (n : Nat) (cs : List Value) (x : DataW H × List MemPlace) (h : DataW.trod enc Try.prog w base spare held n 44 cs = some x) : ∃ y : Nt, cs = ntC y ∧ ntOk y := by
  have h1 := flat_struct [.int .u8, .int .u8, .int .u8, .int .u8] Try.underlying44 (by kernel_rfl) (by kernel_rfl) (by kernel_rfl) h
  match cs, h1 with
  | [_, _, _, _], ⟨⟨a, rfl, ha⟩, ⟨b, rfl, hb⟩, ⟨c, rfl, hc⟩, ⟨d, rfl, hd⟩, _⟩ => exact ⟨⟨a, b, c, d⟩, rfl, ha, hb, hc, hd⟩
set_option maxRecDepth 100000 in
theorem open_notes {r : Reach} {b0 : Nat} {v : Value} {d : DataW H} {ps : List MemPlace} (hv : Value.okWide Try.prog w r b0 22 v) (h : DataW.Trod enc Try.prog w base spare held 22 v d ps) :
    ∃ (A : Option Addr) (c : Nat) (l : List Nt), v = .slice A l.length c ∧ l.length ≤ 9223372036854775807 ∧ RS w 4 ntC A l ∧ ∀ y ∈ l, ntOk y :=
  open_rs (sz := 4) (e := 44) ntC ntOk Try.underlying22 (by kernel_rfl) (by decide) (fun n cs x hx => dec_nt n cs x hx) hv h
set_option maxRecDepth 100000 in
theorem open_u8s {r : Reach} {b0 : Nat} {v : Value} {d : DataW H} {ps : List MemPlace} (hv : Value.okWide Try.prog w r b0 23 v) (h : DataW.Trod enc Try.prog w base spare held 23 v d ps) :
    ∃ (A : Option Addr) (c : Nat) (l : List Int), v = .slice A l.length c ∧ l.length ≤ 9223372036854775807 ∧ RS w 1 u8C A l ∧ ∀ y ∈ l, 0 ≤ y ∧ y ≤ 255 :=
  open_rs (sz := 1) (e := 5) u8C (fun y => 0 ≤ y ∧ y ≤ 255) Try.underlying23 (by kernel_rfl) (by decide) (fun n cs x hx => dec_int Try.underlying5 n cs x hx) hv h
end
end Go.Proofs.Ytbejfbekamikpaa
