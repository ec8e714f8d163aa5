/-
  What the laws' arguments read as.
-/
import Derived.Test.YthbchbiadcjnkaaWk
import Derived.Test.YthbchbiadcjnkaaEngCoreB
import Derived.Test.YthbchbiadcjnkaaRows
namespace Go.Proofs.Ythbchbiadcjnkaa
open Go.RowKit Go.ChangeShapes Go.WideShapes Go.Deep Eng
set_option linter.unusedVariables false
theorem own_ : ownKnob Try.prog.godebug = none := by kernel_rfl
/-- The longest of the closed checks, once. -/
theorem may_ : Try.prog.mayEnter = true := by kernel_rfl
theorem lifts_ : Try.prog.liftsFinal = Rows.shiftOptimalRow.lifted := by kernel_rfl
theorem make_ : Try.prog.make = some Rows.shiftOptimalRow.make := by kernel_rfl
theorem laid_ : laidOutB Try.prog = true := by kernel_rfl
section
variable {H : Type} {enc : TypeId × Value → H} {w : World} {base : Nat} {spare : Nat → Bool} {held : Bool}
theorem dec_tk (n : Nat) (cs : List Value) (x : DataW H × List MemPlace) (h : DataW.trod enc Try.prog w base spare held n 61 cs = some x) : ∃ y : Tk, cs = tkC y ∧ tkOk y := by
  have h1 := flat_struct [.int .u8, .int .u8, .int .u8] Try.underlying61 (by kernel_rfl) (by kernel_rfl) (by kernel_rfl) h
  match cs, h1 with
  | [_, _, _], ⟨⟨a, rfl, ha⟩, ⟨b, rfl, hb⟩, ⟨c, rfl, hc⟩, _⟩ => exact ⟨⟨a, b, c⟩, rfl, ha, hb, hc⟩
theorem dec_gp (n : Nat) (cs : List Value) (x : DataW H × List MemPlace) (h : DataW.trod enc Try.prog w base spare held n 55 cs = some x) : ∃ y : Gp, cs = gpC y ∧ gpOk y := by
  have h1 := flat_struct [.int .u8, .int .u8] Try.underlying55 (by kernel_rfl) (by kernel_rfl) (by kernel_rfl) h
  match cs, h1 with
  | [_, _], ⟨⟨a, rfl, ha⟩, ⟨b, rfl, hb⟩, _⟩ => exact ⟨⟨a, b⟩, rfl, ha, hb⟩
set_option maxRecDepth 100000 in
theorem open_tks {r : Reach} {b0 : Nat} {v : Value} {d : DataW H} {ps : List MemPlace} (hv : Value.okWide Try.prog w r b0 22 v) (h : DataW.Trod enc Try.prog w base spare held 22 v d ps) :
    ∃ (A : Option Addr) (c : Nat) (l : List Tk), v = .slice A l.length c ∧ Sl A l.length c ∧ RS w 3 tkC A l ∧ ∀ y ∈ l, tkOk y :=
  open_rs2 (sz := 3) (e := 61) tkC tkOk Try.underlying22 (by kernel_rfl) (by decide) (fun n cs x hx => dec_tk n cs x hx) hv h
set_option maxRecDepth 100000 in
theorem open_gps {r : Reach} {b0 : Nat} {v : Value} {d : DataW H} {ps : List MemPlace} (hv : Value.okWide Try.prog w r b0 23 v) (h : DataW.Trod enc Try.prog w base spare held 23 v d ps) :
    ∃ (A : Option Addr) (c : Nat) (l : List Gp), v = .slice A l.length c ∧ Sl A l.length c ∧ RS w 2 gpC A l ∧ ∀ y ∈ l, gpOk y :=
  open_rs2 (sz := 2) (e := 55) gpC gpOk Try.underlying23 (by kernel_rfl) (by decide) (fun n cs x hx => dec_gp n cs x hx) hv h
end
end Go.Proofs.Ythbchbiadcjnkaa
