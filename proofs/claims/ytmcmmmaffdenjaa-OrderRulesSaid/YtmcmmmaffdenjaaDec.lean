/-
  What the laws' arguments read as.
-/
import Derived.Test.YtmcmmmaffdenjaaLcm
import Derived.Test.YtmcmmmaffdenjaaEngCoreB
import Derived.Test.YtmcmmmaffdenjaaRows
namespace Go.Proofs.Ytmcmmmaffdenjaa
open Go.RowKit Go.ChangeShapes Go.WideShapes Go.Deep Eng
set_option linter.unusedVariables false
theorem own_ : ownKnob Try.prog.godebug = none := by kernel_rfl
/-- The longest of the closed checks, once. -/
theorem may_ : Try.prog.mayEnter = true := by kernel_rfl
theorem lifts_ : Try.prog.liftsFinal = Rows.forwardTellsRow.lifted := by kernel_rfl
theorem make_ : Try.prog.make = some Rows.forwardTellsRow.make := by kernel_rfl
theorem laid_ : laidOutB Try.prog = true := by kernel_rfl
section
variable {H : Type} {enc : TypeId × Value → H} {w : World} {base : Nat} {spare : Nat → Bool} {held : Bool}
theorem dec_fm (n : Nat) (cs : List Value) (x : DataW H × List MemPlace) (h : DataW.trod enc Try.prog w base spare held n 57 cs = some x) : ∃ y : Fm, cs = fmC y ∧ fmOk y := by
  have h1 := flat_struct [.int .u8, .int .u8, .int .u8, .int .u8, .int .u8] Try.underlying57 (by kernel_rfl) (by kernel_rfl) (by kernel_rfl) h
  match cs, h1 with
  | [_, _, _, _, _], ⟨⟨a, rfl, ha⟩, ⟨b, rfl, hb⟩, ⟨c, rfl, hc⟩, ⟨d, rfl, hd⟩, ⟨e, rfl, he⟩, _⟩ => exact ⟨⟨a, b, c, d, e⟩, rfl, ha, hb, hc, hd, he⟩
set_option maxRecDepth 100000 in
theorem open_fms {r : Reach} {b0 : Nat} {v : Value} {d : DataW H} {ps : List MemPlace} (hv : Value.okWide Try.prog w r b0 45 v) (h : DataW.Trod enc Try.prog w base spare held 45 v d ps) :
    ∃ (A : Option Addr) (c : Nat) (l : List Fm), v = .slice A l.length c ∧ Sl A l.length c ∧ RS w 5 fmC A l ∧ ∀ y ∈ l, fmOk y :=
  open_rs2 (sz := 5) (e := 57) fmC fmOk Try.underlying45 (by kernel_rfl) (by decide) (fun n cs x hx => dec_fm n cs x hx) hv h
end
end Go.Proofs.Ytmcmmmaffdenjaa
