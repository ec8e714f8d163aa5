/-
  What the laws' arguments read as.
-/
import Derived.Test.YtmcmmmaffdenjaaLcm
import Derived.Test.YtmcmmmaffdenjaaEngCoreB
import Derived.Test.YtmcmmmaffdenjaaRows
namespace Go.Proofs.Ytmcmmmaffdenjaa
open Go.RowKit Go.ChangeShapes Go.WideShapes Go.Deep Eng
set_option linter.unusedVariables false
theorem own_ : ownKnob Try.prog.godebug = none := by kernel_rfl
/-- The longest of the closed checks, once. -/
theorem may_ : Try.prog.mayEnter = true := by kernel_rfl
theorem lifts_ : Try.prog.liftsFinal = Rows.forwardTellsRow.lifted := by kernel_rfl
theorem make_ : Try.prog.make = some Rows.forwardTellsRow.make := by kernel_rfl
theorem laid_ : laidOutB Try.prog = true := by kernel_rfl
section
variable {H : Type} {enc : TypeId × Value → H} {w : World} {base : Nat} {spare : Nat → Bool} {held : Bool}
set_option maxRecDepth 100000 in
theorem dec_od (n : Nat) (cs : List Value) (x : DataW H × List MemPlace) (h : DataW.trod enc Try.prog w base spare held n 30 cs = some x) : ∃ y : Od, cs = odC y ∧ True := by
  have h1 := flat_struct [.int .i64, .int .i64, .int .i64, .int .i64, .int .i64, .int .u8] Try.underlying30 (by kernel_rfl) (by kernel_rfl) (by kernel_rfl) h
  cases cs with
  | nil => exact False.elim h1
  | cons v0 cs =>
  obtain ⟨⟨a, rfl, _⟩, h1⟩ := h1
  cases cs with
  | nil => exact False.elim h1
  | cons v1 cs =>
  obtain ⟨⟨b, rfl, _⟩, h1⟩ := h1
  cases cs with
  | nil => exact False.elim h1
  | cons v2 cs =>
  obtain ⟨⟨c, rfl, _⟩, h1⟩ := h1
  cases cs with
  | nil => exact False.elim h1
  | cons v3 cs =>
  obtain ⟨⟨d, rfl, _⟩, h1⟩ := h1
  cases cs with
  | nil => exact False.elim h1
  | cons v4 cs =>
  obtain ⟨⟨e, rfl, _⟩, h1⟩ := h1
  cases cs with
  | nil => exact False.elim h1
  | cons v5 cs =>
  obtain ⟨⟨f, rfl, _⟩, h1⟩ := h1
  cases cs with
  | nil => exact ⟨⟨a, b, c, d, e, f⟩, rfl, trivial⟩
  | cons _ _ => exact False.elim h1
set_option maxRecDepth 100000 in
theorem open_ods {r : Reach} {b0 : Nat} {v : Value} {d : DataW H} {ps : List MemPlace} (hv : Value.okWide Try.prog w r b0 22 v) (h : DataW.Trod enc Try.prog w base spare held 22 v d ps) :
    ∃ (A : Option Addr) (c : Nat) (l : List Od), v = .slice A l.length c ∧ Sl A l.length c ∧ RS w 6 odC A l ∧ ∀ y ∈ l, True :=
  open_rs2 (sz := 6) (e := 30) odC (fun _ => True) Try.underlying22 (by kernel_rfl) (by decide) (fun n cs x hx => dec_od n cs x hx) hv h
end
end Go.Proofs.Ytmcmmmaffdenjaa
