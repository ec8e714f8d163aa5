/-
  What the laws' arguments read as.
-/
import Derived.Test.YtmakokbpadmfbaaGreatCl2
import Derived.Test.YtmakokbpadmfbaaGreatMe4
import Derived.Test.YtmakokbpadmfbaaGreatEngCoreB
import Derived.Test.YtmakokbpadmfbaaGreatRows
namespace Go.Proofs.YtmakokbpadmfbaaGreat
open Go.RowKit Go.ChangeShapes Go.WideShapes Go.Deep Eng
set_option linter.unusedVariables false
theorem own_ : ownKnob Tryz.prog.godebug = none := by kernel_rfl
/-- The longest of the closed checks, once. -/
theorem may_ : Tryz.prog.mayEnter = true := by kernel_rfl
theorem lifts_ : Tryz.prog.liftsFinal = Rows.serviceLaterRow.lifted := by kernel_rfl
theorem make_ : Tryz.prog.make = some Rows.serviceLaterRow.make := by kernel_rfl
theorem laid_ : laidOutB Tryz.prog = true := by kernel_rfl
section
variable {H : Type} {enc : TypeId × Value → H} {w : World} {base : Nat} {spare : Nat → Bool} {held : Bool}
set_option maxRecDepth 100000 in
theorem dec_th (n : Nat) (cs : List Value) (x : DataW H × List MemPlace) (h : DataW.trod enc Tryz.prog w base spare held n 41 cs = some x) : ∃ y : Th, cs = thC y ∧ thOk y := by
  have h1 := flat_struct [.int .u8, .int .u16, .int .u16, .bool] Tryz.underlying41 (by kernel_rfl) (by kernel_rfl) (by kernel_rfl) h
  cases cs with
  | nil => exact False.elim h1
  | cons v0 cs =>
  obtain ⟨⟨a, rfl, ha⟩, h1⟩ := h1
  cases cs with
  | nil => exact False.elim h1
  | cons v1 cs =>
  obtain ⟨⟨b, rfl, hb⟩, h1⟩ := h1
  cases cs with
  | nil => exact False.elim h1
  | cons v2 cs =>
  obtain ⟨⟨c, rfl, hc⟩, h1⟩ := h1
  cases cs with
  | nil => exact False.elim h1
  | cons v3 cs =>
  obtain ⟨⟨d, rfl⟩, h1⟩ := h1
  cases cs with
  | nil => exact ⟨⟨a, b, c, d⟩, rfl, ha, hb, hc⟩
  | cons _ _ => exact False.elim h1
set_option maxRecDepth 100000 in
theorem open_ths {r : Reach} {b0 : Nat} {v : Value} {d : DataW H} {ps : List MemPlace} (hv : Value.okWide Tryz.prog w r b0 22 v) (h : DataW.Trod enc Tryz.prog w base spare held 22 v d ps) :
    ∃ (A : Option Addr) (c : Nat) (l : List Th), v = .slice A l.length c ∧ Sl A l.length c ∧ RS w 4 thC A l ∧ ∀ y ∈ l, thOk y :=
  open_rs2 (sz := 4) (e := 41) thC thOk Tryz.underlying22 (by kernel_rfl) (by decide) (fun n cs x hx => dec_th n cs x hx) hv h
end
end Go.Proofs.YtmakokbpadmfbaaGreat
