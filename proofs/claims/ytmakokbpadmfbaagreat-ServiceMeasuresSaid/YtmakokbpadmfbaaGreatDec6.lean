/-
  What standards and items, handed over, read as.
-/
import Derived.Test.YtmakokbpadmfbaaGreatDec
namespace Go.Proofs.YtmakokbpadmfbaaGreat
open Go.RowKit Go.ChangeShapes Go.WideShapes Go.Deep Eng
set_option linter.unusedVariables false
def sdOk (x : Sd) : Prop := (0 ≤ x.cl ∧ x.cl ≤ 255) ∧ (-9223372036854775808 ≤ x.fr ∧ x.fr ≤ 9223372036854775807) ∧ (-9223372036854775808 ≤ x.to ∧ x.to ≤ 9223372036854775807) ∧ (-9223372036854775808 ≤ x.mi ∧ x.mi ≤ 9223372036854775807)
def snOk (x : Sn) : Prop := (-9223372036854775808 ≤ x.it ∧ x.it ≤ 9223372036854775807) ∧ (0 ≤ x.cl ∧ x.cl ≤ 255) ∧ (-9223372036854775808 ≤ x.fr ∧ x.fr ≤ 9223372036854775807) ∧ (-9223372036854775808 ≤ x.to ∧ x.to ≤ 9223372036854775807) ∧ (-9223372036854775808 ≤ x.ac ∧ x.ac ≤ 9223372036854775807) ∧ (-9223372036854775808 ≤ x.de ∧ x.de ≤ 9223372036854775807)
section
variable {H : Type} {enc : TypeId × Value → H} {w : World} {base : Nat} {spare : Nat → Bool} {held : Bool}
set_option maxRecDepth 100000 in
theorem dec_sd (n : Nat) (cs : List Value) (x : DataW H × List MemPlace) (h : DataW.trod enc Tryz.prog w base spare held n 43 cs = some x) : ∃ y : Sd, cs = sdC y ∧ sdOk y := by
  have h1 := flat_struct [.int .u8, .int .i64, .int .i64, .int .i64] Tryz.underlying43 (by kernel_rfl) (by kernel_rfl) (by kernel_rfl) h
  cases cs with
  | nil => exact False.elim h1
  | cons v0 cs =>
  obtain ⟨⟨x0, rfl, h0x⟩, h1⟩ := h1
  cases cs with
  | nil => exact False.elim h1
  | cons v1 cs =>
  obtain ⟨⟨x1, rfl, h1x⟩, h1⟩ := h1
  cases cs with
  | nil => exact False.elim h1
  | cons v2 cs =>
  obtain ⟨⟨x2, rfl, h2x⟩, h1⟩ := h1
  cases cs with
  | nil => exact False.elim h1
  | cons v3 cs =>
  obtain ⟨⟨x3, rfl, h3x⟩, h1⟩ := h1
  cases cs with
  | nil => exact ⟨⟨x0, x1, x2, x3⟩, rfl, h0x, h1x, h2x, h3x⟩
  | cons _ _ => exact False.elim h1
set_option maxRecDepth 100000 in
theorem open_sds {r : Reach} {b0 : Nat} {v : Value} {d : DataW H} {ps : List MemPlace} (hv : Value.okWide Tryz.prog w r b0 24 v) (h : DataW.Trod enc Tryz.prog w base spare held 24 v d ps) :
    ∃ (A : Option Addr) (c : Nat) (l : List Sd), v = .slice A l.length c ∧ Sl A l.length c ∧ RS w 4 sdC A l ∧ ∀ y ∈ l, sdOk y :=
  open_rs2 (sz := 4) (e := 43) sdC sdOk Tryz.underlying24 (by kernel_rfl) (by decide) (fun n cs x hx => dec_sd n cs x hx) hv h
set_option maxRecDepth 100000 in
theorem dec_sn (n : Nat) (cs : List Value) (x : DataW H × List MemPlace) (h : DataW.trod enc Tryz.prog w base spare held n 45 cs = some x) : ∃ y : Sn, cs = snC y ∧ snOk y := by
  have h1 := flat_struct [.int .i64, .int .u8, .int .i64, .int .i64, .int .i64, .int .i64] Tryz.underlying45 (by kernel_rfl) (by kernel_rfl) (by kernel_rfl) h
  cases cs with
  | nil => exact False.elim h1
  | cons v0 cs =>
  obtain ⟨⟨x0, rfl, h0x⟩, h1⟩ := h1
  cases cs with
  | nil => exact False.elim h1
  | cons v1 cs =>
  obtain ⟨⟨x1, rfl, h1x⟩, h1⟩ := h1
  cases cs with
  | nil => exact False.elim h1
  | cons v2 cs =>
  obtain ⟨⟨x2, rfl, h2x⟩, h1⟩ := h1
  cases cs with
  | nil => exact False.elim h1
  | cons v3 cs =>
  obtain ⟨⟨x3, rfl, h3x⟩, h1⟩ := h1
  cases cs with
  | nil => exact False.elim h1
  | cons v4 cs =>
  obtain ⟨⟨x4, rfl, h4x⟩, h1⟩ := h1
  cases cs with
  | nil => exact False.elim h1
  | cons v5 cs =>
  obtain ⟨⟨x5, rfl, h5x⟩, h1⟩ := h1
  cases cs with
  | nil => exact ⟨⟨x0, x1, x2, x3, x4, x5⟩, rfl, h0x, h1x, h2x, h3x, h4x, h5x⟩
  | cons _ _ => exact False.elim h1
set_option maxRecDepth 100000 in
theorem open_sns {r : Reach} {b0 : Nat} {v : Value} {d : DataW H} {ps : List MemPlace} (hv : Value.okWide Tryz.prog w r b0 25 v) (h : DataW.Trod enc Tryz.prog w base spare held 25 v d ps) :
    ∃ (A : Option Addr) (c : Nat) (l : List Sn), v = .slice A l.length c ∧ Sl A l.length c ∧ RS w 6 snC A l ∧ ∀ y ∈ l, snOk y :=
  open_rs2 (sz := 6) (e := 45) snC snOk Tryz.underlying25 (by kernel_rfl) (by decide) (fun n cs x hx => dec_sn n cs x hx) hv h
end
end Go.Proofs.YtmakokbpadmfbaaGreat
