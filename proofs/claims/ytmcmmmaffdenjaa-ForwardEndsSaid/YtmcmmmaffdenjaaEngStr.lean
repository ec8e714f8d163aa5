/-
  A byte of the table of lengths; remainders of numbers without a sign.
-/
import Derived.Test.YtmcmmmaffdenjaaEngNum
import Derived.Lib.BitFns
import Derived.WalkSpells
namespace Go.Proofs.Ytmcmmmaffdenjaa
namespace Eng
open Go.RowKit
set_option linter.unusedVariables false
set_option linter.unusedSimpArgs false
section
variable {C : Cx} {F : Fr} {L : List HA} {o : Oper} {K : List KI} {ops : Array Oper} {m : Bool} {rest : List Oper} {x y : Operand} {t u : TypeId} {k k' : IntKind} {a b : Int}
theorem tab_str {P : Program} {t : TypeId} {ti : TI} (h : TIok P t ti) (hk : ti.kind = .str) : P.underlying t = some .string := by
  have := h.kind
  rw [hk] at this
  simp only [TK.check] at this
  split at this
  · assumption
  · cases this
theorem q_index_len8 {ti : TI} (ho : o.op = .index t x y) (ht : tget C.tab t = some ti) (hk : ti.kind = .str) (hx : ev F x = some (.string Lib.len8tab)) (hy : ev F y = some (.int k a)) (hr : 0 ≤ a ∧ a ≤ 255) : Qv C o F L (.int .u8 (Lib.bitLen a.toNat : Nat)) :=
  .of_run fun ac w hf hs => by
    have h1 := Lib.run_index_len8tab (P := C.P) w t k a (tab_str (C.ok.get ht) hk) hr.1 hr.2
    rw [Lib.len8_of a hr.1 hr.2] at h1
    simp [execOp, ho, hf.ev hx, hf.ev hy, h1]
theorem q_remk (ho : o.op = .binOp .rem t x y u) (hx : ev F x = some (.int k a)) (hy : ev F y = some (.int k b)) (hr : 0 ≤ a ∧ 0 < b) (hw : k.wrap (a % b) = a % b) : Qv C o F L (.int k (a % b)) :=
  q_bin ho hx hy fun w => by
    have h0 : b ≠ 0 := by omega
    simp [binOp, Op.intDiv, h0, Int.tmod_eq_emod_of_nonneg hr.1, hw]
theorem q_minr {r : Int} (ho : o.op = .call { callee := .builtin .min, args := #[x, y], argTypes := #[t, u] }) (hx : ev F x = some (.int k a)) (hy : ev F y = some (.int k b)) (hr : (if b < a then b else a) = r) : Qv C o F L (.int k r) :=
  .of_run fun ac w hf hs => by
    subst hr
    simp [execOp, ho, resolve, invoke, builtin, Builtin.min_, Builtin.min2, hf.ev hx, hf.ev hy]
theorem q_maxr {r : Int} (ho : o.op = .call { callee := .builtin .max, args := #[x, y], argTypes := #[t, u] }) (hx : ev F x = some (.int k a)) (hy : ev F y = some (.int k b)) (hr : (if a < b then b else a) = r) : Qv C o F L (.int k r) :=
  .of_run fun ac w hf hs => by
    subst hr
    simp [execOp, ho, resolve, invoke, builtin, Builtin.max_, Builtin.max2, hf.ev hx, hf.ev hy]
theorem q_eqlnil {A : Option Addr} {n c n' c' e sz by_ : Nat} {ti : TI} (ho : o.op = .binOp .eql t x y u) (ht : tget C.tab t = some ti) (hk : ti.kind = .slice e sz by_) (hx : ev F x = some (.slice A n c)) (hy : ev F y = some (.slice none n' c')) : Qv C o F L (.bool A.isNone) :=
  .of_run fun ac w hf hs => by
    obtain ⟨hu, _⟩ := tk_slice (C.ok.get ht) hk
    have h1 : (binOp .eql t (.slice A n c) (.slice none n' c')).run C.P w = .ok (.bool A.isNone) w := by
      simp only [binOp]
      simp [Op.equal, Op.maxDepth, Lib.run_equalIn_slice_nil w 9999 t e A n c n' c' hu]
    simp only [execOp, ho, hf.ev hx, hf.ev hy]
    simp only [eqGuard]
    simp [h1]
theorem q_eqlsome {A : Addr} {n c n' c' e sz by_ : Nat} {ti : TI} (ho : o.op = .binOp .eql t x y u) (ht : tget C.tab t = some ti) (hk : ti.kind = .slice e sz by_) (hx : ev F x = some (.slice (some A) n c)) (hy : ev F y = some (.slice none n' c')) : Qv C o F L (.bool false) :=
  q_eqlnil ho ht hk hx hy
end
end Eng
end Go.Proofs.Ytmcmmmaffdenjaa
