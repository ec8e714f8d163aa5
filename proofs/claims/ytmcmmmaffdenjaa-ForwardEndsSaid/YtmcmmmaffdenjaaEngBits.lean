/-
  Shifts, bits and conversions.
-/
import Derived.Test.YtmcmmmaffdenjaaEngFast
namespace Go.Proofs.Ytmcmmmaffdenjaa
namespace Eng
open Go.RowKit
set_option linter.unusedVariables false
variable {C : Cx} {F : Fr} {L : List HA} {o : Oper} {x y : Operand} {t u : TypeId} {k k' : IntKind} {a b : Int}
theorem u64_wrap {x : Int} (h1 : 0 ≤ x) (h2 : x ≤ 18446744073709551615) : IntKind.u64.wrap x = x := by
  simp [IntKind.wrap, IntKind.signed, IntKind.bits]; omega
theorem u16_wrap {x : Int} (h1 : 0 ≤ x) (h2 : x ≤ 65535) : IntKind.u16.wrap x = x := by
  simp [IntKind.wrap, IntKind.signed, IntKind.bits]; omega
theorem q_shr (ho : o.op = .binOp .shr t x y u) (hx : ev F x = some (.int k a)) (hy : ev F y = some (.int k' b)) (hr : 0 ≤ b ∧ b.toNat ≤ k.bits) : Qv C o F L (.int k (a / (2 ^ b.toNat : Nat))) :=
  .of_run fun ac w hf hs => by
    have h0 : ¬ b < 0 := by omega
    have h1 : (binOp .shr t (.int k a) (.int k' b)).run C.P w = .ok (.int k (a / (2 ^ b.toNat : Nat))) w := by
      simp only [binOp, Op.shift, h0, if_false, Nat.min_eq_left hr.2]
      rw [Int.fdiv_eq_ediv_of_nonneg _ (by exact Int.pow_nonneg (by omega))]
      simp
    simp only [execOp, ho, hf.ev hx, hf.ev hy]
    simp only [eqGuard]
    simp [h1]
theorem q_shr1 (ho : o.op = .binOp .shr t x y u) (hx : ev F x = some (.int .u64 a)) (hy : ev F y = some (.int k' 1)) : Qv C o F L (.int .u64 (a / 2)) :=
  q_shr ho hx hy ⟨by omega, by decide⟩
theorem and_one (n : Nat) (a : Int) (h0 : 0 ≤ a) (h1 : a < 2 ^ (n + 1)) : ((BitVec.ofInt (n + 1) a &&& BitVec.ofInt (n + 1) 1).toNat : Int) = a % 2 := by
  obtain ⟨m, rfl⟩ := Int.eq_ofNat_of_zero_le h0
  have e1 : (BitVec.ofInt (n + 1) (m : Int)).toNat = m := by
    rw [BitVec.toNat_ofInt]
    have : (m : Int) % ((2 ^ (n + 1) : Nat) : Int) = m := Int.emod_eq_of_lt h0 (by exact_mod_cast h1)
    rw [this]; rfl
  have e2 : (BitVec.ofInt (n + 1) (1 : Int)).toNat = 1 := by
    rw [BitVec.toNat_ofInt]
    have h2 : 1 < 2 ^ (n + 1) := Nat.one_lt_two_pow (by omega)
    have : (1 : Int) % ((2 ^ (n + 1) : Nat) : Int) = 1 := Int.emod_eq_of_lt (by omega) (by exact_mod_cast h2)
    rw [this]; rfl
  rw [BitVec.toNat_and, e1, e2, Nat.and_one_is_mod]
  omega
theorem q_and1 (ho : o.op = .binOp .and t x y u) (hx : ev F x = some (.int .u8 a)) (hy : ev F y = some (.int .u8 1)) (hr : 0 ≤ a ∧ a ≤ 255) : Qv C o F L (.int .u8 (a % 2)) :=
  q_bin ho hx hy fun w => by
    have h := and_one 7 a hr.1 (by omega)
    have h2 : IntKind.u8.wrap (a % 2) = a % 2 := u8_wrap (by omega) (by omega)
    have h3 : (Op.intBits .and .u8 a 1) = (pure (.int .u8 (IntKind.u8.wrap ((BitVec.ofInt (7 + 1) a &&& BitVec.ofInt (7 + 1) 1).toNat : Int))) : Sem Value) := rfl
    simp only [binOp, h3, h, h2]
    simp
end Eng
end Go.Proofs.Ytmcmmmaffdenjaa
