/-
  Numbers without a sign, shifts, bits; heads of rows.
-/
import Derived.Test.YtmcmmmaffdenjaaEngRow
import Derived.Test.YtmcmmmaffdenjaaEngBits
namespace Go.Proofs.Ytmcmmmaffdenjaa
namespace Eng
open Go.RowKit
set_option linter.unusedVariables false
set_option linter.unusedSimpArgs false
section
variable {C : Cx} {F : Fr} {L : List HA} {o : Oper} {K : List KI} {ops : Array Oper} {m : Bool} {rest : List Oper} {x y : Operand} {t u : TypeId} {k k' : IntKind} {a b : Int}
theorem u32_wrap {x : Int} : IntKind.u32.wrap x = x % 4294967296 := by simp [IntKind.wrap, IntKind.signed, IntKind.bits]
theorem u64_wrapm {x : Int} : IntKind.u64.wrap x = x % 18446744073709551616 := by simp [IntKind.wrap, IntKind.signed, IntKind.bits]
theorem u32_small {x : Int} (h1 : 0 ≤ x) (h2 : x < 4294967296) : IntKind.u32.wrap x = x := by rw [u32_wrap]; omega
/-- A conversion, whatever it does to the value. -/
theorem q_convw {src dst : TypeId} {si di : TI} (ho : o.op = .convert src dst x) (hsrc : tget C.tab src = some si) (hdst : tget C.tab dst = some di) (hsk : si.kind = .int k') (hdk : di.kind = .int k)
    (hx : ev F x = some (.int k' a)) (hr : k.wrap a = b) : Qv C o F L (.int k b) :=
  .of_run fun ac w hf hs => by
    have h1 := tab_underlying (C.ok.get hsrc) hsk
    have h2 := tab_underlying (C.ok.get hdst) hdk
    simp [execOp, ho, hf.ev hx, convert, run_underlying h1, run_underlying h2, Conv.intToInt, hr]
def arK : BinOp → Int → Int → Option Int
  | .add, a, b => some (a + b)
  | .sub, a, b => some (a - b)
  | .mul, a, b => some (a * b)
  | _, _, _ => none
theorem q_ark {op : BinOp} {r s : Int} (ho : o.op = .binOp op t x y u) (hx : ev F x = some (.int k a)) (hy : ev F y = some (.int k b)) (hr : arK op a b = some r) (hw : k.wrap r = s) : Qv C o F L (.int k s) := by
  cases op <;> simp only [arK, Option.some.injEq, reduceCtorEq] at hr <;> subst hr <;> subst hw
  · exact q_addw ho hx hy
  · exact q_subw ho hx hy
  · exact q_mulw ho hx hy
theorem q_quok (ho : o.op = .binOp .quo t x y u) (hx : ev F x = some (.int k a)) (hy : ev F y = some (.int k b)) (hr : 0 ≤ a ∧ 0 < b) (hw : k.wrap (a / b) = a / b) : Qv C o F L (.int k (a / b)) :=
  q_bin ho hx hy fun w => by
    have h0 : b ≠ 0 := by omega
    simp [binOp, Op.intDiv, h0, Int.tdiv_eq_ediv_of_nonneg hr.1, hw]
theorem q_shlk {s : Int} (ho : o.op = .binOp .shl t x y u) (hx : ev F x = some (.int k a)) (hy : ev F y = some (.int k' b)) (hr : 0 ≤ b ∧ b.toNat ≤ k.bits) (hw : k.wrap (a * 2 ^ b.toNat) = s) : Qv C o F L (.int k s) :=
  .of_run fun ac w hf hs => by
    have h0 : ¬ b < 0 := by omega
    have h1 : (binOp .shl t (.int k a) (.int k' b)).run C.P w = .ok (.int k s) w := by
      simp only [binOp, Op.shift, h0, if_false, Nat.min_eq_left hr.2, hw]
      simp
    simp only [execOp, ho, hf.ev hx, hf.ev hy]
    simp only [eqGuard]
    simp [h1]
theorem or_disj (n j : Nat) (a b : Int) (h0 : 0 ≤ a) (h1 : 0 ≤ b) (h2 : b < 2 ^ j) (h3 : a * 2 ^ j < 2 ^ n) (hj : j ≤ n) : ((BitVec.ofInt n (a * 2 ^ j) ||| BitVec.ofInt n b).toNat : Int) = a * 2 ^ j + b := by
  obtain ⟨p, rfl⟩ := Int.eq_ofNat_of_zero_le h0
  obtain ⟨q, rfl⟩ := Int.eq_ofNat_of_zero_le h1
  have hq : q < 2 ^ j := by exact_mod_cast h2
  have hp : p * 2 ^ j < 2 ^ n := by exact_mod_cast h3
  have hqn : q < 2 ^ n := Nat.lt_of_lt_of_le hq (Nat.pow_le_pow_right (by omega) hj)
  have e1 : ((p : Int) * 2 ^ j) = ((p * 2 ^ j : Nat) : Int) := by push_cast; rfl
  have tn : ∀ v : Nat, v < 2 ^ n → (BitVec.ofInt n (v : Int)).toNat = v := by
    intro v hv
    rw [BitVec.toNat_ofInt]
    have : (v : Int) % ((2 ^ n : Nat) : Int) = v := Int.emod_eq_of_lt (by omega) (by exact_mod_cast hv)
    rw [this]; rfl
  have key : (BitVec.ofInt n ((p * 2 ^ j : Nat) : Int) ||| BitVec.ofInt n (q : Int)).toNat = p * 2 ^ j + q := by
    rw [BitVec.toNat_or, tn _ hp, tn _ hqn, Nat.mul_comm p, ← Nat.two_pow_add_eq_or_of_lt hq]
  rw [e1, key]
  push_cast
  rfl
theorem q_orsh (j : Nat) {c : Int} (ho : o.op = .binOp .or t x y u) (hx : ev F x = some (.int k a)) (hy : ev F y = some (.int k b)) (ha : a = c * 2 ^ j) (hr : 0 ≤ c ∧ 0 ≤ b ∧ b < 2 ^ j ∧ c * 2 ^ j < 2 ^ k.bits ∧ j ≤ k.bits) (hw : k.wrap (a + b) = a + b) : Qv C o F L (.int k (a + b)) :=
  q_bin ho hx hy fun w => by
    obtain ⟨h0, h1, h2, h3, h4⟩ := hr
    have := or_disj k.bits j c b h0 h1 h2 h3 h4
    rw [← ha] at this
    have h5 : (Op.intBits .or k a b) = (pure (.int k (k.wrap ((BitVec.ofInt k.bits a ||| BitVec.ofInt k.bits b).toNat : Int))) : Sem Value) := rfl
    simp only [binOp, ne_eq, not_true_eq_false, if_false, h5, this, hw]
    simp
theorem q_and1k (ho : o.op = .binOp .and t x y u) (hx : ev F x = some (.int .i64 a)) (hy : ev F y = some (.int .i64 1)) (hr : 0 ≤ a ∧ a ≤ 9223372036854775807) : Qv C o F L (.int .i64 (a % 2)) :=
  q_bin ho hx hy fun w => by
    have h := and_one 63 a hr.1 (by omega)
    have h2 : IntKind.i64.wrap (a % 2) = a % 2 := i64_wrap (by omega) (by omega)
    have h3 : (Op.intBits .and .i64 a 1) = (pure (.int .i64 (IntKind.i64.wrap ((BitVec.ofInt (63 + 1) a &&& BitVec.ofInt (63 + 1) 1).toNat : Int))) : Sem Value) := rfl
    simp only [binOp, h3, h, h2]
    simp
theorem q_shr32 (ho : o.op = .binOp .shr t x y u) (hx : ev F x = some (.int k a)) (hy : ev F y = some (.int k' 32)) (hr : Nat.ble 32 k.bits = true) : Qv C o F L (.int k (a / 4294967296)) :=
  q_shr ho hx hy ⟨by omega, by have := Nat.le_of_ble_eq_true hr; show 32 ≤ k.bits; exact this⟩
theorem q_shl32 (ho : o.op = .binOp .shl t x y u) (hx : ev F x = some (.int .u64 a)) (hy : ev F y = some (.int k' 32)) (hr : 0 ≤ a ∧ a < 4294967296) : Qv C o F L (.int .u64 (a * 4294967296)) :=
  q_shlk ho hx hy ⟨by omega, by decide⟩ (by rw [u64_wrapm]; show a * 4294967296 % 18446744073709551616 = a * 4294967296; omega)
/-- Heads of slices, the bound a number of whatever form. -/
theorem q_sliceHiI {n c e sz by_ : Nat} {ti : TI} {A : Option Addr} {kh : IntKind} {i : Int} (b : Nat) (ho : o.op = .slice t x none (some y) none) (ht : tget C.tab t = some ti) (hk : ti.kind = .slice e sz by_) (hx : ev F x = some (.slice A n c)) (hy : ev F y = some (.int kh i)) (hi : i = (b : Int)) (hb : b ≤ c) :
    Qv C o F L (.slice A b c) := by
  subst hi
  exact q_sliceHi b ho ht hk hx hy hb
theorem j_takeown {l : List Oper} {A : Option Addr} {n c e sz j : Nat} {xs : List Value} {L' : List HA} (hin : InL L (.own (.slice A n c) e sz n xs)) (hj : j ≤ n) (hup : Upd L (.own (.slice A n c) e sz n xs) (.own (.slice A j c) e sz j (xs.take (j * sz))) L') (h : J C ops false l K F L') : J C ops false l K F L := fun a w hf hs => by
  refine h a w hf ?_
  cases A with
  | some ad => exact take_own hs hin hj hup
  | none =>
    have hA := hs.at hin
    rcases hA.2.2 with ⟨hv, h0⟩ | ⟨g, cap, cur, hv, _⟩
    · have : j = 0 := by omega
      subst this
      injection hv with _ _ hc
      subst hc
      refine hs.upd hup (Below.refl 0 w) (fun b _ _ => rfl) ⟨fun b hb => by simp [Value.ownBlock] at hb, by simp, .inl ⟨rfl, rfl⟩⟩ (fun b hb => by simp [HA.foot, Value.ownBlock] at hb)
    · injection hv with h1
      cases h1
theorem j_own_le {l : List Oper} {A : Option Addr} {n c e sz : Nat} {xs : List Value} (hin : InL L (.own (.slice A n c) e sz n xs)) (h : n ≤ c → J C ops false l K F L) : J C ops false l K F L := fun a w hf hs => by
  have hA := hs.at hin
  rcases hA.2.2 with ⟨hv, h0⟩ | ⟨g, cap, cur, hv, _, _, hnc, _⟩
  · exact h (by omega) a w hf hs
  · injection hv with _ _ hc
    subst hc
    exact h hnc a w hf hs
end
end Eng
end Go.Proofs.Ytmcmmmaffdenjaa
