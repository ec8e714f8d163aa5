/-
  In one text: Nl1, Sta1.
-/
import Derived.Test.YtmakokbpadmfbaaGreatNat6
/-
  Chances of successes, plain.
-/
namespace Go.Proofs.YtmakokbpadmfbaaGreat
set_option linter.unusedVariables false
set_option linter.unusedSimpArgs false
/-- k successes of n trials; success p, failure q. -/
def bn (p q : Nat) : Nat → Nat → Nat
  | 0, 0 => 1
  | 0, _ + 1 => 0
  | n + 1, 0 => q * bn p q n 0
  | n + 1, k + 1 => p * bn p q n k + q * bn p q n (k + 1)
/-- k successes or more. -/
def up (p q : Nat) : Nat → Nat → Nat
  | 0, 0 => 1
  | 0, _ + 1 => 0
  | n + 1, 0 => (p + q) * up p q n 0
  | n + 1, k + 1 => p * up p q n k + q * up p q n (k + 1)
theorem bn_zero (p q : Nat) : ∀ n k, n < k → bn p q n k = 0
  | 0, k + 1, _ => rfl
  | n + 1, k + 1, h => by simp [bn, bn_zero p q n k (by omega), bn_zero p q n (k + 1) (by omega)]
theorem bn_head (p q : Nat) : ∀ n, bn p q n 0 = q ^ n
  | 0 => rfl
  | n + 1 => by rw [bn, bn_head p q n, Nat.pow_succ, Nat.mul_comm]
theorem bn_last (p q : Nat) : ∀ n, bn p q n n = p ^ n
  | 0 => rfl
  | n + 1 => by rw [bn, bn_last p q n, bn_zero p q n (n + 1) (by omega), Nat.pow_succ, Nat.mul_comm, Nat.mul_zero, Nat.add_zero]
theorem bn_rec_alg {A D P x y j n : Nat} (h1 : (j + 1 + 1) * D + (j + 1) * A = n * A) (h2 : (j + 1) * A + j * P = n * P) (hx : x = A + D) (hy : y = P + A) : (j + 1 + 1) * x + (j + 1) * y = (n + 1) * y := by
  subst hx
  subst hy
  simp only [Nat.add_mul, Nat.mul_add, Nat.one_mul] at *
  omega
theorem bn_rec (p q : Nat) : ∀ n k, (k + 1) * (q * bn p q n (k + 1)) + k * (p * bn p q n k) = n * (p * bn p q n k)
  | 0, 0 => by simp [bn]
  | 0, k + 1 => by simp [bn]
  | n + 1, 0 => by
    have h := bn_rec p q n 0
    simp only [bn, Nat.zero_mul, Nat.add_zero, Nat.zero_add, Nat.one_mul] at h ⊢
    generalize bn p q n 0 = a at *
    generalize bn p q n 1 = b at *
    have e1 : q * (p * a + q * b) = q * (p * a) + q * (q * b) := Nat.mul_add _ _ _
    have e2 : (n + 1) * (p * (q * a)) = q * (n * (p * a)) + q * (p * a) := by
      rw [Nat.add_mul, Nat.one_mul, Nat.mul_left_comm p q a, Nat.mul_left_comm n q (p * a)]
    rw [e1, e2, ← h]
    omega
  | n + 1, j + 1 => by
    have h1 := bn_rec p q n (j + 1)
    have h2 := bn_rec p q n j
    simp only [bn] at h1 h2 ⊢
    generalize bn p q n j = c at *
    generalize bn p q n (j + 1) = a at *
    generalize bn p q n (j + 1 + 1) = d at *
    refine bn_rec_alg (A := q * (p * a)) (D := q * (q * d)) (P := p * (p * c)) ?_ ?_ (Nat.mul_add _ _ _) (by rw [Nat.mul_add, Nat.mul_left_comm p q a])
    · have := congrArg (q * ·) h1
      rw [Nat.mul_add, Nat.mul_left_comm q (j + 1 + 1), Nat.mul_left_comm q (j + 1), Nat.mul_left_comm q n] at this
      exact this
    · have := congrArg (p * ·) h2
      rw [Nat.mul_add, Nat.mul_left_comm p (j + 1), Nat.mul_left_comm p j, Nat.mul_left_comm p n, Nat.mul_left_comm p q a] at this
      exact this
theorem bn_step {p q n k : Nat} (hk : k ≤ n) (hq : 0 < q) : bn p q n k * ((n - k) * p) / ((k + 1) * q) = bn p q n (k + 1) := by
  have h := bn_rec p q n k
  have e : bn p q n k * ((n - k) * p) = bn p q n (k + 1) * ((k + 1) * q) := by
    have e1 : n * (p * bn p q n k) = (n - k) * (p * bn p q n k) + k * (p * bn p q n k) := by
      rw [← Nat.add_mul, Nat.sub_add_cancel hk]
    have e2 : (k + 1) * (q * bn p q n (k + 1)) = (n - k) * (p * bn p q n k) := by omega
    rw [Nat.mul_comm (bn p q n k), Nat.mul_assoc, ← e2, Nat.mul_comm (bn p q n (k + 1)), Nat.mul_assoc]
  rw [e, Nat.mul_div_cancel _ (Nat.mul_pos (by omega) hq)]
theorem bn_none (p : Nat) : ∀ n k, k < n → bn p 0 n k = 0
  | n + 1, 0, _ => by simp [bn]
  | n + 1, k + 1, h => by simp [bn, bn_none p n k (by omega)]
theorem up_split (p q : Nat) : ∀ n k, up p q n k = bn p q n k + up p q n (k + 1)
  | 0, 0 => rfl
  | 0, k + 1 => rfl
  | n + 1, 0 => by
    have h := up_split p q n 0
    simp only [up, bn]
    rw [h, Nat.add_mul, Nat.mul_add, Nat.mul_add]
    omega
  | n + 1, k + 1 => by
    have h1 := up_split p q n k
    have h2 := up_split p q n (k + 1)
    simp only [up, bn]
    rw [h1, h2]
    simp only [Nat.mul_add]
    omega
theorem up_zero (p q : Nat) : ∀ n k, n < k → up p q n k = 0
  | 0, k + 1, _ => rfl
  | n + 1, k + 1, h => by simp [up, up_zero p q n k (by omega), up_zero p q n (k + 1) (by omega)]
theorem up_all (p q : Nat) : ∀ n, up p q n 0 = (p + q) ^ n
  | 0 => rfl
  | n + 1 => by rw [up, up_all p q n, Nat.pow_succ, Nat.mul_comm]
theorem up_anti (p q n k : Nat) : up p q n (k + 1) ≤ up p q n k := by rw [up_split p q n k]; omega
theorem up_le (p q n : Nat) : ∀ k, up p q n k ≤ (p + q) ^ n
  | 0 => Nat.le_of_eq (up_all p q n)
  | k + 1 => Nat.le_trans (up_anti p q n k) (up_le p q n k)
theorem bn_le (p q n k : Nat) : bn p q n k ≤ (p + q) ^ n := by
  have := up_split p q n k
  have := up_le p q n k
  omega
/-- From first on, fewer than k. -/
def part (p q n first : Nat) : Nat → Nat
  | 0 => 0
  | k + 1 => part p q n first k + if first ≤ k then bn p q n k else 0
theorem part_low (p q n first : Nat) : ∀ k, k ≤ first → part p q n first k = 0
  | 0, _ => rfl
  | k + 1, h => by rw [part, part_low p q n first k (by omega), if_neg (by omega)]
theorem part_up (p q n first : Nat) : ∀ k, first ≤ k → part p q n first k + up p q n k = up p q n first
  | 0, h => by
    have : first = 0 := by omega
    subst this
    simp [part]
  | k + 1, h => by
    rcases Nat.lt_or_ge k first with h1 | h1
    · have : first = k + 1 := by omega
      subst this
      rw [part_low _ _ _ _ _ (Nat.le_refl _), Nat.zero_add]
    · have h2 := part_up p q n first k h1
      have h3 := up_split p q n k
      rw [part, if_pos h1]
      omega
theorem part_le (p q n first k : Nat) : part p q n first k ≤ (p + q) ^ n := by
  rcases Nat.lt_or_ge k first with h1 | h1
  · rw [part_low _ _ _ _ _ (by omega)]
    exact Nat.zero_le _
  · have := part_up p q n first k h1
    have := up_le p q n first
    omega
theorem part_one (p q n k : Nat) : part p q n k (k + 1) = bn p q n k := by rw [part, part_low _ _ _ _ _ (Nat.le_refl _), if_pos (Nat.le_refl _), Nat.zero_add]
theorem part_high (p q n k : Nat) (h : k ≤ n + 1) : part p q n k (n + 1) = up p q n k := by
  have := part_up p q n k (n + 1) h
  rw [up_zero p q n (n + 1) (by omega)] at this
  omega
/-- Subsets. -/
abbrev ch (n k : Nat) : Nat := bn 1 1 n k
theorem bn_turn (p q : Nat) : ∀ a b, bn p q (a + b) a = bn q p (a + b) b := by
  have : ∀ n a b, a + b = n → bn p q n a = bn q p n b := by
    intro n
    induction n with
    | zero =>
      intro a b h
      have h1 : a = 0 := by omega
      have h2 : b = 0 := by omega
      subst h1; subst h2; rfl
    | succ n ih =>
      intro a b h
      cases a with
      | zero =>
        have : b = n + 1 := by omega
        subst this
        rw [bn_head, bn_last]
      | succ a =>
        cases b with
        | zero =>
          have : a + 1 = n + 1 := by omega
          rw [this, bn_head, bn_last]
        | succ b =>
          simp only [bn]
          rw [ih a (b + 1) (by omega), ih (a + 1) b (by omega)]
          omega
  intro a b
  exact this (a + b) a b rfl
theorem bn_flip {p q n k : Nat} (h : k ≤ n) : bn p q n k = bn q p n (n - k) := by
  have := bn_turn p q k (n - k)
  rwa [show k + (n - k) = n by omega] at this
end Go.Proofs.YtmakokbpadmfbaaGreat

/-
  stats: times, plus, over, power, checked, Choose, exceeds.
-/
namespace Go.Proofs.YtmakokbpadmfbaaGreat
open Go.RowKit Eng
set_option linter.unusedVariables false
set_option linter.unusedSimpArgs false
set_option maxHeartbeats 8000000
attribute [local irreducible] SC SQ J Qt Calls Iterates LSub FSub
set_option exponentiation.threshold 600
theorem small_cap {a : Nat} (h : a ≤ 5000000) : a ≤ cap := Nat.le_trans h (by unfold cap; decide +kernel)
theorem times_c (A : Option Addr) (c a : Nat) (B : Option Addr) (bc b : Nat) (w : World) (ha : a ≤ cap) (hb : b ≤ cap) (hA : SL w A c (limbs a)) (hB : SL w B bc (limbs b)) :
    Calls Tryz.prog 71 #[.slice A (limbs a).length c, .slice B (limbs b).length bc] w fun e w' => ∃ v : Value, True ∧ e = .returned v ∧ St w Cold [haN v (a * b)] w' := by
  have h1 := cap_len ha
  have h2 := cap_len hb
  refine eng_start (n := 14) (args := [.slice A (limbs a).length c, .slice B (limbs b).length bc]) tab tab_ok fns fns_ok [.tmp 4] Tryz.func71 rfl rfl rfl rfl ?_
  repeat' (first | (refine gJ ?_; first | refine js rfl rfl rfl rfl ?_ | (refine gcall rfl rfl ?_; refine gF ?_; refine j_nat2 (f := 28) rfl rfl rfl rfl rfl rfl rfl (fun w' hs => mul_c A c a B bc b w' (by omega) (hA.st hs) (hB.st hs)) ?_; intro A3 c3)) | (refine gSC ?_; first | refine sc_mv rfl ?_ | refine sc_q rfl ?_ | refine sc_region ?_) | (refine gSQ ?_; first | refine sq_go rfl ?_ | refine sq_ende (by first | exact .inl rfl | exact .inr rfl) rfl rfl ⟨_, (RVs.cons (RV.tmp rfl) (RVs.nil)), ?_⟩) | refine j_nil ?_)
  intro w' hS
  exact ⟨_, trivial, rfl, hS.sub (by repeat (first | exact LSub.nil | refine LSub.cons (by repeat (first | exact Rem.here | apply Rem.there)) ?_))⟩
theorem plus_c (A : Option Addr) (c a : Nat) (B : Option Addr) (bc b : Nat) (w : World) (ha : a ≤ cap) (hb : b ≤ cap) (hA : SL w A c (limbs a)) (hB : SL w B bc (limbs b)) :
    Calls Tryz.prog 87 #[.slice A (limbs a).length c, .slice B (limbs b).length bc] w fun e w' => ∃ v : Value, True ∧ e = .returned v ∧ St w Cold [haN v (a + b)] w' := by
  have h1 := cap_len ha
  have h2 := cap_len hb
  refine eng_start (n := 14) (args := [.slice A (limbs a).length c, .slice B (limbs b).length bc]) tab tab_ok fns fns_ok [.tmp 4] Tryz.func87 rfl rfl rfl rfl ?_
  repeat' (first | (refine gJ ?_; first | refine js rfl rfl rfl rfl ?_ | (refine gcall rfl rfl ?_; refine gF ?_; refine j_nat2 (f := 105) rfl rfl rfl rfl rfl rfl rfl (fun w' hs => add_c A c a B bc b w' (by omega) (by omega) (hA.st hs) (hB.st hs)) ?_; intro A3 c3)) | (refine gSC ?_; first | refine sc_mv rfl ?_ | refine sc_q rfl ?_ | refine sc_region ?_) | (refine gSQ ?_; first | refine sq_go rfl ?_ | refine sq_ende (by first | exact .inl rfl | exact .inr rfl) rfl rfl ⟨_, (RVs.cons (RV.tmp rfl) (RVs.nil)), ?_⟩) | refine j_nil ?_)
  intro w' hS
  exact ⟨_, trivial, rfl, hS.sub (by repeat (first | exact LSub.nil | refine LSub.cons (by repeat (first | exact Rem.here | apply Rem.there)) ?_))⟩
theorem over_c (A : Option Addr) (c a : Nat) (B : Option Addr) (bc b : Nat) (w : World) (ha : a ≤ cap) (hb0 : 0 < b) (hb : b < 4294967296) (hA : SL w A c (limbs a)) (hB : SL w B bc (limbs b)) :
    Calls Tryz.prog 104 #[.slice A (limbs a).length c, .slice B (limbs b).length bc] w fun e w' => ∃ v : Value, True ∧ e = .returned v ∧ St w Cold [haN v (a / b)] w' := by
  have h1 := cap_len ha
  refine eng_start (n := 16) (args := [.slice A (limbs a).length c, .slice B (limbs b).length bc]) tab tab_ok fns fns_ok [.tmp 4] Tryz.func104 rfl rfl rfl rfl ?_
  repeat' (first | (refine gJ ?_; first | refine js rfl rfl rfl rfl ?_ | (refine gcall rfl rfl ?_; refine gF ?_; refine j_callN (f := 130) rfl rfl rfl rfl rfl rfl rfl (fun x : (Option Addr × Nat) × Value => .tuple #[.slice x.1.1 (limbs (a / b)).length x.1.2, x.2, .int .i64 0]) (fun _ => True) (fun x => [haN (.slice x.1.1 (limbs (a / b)).length x.1.2) (a / b)]) (fun w' hs => divmod_c A c a B bc b w' (by omega) hb0 hb (hA.st hs) (hB.st hs)) (fun _ => trivial) ?_; rintro ⟨⟨A3, c3⟩, v3⟩ _)) | (refine gSC ?_; first | refine sc_mv rfl ?_ | refine sc_q rfl ?_ | refine sc_region ?_) | (refine gSQ ?_; first | refine sq_go rfl ?_ | refine sq_ende (by first | exact .inl rfl | exact .inr rfl) rfl rfl ⟨_, (RVs.cons (RV.tmp rfl) (RVs.nil)), ?_⟩) | refine j_nil ?_)
  intro w' hS
  exact ⟨_, trivial, rfl, hS.sub (by repeat (first | exact LSub.nil | refine LSub.cons (by repeat (first | exact Rem.here | apply Rem.there)) ?_))⟩
theorem power_c (a n : Nat) (w : World) (ha : a ≤ 10000) (hn : n ≤ 500) :
    Calls Tryz.prog 73 #[.int .i64 a, .int .i64 n] w fun e w' => ∃ v : Value, True ∧ e = .returned v ∧ St w Cold [haN v (a ^ n)] w' := by
  refine eng_start (n := 15) (args := [.int .i64 a, .int .i64 n]) tab tab_ok fns fns_ok [.tmp 4] Tryz.func73 rfl rfl rfl rfl ?_
  repeat' (first | (refine gJ ?_; first | refine js rfl rfl rfl rfl ?_ | (refine gcall rfl rfl ?_; refine gF ?_; refine j_nat (f := 72) rfl rfl rfl rfl rfl rfl rfl (fun w' hs => number_c a w' (by omega)) ?_; intro A2 c2) | (refine gcall rfl rfl ?_; refine gF ?_; refine j_nat2 (f := 26) rfl rfl rfl rfl rfl rfl rfl (fun w' hs => pow_c A2 c2 a n w' ha hn (sl_of_own hs (by (repeat constructor)) rfl rfl)) ?_; intro A3 c3)) | (refine gSC ?_; first | refine sc_mv rfl ?_ | refine sc_q rfl ?_ | refine sc_region ?_) | (refine gSQ ?_; first | refine sq_go rfl ?_ | refine sq_ende (by first | exact .inl rfl | exact .inr rfl) rfl rfl ⟨_, (RVs.cons (RV.tmp rfl) (RVs.nil)), ?_⟩) | refine j_nil ?_)
  intro w' hS
  exact ⟨_, trivial, rfl, hS.sub (by repeat (first | exact LSub.nil | refine LSub.cons (by repeat (first | exact Rem.here | apply Rem.there)) ?_))⟩
def checkF (n k x lo hi : Int) : Int := if k < 0 ∨ n < k ∨ x < lo ∨ hi < x then 2 else if 500 < n then 3 else 0
theorem checked_c (n k x lo hi : Int) (w : World) :
    Calls Tryz.prog 39 #[.int .i64 n, .int .i64 k, .int .i64 x, .int .i64 lo, .int .i64 hi] w fun e w' => e = .returned (.int .i64 (checkF n k x lo hi)) ∧ Below w.heap.size w w' := by
  refine eng_start (n := 30) (args := [.int .i64 n, .int .i64 k, .int .i64 x, .int .i64 lo, .int .i64 hi]) tab tab_ok fns fns_ok [.tmp 10] Tryz.func39 rfl rfl rfl rfl ?_
  repeat' (first | (refine gJ ?_; refine js rfl rfl rfl rfl ?_) | (refine gSC ?_; first | refine sc_mv rfl ?_ | refine sc_q rfl ?_ | refine sc_region ?_) | (refine gSQ ?_; first | refine sq_go rfl ?_ | refine sq_mv rfl ?_ | refine sq_ende (by first | exact .inl rfl | exact .inr rfl) rfl rfl ⟨_, (RVs.cons (RV.tmp rfl) (RVs.nil)), ?_⟩) | refine j_nil ?_ | ((first | refine j_guard rfl rfl rfl rfl rfl ?_ ?_ | refine sc_cond rfl ?_ ?_) <;> intro hc <;> (first | exact absurd hc (by decide) | ((try simp only [engHC] at hc) <;> skip))))
  all_goals ((intro w' hS; refine ⟨?_, hS.below⟩; simp only [pack]); refine ri ?_; unfold checkF; (repeat' split) <;> simp_all <;> omega)
set_option exponentiation.threshold 600
/-- 'exceeds' of the program. -/
def excB (c n risk : Nat) : Bool := decide (risk * 10000 ^ n < c * 10000)
theorem sgn_pos (a b : Nat) : (0 < sgn a b) ↔ b < a := by
  unfold sgn
  split
  · omega
  · split <;> omega
theorem exceeds_c (A : Option Addr) (cc c n risk : Nat) (w : World) (hc : c ≤ 10000 ^ 500) (hn : n ≤ 500) (hr : risk ≤ 10000) (hA : SL w A cc (limbs c)) :
    Calls Tryz.prog 42 #[.slice A (limbs c).length cc, .int .i64 n, .int .i64 risk] w fun e w' => e = .returned (.bool (excB c n risk)) ∧ Below w.heap.size w w' := by
  have h1 : c * 10000 ≤ cap := Nat.le_trans (Nat.mul_le_mul_right _ hc) (by unfold cap; decide +kernel)
  have h2 : risk * 10000 ^ n ≤ cap := Nat.le_trans (Nat.mul_le_mul hr (Nat.le_refl _)) (by rw [Nat.mul_comm, ← Nat.pow_succ]; exact pow_cap (Nat.le_refl _) (by omega))
  have h3 : c ≤ cap := by omega
  have h4 : 10000 ^ n ≤ cap := pow_cap (Nat.le_refl _) (by omega)
  have l1 := cap_len h1
  have l2 := cap_len h2
  have hb : decide (0 < sgn (c * 10000 : Nat) (risk * 10000 ^ n : Nat)) = excB c n risk := by unfold excB; rw [decide_eq_decide]; exact sgn_pos _ _
  refine eng_start (n := 23) (args := [.slice A (limbs c).length cc, .int .i64 n, .int .i64 risk]) tab tab_ok fns fns_ok [.tmp 6] Tryz.func42 rfl rfl rfl rfl ?_
  repeat' (first | (refine gJ ?_; first | refine js rfl rfl rfl rfl ?_ | (refine gcall rfl rfl ?_; (refine j_qc (f := 29) rfl rfl rfl rfl rfl rfl rfl ?_; refine ⟨_, (fun w' hs => cmp_c A3 c3 (c * 10000) A6 c6 (risk * 10000 ^ n) w' (by omega) (by omega) (sl_of_own hs (by (repeat constructor)) rfl rfl) (sl_of_own hs (by (repeat constructor)) rfl rfl)), ?_⟩)) | (refine gcall rfl rfl ?_; refine gF ?_; refine j_nat (f := 72) rfl rfl rfl rfl rfl rfl rfl (fun w' hs => number_c 10000 w' (by omega)) ?_; intro A2 c2) | (refine gcall rfl rfl ?_; refine gF ?_; refine j_nat (f := 71) rfl rfl rfl rfl rfl rfl rfl (fun w' hs => times_c A cc c A2 c2 10000 w' h3 (by have := small_cap (a := 10000) (by omega); omega) (hA.st hs) (sl_of_own hs (by (repeat constructor)) rfl rfl)) ?_; intro A3 c3) | (refine gcall rfl rfl ?_; refine gF ?_; refine j_nat (f := 72) rfl rfl rfl rfl rfl rfl rfl (fun w' hs => number_c risk w' (by omega)) ?_; intro A4 c4) | (refine gcall rfl rfl ?_; refine gF ?_; refine j_nat (f := 73) rfl rfl rfl rfl rfl rfl rfl (fun w' hs => power_c 10000 n w' (by omega) hn) ?_; intro A5 c5) | (refine gcall rfl rfl ?_; refine gF ?_; refine j_nat (f := 71) rfl rfl rfl rfl rfl rfl rfl (fun w' hs => times_c A4 c4 risk A5 c5 (10000 ^ n) w' (by have := small_cap (a := risk) (by omega); omega) h4 (sl_of_own hs (by (repeat constructor)) rfl rfl) (sl_of_own hs (by (repeat constructor)) rfl rfl)) ?_; intro A6 c6)) | (refine gSC ?_; first | refine sc_mv rfl ?_ | refine sc_q rfl ?_ | refine sc_region ?_) | (refine gSQ ?_; first | refine sq_go rfl ?_ | refine sq_ende (by first | exact .inl rfl | exact .inr rfl) rfl rfl ⟨_, (RVs.cons (RV.tmp rfl) (RVs.nil)), ?_⟩) | refine j_nil ?_)
  all_goals ((intro w' hS; refine ⟨?_, hS.below⟩; simp only [pack]); exact rb hb)
end Go.Proofs.YtmakokbpadmfbaaGreat

