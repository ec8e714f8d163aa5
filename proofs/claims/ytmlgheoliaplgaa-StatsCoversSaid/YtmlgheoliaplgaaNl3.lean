/-
  Chances, plain: what the statements say of the bounds.
-/
import Derived.Test.YtmlgheoliaplgaaNl2
namespace Go.Proofs.Ytmlgheoliaplgaa
set_option linter.unusedVariables false
set_option linter.unusedSimpArgs false
theorem lowest_le {E E' : Nat → Bool} (h : ∀ p, p ≤ 10000 → E' p = true → E p = true) : lowest E ≤ lowest E' := by
  obtain ⟨a1, a2, a3⟩ := lowest_spec E
  obtain ⟨b1, b2, b3⟩ := lowest_spec E'
  rcases Nat.lt_or_ge (lowest E') (lowest E) with hlt | hge
  · have h1 := a2 _ hlt
    rw [h _ b1 (b3 (by omega))] at h1
    cases h1
  · exact hge
theorem excB_risk {c n r r' : Nat} (h : r ≤ r') (he : excB c n r' = true) : excB c n r = true := by
  unfold excB at *
  rw [decide_eq_true_eq] at *
  exact Nat.lt_of_le_of_lt (Nat.mul_le_mul_right _ h) he
theorem lowF_risk {n k r r' : Nat} (h : r ≤ r') : lowF n k r ≤ lowF n k r' := lowest_le fun p _ hp => excB_risk h hp
theorem lowF_succ (n k r : Nat) : lowF n k r ≤ lowF n (k + 1) r := lowest_le fun p _ hp => excB_mono (up_anti _ _ _ _) hp
theorem posB_top {n k r : Nat} (hk : k ≤ n) (hr : r < 10000) : posB n k r 10000 = true := by
  unfold posB excB
  rw [decide_eq_true_eq]
  have h1 : 10000 ^ n ≤ up 10000 (10000 - 10000) n k := by
    have h2 : ∀ k, k ≤ n → 10000 ^ n ≤ up 10000 0 n k := by
      intro k hk
      have h3 : ∀ d, d ≤ n → 10000 ^ n ≤ up 10000 0 n (n - d) := by
        intro d
        induction d with
        | zero =>
          intro _
          rw [up_split, Nat.sub_zero, bn_last]
          exact Nat.le_add_right _ _
        | succ d ih =>
          intro hd
          have := ih (by omega)
          have h4 := up_anti 10000 0 n (n - (d + 1))
          rw [show n - (d + 1) + 1 = n - d by omega] at h4
          exact Nat.le_trans this h4
      have := h3 (n - k) (by omega)
      rwa [show n - (n - k) = k by omega] at this
    exact h2 k hk
  have h5 : 0 < 10000 ^ n := Nat.pow_pos (by omega)
  calc r * 10000 ^ n < 10000 * 10000 ^ n := Nat.mul_lt_mul_of_pos_right hr h5
    _ = 10000 ^ n * 10000 := Nat.mul_comm _ _
    _ ≤ _ := Nat.mul_le_mul_right _ h1
theorem lowF_le (n k r : Nat) : lowF n k r ≤ 10000 := (lowest_spec _).1
theorem lowF_pos {n k r : Nat} (hk : k ≤ n) (hr : r < 10000) : posB n k r (lowF n k r) = true := by
  rcases Nat.lt_or_ge (lowF n k r) 10000 with h | h
  · exact (lowest_spec _).2.2 h
  · rw [show lowF n k r = 10000 by have := lowF_le n k r; omega]
    exact posB_top hk hr
theorem lowF_neg {n k r p : Nat} (h : p < lowF n k r) : posB n k r p = false := (lowest_spec _).2.1 p h
theorem not_exc {c n r : Nat} (h : excB c n r = false) : c * 10000 ≤ r * 10000 ^ n := by
  unfold excB at h
  rw [decide_eq_false_iff_not] at h
  omega
theorem exc_not {c n r : Nat} (h : c * 10000 ≤ r * 10000 ^ n) : excB c n r = false := by
  unfold excB
  rw [decide_eq_false_iff_not]
  omega
/-- A step of the share changes little. -/
theorem up_lip {p q W : Nat} (hW : p + 1 + q = W) : ∀ n k, W * up (p + 1) q n k ≤ W * up p (q + 1) n k + n * W ^ n
  | 0, 0 => by simp [up]
  | 0, k + 1 => by simp [up]
  | n + 1, 0 => by
    rw [up_all, up_all, show p + (q + 1) = p + 1 + q by omega]
    exact Nat.le_add_right _ _
  | n + 1, k + 1 => by
    have h1 := up_lip hW n k
    have h2 := up_lip hW n (k + 1)
    have h3 := up_le p (q + 1) n k
    rw [show p + (q + 1) = W by omega] at h3
    simp only [up]
    generalize up (p + 1) q n k = a at *
    generalize up (p + 1) q n (k + 1) = b at *
    generalize up p (q + 1) n k = c at *
    generalize up p (q + 1) n (k + 1) = d at *
    generalize hX : W ^ n = X at *
    have m1 := Nat.mul_le_mul_left (p + 1) h1
    have m2 := Nat.mul_le_mul_left q h2
    have m3 := Nat.mul_le_mul_left W h3
    have e1 : W * ((p + 1) * a + q * b) = (p + 1) * (W * a) + q * (W * b) := by rw [Nat.mul_add, Nat.mul_left_comm W, Nat.mul_left_comm W]
    have e2 : W * (p * c + (q + 1) * d) = p * (W * c) + (q + 1) * (W * d) := by rw [Nat.mul_add, Nat.mul_left_comm W, Nat.mul_left_comm W]
    have e3 : (n + 1) * W ^ (n + 1) = (p + 1 + q) * (n * X) + W * X := by
      rw [Nat.pow_succ, hX, hW, Nat.add_mul, Nat.one_mul, Nat.mul_comm X W, Nat.mul_left_comm]
    have x1 : (p + 1) * (W * c) = p * (W * c) + W * c := by rw [Nat.add_mul, Nat.one_mul]
    have x2 : (q + 1) * (W * d) = q * (W * d) + W * d := by rw [Nat.add_mul, Nat.one_mul]
    have x3 : (p + 1 + q) * (n * X) = (p + 1) * (n * X) + q * (n * X) := Nat.add_mul _ _ _
    rw [Nat.mul_add] at m1 m2
    rw [e1, e2, e3, x2, x3]
    rw [x1] at m1
    omega
theorem low_high {n k a : Nat} (hk : k ≤ n) (hn : n ≤ 100) (ha : a ≤ 2000) : lowF n k a + lowF n (n - k) a ≤ 10000 := by
  rcases Nat.lt_or_ge 10000 (lowF n k a + lowF n (n - k) a) with h | h
  · exfalso
    have hL := lowF_le n k a
    have hR := lowF_le n (n - k) a
    obtain ⟨p, hp⟩ : ∃ p, lowF n k a = p + 1 := ⟨lowF n k a - 1, by omega⟩
    have h1 := not_exc (lowF_neg (n := n) (k := k) (r := a) (p := p) (by omega))
    have h2 := not_exc (lowF_neg (n := n) (k := n - k) (r := a) (p := 9999 - p) (by omega))
    have h3 : low (p + 1) (10000 - (p + 1)) n k = up (9999 - p) (10000 - (9999 - p)) n (n - k) := by
      rw [low_turn hk, show 10000 - (p + 1) = 9999 - p by omega, show 10000 - (9999 - p) = p + 1 by omega]
    rw [← h3] at h2
    have h4 := low_up (p + 1) (10000 - (p + 1)) n k
    have h5 := up_anti (p + 1) (10000 - (p + 1)) n k
    have h6 := up_lip (p := p) (q := 10000 - (p + 1)) (W := 10000) (by omega) n k
    rw [show 10000 - (p + 1) + 1 = 10000 - p by omega] at h6
    rw [show p + 1 + (10000 - (p + 1)) = 10000 by omega] at h4
    have hX : 0 < 10000 ^ n := Nat.pow_pos (by omega)
    generalize up p (10000 - p) n k = u at *
    generalize up (p + 1) (10000 - (p + 1)) n k = u1 at *
    generalize up (p + 1) (10000 - (p + 1)) n (k + 1) = u2 at *
    generalize low (p + 1) (10000 - (p + 1)) n k = l at *
    generalize 10000 ^ n = X at *
    have m1 : a * X ≤ 2000 * X := Nat.mul_le_mul_right _ ha
    have m2 : n * X ≤ 100 * X := Nat.mul_le_mul_right _ hn
    omega
  · exact h
/-- Scaling. -/
theorem up_scale (c p q : Nat) : ∀ n k, up (c * p) (c * q) n k = c ^ n * up p q n k
  | 0, 0 => by simp [up]
  | 0, k + 1 => by simp [up]
  | n + 1, 0 => by
    simp only [up]
    rw [up_scale c p q n 0, ← Nat.mul_add, Nat.pow_succ]
    simp only [Nat.mul_assoc, Nat.mul_left_comm, Nat.mul_comm]
  | n + 1, k + 1 => by
    simp only [up]
    rw [up_scale c p q n k, up_scale c p q n (k + 1), Nat.pow_succ, Nat.mul_add]
    congr 1 <;> simp only [Nat.mul_assoc, Nat.mul_left_comm, Nat.mul_comm]
theorem bn_scale (c p q : Nat) : ∀ n k, bn (c * p) (c * q) n k = c ^ n * bn p q n k
  | 0, 0 => by simp [bn]
  | 0, k + 1 => by simp [bn]
  | n + 1, 0 => by
    simp only [bn]
    rw [bn_scale c p q n 0, Nat.pow_succ]
    simp only [Nat.mul_assoc, Nat.mul_left_comm, Nat.mul_comm]
  | n + 1, k + 1 => by
    simp only [bn]
    rw [bn_scale c p q n k, bn_scale c p q n (k + 1), Nat.pow_succ, Nat.mul_add]
    congr 1 <;> simp only [Nat.mul_assoc, Nat.mul_left_comm, Nat.mul_comm]
theorem half_ch (n k : Nat) : bn 5000 (10000 - 5000) n k = ch n k * 5000 ^ n := by
  have := bn_scale 5000 1 1 n k
  rw [Nat.mul_comm (ch n k)]
  exact this
/-- From the top downwards. -/
def dn (p q n : Nat) : Nat → Nat × Nat
  | 0 => (p ^ n, p ^ n)
  | t + 1 => ((dn p q n t).1 * ((n - t) * q) / ((t + 1) * p), (dn p q n t).2 + (dn p q n t).1 * ((n - t) * q) / ((t + 1) * p))
theorem dn_eq {p q n : Nat} (hp : 0 < p) : ∀ t, t ≤ n → dn p q n t = (bn p q n (n - t), up p q n (n - t))
  | 0, _ => by
    have h := up_split p q n n
    rw [up_zero p q n (n + 1) (by omega), bn_last] at h
    simp only [dn, Nat.sub_zero, bn_last]
    rw [h]
    rfl
  | t + 1, h => by
    have ih := dn_eq (q := q) (n := n) hp t (by omega)
    have hr := bn_rec p q n (n - (t + 1))
    have hs := up_split p q n (n - (t + 1))
    rw [show n - (t + 1) + 1 = n - t by omega] at hr hs
    have e : bn p q n (n - t) * ((n - t) * q) = bn p q n (n - (t + 1)) * ((t + 1) * p) := by
      have e1 : n * (p * bn p q n (n - (t + 1))) = (t + 1) * (p * bn p q n (n - (t + 1))) + (n - (t + 1)) * (p * bn p q n (n - (t + 1))) := by
        rw [← Nat.add_mul, show t + 1 + (n - (t + 1)) = n by omega]
      have e2 : (n - t) * (q * bn p q n (n - t)) = (t + 1) * (p * bn p q n (n - (t + 1))) := by omega
      rw [Nat.mul_comm (bn p q n (n - t)), Nat.mul_assoc, e2, Nat.mul_comm (bn p q n (n - (t + 1))), Nat.mul_assoc]
    simp only [dn, ih, e, Nat.mul_div_cancel _ (Nat.mul_pos (show 0 < t + 1 by omega) hp)]
    rw [hs]
    congr 1
    exact Nat.add_comm _ _
def medB (n : Nat) : Bool := (List.range n).all fun j => decide (n ^ n < 5 * (dn (j + 1) (n - (j + 1)) n (n - (j + 1))).2)
theorem med_all : ((List.range 101).all medB) = true := by decide +kernel
theorem med_up {n k : Nat} (hk : 1 ≤ k) (hkn : k ≤ n) (hn : n ≤ 100) : n ^ n < 5 * up k (n - k) n k := by
  have h1 := List.all_eq_true.1 med_all n (List.mem_range.2 (by omega))
  have h2 := List.all_eq_true.1 h1 (k - 1) (List.mem_range.2 (by omega))
  rw [decide_eq_true_eq, show k - 1 + 1 = k by omega, dn_eq (by omega) _ (by omega), show n - (n - k) = k by omega] at h2
  exact h2
theorem med {n k p : Nat} (hk : 1 ≤ k) (hkn : k ≤ n) (hn : n ≤ 100) (hp : p ≤ 10000) (h : 10000 * k ≤ p * n) : 10000 ^ n < 5 * up p (10000 - p) n k := by
  have h1 := med_up hk hkn hn
  have s1 := up_scale n p (10000 - p) n k
  have s2 := up_scale 10000 k (n - k) n k
  have hs : 10000 * k + 10000 * (n - k) = n * p + n * (10000 - p) := by
    rw [← Nat.mul_add, ← Nat.mul_add, show k + (n - k) = n by omega, show p + (10000 - p) = 10000 by omega, Nat.mul_comm]
  have m := up_mono (by rw [Nat.mul_comm n p]; exact h) hs n k
  rw [s1, s2] at m
  have hn0 : 0 < n ^ n := Nat.pow_pos (by omega)
  have hw0 : 0 < 10000 ^ n := Nat.pow_pos (by omega)
  generalize up p (10000 - p) n k = u at *
  generalize up k (n - k) n k = v at *
  generalize n ^ n = X at *
  generalize 10000 ^ n = Y at *
  have e1 : Y * X < Y * (5 * v) := Nat.mul_lt_mul_of_pos_left h1 hw0
  have e2 : Y * (5 * v) = 5 * (Y * v) := Nat.mul_left_comm _ _ _
  have e3 : Y * X < X * (5 * u) := by
    rw [Nat.mul_left_comm X]
    omega
  rw [Nat.mul_comm Y X] at e3
  exact Nat.lt_of_mul_lt_mul_left e3
/-- The observed share. -/
theorem low_near {n k a : Nat} (hk : k ≤ n) (h0 : 0 < n) (hn : n ≤ 100) (ha : a ≤ 2000) {p : Nat} (hp : p < lowF n k a) : p * n < 10000 * k := by
  have h1 := not_exc (lowF_neg hp)
  have hL := lowF_le n k a
  have hX : 0 < 10000 ^ n := Nat.pow_pos (by omega)
  have m1 : a * 10000 ^ n ≤ 2000 * 10000 ^ n := Nat.mul_le_mul_right _ ha
  rcases Nat.lt_or_ge (p * n) (10000 * k) with h | h
  · exact h
  · exfalso
    rcases Nat.eq_zero_or_pos k with hk0 | hk0
    · subst hk0
      rw [up_all, show p + (10000 - p) = 10000 by omega] at h1
      omega
    · have := med hk0 hk hn (by omega) h
      omega
/-- Sums over what is beyond. -/
def sums (c : Nat → Bool) (f : Nat → Nat) : Nat → Nat
  | 0 => 0
  | m + 1 => sums c f m + if c m = true then f m else 0
theorem sums_up {p q n T : Nat} {c : Nat → Bool} (h : ∀ i, i ≤ n → c i = true → up p q n i ≤ T) : ∀ m, m ≤ n + 1 → sums c (bn p q n) m = 0 ∨ sums c (bn p q n) m + up p q n m ≤ T
  | 0, _ => .inl rfl
  | m + 1, hm => by
    have ih := sums_up h m (by omega)
    have hs := up_split p q n m
    simp only [sums]
    cases hc : c m with
    | true =>
      have := h m (by omega) hc
      rw [if_pos rfl]
      rcases ih with ih | ih
      · right; omega
      · right; omega
    | false =>
      rw [if_neg (by simp)]
      rcases ih with ih | ih
      · left; omega
      · right; omega
theorem sums_low {p q n T : Nat} {c : Nat → Bool} (h : ∀ i, i ≤ n → c i = true → low p q n i ≤ T) : ∀ m, m ≤ n + 1 → sums c (bn p q n) m ≤ T ∧ sums c (bn p q n) m ≤ part p q n 0 m
  | 0, _ => ⟨Nat.zero_le _, Nat.zero_le _⟩
  | m + 1, hm => by
    have ih := sums_low h m (by omega)
    simp only [sums, part]
    rw [if_pos (Nat.zero_le m)]
    cases hc : c m with
    | true =>
      have := h m (by omega) hc
      unfold low at this
      simp only [part] at this
      rw [if_pos (Nat.zero_le m)] at this
      rw [if_pos rfl]
      omega
    | false =>
      rw [if_neg (by simp)]
      omega
end Go.Proofs.Ytmlgheoliaplgaa
