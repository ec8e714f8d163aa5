/-
  Chances, plain: growth, turning, the least share.
-/
import Derived.Test.YtmlgheoliaplgaaSta1
namespace Go.Proofs.Ytmlgheoliaplgaa
set_option linter.unusedVariables false
set_option linter.unusedSimpArgs false
theorem up_mono {p q p' q' : Nat} (h : p ≤ p') (hs : p + q = p' + q') : ∀ n k, up p q n k ≤ up p' q' n k
  | 0, 0 => Nat.le_refl _
  | 0, k + 1 => Nat.le_refl _
  | n + 1, 0 => by
    simp only [up]
    rw [hs]
    exact Nat.mul_le_mul_left _ (up_mono h hs n 0)
  | n + 1, k + 1 => by
    have h1 := up_mono h hs n k
    have h2 := up_mono h hs n (k + 1)
    have h3 := up_anti p q n k
    simp only [up]
    obtain ⟨d, rfl⟩ : ∃ d, p' = p + d := ⟨p' - p, by omega⟩
    obtain rfl : q = d + q' := by omega
    have e1 : p * up p (d + q') n k + d * up p (d + q') n (k + 1) ≤ p * up p (d + q') n k + d * up p (d + q') n k := Nat.add_le_add_left (Nat.mul_le_mul_left _ h3) _
    have e2 : (p + d) * up p (d + q') n k ≤ (p + d) * up (p + d) q' n k := Nat.mul_le_mul_left _ h1
    have e3 : q' * up p (d + q') n (k + 1) ≤ q' * up (p + d) q' n (k + 1) := Nat.mul_le_mul_left _ h2
    rw [Nat.add_mul] at e2
    rw [Nat.add_mul d q']
    omega
/-- k successes or fewer. -/
def low (p q n k : Nat) : Nat := part p q n 0 (k + 1)
theorem low_up (p q n k : Nat) : low p q n k + up p q n (k + 1) = (p + q) ^ n := by
  have := part_up p q n 0 (k + 1) (by omega)
  rw [up_all] at this
  exact this
theorem part_turn {p q n : Nat} : ∀ k, k ≤ n → part p q n 0 (k + 1) = up q p n (n - k)
  | 0, _ => by
    rw [part_one, bn_flip (Nat.zero_le n), up_split, up_zero q p n (n - 0 + 1) (by omega)]
    simp
  | k + 1, h => by
    rw [part, part_turn k (by omega), if_pos (Nat.zero_le _), bn_flip h, up_split q p n (n - (k + 1)), show n - (k + 1) + 1 = n - k by omega]
    omega
theorem low_turn {p q n k : Nat} (h : k ≤ n) : low p q n k = up q p n (n - k) := part_turn k h
/-- The least number from 0 to 10000 for which something is so. -/
def lowest (E : Nat → Bool) : Nat := ((List.range 10000).find? E).getD 10000
theorem lowest_eq {E : Nat → Bool} {L : Nat} (h1 : ∀ p, p < L → E p = false) (h2 : L < 10000 → E L = true) (h3 : L ≤ 10000) : lowest E = L := by
  unfold lowest
  cases hf : (List.range 10000).find? E with
  | none =>
    have := List.find?_eq_none.1 hf
    rcases Nat.lt_or_ge L 10000 with h | h
    · exact absurd (h2 h) (this L (List.mem_range.2 h))
    · simp; omega
  | some m =>
    have hm := List.find?_some hf
    have hml : m < 10000 := List.mem_range.1 (List.mem_of_find?_eq_some hf)
    rcases Nat.lt_trichotomy m L with h | h | h
    · rw [h1 m h] at hm; cases hm
    · exact h
    · obtain ⟨hm', l1, l2, he, hall⟩ := List.find?_eq_some_iff_append.1 hf
      exfalso
      have hL : L ∈ List.range 10000 := List.mem_range.2 (by omega)
      have hg : (List.range 10000)[l1.length]? = some m := by rw [he]; simp
      have hal : l1.length = m := by
        have hlt := (List.getElem?_eq_some_iff.1 hg).1
        rw [List.length_range] at hlt
        rw [List.getElem?_range hlt] at hg
        injection hg
      have hga : l1[L]? = some L := by
        have h5 : (List.range 10000)[L]? = some L := List.getElem?_range (by omega)
        rw [he, List.getElem?_append_left (by omega)] at h5
        exact h5
      have := hall L (List.mem_of_getElem? hga)
      rw [h2 (by omega)] at this
      cases this
theorem lowest_spec (E : Nat → Bool) : lowest E ≤ 10000 ∧ (∀ p, p < lowest E → E p = false) ∧ (lowest E < 10000 → E (lowest E) = true) := by
  have key : ∃ L, L ≤ 10000 ∧ (∀ p, p < L → E p = false) ∧ (L < 10000 → E L = true) := by
    have : ∀ d, d ≤ 10000 → ∃ L, L ≤ d ∧ (∀ p, p < L → E p = false) ∧ (L < d → E L = true) := by
      intro d
      induction d with
      | zero => exact fun _ => ⟨0, Nat.le_refl _, fun p hp => absurd hp (by omega), fun h => absurd h (by omega)⟩
      | succ d ih =>
        intro hd
        obtain ⟨L, h1, h2, h3⟩ := ih (by omega)
        rcases Nat.lt_or_ge L d with h | h
        · exact ⟨L, by omega, h2, fun _ => h3 h⟩
        · have : L = d := by omega
          subst this
          cases hE : E L with
          | true => exact ⟨L, by omega, h2, fun _ => hE⟩
          | false =>
            refine ⟨L + 1, by omega, fun p hp => ?_, fun h => absurd h (by omega)⟩
            rcases Nat.lt_or_ge p L with h4 | h4
            · exact h2 p h4
            · have : p = L := by omega
              rw [this]; exact hE
    exact this 10000 (Nat.le_refl _)
  obtain ⟨L, h1, h2, h3⟩ := key
  rw [lowest_eq h2 h3 h1]
  exact ⟨h1, h2, h3⟩
/-- Whether a share is possible. -/
def posB (n k r p : Nat) : Bool := excB (up p (10000 - p) n k) n r
theorem excB_mono {c c' n r : Nat} (h : c ≤ c') (he : excB c n r = true) : excB c' n r = true := by
  unfold excB at *
  rw [decide_eq_true_eq] at *
  exact Nat.lt_of_lt_of_le he (Nat.mul_le_mul_right _ h)
theorem posB_mono (n k r : Nat) : ∀ a b, a ≤ b → b ≤ 10000 → posB n k r a = true → posB n k r b = true := fun a b h hb he =>
  excB_mono (up_mono h (by omega) n k) he
/-- The lower bound. -/
def lowF (n k r : Nat) : Nat := lowest (posB n k r)
end Go.Proofs.Ytmlgheoliaplgaa
