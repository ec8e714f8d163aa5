/-
  Ranks in sorted lists, plain.
-/
import Derived.Test.YtmlgheoliaplgaaQua
namespace Go.Proofs.Ytmlgheoliaplgaa
set_option linter.unusedVariables false
set_option linter.unusedSimpArgs false
theorem sortI_perm (l : List Int) : (sortI l).Perm l := List.mergeSort_perm l _
theorem sortI_sorted (l : List Int) : (sortI l).Pairwise (fun a b => a ≤ b) := by
  have := List.pairwise_mergeSort (le := fun x y : Int => decide (x ≤ y)) (fun a b c h1 h2 => by simp at *; omega) (fun a b => by simp; omega) l
  exact this.imp (fun h => by simpa using h)
theorem sortI_eq {l l' : List Int} (h : l.Perm l') : sortI l = sortI l' :=
  List.Perm.eq_of_pairwise (le := fun a b : Int => a ≤ b) (fun a b _ _ h1 h2 => Int.le_antisymm h1 h2) (sortI_sorted l) (sortI_sorted l') ((sortI_perm l).trans (h.trans (sortI_perm l').symm))
def lessN (l : List Int) (x : Int) : Nat := l.countP fun y => decide (y < x)
def mostN (l : List Int) (x : Int) : Nat := l.countP fun y => decide (y ≤ x)
theorem lessN_cons (a : Int) (l : List Int) (x : Int) : lessN (a :: l) x = lessN l x + if a < x then 1 else 0 := by
  unfold lessN; rw [List.countP_cons]; simp
theorem mostN_cons (a : Int) (l : List Int) (x : Int) : mostN (a :: l) x = mostN l x + if a ≤ x then 1 else 0 := by
  unfold mostN; rw [List.countP_cons]; simp
theorem lessN_none {l : List Int} {x : Int} (h : ∀ y ∈ l, x ≤ y) : lessN l x = 0 := by
  unfold lessN
  rw [List.countP_eq_zero]
  intro y hy
  have := h y hy
  simp; omega
theorem mostN_none {l : List Int} {x : Int} (h : ∀ y ∈ l, x < y) : mostN l x = 0 := by
  unfold mostN
  rw [List.countP_eq_zero]
  intro y hy
  have := h y hy
  simp; omega
theorem less_most (l : List Int) (x : Int) : lessN l x ≤ mostN l x := List.countP_mono_left fun y _ h => by
  simp at *; omega
theorem most_less (l : List Int) {x y : Int} (h : y < x) : mostN l y ≤ lessN l x := List.countP_mono_left fun z _ hz => by
  simp at *; omega
theorem sorted_at : ∀ (s : List Int), s.Pairwise (fun a b => a ≤ b) → ∀ (i : Nat) (x : Int), s[i]? = some x → lessN s x ≤ i ∧ i < mostN s x
  | [], _, i, x, h => by simp at h
  | a :: s, hp, i, x, h => by
    rw [List.pairwise_cons] at hp
    rw [lessN_cons, mostN_cons]
    cases i with
    | zero =>
      simp at h
      subst h
      rw [lessN_none hp.1]
      simp
    | succ j =>
      simp at h
      have := sorted_at s hp.2 j x h
      have h3 := hp.1 x (List.mem_of_getElem? h)
      rw [if_pos h3]
      split <;> omega
theorem at_sorted : ∀ (s : List Int), s.Pairwise (fun a b => a ≤ b) → ∀ (i : Nat) (x : Int), lessN s x ≤ i → i < mostN s x → s[i]? = some x
  | [], _, i, x, _, h => by simp [mostN] at h
  | a :: s, hp, i, x, h1, h2 => by
    rw [List.pairwise_cons] at hp
    rw [lessN_cons] at h1
    rw [mostN_cons] at h2
    rcases Int.lt_trichotomy a x with h | h | h
    · rw [if_pos h] at h1
      rw [if_pos (by omega)] at h2
      cases i with
      | zero => omega
      | succ j =>
        simp
        exact at_sorted s hp.2 j x (by omega) (by omega)
    · subst h
      cases i with
      | zero => rfl
      | succ j =>
        simp
        have := lessN_none (l := s) (x := a) hp.1
        exact at_sorted s hp.2 j a (by omega) (by rw [if_pos (Int.le_refl _)] at h2; omega)
    · rw [if_neg (by omega), mostN_none (fun y hy => by have := hp.1 y hy; omega)] at h2
      omega
theorem rank_at {l : List Int} {r : Nat} {x : Int} (h : (sortI l)[r]? = some x) : lessN l x ≤ r ∧ r < mostN l x := by
  have := sorted_at _ (sortI_sorted l) r x h
  have e1 : lessN (sortI l) x = lessN l x := (sortI_perm l).countP_eq _
  have e2 : mostN (sortI l) x = mostN l x := (sortI_perm l).countP_eq _
  omega
theorem rank_of {l : List Int} {r : Nat} {x : Int} (h1 : lessN l x ≤ r) (h2 : r < mostN l x) : (sortI l)[r]? = some x := by
  have e1 : lessN (sortI l) x = lessN l x := (sortI_perm l).countP_eq _
  have e2 : mostN (sortI l) x = mostN l x := (sortI_perm l).countP_eq _
  exact at_sorted _ (sortI_sorted l) r x (by omega) (by omega)
/-- The place of a quantile among twice the same numbers. -/
theorem rank_two {l : List Int} {p : Nat} {x : Int} (h : (sortI l)[rank l.length p]? = some x) : (sortI (l ++ l))[rank (l ++ l).length p]? = some x := by
  obtain ⟨h1, h2⟩ := rank_at h
  have e1 : lessN (l ++ l) x = 2 * lessN l x := by unfold lessN; rw [List.countP_append]; omega
  have e2 : mostN (l ++ l) x = 2 * mostN l x := by unfold mostN; rw [List.countP_append]; omega
  have e3 : p * (l ++ l).length = 2 * (p * l.length) := by rw [List.length_append, Nat.mul_add]; omega
  unfold rank at *
  rw [e3]
  generalize p * l.length = m at *
  refine rank_of ?_ ?_
  · rw [e1]; omega
  · rw [e2]; omega
theorem rank_facts {l : List Int} {p q : Nat} {x y : Int} (hp : p ≤ q) (hx : (sortI l)[rank l.length p]? = some x) (hy : (sortI l)[rank l.length q]? = some y) :
    x ≤ y ∧ x ∈ l ∧ p * l.length ≤ mostN l x * 10000 ∧ (0 < lessN l x → lessN l x * 10000 < p * l.length) := by
  obtain ⟨h1, h2⟩ := rank_at hx
  obtain ⟨h3, h4⟩ := rank_at hy
  have hm : p * l.length ≤ q * l.length := Nat.mul_le_mul_right _ hp
  refine ⟨?_, (sortI_perm l).mem_iff.1 (List.mem_of_getElem? hx), ?_, ?_⟩
  · rcases Int.lt_or_le y x with h | h
    · have := most_less l h
      unfold rank at *
      omega
    · exact h
  · unfold rank at *; omega
  · intro h; unfold rank at *; omega
theorem lessN_take {l : List Int} {k : Nat} {y : Int} (x : Int) (h : l[k]? = some y) : lessN (l.take (k + 1)) x = lessN (l.take k) x + if y < x then 1 else 0 := by
  rw [take_snoc h]; unfold lessN; rw [List.countP_append]; simp
theorem mostN_take {l : List Int} {k : Nat} {y : Int} (x : Int) (h : l[k]? = some y) : mostN (l.take (k + 1)) x = mostN (l.take k) x + if y ≤ x then 1 else 0 := by
  rw [take_snoc h]; unfold mostN; rw [List.countP_append]; simp
theorem lessN_le (l : List Int) (x : Int) : lessN l x ≤ l.length := List.countP_le_length
theorem mostN_le (l : List Int) (x : Int) : mostN l x ≤ l.length := List.countP_le_length
end Go.Proofs.Ytmlgheoliaplgaa
