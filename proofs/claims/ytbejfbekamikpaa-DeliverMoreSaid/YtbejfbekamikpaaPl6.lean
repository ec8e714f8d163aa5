/-
  Plain facts: one rule more, one holiday more.
-/
import Derived.Test.YtbejfbekamikpaaPl5
namespace Go.Proofs.Ytbejfbekamikpaa
set_option linter.unusedVariables false
set_option linter.unusedSimpArgs false
def insAt (l : List Int) (d : Int) (i : Nat) : List Int := l.take i ++ d :: l.drop i
theorem ins_len (l : List Int) (d : Int) (i : Nat) (h : i ≤ l.length) : (insAt l d i).length = l.length + 1 := by simp [insAt]; omega
theorem ins_end (l : List Int) (d : Int) : insAt l d l.length = l ++ [d] := by simp [insAt]
theorem ins_at (l : List Int) (d : Int) (i : Nat) (h : i ≤ l.length) : (insAt l d i)[i]? = some d := by
  unfold insAt
  rw [List.getElem?_append_right (by simp; omega)]
  simp [Nat.min_eq_left h]
theorem ins_below (l : List Int) (d : Int) (i j : Nat) (hj : j < i) (h : i ≤ l.length) : (insAt l d i)[j]? = l[j]? := by
  unfold insAt
  rw [List.getElem?_append_left (by simp; omega), List.getElem?_take, if_pos hj]
theorem ins_swap (l : List Int) (d y : Int) (i : Nat) (h : i < l.length) (hy : l[i]? = some y) : ((insAt l d (i + 1)).set i d).set (i + 1) y = insAt l d i := by
  apply List.ext_getElem?
  intro k
  have hl1 : (insAt l d (i + 1)).length = l.length + 1 := ins_len l d (i + 1) h
  rw [List.getElem?_set, List.getElem?_set]
  simp only [List.length_set, hl1]
  by_cases h1 : i + 1 = k
  · subst h1
    rw [if_pos rfl, if_pos (by omega)]
    unfold insAt
    rw [List.getElem?_append_right (by simp; omega)]
    simp [Nat.min_eq_left (Nat.le_of_lt h), hy]
  · rw [if_neg h1]
    by_cases h2 : i = k
    · subst h2
      rw [if_pos rfl, if_pos (by omega), ins_at l d i (by omega)]
    · rw [if_neg h2]
      rcases Nat.lt_or_ge k i with h3 | h3
      · rw [ins_below l d (i + 1) k (by omega) h, ins_below l d i k h3 (by omega)]
      · unfold insAt
        rw [List.getElem?_append_right (by simp; omega), List.getElem?_append_right (by simp; omega)]
        simp only [List.length_take]
        rw [show k - min (i + 1) l.length = (k - i - 2) + 1 from by omega, show k - min i l.length = (k - i - 1) + 1 from by omega]
        simp only [List.getElem?_cons_succ, List.getElem?_drop]
        congr 1
        omega
theorem ins_del (l : List Int) (d : Int) (i : Nat) (h : i ≤ l.length) : (insAt l d i).take i ++ (insAt l d i).drop (i + 1) = l := by
  unfold insAt
  rw [List.take_append_of_le_length (by simp; omega), List.take_take, Nat.min_self]
  have : (l.take i ++ d :: l.drop i).drop (i + 1) = l.drop i := by
    have e : i + 1 = (l.take i).length + 1 := by simp; omega
    rw [e, ← List.drop_drop, List.drop_left]
    rfl
  rw [this, List.take_append_drop]
theorem rightFrom_ins : ∀ (l : List Int) (a d : Int) (i : Nat), rightFrom a l = true → a < d → d ≤ 730484 → (∀ x, i ≠ 0 → l[i - 1]? = some x → x < d) → (∀ x, l[i]? = some x → d < x) → i ≤ l.length → rightFrom a (insAt l d i) = true
  | l, a, d, 0, h, h1, h2, _, h4, _ => by
    cases l with
    | nil => simp [insAt, rightFrom, h1, h2]
    | cons x l =>
      have := h4 x rfl
      simp only [rightFrom, Bool.and_eq_true, decide_eq_true_eq] at h
      simp [insAt, rightFrom, h1, h2, this, h.2.1, h.2.2]
  | [], a, d, i + 1, _, _, _, _, _, h5 => by simp at h5
  | x :: l, a, d, i + 1, h, h1, h2, h3, h4, h5 => by
    simp only [rightFrom, Bool.and_eq_true, decide_eq_true_eq] at h
    have hxd : x < d := by
      cases i with
      | zero => exact h3 x (by omega) rfl
      | succ i =>
        obtain ⟨y, hy⟩ : ∃ y, l[i]? = some y := ⟨_, List.getElem?_eq_getElem (by simp at h5; omega)⟩
        have h6 := h3 y (by omega) (by simpa using hy)
        have := rightFrom_lt l x h.2.2 i y hy
        omega
    have ih := rightFrom_ins l x d i h.2.2 hxd h2 (fun y hi hy => h3 y (by omega) (by
      obtain ⟨j, rfl⟩ : ∃ j, i = j + 1 := ⟨i - 1, by omega⟩
      simpa using hy)) (fun y hy => h4 y (by simpa using hy)) (by simpa using h5)
    simp only [insAt, List.take_succ_cons, List.drop_succ_cons, List.cons_append, rightFrom, Bool.and_eq_true, decide_eq_true_eq]
    exact ⟨h.1, h.2.1, ih⟩
/-- What the law's list of holidays has become. -/
structure SomeOk (S : List Int) (d : Int) : Prop where
  right : rightB S = true
  found : foundF S d = true
  len : S.length ≤ 31
theorem some_hol (l : List Int) (d : Int) (i : Nat) (hr : rightB l = true) (hl : l.length ≤ 30) (hi : l[i]? = some d) : SomeOk l d := by
  refine ⟨hr, ?_, by omega⟩
  rw [found_any l d (right_sorted hr)]
  exact List.any_eq_true.2 ⟨d, List.mem_of_getElem? hi, by simp⟩
theorem some_ins (l : List Int) (d : Int) (i : Nat) (hr : rightB l = true) (hl : l.length ≤ 30) (h0 : 0 ≤ d) (h1 : d ≤ 730484) (h3 : ∀ x, i ≠ 0 → l[i - 1]? = some x → x < d) (h4 : ∀ x, l[i]? = some x → d < x) (hi : i ≤ l.length) : SomeOk (insAt l d i) d := by
  have hlen := ins_len l d i hi
  have hrr : rightB (insAt l d i) = true := by
    simp only [rightB, Bool.and_eq_true, decide_eq_true_eq] at hr ⊢
    exact ⟨by omega, rightFrom_ins l (-1) d i hr.2 (by omega) h1 h3 h4 hi⟩
  refine ⟨hrr, ?_, by omega⟩
  rw [found_any _ d (right_sorted hrr)]
  exact List.any_eq_true.2 ⟨d, List.mem_of_getElem? (ins_at l d i hi), by simp⟩
theorem ownF_app (l : List Ru) (x : Ru) (t k : Int) : ownF (l ++ [x]) t k = ownF l t k ++ (if isR t k x then [x] else []) := by
  unfold ownF
  rw [List.filter_append]
  simp [List.filter_cons]
theorem isEmpty_app {α : Type} (l m : List α) : (l ++ m).isEmpty = (l.isEmpty && m.isEmpty) := by cases l <;> simp
def hasF (l : List Ru) (x : Ru) : Bool := l.any fun y => decide (y.pt = x.pt) && decide (y.kd = x.kd)
theorem has_own (l : List Ru) (x : Ru) : hasF l x = !(ownF l x.pt x.kd).isEmpty := by
  unfold hasF ownF
  induction l with
  | nil => rfl
  | cons y l ih =>
    simp only [List.any_cons, List.filter_cons, ih]
    by_cases hq : isR x.pt x.kd y = true
    · rw [if_pos hq]
      simp only [isR] at hq
      simp [hq]
    · rw [if_neg hq]
      simp only [isR, Bool.not_eq_true] at hq
      simp [hq]
theorem status_other (p : Pt) (l : List Ru) (x : Ru) (hol : List Int) (d : Int) (h : p.id ≠ x.pt) : statusF p (l ++ [x]) hol d = statusF p l hol d := by
  have : ∀ k, ownF (l ++ [x]) p.id k = ownF l p.id k := fun k => by
    rw [ownF_app, if_neg, List.append_nil]
    simp only [isR, Bool.and_eq_true, decide_eq_true_eq]
    exact fun hh => h hh.1.symm
  simp only [statusF, this]
theorem status_more (p : Pt) (l : List Ru) (x : Ru) (hol : List Int) (d : Int) :
    (hasF l x = true → x.kd ≠ 2 → statusF p l hol d = 1 → statusF p (l ++ [x]) hol d = 1) ∧ (hasF l x = false ∨ x.kd = 2 → statusF p (l ++ [x]) hol d = 1 → statusF p l hol d = 1) := by
  by_cases hp : p.id = x.pt
  · rw [has_own, ← hp]
    simp only [statusF, ownF_app, isR, hp, decide_true, Bool.true_and, List.any_append, isEmpty_app]
    rw [← hp]
    generalize (ownF l p.id 2).any (vacB d) = q1
    generalize (ownF l p.id 1).any (seaB d) = q2
    generalize (ownF l p.id 3).any (weekB (d % 7)) = q3
    by_cases k2 : x.kd = 2
    · have k1 : ¬ x.kd = 1 := by omega
      have k3 : ¬ x.kd = 3 := by omega
      refine ⟨fun _ h => absurd k2 h, fun _ => ?_⟩
      simp only [k2]
      simp
      cases q1 <;> cases q2 <;> cases q3 <;> cases (ownF l p.id 1).isEmpty <;> cases (ownF l p.id 3).isEmpty <;> cases vacB d x <;> simp
    · by_cases k1 : x.kd = 1
      · have k3 : ¬ x.kd = 3 := by omega
        simp only [k1]
        simp
        cases q1 <;> cases q2 <;> cases q3 <;> cases (ownF l p.id 1) <;> cases (ownF l p.id 3).isEmpty <;> cases seaB d x <;> simp
      · by_cases k3 : x.kd = 3
        · simp only [k3]
          simp
          cases q1 <;> cases q2 <;> cases q3 <;> cases (ownF l p.id 1).isEmpty <;> cases (ownF l p.id 3) <;> cases weekB (d % 7) x <;> simp
        · simp [k1, k2, k3]
  · rw [status_other p l x hol d hp]
    exact ⟨fun _ _ h => h, fun _ h => h⟩
theorem status_some (p : Pt) (l : List Ru) (hol S : List Int) (d : Int) (hS : foundF S d = true) :
    (p.street = 0 → statusF p l S d ≠ 1) ∧ (statusF p l hol d = 3 → statusF p l S d = 3) := by
  constructor
  · intro h
    simp only [statusF, hS, h, decide_true, Bool.true_and]
    (repeat' split) <;> simp_all
  · intro h
    unfold statusF at h ⊢
    split at h
    · rename_i h1
      rw [if_pos h1]
    · exfalso
      (repeat' split at h) <;> omega
end Go.Proofs.Ytbejfbekamikpaa
