/-
  Plain facts: the law's rules are valid; what they say of a day, told rule by rule.
-/
import Derived.Test.YtbejfbekamikpaaVal
namespace Go.Proofs.Ytbejfbekamikpaa
set_option linter.unusedVariables false
set_option linter.unusedSimpArgs false
theorem mday_right (a : Int) (h0 : 0 ≤ a) (h1 : a ≤ 255) : ydB (mdayF a) = true := by
  have e1 : mdayF a / 100 = 1 + a % 12 := by unfold mdayF; omega
  have e2 : mdayF a % 100 = 1 + a / 12 := by unfold mdayF; omega
  have hm := (md_bd (1 + a % 12) true (by omega) (by omega)).1
  have h3 : 0 < mdayF a := by unfold mdayF; omega
  simp only [ydB, e1, e2, Bool.and_eq_true, decide_eq_true_eq]
  refine ⟨h3, by omega, by omega, by omega, by omega⟩
theorem ruled_right (n : Nt) (hn : ntOk n) : rightRu (ruledF n) = true ∧ 1 ≤ (ruledF n).pt ∧ (ruledF n).pt ≤ 6 := by
  obtain ⟨⟨p0, p1⟩, ⟨k0, k1⟩, ⟨a0, a1⟩, b0, b1⟩ := hn
  have m1 := mday_right n.a a0 a1
  have m2 := mday_right n.b b0 b1
  unfold ruledF
  split
  · rename_i hk
    refine ⟨?_, by simp only; omega, by simp only; omega⟩
    have e : 1 + n.kd % 3 = 1 := by omega
    simp [rightRu, e, m1, m2]
  · split
    · rename_i h0 hk
      refine ⟨?_, by simp only; omega, by simp only; omega⟩
      have e : 1 + n.kd % 3 = 2 := by omega
      simp [rightRu, e]
      omega
    · rename_i h0 hk
      refine ⟨?_, by simp only; omega, by simp only; omega⟩
      have e : 1 + n.kd % 3 = 3 := by omega
      simp [rightRu, e]
      omega
theorem rules_right (l : List Nt) (h : ∀ x ∈ l, ntOk x) : ∀ x ∈ rulesF l, rightRu x = true ∧ 1 ≤ x.pt ∧ x.pt ≤ 6 := by
  intro x hx
  unfold rulesF at hx
  obtain ⟨n, hn, rfl⟩ := List.mem_map.1 hx
  exact ruled_right n (h n (List.mem_of_mem_take hn))
theorem six_some (t : Int) (h0 : 1 ≤ t) (h1 : t ≤ 6) : ∃ p, findP (sixU 6) t = some p ∧ p.id = t ∧ (p.street = 0 ↔ 3 < t) := by
  obtain ⟨k, hk⟩ : ∃ k : Nat, t = (k : Int) + 1 := ⟨(t - 1).toNat, by omega⟩
  have hk6 : k < 6 := by omega
  obtain ⟨p, hp⟩ : ∃ p, (sixU 6)[k]? = some p := ⟨_, List.getElem?_eq_getElem (by rw [show (sixU 6).length = 6 from rfl]; omega)⟩
  obtain ⟨f1, f2, f3, f4⟩ := six_facts k p hp
  exact ⟨p, by rw [hk, ← f3]; exact f1, by omega, by rw [f4]; omega⟩
theorem valid_all (l : List Ru) (h : ∀ x ∈ l, rightRu x = true ∧ 1 ≤ x.pt ∧ x.pt ≤ 6) : ∀ i, validG (sixU 6) i l = (0, 0) := by
  induction l with
  | nil => intro i; rfl
  | cons x l ih =>
    intro i
    obtain ⟨a, b, c⟩ := h x List.mem_cons_self
    obtain ⟨p, hp, _⟩ := six_some x.pt b c
    simp only [validG]
    rw [if_neg (by simp [badRu, hp, a])]
    exact ih (fun y hy => h y (List.mem_cons_of_mem _ hy)) _
theorem valid_rules (l : List Nt) (h : ∀ x ∈ l, ntOk x) : validF (sixU 6) (rulesF l) = (0, 0) := by
  have := rulesF_len l
  unfold validF
  rw [if_neg (by omega)]
  exact valid_all _ (rules_right l h) 0
def seaR (n : Int) (x : Ru) : Bool := (decide (x.fr ≤ n) && decide (n ≤ x.to)) || (decide (x.to < x.fr) && (decide (x.fr ≤ n) || decide (n ≤ x.to)))
theorem sea_right (d : Int) (x : Ru) (h0 : 0 ≤ d) (h1 : d ≤ 730484) (hr : rightRu x = true) (hk : x.kd = 1) : seaB d x = seaR (100 * mthF d + dayF d) x := by
  have c1 : checkDayF d = 0 := by unfold checkDayF; (repeat' split) <;> omega
  have hy : ydB x.fr = true ∧ ydB x.to = true := by
    simp [rightRu, hk] at hr
    exact hr.1
  simp only [seaB, c1, hy.1, hy.2, yearlyB, seaR, decide_true, Bool.true_and]
  by_cases h : x.to < x.fr
  · rw [if_pos h]
    have : ¬ (x.fr ≤ 100 * mthF d + dayF d ∧ 100 * mthF d + dayF d ≤ x.to) := by omega
    rw [decide_eq_true h, Bool.true_and, ← Bool.decide_and, decide_eq_false this, Bool.false_or]
  · rw [if_neg h, decide_eq_false h, Bool.false_and, Bool.or_false]
theorem own_take (l : List Ru) (t k : Int) (i : Nat) (x : Ru) (h : l[i]? = some x) : ownF (l.take (i + 1)) t k = ownF (l.take i) t k ++ (if isR t k x then [x] else []) := by
  unfold ownF
  rw [List.take_add_one, h, List.filter_append]
  simp [List.filter_cons]
theorem found_any : ∀ (l : List Int) (t : Int), (∀ (i j : Nat) (x y : Int), i < j → l[i]? = some x → l[j]? = some y → x < y) → foundF l t = l.any fun x => decide (x = t)
  | [], t, _ => rfl
  | x :: l, t, h => by
    have ih := found_any l t (fun i j a b hij ha hb => h (i + 1) (j + 1) a b (by omega) (by simpa using ha) (by simpa using hb))
    by_cases hx : x < t
    · have e : foundF (x :: l) t = foundF l t := by simp [foundF, lbF, List.takeWhile_cons, hx]
      rw [e, ih]
      have : ¬ x = t := by omega
      simp [this]
    · have e : foundF (x :: l) t = decide (x = t) := by simp [foundF, lbF, List.takeWhile_cons, hx]
      rw [e, List.any_cons]
      have : (l.any fun x => decide (x = t)) = true → x = t ∨ False := by
        intro ha
        obtain ⟨y, hy, hyt⟩ := List.any_eq_true.1 ha
        obtain ⟨j, hj⟩ := List.mem_iff_getElem?.1 hy
        have := h 0 (j + 1) x y (by omega) rfl (by simpa using hj)
        simp at hyt
        omega
      cases hb : (l.any fun x => decide (x = t))
      · simp
      · exfalso
        obtain ⟨y, hy, hyt⟩ := List.any_eq_true.1 hb
        obtain ⟨j, hj⟩ := List.mem_iff_getElem?.1 hy
        have := h 0 (j + 1) x y (by omega) rfl (by simpa using hj)
        simp at hyt
        omega
def tellF (t : Int) (b1 b2 b3 b4 b5 b6 : Bool) : Int := if t < 1 ∨ 6 < t then 0 else if b1 = true then 3 else if b2 = true ∧ b3 = false ∨ b4 = true ∧ b5 = false ∨ 3 < t ∧ b6 = true then 2 else 1
theorem any_congr' {α : Type} {p q : α → Bool} {l : List α} (h : ∀ x ∈ l, p x = q x) : l.any p = l.any q := by
  induction l with
  | nil => rfl
  | cons x l ih => simp only [List.any_cons]; rw [h x List.mem_cons_self, ih (fun y hy => h y (List.mem_cons_of_mem _ hy))]
theorem tell_of (l : List Ru) (hol : List Int) (d t : Int) (h0 : 0 ≤ d) (h1 : d ≤ 730484) (hr : rightB hol = true) (hl : ∀ x ∈ l, rightRu x = true) :
    lstF (sixU 6) l hol t d = tellF t ((ownF l t 2).any (vacB d)) (!(ownF l t 1).isEmpty) ((ownF l t 1).any (seaR (100 * mthF d + dayF d))) (!(ownF l t 3).isEmpty) ((ownF l t 3).any (weekB (d % 7))) (hol.any fun x => decide (x = d)) := by
  have hc : checkF hol d = 0 := by unfold checkF; rw [hr, if_neg (by simp; omega), if_neg (by omega)]
  unfold tellF
  by_cases ht : t < 1 ∨ 6 < t
  · rw [if_pos ht, lst_none hc (six_none t ht)]
  · rw [if_neg ht]
    obtain ⟨p, hp, hid, hst⟩ := six_some t (by omega) (by omega)
    rw [lst_of hc hp]
    have hs : (ownF l t 1).any (seaB d) = (ownF l t 1).any (seaR (100 * mthF d + dayF d)) := any_congr' fun x hx => by
      obtain ⟨hxl, hxr⟩ := List.mem_filter.1 hx
      simp only [isR, Bool.and_eq_true, decide_eq_true_eq] at hxr
      exact sea_right d x h0 h1 (hl x hxl) hxr.2
    have hf := found_any hol d (right_sorted hr)
    have hst' : decide (p.street = 0) = decide (3 < t) := by simp [hst]
    unfold statusF
    rw [hid, hs, hf, hst']
    generalize (ownF l t 2).any (vacB d) = q1
    generalize (ownF l t 1).any (seaR (100 * mthF d + dayF d)) = q2
    generalize (ownF l t 3).any (weekB (d % 7)) = q3
    generalize (ownF l t 1).isEmpty = q4
    generalize (ownF l t 3).isEmpty = q5
    generalize (hol.any fun x => decide (x = d)) = q6
    by_cases h3 : 3 < t <;> cases q1 <;> cases q2 <;> cases q3 <;> cases q4 <;> cases q5 <;> cases q6 <;> simp [h3]
end Go.Proofs.Ytbejfbekamikpaa
