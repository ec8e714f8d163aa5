/-
  Plain facts about what a point is: statuses of the law's six points.
-/
import Derived.Test.YtbejfbekamikpaaRls
namespace Go.Proofs.Ytbejfbekamikpaa
set_option linter.unusedVariables false
theorem rulesF_len (l : List Nt) : (rulesF l).length ≤ 30 := by unfold rulesF; simp; omega
theorem offF_len (l : List Int) : (offF l).length ≤ 30 := by unfold offF; rw [offG_len]; simp; omega
theorem rev_take {α : Type} (l : List α) (k : Nat) (x : α) (hk : k < l.length) (h : l[l.length - 1 - k]? = some x) : l.reverse.take (k + 1) = l.reverse.take k ++ [x] := by
  rw [List.take_add_one, List.getElem?_reverse hk, h]
  rfl
theorem mday_bd (a : Int) (h0 : 0 ≤ a) (h1 : a ≤ 255) : 101 ≤ mdayF a ∧ mdayF a ≤ 1231 := by unfold mdayF; omega
theorem ruled_ok (n : Nt) (hn : ntOk n) : ruOk (ruledF n) := by
  obtain ⟨⟨p0, p1⟩, ⟨k0, k1⟩, ⟨a0, a1⟩, b0, b1⟩ := hn
  have m1 := mday_bd n.a a0 a1
  have m2 := mday_bd n.b b0 b1
  unfold ruledF
  split
  · refine ⟨?_, ?_, ?_, ?_, ?_⟩ <;> simp only <;> omega
  · split
    · refine ⟨?_, ?_, ?_, ?_, ?_⟩ <;> simp only <;> omega
    · refine ⟨?_, ?_, ?_, ?_, ?_⟩ <;> simp only <;> omega
theorem rules_ok (l : List Nt) (h : ∀ x ∈ l, ntOk x) : ∀ x ∈ rulesF l, ruOk x := by
  intro x hx
  unfold rulesF at hx
  obtain ⟨n, hn, rfl⟩ := List.mem_map.1 hx
  exact ruled_ok n (h n (List.mem_of_mem_take hn))
theorem offG_right : ∀ (l : List Int) (a : Int), -1 ≤ a → a + 64 * l.length ≤ 730484 → rightFrom a (offG a l) = true
  | [], a, _, _ => rfl
  | x :: l, a, h0, h1 => by
    simp only [List.length_cons] at h1
    have hx : 0 ≤ x % 64 ∧ x % 64 < 64 := by omega
    simp only [offG, rightFrom, Bool.and_eq_true, decide_eq_true_eq]
    refine ⟨by omega, by omega, offG_right l _ (by omega) (by omega)⟩
theorem off_right (l : List Int) : rightB (offF l) = true := by
  have h1 := offF_len l
  have h2 : (l.take 30).length ≤ 30 := by simp; omega
  have h3 := offG_right (l.take 30) (-1) (by omega) (by omega)
  simp only [rightB, Bool.and_eq_true, decide_eq_true_eq]
  exact ⟨by omega, h3⟩
theorem off_check (l : List Int) (d : Int) (h0 : 0 ≤ d) (h1 : d ≤ 730484) : checkF (offF l) d = 0 := by
  unfold checkF
  rw [off_right l, if_neg (by simp; omega), if_neg (by omega)]
theorem check_nil (d : Int) (h0 : 0 ≤ d) (h1 : d ≤ 730484) : checkF [] d = 0 := off_check [] d h0 h1
theorem six_get (k : Nat) (p : Pt) (h : (sixU 6)[k]? = some p) : k < 6 ∧ p = sixP (k + 1) := by
  have hk : k < 6 := by
    have := (List.getElem?_eq_some_iff.1 h).1
    simpa [sixU] using this
  refine ⟨hk, ?_⟩
  have : k = 0 ∨ k = 1 ∨ k = 2 ∨ k = 3 ∨ k = 4 ∨ k = 5 := by omega
  rcases this with rfl|rfl|rfl|rfl|rfl|rfl <;> (simp [sixU, List.range_succ] at h; exact h.symm)
theorem six_facts (k : Nat) (p : Pt) (h : (sixU 6)[k]? = some p) : findP (sixU 6) p.id = some p ∧ findP (sixU 6).reverse p.id = some p ∧ p.id = (k : Int) + 1 ∧ (p.street = 0 ↔ 3 ≤ k) := by
  obtain ⟨hk, rfl⟩ := six_get k p h
  have : k = 0 ∨ k = 1 ∨ k = 2 ∨ k = 3 ∨ k = 4 ∨ k = 5 := by omega
  rcases this with rfl|rfl|rfl|rfl|rfl|rfl <;> exact ⟨rfl, rfl, rfl, by decide⟩
theorem lst_of {pts : List Pt} {l : List Ru} {hol : List Int} {t d : Int} {p : Pt} (hc : checkF hol d = 0) (hf : findP pts t = some p) : lstF pts l hol t d = statusF p l hol d := by
  simp [lstF, statF, hc, hf]
theorem lst_none {pts : List Pt} {l : List Ru} {hol : List Int} {t d : Int} (hc : checkF hol d = 0) (hf : findP pts t = none) : lstF pts l hol t d = 0 := by
  simp [lstF, statF, hc, hf]
theorem status_bd (p : Pt) (l : List Ru) (hol : List Int) (d : Int) : 1 ≤ statusF p l hol d ∧ statusF p l hol d ≤ 3 := by
  unfold statusF
  (repeat' split) <;> omega
theorem ownF_rev (l : List Ru) (t k : Int) : ownF l.reverse t k = (ownF l t k).reverse := by simp [ownF]
theorem status_rev (p : Pt) (l : List Ru) (hol : List Int) (d : Int) : statusF p l.reverse hol d = statusF p l hol d := by
  simp only [statusF, ownF_rev, List.any_reverse, List.isEmpty_reverse]
theorem status_street (p : Pt) (l : List Ru) (hol hol' : List Int) (d : Int) (h : p.street ≠ 0) : statusF p l hol d = statusF p l hol' d := by
  simp [statusF, h]
end Go.Proofs.Ytbejfbekamikpaa
