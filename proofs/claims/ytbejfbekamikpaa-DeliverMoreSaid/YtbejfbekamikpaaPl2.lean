/-
  Plain facts: the first open day, the points that are open.
-/
import Derived.Test.YtbejfbekamikpaaPl1
namespace Go.Proofs.Ytbejfbekamikpaa
set_option linter.unusedVariables false
theorem firstOpen_spec (p : Pt) (l : List Ru) (hol : List Int) : ∀ (n : Nat) (d : Int),
    match firstOpen p l hol n d with
    | some x => d ≤ x ∧ x < d + n ∧ statusF p l hol x = 1 ∧ ∀ k, d ≤ k → k < x → statusF p l hol k ≠ 1
    | none => ∀ k, d ≤ k → k < d + n → statusF p l hol k ≠ 1
  | 0, d => by simp only [firstOpen]; intro k h1 h2; omega
  | n + 1, d => by
    have ih := firstOpen_spec p l hol n (d + 1)
    simp only [firstOpen]
    by_cases h : statusF p l hol d = 1
    · rw [if_pos h]
      exact ⟨by omega, by omega, h, fun k h1 h2 => by omega⟩
    · rw [if_neg h]
      cases hf : firstOpen p l hol n (d + 1) with
      | some x =>
        rw [hf] at ih
        obtain ⟨a, b, c, e⟩ := ih
        refine ⟨by omega, by omega, c, fun k h1 h2 => ?_⟩
        by_cases hk : k = d
        · rw [hk]; exact h
        · exact e k (by omega) h2
      | none =>
        rw [hf] at ih
        intro k h1 h2
        by_cases hk : k = d
        · rw [hk]; exact h
        · exact ih k (by omega) (by omega)
theorem next_spec (pts : List Pt) (l : List Ru) (fr : List Int) (t d : Int) (h0 : 0 ≤ d) (h1 : d ≤ 2000) :
    ∃ (g : Int) (b : Bool), nextF pts l (offF fr) t d = (g, b, 0) ∧ (b = true → d ≤ g ∧ g ≤ d + 800 ∧ lstF pts l (offF fr) t g = 1 ∧ ∀ k, d ≤ k → k < g → lstF pts l (offF fr) t k ≠ 1) ∧
      (b = false → g = 0 ∧ ∀ k, d ≤ k → k ≤ d + 800 → lstF pts l (offF fr) t k ≠ 1) := by
  have hc := off_check fr d h0 (by omega)
  have hck : ∀ k, d ≤ k → k ≤ d + 800 → checkF (offF fr) k = 0 := fun k a b => off_check fr k (by omega) (by omega)
  have hN : (lastF d - d + 1).toNat = 801 := by unfold lastF; rw [if_neg (by omega)]; omega
  simp only [nextF, hc, ne_eq, not_true, if_false]
  cases hf : findP pts t with
  | none =>
    refine ⟨0, false, rfl, fun h => by simp at h, fun _ => ⟨rfl, fun k a b => ?_⟩⟩
    rw [lst_none (hck k a b) hf]
    omega
  | some p =>
    have hs := firstOpen_spec p l (offF fr) 801 d
    simp only [hN]
    cases ho : firstOpen p l (offF fr) 801 d with
    | some x =>
      rw [ho] at hs
      obtain ⟨a, b, c, e⟩ := hs
      refine ⟨x, true, rfl, fun _ => ⟨a, by omega, ?_, fun k h1 h2 => ?_⟩, fun h => by simp at h⟩
      · rw [lst_of (hck x a (by omega)) hf]; exact c
      · rw [lst_of (hck k h1 (by omega)) hf]; exact e k h1 h2
    | none =>
      rw [ho] at hs
      refine ⟨0, false, rfl, fun h => by simp at h, fun _ => ⟨rfl, fun k h1 h2 => ?_⟩⟩
      rw [lst_of (hck k h1 h2) hf]
      exact hs k h1 (by omega)
theorem int_flat (l : List Int) : l.map (Value.int .i64) = l.flatMap intC := by
  induction l with
  | nil => rfl
  | cons x l ih => simp [ih]
theorem open_six (l : List Ru) (hol : List Int) (d : Int) (hc : checkF hol d = 0) : openF (sixU 6) l hol d = ((sixU 6).filter fun p => decide (lstF (sixU 6) l hol p.id d = 1)).map (·.id) := by
  have e : firstsF (sixU 6) = (sixU 6).map fun p => (p.id, p) := rfl
  have e2 : ((sixU 6).filter fun p => decide (lstF (sixU 6) l hol p.id d = 1)) = (sixU 6).filter fun p => decide (statusF p l hol d = 1) := by
    refine List.filter_congr fun p hp => ?_
    obtain ⟨k, hk⟩ := List.mem_iff_getElem?.1 hp
    rw [lst_of hc (six_facts k p hk).1]
  unfold openF
  rw [hc, if_neg (by simp), e2]
  have e3 : openIds l hol d (firstsF (sixU 6)) = ((sixU 6).filter fun p => decide (statusF p l hol d = 1)).map (·.id) := by
    rw [e]
    simp only [openIds, List.filter_map, List.map_map]
    rfl
  rw [e3]
  refine List.mergeSort_of_pairwise ?_
  have h1 : (sixU 6).Pairwise fun p q => decide (p.id ≤ q.id) = true := by decide
  exact (h1.filter _).map _ (fun a b h => h)
theorem six_none (t : Int) (h : t < 1 ∨ 6 < t) : findP (sixU 6) t = none := by
  have : ∀ p ∈ sixU 6, p.id ≠ t := by
    intro p hp
    obtain ⟨k, hk⟩ := List.mem_iff_getElem?.1 hp
    have h1 := (six_facts k p hk).2.2.1
    have h2 := (six_get k p hk).1
    omega
  revert this
  generalize sixU 6 = L
  intro h
  induction L with
  | nil => rfl
  | cons p L ih =>
    simp only [findP]
    rw [if_neg (h p List.mem_cons_self)]
    exact ih (fun q hq => h q (List.mem_cons_of_mem _ hq))
end Go.Proofs.Ytbejfbekamikpaa
namespace Go.Proofs.Ytbejfbekamikpaa
def wantF (pts : List Pt) (l : List Ru) (hol : List Int) (d : Int) : List Int := (pts.filter fun p => decide (lstF (sixU 6) l hol p.id d = 1)).map (·.id)
theorem wantF_len (pts : List Pt) (l : List Ru) (hol : List Int) (d : Int) : (wantF pts l hol d).length ≤ pts.length := by
  unfold wantF
  rw [List.length_map]
  exact List.length_filter_le _ _
theorem wantF_take (l : List Ru) (hol : List Int) (d : Int) (k : Nat) (p : Pt) (h : (sixU 6)[k]? = some p) : wantF ((sixU 6).take (k + 1)) l hol d = wantF ((sixU 6).take k) l hol d ++ (if lstF (sixU 6) l hol p.id d = 1 then [p.id] else []) := by
  unfold wantF
  rw [List.take_add_one, h, List.filter_append, List.map_append]
  congr 1
  simp only [Option.toList_some, List.filter_cons, List.filter_nil, decide_eq_true_eq]
  split <;> rfl
end Go.Proofs.Ytbejfbekamikpaa
