/-
  Numbers to the base 10000, the lowest digit first: plain facts.
-/
namespace Go.Proofs.Ytmlgheoliaplgaa
set_option linter.unusedVariables false
set_option linter.unusedSimpArgs false
def dgf : Nat → Nat → List Nat
  | 0, _ => []
  | f + 1, n => if n = 0 then [] else n % 10000 :: dgf f (n / 10000)
theorem dgf_eq : ∀ (f g n : Nat), n ≤ f → n ≤ g → dgf f n = dgf g n
  | 0, 0, n, _, _ => rfl
  | 0, g + 1, n, h, _ => by simp only [dgf]; rw [if_pos (by omega)]
  | f + 1, 0, n, _, h => by simp only [dgf]; rw [if_pos (by omega)]
  | f + 1, g + 1, n, h1, h2 => by
    simp only [dgf]
    split
    · rfl
    · rw [dgf_eq f g (n / 10000) (by omega) (by omega)]
def dg (n : Nat) : List Nat := dgf n n
theorem dg_zero : dg 0 = [] := rfl
theorem dg_pos {n : Nat} (h : 0 < n) : dg n = n % 10000 :: dg (n / 10000) := by
  unfold dg
  obtain ⟨m, rfl⟩ : ∃ m, n = m + 1 := ⟨n - 1, by omega⟩
  simp only [dgf]
  rw [if_neg (by omega), dgf_eq m ((m + 1) / 10000) _ (by omega) (Nat.le_refl _)]
theorem dg_ind {P : Nat → Prop} (h0 : P 0) (h1 : ∀ n, 0 < n → P (n / 10000) → P n) (n : Nat) : P n := by
  induction n using Nat.strongRecOn with
  | _ n ih =>
    rcases Nat.eq_zero_or_pos n with h | h
    · subst h; exact h0
    · exact h1 n h (ih _ (by omega))
def inD (l : List Nat) : Prop := ∀ x ∈ l, x < 10000
theorem dg_in (n : Nat) : inD (dg n) := by
  induction n using dg_ind with
  | h0 => intro x hx; cases hx
  | h1 n h ih =>
    rw [dg_pos h]
    intro x hx
    rcases List.mem_cons.1 hx with rfl | hx
    · omega
    · exact ih x hx
def vd : List Nat → Nat
  | [] => 0
  | x :: l => x + 10000 * vd l
theorem vd_dg (n : Nat) : vd (dg n) = n := by
  induction n using dg_ind with
  | h0 => rfl
  | h1 n h ih =>
    rw [dg_pos h]
    simp only [vd, ih]
    omega
theorem vd_app : ∀ (l m : List Nat), vd (l ++ m) = vd l + 10000 ^ l.length * vd m
  | [], m => by simp [vd]
  | x :: l, m => by
    simp only [List.cons_append, vd, vd_app l m, List.length_cons, Nat.pow_succ, Nat.mul_add]
    rw [Nat.mul_comm (10000 ^ l.length) 10000, Nat.mul_assoc]
    omega
theorem dg_drop (n : Nat) : ∀ i, (dg n).drop i = dg (n / 10000 ^ i)
  | 0 => by simp
  | i + 1 => by
    rcases Nat.eq_zero_or_pos n with h | h
    · subst h; simp [dg_zero]
    · rw [dg_pos h, List.drop_succ_cons, dg_drop (n / 10000) i, Nat.div_div_eq_div_mul, Nat.pow_succ, Nat.mul_comm]
theorem dg_nil {n : Nat} : dg n = [] ↔ n = 0 := by
  constructor
  · intro h
    rcases Nat.eq_zero_or_pos n with h1 | h1
    · exact h1
    · rw [dg_pos h1] at h
      cases h
  · intro h
    subst h
    rfl
theorem dg_len (n k : Nat) : (dg n).length ≤ k ↔ n < 10000 ^ k := by
  have h1 : (dg n).length ≤ k ↔ (dg n).drop k = [] := by rw [List.drop_eq_nil_iff]
  rw [h1, dg_drop, dg_nil, Nat.div_eq_zero_iff]
  have : 0 < 10000 ^ k := Nat.pow_pos (by omega)
  omega
theorem dg_lt {n i : Nat} : i < (dg n).length ↔ 0 < n / 10000 ^ i := by
  have h1 := dg_len n i
  have h3 : 0 < 10000 ^ i := Nat.pow_pos (by omega)
  have h2 : n / 10000 ^ i = 0 ↔ n < 10000 ^ i := by rw [Nat.div_eq_zero_iff]; omega
  generalize n / 10000 ^ i = q at *
  omega
theorem dg_get {n i : Nat} (h : i < (dg n).length) : (dg n)[i]? = some (n / 10000 ^ i % 10000) := by
  have h1 := dg_drop n i
  have h2 : ((dg n).drop i)[0]? = (dg n)[i]? := by rw [List.getElem?_drop, Nat.add_zero]
  rw [← h2, h1, dg_pos (dg_lt.1 h)]
  rfl
theorem div_next (n i : Nat) : n / 10000 ^ (i + 1) = n / 10000 ^ i / 10000 := by rw [Nat.pow_succ, Nat.div_div_eq_div_mul]
theorem dg_le {a b : Nat} (h : a ≤ b) : (dg a).length ≤ (dg b).length := by
  rw [dg_len]
  have := (dg_len b (dg b).length).1 (Nat.le_refl _)
  omega
/-- One digit of a sum. -/
theorem dg_add {x y c : Nat} (h : 0 < x + y + c) : dg (x + y + c) = (x % 10000 + y % 10000 + c) % 10000 :: dg (x / 10000 + y / 10000 + (x % 10000 + y % 10000 + c) / 10000) := by
  rw [dg_pos h]
  congr 1
  · omega
  · congr 1
    omega
def trimD (l : List Nat) : List Nat := (l.reverse.dropWhile fun x => decide (x = 0)).reverse
theorem trimD_nil : trimD [] = [] := rfl
theorem trimD_zero (l : List Nat) : trimD (l ++ [0]) = trimD l := by simp [trimD]
theorem trimD_keep (l : List Nat) (x : Nat) (h : x ≠ 0) : trimD (l ++ [x]) = l ++ [x] := by simp [trimD, List.dropWhile_cons, h]
theorem dg_vd : ∀ (l : List Nat), inD l → (∀ x, l.getLast? = some x → x ≠ 0) → dg (vd l) = l
  | [], _, _ => rfl
  | [x], h, hl => by
    have h1 := hl x rfl
    have h2 := h x List.mem_cons_self
    simp only [vd]
    rw [dg_pos (by omega)]
    congr 1
    · omega
    · rw [dg_nil]; omega
  | x :: y :: l, h, hl => by
    have ih := dg_vd (y :: l) (fun z hz => h z (List.mem_cons_of_mem _ hz)) (fun z hz => hl z (by rw [List.getLast?_cons_cons]; exact hz))
    have h2 := h x List.mem_cons_self
    have h3 : 0 < vd (y :: l) := by
      rcases Nat.eq_zero_or_pos (vd (y :: l)) with h4 | h4
      · rw [h4] at ih; cases ih
      · exact h4
    rw [vd, dg_pos (by omega)]
    congr 1
    · omega
    · rw [show (x + 10000 * vd (y :: l)) / 10000 = vd (y :: l) by omega]
      exact ih
theorem rev_ind {P : List Nat → Prop} (h0 : P []) (h1 : ∀ l x, P l → P (l ++ [x])) (l : List Nat) : P l := by
  have : ∀ n l, l.length = n → P l := by
    intro n
    induction n with
    | zero => intro l hl; rw [List.length_eq_zero_iff.1 hl]; exact h0
    | succ n ih =>
      intro l hl
      have hne : l ≠ [] := by intro e; subst e; simp at hl
      rw [← List.dropLast_concat_getLast hne]
      exact h1 _ _ (ih _ (by simp [hl]))
  exact this _ l rfl
theorem trimD_dg (l : List Nat) : inD l → trimD l = dg (vd l) := by
  induction l using rev_ind with
  | h0 => intro _; rfl
  | h1 l x ih =>
    intro h
    have hl : inD l := fun y hy => h y (List.mem_append_left _ hy)
    by_cases hx : x = 0
    · subst hx
      rw [trimD_zero, ih hl, vd_app]
      simp [vd]
    · rw [trimD_keep _ _ hx, dg_vd _ h (fun y hy => by rw [List.getLast?_concat] at hy; injection hy with hy; omega)]
theorem trimD_self (n : Nat) : trimD (dg n) = dg n := by rw [trimD_dg _ (dg_in n), vd_dg]
theorem trimD_le (l : List Nat) : (trimD l).length ≤ l.length := by
  induction l using rev_ind with
  | h0 => simp [trimD]
  | h1 l x ih =>
    by_cases hx : x = 0
    · subst hx; rw [trimD_zero]; simp; omega
    · rw [trimD_keep _ _ hx]; exact Nat.le_refl _
theorem trimD_take (l : List Nat) : trimD l = l.take (trimD l).length := by
  induction l using rev_ind with
  | h0 => simp [trimD]
  | h1 l x ih =>
    by_cases hx : x = 0
    · subst hx
      rw [trimD_zero, List.take_append_of_le_length (trimD_le l)]
      exact ih
    · rw [trimD_keep _ _ hx, List.take_of_length_le (Nat.le_refl _)]
/-- One digit of a product. -/
theorem vd_times {o : List Nat} {x y c p : Nat} (h : vd o + 10000 ^ o.length * (x * y + c) = p) : vd (o ++ [(c + x % 10000 * y) % 10000]) + 10000 ^ (o.length + 1) * (x / 10000 * y + (c + x % 10000 * y) / 10000) = p := by
  rw [vd_app, ← h, Nat.pow_succ, Nat.mul_assoc, Nat.add_assoc, ← Nat.mul_add]
  congr 2
  simp only [vd, Nat.mul_zero, Nat.add_zero]
  have e1 : x * y = 10000 * (x / 10000 * y) + x % 10000 * y := by
    rw [← Nat.mul_assoc, ← Nat.add_mul, Nat.div_add_mod]
  rw [e1, Nat.mul_add]
  generalize x / 10000 * y = A
  generalize x % 10000 * y = B
  omega
end Go.Proofs.Ytmlgheoliaplgaa
