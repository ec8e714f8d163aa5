/-
  Natural numbers as limbs: plain facts.
-/
namespace Go.Proofs.Ytmlgheoliaplgaa
set_option linter.unusedVariables false
set_option linter.unusedSimpArgs false
set_option linter.unusedVariables false
def vl : List Int → Int
  | [] => 0
  | x :: l => x + 4294967296 * vl l
def inB (l : List Int) : Prop := ∀ x ∈ l, 0 ≤ x ∧ x < 4294967296
def lmb : Nat → Nat → List Int
  | 0, _ => []
  | f + 1, v => if v = 0 then [] else ((v % 4294967296 : Nat) : Int) :: lmb f (v / 4294967296)
def limbs (v : Nat) : List Int := lmb v v
def canon (l : List Int) : Prop := l.getLast? ≠ some 0
theorem inB_nil : inB [] := fun x h => by cases h
theorem inB_cons {x : Int} {l : List Int} : inB (x :: l) ↔ (0 ≤ x ∧ x < 4294967296) ∧ inB l := by
  simp [inB]
theorem inB_app {l m : List Int} : inB (l ++ m) ↔ inB l ∧ inB m := by
  constructor
  · exact fun h => ⟨fun x hx => h x (List.mem_append_left _ hx), fun x hx => h x (List.mem_append_right _ hx)⟩
  · exact fun h x hx => (List.mem_append.1 hx).elim (h.1 x) (h.2 x)
theorem inB_take {l : List Int} (h : inB l) (k : Nat) : inB (l.take k) := fun x hx => h x (List.mem_of_mem_take hx)
theorem inB_drop {l : List Int} (h : inB l) (k : Nat) : inB (l.drop k) := fun x hx => h x (List.mem_of_mem_drop hx)
theorem inB_get {l : List Int} (h : inB l) {i : Nat} {x : Int} (hx : l[i]? = some x) : 0 ≤ x ∧ x < 4294967296 := h x (List.mem_of_getElem? hx)
theorem vl_nonneg : ∀ {l : List Int}, inB l → 0 ≤ vl l
  | [], _ => by simp [vl]
  | x :: l, h => by
    have h1 := (inB_cons.1 h).1
    have h2 := vl_nonneg (inB_cons.1 h).2
    simp only [vl]; omega
theorem vl_app : ∀ (l m : List Int), vl (l ++ m) = vl l + 4294967296 ^ l.length * vl m
  | [], m => by simp [vl]
  | x :: l, m => by
    simp only [List.cons_append, vl, vl_app l m, List.length_cons, Int.pow_succ]
    rw [Int.mul_add, Int.mul_comm (4294967296 ^ l.length) 4294967296, Int.mul_assoc]
    omega
theorem vl_lt : ∀ {l : List Int}, inB l → vl l < 4294967296 ^ l.length
  | [], _ => by simp [vl]
  | x :: l, h => by
    have h1 := (inB_cons.1 h).1
    have h2 := vl_lt (inB_cons.1 h).2
    simp only [vl, List.length_cons, Int.pow_succ]
    omega
theorem vl_zeros (n : Nat) : vl (List.replicate n 0) = 0 := by
  induction n with
  | zero => rfl
  | succ n ih => simp [List.replicate_succ, vl, ih]
theorem canon_tail {x y : Int} {l : List Int} (h : canon (x :: y :: l)) : canon (y :: l) := by
  unfold canon at *
  rwa [List.getLast?_cons_cons] at h
theorem canon_pos : ∀ {l : List Int}, inB l → canon l → l ≠ [] → 0 < vl l
  | [], _, _, h => absurd rfl h
  | [x], h, hc, _ => by
    have h1 := (inB_cons.1 h).1
    have : x ≠ 0 := fun e => hc (by simp [e])
    simp only [vl]; omega
  | x :: y :: l, h, hc, _ => by
    have h1 := (inB_cons.1 h).1
    have h2 := canon_pos (inB_cons.1 h).2 (canon_tail hc) (by simp)
    rw [vl]; omega
theorem lmb_spec : ∀ (f v : Nat), v ≤ f → vl (lmb f v) = v ∧ inB (lmb f v) ∧ canon (lmb f v) ∧ (v = 0 ↔ lmb f v = [])
  | 0, v, h => by
    have : v = 0 := by omega
    subst this
    simp [lmb, vl, inB, canon]
  | f + 1, v, h => by
    unfold lmb
    by_cases hv : v = 0
    · subst hv
      simp [vl, inB, canon]
    · rw [if_neg hv]
      obtain ⟨h1, h2, h3, h4⟩ := lmb_spec f (v / 4294967296) (by omega)
      refine ⟨?_, inB_cons.2 ⟨by omega, h2⟩, ?_, by simp [hv]⟩
      · simp only [vl, h1]; omega
      · cases hl : lmb f (v / 4294967296) with
        | nil =>
          have : v / 4294967296 = 0 := h4.2 hl
          intro hc
          simp at hc
          omega
        | cons y l =>
          rw [hl] at h3
          unfold canon at *
          rw [List.getLast?_cons_cons]
          exact h3
theorem limbs_vl (v : Nat) : vl (limbs v) = v := (lmb_spec v v (Nat.le_refl _)).1
theorem limbs_in (v : Nat) : inB (limbs v) := (lmb_spec v v (Nat.le_refl _)).2.1
theorem limbs_canon (v : Nat) : canon (limbs v) := (lmb_spec v v (Nat.le_refl _)).2.2.1
theorem limbs_nil (v : Nat) : limbs v = [] ↔ v = 0 := (lmb_spec v v (Nat.le_refl _)).2.2.2.symm
theorem vl_inj : ∀ {l m : List Int}, inB l → canon l → inB m → canon m → vl l = vl m → l = m
  | [], [], _, _, _, _, _ => rfl
  | [], y :: m, _, _, hm, cm, h => by have := canon_pos hm cm (by simp); simp [vl] at h; simp only [vl] at this; omega
  | x :: l, [], hl, cl, _, _, h => by have := canon_pos hl cl (by simp); simp [vl] at h; simp only [vl] at this; omega
  | x :: l, y :: m, hl, cl, hm, cm, h => by
    have h1 := (inB_cons.1 hl).1
    have h2 := (inB_cons.1 hm).1
    have h3 := vl_nonneg (inB_cons.1 hl).2
    have h4 := vl_nonneg (inB_cons.1 hm).2
    simp only [vl] at h
    have e1 : x = y := by omega
    have e2 : vl l = vl m := by omega
    have c1 : canon l := by
      cases l with
      | nil => simp [canon]
      | cons a l => exact canon_tail cl
    have c2 : canon m := by
      cases m with
      | nil => simp [canon]
      | cons a m => exact canon_tail cm
    rw [e1, vl_inj (inB_cons.1 hl).2 c1 (inB_cons.1 hm).2 c2 e2]
theorem limbs_of {l : List Int} (h : inB l) (hc : canon l) {v : Nat} (hv : vl l = v) : l = limbs v :=
  vl_inj h hc (limbs_in v) (limbs_canon v) (by rw [limbs_vl]; exact hv)
theorem canon_len {l : List Int} (h : inB l) (hc : canon l) {k : Nat} (hv : vl l < 4294967296 ^ k) : l.length ≤ k := by
  rcases Nat.lt_or_ge k l.length with h1 | h1
  · exfalso
    have e : l = l.take k ++ l.drop k := (List.take_append_drop k l).symm
    have hd : l.drop k ≠ [] := by simp; omega
    have hcd : canon (l.drop k) := by
      unfold canon at *
      rw [e, List.getLast?_append] at hc
      intro hcc
      rw [hcc] at hc
      exact hc rfl
    have h2 := canon_pos (inB_drop h k) hcd hd
    have h3 := vl_nonneg (inB_take h k)
    have h4 : vl l = vl (l.take k) + 4294967296 ^ k * vl (l.drop k) := by
      have := vl_app (l.take k) (l.drop k)
      rw [List.take_append_drop, List.length_take, Nat.min_eq_left (Nat.le_of_lt h1)] at this
      exact this
    have h5 : (4294967296 : Int) ^ k * 1 ≤ 4294967296 ^ k * vl (l.drop k) := Int.mul_le_mul_of_nonneg_left (by omega) (Int.pow_nonneg (by omega))
    omega
  · exact h1
theorem limbs_len {v k : Nat} (h : v < 4294967296 ^ k) : (limbs v).length ≤ k := by
  refine canon_len (limbs_in v) (limbs_canon v) ?_
  rw [limbs_vl]
  have : ((4294967296 ^ k : Nat) : Int) = (4294967296 : Int) ^ k := by rw [Int.natCast_pow]; rfl
  rw [← this]
  exact Int.ofNat_lt.2 h
def trimL (l : List Int) : List Int := (l.reverse.dropWhile fun x => decide (x = 0)).reverse
theorem trim_zero (l : List Int) : trimL (l ++ [0]) = trimL l := by simp [trimL]
theorem trim_keep (l : List Int) (x : Int) (h : x ≠ 0) : trimL (l ++ [x]) = l ++ [x] := by simp [trimL, List.dropWhile_cons, h]
theorem trim_ind {p : List Int → Prop} (h0 : p []) (h1 : ∀ l, p l → p (l ++ [0])) (h2 : ∀ l x, x ≠ 0 → p (l ++ [x])) : ∀ l, p l := by
  intro l
  have : ∀ n (l : List Int), l.length = n → p l := by
    intro n
    induction n with
    | zero => intro l hl; rw [List.length_eq_zero_iff.1 hl]; exact h0
    | succ n ih =>
      intro l hl
      have hne : l ≠ [] := by intro e; rw [e] at hl; simp at hl
      rw [← List.dropLast_concat_getLast hne]
      by_cases hx : l.getLast hne = 0
      · rw [hx]; exact h1 _ (ih _ (by simp; omega))
      · exact h2 _ _ hx
  exact this l.length l rfl
theorem trim_spec : ∀ (l : List Int), inB l → inB (trimL l) ∧ canon (trimL l) ∧ vl (trimL l) = vl l := by
  refine trim_ind ?_ ?_ ?_
  · intro _
    exact ⟨inB_nil, by simp [trimL, canon], rfl⟩
  · intro l ih h
    obtain ⟨a, b, c⟩ := ih (inB_app.1 h).1
    rw [trim_zero]
    refine ⟨a, b, ?_⟩
    rw [c, vl_app]
    simp [vl]
  · intro l x hx h
    rw [trim_keep l x hx]
    refine ⟨h, ?_, rfl⟩
    simp [canon, hx]
theorem trim_take : ∀ (l : List Int), trimL l = l.take (trimL l).length ∧ (trimL l).length ≤ l.length := by
  refine trim_ind (by simp [trimL]) ?_ ?_
  · intro l ih
    rw [trim_zero]
    refine ⟨?_, by have := ih.2; simp; omega⟩
    rw [List.take_append_of_le_length ih.2]
    exact ih.1
  · intro l x hx
    rw [trim_keep l x hx, List.take_of_length_le (Nat.le_refl _)]
    exact ⟨rfl, Nat.le_refl _⟩
theorem trim_limbs {l : List Int} (h : inB l) {v : Nat} (hv : vl l = v) : trimL l = limbs v := by
  obtain ⟨a, b, c⟩ := trim_spec l h
  exact limbs_of a b (c.trans hv)
theorem limbs_le {a b : Nat} (h : a ≤ b) : (limbs a).length ≤ (limbs b).length := by
  refine canon_len (limbs_in a) (limbs_canon a) ?_
  have := vl_lt (limbs_in b)
  rw [limbs_vl] at this ⊢
  omega
theorem limbs_one {v : Nat} (h0 : 0 < v) (h : v < 4294967296) : limbs v = [(v : Int)] := by
  refine (limbs_of (inB_cons.2 ⟨by omega, inB_nil⟩) ?_ ?_).symm
  · simp [canon]; omega
  · simp [vl]
/-- comparison -/
def sgn (a b : Int) : Int := if a < b then -1 else if b < a then 1 else 0
theorem vl_split {l : List Int} {k : Nat} {x : Int} (h : l[k]? = some x) : vl l = vl (l.take k) + 4294967296 ^ k * (x + 4294967296 * vl (l.drop (k + 1))) := by
  have hk := (List.getElem?_eq_some_iff.1 h).1
  have h1 := vl_app (l.take k) (l.drop k)
  rw [List.take_append_drop, List.length_take, Nat.min_eq_left (Nat.le_of_lt hk), List.drop_eq_getElem_cons hk] at h1
  rw [h1]
  rw [List.getElem?_eq_getElem hk] at h
  injection h with h
  rw [h]
  rfl
theorem cmp_at {l m : List Int} (hl : inB l) (hm : inB m) {k : Nat} {x y : Int} (hx : l[k]? = some x) (hy : m[k]? = some y) (hd : l.drop (k + 1) = m.drop (k + 1)) (h : x < y) : vl l < vl m := by
  rw [vl_split hx, vl_split hy, hd]
  have h1 := vl_lt (inB_take hl k)
  have hk := (List.getElem?_eq_some_iff.1 hx).1
  rw [List.length_take, Nat.min_eq_left (Nat.le_of_lt hk)] at h1
  have h2 := vl_nonneg (inB_take hm k)
  generalize vl (m.drop (k + 1)) = d
  have h3 : (4294967296 : Int) ^ k * (x + 4294967296 * d + 1) ≤ 4294967296 ^ k * (y + 4294967296 * d) := Int.mul_le_mul_of_nonneg_left (by omega) (Int.pow_nonneg (by omega))
  rw [Int.mul_add, Int.mul_one] at h3
  omega
theorem len_lt {l m : List Int} (hl : inB l) (hm : inB m) (hc : canon m) (h : l.length < m.length) : vl l < vl m := by
  rcases Int.lt_or_le (vl l) (vl m) with h1 | h1
  · exact h1
  · exfalso
    have := canon_len hm hc (k := l.length) (Int.lt_of_le_of_lt h1 (vl_lt hl))
    omega
end Go.Proofs.Ytmlgheoliaplgaa
namespace Go.Proofs.Ytmlgheoliaplgaa
def gt (l : List Int) (i : Nat) : Int := (l[i]?).getD 0
theorem gt_in {l : List Int} (h : inB l) (i : Nat) : 0 ≤ gt l i ∧ gt l i < 4294967296 := by
  unfold gt
  cases hx : l[i]? with
  | none => simp
  | some x => exact inB_get h hx
theorem vl_take (l : List Int) (i : Nat) : vl (l.take (i + 1)) = vl (l.take i) + 4294967296 ^ i * gt l i := by
  unfold gt
  rw [List.take_add_one]
  cases hx : l[i]? with
  | none => simp
  | some x =>
    have hi := (List.getElem?_eq_some_iff.1 hx).1
    rw [vl_app, List.length_take, Nat.min_eq_left (Nat.le_of_lt hi)]
    simp [vl]
theorem set_take {l : List Int} {i : Nat} {s : Int} (h : i < l.length) : (l.set i s).take (i + 1) = l.take i ++ [s] := by
  rw [List.take_add_one, List.getElem?_set_self h]
  rw [List.take_set_of_le (Nat.le_refl i)]
  rfl
theorem inB_set {l : List Int} (h : inB l) {i : Nat} {s : Int} (hs : 0 ≤ s ∧ s < 4294967296) : inB (l.set i s) := fun x hx => by
  rcases List.mem_or_eq_of_mem_set hx with h1 | h1
  · exact h x h1
  · rw [h1]; exact hs
theorem inB_zeros (n : Nat) : inB (List.replicate n 0) := fun x hx => by rw [List.eq_of_mem_replicate hx]; omega
theorem add_step {T a b : List Int} {i : Nat} {z : Int} (hi : i < T.length) (h : vl (T.take i) + z * 4294967296 ^ i = vl (a.take i) + vl (b.take i)) :
    vl ((T.set i ((gt a i + gt b i + z) % 4294967296)).take (i + 1)) + (gt a i + gt b i + z) / 4294967296 * 4294967296 ^ (i + 1) = vl (a.take (i + 1)) + vl (b.take (i + 1)) := by
  rw [set_take hi, vl_app, vl_take, vl_take, List.length_take, Nat.min_eq_left (Nat.le_of_lt hi)]
  simp only [vl, Int.mul_zero, Int.add_zero]
  generalize gt a i = x at *
  generalize gt b i = y at *
  have e1 : (x + y + z) % 4294967296 + 4294967296 * ((x + y + z) / 4294967296) = x + y + z := Int.emod_add_mul_ediv _ _
  have e2 : 4294967296 ^ i * ((x + y + z) % 4294967296) + (x + y + z) / 4294967296 * 4294967296 ^ (i + 1) = 4294967296 ^ i * (x + y + z) := by
    rw [Int.pow_succ, Int.mul_comm ((x + y + z) / 4294967296), Int.mul_assoc, ← Int.mul_add, e1]
  rw [Int.mul_add, Int.mul_add, Int.mul_comm _ z] at e2
  omega
theorem B_le {m n : Nat} (h : m ≤ n) : (4294967296 : Int) ^ m ≤ 4294967296 ^ n := by
  have := Nat.pow_le_pow_right (n := 4294967296) (by omega) h
  have h2 := Int.ofNat_le.2 this
  rw [Int.natCast_pow, Int.natCast_pow] at h2
  exact h2
theorem vl_set : ∀ (l : List Int) (k : Nat) (s t : Int), l[k]? = some t → vl (l.set k s) = vl l + (s - t) * 4294967296 ^ k
  | x :: l, 0, s, t, h => by
    simp at h
    subst h
    simp [vl]
    omega
  | x :: l, k + 1, s, t, h => by
    simp at h
    have := vl_set l k s t h
    simp only [List.set_cons_succ, vl, this, Int.pow_succ]
    generalize (4294967296 : Int) ^ k = Q
    have e : 4294967296 * ((s - t) * Q) = (s - t) * (Q * 4294967296) := by rw [Int.mul_comm 4294967296, Int.mul_assoc]
    rw [Int.mul_add, e]
    omega
theorem mul_in {x y : Int} (hx : 0 ≤ x ∧ x < 4294967296) (hy : 0 ≤ y ∧ y < 4294967296) : 0 ≤ x * y ∧ x * y ≤ 18446744065119617025 := by
  refine ⟨Int.mul_nonneg hx.1 hy.1, ?_⟩
  have h1 : x * y ≤ 4294967295 * y := Int.mul_le_mul_of_nonneg_right (by omega) hy.1
  omega
theorem mul_step {T q : List Int} {i j K : Nat} {x t z P : Int} (ht : T[i + j]? = some t) (hK : i + j < K) (h : vl (T.take K) + z * 4294967296 ^ (i + j) = P + x * 4294967296 ^ i * vl (q.take j)) :
    vl ((T.set (i + j) ((x * gt q j + t + z) % 4294967296)).take K) + (x * gt q j + t + z) / 4294967296 * 4294967296 ^ (i + j + 1) = P + x * 4294967296 ^ i * vl (q.take (j + 1)) := by
  have ht' : (T.take K)[i + j]? = some t := by rw [List.getElem?_take, if_pos hK, ht]
  rw [List.take_set, vl_set _ _ _ _ ht', vl_take]
  generalize gt q j = y at *
  generalize vl (T.take K) = V at *
  generalize vl (q.take j) = Q at *
  have e1 : (x * y + t + z) % 4294967296 + 4294967296 * ((x * y + t + z) / 4294967296) = x * y + t + z := Int.emod_add_mul_ediv _ _
  generalize (x * y + t + z) % 4294967296 = r at *
  generalize (x * y + t + z) / 4294967296 = d at *
  have e2 : (4294967296 : Int) ^ (i + j + 1) = 4294967296 ^ (i + j) * 4294967296 := Int.pow_succ _ _
  have e3 : (4294967296 : Int) ^ (i + j) = 4294967296 ^ i * 4294967296 ^ j := Int.pow_add _ _ _
  have e4 : x * 4294967296 ^ i * (Q + 4294967296 ^ j * y) = x * 4294967296 ^ i * Q + x * y * 4294967296 ^ (i + j) := by
    rw [Int.mul_add, e3]
    congr 1
    rw [Int.mul_assoc, Int.mul_assoc, Int.mul_comm y, ← Int.mul_assoc (4294967296 ^ i)]
  rw [e4, e2]
  generalize (4294967296 : Int) ^ (i + j) = B at *
  have e5 : (r - t) * B + d * (B * 4294967296) = (x * y + z) * B := by
    have : r = x * y + t + z - 4294967296 * d := by omega
    rw [this]
    rw [show d * (B * 4294967296) = (4294967296 * d) * B by rw [Int.mul_comm B, ← Int.mul_assoc, Int.mul_comm d], ← Int.add_mul]
    congr 1
    omega
  rw [Int.add_mul] at e5
  omega
theorem mul_row {T p q : List Int} {i m : Nat} {z : Int} (hT : i + m < T.length) (h : vl (T.take (i + m)) + z * 4294967296 ^ (i + m) = vl (p.take i) * vl q + gt p i * 4294967296 ^ i * vl q) :
    vl ((T.set (i + m) z).take (i + 1 + m)) = vl (p.take (i + 1)) * vl q := by
  rw [show i + 1 + m = i + m + 1 by omega, set_take hT, vl_app, vl_take, List.length_take, Nat.min_eq_left (Nat.le_of_lt hT)]
  simp only [vl, Int.mul_zero, Int.add_zero]
  rw [Int.add_mul, Int.mul_comm (4294967296 ^ i) (gt p i), Int.mul_comm _ z]
  exact h
theorem div_step {T p : List Int} {n j : Nat} {x r : Int} {y : Nat} (hT : T.length = n) (hp : p.length = n) (hx : T[j]? = some x) (hy : 0 < y) (hr : 0 ≤ r ∧ r < y) (htk : T.take (j + 1) = p.take (j + 1))
    (hv : vl (T.drop (j + 1)) * y + r = vl (p.drop (j + 1))) (hxb : 0 ≤ x ∧ x < 4294967296) :
    (0 ≤ (r * 4294967296 + x) / y ∧ (r * 4294967296 + x) / y < 4294967296) ∧ (0 ≤ (r * 4294967296 + x) % y ∧ (r * 4294967296 + x) % y < y) ∧
    vl ((T.set j ((r * 4294967296 + x) / y)).drop j) * y + (r * 4294967296 + x) % y = vl (p.drop j) := by
  have hj := (List.getElem?_eq_some_iff.1 hx).1
  have hpx : p[j]? = some x := by
    have h1 := congrArg (fun l => l[j]?) htk
    simp only [List.getElem?_take, Nat.lt_succ_self, if_pos] at h1
    rw [← h1, hx]
  have d1 : p.drop j = x :: p.drop (j + 1) := by
    rw [List.drop_eq_getElem_cons (by omega)]
    rw [List.getElem?_eq_getElem (by omega)] at hpx
    injection hpx with hpx
    rw [hpx]
  have d2 : ∀ s, (T.set j s).drop j = s :: T.drop (j + 1) := fun s => by
    rw [List.drop_eq_getElem_cons (by simpa using hj), List.drop_set_of_lt (Nat.lt_succ_self j)]
    simp
  refine ⟨⟨Int.ediv_nonneg (by omega) (by omega), Int.ediv_lt_of_lt_mul (by omega) ?_⟩, ⟨Int.emod_nonneg _ (by omega), Int.emod_lt_of_pos _ (by omega)⟩, ?_⟩
  · have : (r + 1) * 4294967296 ≤ y * 4294967296 := Int.mul_le_mul_of_nonneg_right (by omega) (by omega)
    omega
  · rw [d1, d2]
    simp only [vl]
    rw [← hv, Int.add_mul, Int.mul_assoc]
    generalize hD : r * 4294967296 + x = D at *
    have e := Int.emod_add_mul_ediv D y
    rw [Int.mul_comm (y : Int) (D / y)] at e
    generalize D / (y : Int) * y = A at *
    generalize D % (y : Int) = M at *
    generalize vl (T.drop (j + 1)) * (y : Int) = B at *
    omega
end Go.Proofs.Ytmlgheoliaplgaa
