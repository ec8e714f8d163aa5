/-
  In one text: Pb2, Pb3.
-/
import Derived.Test.YthbchbiadcjnkaaPb1
/-
  Overfull intervals, as the program looks for them. No program in sight.
-/
namespace Go.Proofs.Ythbchbiadcjnkaa
def supI (shifts : List Sf) (a b : Int) : Int := shifts.foldl (fun s x => s + max 0 (min b x.to - max a x.frm)) 0
def accD (P : List Jb) (d : Int) : Int := (P.map fun x => if x.due ≤ d then x.mn else 0).sum
def needI (P : List Jb) (r d : Int) : Int := (P.map fun x => if r ≤ x.rel ∧ x.due ≤ d then x.mn else 0).sum
def exG (shifts : List Sf) (d : Int) : Int → List Jb → Option Int
  | _, [] => none
  | acc, x :: l => if d < x.due then exG shifts d acc l else if supI shifts x.rel d < acc + x.mn then some x.rel else exG shifts d (acc + x.mn) l
theorem accD_snoc (P : List Jb) (x : Jb) (d : Int) : accD (P ++ [x]) d = accD P d + if x.due ≤ d then x.mn else 0 := by unfold accD; simp
theorem needI_app (P L : List Jb) (r d : Int) : needI (P ++ L) r d = needI P r d + needI L r d := by unfold needI; simp
theorem needI_cons (x : Jb) (L : List Jb) (r d : Int) : needI (x :: L) r d = (if r ≤ x.rel ∧ x.due ≤ d then x.mn else 0) + needI L r d := by unfold needI; simp
theorem needI_all {P : List Jb} {r d : Int} (h : ∀ x ∈ P, r ≤ x.rel) : needI P r d = accD P d := by
  unfold needI accD
  congr 1
  refine List.map_congr_left fun x hx => ?_
  have := h x hx
  by_cases hd : x.due ≤ d
  · rw [if_pos ⟨this, hd⟩, if_pos hd]
  · rw [if_neg (fun h => hd h.2), if_neg hd]
theorem needI_none {P : List Jb} {r d : Int} (h : ∀ x ∈ P, x.due ≤ d → x.rel < r) : needI P r d = 0 := by
  induction P with
  | nil => rfl
  | cons x P ih =>
    rw [needI_cons, ih fun y hy => h y (List.mem_cons_of_mem _ hy), if_neg]
    · omega
    · rintro ⟨h1, h2⟩
      have := h x List.mem_cons_self h2
      omega
theorem needI_nonneg {P : List Jb} {r d : Int} (h : ∀ x ∈ P, 0 ≤ x.mn) : 0 ≤ needI P r d := by
  induction P with
  | nil => exact Int.le_refl _
  | cons x P ih =>
    rw [needI_cons]
    have := ih fun y hy => h y (List.mem_cons_of_mem _ hy)
    have := h x List.mem_cons_self
    split <;> omega
theorem needI_perm {P Q : List Jb} (h : P.Perm Q) (r d : Int) : needI P r d = needI Q r d := by
  induction h with
  | nil => rfl
  | cons x _ ih => rw [needI_cons, needI_cons, ih]
  | swap x y l => rw [needI_cons, needI_cons, needI_cons, needI_cons]; omega
  | trans _ _ ih1 ih2 => rw [ih1, ih2]
/-- What a search finds. -/
def Found (shifts : List Sf) (R : List Jb) (d : Int) : Option Int → Prop
  | none => ∀ y ∈ R, y.due ≤ d → needI R y.rel d ≤ supI shifts y.rel d
  | some r => (∃ x ∈ R, x.rel = r ∧ x.due ≤ d) ∧ supI shifts r d < needI R r d ∧ ∀ y ∈ R, y.due ≤ d → supI shifts y.rel d < needI R y.rel d → y.rel ≤ r
theorem ex_key (shifts : List Sf) (d : Int) : ∀ (L P : List Jb), (P ++ L).Pairwise (fun x y => y.rel ≤ x.rel) → (∀ x ∈ P ++ L, 0 ≤ x.mn) →
    (∀ y ∈ P, y.due ≤ d → needI (P ++ L) y.rel d ≤ supI shifts y.rel d ∨ ∃ z ∈ L, z.rel = y.rel ∧ z.due ≤ d) → Found shifts (P ++ L) d (exG shifts d (accD P d) L)
  | [], P, _, _, hP => by
    intro y hy hd
    rw [List.append_nil] at hy
    rcases hP y hy hd with h | ⟨z, hz, _⟩
    · exact h
    · cases hz
  | x :: L, P, hs, hm, hP => by
    have e : P ++ x :: L = (P ++ [x]) ++ L := by simp
    obtain ⟨_, hsL, hsPL⟩ := List.pairwise_append.1 hs
    obtain ⟨hsx, _⟩ := List.pairwise_cons.1 hsL
    unfold exG
    by_cases hd : d < x.due
    · rw [if_pos hd]
      have ih := ex_key shifts d L (P ++ [x]) (by rw [← e]; exact hs) (by rw [← e]; exact hm) (fun y hy hyd => by
        rcases List.mem_append.1 hy with hy | hy
        · rw [← e]
          rcases hP y hy hyd with h | ⟨z, hz, h1, h2⟩
          · exact .inl h
          · rcases List.mem_cons.1 hz with rfl | hz
            · omega
            · exact .inr ⟨z, hz, h1, h2⟩
        · rw [List.mem_singleton] at hy
          subst hy
          omega)
      rw [accD_snoc, if_neg (by omega), Int.add_zero, ← e] at ih
      exact ih
    · rw [if_neg hd]
      have hneed : accD P d + x.mn ≤ needI (P ++ x :: L) x.rel d ∧ ((∀ z ∈ L, z.due ≤ d → z.rel < x.rel) → needI (P ++ x :: L) x.rel d = accD P d + x.mn) := by
        rw [needI_app, needI_cons, needI_all (fun z hz => hsPL z hz x List.mem_cons_self), if_pos ⟨Int.le_refl _, by omega⟩]
        refine ⟨?_, fun h => ?_⟩
        · have := needI_nonneg (P := L) (r := x.rel) (d := d) fun y hy => hm y (List.mem_append.2 (.inr (List.mem_cons_of_mem _ hy)))
          omega
        · rw [needI_none h]
          omega
      by_cases ht : supI shifts x.rel d < accD P d + x.mn
      · rw [if_pos ht]
        refine ⟨⟨x, List.mem_append.2 (.inr List.mem_cons_self), rfl, by omega⟩, by omega, fun y hy hyd ho => ?_⟩
        rcases List.mem_append.1 hy with hy | hy
        · rcases hP y hy hyd with h | ⟨z, hz, h1, _⟩
          · omega
          · rcases List.mem_cons.1 hz with rfl | hz
            · omega
            · have := hsx z hz
              omega
        · rcases List.mem_cons.1 hy with rfl | hy
          · exact Int.le_refl _
          · exact hsx y hy
      · rw [if_neg ht]
        have hx : needI (P ++ x :: L) x.rel d ≤ supI shifts x.rel d ∨ ∃ z ∈ L, z.rel = x.rel ∧ z.due ≤ d := by
          by_cases hz : ∃ z ∈ L, z.rel = x.rel ∧ z.due ≤ d
          · exact .inr hz
          · left
            rw [hneed.2 fun z hzL hzd => ?_]
            · omega
            · have h1 := hsx z hzL
              have h2 : z.rel ≠ x.rel := fun h => hz ⟨z, hzL, h, hzd⟩
              omega
        have ih := ex_key shifts d L (P ++ [x]) (by rw [← e]; exact hs) (by rw [← e]; exact hm) (fun y hy hyd => by
          rw [← e]
          rcases List.mem_append.1 hy with hy | hy
          · rcases hP y hy hyd with h | ⟨z, hz, h1, h2⟩
            · exact .inl h
            · rcases List.mem_cons.1 hz with rfl | hz
              · rw [← h1]; exact hx
              · exact .inr ⟨z, hz, h1, h2⟩
          · rw [List.mem_singleton] at hy
            subst hy
            exact hx)
        rw [accD_snoc, if_pos (by omega), ← e] at ih
        exact ih
theorem exG_found {shifts : List Sf} {d : Int} {R : List Jb} (hs : R.Pairwise fun x y => y.rel ≤ x.rel) (hm : ∀ x ∈ R, 0 ≤ x.mn) : Found shifts R d (exG shifts d 0 R) :=
  ex_key shifts d R [] hs hm (fun y hy => by cases hy)
theorem found_perm {shifts : List Sf} {R R' : List Jb} {d : Int} (h : R.Perm R') : ∀ {o : Option Int}, Found shifts R d o → Found shifts R' d o
  | none, hf => fun y hy hd => by rw [← needI_perm h]; exact hf y (h.mem_iff.2 hy) hd
  | some r, ⟨⟨x, hx, h1, h2⟩, h3, h4⟩ => ⟨⟨x, h.mem_iff.1 hx, h1, h2⟩, by rw [← needI_perm h]; exact h3, fun y hy hd ho => h4 y (h.mem_iff.2 hy) hd (by rw [needI_perm h]; exact ho)⟩
theorem found_uniq {shifts : List Sf} {R : List Jb} {d : Int} : ∀ {o o' : Option Int}, Found shifts R d o → Found shifts R d o' → o = o'
  | none, none, _, _ => rfl
  | none, some r, h, ⟨⟨x, hx, h1, h2⟩, h3, _⟩ => by subst h1; have := h x hx h2; omega
  | some r, none, ⟨⟨x, hx, h1, h2⟩, h3, _⟩, h => by subst h1; have := h x hx h2; omega
  | some r, some r', ⟨⟨x, hx, h1, h2⟩, h3, h4⟩, ⟨⟨x', hx', h1', h2'⟩, h3', h4'⟩ => by
    subst h1; subst h1'
    have a := h4 x' hx' h2' h3'
    have b := h4' x hx h2 h3
    rw [show x.rel = x'.rel by omega]
end Go.Proofs.Ythbchbiadcjnkaa

/-
  The minutes of shifts, counted one by one. No program in sight.
-/
namespace Go.Proofs.Ythbchbiadcjnkaa
theorem supI_cons (x : Sf) (l : List Sf) (a b : Int) : supI (x :: l) a b = max 0 (min b x.to - max a x.frm) + supI l a b := by
  have key : ∀ (l : List Sf) (s : Int), l.foldl (fun s x => s + max 0 (min b x.to - max a x.frm)) s = s + supI l a b := by
    intro l
    unfold supI
    induction l with
    | nil => intro s; simp
    | cons y l ih => intro s; rw [List.foldl_cons, List.foldl_cons, ih, ih (0 + _)]; omega
  unfold supI
  rw [List.foldl_cons, key]
  unfold supI
  omega
theorem supI_nonneg (l : List Sf) (a b : Int) : 0 ≤ supI l a b := by
  induction l with
  | nil => exact Int.le_refl _
  | cons x l ih => rw [supI_cons]; omega
theorem sm_iv0 (a b : Int) (h0 : 0 ≤ a) (n : Nat) : (sm (fun u => if a ≤ (u : Int) ∧ (u : Int) < b then 1 else 0) n : Int) = max 0 (min b n - a) := by
  by_cases h : a ≤ b
  · rw [sm_iv a b h0 h]
    omega
  · rw [show (fun u : Nat => if a ≤ (u : Int) ∧ (u : Int) < b then 1 else 0) = (fun _ => 0) from funext fun u => if_neg (by omega), sm_zero]
    omega
theorem supI_supp : ∀ {l : List Sf} {c : Int}, okSh c l → 0 ≤ c → ∀ (a b : Nat), supI l a b = (supp (inSB l) a b : Int)
  | [], _, _, _, a, b => by
    unfold supp inSB
    rw [show (fun u : Nat => if ([] : List Sf).any (fun x => decide (x.frm ≤ u ∧ (u : Int) < x.to)) = true ∧ a ≤ u then 1 else 0) = (fun _ => 0) from funext fun u => if_neg (by simp), sm_zero]
    rfl
  | x :: l, c, ⟨h1, h2, h3⟩, hc, a, b => by
    rw [supI_cons, supI_supp h3 (by omega) a b]
    have hm := okSh_mem h3
    have e : (fun u : Nat => if inSB (x :: l) u = true ∧ a ≤ u then 1 else 0) = fun u : Nat => (if max (a : Int) x.frm ≤ (u : Int) ∧ (u : Int) < x.to then 1 else 0) + (if inSB l u = true ∧ a ≤ u then 1 else 0) := funext fun u => by
      by_cases hx : x.frm ≤ u ∧ (u : Int) < x.to
      · have h4 : inSB l u ≠ true := fun h => by
          obtain ⟨y, hy, h5, h6⟩ := inSB_iff.1 h
          have := hm y hy
          omega
        have h5 : inSB (x :: l) u = true := inSB_iff.2 ⟨x, List.mem_cons_self, hx⟩
        by_cases ha : a ≤ u
        · rw [if_pos ⟨h5, ha⟩, if_pos (by omega), if_neg (fun h => h4 h.1)]
        · rw [if_neg (fun h => ha h.2), if_neg (by omega), if_neg (fun h => h4 h.1)]
      · rw [if_neg (show ¬ (max (a : Int) x.frm ≤ (u : Int) ∧ (u : Int) < x.to) by omega), Nat.zero_add]
        have h5 : inSB (x :: l) u = true ↔ inSB l u = true := by
          rw [inSB_iff, inSB_iff]
          constructor
          · rintro ⟨y, hy, h6⟩
            rcases List.mem_cons.1 hy with rfl | hy
            · exact absurd h6 hx
            · exact ⟨y, hy, h6⟩
          · rintro ⟨y, hy, h6⟩
            exact ⟨y, List.mem_cons_of_mem _ hy, h6⟩
        simp only [h5]
    unfold supp at *
    rw [e, sm_add]
    have := sm_iv0 (max (a : Int) x.frm) x.to (by omega) b
    push_cast
    rw [this]
    omega
theorem needI_need {jobs : List Jb} (h : ∀ x ∈ jobs, 0 ≤ x.mn) (a : Nat) (b : Int) : needI jobs a b = (need jobs a b : Int) := by
  unfold need
  induction jobs with
  | nil => rfl
  | cons x l ih =>
    have h1 := h x List.mem_cons_self
    rw [needI_cons, ih fun y hy => h y (List.mem_cons_of_mem _ hy), List.filter_cons]
    unfold inIv
    by_cases hc : (a : Int) ≤ x.rel ∧ x.due ≤ b
    · rw [if_pos hc, if_pos (decide_eq_true hc)]
      show x.mn + (lsum (fun y => y.mn.toNat) (l.filter _) : Int) = ((x.mn.toNat + lsum (fun y => y.mn.toNat) (l.filter _) : Nat) : Int)
      push_cast
      omega
    · rw [if_neg hc, if_neg (by rw [decide_eq_true_eq]; exact hc), Int.zero_add]
end Go.Proofs.Ythbchbiadcjnkaa
