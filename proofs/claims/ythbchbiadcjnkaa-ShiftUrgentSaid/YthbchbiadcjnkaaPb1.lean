/-
  In one text: Pa0, Pa1, Pa2, Pa3, Pa4, Pb0, Pb1.
-/

/-
  Earliest due date, on functions of the minute: the law of the overfull interval. No program in sight.
-/
namespace Go.Proofs.Ythbchbiadcjnkaa
structure Jb where
  idn : Int
  rel : Int
  due : Int
  mn : Int
deriving Inhabited, DecidableEq
/-- Which of two jobs runs. -/
def earl (a b : Jb) : Prop := a.due < b.due ∨ (a.due = b.due ∧ a.idn < b.idn)
instance (a b : Jb) : Decidable (earl a b) := by unfold earl; exact inferInstance
/-- Sums over the minutes before n. -/
def sm (p : Nat → Nat) : Nat → Nat
  | 0 => 0
  | n + 1 => sm p n + p n
def lsum {α : Type} (f : α → Nat) : List α → Nat
  | [] => 0
  | x :: l => f x + lsum f l
theorem sm_le {p q : Nat → Nat} {n : Nat} (h : ∀ u, u < n → p u ≤ q u) : sm p n ≤ sm q n := by
  induction n with
  | zero => exact Nat.le_refl _
  | succ n ih => exact Nat.add_le_add (ih fun u hu => h u (by omega)) (h n (by omega))
theorem sm_congr {p q : Nat → Nat} {n : Nat} (h : ∀ u, u < n → p u = q u) : sm p n = sm q n :=
  Nat.le_antisymm (sm_le fun u hu => Nat.le_of_eq (h u hu)) (sm_le fun u hu => Nat.le_of_eq (h u hu).symm)
theorem sm_mono {p : Nat → Nat} {m n : Nat} (h : m ≤ n) : sm p m ≤ sm p n := by
  induction n with
  | zero => have : m = 0 := by omega
            subst this; exact Nat.le_refl _
  | succ n ih =>
    by_cases e : m = n + 1
    · subst e; exact Nat.le_refl _
    · exact Nat.le_trans (ih (by omega)) (Nat.le_add_right _ _)
theorem sm_zero {n : Nat} : sm (fun _ => 0) n = 0 := by induction n with
  | zero => rfl
  | succ n ih => simp [sm, ih]
theorem sm_add (p q : Nat → Nat) (n : Nat) : sm (fun u => p u + q u) n = sm p n + sm q n := by
  induction n with
  | zero => rfl
  | succ n ih => simp only [sm, ih]; omega
/-- The order of the sums. -/
theorem sm_swap {α : Type} (f : α → Nat → Nat) (l : List α) (n : Nat) : lsum (fun x => sm (f x) n) l = sm (fun u => lsum (fun x => f x u) l) n := by
  induction l with
  | nil => simp only [lsum]; exact sm_zero.symm
  | cons x l ih => simp only [lsum, ih]; exact (sm_add _ _ n).symm
theorem lsum_le {α : Type} {f g : α → Nat} {l : List α} (h : ∀ x ∈ l, f x ≤ g x) : lsum f l ≤ lsum g l := by
  induction l with
  | nil => exact Nat.le_refl _
  | cons x l ih => exact Nat.add_le_add (h x List.mem_cons_self) (ih fun y hy => h y (List.mem_cons_of_mem _ hy))
theorem lsum_congr {α : Type} {f g : α → Nat} {l : List α} (h : ∀ x ∈ l, f x = g x) : lsum f l = lsum g l :=
  Nat.le_antisymm (lsum_le fun x hx => Nat.le_of_eq (h x hx)) (lsum_le fun x hx => Nat.le_of_eq (h x hx).symm)
theorem lsum_zero {α : Type} (l : List α) : lsum (fun _ => 0) l = 0 := by induction l with
  | nil => rfl
  | cons _ _ ih => simp [lsum, ih]
theorem lsum_lt {α : Type} {f g : α → Nat} {l : List α} (h : ∀ x ∈ l, f x ≤ g x) {y : α} (hy : y ∈ l) (hl : f y < g y) : lsum f l < lsum g l := by
  induction l with
  | nil => cases hy
  | cons x l ih =>
    simp only [lsum]
    rcases List.mem_cons.1 hy with rfl | hy
    · have := lsum_le fun x hx => h x (List.mem_cons_of_mem _ hx)
      omega
    · have := ih (fun x hx => h x (List.mem_cons_of_mem _ hx)) hy
      have := h x List.mem_cons_self
      omega
abbrev uniq (l : List Jb) : Prop := l.Pairwise fun a b => a.idn ≠ b.idn
theorem uniq_eq {l : List Jb} (h : uniq l) {x y : Jb} (hx : x ∈ l) (hy : y ∈ l) (e : x.idn = y.idn) : x = y := by
  induction l with
  | nil => cases hx
  | cons z l ih =>
    obtain ⟨h1, h2⟩ := List.pairwise_cons.1 h
    rcases List.mem_cons.1 hx with e1 | hx' <;> rcases List.mem_cons.1 hy with e2 | hy'
    · rw [e1, e2]
    · subst e1; exact absurd e (h1 y hy')
    · subst e2; exact absurd e.symm (h1 x hx')
    · exact ih h2 hx' hy'
/-- Of different jobs at most one has a number. -/
theorem one_le {l : List Jb} (h : uniq l) (v : Int) : lsum (fun x => if v = x.idn then 1 else 0) l ≤ 1 := by
  induction l with
  | nil => simp [lsum]
  | cons z l ih =>
    have h1 := (List.pairwise_cons.1 h).1
    have h2 := (List.pairwise_cons.1 h).2
    simp only [lsum]
    by_cases e : v = z.idn
    · rw [if_pos e]
      have : lsum (fun x => if v = x.idn then 1 else 0) l = lsum (fun _ => 0) l := lsum_congr fun x hx => if_neg (fun e' => h1 x hx (e.symm.trans e'))
      have h0 := lsum_zero l
      omega
    · rw [if_neg e]; have := ih h2; omega
theorem one_eq {l : List Jb} (h : uniq l) {v : Int} {x : Jb} (hx : x ∈ l) (e : v = x.idn) : lsum (fun x => if v = x.idn then 1 else 0) l = 1 := by
  refine Nat.le_antisymm (one_le h v) ?_
  clear h
  induction l with
  | nil => cases hx
  | cons z l ih =>
    simp only [lsum]
    rcases List.mem_cons.1 hx with rfl | hx
    · rw [if_pos e]; omega
    · have := ih hx; omega
/-- The minutes before t at which a job runs. -/
def ran (f : Nat → Int) (k : Int) (t : Nat) : Nat := sm (fun u => if f u = k then 1 else 0) t
theorem ran_mono {f : Nat → Int} {k : Int} {s t : Nat} (h : s ≤ t) : ran f k s ≤ ran f k t := sm_mono h
/-- The minutes of an interval that are in a shift. -/
def supp (inS : Nat → Bool) (a b : Nat) : Nat := sm (fun u => if inS u = true ∧ a ≤ u then 1 else 0) b
structure Sched (jobs : List Jb) (inS : Nat → Bool) (g : Nat → Int) : Prop where
  run : ∀ t, g t ≠ 0 → inS t = true ∧ ∃ x ∈ jobs, x.idn = g t ∧ x.rel ≤ t ∧ (ran g x.idn t : Int) < x.mn
structure Edf (jobs : List Jb) (inS : Nat → Bool) (f : Nat → Int) : Prop where
  run : ∀ t, f t ≠ 0 → inS t = true ∧ ∃ x ∈ jobs, x.idn = f t ∧ x.rel ≤ t ∧ (ran f x.idn t : Int) < x.mn ∧ ∀ y ∈ jobs, y.rel ≤ t → (ran f y.idn t : Int) < y.mn → y = x ∨ earl x y
  idle : ∀ t, inS t = true → f t = 0 → ∀ y ∈ jobs, y.rel ≤ t → ¬ (ran f y.idn t : Int) < y.mn
theorem Edf.sched {jobs : List Jb} {inS : Nat → Bool} {f : Nat → Int} (h : Edf jobs inS f) : Sched jobs inS f :=
  ⟨fun t ht => by obtain ⟨h1, x, h2, h3, h4, h5, _⟩ := h.run t ht; exact ⟨h1, x, h2, h3, h4, h5⟩⟩
theorem ran_le {jobs : List Jb} {inS : Nat → Bool} {g : Nat → Int} (hu : uniq jobs) (h : Sched jobs inS g) (h0 : ∀ x ∈ jobs, x.idn ≠ 0 ∧ 0 ≤ x.mn) {x : Jb} (hx : x ∈ jobs) (t : Nat) : (ran g x.idn t : Int) ≤ x.mn := by
  induction t with
  | zero => have := (h0 x hx).2; simp [ran, sm]; omega
  | succ t ih =>
    unfold ran at ih ⊢
    simp only [sm]
    by_cases e : g t = x.idn
    · rw [if_pos e]
      obtain ⟨_, y, h2, h3, _, h5⟩ := h.run t (by rw [e]; exact (h0 x hx).1)
      have := uniq_eq hu h2 hx (h3.trans e)
      subst this
      unfold ran at h5
      omega
    · rw [if_neg e]; omega
/-- Before its release a job does not run. -/
theorem ran_zero {jobs : List Jb} {inS : Nat → Bool} {g : Nat → Int} (hu : uniq jobs) (h : Sched jobs inS g) (h0 : ∀ x ∈ jobs, x.idn ≠ 0) {x : Jb} (hx : x ∈ jobs) {t u : Nat} (hr : (t : Int) ≤ x.rel) (hut : u < t) : g u ≠ x.idn := by
  intro e
  obtain ⟨_, y, h2, h3, h4, _⟩ := h.run u (by rw [e]; exact h0 x hx)
  have := uniq_eq hu h2 hx (h3.trans e)
  subst this
  omega
/-- What must run in an interval of a schedule is at most what the interval has. -/
theorem need_le {jobs : List Jb} {inS : Nat → Bool} {g : Nat → Int} (hu : uniq jobs) (h : Sched jobs inS g) (h0 : ∀ x ∈ jobs, x.idn ≠ 0) {S : List Jb} (hS : S.Sublist jobs) (a b : Nat) (hr : ∀ x ∈ S, (a : Int) ≤ x.rel) :
    lsum (fun x => ran g x.idn b) S ≤ supp inS a b := by
  unfold ran supp
  rw [sm_swap]
  refine sm_le fun u hu' => ?_
  by_cases hz : ∃ x ∈ S, g u = x.idn
  · obtain ⟨x, hx, e⟩ := hz
    have hxj := hS.subset hx
    have hau : a ≤ u := Nat.le_of_not_lt fun hlt => ran_zero hu h h0 hxj (hr x hx) hlt e
    obtain ⟨h1, _⟩ := h.run u (by rw [e]; exact h0 x hxj)
    rw [if_pos ⟨h1, hau⟩]
    exact one_le (hu.sublist hS) _
  · have : lsum (fun x => if g u = x.idn then 1 else 0) S = lsum (fun _ => 0) S := lsum_congr fun x hx => if_neg (fun e => hz ⟨x, hx, e⟩)
    rw [this]
    have h0 := lsum_zero S
    omega
/-- The latest beginning of a busy time. -/
theorem busy (P : Nat → Prop) (D : Nat) : ∃ t, t ≤ D ∧ (t = 0 ∨ P (t - 1)) ∧ ∀ u, t ≤ u → u < D → ¬ P u := by
  induction D with
  | zero => exact ⟨0, Nat.le_refl _, .inl rfl, fun u _ h => by omega⟩
  | succ D ih =>
    rcases Classical.em (P D) with hp | hp
    · exact ⟨D + 1, Nat.le_refl _, .inr (by simpa using hp), fun u h1 h2 => by omega⟩
    · obtain ⟨t, h1, h2, h3⟩ := ih
      refine ⟨t, by omega, h2, fun u h4 h5 => ?_⟩
      by_cases e : u = D
      · subst e; exact hp
      · exact h3 u h4 (by omega)
def inIv (a : Nat) (d : Int) (x : Jb) : Bool := decide ((a : Int) ≤ x.rel ∧ x.due ≤ d)
/-- If a job has not ended by D, there is an interval up to D whose jobs (with due dates that are not greater) need more than it has. -/
theorem over_of_late {jobs : List Jb} {inS : Nat → Bool} {f : Nat → Int} (hu : uniq jobs) (h : Edf jobs inS f) (h0 : ∀ x ∈ jobs, x.idn ≠ 0 ∧ 0 ≤ x.mn ∧ 0 ≤ x.rel) {x : Jb} (hx : x ∈ jobs) (D : Nat) (hl : (ran f x.idn D : Int) < x.mn) :
    ∃ t, t ≤ D ∧ (t : Int) ≤ x.rel ∧ supp inS t D < lsum (fun y => y.mn.toNat) (jobs.filter (inIv t x.due)) := by
  obtain ⟨t, h1, h2, h3⟩ := busy (fun u => inS u = true ∧ (f u = 0 ∨ ∃ z ∈ jobs, z.idn = f u ∧ x.due < z.due)) D
  -- a job that is not late in order, and not done, was not released ahead of t
  have key : ∀ y ∈ jobs, y.due ≤ x.due → ∀ u, t ≤ u → (ran f y.idn u : Int) < y.mn → (t : Int) ≤ y.rel := by
    intro y hy hd u htu hru
    rcases h2 with h2 | ⟨h2, h4⟩
    · have := (h0 y hy).2.2; omega
    · apply Int.not_lt.1
      intro hlt
      by_cases ht0 : t = 0
      · have := (h0 y hy).2.2; omega
      have hrel : y.rel ≤ ((t - 1 : Nat) : Int) := by omega
      have hav : (ran f y.idn (t - 1) : Int) < y.mn := by have := ran_mono (f := f) (k := y.idn) (show t - 1 ≤ u by omega); omega
      rcases h4 with h4 | ⟨z, hz, h5, h6⟩
      · exact h.idle _ h2 h4 y hy hrel hav
      · by_cases hf0 : f (t - 1) = 0
        · exact h.idle _ h2 hf0 y hy hrel hav
        obtain ⟨_, z', hz', h7, _, _, h8⟩ := h.run _ hf0
        have := uniq_eq hu hz hz' (h5.trans h7.symm)
        subst this
        rcases h8 y hy hrel hav with e | e
        · subst e; omega
        · unfold earl at e; omega
  refine ⟨t, h1, key x hx (Int.le_refl _) D h1 hl, ?_⟩
  have hS : (jobs.filter (inIv t x.due)).Sublist jobs := List.filter_sublist
  have hxS : x ∈ jobs.filter (inIv t x.due) := List.mem_filter.2 ⟨hx, decide_eq_true ⟨key x hx (Int.le_refl _) D h1 hl, Int.le_refl _⟩⟩
  have h0' : ∀ x ∈ jobs, x.idn ≠ 0 ∧ 0 ≤ x.mn := fun x hx => ⟨(h0 x hx).1, (h0 x hx).2.1⟩
  refine Nat.lt_of_le_of_lt (m := lsum (fun y => ran f y.idn D) (jobs.filter (inIv t x.due))) ?_ (lsum_lt (fun y hy => ?_) hxS ?_)
  · unfold ran supp
    rw [sm_swap]
    refine sm_le fun u hu' => ?_
    split
    · rename_i hin
      have hnot := h3 u hin.2 hu'
      have hf0 : f u ≠ 0 := fun e => hnot ⟨hin.1, .inl e⟩
      obtain ⟨_, z, hz, h7, _, h9, _⟩ := h.run _ hf0
      have hdz : z.due ≤ x.due := Int.not_lt.1 fun hlt => hnot ⟨hin.1, .inr ⟨z, hz, h7, hlt⟩⟩
      have hzS : z ∈ jobs.filter (inIv t x.due) := List.mem_filter.2 ⟨hz, decide_eq_true ⟨key z hz hdz u hin.2 h9, hdz⟩⟩
      rw [one_eq (hu.sublist hS) hzS h7.symm]
      exact Nat.le_refl _
    · exact Nat.zero_le _
  · have := ran_le hu h.sched h0' (hS.subset hy) D
    omega
  · omega
/-- In a schedule without late jobs no interval is overfull. -/
theorem not_over {jobs : List Jb} {inS : Nat → Bool} {g : Nat → Int} (hu : uniq jobs) (hg : Sched jobs inS g) (h0 : ∀ x ∈ jobs, x.idn ≠ 0) (hall : ∀ x ∈ jobs, (ran g x.idn x.due.toNat : Int) = x.mn) (a : Nat) (b : Nat) :
    lsum (fun y => y.mn.toNat) (jobs.filter (inIv a b)) ≤ supp inS a b := by
  have hS : (jobs.filter (inIv a b)).Sublist jobs := List.filter_sublist
  refine Nat.le_trans (lsum_le fun y hy => ?_) (need_le hu hg h0 hS a b (fun y hy => (of_decide_eq_true (List.mem_filter.1 hy).2).1))
  have hd := (of_decide_eq_true (List.mem_filter.1 hy).2).2
  have h5 := hall y (hS.subset hy)
  have h6 := ran_mono (f := g) (k := y.idn) (show y.due.toNat ≤ b by omega)
  omega
theorem supp_mono {inS : Nat → Bool} {a a' b : Nat} (h : a ≤ a') : supp inS a' b ≤ supp inS a b := sm_le fun u _ => by
  split
  · rename_i h1; rw [if_pos ⟨h1.1, by omega⟩]; exact Nat.le_refl _
  · exact Nat.zero_le _
end Go.Proofs.Ythbchbiadcjnkaa

/-
  Earliest due date, minute by minute: what the program computes, and that it is what the document says. No program in sight.
-/
namespace Go.Proofs.Ythbchbiadcjnkaa
structure Sf where
  frm : Int
  to : Int
deriving Inhabited, DecidableEq
structure Pc where
  jb : Int
  frm : Int
  to : Int
deriving Inhabited, DecidableEq
/-- The job that runs at a minute: its index, or -1; the first k jobs are asked. -/
def runK (jobs : List Jb) (left : List Int) (t : Int) : Nat → Int
  | 0 => -1
  | k + 1 => match jobs[k]?, left[k]? with
    | some x, some m => if t < x.rel ∨ m = 0 then runK jobs left t k else
      match jobs[(runK jobs left t k).toNat]? with
      | some y => if runK jobs left t k < 0 ∨ earl x y then (k : Int) else runK jobs left t k
      | none => runK jobs left t k
    | _, _ => runK jobs left t k
def av (jobs : List Jb) (left : List Int) (t : Int) (i : Nat) : Prop := ∃ x m, jobs[i]? = some x ∧ left[i]? = some m ∧ x.rel ≤ t ∧ m ≠ 0
theorem runK_spec (jobs : List Jb) (left : List Int) (t : Int) (k : Nat) :
    (runK jobs left t k = -1 ∧ ∀ i, i < k → ¬ av jobs left t i) ∨ (∃ i x, runK jobs left t k = ((i : Nat) : Int) ∧ i < k ∧ jobs[i]? = some x ∧ av jobs left t i ∧ ∀ j y, j < k → jobs[j]? = some y → av jobs left t j → ¬ earl y x) := by
  induction k with
  | zero => exact .inl ⟨rfl, fun i h => by omega⟩
  | succ k ih =>
    unfold runK
    by_cases hav : av jobs left t k
    · obtain ⟨x, m, hx, hm, hr, hm0⟩ := hav
      rw [hx, hm]
      dsimp only
      rw [if_neg (by omega)]
      right
      rcases ih with ⟨e, h1⟩ | ⟨i, z, e, hi, hz, hav, h1⟩
      · have h0 : ∃ y, jobs[(runK jobs left t k).toNat]? = some y := by
          rw [e]
          exact ⟨_, List.getElem?_eq_getElem (show (-1 : Int).toNat < jobs.length by have := (List.getElem?_eq_some_iff.1 hx).1; simp; omega)⟩
        obtain ⟨y0, hy0⟩ := h0
        rw [hy0]
        dsimp only
        rw [e, if_pos (.inl (by omega))]
        refine ⟨k, x, rfl, by omega, hx, ⟨x, m, hx, hm, hr, hm0⟩, fun j y hj hy hav he => ?_⟩
        by_cases hjk : j = k
        · subst hjk; rw [hx] at hy; injection hy with hy; subst hy; unfold earl at he; omega
        · exact h1 j (by omega) hav
      · rw [e, Int.toNat_natCast, hz]
        dsimp only
        by_cases hlt : earl x z
        · rw [if_pos (.inr hlt)]
          refine ⟨k, x, rfl, by omega, hx, ⟨x, m, hx, hm, hr, hm0⟩, fun j y hj hy hav' he => ?_⟩
          by_cases hjk : j = k
          · subst hjk; rw [hx] at hy; injection hy with hy; subst hy; unfold earl at he; omega
          · have := h1 j y (by omega) hy hav'
            unfold earl at *; omega
        · rw [if_neg (fun h => h.elim (fun h => by omega) hlt)]
          refine ⟨i, z, rfl, by omega, hz, hav, fun j y hj hy hav' he => ?_⟩
          by_cases hjk : j = k
          · subst hjk; rw [hx] at hy; injection hy with hy; subst hy; exact hlt he
          · exact h1 j y (by omega) hy hav' he
    · have hsame : (match jobs[k]?, left[k]? with
          | some x, some m => if t < x.rel ∨ m = 0 then runK jobs left t k else
            match jobs[(runK jobs left t k).toNat]? with
            | some y => if runK jobs left t k < 0 ∨ earl x y then (k : Int) else runK jobs left t k
            | none => runK jobs left t k
          | _, _ => runK jobs left t k) = runK jobs left t k := by
        split
        · rename_i x m hx hm
          rw [if_pos]
          apply Classical.byContradiction
          intro h
          exact hav ⟨x, m, hx, hm, by omega, by omega⟩
        · rfl
      rw [hsame]
      rcases ih with ⟨e, h1⟩ | ⟨i, z, e, hi, hz, hav', h1⟩
      · refine .inl ⟨e, fun i hi => ?_⟩
        by_cases hik : i = k
        · subst hik; exact hav
        · exact h1 i (by omega)
      · refine .inr ⟨i, z, e, by omega, hz, hav', fun j y hj hy ha => ?_⟩
        by_cases hjk : j = k
        · subst hjk; exact absurd ha hav
        · exact h1 j y (by omega) hy ha
theorem runK_congr {jobs : List Jb} {left left' : List Int} {t t' : Int} (hl : left.length = left'.length) (h : ∀ k, av jobs left t k ↔ av jobs left' t' k) (k : Nat) : runK jobs left t k = runK jobs left' t' k := by
  induction k with
  | zero => rfl
  | succ k ih =>
    have hk := h k
    unfold runK
    rw [ih]
    cases hx : jobs[k]? with
    | none => rfl
    | some x =>
      cases hm : left[k]? with
      | none =>
        have : left'[k]? = none := by rw [List.getElem?_eq_none_iff] at hm ⊢; omega
        rw [this]
      | some m =>
        obtain ⟨m', hm'⟩ : ∃ m', left'[k]? = some m' := ⟨_, List.getElem?_eq_getElem (by have := (List.getElem?_eq_some_iff.1 hm).1; omega)⟩
        rw [hm']
        dsimp only
        have : (t < x.rel ∨ m = 0) ↔ (t' < x.rel ∨ m' = 0) := by
          have h1 : av jobs left t k ↔ x.rel ≤ t ∧ m ≠ 0 := ⟨fun ⟨x', m1, a, b, c, d⟩ => by rw [hx] at a; rw [hm] at b; injection a with a; injection b with b; subst a; subst b; exact ⟨c, d⟩, fun ⟨c, d⟩ => ⟨x, m, hx, hm, c, d⟩⟩
          have h2 : av jobs left' t' k ↔ x.rel ≤ t' ∧ m' ≠ 0 := ⟨fun ⟨x', m1, a, b, c, d⟩ => by rw [hx] at a; rw [hm'] at b; injection a with a; injection b with b; subst a; subst b; exact ⟨c, d⟩, fun ⟨c, d⟩ => ⟨x, m', hx, hm', c, d⟩⟩
          rw [h1, h2] at hk
          omega
        by_cases hc : t < x.rel ∨ m = 0
        · rw [if_pos hc, if_pos (this.1 hc)]
        · rw [if_neg hc, if_neg (fun h => hc (this.2 h))]
/-- A slice more, or the last one longer; the last one stands first. -/
def ext (r : List Pc) (k a b : Int) : List Pc :=
  match r with
  | p :: r => if p.jb = k then { p with to := b } :: r else ⟨k, a, b⟩ :: p :: r
  | [] => [⟨k, a, b⟩]
def stepM (jobs : List Jb) (t : Int) (s : List Int × List Pc) : List Int × List Pc :=
  match jobs[(runK jobs s.1 t jobs.length).toNat]?, s.1[(runK jobs s.1 t jobs.length).toNat]? with
  | some x, some m => if runK jobs s.1 t jobs.length < 0 then s else (s.1.set (runK jobs s.1 t jobs.length).toNat (m - 1), ext s.2 x.idn t (t + 1))
  | _, _ => s
def goM (jobs : List Jb) : Nat → Int → List Int × List Pc → List Int × List Pc
  | 0, _, s => s
  | n + 1, t, s => goM jobs n (t + 1) (stepM jobs t s)
theorem goM_add (jobs : List Jb) (m n : Nat) : ∀ (t : Int) s, goM jobs (m + n) t s = goM jobs n (t + m) (goM jobs m t s) := by
  induction m with
  | zero => intro t s; simp [goM]
  | succ m ih =>
    intro t s
    rw [show m + 1 + n = (m + n) + 1 from by omega]
    simp only [goM]
    rw [ih]
    congr 1
    omega
theorem step_idle {jobs : List Jb} {t : Int} {s : List Int × List Pc} (h : runK jobs s.1 t jobs.length < 0) : stepM jobs t s = s := by
  unfold stepM
  split
  · rw [if_pos h]
  · rfl
theorem step_run {jobs : List Jb} {t : Int} {s : List Int × List Pc} {i : Nat} {x : Jb} {m : Int} (h : runK jobs s.1 t jobs.length = i) (hx : jobs[i]? = some x) (hm : s.1[i]? = some m) : stepM jobs t s = (s.1.set i (m - 1), ext s.2 x.idn t (t + 1)) := by
  unfold stepM
  rw [h, Int.toNat_natCast, hx, hm]
  dsimp only
  rw [if_neg (by omega)]
/-- Nothing runs until the next release. -/
theorem go_idle {jobs : List Jb} {s : List Int × List Pc} {t u : Int} (h : runK jobs s.1 t jobs.length < 0) (hu : ∀ x ∈ jobs, t < x.rel → u ≤ x.rel) : ∀ n : Nat, t + n ≤ u → goM jobs n t s = s := by
  suffices ∀ (n : Nat) (t' : Int), t ≤ t' → t' + n ≤ u → goM jobs n t' s = s from fun n hn => this n t (Int.le_refl _) hn
  intro n
  induction n with
  | zero => intro t' _ _; rfl
  | succ n ih =>
    intro t' h1 h2
    have hr : runK jobs s.1 t' jobs.length = runK jobs s.1 t jobs.length := runK_congr rfl (fun k => by
      unfold av
      constructor
      · rintro ⟨x, m, hx, hm, c, d⟩
        refine ⟨x, m, hx, hm, ?_, d⟩
        apply Int.not_lt.1
        intro hlt
        have := hu x (List.mem_of_getElem? hx) hlt
        omega
      · rintro ⟨x, m, hx, hm, c, d⟩
        exact ⟨x, m, hx, hm, by omega, d⟩) _
    simp only [goM]
    rw [step_idle (by rw [hr]; exact h)]
    exact ih (t' + 1) (by omega) (by omega)
theorem ext_ext (r : List Pc) (k a b c d : Int) : ext (ext r k a b) k c d = ext r k a d := by
  cases r with
  | nil => simp [ext]
  | cons p r =>
    by_cases h : p.jb = k
    · simp [ext, h]
    · simp [ext, h]
/-- One job runs until the next release, or until it ends. -/
theorem go_run {jobs : List Jb} {t u : Int} {i : Nat} {x : Jb} (hx : jobs[i]? = some x) (hu : ∀ x ∈ jobs, t < x.rel → u ≤ x.rel) : ∀ (n : Nat) (t' : Int) (s : List Int × List Pc) (m : Int), t ≤ t' → t' + n + 1 ≤ u → s.1[i]? = some m → (n : Int) + 1 ≤ m → runK jobs s.1 t' jobs.length = i →
    goM jobs (n + 1) t' s = (s.1.set i (m - (n + 1)), ext s.2 x.idn t' (t' + n + 1)) := by
  intro n
  induction n with
  | zero =>
    intro t' s m h1 h2 hm hn hr
    simp only [goM]
    rw [step_run hr hx hm]
    simp
  | succ n ih =>
    intro t' s m h1 h2 hm hn hr
    rw [show n + 1 + 1 = (n + 1) + 1 from rfl]
    unfold goM
    rw [step_run hr hx hm]
    have hlt : i < s.1.length := (List.getElem?_eq_some_iff.1 hm).1
    have hm2 : (s.1.set i (m - 1))[i]? = some (m - 1) := by rw [List.getElem?_set]; simp [hlt]
    have hr2 : runK jobs (s.1.set i (m - 1)) (t' + 1) jobs.length = i := by
      rw [← hr]
      refine runK_congr (by simp) (fun k => ?_) _
      unfold av
      constructor
      · rintro ⟨y, m', hy, hm', c, d⟩
        have hc : y.rel ≤ t' := by
          apply Int.not_lt.1
          intro hlt
          have := hu y (List.mem_of_getElem? hy) (by omega)
          omega
        by_cases hik : i = k
        · subst hik; exact ⟨y, m, hy, hm, hc, by omega⟩
        · rw [List.getElem?_set_ne hik] at hm'; exact ⟨y, m', hy, hm', hc, d⟩
      · rintro ⟨y, m', hy, hm', c, d⟩
        by_cases hik : i = k
        · subst hik; exact ⟨y, m - 1, hy, hm2, by omega, by omega⟩
        · exact ⟨y, m', hy, by rw [List.getElem?_set_ne hik]; exact hm', by omega, d⟩
    have := ih (t' + 1) (s.1.set i (m - 1), ext s.2 x.idn t' (t' + 1)) (m - 1) (by omega) (by omega) hm2 (by omega) hr2
    rw [this]
    simp only [List.set_set, ext_ext]
    congr 2
    · omega
    · congr 1; omega
/-- One shift behind the others: what is left, and the slices. -/
def shiftS (jobs : List Jb) (x : Sf) (s : List Int × List Pc) : List Int × List Pc :=
  let r := goM jobs (x.to - x.frm).toNat x.frm (s.1, [])
  (r.1, s.2 ++ r.2.reverse)
def edfS (jobs : List Jb) (shifts : List Sf) : List Int × List Pc := shifts.foldl (fun s x => shiftS jobs x s) (jobs.map (·.mn), [])
end Go.Proofs.Ythbchbiadcjnkaa

/-
  Earliest due date: the slices that the program makes tell, minute by minute, which job runs.
-/
namespace Go.Proofs.Ythbchbiadcjnkaa
/-- The job that runs at a minute, or 0. -/
def lk : List Pc → Int → Int
  | [], _ => 0
  | p :: l, t => if p.frm ≤ t ∧ t < p.to then p.jb else lk l t
def lkN (l : List Pc) (u : Nat) : Int := lk l u
theorem lk_none {l : List Pc} {t : Int} (h : ∀ p ∈ l, ¬ (p.frm ≤ t ∧ t < p.to)) (m : List Pc) : lk (l ++ m) t = lk m t := by
  induction l with
  | nil => rfl
  | cons p l ih =>
    simp only [List.cons_append, lk]
    rw [if_neg (h p List.mem_cons_self)]
    exact ih fun q hq => h q (List.mem_cons_of_mem _ hq)
theorem lk_zero {l : List Pc} {t : Int} (h : ∀ p ∈ l, ¬ (p.frm ≤ t ∧ t < p.to)) : lk l t = 0 := by
  have := lk_none h []
  simpa [lk] using this
theorem lk_some {l : List Pc} {t : Int} (h : ∃ p ∈ l, p.frm ≤ t ∧ t < p.to) (m : List Pc) : lk (l ++ m) t = lk l t := by
  induction l with
  | nil => obtain ⟨p, hp, _⟩ := h; cases hp
  | cons p l ih =>
    simp only [List.cons_append, lk]
    by_cases hc : p.frm ≤ t ∧ t < p.to
    · rw [if_pos hc, if_pos hc]
    · rw [if_neg hc, if_neg hc]
      refine ih ?_
      obtain ⟨q, hq, h⟩ := h
      rcases List.mem_cons.1 hq with e | hq
      · subst e; exact absurd h hc
      · exact ⟨q, hq, h⟩
theorem lk_mem {l : List Pc} {t : Int} (h : lk l t ≠ 0) : ∃ p ∈ l, p.jb = lk l t ∧ p.frm ≤ t ∧ t < p.to := by
  induction l with
  | nil => exact absurd rfl h
  | cons p l ih =>
    simp only [lk] at h ⊢
    split
    · rename_i hc; exact ⟨p, List.mem_cons_self, rfl, hc⟩
    · rename_i hc
      rw [if_neg hc] at h
      obtain ⟨q, hq, h⟩ := ih h
      exact ⟨q, List.mem_cons_of_mem _ hq, h⟩
def inSB (shifts : List Sf) (u : Nat) : Bool := shifts.any fun x => decide (x.frm ≤ u ∧ (u : Int) < x.to)
theorem inSB_iff {shifts : List Sf} {u : Nat} : inSB shifts u = true ↔ ∃ x ∈ shifts, x.frm ≤ u ∧ (u : Int) < x.to := by
  simp [inSB]
structure Inv (jobs : List Jb) (inS : Nat → Bool) (T : Nat) (left : List Int) (plan : List Pc) : Prop where
  wf : plan.Pairwise fun p q => p.to ≤ q.frm
  rng : ∀ p ∈ plan, 0 ≤ p.frm ∧ p.frm < p.to ∧ p.to ≤ T
  ids : ∀ p ∈ plan, ∃ x ∈ jobs, x.idn = p.jb ∧ x.rel ≤ p.frm
  left : left = jobs.map fun x => x.mn - (ran (lkN plan) x.idn T : Int)
  le : ∀ x ∈ jobs, (ran (lkN plan) x.idn T : Int) ≤ x.mn
  run : ∀ t, t < T → lkN plan t ≠ 0 → inS t = true ∧ ∃ x ∈ jobs, x.idn = lkN plan t ∧ x.rel ≤ t ∧ (ran (lkN plan) x.idn t : Int) < x.mn ∧ ∀ y ∈ jobs, y.rel ≤ t → (ran (lkN plan) y.idn t : Int) < y.mn → y = x ∨ earl x y
  idle : ∀ t, t < T → inS t = true → lkN plan t = 0 → ∀ y ∈ jobs, y.rel ≤ t → ¬ (ran (lkN plan) y.idn t : Int) < y.mn
structure okJs (jobs : List Jb) : Prop where
  uni : uniq jobs
  pos : ∀ x ∈ jobs, 1 ≤ x.idn ∧ 0 ≤ x.mn ∧ 0 ≤ x.rel
theorem earl_total {x y : Jb} (h : x.idn ≠ y.idn) (hn : ¬ earl y x) : earl x y := by unfold earl at *; omega
section
variable {jobs : List Jb} {inS : Nat → Bool} {T : Nat} {left : List Int} {plan : List Pc}
theorem Inv.start : Inv jobs inS 0 (jobs.map (·.mn)) [] ∨ ¬ okJs jobs := by
  by_cases h : okJs jobs
  · left
    exact ⟨List.Pairwise.nil, fun p hp => (by cases hp), fun p hp => (by cases hp), by simp [ran, sm], fun x hx => by have := (h.pos x hx).2.1; simp [ran, sm]; omega, fun t ht => by omega, fun t ht => by omega⟩
  · exact .inr h
theorem Inv.av_iff (h : Inv jobs inS T left plan) {i : Nat} : av jobs left T i ↔ ∃ x, jobs[i]? = some x ∧ x.rel ≤ T ∧ (ran (lkN plan) x.idn T : Int) < x.mn := by
  unfold av
  rw [h.left]
  constructor
  · rintro ⟨x, m, hx, hm, hr, h0⟩
    rw [List.getElem?_map, hx] at hm
    simp only [Option.map_some, Option.some.injEq] at hm
    have := h.le x (List.mem_of_getElem? hx)
    exact ⟨x, hx, hr, by omega⟩
  · rintro ⟨x, hx, hr, hl⟩
    exact ⟨x, x.mn - (ran (lkN plan) x.idn T : Int), hx, by rw [List.getElem?_map, hx]; rfl, hr, by omega⟩
theorem Inv.lk_T (h : Inv jobs inS T left plan) {u : Nat} (hu : T ≤ u) : lkN plan u = 0 := lk_zero fun p hp => by have := (h.rng p hp).2.2; omega
/-- A minute at which nothing runs. -/
theorem Inv.idle1 (hJ : okJs jobs) (h : Inv jobs inS T left plan) (hi : inS T = true → runK jobs left T jobs.length < 0) : Inv jobs inS (T + 1) left plan := by
  have h0 := h.lk_T (Nat.le_refl T)
  have hran : ∀ x ∈ jobs, ran (lkN plan) x.idn (T + 1) = ran (lkN plan) x.idn T := fun x hx => by
    unfold ran; simp only [sm]; rw [if_neg (by rw [h0]; have := (hJ.pos x hx).1; omega)]; rfl
  refine ⟨h.wf, fun p hp => by have := h.rng p hp; omega, h.ids, ?_, fun x hx => by rw [hran x hx]; exact h.le x hx, fun t ht hne => ?_, fun t ht hs he y hy => ?_⟩
  · rw [h.left]
    refine List.map_congr_left fun x hx => ?_
    rw [hran x hx]
  · by_cases e : t = T
    · subst e; exact absurd h0 hne
    · exact h.run t (by omega) hne
  · by_cases e : t = T
    · subst e
      intro hr hl
      obtain ⟨i, hi1⟩ := List.getElem?_of_mem hy
      have hav := h.av_iff.2 ⟨y, hi1, hr, hl⟩
      rcases runK_spec jobs left t jobs.length with ⟨_, h1⟩ | ⟨j, _, e, _⟩
      · exact h1 i (List.getElem?_eq_some_iff.1 hi1).1 hav
      · have := hi hs; omega
    · exact h.idle t (by omega) hs he y hy
theorem Inv.gap (hJ : okJs jobs) (n : Nat) : ∀ {T : Nat}, Inv jobs inS T left plan → (∀ u, T ≤ u → u < T + n → inS u = false) → Inv jobs inS (T + n) left plan := by
  induction n with
  | zero => intro T h _; exact h
  | succ n ih =>
    intro T h hno
    have h1 := h.idle1 hJ (fun hs => by rw [hno T (Nat.le_refl _) (by omega)] at hs; cases hs)
    have := ih h1 (fun u hu1 hu2 => hno u (by omega) (by omega))
    rwa [show T + 1 + n = T + (n + 1) from by omega] at this
/-- A minute at which a job runs. -/
theorem Inv.run1 (hJ : okJs jobs) (h : Inv jobs inS T left plan) (hs : inS T = true) {i : Nat} {x : Jb} (hr : runK jobs left T jobs.length = i) (hx : jobs[i]? = some x) {plan' : List Pc}
    (hwf : plan'.Pairwise fun p q => p.to ≤ q.frm) (hrng : ∀ p ∈ plan', 0 ≤ p.frm ∧ p.frm < p.to ∧ p.to ≤ ((T + 1 : Nat) : Int)) (hids : ∀ p ∈ plan', ∃ x ∈ jobs, x.idn = p.jb ∧ x.rel ≤ p.frm) (hsame : ∀ u, u < T → lkN plan' u = lkN plan u) (hT : lkN plan' T = x.idn) :
    ∃ m, left[i]? = some m ∧ Inv jobs inS (T + 1) (left.set i (m - 1)) plan' := by
  have hxj := List.mem_of_getElem? hx
  have hran : ∀ k t, t ≤ T → ran (lkN plan') k t = ran (lkN plan) k t := fun k t ht => sm_congr fun u hu => by rw [hsame u (by omega)]
  have hranT : ∀ k, ran (lkN plan') k (T + 1) = ran (lkN plan) k T + (if x.idn = k then 1 else 0) := fun k => by
    have := hran k T (Nat.le_refl _)
    unfold ran at this ⊢; simp only [sm]; rw [this, hT]
  obtain ⟨hav, hbest⟩ : av jobs left T i ∧ ∀ j y, j < jobs.length → jobs[j]? = some y → av jobs left T j → ¬ earl y x := by
    rcases runK_spec jobs left T jobs.length with ⟨e, _⟩ | ⟨j, z, e, _, hz, ha, hb⟩
    · rw [e] at hr; omega
    · rw [e] at hr
      have : j = i := by omega
      subst this
      rw [hx] at hz
      injection hz with hz
      subst hz
      exact ⟨ha, hb⟩
  obtain ⟨x', hx', hrel, hlt⟩ := h.av_iff.1 hav
  rw [hx] at hx'
  injection hx' with hx'
  subst hx'
  have hm : left[i]? = some (x.mn - ran (lkN plan) x.idn T) := by rw [h.left, List.getElem?_map, hx]; rfl
  refine ⟨_, hm, hwf, hrng, hids, ?_, fun y hy => ?_, fun t ht hne => ?_, fun t ht hst he y hy => ?_⟩
  · apply List.ext_getElem?
    intro j
    rw [List.getElem?_set, h.left, List.getElem?_map, List.getElem?_map]
    by_cases hij : i = j
    · subst hij
      have hlt : i < (jobs.map fun x => x.mn - (ran (lkN plan) x.idn T : Int)).length := by rw [List.length_map]; exact (List.getElem?_eq_some_iff.1 hx).1
      rw [if_pos rfl, if_pos hlt, hx]
      simp only [Option.map_some, Option.some.injEq]
      rw [hranT, if_pos rfl]; omega
    · rw [if_neg hij]
      cases hy : jobs[j]? with
      | none => rfl
      | some y =>
        simp only [Option.map_some, Option.some.injEq]
        rw [hranT, if_neg]
        · omega
        · intro e
          have := uniq_eq hJ.uni hxj (List.mem_of_getElem? hy) e
          subst this
          obtain ⟨h1, h2⟩ := List.getElem?_eq_some_iff.1 hx
          obtain ⟨h3, h4⟩ := List.getElem?_eq_some_iff.1 hy
          have := List.pairwise_iff_getElem.1 hJ.uni
          rcases Nat.lt_or_gt_of_ne hij with hl | hl
          · exact this i j h1 h3 hl (by rw [h2, h4])
          · exact this j i h3 h1 hl (by rw [h2, h4])
  · rw [hranT]
    have := h.le y hy
    split
    · rename_i e
      have := uniq_eq hJ.uni hxj hy e
      subst this
      omega
    · omega
  · by_cases e : t = T
    · subst e
      refine ⟨hs, x, hxj, hT.symm, hrel, by rw [hran _ _ (Nat.le_refl _)]; exact hlt, fun y hy hyr hyl => ?_⟩
      rw [hran _ _ (Nat.le_refl _)] at hyl
      by_cases hxy : x.idn = y.idn
      · exact .inl (uniq_eq hJ.uni hy hxj hxy.symm)
      · right
        obtain ⟨j, hj⟩ := List.getElem?_of_mem hy
        exact earl_total hxy (hbest j y (List.getElem?_eq_some_iff.1 hj).1 hj (h.av_iff.2 ⟨y, hj, hyr, hyl⟩))
    · have htT : t < T := by omega
      rw [hsame t htT] at hne ⊢
      obtain ⟨h1, z, hz, h2, h3, h4, h5⟩ := h.run t htT hne
      refine ⟨h1, z, hz, h2, h3, by rw [hran _ _ (by omega)]; exact h4, fun y hy hyr hyl => h5 y hy hyr (by rw [hran _ _ (by omega)] at hyl; exact hyl)⟩
  · by_cases e : t = T
    · subst e; rw [hT] at he; have := (hJ.pos x hxj).1; omega
    · rw [hsame t (by omega)] at he
      rw [hran _ _ (by omega)]
      exact h.idle t (by omega) hst he y hy
end
/-- While a shift is worked: old slices, and those of the shift, the last one first. -/
structure InvC (jobs : List Jb) (inS : Nat → Bool) (a T : Nat) (left : List Int) (old r : List Pc) : Prop where
  inv : Inv jobs inS T left (old ++ r.reverse)
  own : ∀ p ∈ r, (a : Int) ≤ p.frm
  before : ∀ p ∈ old, p.to ≤ (a : Int)
section
variable {jobs : List Jb} {inS : Nat → Bool} {a T : Nat} {left : List Int} {old r : List Pc}
theorem InvC.step (hJ : okJs jobs) (h : InvC jobs inS a T left old r) (haT : a ≤ T) (hs : ∀ u, a ≤ u → u ≤ T → inS u = true) : InvC jobs inS a (T + 1) (stepM jobs T (left, r)).1 old (stepM jobs T (left, r)).2 := by
  have hsT := hs T haT (Nat.le_refl _)
  rcases runK_spec jobs left T jobs.length with ⟨e, _⟩ | ⟨i, x, e, _, hx, hav, _⟩
  · rw [step_idle (s := (left, r)) (by rw [e]; omega)]
    exact ⟨h.inv.idle1 hJ (fun _ => by rw [e]; omega), h.own, h.before⟩
  · have hxj := List.mem_of_getElem? hx
    have hx1 := (hJ.pos x hxj).1
    obtain ⟨x', hx', hrel, hlt⟩ := h.inv.av_iff.1 hav
    rw [hx] at hx'
    injection hx' with hx'
    subst hx'
    have hTno : ∀ p ∈ old ++ r.reverse, p.to ≤ (T : Int) := fun p hp => (h.inv.rng p hp).2.2
    -- a slice more
    have hnew : ∃ m, left[i]? = some m ∧ Inv jobs inS (T + 1) (left.set i (m - 1)) ((old ++ r.reverse) ++ [⟨x.idn, T, T + 1⟩]) := by
      refine h.inv.run1 hJ hsT e hx ?_ (fun p hp => ?_) (fun p hp => ?_) (fun u hu => ?_) ?_
      · rw [List.pairwise_append]
        refine ⟨h.inv.wf, List.pairwise_singleton _ _, fun p hp q hq => ?_⟩
        rw [List.mem_singleton] at hq
        subst hq
        exact hTno p hp
      · rcases List.mem_append.1 hp with hp | hp
        · have := h.inv.rng p hp; omega
        · rw [List.mem_singleton] at hp; subst hp; dsimp only; omega
      · rcases List.mem_append.1 hp with hp | hp
        · exact h.inv.ids p hp
        · rw [List.mem_singleton] at hp; subst hp; exact ⟨x, hxj, rfl, hrel⟩
      · unfold lkN
        by_cases hc : ∃ p ∈ old ++ r.reverse, p.frm ≤ (u : Int) ∧ (u : Int) < p.to
        · exact lk_some hc _
        · have hc' : ∀ p ∈ old ++ r.reverse, ¬ (p.frm ≤ (u : Int) ∧ (u : Int) < p.to) := fun p hp h => hc ⟨p, hp, h⟩
          rw [lk_none hc', lk_zero hc']
          simp only [lk]
          rw [if_neg (by omega)]
      · unfold lkN
        rw [lk_none (fun p hp => by have := hTno p hp; omega)]
        simp only [lk]
        rw [if_pos (by omega)]
    have hnewC : ∃ m, left[i]? = some m ∧ InvC jobs inS a (T + 1) (left.set i (m - 1)) old (⟨x.idn, T, T + 1⟩ :: r) := by
      obtain ⟨m, hm, hI⟩ := hnew
      refine ⟨m, hm, ?_, fun p hp => ?_, h.before⟩
      · rw [List.reverse_cons, ← List.append_assoc]; exact hI
      · rcases List.mem_cons.1 hp with rfl | hp
        · dsimp only; omega
        · exact h.own p hp
    cases r with
    | nil =>
      obtain ⟨m, hm, hI⟩ := hnewC
      rw [step_run (s := (left, [])) e hx hm]
      exact hI
    | cons p r =>
      by_cases hp : p.jb = x.idn
      · -- the last slice goes on
        have hpm : p ∈ old ++ (p :: r).reverse := by simp
        have hpto : p.to = T := by
          apply Classical.byContradiction
          intro hne
          have hple := hTno p hpm
          have hp0 := h.inv.rng p hpm
          have hpa := h.own p List.mem_cons_self
          obtain ⟨u, hu⟩ : ∃ u : Nat, p.to = u := ⟨p.to.toNat, by omega⟩
          have hfree : lkN (old ++ (p :: r).reverse) u = 0 := by
            unfold lkN
            refine lk_zero fun q hq => ?_
            have hw := h.inv.wf
            rw [List.reverse_cons, ← List.append_assoc, List.pairwise_append] at hw
            rw [List.reverse_cons, ← List.append_assoc] at hq
            rcases List.mem_append.1 hq with hq | hq
            · have := hw.2.2 q hq p (by simp); omega
            · rw [List.mem_singleton] at hq; subst hq; omega
          have h1 := h.inv.idle u (by omega) (hs u (by omega) (by omega)) hfree x hxj (by
            obtain ⟨z, hz, e1, e2⟩ := h.inv.ids p hpm
            have := uniq_eq hJ.uni hz hxj (e1.trans hp)
            subst this
            omega)
          have h2 := ran_mono (f := lkN (old ++ (p :: r).reverse)) (k := x.idn) (show u ≤ T by omega)
          omega
        have hI : ∃ m, left[i]? = some m ∧ Inv jobs inS (T + 1) (left.set i (m - 1)) ((old ++ r.reverse) ++ [{ p with to := (T : Int) + 1 }]) := by
          have hpl : old ++ (p :: r).reverse = (old ++ r.reverse) ++ [p] := by rw [List.reverse_cons, List.append_assoc]
          have hin := h.inv
          rw [hpl] at hin hTno hpm
          have hw := hin.wf
          rw [List.pairwise_append] at hw
          have hp0 := hin.rng p hpm
          refine (hpl ▸ h.inv).run1 hJ hsT e hx ?_ (fun q hq => ?_) (fun q hq => ?_) (fun u hu => ?_) ?_
          · rw [List.pairwise_append]
            refine ⟨hw.1, List.pairwise_singleton _ _, fun q hq q' hq' => ?_⟩
            rw [List.mem_singleton] at hq'
            subst hq'
            exact hw.2.2 q hq p (by simp)
          · rcases List.mem_append.1 hq with hq | hq
            · have := hin.rng q (List.mem_append_left _ hq); omega
            · rw [List.mem_singleton] at hq; subst hq; dsimp only; omega
          · rcases List.mem_append.1 hq with hq | hq
            · exact hin.ids q (List.mem_append_left _ hq)
            · rw [List.mem_singleton] at hq; subst hq; exact hin.ids p hpm
          · unfold lkN
            by_cases hc : ∃ p ∈ old ++ r.reverse, p.frm ≤ (u : Int) ∧ (u : Int) < p.to
            · rw [lk_some hc, lk_some hc]
            · have hc' : ∀ p ∈ old ++ r.reverse, ¬ (p.frm ≤ (u : Int) ∧ (u : Int) < p.to) := fun p hp h => hc ⟨p, hp, h⟩
              rw [lk_none hc', lk_none hc']
              simp only [lk]
              by_cases h9 : p.frm ≤ (u : Int)
              · rw [if_pos (by omega), if_pos (by omega)]
              · rw [if_neg (by omega), if_neg (by omega)]
          · unfold lkN
            rw [lk_none (fun q hq => by have := hTno q (List.mem_append_left _ hq); omega)]
            simp only [lk]
            rw [if_pos (by omega)]
            exact hp
        obtain ⟨m, hm, hI⟩ := hI
        rw [step_run (s := (left, p :: r)) e hx hm]
        simp only [ext, if_pos hp]
        refine ⟨?_, fun q hq => ?_, h.before⟩
        · rw [List.reverse_cons, ← List.append_assoc]; exact hI
        · rcases List.mem_cons.1 hq with rfl | hq
          · exact h.own p List.mem_cons_self
          · exact h.own q (List.mem_cons_of_mem _ hq)
      · obtain ⟨m, hm, hI⟩ := hnewC
        rw [step_run (s := (left, p :: r)) e hx hm]
        simp only [ext, if_neg hp]
        exact hI
theorem InvC.go (hJ : okJs jobs) (n : Nat) : ∀ {T : Nat} {left : List Int} {r : List Pc}, InvC jobs inS a T left old r → a ≤ T → (∀ u, a ≤ u → u < T + n → inS u = true) → InvC jobs inS a (T + n) (goM jobs n T (left, r)).1 old (goM jobs n T (left, r)).2 := by
  induction n with
  | zero => intro T left r h _ _; exact h
  | succ n ih =>
    intro T left r h haT hs
    have h1 := h.step hJ haT (fun u h1 h2 => hs u h1 (by omega))
    have := ih h1 (by omega) (fun u h1 h2 => hs u h1 (by omega))
    simp only [goM]
    rw [show T + (n + 1) = T + 1 + n from by omega]
    exact this
end
/-- The shifts are right, from a minute on. -/
def okSh : Int → List Sf → Prop
  | _, [] => True
  | b, x :: l => b ≤ x.frm ∧ x.frm < x.to ∧ okSh x.to l
theorem okSh_mono {b c : Int} (h : c ≤ b) : ∀ {l : List Sf}, okSh b l → okSh c l
  | [], _ => trivial
  | x :: l, ⟨h1, h2, h3⟩ => ⟨by omega, h2, h3⟩
theorem okSh_mem {b : Int} : ∀ {l : List Sf}, okSh b l → ∀ x ∈ l, b ≤ x.frm ∧ x.frm < x.to
  | [], _, x, hx => by cases hx
  | y :: l, ⟨h1, h2, h3⟩, x, hx => by
    rcases List.mem_cons.1 hx with rfl | hx
    · exact ⟨h1, h2⟩
    · have := okSh_mem h3 x hx; omega
/-- What all shifts give. -/
theorem fold_inv {jobs : List Jb} (hJ : okJs jobs) (all : List Sf) : ∀ (l : List Sf) (T : Nat) (left : List Int) (plan : List Pc), okSh T l → (∀ u, T ≤ u → inSB all u = inSB l u) → Inv jobs (inSB all) T left plan →
    ∃ T', Inv jobs (inSB all) T' (l.foldl (fun s x => shiftS jobs x s) (left, plan)).1 (l.foldl (fun s x => shiftS jobs x s) (left, plan)).2 ∧ T ≤ T' ∧ ∀ u, T' ≤ u → inSB all u = false
  | [], T, left, plan, _, he, h => ⟨T, h, Nat.le_refl _, fun u hu => by rw [he u hu]; rfl⟩
  | x :: l, T, left, plan, ⟨h1, h2, h3⟩, he, h => by
    obtain ⟨a, ha⟩ : ∃ a : Nat, x.frm = a := ⟨x.frm.toNat, by omega⟩
    obtain ⟨b, hb⟩ : ∃ b : Nat, x.to = b := ⟨x.to.toNat, by omega⟩
    have hlater : ∀ u : Nat, (u : Int) < x.to → inSB l u = false := fun u hu => by
      apply Bool.eq_false_iff.2
      intro hin
      obtain ⟨y, hy, h4, _⟩ := inSB_iff.1 hin
      have := okSh_mem h3 y hy
      omega
    have hin : ∀ u : Nat, T ≤ u → (u : Int) < x.to → inSB all u = decide (a ≤ u) := fun u h4 h5 => by
      rw [he u h4]
      have := hlater u h5
      unfold inSB at this ⊢
      simp only [List.any_cons, this, Bool.or_false]
      rw [Bool.eq_iff_iff, decide_eq_true_eq, decide_eq_true_eq]
      omega
    have hg := h.gap hJ (a - T) (fun u h4 h5 => by rw [hin u h4 (by omega)]; simp; omega)
    rw [show T + (a - T) = a from by omega] at hg
    have hc : InvC jobs (inSB all) a a left plan [] := ⟨by simpa using hg, fun p hp => (by cases hp), fun p hp => (hg.rng p hp).2.2⟩
    have hgo := hc.go hJ (b - a) (Nat.le_refl _) (fun u h4 h5 => by rw [hin u (by omega) (by omega)]; simp; omega)
    rw [show a + (b - a) = b from by omega] at hgo
    have hI := hgo.inv
    have := fold_inv hJ all l b _ _ (by rw [← hb]; exact h3) (fun u hu => by
      rw [he u (by omega)]
      unfold inSB
      simp only [List.any_cons]
      rw [decide_eq_false (by omega), Bool.false_or]) hI
    obtain ⟨T', g1, g2, g3⟩ := this
    refine ⟨T', ?_, by omega, g3⟩
    simp only [List.foldl_cons]
    have e : shiftS jobs x (left, plan) = ((goM jobs (b - a) (a : Int) (left, [])).1, plan ++ (goM jobs (b - a) (a : Int) (left, [])).2.reverse) := by
      unfold shiftS
      rw [ha, hb, show ((b : Int) - (a : Int)).toNat = b - a from by omega]
    rw [e]
    exact g1
theorem edf_inv {jobs : List Jb} (hJ : okJs jobs) {shifts : List Sf} (hS : okSh 0 shifts) : ∃ T, Inv jobs (inSB shifts) T (edfS jobs shifts).1 (edfS jobs shifts).2 ∧ ∀ u, T ≤ u → inSB shifts u = false := by
  rcases Inv.start (jobs := jobs) (inS := inSB shifts) with h | h
  · obtain ⟨T, h1, _, h2⟩ := fold_inv hJ shifts shifts 0 _ _ hS (fun u _ => rfl) h
    exact ⟨T, h1, h2⟩
  · exact absurd hJ h
/-- The program's slices are earliest due date. -/
theorem edf_edf {jobs : List Jb} (hJ : okJs jobs) {shifts : List Sf} (hS : okSh 0 shifts) : Edf jobs (inSB shifts) (lkN (edfS jobs shifts).2) := by
  obtain ⟨T, h, hT⟩ := edf_inv hJ hS
  refine ⟨fun t ht => ?_, fun t hs he => ?_⟩
  · by_cases htT : t < T
    · exact h.run t htT ht
    · exact absurd (h.lk_T (by omega)) ht
  · by_cases htT : t < T
    · exact h.idle t htT hs he
    · rw [hT t (by omega)] at hs; cases hs
end Go.Proofs.Ythbchbiadcjnkaa

/-
  Schedules as lists of slices: what is valid, when jobs end, and that the slices of earliest due date are valid and as long as can be.
-/
namespace Go.Proofs.Ythbchbiadcjnkaa
/-! ### Minutes of slices -/
def tot (l : List Pc) (k : Int) : Int := match l with
  | [] => 0
  | p :: l => (if p.jb = k then p.to - p.frm else 0) + tot l k
def totD (l : List Pc) (k D : Int) : Int := match l with
  | [] => 0
  | p :: l => (if p.jb = k then min p.to D - min p.frm D else 0) + totD l k D
theorem tot_append (l m : List Pc) (k : Int) : tot (l ++ m) k = tot l k + tot m k := by
  induction l with
  | nil => simp [tot]
  | cons p l ih => simp only [List.cons_append, tot, ih]; omega
theorem sm_iv (a b : Int) (h0 : 0 ≤ a) (h : a ≤ b) (n : Nat) : (sm (fun u => if a ≤ (u : Int) ∧ (u : Int) < b then 1 else 0) n : Int) = min b n - min a n := by
  induction n with
  | zero => simp only [sm]; omega
  | succ n ih =>
    simp only [sm]
    split
    · omega
    · omega
structure Wf (l : List Pc) : Prop where
  wf : l.Pairwise fun p q => p.to ≤ q.frm
  rng : ∀ p ∈ l, 0 ≤ p.frm ∧ p.frm < p.to
theorem Wf.tail {p : Pc} {l : List Pc} (h : Wf (p :: l)) : Wf l := ⟨(List.pairwise_cons.1 h.wf).2, fun q hq => h.rng q (List.mem_cons_of_mem _ hq)⟩
theorem ran_totD {l : List Pc} (h : Wf l) {k : Int} (hk : k ≠ 0) (n : Nat) : (ran (lkN l) k n : Int) = totD l k n := by
  induction l with
  | nil =>
    unfold ran
    have : sm (fun u => if lkN [] u = k then 1 else 0) n = sm (fun _ => 0) n := sm_congr fun u _ => if_neg (fun e => hk (by rw [← e]; rfl))
    rw [this, sm_zero]; rfl
  | cons p l ih =>
    have hp := h.rng p List.mem_cons_self
    have hw := (List.pairwise_cons.1 h.wf).1
    have e : ran (lkN (p :: l)) k n = sm (fun u => (if p.jb = k ∧ p.frm ≤ (u : Int) ∧ (u : Int) < p.to then 1 else 0) + (if lkN l u = k then 1 else 0)) n := sm_congr fun u _ => by
      by_cases hc : p.frm ≤ (u : Int) ∧ (u : Int) < p.to
      · have hv : lkN (p :: l) u = p.jb := if_pos hc
        have hz : lkN l u = 0 := lk_zero (l := l) (fun q hq => by have := hw q hq; omega)
        simp only [hv, hz]
        rw [if_neg (fun e : (0 : Int) = k => hk e.symm)]
        by_cases hj : p.jb = k
        · rw [if_pos hj, if_pos ⟨hj, hc⟩]
        · rw [if_neg hj, if_neg (fun h => hj h.1)]
      · have hv : lkN (p :: l) u = lkN l u := if_neg hc
        simp only [hv]
        rw [if_neg (fun h : p.jb = k ∧ _ => hc h.2)]
        omega
    rw [e, sm_add]
    have ih := ih h.tail
    unfold ran at ih
    simp only [totD]
    rw [Int.natCast_add, ih]
    congr 1
    by_cases hj : p.jb = k
    · rw [if_pos hj]
      rw [← sm_iv p.frm p.to hp.1 (by omega) n]
      congr 1
      exact sm_congr fun u _ => by simp [hj]
    · rw [if_neg hj]
      have : sm (fun u => if p.jb = k ∧ p.frm ≤ (u : Int) ∧ (u : Int) < p.to then 1 else 0) n = sm (fun _ => 0) n := sm_congr fun u _ => if_neg (fun h => hj h.1)
      rw [this, sm_zero]; rfl
theorem totD_le {l : List Pc} (h : ∀ p ∈ l, p.frm ≤ p.to) (k D : Int) : totD l k D ≤ tot l k := by
  induction l with
  | nil => exact Int.le_refl _
  | cons p l ih =>
    have := ih fun q hq => h q (List.mem_cons_of_mem _ hq)
    have := h p List.mem_cons_self
    simp only [tot, totD]
    split <;> omega
theorem totD_eq {l : List Pc} (h : ∀ p ∈ l, p.frm ≤ p.to) {k D : Int} (hD : ∀ p ∈ l, p.jb = k → p.to ≤ D) : totD l k D = tot l k := by
  induction l with
  | nil => rfl
  | cons p l ih =>
    have := ih (fun q hq => h q (List.mem_cons_of_mem _ hq)) (fun q hq => hD q (List.mem_cons_of_mem _ hq))
    have := h p List.mem_cons_self
    have := hD p List.mem_cons_self
    simp only [tot, totD]
    split
    · rename_i e; have := this e; omega
    · omega
theorem totD_lt {l : List Pc} (h : ∀ p ∈ l, p.frm < p.to) {k D : Int} {p : Pc} (hp : p ∈ l) (hk : p.jb = k) (hD : D < p.to) : totD l k D < tot l k := by
  induction l with
  | nil => cases hp
  | cons q l ih =>
    simp only [tot, totD]
    rcases List.mem_cons.1 hp with e | hp'
    · subst e
      have h1 := totD_le (l := l) (fun q hq => Int.le_of_lt (h q (List.mem_cons_of_mem _ hq))) k D
      have h2 := h p List.mem_cons_self
      rw [if_pos hk, if_pos hk]; omega
    · have := ih (fun q hq => h q (List.mem_cons_of_mem _ hq)) hp'
      have := h q List.mem_cons_self
      split <;> omega
theorem tot_nonneg {l : List Pc} (h : ∀ p ∈ l, p.frm < p.to) (k : Int) : 0 ≤ tot l k := by
  induction l with
  | nil => exact Int.le_refl _
  | cons p l ih =>
    have := ih fun q hq => h q (List.mem_cons_of_mem _ hq)
    have := h p List.mem_cons_self
    simp only [tot]
    split <;> omega
/-! ### Valid schedules -/
def befE (l : List Pc) (i : Nat) : Int := if i = 0 then 0 else match l[i - 1]? with
  | some p => p.to
  | none => 0
def withinB (shifts : List Sf) (p : Pc) : Bool := shifts.any fun s => decide (s.frm ≤ p.frm ∧ p.to ≤ s.to)
/-- The i-th slice is right. -/
def okAt (jobs : List Jb) (shifts : List Sf) (l : List Pc) (i : Nat) (p : Pc) : Prop :=
  ∃ x ∈ jobs, x.idn = p.jb ∧ x.rel ≤ p.frm ∧ befE l i ≤ p.frm ∧ p.frm < p.to ∧ withinB shifts p = true ∧ tot (l.take (i + 1)) p.jb ≤ x.mn
def valid (jobs : List Jb) (shifts : List Sf) (l : List Pc) : Prop := ∀ i p, l[i]? = some p → okAt jobs shifts l i p
theorem valid_wf {jobs : List Jb} {shifts : List Sf} {l : List Pc} (h : valid jobs shifts l) : Wf l := by
  have h1 : ∀ i p, l[i]? = some p → befE l i ≤ p.frm ∧ p.frm < p.to ∧ 0 ≤ befE l i := by
    intro i
    induction i with
    | zero => intro p hp; obtain ⟨x, _, _, _, h1, h2, _⟩ := h 0 p hp; exact ⟨h1, h2, by simp [befE]⟩
    | succ i ih =>
      intro p hp
      obtain ⟨x, _, _, _, h1, h2, _⟩ := h _ p hp
      refine ⟨h1, h2, ?_⟩
      have hlt := (List.getElem?_eq_some_iff.1 hp).1
      have hq : l[i]? = some (l[i]'(by omega)) := List.getElem?_eq_getElem (by omega)
      have := ih _ hq
      unfold befE at this ⊢
      rw [if_neg (by omega), Nat.add_sub_cancel, hq]
      dsimp only
      omega
  have h2 : ∀ d i p q, l[i]? = some p → l[i + 1 + d]? = some q → p.to ≤ q.frm := by
    intro d
    induction d with
    | zero =>
      intro i p q hp hq
      have := (h1 _ q hq).1
      unfold befE at this
      rw [if_neg (by omega), show i + 1 + 0 - 1 = i from by omega, hp] at this
      exact this
    | succ d ih =>
      intro i p q hp hq
      have hlt := (List.getElem?_eq_some_iff.1 hq).1
      have hm : l[i + 1 + d]? = some (l[i + 1 + d]'(by omega)) := List.getElem?_eq_getElem (by omega)
      have h3 := ih i p _ hp hm
      have h4 := h1 _ _ hm
      have h5 := (h1 _ q hq).1
      unfold befE at h5
      rw [if_neg (by omega), show i + 1 + (d + 1) - 1 = i + 1 + d from by omega, hm] at h5
      dsimp only at h5
      omega
  refine ⟨List.pairwise_iff_getElem.2 fun i j hi hj hij => ?_, fun p hp => ?_⟩
  · have := h2 (j - i - 1) i _ _ (List.getElem?_eq_getElem hi) (by rw [show i + 1 + (j - i - 1) = j from by omega]; exact List.getElem?_eq_getElem hj)
    exact this
  · obtain ⟨i, hi⟩ := List.getElem?_of_mem hp
    have := h1 i p hi
    omega
theorem tot_take_le {l : List Pc} (h : ∀ p ∈ l, p.frm < p.to) (k : Int) (n : Nat) : tot (l.take n) k ≤ tot l k := by
  have h1 := tot_append (l.take n) (l.drop n) k
  rw [List.take_append_drop] at h1
  have := tot_nonneg (l := l.drop n) (fun p hp => h p (List.mem_of_mem_drop hp)) k
  omega
/-- In a valid schedule no job runs for more than its minutes. -/
theorem valid_tot {jobs : List Jb} {shifts : List Sf} {l : List Pc} (hu : uniq jobs) (h : valid jobs shifts l) {x : Jb} (hx : x ∈ jobs) (hm : 0 ≤ x.mn) : tot l x.idn ≤ x.mn := by
  have hw := valid_wf h
  suffices ∀ n, n ≤ l.length → tot (l.take n) x.idn ≤ x.mn by
    have := this l.length (Nat.le_refl _)
    rwa [List.take_length] at this
  intro n
  induction n with
  | zero => intro _; simpa [tot] using hm
  | succ n ih =>
    intro hn
    have hp : l[n]? = some (l[n]'(by omega)) := List.getElem?_eq_getElem (by omega)
    obtain ⟨y, hy, h1, _, _, _, _, h2⟩ := h n _ hp
    by_cases e : (l[n]'(by omega)).jb = x.idn
    · have := uniq_eq hu hy hx (h1.trans e)
      subst this
      rw [← h1] at h2
      exact h2
    · have h3 : l.take (n + 1) = l.take n ++ [l[n]'(by omega)] := by rw [List.take_add_one, hp]; rfl
      rw [h3, tot_append]
      simp only [tot]
      rw [if_neg e]
      have := ih (by omega)
      omega
theorem valid_sched {jobs : List Jb} {shifts : List Sf} {l : List Pc} (hJ : okJs jobs) (h : valid jobs shifts l) : Sched jobs (inSB shifts) (lkN l) := by
  have hw := valid_wf h
  refine ⟨fun t ht => ?_⟩
  obtain ⟨p, hp, h1, h2, h3⟩ := lk_mem ht
  obtain ⟨i, hi⟩ := List.getElem?_of_mem hp
  obtain ⟨x, hx, g1, g2, _, _, g4, _⟩ := h i p hi
  have g5 : ∃ s ∈ shifts, s.frm ≤ p.frm ∧ p.to ≤ s.to := by simpa [withinB] using g4
  obtain ⟨s, hs, g6, g7⟩ := g5
  refine ⟨inSB_iff.2 ⟨s, hs, by omega, by omega⟩, x, hx, g1.trans h1, by omega, ?_⟩
  have hx0 := hJ.pos x hx
  rw [ran_totD hw (by omega)]
  have := totD_lt (l := l) (fun p hp => (hw.rng p hp).2) (k := x.idn) (D := t) hp g1.symm h3
  have := valid_tot hJ.uni h hx hx0.2.1
  omega
/-! ### Ends -/
def lastTo (l : List Pc) (k : Int) : Option Int := match l with
  | [] => none
  | p :: l => match lastTo l k with
    | some b => some b
    | none => if p.jb = k then some p.to else none
def endOf (l : List Pc) (x : Jb) : Int := match lastTo l x.idn with
  | some b => if tot l x.idn = x.mn then b else -1
  | none => -1
theorem lastTo_none {l : List Pc} {k : Int} (h : lastTo l k = none) : ∀ p ∈ l, p.jb ≠ k := by
  induction l with
  | nil => intro p hp; cases hp
  | cons q l ih =>
    simp only [lastTo] at h
    split at h
    · cases h
    · rename_i h1
      split at h
      · cases h
      · rename_i h2
        intro p hp
        rcases List.mem_cons.1 hp with e | hp
        · subst e; exact h2
        · exact ih h1 p hp
theorem lastTo_some {l : List Pc} (hw : Wf l) {k b : Int} (h : lastTo l k = some b) : (∃ p ∈ l, p.jb = k ∧ p.to = b) ∧ ∀ p ∈ l, p.jb = k → p.to ≤ b := by
  induction l with
  | nil => cases h
  | cons q l ih =>
    simp only [lastTo] at h
    split at h
    · rename_i b' h1
      injection h with h
      subst h
      obtain ⟨⟨p, hp, h2, h3⟩, h4⟩ := ih hw.tail h1
      refine ⟨⟨p, List.mem_cons_of_mem _ hp, h2, h3⟩, fun p' hp' hk => ?_⟩
      rcases List.mem_cons.1 hp' with e | hp'
      · subst e
        have h5 := (List.pairwise_cons.1 hw.wf).1 p hp
        have h6 := hw.rng p (List.mem_cons_of_mem _ hp)
        omega
      · exact h4 p' hp' hk
    · rename_i h1
      split at h
      · rename_i hk
        injection h with h
        subst h
        refine ⟨⟨q, List.mem_cons_self, hk, rfl⟩, fun p hp hk' => ?_⟩
        rcases List.mem_cons.1 hp with e | hp
        · subst e; exact Int.le_refl _
        · exact absurd hk' (lastTo_none h1 p hp)
      · cases h
theorem tot_none {l : List Pc} {k : Int} (h : ∀ p ∈ l, p.jb ≠ k) : tot l k = 0 := by
  induction l with
  | nil => rfl
  | cons p l ih =>
    simp only [tot]
    rw [if_neg (h p List.mem_cons_self), ih fun q hq => h q (List.mem_cons_of_mem _ hq)]
    rfl
/-- A job has ended by D exactly if it has run for all its minutes before D. -/
theorem end_iff {l : List Pc} (hw : Wf l) {x : Jb} (hx : x.idn ≠ 0) (hm : 1 ≤ x.mn) (ht : tot l x.idn ≤ x.mn) (D : Nat) : ((ran (lkN l) x.idn D : Int) = x.mn) ↔ (0 ≤ endOf l x ∧ endOf l x ≤ D) := by
  rw [ran_totD hw hx]
  have hlt : ∀ p ∈ l, p.frm < p.to := fun p hp => (hw.rng p hp).2
  have hle := totD_le (l := l) (fun p hp => Int.le_of_lt (hlt p hp)) x.idn D
  unfold endOf
  cases hl : lastTo l x.idn with
  | none =>
    have := tot_none (lastTo_none hl)
    dsimp only
    constructor
    · intro h; omega
    · intro h; omega
  | some b =>
    obtain ⟨⟨p, hp, h1, h2⟩, h3⟩ := lastTo_some hw hl
    have hpr := hw.rng p hp
    dsimp only
    constructor
    · intro h
      rw [if_pos (by omega)]
      refine ⟨by omega, Int.not_lt.1 fun hlt' => ?_⟩
      have := totD_lt hlt hp h1 (show (D : Int) < p.to by omega)
      omega
    · intro h
      split at h
      · rename_i ht
        rw [totD_eq (fun p hp => Int.le_of_lt (hlt p hp)) (fun p hp hk => Int.le_trans (h3 p hp hk) h.2)]
        exact ht
      · omega
/-! ### The slices of earliest due date: valid, and as long as can be -/
def adj : List Pc → Prop
  | p :: q :: l => p.jb ≠ q.jb ∧ adj (q :: l)
  | _ => True
theorem adj_ext {r : List Pc} (h : adj r) (k a b : Int) : adj (ext r k a b) := by
  cases r with
  | nil => trivial
  | cons p r =>
    simp only [ext]
    split
    · cases r with
      | nil => trivial
      | cons q r => exact ⟨h.1, h.2⟩
    · rename_i hk
      exact ⟨fun e => hk e.symm, h⟩
theorem adj_go (jobs : List Jb) (n : Nat) : ∀ (t : Int) (s : List Int × List Pc), adj s.2 → adj (goM jobs n t s).2 := by
  induction n with
  | zero => intro t s h; exact h
  | succ n ih =>
    intro t s h
    simp only [goM]
    refine ih _ _ ?_
    unfold stepM
    split
    · split
      · exact h
      · exact adj_ext h _ _ _
    · exact h
theorem adj_spec {l : List Pc} (h : adj l) : ∀ (i : Nat) (p q : Pc), l[i]? = some p → l[i + 1]? = some q → p.jb ≠ q.jb := by
  induction l with
  | nil => intro i p q hp; simp at hp
  | cons x l ih =>
    cases l with
    | nil => intro i p q _ hq; simp at hq
    | cons y l =>
      intro i p q hp hq
      cases i with
      | zero => simp at hp hq; subst hp; subst hq; exact h.1
      | succ i => exact ih h.2 i p q (by simpa using hp) (by simpa using hq)
/-- Between neighbours of one job a shift begins. -/
def Cut (all : List Sf) (l : List Pc) : Prop := ∀ (i : Nat) (p q : Pc), l[i]? = some p → l[i + 1]? = some q → p.jb = q.jb → ∃ s ∈ all, p.to ≤ s.frm ∧ s.frm ≤ q.frm
theorem fold_cut {jobs : List Jb} (hJ : okJs jobs) (all : List Sf) : ∀ (l : List Sf) (T : Nat) (left : List Int) (plan : List Pc), okSh T l → (∀ s ∈ l, s ∈ all) → (∀ u, T ≤ u → inSB all u = inSB l u) → Inv jobs (inSB all) T left plan → Cut all plan → (∀ p ∈ plan, withinB all p = true) →
    Cut all (l.foldl (fun s x => shiftS jobs x s) (left, plan)).2 ∧ ∀ p ∈ (l.foldl (fun s x => shiftS jobs x s) (left, plan)).2, withinB all p = true
  | [], T, left, plan, _, _, he, h, hc, hwi => ⟨hc, hwi⟩
  | x :: l, T, left, plan, ⟨h1, h2, h3⟩, hall, he, h, hcut, hwi => by
    obtain ⟨a, ha⟩ : ∃ a : Nat, x.frm = a := ⟨x.frm.toNat, by omega⟩
    obtain ⟨b, hb⟩ : ∃ b : Nat, x.to = b := ⟨x.to.toNat, by omega⟩
    have hlater : ∀ u : Nat, (u : Int) < x.to → inSB l u = false := fun u hu => by
      apply Bool.eq_false_iff.2
      intro hin
      obtain ⟨y, hy, h4, _⟩ := inSB_iff.1 hin
      have := okSh_mem h3 y hy
      omega
    have hin : ∀ u : Nat, T ≤ u → (u : Int) < x.to → inSB all u = decide (a ≤ u) := fun u h4 h5 => by
      rw [he u h4]
      have := hlater u h5
      unfold inSB at this ⊢
      simp only [List.any_cons, this, Bool.or_false]
      rw [Bool.eq_iff_iff, decide_eq_true_eq, decide_eq_true_eq]
      omega
    have hg := h.gap hJ (a - T) (fun u h4 h5 => by rw [hin u h4 (by omega)]; simp; omega)
    rw [show T + (a - T) = a from by omega] at hg
    have hc : InvC jobs (inSB all) a a left plan [] := ⟨by simpa using hg, fun p hp => (by cases hp), fun p hp => (hg.rng p hp).2.2⟩
    have hgo := hc.go hJ (b - a) (Nat.le_refl _) (fun u h4 h5 => by rw [hin u (by omega) (by omega)]; simp; omega)
    rw [show a + (b - a) = b from by omega] at hgo
    have hI := hgo.inv
    have hadj := adj_go jobs (b - a) (a : Int) (left, []) trivial
    have hown := hgo.own
    have e : shiftS jobs x (left, plan) = ((goM jobs (b - a) (a : Int) (left, [])).1, plan ++ (goM jobs (b - a) (a : Int) (left, [])).2.reverse) := by
      unfold shiftS
      rw [ha, hb, show ((b : Int) - (a : Int)).toNat = b - a from by omega]
    simp only [List.foldl_cons]
    rw [e]
    generalize (goM jobs (b - a) (a : Int) (left, [])).1 = left' at *
    generalize (goM jobs (b - a) (a : Int) (left, [])).2 = r at *
    refine fold_cut hJ all l b _ _ (by rw [← hb]; exact h3) (fun s hs => hall s (List.mem_cons_of_mem _ hs)) (fun u hu => by
      rw [he u (by omega)]
      unfold inSB
      simp only [List.any_cons]
      rw [decide_eq_false (by omega), Bool.false_or]) hI (fun i p q hp hq hpq => ?_) (fun p hp => ?_)
    · by_cases hi1 : i + 1 < plan.length
      · rw [List.getElem?_append_left (by omega)] at hp
        rw [List.getElem?_append_left hi1] at hq
        exact hcut i p q hp hq hpq
      · by_cases hi0 : i < plan.length
        · rw [List.getElem?_append_left hi0] at hp
          rw [List.getElem?_append_right (by omega)] at hq
          have hpm := List.mem_of_getElem? hp
          have hqm := List.mem_reverse.1 (List.mem_of_getElem? hq)
          have := hgo.before p hpm
          have := hown q hqm
          exact ⟨x, hall x List.mem_cons_self, by omega, by omega⟩
        · exfalso
          rw [List.getElem?_append_right (by omega)] at hp hq
          have hlt := (List.getElem?_eq_some_iff.1 hq).1
          rw [List.length_reverse] at hlt
          rw [List.getElem?_reverse (by omega)] at hp hq
          refine adj_spec hadj (r.length - 1 - (i + 1 - plan.length)) q p hq ?_ hpq.symm
          rw [← hp]
          congr 1
          omega
    · rcases List.mem_append.1 hp with hp' | hp'
      · exact hwi p hp'
      · have h4 := hown p (List.mem_reverse.1 hp')
        have h5 := (hI.rng p hp).2.2
        exact List.any_eq_true.2 ⟨x, hall x List.mem_cons_self, decide_eq_true ⟨by omega, by omega⟩⟩
theorem edf_cut {jobs : List Jb} (hJ : okJs jobs) {shifts : List Sf} (hS : okSh 0 shifts) : Cut shifts (edfS jobs shifts).2 ∧ ∀ p ∈ (edfS jobs shifts).2, withinB shifts p = true := by
  rcases Inv.start (jobs := jobs) (inS := inSB shifts) with h | h
  · exact fold_cut hJ shifts shifts 0 _ _ hS (fun s h => h) (fun u _ => rfl) h (fun i p q hp => by simp at hp) (fun p hp => by cases hp)
  · exact absurd hJ h
theorem edf_valid {jobs : List Jb} (hJ : okJs jobs) {shifts : List Sf} (hS : okSh 0 shifts) : valid jobs shifts (edfS jobs shifts).2 := by
  obtain ⟨T, h, hT⟩ := edf_inv hJ hS
  obtain ⟨_, hwi⟩ := edf_cut hJ hS
  generalize (edfS jobs shifts).2 = l at *
  intro i p hp
  have hpm := List.mem_of_getElem? hp
  obtain ⟨x, hx, h1, h2⟩ := h.ids p hpm
  have hr := h.rng p hpm
  refine ⟨x, hx, h1, h2, ?_, hr.2.1, hwi p hpm, ?_⟩
  · unfold befE
    split
    · exact hr.1
    · rename_i hi
      obtain ⟨hlt, hpe⟩ := List.getElem?_eq_some_iff.1 hp
      rw [List.getElem?_eq_getElem (show i - 1 < l.length by omega)]
      dsimp only
      have := List.pairwise_iff_getElem.1 h.wf (i - 1) i (by omega) hlt (by omega)
      rw [hpe] at this
      exact this
  · have hw : Wf l := ⟨h.wf, fun p hp => ⟨(h.rng p hp).1, (h.rng p hp).2.1⟩⟩
    have h3 := tot_take_le (l := l) (fun p hp => (h.rng p hp).2.1) p.jb (i + 1)
    have h4 := h.le x hx
    have hx0 := (hJ.pos x hx).1
    rw [ran_totD hw (by omega), totD_eq (fun p hp => Int.le_of_lt (h.rng p hp).2.1) (fun p hp _ => (h.rng p hp).2.2)] at h4
    rw [← h1] at h3 ⊢
    omega
/-- No two slices could be one. -/
theorem cut_sharp {shifts : List Sf} (hS : okSh 0 shifts) {l : List Pc} (hc : Cut shifts l) {i : Nat} {p q : Pc} (hp : l[i]? = some p) (hq : l[i + 1]? = some q) (hj : p.jb = q.jb) (ht : p.to = q.frm) : ∀ s ∈ shifts, ¬ (s.frm < q.frm ∧ q.frm < s.to) := by
  obtain ⟨s, hs, h1, h2⟩ := hc i p q hp hq hj
  intro s' hs' h3
  clear hc hp hq
  have h4 : s.frm = q.frm := by omega
  clear h1 h2
  generalize (0 : Int) = c at hS
  induction shifts generalizing c with
  | nil => cases hs
  | cons y l' ih =>
    obtain ⟨g1, g2, g3⟩ := hS
    rcases List.mem_cons.1 hs with e | hs1 <;> rcases List.mem_cons.1 hs' with e' | hs2
    · subst e; subst e'; omega
    · subst e; have := okSh_mem g3 s' hs2; omega
    · subst e'; have := okSh_mem g3 s hs1; omega
    · exact ih hs1 hs2 _ g3
end Go.Proofs.Ythbchbiadcjnkaa

/-
  Earliest due date is unique: the same for each order of the jobs; moved in time; with a shift more.
-/
namespace Go.Proofs.Ythbchbiadcjnkaa
theorem edf_ids {jobs : List Jb} (hJ : okJs jobs) {shifts : List Sf} (hS : okSh 0 shifts) : ∀ p ∈ (edfS jobs shifts).2, p.jb ≠ 0 := fun p hp => by
  obtain ⟨T, h, _⟩ := edf_inv hJ hS
  obtain ⟨x, hx, e, _⟩ := h.ids p hp
  have := (hJ.pos x hx).1
  omega
/-! ### Moved in time -/
def mvJ (d : Int) (x : Jb) : Jb := { x with rel := x.rel + d, due := x.due + d }
def mvS (d : Int) (x : Sf) : Sf := ⟨x.frm + d, x.to + d⟩
def mvP (d : Int) (x : Pc) : Pc := ⟨x.jb, x.frm + d, x.to + d⟩
theorem earl_mv (d : Int) (x y : Jb) : earl (mvJ d x) (mvJ d y) ↔ earl x y := by unfold earl mvJ; dsimp only; omega
theorem runK_mv (jobs : List Jb) (left : List Int) (t d : Int) (k : Nat) : runK (jobs.map (mvJ d)) left (t + d) k = runK jobs left t k := by
  induction k with
  | zero => rfl
  | succ k ih =>
    unfold runK
    rw [ih]
    simp only [List.getElem?_map]
    cases jobs[k]? with
    | none => rfl
    | some x =>
      cases left[k]? with
      | none => rfl
      | some m =>
        simp only [Option.map_some]
        have h1 : (t + d < (mvJ d x).rel ∨ m = 0) ↔ (t < x.rel ∨ m = 0) := by show (t + d < x.rel + d ∨ m = 0) ↔ _; omega
        by_cases hc : t < x.rel ∨ m = 0
        · rw [if_pos hc, if_pos (h1.2 hc)]
        · rw [if_neg hc, if_neg (fun h => hc (h1.1 h))]
          cases jobs[(runK jobs left t k).toNat]? with
          | none => rfl
          | some y =>
            simp only [Option.map_some]
            by_cases he : runK jobs left t k < 0 ∨ earl x y
            · rw [if_pos he, if_pos (he.imp id (earl_mv d x y).2)]
            · rw [if_neg he, if_neg (fun h => he (h.imp id (earl_mv d x y).1))]
theorem ext_mv (d : Int) (r : List Pc) (k a b : Int) : ext (r.map (mvP d)) k (a + d) (b + d) = (ext r k a b).map (mvP d) := by
  cases r with
  | nil => rfl
  | cons p r =>
    simp only [ext, List.map_cons]
    by_cases h : p.jb = k
    · rw [if_pos h, if_pos (show (mvP d p).jb = k from h)]; rfl
    · rw [if_neg h, if_neg (show ¬ (mvP d p).jb = k from h)]; rfl
theorem step_mv (jobs : List Jb) (d t : Int) (s : List Int × List Pc) : stepM (jobs.map (mvJ d)) (t + d) (s.1, s.2.map (mvP d)) = ((stepM jobs t s).1, (stepM jobs t s).2.map (mvP d)) := by
  unfold stepM
  simp only [List.length_map, runK_mv, List.getElem?_map]
  cases jobs[(runK jobs s.1 t jobs.length).toNat]? with
  | none => rfl
  | some x =>
    cases s.1[(runK jobs s.1 t jobs.length).toNat]? with
    | none => rfl
    | some m =>
      simp only [Option.map_some]
      by_cases hc : runK jobs s.1 t jobs.length < 0
      · rw [if_pos hc, if_pos hc]
      · rw [if_neg hc, if_neg hc]
        dsimp only
        rw [← ext_mv, show t + d + 1 = t + 1 + d from by omega]
        rfl
theorem go_mv (jobs : List Jb) (d : Int) (n : Nat) : ∀ (t : Int) (s : List Int × List Pc), goM (jobs.map (mvJ d)) n (t + d) (s.1, s.2.map (mvP d)) = ((goM jobs n t s).1, (goM jobs n t s).2.map (mvP d)) := by
  induction n with
  | zero => intro t s; rfl
  | succ n ih =>
    intro t s
    simp only [goM]
    rw [step_mv, show t + d + 1 = t + 1 + d from by omega]
    exact ih (t + 1) (stepM jobs t s)
theorem shift_mv (jobs : List Jb) (d : Int) (x : Sf) (s : List Int × List Pc) : shiftS (jobs.map (mvJ d)) (mvS d x) (s.1, s.2.map (mvP d)) = ((shiftS jobs x s).1, (shiftS jobs x s).2.map (mvP d)) := by
  unfold shiftS
  have h := go_mv jobs d (x.to - x.frm).toNat x.frm (s.1, [])
  simp only [List.map_nil] at h
  have e : ((mvS d x).to - (mvS d x).frm).toNat = (x.to - x.frm).toNat := by unfold mvS; dsimp only; congr 1; omega
  have e2 : (mvS d x).frm = x.frm + d := rfl
  rw [e, e2]
  simp only [h, List.map_append, List.map_reverse]
theorem fold_mv (jobs : List Jb) (d : Int) (l : List Sf) : ∀ s : List Int × List Pc, (l.map (mvS d)).foldl (fun s x => shiftS (jobs.map (mvJ d)) x s) (s.1, s.2.map (mvP d)) = ((l.foldl (fun s x => shiftS jobs x s) s).1, (l.foldl (fun s x => shiftS jobs x s) s).2.map (mvP d)) := by
  induction l with
  | nil => intro s; rfl
  | cons x l ih =>
    intro s
    simp only [List.map_cons, List.foldl_cons]
    rw [shift_mv]
    exact ih (shiftS jobs x s)
theorem edf_mv (jobs : List Jb) (shifts : List Sf) (d : Int) : (edfS (jobs.map (mvJ d)) (shifts.map (mvS d))).2 = (edfS jobs shifts).2.map (mvP d) := by
  have h := fold_mv jobs d shifts (jobs.map (·.mn), [])
  simp only [List.map_nil] at h
  unfold edfS
  rw [show (jobs.map (mvJ d)).map (·.mn) = jobs.map (·.mn) from by rw [List.map_map]; rfl, h]
/-! ### One shift more, when nothing is left -/
theorem go_done {jobs : List Jb} {s : List Int × List Pc} (h : ∀ m ∈ s.1, m = 0) : ∀ (n : Nat) (t : Int), goM jobs n t s = s := by
  have h1 : ∀ t, runK jobs s.1 t jobs.length < 0 := fun t => by
    rcases runK_spec jobs s.1 t jobs.length with ⟨e, _⟩ | ⟨i, x, e, _, _, ⟨_, m, _, hm, _, hm0⟩, _⟩
    · rw [e]; omega
    · exact absurd (h m (List.mem_of_getElem? hm)) hm0
  intro n
  induction n with
  | zero => intro t; rfl
  | succ n ih => intro t; simp only [goM]; rw [step_idle (h1 t)]; exact ih _
theorem edf_more {jobs : List Jb} {shifts : List Sf} (h : ∀ m ∈ (edfS jobs shifts).1, m = 0) (x : Sf) : (edfS jobs (shifts ++ [x])).2 = (edfS jobs shifts).2 := by
  have e : edfS jobs (shifts ++ [x]) = shiftS jobs x (edfS jobs shifts) := by unfold edfS; rw [List.foldl_append]; rfl
  rw [e]
  have h1 := go_done (jobs := jobs) (s := ((edfS jobs shifts).1, [])) h (x.to - x.frm).toNat x.frm
  unfold shiftS
  rw [h1]
  simp
/-! ### Late jobs and overfull intervals -/
def lateB (l : List Pc) (x : Jb) : Bool := decide (endOf l x < 0 ∨ x.due < endOf l x)
structure okJd (jobs : List Jb) : Prop where
  js : okJs jobs
  more : ∀ x ∈ jobs, 1 ≤ x.mn ∧ 0 ≤ x.due
theorem late_iff {jobs : List Jb} (hJ : okJd jobs) {shifts : List Sf} {l : List Pc} (h : valid jobs shifts l) {x : Jb} (hx : x ∈ jobs) : lateB l x = false ↔ (ran (lkN l) x.idn x.due.toNat : Int) = x.mn := by
  have h1 := hJ.js.pos x hx
  have h2 := hJ.more x hx
  rw [end_iff (valid_wf h) (by omega) h2.1 (valid_tot hJ.js.uni h hx (by omega))]
  unfold lateB
  rw [decide_eq_false_iff_not]
  omega
def need (jobs : List Jb) (a : Nat) (b : Int) : Nat := lsum (fun y => y.mn.toNat) (jobs.filter (inIv a b))
theorem lsum_filter_le {α : Type} (f : α → Nat) (p q : α → Bool) (l : List α) (h : ∀ x ∈ l, p x = true → q x = true) : lsum f (l.filter p) ≤ lsum f (l.filter q) := by
  induction l with
  | nil => exact Nat.le_refl _
  | cons x l ih =>
    have ih := ih fun y hy => h y (List.mem_cons_of_mem _ hy)
    have hx := h x List.mem_cons_self
    simp only [List.filter_cons]
    cases hp : p x
    · cases q x
      · exact ih
      · exact Nat.le_trans ih (Nat.le_add_left _ _)
    · rw [hx hp]; exact Nat.add_le_add_left ih _
/-- A late job shows an overfull interval, from a release to a due date. -/
theorem over_late {jobs : List Jb} (hJ : okJd jobs) {shifts : List Sf} (hS : okSh 0 shifts) {x : Jb} (hx : x ∈ jobs) (hl : lateB (edfS jobs shifts).2 x = true) :
    ∃ y ∈ jobs, y.due ≤ x.due ∧ supp (inSB shifts) y.rel.toNat x.due.toNat < need jobs y.rel.toNat x.due := by
  have hpos : ∀ x ∈ jobs, x.idn ≠ 0 ∧ 0 ≤ x.mn ∧ 0 ≤ x.rel := fun x hx => by have := hJ.js.pos x hx; omega
  have hne : ¬ (ran (lkN (edfS jobs shifts).2) x.idn x.due.toNat : Int) = x.mn := fun e => by
    rw [(late_iff hJ (edf_valid hJ.js hS) hx).2 e] at hl; cases hl
  have hle := ran_le hJ.js.uni (edf_edf hJ.js hS).sched (fun x hx => ⟨(hpos x hx).1, (hpos x hx).2.1⟩) hx x.due.toNat
  obtain ⟨t, h1, h2, h3⟩ := over_of_late hJ.js.uni (edf_edf hJ.js hS) hpos hx x.due.toNat (by omega)
  -- the least release from t on, of the jobs in question
  have hmin : ∀ S : List Jb, S ≠ [] → ∃ y ∈ S, ∀ z ∈ S, y.rel ≤ z.rel := by
    intro S
    induction S with
    | nil => intro h; exact absurd rfl h
    | cons z S ih =>
      intro _
      by_cases hS : S = []
      · subst hS; exact ⟨z, List.mem_cons_self, fun w hw => by rw [List.mem_singleton] at hw; subst hw; exact Int.le_refl _⟩
      · obtain ⟨y, hy, h⟩ := ih hS
        by_cases hc : z.rel ≤ y.rel
        · exact ⟨z, List.mem_cons_self, fun w hw => by
            rcases List.mem_cons.1 hw with e | hw
            · subst e; exact Int.le_refl _
            · exact Int.le_trans hc (h w hw)⟩
        · exact ⟨y, List.mem_cons_of_mem _ hy, fun w hw => by
            rcases List.mem_cons.1 hw with e | hw
            · subst e; omega
            · exact h w hw⟩
  obtain ⟨y, hy, h4⟩ := hmin (jobs.filter (inIv t x.due)) (fun e => by rw [e] at h3; simp [lsum] at h3)
  obtain ⟨hyj, hyi⟩ := List.mem_filter.1 hy
  have hyi := of_decide_eq_true hyi
  refine ⟨y, hyj, hyi.2, Nat.lt_of_le_of_lt (supp_mono (show t ≤ y.rel.toNat by omega)) (Nat.lt_of_lt_of_le h3 (lsum_filter_le _ _ _ _ fun z hz hzi => ?_))⟩
  have h5 := h4 z (List.mem_filter.2 ⟨hz, hzi⟩)
  have h6 := of_decide_eq_true hzi
  have h7 := (hJ.js.pos y hyj).2.2
  exact decide_eq_true ⟨by omega, h6.2⟩
/-- An overfull interval shows that a job is late in each valid schedule. -/
theorem late_over {jobs : List Jb} (hJ : okJd jobs) {shifts : List Sf} {l : List Pc} (h : valid jobs shifts l) {a b : Nat} (ho : supp (inSB shifts) a b < need jobs a b) : ∃ x ∈ jobs, lateB l x = true := by
  apply Classical.byContradiction
  intro hno
  have hall : ∀ x ∈ jobs, (ran (lkN l) x.idn x.due.toNat : Int) = x.mn := fun x hx => (late_iff hJ h hx).1 (by
    cases hb : lateB l x
    · rfl
    · exact absurd ⟨x, hx, hb⟩ hno)
  have := not_over hJ.js.uni (valid_sched hJ.js h) (fun x hx => by have := (hJ.js.pos x hx).1; omega) hall a b
  unfold need at ho
  omega
end Go.Proofs.Ythbchbiadcjnkaa

/-
  What is right: jobs, shifts; the first that is wrong. No program in sight.
-/
namespace Go.Proofs.Ythbchbiadcjnkaa
def okJ (x : Jb) : Prop := 1 ≤ x.idn ∧ x.idn ≤ 999999 ∧ 1 ≤ x.mn ∧ x.mn ≤ 100000 ∧ 0 ≤ x.rel ∧ x.rel ≤ 1051898399 ∧ 0 ≤ x.due ∧ x.due ≤ 1051898399
instance (x : Jb) : Decidable (okJ x) := by unfold okJ; exact inferInstance
def okS (b : Int) (x : Sf) : Prop := b ≤ x.frm ∧ x.frm < x.to ∧ x.to ≤ 1051898399
instance (b : Int) (x : Sf) : Decidable (okS b x) := by unfold okS; exact inferInstance
def wjF : List Int → List Jb → Nat → Int × Bool
  | _, [], _ => (0, false)
  | seen, x :: l, i => if okJ x ∧ x.idn ∉ seen then wjF (seen ++ [x.idn]) l (i + 1) else ((i : Int), true)
def wsF : Int → List Sf → Nat → Int × Bool
  | _, [], _ => (0, false)
  | b, x :: l, i => if okS b x then wsF x.to l (i + 1) else ((i : Int), true)
def allF (jobs : List Jb) (shifts : List Sf) : Int × Int :=
  if 200 < jobs.length ∨ 200 < shifts.length then (0, 5) else if (wjF [] jobs 0).2 = true then ((wjF [] jobs 0).1, 300) else if (wsF 0 shifts 0).2 = true then ((wsF 0 shifts 0).1, 301) else (0, 0)
theorem wjF_ok : ∀ (seen : List Int) (l : List Jb) (i : Nat), (wjF seen l i).2 = false → (∀ x ∈ l, okJ x ∧ x.idn ∉ seen) ∧ uniq l
  | _, [], _, _ => ⟨fun x hx => by simp at hx, List.Pairwise.nil⟩
  | seen, y :: l, i, h => by
    unfold wjF at h
    split at h
    · rename_i hy
      obtain ⟨h1, h2⟩ := wjF_ok (seen ++ [y.idn]) l (i + 1) h
      refine ⟨fun x hx => ?_, List.pairwise_cons.2 ⟨fun x hx e => ?_, h2⟩⟩
      · rcases List.mem_cons.1 hx with rfl | hx
        · exact hy
        · exact ⟨(h1 x hx).1, fun hm => (h1 x hx).2 (List.mem_append.2 (.inl hm))⟩
      · exact (h1 x hx).2 (List.mem_append.2 (.inr (List.mem_singleton.2 e.symm)))
    · cases h
theorem wsF_ok : ∀ (b : Int) (l : List Sf) (i : Nat), (wsF b l i).2 = false → okSh b l ∧ ∀ x ∈ l, x.to ≤ 1051898399
  | _, [], _, _ => ⟨trivial, fun x hx => by simp at hx⟩
  | b, y :: l, i, h => by
    unfold wsF at h
    split at h
    · rename_i hy
      obtain ⟨h1, h2⟩ := wsF_ok y.to l (i + 1) h
      exact ⟨⟨hy.1, hy.2.1, h1⟩, fun x hx => by
        rcases List.mem_cons.1 hx with rfl | hx
        · exact hy.2.2
        · exact h2 x hx⟩
    · cases h
theorem allF_ok {jobs : List Jb} {shifts : List Sf} (h : (allF jobs shifts).2 = 0) : jobs.length ≤ 200 ∧ shifts.length ≤ 200 ∧ (∀ x ∈ jobs, okJ x) ∧ uniq jobs ∧ okSh 0 shifts ∧ ∀ x ∈ shifts, x.to ≤ 1051898399 := by
  unfold allF at h
  split at h
  · exact absurd (show (5 : Int) = 0 from h) (by decide)
  · split at h
    · exact absurd (show (300 : Int) = 0 from h) (by decide)
    · split at h
      · exact absurd (show (301 : Int) = 0 from h) (by decide)
      · rename_i h1 h2 h3
        obtain ⟨a1, a2⟩ := wjF_ok [] jobs 0 (Bool.eq_false_iff.2 h2)
        obtain ⟨b1, b2⟩ := wsF_ok 0 shifts 0 (Bool.eq_false_iff.2 h3)
        exact ⟨by omega, by omega, fun x hx => (a1 x hx).1, a2, b1, b2⟩
theorem allF_jd {jobs : List Jb} {shifts : List Sf} (h : (allF jobs shifts).2 = 0) : okJd jobs := by
  obtain ⟨_, _, h1, h2, _⟩ := allF_ok h
  refine ⟨⟨h2, fun x hx => ?_⟩, fun x hx => ?_⟩
  · have := h1 x hx; unfold okJ at this; omega
  · have := h1 x hx; unfold okJ at this; omega
/-- The first release behind a minute. -/
def relF (l : List Jb) (t : Int) : Int := l.foldl (fun m x => if t < x.rel then min m x.rel else m) 1051898400
theorem relF_snoc (l : List Jb) (x : Jb) (t : Int) : relF (l ++ [x]) t = if t < x.rel then min (relF l t) x.rel else relF l t := by unfold relF; rw [List.foldl_append]; rfl
theorem relF_le (l : List Jb) (t : Int) : relF l t ≤ 1051898400 ∧ ∀ x ∈ l, t < x.rel → relF l t ≤ x.rel := by
  have key : ∀ n, relF (l.take n) t ≤ 1051898400 ∧ ∀ x ∈ l.take n, t < x.rel → relF (l.take n) t ≤ x.rel := by
    intro n
    induction n with
    | zero => exact ⟨by unfold relF; simp, fun x hx => by simp at hx⟩
    | succ n ih =>
      cases hx : l[n]? with
      | none => 
        rw [List.getElem?_eq_none_iff] at hx
        rw [List.take_of_length_le (by omega)] at ih ⊢
        exact ih
      | some y =>
        have e : l.take (n + 1) = l.take n ++ [y] := by rw [List.take_add_one, hx]; rfl
        rw [e, relF_snoc]
        refine ⟨by split <;> omega, fun x hx ht => ?_⟩
        rcases List.mem_append.1 hx with hx | hx
        · have := ih.2 x hx ht
          split <;> omega
        · rw [List.mem_singleton] at hx
          subst hx
          rw [if_pos ht]
          omega
  have := key l.length
  rwa [List.take_length] at this
theorem relF_gt (l : List Jb) (t : Int) (ht : t < 1051898400) : t < relF l t := by
  have key : ∀ n, t < relF (l.take n) t := by
    intro n
    induction n with
    | zero => unfold relF; simpa using ht
    | succ n ih =>
      cases hx : l[n]? with
      | none => 
        rw [List.getElem?_eq_none_iff] at hx
        rw [List.take_of_length_le (by omega)] at ih ⊢
        exact ih
      | some y =>
        have e : l.take (n + 1) = l.take n ++ [y] := by rw [List.take_add_one, hx]; rfl
        rw [e, relF_snoc]
        split <;> omega
  have := key l.length
  rwa [List.take_length] at this
end Go.Proofs.Ythbchbiadcjnkaa

/-
  One shift, step by step as the program goes. No program in sight.
-/
namespace Go.Proofs.Ythbchbiadcjnkaa
structure MI (jobs : List Jb) (x : Sf) (L0 : List Int) (t : Int) (left : List Int) (r : List Pc) : Prop where
  run : goM jobs (t - x.frm).toNat x.frm (L0, []) = (left, r)
  len : left.length = jobs.length
  nn : ∀ m ∈ left, 0 ≤ m ∧ m ≤ 100000
  rl : (r.length : Int) ≤ t - x.frm
  le : x.frm ≤ t ∧ t ≤ x.to
theorem ext_len (r : List Pc) (k a b : Int) : (ext r k a b).length ≤ r.length + 1 := by
  unfold ext
  cases r with
  | nil => simp
  | cons p r => dsimp only; split <;> simp
variable {jobs : List Jb} {x : Sf} {L0 : List Int} {t : Int} {left : List Int} {r : List Pc}
theorem MI.start (hL : L0.length = jobs.length) (hn : ∀ m ∈ L0, 0 ≤ m ∧ m ≤ 100000) (hx : x.frm < x.to) : MI jobs x L0 x.frm L0 [] where
  run := by rw [Int.sub_self]; rfl
  len := hL
  nn := hn
  rl := by simp
  le := by omega
theorem MI.idle (h : MI jobs x L0 t left r) {u : Int} (hr : runK jobs left t jobs.length < 0) (h1 : t ≤ u) (h2 : u ≤ x.to) (h3 : ∀ y ∈ jobs, t < y.rel → u ≤ y.rel) : MI jobs x L0 u left r where
  run := by
    have := h.le
    rw [show (u - x.frm).toNat = (t - x.frm).toNat + (u - t).toNat from by omega, goM_add, h.run]
    have e : x.frm + ((t - x.frm).toNat : Int) = t := by omega
    rw [e]
    exact go_idle (s := (left, r)) hr h3 (u - t).toNat (by omega)
  len := h.len
  nn := h.nn
  rl := by have := h.rl; omega
  le := by have := h.le; omega
theorem MI.work (h : MI jobs x L0 t left r) {u m : Int} {i : Nat} {y : Jb} (hr : runK jobs left t jobs.length = i) (hy : jobs[i]? = some y) (hm : left[i]? = some m) (h1 : t < u) (h2 : u ≤ x.to) (h3 : ∀ y ∈ jobs, t < y.rel → u ≤ y.rel) (h4 : u ≤ t + m) :
    MI jobs x L0 u (left.set i (m - (u - t))) (ext r y.idn t u) where
  run := by
    have hle := h.le
    obtain ⟨n, hn⟩ : ∃ n : Nat, (n : Int) + 1 = u - t := ⟨(u - t - 1).toNat, by omega⟩
    rw [show (u - x.frm).toNat = (t - x.frm).toNat + (n + 1) from by omega, goM_add, h.run]
    have e : x.frm + ((t - x.frm).toNat : Int) = t := by omega
    rw [e, go_run hy h3 n t (left, r) m (Int.le_refl _) (by omega) hm (by omega) hr]
    rw [show m - ((n : Int) + 1) = m - (u - t) from by omega, show t + (n : Int) + 1 = u from by omega]
  len := by rw [List.length_set]; exact h.len
  nn := by
    intro z hz
    rcases List.mem_or_eq_of_mem_set hz with hz | hz
    · exact h.nn z hz
    · have := h.nn m (List.mem_of_getElem? hm)
      omega
  rl := by have := h.rl; have := ext_len r y.idn t u; omega
  le := by have := h.le; omega
theorem MI.done (h : MI jobs x L0 x.to left r) (P : List Pc) : shiftS jobs x (L0, P) = (left, P ++ r.reverse) := by
  unfold shiftS
  dsimp only
  rw [h.run]
theorem runK_pick (hl : left.length = jobs.length) {k : Nat} (hk : k = jobs.length) : (runK jobs left t k = -1) ∨ ∃ (i : Nat) (y : Jb) (m : Int), runK jobs left t k = i ∧ i < jobs.length ∧ jobs[i]? = some y ∧ left[i]? = some m ∧ y.rel ≤ t ∧ m ≠ 0 := by
  rcases runK_spec jobs left t k with ⟨e, _⟩ | ⟨i, y, e, hi, hy, ⟨y', m, hy', hm, h1, h2⟩, _⟩
  · exact .inl e
  · rw [hy] at hy'
    injection hy' with hy'
    subst hy'
    exact .inr ⟨i, y, m, e, by omega, hy, hm, h1, h2⟩
theorem edfS_succ (jobs : List Jb) (shifts : List Sf) {i : Nat} {x : Sf} (h : shifts[i]? = some x) : edfS jobs (shifts.take (i + 1)) = shiftS jobs x (edfS jobs (shifts.take i)) := by
  unfold edfS
  have e : shifts.take (i + 1) = shifts.take i ++ [x] := by rw [List.take_add_one, h]; rfl
  rw [e, List.foldl_append]
  rfl
end Go.Proofs.Ythbchbiadcjnkaa
