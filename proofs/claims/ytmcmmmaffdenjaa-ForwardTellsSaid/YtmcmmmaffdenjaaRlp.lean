/-
  Releases, plain.
-/
import Derived.Test.YtmcmmmaffdenjaaBlp
import Derived.Test.YtmcmmmaffdenjaaRel
import Derived.Test.YtmcmmmaffdenjaaLps
namespace Go.Proofs.Ytmcmmmaffdenjaa
open Go.RowKit Eng
set_option linter.unusedVariables false
set_option linter.unusedSimpArgs false
set_option maxHeartbeats 8000000
attribute [local irreducible] SC SQ J Qt Calls Iterates
theorem fold_congr {d d' : Int} : ∀ (l : List Od) (b : Od), (∀ o ∈ l, cov o d = cov o d') → l.foldl (stF d) b = l.foldl (stF d') b
  | [], b, _ => rfl
  | o :: l, b, h => by
    rw [List.foldl_cons, List.foldl_cons]
    have e : stF d b o = stF d' b o := by unfold stF; rw [h o List.mem_cons_self]
    rw [e]
    exact fold_congr l _ fun x hx => h x (List.mem_cons_of_mem _ hx)
theorem fo_congr {l : List Od} {d d' : Int} (h : ∀ o ∈ l, cov o d = cov o d') (k : Int) : fo l k d = fo l k d' := by
  unfold fo frc
  exact fold_congr _ _ fun o ho => h o (List.mem_filter.1 ho).1
theorem way_congr {l : List Od} {d d' : Int} (h : ∀ o ∈ l, cov o d = cov o d') (p : Int) : wayF l p d = wayF l p d' := by
  unfold wayF
  rw [show (fun k => fo l k d) = (fun k => fo l k d') from funext fun k => fo_congr h k]
/-- Between days on which something changes nothing changes. -/
theorem cov_const {l : List Od} (hl : okL l) {d x t : Int} (hd : d ≤ x) (hxt : x ≤ t) (ht : t ≤ 730484) (h : ∀ y ∈ chgL l d, y ≤ x ∨ t < y) : ∀ o ∈ l, cov o t = cov o x := fun o ho => by
  have hk := okL_ok hl o ho
  have h1 : d < o.st → o.st ≤ x ∨ t < o.st := fun hs => h _ (List.mem_cons_of_mem _ (List.mem_flatMap.2 ⟨o, ho, List.mem_append_left _ (by rw [if_pos hs]; exact List.mem_cons_self)⟩))
  have h2 : o.kd ≠ 1 → d ≤ o.en → o.en < 730484 → o.en + 1 ≤ x ∨ t < o.en + 1 := fun g1 g2 g3 => h _ (List.mem_cons_of_mem _ (List.mem_flatMap.2 ⟨o, ho, List.mem_append_right _ (by rw [if_pos ⟨g1, g2, g3⟩]; exact List.mem_cons_self)⟩))
  unfold cov
  apply decide_eq_decide.2
  by_cases g : o.kd = 1
  · constructor <;> intro ⟨a, b⟩ <;> refine ⟨by omega, .inl g⟩
  · constructor
    · rintro ⟨a, b | b⟩
      · exact absurd b g
      · exact ⟨by omega, .inr (by omega)⟩
    · rintro ⟨a, b | b⟩
      · exact absurd b g
      · exact ⟨by omega, .inr (by omega)⟩
/-- The first day on which mail is not held. -/
theorem first_spec (l : List Od) (p : Int) : ∀ (D : List Int), D.Pairwise (· ≤ ·) → ((firstFree l p D).2 = 6 ∧ (∀ x ∈ D, (wayF l p x).kd = 2)) ∨ ((firstFree l p D).2 = 0 ∧ (firstFree l p D).1 ∈ D ∧ (wayF l p (firstFree l p D).1).kd ≠ 2 ∧ ∀ x ∈ D, x < (firstFree l p D).1 → (wayF l p x).kd = 2)
  | [], _ => .inl ⟨rfl, fun x hx => by cases hx⟩
  | x :: D, h => by
    rw [List.pairwise_cons] at h
    unfold firstFree
    by_cases hx : (wayF l p x).kd = 2
    · rw [if_pos hx]
      rcases first_spec l p D h.2 with ⟨h1, h2⟩ | ⟨h1, h2, h3, h4⟩
      · refine .inl ⟨h1, fun y hy => ?_⟩
        rcases List.mem_cons.1 hy with rfl | hy
        · exact hx
        · exact h2 y hy
      · refine .inr ⟨h1, List.mem_cons_of_mem _ h2, h3, fun y hy hlt => ?_⟩
        rcases List.mem_cons.1 hy with rfl | hy
        · exact hx
        · exact h4 y hy hlt
    · rw [if_neg hx]
      refine .inr ⟨rfl, List.mem_cons_self, hx, fun y hy hlt => ?_⟩
      dsimp only at hlt
      rcases List.mem_cons.1 hy with rfl | hy
      · omega
      · have := h.1 y hy; omega
/-- The last day on which something changes, up to a day. -/
theorem last_change : ∀ (D : List Int) (d t : Int), d ∈ D → d ≤ t → ∃ x ∈ D, x ≤ t ∧ ∀ y ∈ D, y ≤ x ∨ t < y := by
  have key : ∀ (D : List Int) (x t : Int), x ≤ t → ∃ z, (z = x ∨ z ∈ D) ∧ x ≤ z ∧ z ≤ t ∧ ∀ y ∈ D, y ≤ z ∨ t < y := by
    intro D
    induction D with
    | nil => intro x t h; exact ⟨x, .inl rfl, Int.le_refl _, h, fun y hy => by cases hy⟩
    | cons a D ih =>
      intro x t h
      by_cases ha : x ≤ a ∧ a ≤ t
      · obtain ⟨z, h1, h2, h3, h4⟩ := ih a t ha.2
        refine ⟨z, .inr ?_, by omega, h3, fun y hy => ?_⟩
        · rcases h1 with rfl | h1
          · exact List.mem_cons_self
          · exact List.mem_cons_of_mem _ h1
        · rcases List.mem_cons.1 hy with rfl | hy
          · exact .inl h2
          · exact h4 y hy
      · obtain ⟨z, h1, h2, h3, h4⟩ := ih x t h
        refine ⟨z, ?_, h2, h3, fun y hy => ?_⟩
        · rcases h1 with rfl | h1
          · exact .inl rfl
          · exact .inr (List.mem_cons_of_mem _ h1)
        · rcases List.mem_cons.1 hy with rfl | hy
          · omega
          · exact h4 y hy
  intro D d t hd hdt
  obtain ⟨z, h1, h2, h3, h4⟩ := key D d t hdt
  refine ⟨z, ?_, h3, h4⟩
  rcases h1 with rfl | h1
  · exact hd
  · exact h1
/-- The day that Release tells. -/
theorem release_day {l : List Od} (hl : rightL l) {p d : Int} (hp : idI p) (hd : dayI d) (h : (releaseF l p d).2 = 0) : d ≤ (releaseF l p d).1 ∧ (releaseF l p d).1 ∈ chgL l d ∧ ∀ t, d ≤ t → t ≤ (releaseF l p d).1 → ((wayF l p t).kd = 2 ↔ t < (releaseF l p d).1) := by
  have hr := (rightB_iff l).2 hl
  rw [release_ok ⟨hr, hp, hd⟩] at h ⊢
  generalize hD : sortI (keysOf (chgL l d)) = D at *
  have hmem : ∀ x, x ∈ D ↔ x ∈ chgL l d := fun x => by rw [← hD, mem_sortI, mem_keysOf]
  have hsort : D.Pairwise (· ≤ ·) := by rw [← hD]; exact sortI_sorted _
  rcases first_spec l p D hsort with ⟨h1, _⟩ | ⟨h1, h2, h3, h4⟩
  · rw [h] at h1; cases h1
  · have hfd := chg_day hl.2 hd _ (by rw [hD]; exact h2)
    refine ⟨hfd.2, (hmem _).1 h2, fun t ht1 ht2 => ⟨fun h5 => ?_, fun h5 => ?_⟩⟩
    · rcases Int.lt_or_eq_of_le ht2 with h6 | h6
      · exact h6
      · rw [h6] at h5; exact absurd h5 h3
    · obtain ⟨x, hx, hxt, hy⟩ := last_change (chgL l d) d t List.mem_cons_self ht1
      have hxd := chg_day hl.2 hd x (by rw [hD]; exact (hmem x).2 hx)
      rw [way_congr (cov_const hl.2 hxd.2 hxt (by have := hfd.1.2; omega) hy)]
      exact h4 x ((hmem x).2 hx) (by omega)
theorem isW_held {f : Int → Od} : ∀ {met : List Int} {p : Int} {pts ords : List Int} {k u : Int}, IsW f met p pts ords k u → k = 2 → ∃ q, (f q).idn ≠ 0 ∧ (f q).kd = 3 := by
  intro met p pts ords k u h
  induction h with
  | here h => intro e; cases e
  | held h h3 => intro _; exact ⟨_, h, h3⟩
  | back h h3 hm => intro e; cases e
  | go h h3 hm hr ih => exact ih
theorem built_release {l : List Od} (hl : rightL l) (hs : ∀ o ∈ l, o.st ≤ 79 ∧ o.en ≤ 98) {p d : Int} (hp : idI p) (hd : dayI d) (hd2 : d ≤ 109) : (releaseF l p d).2 = 0 ∧ (releaseF l p d).1 ≤ 110 := by
  have hr := (rightB_iff l).2 hl
  have h2 : (releaseF l p d).2 = 0 := by
    rw [release_ok ⟨hr, hp, hd⟩]
    rcases first_spec l p (sortI (keysOf (chgL l d))) (sortI_sorted _) with ⟨_, h1⟩ | ⟨h1, _⟩
    · exfalso
      obtain ⟨x, hx, hxt, hy⟩ := last_change (chgL l d) d 200 List.mem_cons_self (by omega)
      have hx2 : x ∈ sortI (keysOf (chgL l d)) := by rw [mem_sortI, mem_keysOf]; exact hx
      have hxd := chg_day hl.2 hd x hx2
      have h3 := h1 x hx2
      rw [← way_congr (cov_const hl.2 hxd.2 hxt (by omega) hy)] at h3
      have hw := way_isW hl p 200
      obtain ⟨q, hq1, hq2⟩ := isW_held hw h3
      rcases fo_spec hl.2 q 200 with ⟨h5, _⟩ | ⟨h5, _, h6, _⟩
      · rw [h5] at hq1; exact hq1 rfl
      · have := hs _ h5
        unfold cov at h6
        rw [decide_eq_true_eq] at h6
        omega
    · exact h1
  refine ⟨h2, ?_⟩
  have h3 := (release_day hl hp hd h2).2.1
  generalize (releaseF l p d).1 = x at *
  unfold chgL at h3
  rcases List.mem_cons.1 h3 with rfl | h3
  · omega
  · obtain ⟨o, ho, h4⟩ := List.mem_flatMap.1 h3
    have := hs o ho
    unfold chg at h4
    rcases List.mem_append.1 h4 with h4 | h4
    · split at h4
      · rw [List.mem_singleton] at h4; omega
      · cases h4
    · split at h4
      · rw [List.mem_singleton] at h4; omega
      · cases h4
/-- Orders that do not cover the day change nothing. -/
theorem cover_way (l : List Od) (p d : Int) : wayF (l.filter fun o => cov o d) p d = wayF l p d := by
  have key : ∀ (l : List Od) (b : Od), (l.filter fun o => cov o d).foldl (stF d) b = l.foldl (stF d) b := by
    intro l
    induction l with
    | nil => intro b; rfl
    | cons o l ih =>
      intro b
      rw [List.filter_cons, List.foldl_cons]
      by_cases h : cov o d = true
      · rw [if_pos h, List.foldl_cons, ih]
      · rw [if_neg h, ih]
        have : stF d b o = b := by unfold stF; rw [if_neg (fun g => h g.1)]
        rw [this]
  have hf : ∀ k, fo (l.filter fun o => cov o d) k d = fo l k d := fun k => by
    unfold fo frc ofP
    rw [List.filter_filter]
    have e : (l.filter fun o => decide (o.frm = k) && cov o d) = (l.filter fun o => decide (o.frm = k)).filter fun o => cov o d := by
      rw [List.filter_filter]
      congr 1
      funext o
      rw [Bool.and_comm]
    rw [e, key]
  unfold wayF
  rw [show (fun k => fo (l.filter fun o => cov o d) k d) = (fun k => fo l k d) from funext hf]
end Go.Proofs.Ytmcmmmaffdenjaa
