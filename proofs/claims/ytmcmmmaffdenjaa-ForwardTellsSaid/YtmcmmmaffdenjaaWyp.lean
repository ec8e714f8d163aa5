/-
  More of ways, plain.
-/
import Derived.Test.YtmcmmmaffdenjaaRlp
namespace Go.Proofs.Ytmcmmmaffdenjaa
open Go.RowKit Eng
set_option linter.unusedVariables false
set_option linter.unusedSimpArgs false
set_option maxHeartbeats 8000000
attribute [local irreducible] SC SQ J Qt Calls Iterates
theorem isW_len {f : Int → Od} : ∀ {met : List Int} {p : Int} {pts ords : List Int} {k u : Int}, IsW f met p pts ords k u → pts.length = ords.length + 1 := by
  intro met p pts ords k u h
  induction h with
  | here h => rfl
  | held h h3 => rfl
  | back h h3 hm => rfl
  | go h h3 hm hr ih => simp [ih]
theorem isW_nodup {f : Int → Od} : ∀ {met : List Int} {p : Int} {pts ords : List Int} {k u : Int}, IsW f met p pts ords k u → p ∉ met → pts.Nodup ∧ ∀ q ∈ pts, q ∉ met := by
  intro met p pts ords k u h
  induction h with
  | here h => intro hp; exact ⟨by simp, fun q hq => by rw [List.mem_singleton] at hq; subst hq; exact hp⟩
  | held h h3 => intro hp; exact ⟨by simp, fun q hq => by rw [List.mem_singleton] at hq; subst hq; exact hp⟩
  | back h h3 hm => intro hp; exact ⟨by simp, fun q hq => by rw [List.mem_singleton] at hq; subst hq; exact hp⟩
  | go h h3 hm hr ih =>
    intro hp
    obtain ⟨h1, h2⟩ := ih hm
    refine ⟨List.nodup_cons.2 ⟨fun hx => h2 _ hx (by simp), h1⟩, fun q hq => ?_⟩
    rcases List.mem_cons.1 hq with rfl | hq
    · exact hp
    · exact fun hx => h2 q hq (List.mem_append_left _ hx)
/-- From each point but the last one its order leads to the next one. -/
theorem isW_step {f : Int → Od} : ∀ {met : List Int} {p : Int} {pts ords : List Int} {k u : Int}, IsW f met p pts ords k u → ∀ (i : Nat) (q x : Int), ords[i]? = some x → pts[i]? = some q → (f q).idn ≠ 0 ∧ (f q).kd ≠ 3 ∧ x = (f q).idn ∧ pts[i + 1]? = some (f q).to := by
  intro met p pts ords k u h
  induction h with
  | here h => intro i q x hx; simp at hx
  | held h h3 => intro i q x hx; simp at hx
  | back h h3 hm => intro i q x hx; simp at hx
  | go h h3 hm hr ih =>
    intro i q x hx hq
    cases i with
    | zero =>
      simp only [List.getElem?_cons_zero, Option.some.injEq] at hx hq
      subst hx; subst hq
      refine ⟨h, h3, rfl, ?_⟩
      rw [List.getElem?_cons_succ]
      cases hr <;> rfl
    | succ i => exact ih i q x hx hq
/-- How it ends. -/
theorem isW_last {f : Int → Od} : ∀ {met : List Int} {p : Int} {pts ords : List Int} {k u : Int}, IsW f met p pts ords k u → ∃ q, pts[ords.length]? = some q ∧
    ((k = 1 ∧ (f q).idn = 0 ∧ u = 0) ∨ (k = 2 ∧ (f q).idn ≠ 0 ∧ (f q).kd = 3 ∧ u = (f q).en) ∨ (k = 3 ∧ (f q).idn ≠ 0 ∧ (f q).kd ≠ 3 ∧ (f q).to ∈ met ++ pts ∧ u = 0)) := by
  intro met p pts ords k u h
  induction h with
  | here h => exact ⟨_, rfl, .inl ⟨rfl, h, rfl⟩⟩
  | held h h3 => exact ⟨_, rfl, .inr (.inl ⟨rfl, h, h3, rfl⟩)⟩
  | back h h3 hm => exact ⟨_, rfl, .inr (.inr ⟨rfl, h, h3, hm, rfl⟩)⟩
  | go h h3 hm hr ih =>
    obtain ⟨q, h1, h2⟩ := ih
    refine ⟨q, by simpa using h1, ?_⟩
    rcases h2 with h2 | h2 | ⟨a, b, c, d, e⟩
    · exact .inl h2
    · exact .inr (.inl h2)
    · exact .inr (.inr ⟨a, b, c, by simpa using d, e⟩)
theorem way_facts {l : List Od} (h : rightL l) (p d : Int) : (wayF l p d).pts.length = (wayF l p d).ords.length + 1 ∧ (wayF l p d).pts.Nodup ∧ (wayF l p d).pts[0]? = some p ∧ (wayF l p d).pts.length ≤ l.length + 1 := by
  have hw := way_isW h p d
  have h1 := isW_len hw
  have h2 := (isW_nodup hw (by simp)).1
  refine ⟨h1, h2, isW_head hw, ?_⟩
  have h3 : ((wayF l p d).pts.take (wayF l p d).ords.length).length ≤ (l.map (·.frm)).length := by
    refine nodup_len _ _ (h2.sublist (List.take_sublist _ _)) fun q hq => ?_
    obtain ⟨i, hi, hx⟩ := List.mem_iff_getElem.1 hq
    rw [List.length_take] at hi
    rw [List.getElem_take] at hx
    obtain ⟨x, ho⟩ : ∃ x, (wayF l p d).ords[i]? = some x := ⟨_, List.getElem?_eq_getElem (by omega)⟩
    have hs := isW_step hw i q x ho (by rw [List.getElem?_eq_getElem (by omega), hx])
    rcases fo_spec h.2 q d with ⟨h5, _⟩ | ⟨h5, h6, _⟩
    · rw [h5] at hs; exact absurd rfl hs.1
    · exact List.mem_map.2 ⟨_, h5, h6⟩
  rw [List.length_take, List.length_map] at h3
  omega
/-- What has been met matters only where a way leads back. -/
theorem isW_less {f : Int → Od} : ∀ {met : List Int} {p : Int} {pts ords : List Int} {k u : Int}, IsW f met p pts ords k u → k ≠ 3 → ∀ met', (∀ q ∈ met', q ∈ met) → IsW f met' p pts ords k u := by
  intro met p pts ords k u h
  induction h with
  | here h => intro _ m _; exact .here h
  | held h h3 => intro _ m _; exact .held h h3
  | back h h3 hm => intro h; exact absurd rfl h
  | go h h3 hm hr ih =>
    intro hk m hs
    refine .go h h3 (fun hx => hm ?_) (ih hk _ fun q hq => ?_)
    · rcases List.mem_append.1 hx with hx | hx
      · exact List.mem_append_left _ (hs _ hx)
      · exact List.mem_append_right _ hx
    · rcases List.mem_append.1 hq with hx | hx
      · exact List.mem_append_left _ (hs _ hx)
      · exact List.mem_append_right _ hx
theorem isW_drop {f : Int → Od} : ∀ {met : List Int} {p : Int} {pts ords : List Int} {k u : Int}, IsW f met p pts ords k u → ∀ (i : Nat) (q : Int), pts[i]? = some q → ∃ met', (∀ x ∈ met, x ∈ met') ∧ (∀ x ∈ met', x ∈ met ∨ x ∈ pts) ∧ IsW f met' q (pts.drop i) (ords.drop i) k u := by
  intro met p pts ords k u h
  induction h with
  | @here met p h =>
    intro i q hq
    cases i with
    | zero => simp only [List.getElem?_cons_zero, Option.some.injEq] at hq; subst hq; exact ⟨met, fun x hx => hx, fun x hx => .inl hx, .here h⟩
    | succ i => simp at hq
  | @held met p h h3 =>
    intro i q hq
    cases i with
    | zero => simp only [List.getElem?_cons_zero, Option.some.injEq] at hq; subst hq; exact ⟨met, fun x hx => hx, fun x hx => .inl hx, .held h h3⟩
    | succ i => simp at hq
  | @back met p h h3 hm =>
    intro i q hq
    cases i with
    | zero => simp only [List.getElem?_cons_zero, Option.some.injEq] at hq; subst hq; exact ⟨met, fun x hx => hx, fun x hx => .inl hx, .back h h3 hm⟩
    | succ i => simp at hq
  | @go met p pts ords k u h h3 hm hr ih =>
    intro i q hq
    cases i with
    | zero => simp only [List.getElem?_cons_zero, Option.some.injEq] at hq; subst hq; exact ⟨met, fun x hx => hx, fun x hx => .inl hx, .go h h3 hm hr⟩
    | succ i =>
      obtain ⟨m', h1, h2, h4⟩ := ih i q (by simpa using hq)
      refine ⟨m', fun x hx => h1 x (List.mem_append_left _ hx), fun x hx => ?_, h4⟩
      rcases h2 x hx with h5 | h5
      · rcases List.mem_append.1 h5 with h5 | h5
        · exact .inl h5
        · rw [List.mem_singleton] at h5; subst h5; exact .inr List.mem_cons_self
      · exact .inr (List.mem_cons_of_mem _ h5)
theorem isW_det {f : Int → Od} : ∀ {met : List Int} {p : Int} {pts ords : List Int} {k u : Int}, IsW f met p pts ords k u → ∀ {pts' ords' : List Int} {k' u' : Int}, IsW f met p pts' ords' k' u' → pts = pts' ∧ ords = ords' ∧ k = k' ∧ u = u' := by
  intro met p pts ords k u h
  induction h with
  | here h =>
    intro pts' ords' k' u' g
    cases g with
    | here g => exact ⟨rfl, rfl, rfl, rfl⟩
    | held g g3 => exact absurd h g
    | back g g3 gm => exact absurd h g
    | go g g3 gm gr => exact absurd h g
  | held h h3 =>
    intro pts' ords' k' u' g
    cases g with
    | here g => exact absurd g h
    | held g g3 => exact ⟨rfl, rfl, rfl, rfl⟩
    | back g g3 gm => exact absurd h3 g3
    | go g g3 gm gr => exact absurd h3 g3
  | back h h3 hm =>
    intro pts' ords' k' u' g
    cases g with
    | here g => exact absurd g h
    | held g g3 => exact absurd g3 h3
    | back g g3 gm => exact ⟨rfl, rfl, rfl, rfl⟩
    | go g g3 gm gr => exact absurd hm gm
  | go h h3 hm hr ih =>
    intro pts' ords' k' u' g
    cases g with
    | here g => exact absurd g h
    | held g g3 => exact absurd g3 h3
    | back g g3 gm => exact absurd gm hm
    | go g g3 gm gr =>
      obtain ⟨a, b, c, e⟩ := ih gr
      subst a; subst b
      exact ⟨rfl, rfl, c, e⟩
/-- A set of points from which orders lead into the set. -/
def Closed (f : Int → Od) (S : Int → Prop) : Prop := ∀ q, S q → (f q).idn ≠ 0 ∧ (f q).kd ≠ 3 ∧ S (f q).to
theorem isW_closed {f : Int → Od} {S : Int → Prop} (hS : Closed f S) : ∀ {met : List Int} {p : Int} {pts ords : List Int} {k u : Int}, IsW f met p pts ords k u → S p → k = 3 ∧ u = 0 ∧ ∀ q ∈ pts, S q := by
  intro met p pts ords k u h
  induction h with
  | here h => intro hp; exact absurd h (hS _ hp).1
  | held h h3 => intro hp; exact absurd h3 (hS _ hp).2.1
  | back h h3 hm => intro hp; exact ⟨rfl, rfl, fun q hq => by rw [List.mem_singleton] at hq; subst hq; exact hp⟩
  | go h h3 hm hr ih =>
    intro hp
    obtain ⟨a, b, c⟩ := ih (hS _ hp).2.2
    refine ⟨a, b, fun q hq => ?_⟩
    rcases List.mem_cons.1 hq with rfl | hq
    · exact hp
    · exact c q hq
/-- The points of a way that leads back are such a set. -/
theorem isW_backset {f : Int → Od} {p : Int} {pts ords : List Int} {u : Int} (h : IsW f [] p pts ords 3 u) : Closed f (fun q => q ∈ pts) := by
  intro q hq
  obtain ⟨i, hi, hx⟩ := List.mem_iff_getElem.1 hq
  have hl := isW_len h
  have hq2 : pts[i]? = some q := by rw [List.getElem?_eq_getElem hi, hx]
  by_cases hlt : i < ords.length
  · obtain ⟨x, ho⟩ : ∃ x, ords[i]? = some x := ⟨_, List.getElem?_eq_getElem hlt⟩
    obtain ⟨a, b, _, c⟩ := isW_step h i q x ho hq2
    exact ⟨a, b, List.mem_of_getElem? c⟩
  · have e : i = ords.length := by omega
    subst e
    obtain ⟨z, h1, h2⟩ := isW_last h
    rw [hq2] at h1
    injection h1 with h1
    subst h1
    rcases h2 with ⟨a, _⟩ | ⟨a, _⟩ | ⟨_, a, b, c, _⟩
    · cases a
    · cases a
    · exact ⟨a, b, by simpa using c⟩
theorem way_unique {l : List Od} (h : rightL l) {p d : Int} {pts ords : List Int} {k u : Int} (hw : IsW (fun k => fo l k d) [] p pts ords k u) : wayF l p d = ⟨pts, ords, k, u⟩ := by
  obtain ⟨a, b, c, e⟩ := isW_det (way_isW h p d) hw
  rw [← a, ← b, ← c, ← e]
/-- The rest of a way. -/
theorem way_rest {l : List Od} (h : rightL l) {p d : Int} {i : Nat} {q : Int} (hq : (wayF l p d).pts[i]? = some q) :
    (wayF l q d).kd = (wayF l p d).kd ∧ (wayF l q d).un = (wayF l p d).un ∧ ((wayF l p d).kd ≠ 3 → (wayF l q d).pts = (wayF l p d).pts.drop i ∧ (wayF l q d).ords = (wayF l p d).ords.drop i) := by
  have hw := way_isW h p d
  generalize wayF l p d = W at *
  by_cases hk : W.kd = 3
  · have hW := hw
    rw [hk] at hW
    have hS := isW_backset hW
    obtain ⟨a, b, _⟩ := isW_closed hS (way_isW h q d) (List.mem_of_getElem? hq)
    obtain ⟨_, b2, _⟩ := isW_closed hS hW (List.mem_of_getElem? (isW_head hW))
    exact ⟨by rw [a, hk], by rw [b, b2], fun h3 => absurd hk h3⟩
  · obtain ⟨m', h1, h2, h3⟩ := isW_drop hw i q hq
    have h4 := way_unique h (isW_less h3 hk [] (by simp))
    rw [h4]
    exact ⟨rfl, rfl, fun _ => ⟨rfl, rfl⟩⟩
/-- Where a way may go. -/
theorem way_all {l : List Od} (hl : rightL l) {p d : Int} {S : Int → Prop} (hp : S p) (hS : ∀ o ∈ l, o.kd ≠ 3 → S o.to) : ∀ q ∈ (wayF l p d).pts, S q := fun q hq => by
  obtain ⟨i, hi⟩ := List.mem_iff_getElem?.1 hq
  obtain ⟨f1, f2, f3, _⟩ := way_facts hl p d
  have hw := way_isW hl p d
  generalize wayF l p d = W at *
  cases i with
  | zero => rw [f3] at hi; injection hi with hi; subst hi; exact hp
  | succ i =>
    have hlt := (List.getElem?_eq_some_iff.1 hi).1
    obtain ⟨x, ho⟩ : ∃ x, W.ords[i]? = some x := ⟨_, List.getElem?_eq_getElem (by omega)⟩
    obtain ⟨z, hz⟩ : ∃ z, W.pts[i]? = some z := ⟨_, List.getElem?_eq_getElem (by omega)⟩
    obtain ⟨a, b, _, c⟩ := isW_step hw i z x ho hz
    rw [hi] at c
    injection c with c
    subst c
    rcases fo_spec hl.2 z d with ⟨h5, _⟩ | ⟨h5, _⟩
    · rw [h5] at a; exact absurd rfl a
    · exact hS _ h5 b
theorem way_ids {l : List Od} (hl : rightL l) {p d : Int} (hp : idI p) : ∀ q ∈ (wayF l p d).pts, idI q :=
  way_all hl hp fun o ho h3 => by
    rcases (okL_ok hl.2 _ ho).2 with ⟨_, ⟨h6, _⟩, _⟩ | ⟨_, ⟨h6, _⟩, _⟩ | ⟨h6, _⟩
    · exact h6
    · exact h6
    · exact absurd h6 h3
end Go.Proofs.Ytmcmmmaffdenjaa
