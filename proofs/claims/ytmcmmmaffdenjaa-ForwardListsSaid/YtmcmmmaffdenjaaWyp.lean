/-
  More of ways, plain.
-/
import Derived.Test.YtmcmmmaffdenjaaRlp
namespace Go.Proofs.Ytmcmmmaffdenjaa
open Go.RowKit Eng
set_option linter.unusedVariables false
set_option linter.unusedSimpArgs false
set_option maxHeartbeats 8000000
attribute [local irreducible] SC SQ J Qt Calls Iterates
theorem isW_len {f : Int → Od} : ∀ {met : List Int} {p : Int} {pts ords : List Int} {k u : Int}, IsW f met p pts ords k u → pts.length = ords.length + 1 := by
  intro met p pts ords k u h
  induction h with
  | here h => rfl
  | held h h3 => rfl
  | back h h3 hm => rfl
  | go h h3 hm hr ih => simp [ih]
theorem isW_nodup {f : Int → Od} : ∀ {met : List Int} {p : Int} {pts ords : List Int} {k u : Int}, IsW f met p pts ords k u → p ∉ met → pts.Nodup ∧ ∀ q ∈ pts, q ∉ met := by
  intro met p pts ords k u h
  induction h with
  | here h => intro hp; exact ⟨by simp, fun q hq => by rw [List.mem_singleton] at hq; subst hq; exact hp⟩
  | held h h3 => intro hp; exact ⟨by simp, fun q hq => by rw [List.mem_singleton] at hq; subst hq; exact hp⟩
  | back h h3 hm => intro hp; exact ⟨by simp, fun q hq => by rw [List.mem_singleton] at hq; subst hq; exact hp⟩
  | go h h3 hm hr ih =>
    intro hp
    obtain ⟨h1, h2⟩ := ih hm
    refine ⟨List.nodup_cons.2 ⟨fun hx => h2 _ hx (by simp), h1⟩, fun q hq => ?_⟩
    rcases List.mem_cons.1 hq with rfl | hq
    · exact hp
    · exact fun hx => h2 q hq (List.mem_append_left _ hx)
/-- From each point but the last one its order leads to the next one. -/
theorem isW_step {f : Int → Od} : ∀ {met : List Int} {p : Int} {pts ords : List Int} {k u : Int}, IsW f met p pts ords k u → ∀ (i : Nat) (q x : Int), ords[i]? = some x → pts[i]? = some q → (f q).idn ≠ 0 ∧ (f q).kd ≠ 3 ∧ x = (f q).idn ∧ pts[i + 1]? = some (f q).to := by
  intro met p pts ords k u h
  induction h with
  | here h => intro i q x hx; simp at hx
  | held h h3 => intro i q x hx; simp at hx
  | back h h3 hm => intro i q x hx; simp at hx
  | go h h3 hm hr ih =>
    intro i q x hx hq
    cases i with
    | zero =>
      simp only [List.getElem?_cons_zero, Option.some.injEq] at hx hq
      subst hx; subst hq
      refine ⟨h, h3, rfl, ?_⟩
      rw [List.getElem?_cons_succ]
      cases hr <;> rfl
    | succ i => exact ih i q x hx hq
/-- How it ends. -/
theorem isW_last {f : Int → Od} : ∀ {met : List Int} {p : Int} {pts ords : List Int} {k u : Int}, IsW f met p pts ords k u → ∃ q, pts[ords.length]? = some q ∧
    ((k = 1 ∧ (f q).idn = 0 ∧ u = 0) ∨ (k = 2 ∧ (f q).idn ≠ 0 ∧ (f q).kd = 3 ∧ u = (f q).en) ∨ (k = 3 ∧ (f q).idn ≠ 0 ∧ (f q).kd ≠ 3 ∧ (f q).to ∈ met ++ pts ∧ u = 0)) := by
  intro met p pts ords k u h
  induction h with
  | here h => exact ⟨_, rfl, .inl ⟨rfl, h, rfl⟩⟩
  | held h h3 => exact ⟨_, rfl, .inr (.inl ⟨rfl, h, h3, rfl⟩)⟩
  | back h h3 hm => exact ⟨_, rfl, .inr (.inr ⟨rfl, h, h3, hm, rfl⟩)⟩
  | go h h3 hm hr ih =>
    obtain ⟨q, h1, h2⟩ := ih
    refine ⟨q, by simpa using h1, ?_⟩
    rcases h2 with h2 | h2 | ⟨a, b, c, d, e⟩
    · exact .inl h2
    · exact .inr (.inl h2)
    · exact .inr (.inr ⟨a, b, c, by simpa using d, e⟩)
theorem way_facts {l : List Od} (h : rightL l) (p d : Int) : (wayF l p d).pts.length = (wayF l p d).ords.length + 1 ∧ (wayF l p d).pts.Nodup ∧ (wayF l p d).pts[0]? = some p ∧ (wayF l p d).pts.length ≤ l.length + 1 := by
  have hw := way_isW h p d
  have h1 := isW_len hw
  have h2 := (isW_nodup hw (by simp)).1
  refine ⟨h1, h2, isW_head hw, ?_⟩
  have h3 : ((wayF l p d).pts.take (wayF l p d).ords.length).length ≤ (l.map (·.frm)).length := by
    refine nodup_len _ _ (h2.sublist (List.take_sublist _ _)) fun q hq => ?_
    obtain ⟨i, hi, hx⟩ := List.mem_iff_getElem.1 hq
    rw [List.length_take] at hi
    rw [List.getElem_take] at hx
    obtain ⟨x, ho⟩ : ∃ x, (wayF l p d).ords[i]? = some x := ⟨_, List.getElem?_eq_getElem (by omega)⟩
    have hs := isW_step hw i q x ho (by rw [List.getElem?_eq_getElem (by omega), hx])
    rcases fo_spec h.2 q d with ⟨h5, _⟩ | ⟨h5, h6, _⟩
    · rw [h5] at hs; exact absurd rfl hs.1
    · exact List.mem_map.2 ⟨_, h5, h6⟩
  rw [List.length_take, List.length_map] at h3
  omega
/-- A set of points from which orders lead into the set. -/
def Closed (f : Int → Od) (S : Int → Prop) : Prop := ∀ q, S q → (f q).idn ≠ 0 ∧ (f q).kd ≠ 3 ∧ S (f q).to
end Go.Proofs.Ytmcmmmaffdenjaa
