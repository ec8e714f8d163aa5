/-
  In one text: Wyp, Rfp.
-/
import Derived.Test.YtmcmmmaffdenjaaLcm
import Derived.Test.YtmcmmmaffdenjaaRaf
/-
  More of ways, plain.
-/
namespace Go.Proofs.Ytmcmmmaffdenjaa
open Go.RowKit Eng
set_option linter.unusedVariables false
set_option linter.unusedSimpArgs false
set_option maxHeartbeats 8000000
attribute [local irreducible] SC SQ J Qt Calls Iterates
/-- A set of points from which orders lead into the set. -/
def Closed (f : Int → Od) (S : Int → Prop) : Prop := ∀ q, S q → (f q).idn ≠ 0 ∧ (f q).kd ≠ 3 ∧ S (f q).to
end Go.Proofs.Ytmcmmmaffdenjaa

/-
  The reference's answers, plain.
-/
namespace Go.Proofs.Ytmcmmmaffdenjaa
open Go.RowKit Eng
set_option linter.unusedVariables false
set_option linter.unusedSimpArgs false
set_option maxHeartbeats 8000000
attribute [local irreducible] SC SQ J Qt Calls Iterates
theorem insB_mem (x : Od) : ∀ (R : List Od) (y : Od), y ∈ insB x R ↔ y = x ∨ y ∈ R
  | [], y => by simp [insB]
  | z :: ys, y => by
    simp only [insB]
    split
    · simp only [List.mem_cons, insB_mem x ys y]
      constructor
      · rintro (h | h | h)
        · exact .inr (.inl h)
        · exact .inl h
        · exact .inr (.inr h)
      · rintro (h | h | h)
        · exact .inr (.inl h)
        · exact .inl h
        · exact .inr (.inr h)
    · simp only [List.mem_cons]
theorem insB_sorted (x : Od) : ∀ (R : List Od), R.Pairwise (fun a b => bef a b = true) → (∀ y ∈ R, bef y x = true ∨ bef x y = true) → (insB x R).Pairwise (fun a b => bef a b = true)
  | [], _, _ => by simp [insB]
  | z :: ys, h, ht => by
    obtain ⟨h1, h2⟩ := List.pairwise_cons.1 h
    simp only [insB]
    split
    · rename_i hz
      refine List.pairwise_cons.2 ⟨fun y hy => ?_, insB_sorted x ys h2 (fun y hy => ht y (List.mem_cons_of_mem _ hy))⟩
      rcases (insB_mem x ys y).1 hy with rfl | hy
      · exact hz
      · exact h1 y hy
    · rename_i hz
      have hx : bef x z = true := by
        rcases ht z List.mem_cons_self with h9 | h9
        · exact absurd h9 hz
        · exact h9
      refine List.pairwise_cons.2 ⟨fun y hy => ?_, h⟩
      rcases List.mem_cons.1 hy with rfl | hy
      · exact hx
      · exact bef_trans hx (h1 y hy)
/-- All of the orders that cover a day, in order. -/
theorem allF_spec {l : List Od} (hl : okL l) (p d : Int) : (allF l p d).Pairwise (fun a b => bef a b = true) ∧ ∀ y, y ∈ allF l p d ↔ y ∈ l ∧ y.frm = p ∧ cov y d = true := by
  have key : ∀ (l R : List Od), okL l → (∀ a ∈ R, ∀ b ∈ l, a.idn ≠ b.idn) → R.Pairwise (fun a b => bef a b = true) → (l.foldl (allS p d) R).Pairwise (fun a b => bef a b = true) ∧ ∀ y, y ∈ l.foldl (allS p d) R ↔ y ∈ R ∨ (y ∈ l ∧ y.frm = p ∧ cov y d = true) := by
    intro l
    induction l with
    | nil => intro R _ _ hR; exact ⟨hR, fun y => by simp⟩
    | cons x l ih =>
      intro R hok hd hR
      rw [List.foldl_cons]
      by_cases hx : x.frm = p ∧ cov x d = true
      · have e : allS p d R x = insB x R := by unfold allS; rw [if_pos hx]
        rw [e]
        obtain ⟨h1, h2⟩ := ih (insB x R) hok.2.2 (fun a ha b hb => by
          rcases (insB_mem x R a).1 ha with rfl | ha
          · exact fun e => hok.2.1 b hb e.symm
          · exact hd a ha b (List.mem_cons_of_mem _ hb)) (insB_sorted x R hR fun y hy => bef_total y x (hd y hy x List.mem_cons_self))
        refine ⟨h1, fun y => ?_⟩
        rw [h2 y, insB_mem, List.mem_cons]
        constructor
        · rintro ((h | h) | h)
          · subst h; exact .inr ⟨.inl rfl, hx⟩
          · exact .inl h
          · exact .inr ⟨.inr h.1, h.2⟩
        · rintro (h | ⟨h | h, h3⟩)
          · exact .inl (.inr h)
          · exact .inl (.inl h)
          · exact .inr ⟨h, h3⟩
      · have e : allS p d R x = R := by unfold allS; rw [if_neg hx]
        rw [e]
        obtain ⟨h1, h2⟩ := ih R hok.2.2 (fun a ha b hb => hd a ha b (List.mem_cons_of_mem _ hb)) hR
        refine ⟨h1, fun y => ?_⟩
        rw [h2 y, List.mem_cons]
        constructor
        · rintro (h | h)
          · exact .inl h
          · exact .inr ⟨.inr h.1, h.2⟩
        · rintro (h | ⟨h | h, h3⟩)
          · exact .inl h
          · subst h; exact absurd h3 hx
          · exact .inr ⟨h, h3⟩
  obtain ⟨h1, h2⟩ := key l [] hl (fun a ha => by cases ha) List.Pairwise.nil
  exact ⟨h1, fun y => by rw [show allF l p d = l.foldl (allS p d) [] from rfl, h2 y]; simp⟩
theorem allF_head {l : List Od} (hl : okL l) (p d : Int) : (allF l p d = [] ∧ fo l p d = odZ) ∨ ∃ R, allF l p d = fo l p d :: R ∧ (fo l p d).idn ≠ 0 := by
  obtain ⟨h1, h2⟩ := allF_spec hl p d
  cases h : allF l p d with
  | nil =>
    left
    refine ⟨rfl, ?_⟩
    rcases fo_spec hl p d with ⟨h3, _⟩ | ⟨h3, h4, h5, _⟩
    · exact h3
    · have := (h2 _).2 ⟨h3, h4, h5⟩
      rw [h] at this
      cases this
  | cons o R =>
    right
    rw [h] at h1 h2
    obtain ⟨g1, g2, g3⟩ := (h2 o).1 List.mem_cons_self
    have e := fo_unique hl g1 g2 g3 fun x hx hp hc => by
      rcases List.mem_cons.1 ((h2 x).2 ⟨hx, hp, hc⟩) with h9 | h9
      · exact .inl h9
      · exact .inr ((List.pairwise_cons.1 h1).1 x h9)
    rw [e]
    have := okO_pos (okL_ok hl o g1)
    exact ⟨R, rfl, by omega⟩
end Go.Proofs.Ytmcmmmaffdenjaa
