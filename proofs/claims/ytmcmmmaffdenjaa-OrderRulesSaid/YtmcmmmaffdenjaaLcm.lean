/-
  In one text: Blp, Rlp, Lcm.
-/
import Derived.Test.YtmcmmmaffdenjaaBlt
import Derived.Test.YtmcmmmaffdenjaaAwa
/-
  The law's orders are right.
-/
namespace Go.Proofs.Ytmcmmmaffdenjaa
open Go.RowKit Eng
set_option linter.unusedVariables false
set_option linter.unusedSimpArgs false
set_option maxHeartbeats 8000000
attribute [local irreducible] SC SQ J Qt Calls Iterates
theorem blt_ok (i : Nat) (f : Fm) (h : fmOk f) (hi : i < 20) : okO (bltO i f) := by
  obtain ⟨⟨a0, a1⟩, ⟨b0, b1⟩, ⟨c0, c1⟩, ⟨d0, d1⟩, e0, e1⟩ := h
  unfold okO bltO toF idI dayI
  dsimp only
  have h3 : 1 + f.kd % 3 = 1 ∨ 1 + f.kd % 3 = 2 ∨ 1 + f.kd % 3 = 3 := by omega
  refine ⟨⟨⟨by omega, by omega⟩, ⟨by omega, by omega⟩, ⟨by omega, by omega⟩⟩, ?_⟩
  rcases h3 with h3 | h3 | h3
  · left
    rw [h3]
    refine ⟨rfl, ?_, by simp⟩
    rw [if_neg (by decide)]
    split <;> omega
  · right; left
    rw [h3]
    refine ⟨rfl, ?_, ?_⟩
    · rw [if_neg (by decide)]
      split <;> omega
    · rw [if_neg (by decide)]
      omega
  · right; right
    rw [h3]
    refine ⟨rfl, by simp, ?_⟩
    rw [if_neg (by decide)]
    omega
theorem blt_id : ∀ (l : List Fm) (k : Nat) (x : Od), x ∈ bltL k l → ∃ i, k ≤ i ∧ i < k + l.length ∧ x.idn = 1 + (7 * (i : Int) + 3) % 20
  | [], k, x, h => by simp [bltL] at h
  | f :: l, k, x, h => by
    simp only [bltL, List.mem_cons] at h
    rcases h with rfl | h
    · exact ⟨k, Nat.le_refl _, by simp, rfl⟩
    · obtain ⟨i, h1, h2, h3⟩ := blt_id l (k + 1) x h
      exact ⟨i, by omega, by simp; omega, h3⟩
theorem blt_okL : ∀ (l : List Fm) (k : Nat), k + l.length ≤ 20 → (∀ f ∈ l, fmOk f) → okL (bltL k l)
  | [], k, _, _ => trivial
  | f :: l, k, hk, h => by
    rw [List.length_cons] at hk
    refine ⟨blt_ok k f (h f List.mem_cons_self) (by omega), fun x hx e => ?_, blt_okL l (k + 1) (by omega) fun g hg => h g (List.mem_cons_of_mem _ hg)⟩
    obtain ⟨i, h1, h2, h3⟩ := blt_id l (k + 1) x hx
    rw [h3] at e
    unfold bltO at e
    dsimp only at e
    omega
theorem built_right {l : List Fm} (h : ∀ f ∈ l, fmOk f) : rightL (builtF l) := by
  unfold builtF
  have hl : (l.take 20).length ≤ 20 := by rw [List.length_take]; omega
  exact ⟨by rw [bltL_len]; omega, blt_okL _ 0 (by omega) fun f hf => h f (List.mem_of_mem_take hf)⟩
theorem built_rightB {l : List Fm} (h : ∀ f ∈ l, fmOk f) : rightB (builtF l) = true := (rightB_iff _).2 (built_right h)
end Go.Proofs.Ytmcmmmaffdenjaa

/-
  Releases, plain.
-/
namespace Go.Proofs.Ytmcmmmaffdenjaa
open Go.RowKit Eng
set_option linter.unusedVariables false
set_option linter.unusedSimpArgs false
set_option maxHeartbeats 8000000
attribute [local irreducible] SC SQ J Qt Calls Iterates
end Go.Proofs.Ytmcmmmaffdenjaa

/-
  What the laws of chapter 36 share.
-/
namespace Go.Proofs.Ytmcmmmaffdenjaa
open Go.RowKit Eng
set_option linter.unusedVariables false
set_option linter.unusedSimpArgs false
set_option maxHeartbeats 8000000
attribute [local irreducible] SC SQ J Qt Calls Iterates
/-- Each once. -/
abbrev cntM (seen : List Int) : List (Int × Value) := seen.map fun k => (k, .int .i64 1)
end Go.Proofs.Ytmcmmmaffdenjaa
