/-
  Maps as association lists.
-/
import Derived.Test.YtmcmmmaffdenjaaEngCoreB
import Derived.Test.YtmcmmmaffdenjaaOr1
namespace Go.Proofs.Ytmcmmmaffdenjaa
open Go.RowKit Eng
set_option linter.unusedVariables false
set_option linter.unusedSimpArgs false
set_option maxHeartbeats 8000000
attribute [local irreducible] SC SQ J Qt Calls Iterates
def lkG {α : Type} : List (Int × α) → Int → Option α
  | [], _ => none
  | (k', v) :: M, k => if k' = k then some v else lkG M k
abbrev valsG {α : Type} (f : α → Value) (M : List (Int × α)) : List (Int × Value) := M.map fun q => (q.1, f q.2)
theorem mlk_vals {α : Type} (f : α → Value) : ∀ (M : List (Int × α)) (k : Int), mlk (valsG f M) k = (lkG M k).map f
  | [], k => rfl
  | (k', v) :: M, k => by
    have ih := mlk_vals f M k
    simp only [valsG, List.map_cons, mlk, lkG] at ih ⊢
    split
    · rfl
    · exact ih
theorem mset_new {α : Type} (f : α → Value) : ∀ (M : List (Int × α)) (k : Int) (v : α), lkG M k = none → mset (valsG f M) k (f v) = valsG f (M ++ [(k, v)])
  | [], k, v, _ => rfl
  | (k', u) :: M, k, v, h => by
    simp only [lkG] at h
    split at h
    · cases h
    · rename_i hk
      have ih := mset_new f M k v h
      simp only [valsG, List.map_cons, List.cons_append, mset, if_neg hk] at ih ⊢
      rw [ih]
theorem lkG_split {α : Type} : ∀ {M : List (Int × α)} {k : Int} {v : α}, lkG M k = some v → ∃ M1 M2, M = M1 ++ (k, v) :: M2 ∧ lkG M1 k = none
  | [], k, v, h => by simp [lkG] at h
  | (k', u) :: M, k, v, h => by
    simp only [lkG] at h
    split at h
    · rename_i hk
      simp only [Option.some.injEq] at h
      subst hk; subst h
      exact ⟨[], M, rfl, rfl⟩
    · rename_i hk
      obtain ⟨M1, M2, rfl, h1⟩ := lkG_split h
      exact ⟨(k', u) :: M1, M2, rfl, by simp only [lkG, if_neg hk]; exact h1⟩
theorem mset_old {α : Type} (f : α → Value) : ∀ (M1 M2 : List (Int × α)) (k : Int) (v u : α), lkG M1 k = none → mset (valsG f (M1 ++ (k, v) :: M2)) k (f u) = valsG f (M1 ++ (k, u) :: M2)
  | [], M2, k, v, u, _ => by simp [valsG, mset]
  | (k', x) :: M1, M2, k, v, u, h => by
    simp only [lkG] at h
    split at h
    · cases h
    · rename_i hk
      have ih := mset_old f M1 M2 k v u h
      simp only [valsG, List.map_cons, List.cons_append, mset, if_neg hk] at ih ⊢
      rw [ih]
theorem lkG_app {α : Type} : ∀ (M1 M2 : List (Int × α)) (k : Int), lkG (M1 ++ M2) k = (match lkG M1 k with | some v => some v | none => lkG M2 k)
  | [], M2, k => rfl
  | (k', x) :: M1, M2, k => by
    simp only [List.cons_append, lkG]
    split
    · rfl
    · exact lkG_app M1 M2 k
end Go.Proofs.Ytmcmmmaffdenjaa
