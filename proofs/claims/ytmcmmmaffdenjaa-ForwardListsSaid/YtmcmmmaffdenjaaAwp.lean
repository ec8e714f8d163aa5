/-
  The examples of chapter 36, plain.
-/
import Derived.Test.YtmcmmmaffdenjaaSou
import Derived.Test.YtmcmmmaffdenjaaHlp
namespace Go.Proofs.Ytmcmmmaffdenjaa
open Go.RowKit Eng
set_option linter.unusedVariables false
set_option linter.unusedSimpArgs false
set_option maxHeartbeats 8000000
attribute [local irreducible] SC SQ J Qt Calls Iterates
def ex1 : Od := ⟨1, 10, 20, 0, 0, 1⟩
def ex2 : Od := ⟨2, 20, 30, 3, 7, 2⟩
def ex3 : Od := ⟨3, 30, 0, 4, 5, 3⟩
def ex4 : Od := ⟨4, 30, 20, 0, 0, 1⟩
def exL : List Od := [ex1, ex2, ex3]
def exM : List Od := [ex1, ex2, ex3, ex4]
theorem exL_right : rightB exL = true := by kernel_rfl
theorem exM_right : rightB exM = true := by kernel_rfl
theorem w1 : wayF exL 10 5 = ⟨[10, 20, 30], [1, 2], 2, 5⟩ := by kernel_rfl
theorem w2 : wayF exL 10 6 = ⟨[10, 20, 30], [1, 2], 1, 0⟩ := by kernel_rfl
theorem w3 : wayF exL 10 8 = ⟨[10, 20], [1], 1, 0⟩ := by kernel_rfl
theorem w4 : wayF exM 10 6 = ⟨[10, 20, 30], [1, 2], 3, 0⟩ := by kernel_rfl
theorem w5 : wayF exM 20 6 = ⟨[20, 30], [2], 3, 0⟩ := by kernel_rfl
theorem w6 : wayF exM 30 6 = ⟨[30, 20], [4], 3, 0⟩ := by kernel_rfl
theorem r1 : (wayF exL 10 4).kd = 2 := by kernel_rfl
theorem r2 : (wayF exL 10 6).kd = 1 := by kernel_rfl
theorem sortI_sorted_eq {l m : List Int} (h : l.Perm m) (hs : m.Pairwise (· ≤ ·)) : sortI l = m := by
  have p1 := List.mergeSort_perm l (fun x y : Int => decide (x ≤ y))
  exact List.Perm.eq_of_pairwise (le := (· ≤ ·)) (fun x y _ _ h1 h2 => by omega) (sortI_sorted l) hs (((show (sortI l).Perm l from by unfold sortI; exact p1)).trans h)
theorem rel1 : releaseF exL 10 4 = (6, 0) := by
  have e1 : keysOf (chgL exL 4) = [4, 8, 6] := by kernel_rfl
  have e2 : sortI [4, 8, 6] = [4, 6, 8] := sortI_sorted_eq (List.Perm.cons _ (List.Perm.swap _ _ _)) (by decide)
  rw [release_ok ⟨exL_right, by decide, by decide⟩, e1, e2]
  unfold firstFree
  rw [if_pos r1]
  unfold firstFree
  rw [if_neg (by rw [r2]; decide)]
theorem pts1 : ptsF exM 6 = [10, 20, 30] := by
  have e1 : (keysOf (exM.map (·.frm))).filter (fun k => decide ((fo exM k 6).idn ≠ 0)) = [10, 20, 30] := by kernel_rfl
  unfold ptsF
  rw [e1]
  exact sortI_sorted_eq (List.Perm.refl _) (by decide)
theorem loops1 : loopsF exM 6 = [[20, 30]] := by
  unfold loopsF
  rw [pts1]
  kernel_rfl
end Go.Proofs.Ytmcmmmaffdenjaa
