/-
  Plain facts of chapter 35's laws.
-/
import Derived.Test.YtmcmmmaffdenjaaAk5
import Derived.Test.YtmcmmmaffdenjaaBlp
import Derived.Test.YtmcmmmaffdenjaaLcm
namespace Go.Proofs.Ytmcmmmaffdenjaa
open Go.RowKit Eng
set_option linter.unusedVariables false
set_option linter.unusedSimpArgs false
set_option maxHeartbeats 8000000
attribute [local irreducible] SC SQ J Qt Calls Iterates
theorem allF_uniq {l R : List Od} (hl : okL l) {p d : Int} (h1 : R.Pairwise (fun a b => bef a b = true)) (h2 : ∀ y, y ∈ R ↔ y ∈ l ∧ y.frm = p ∧ cov y d = true) : R = allF l p d := by
  obtain ⟨g1, g2⟩ := allF_spec hl p d
  have n1 : R.Nodup := h1.imp (fun {a b} h e => by subst e; rw [bef_irrefl] at h; cases h)
  have n2 : (allF l p d).Nodup := g1.imp (fun {a b} h e => by subst e; rw [bef_irrefl] at h; cases h)
  have hp : R.Perm (allF l p d) := (List.perm_ext_iff_of_nodup n1 n2).2 fun y => by rw [h2, g2]
  refine hp.eq_of_pairwise (le := fun x y => bef x y = true) (fun x y hx hy a1 a2 => ?_) h1 g1
  rw [bef_asymm a1] at a2
  cases a2
end Go.Proofs.Ytmcmmmaffdenjaa
