/-
  Plain facts of chapter 35's laws.
-/
import Derived.Test.YtmcmmmaffdenjaaAk5
import Derived.Test.YtmcmmmaffdenjaaLcm
namespace Go.Proofs.Ytmcmmmaffdenjaa
open Go.RowKit Eng
set_option linter.unusedVariables false
set_option linter.unusedSimpArgs false
set_option maxHeartbeats 8000000
attribute [local irreducible] SC SQ J Qt Calls Iterates
theorem okL_nodup : ∀ {l : List Od}, okL l → l.Nodup := by
  intro l
  induction l with
  | nil => intro _; exact List.nodup_nil
  | cons o l ih =>
    intro h
    rw [List.nodup_cons]
    exact ⟨fun hm => h.2.1 o hm rfl, ih h.2.2⟩
theorem allF_perm {l : List Od} (hl : okL l) (p d : Int) : (allF l p d).Perm ((ofP l p).filter fun o => cov o d) := by
  obtain ⟨g1, g2⟩ := allF_spec hl p d
  have n1 : ((ofP l p).filter fun o => cov o d).Nodup := ((okL_nodup hl).filter _).filter _
  have n2 : (allF l p d).Nodup := g1.imp (fun {a b} h e => by subst e; rw [bef_irrefl] at h; cases h)
  refine (List.perm_ext_iff_of_nodup n2 n1).2 fun y => ?_
  rw [g2, List.mem_filter]
  unfold ofP
  rw [List.mem_filter, decide_eq_true_eq]
  exact and_assoc.symm
theorem bef_prop {a b : Od} (h : bef a b = true) : (a.kd = 3 ∧ b.kd ≠ 3) ∨ ((a.kd = 3 ↔ b.kd = 3) ∧ (b.st < a.st ∨ (a.st = b.st ∧ b.idn < a.idn))) := by
  unfold bef at h
  exact of_decide_eq_true h
theorem cov_prop (o : Od) (d : Int) : cov o d = true ↔ o.st ≤ d ∧ (o.kd = 1 ∨ d ≤ o.en) := by
  unfold cov
  rw [decide_eq_true_eq]
end Go.Proofs.Ytmcmmmaffdenjaa
