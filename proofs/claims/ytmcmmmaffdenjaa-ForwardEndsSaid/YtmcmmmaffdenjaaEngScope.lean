/-
  Functions with labels whose jumps are left out or leave rounds.
-/
import Derived.Test.YtmcmmmaffdenjaaEng
import Derived.Scope
namespace Go.Proofs.Ytmcmmmaffdenjaa
namespace Eng
open Go.RowKit
section
variable {C : Cx} {F : Fr} {L : List HA} {K : List KI}
theorem sc_label {l : Nat} (h : SQ C .normal K F L) : SC C (.label l) K F L := fun a w hf hs => wpIn_label (h a w hf hs)
theorem kpost_goto (hrd : C.rd = none) {l : Nat} {a : Act} {w : World} : ∀ K, kpost C K (.goto l) a w → False
  | [], h => by
    simp only [kpost, Cx.Qf, hrd] at h
    exact h
  | .seq c :: K, h => kpost_goto hrd K h
  | .blk id :: K, h => kpost_goto hrd K h
  | .loop J :: K, h => kpost_goto hrd K h
  | .fin J :: K, h => h
theorem sc_scope {c : Code} (hrd : C.rd = none) (h : SC C c K F L) : SC C (.scope c) K F L := fun a w hf hs => by
  have h1 := h a w hf hs
  rw [hrd, fc_none] at h1 ⊢
  rw [wpIn_wide] at h1 ⊢
  refine wp_scope_straight (wp_mono h1 fun e a w hq => ?_)
  cases e with
  | goto l => exact kpost_goto hrd K hq
  | _ => exact hq
end
end Eng
end Go.Proofs.Ytmcmmmaffdenjaa
