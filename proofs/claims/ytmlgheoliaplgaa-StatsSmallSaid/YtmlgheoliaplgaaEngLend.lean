/-
  Memory lent to a call.
-/
import Derived.Test.YtmlgheoliaplgaaEngRow
namespace Go.Proofs.Ytmlgheoliaplgaa
namespace Eng
open Go.RowKit
set_option linter.unusedVariables false
section
variable {w0 w w' : World} {hot : Nat → Prop} {L L' : List HA}
def HA.kind1 : HA → Prop
  | .cells _ _ _ => True
  | .own _ _ _ _ _ => True
  | _ => False
/-- What is lent, in the callee's eyes. -/
theorem St.lent {x : HA} (h : St w0 hot L w) (hi : InL L x) (hk : x.kind1) : St w x.foot [x] w := by
  refine ⟨Near.refl _ _ _, fun y hy => ?_, List.pairwise_singleton _ _⟩
  rw [List.mem_singleton] at hy
  subst hy
  have hx := h.at hi
  cases y with
  | cells b t cs => exact ⟨.inr rfl, hx.2⟩
  | own v e sz n xs => exact ⟨fun b hb => .inr hb, hx.2⟩
  | abs S p => exact hk.elim
  | pure p => exact hk.elim
/-- What comes back. -/
theorem St.back {x y : HA} (h : St w0 hot L w) (hu : Upd L x y L') (h' : St w x.foot [y] w') (hk : y.kind1) : St w0 hot L' w' := by
  obtain ⟨M, h1, _⟩ := hu.perm
  have hx := (h.perm h1).head
  have hy := h'.head
  have hfoot : ∀ b, y.foot b → w0.heap.size ≤ b ∨ hot b := fun b hb => by
    rcases (hy.lt hb).1 with h3 | h3
    · exact .inl (Nat.le_trans h.near.size h3)
    · exact (hx.lt h3).1
  refine h.upd hu ⟨h'.near.os, h'.near.tape, h'.near.output, h'.near.size, fun k hk => by omega⟩ (fun b hb hne => h'.near.block b hb hne) ?_ (fun b hb => ((hy.lt hb).1).symm)
  cases y with
  | cells b t cs => exact ⟨hfoot b rfl, hy.2⟩
  | own v e sz n xs => exact ⟨fun b hb => hfoot b hb, hy.2⟩
  | abs S p => exact hk.elim
  | pure p => exact hk.elim
end
end Eng
end Go.Proofs.Ytmlgheoliaplgaa
