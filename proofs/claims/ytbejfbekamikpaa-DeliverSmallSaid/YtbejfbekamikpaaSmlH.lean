/-
  The law DeliverSmall returns true; it has no arguments and no condition.
-/
import Derived.Test.YtbejfbekamikpaaDec
import Derived.Test.YtbejfbekamikpaaSml
namespace Go.Proofs.Ytbejfbekamikpaa
open Go.RowKit Go.ChangeShapes Go.WideShapes Go.Deep Go.ChangeAt Eng
set_option linter.unusedVariables false
set_option maxRecDepth 100000 in
theorem small_holds_lifted (os : Os) (started : os.Started) (H : Type) (enc : TypeId × Value → H) :
    ReturnsInHanded {} Try.checked os 8 .any (Rows.deliverSmallSpec.pre6 enc Try.prog Try.f8 Rows.deliverSmallRow.domain false) (Rows.deliverSmallSpec.post enc Try.prog Try.f8 false true false false) := by
  refine returnsInHanded_of_change (C := Try.checked) own_ started (by kernel_rfl) Try.func8
    (ChangeSpec.witness6 (enc := enc) (C := Try.checked) false ⟨#[], #[], []⟩ 8 (by kernel_rfl) (by kernel_rfl) (by kernel_rfl) (by kernel_rfl)) ?_
  intro W base args ds gs before hval0 hW hcnd _
  have hval : ∀ (j : Nat) t v, Try.f8.params[j]? = some t → args[j]? = some v → Value.okWide Try.prog W .any base t v := hval0
  obtain ⟨p, q, hA0, hV, hpq, hfz, hnd⟩ := id hW
  have hA : DataW.TrodAll enc Try.prog W 0 (fun _ => true) true Try.f8.params.toList args.toList ds p := hA0
  rw [Try.params8] at hA hval
  obtain ⟨rfl, rfl, rfl⟩ := trodAll_none hA
  refine (small_c W).mono fun e W' ⟨he, hB⟩ => ⟨_, he, ?_⟩
  exact law_post (f := Try.f8) (tb := 4) laid_ (by kernel_rfl) rfl rfl rfl rfl (by kernel_rfl) Try.underlying4 hW hB
theorem small_holds : Rows.DeliverSmallSaid :=
  OpenClaim.holds_of_wide 8 Try.f8 rfl rfl rfl rfl rfl rfl rfl ⟨rfl, rfl, rfl, rfl, rfl⟩ rfl rfl rfl rfl rfl (by kernel_rfl) Try.func8 (by kernel_rfl)
    (of_decide_eq_true (by kernel_rfl)) (by unfold Func.isWrapper; first | (rw [if_pos (by decide +kernel)]; kernel_rfl) | (rw [if_neg (by decide +kernel)]; exact ⟨rfl, rfl⟩))
    (fun os started H enc _ => small_holds_lifted os started H enc)
end Go.Proofs.Ytbejfbekamikpaa
