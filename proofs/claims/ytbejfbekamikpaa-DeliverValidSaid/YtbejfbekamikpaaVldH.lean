/-
  For every file and every list of rules the law DeliverValid returns true and leaves its arguments as they were; no condition.
-/
import Derived.Test.YtbejfbekamikpaaDec7
import Derived.Test.YtbejfbekamikpaaVld
namespace Go.Proofs.Ytbejfbekamikpaa
open Go.RowKit Go.ChangeShapes Go.WideShapes Go.Deep Go.ChangeAt Eng
set_option linter.unusedVariables false
set_option maxRecDepth 100000 in
theorem valid_holds_lifted (os : Os) (started : os.Started) (H : Type) (enc : TypeId × Value → H) :
    ReturnsInHanded {} Try.checked os 7 .any (Rows.deliverValidSpec.pre6 enc Try.prog Try.f7 Rows.deliverValidRow.domain false) (Rows.deliverValidSpec.post enc Try.prog Try.f7 false true false false) := by
  refine returnsInHanded_of_change_sized (C := Try.checked) own_ started (by kernel_rfl) Try.func7
    (ChangeSpec.witness6 (enc := enc) (C := Try.checked) false ⟨#[], #[.agg #[.slice none 0 0, .slice none 0 0, .slice none 0 0, .slice none 0 0], .slice none 0 0], []⟩ 8 (by kernel_rfl) (by kernel_rfl) (by kernel_rfl) (by kernel_rfl)) ?_
  intro W base args ds gs before hval0 hW hcnd hsz _
  have hval : ∀ (j : Nat) t v, Try.f7.params[j]? = some t → args[j]? = some v → Value.okWide Try.prog W .any base t v := hval0
  obtain ⟨p, q, hA0, hV, hpq, hfz, hnd⟩ := id hW
  have hA : DataW.TrodAll enc Try.prog W 0 (fun _ => true) true Try.f7.params.toList args.toList ds p := hA0
  rw [Try.params7] at hA hval
  obtain ⟨v0, vs0, d0, ds0, p0, q0, hargs, rfl, rfl, h0, r0⟩ := trodAll_cons hA
  obtain ⟨v1, vs1, d1, ds1, p1, q1, rfl, rfl, rfl, h1, r1⟩ := trodAll_cons r0
  obtain ⟨rfl, rfl, rfl⟩ := trodAll_nil r1
  obtain rfl : args = #[v0, v1] := by cases args; simp_all
  obtain ⟨x, rfl, hx⟩ := open_rf (hval 0 30 v0 rfl rfl) h0 (bnd_arg hsz (j := 0) (t := 30) rfl rfl)
  obtain ⟨A, c, l, rfl, hsl, hR, hru⟩ := open_rus (hval 1 32 v1 rfl rfl) h1
  refine (valid_c x A c l W hx hsl hR hru).mono fun e W' ⟨he, hB⟩ => ⟨_, he, ?_⟩
  exact law_post (f := Try.f7) (tb := 4) laid_ (by kernel_rfl) rfl rfl rfl rfl (by kernel_rfl) Try.underlying4 hW hB
theorem valid_holds : Rows.DeliverValidSaid :=
  OpenClaim.holds_of_wide 7 Try.f7 rfl rfl rfl rfl rfl rfl rfl ⟨rfl, rfl, rfl, rfl, rfl⟩ rfl rfl rfl rfl rfl (by kernel_rfl) Try.func7 (by show joinedFacts Try.prog 7 Try.f7 Rows.deliverValidSpec Rows.deliverValidRow = true; unfold joinedFacts; rw [may_, lifts_, make_]; kernel_rfl)
    (of_decide_eq_true (by kernel_rfl)) (by unfold Func.isWrapper; first | (rw [if_pos (by decide +kernel)]; kernel_rfl) | (rw [if_neg (by decide +kernel)]; exact ⟨rfl, rfl⟩))
    (fun os started H enc _ => valid_holds_lifted os started H enc)
end Go.Proofs.Ytbejfbekamikpaa
