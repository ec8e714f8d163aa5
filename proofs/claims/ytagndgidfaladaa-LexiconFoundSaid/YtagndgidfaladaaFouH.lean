/-
  For all arguments the law LexiconFound returns true and leaves its arguments as they were; no condition.
-/
import Derived.Test.YtagndgidfaladaaDec
import Derived.Test.YtagndgidfaladaaFou
namespace Go.Proofs.Ytagndgidfaladaa
open Go.RowKit Go.ChangeShapes Go.WideShapes Go.Deep Go.ChangeAt Eng
set_option linter.unusedVariables false
set_option maxRecDepth 100000 in
theorem found_holds_lifted (os : Os) (started : os.Started) (H : Type) (enc : TypeId × Value → H) :
    ReturnsInHanded {} Try.checked os 6 .any (Rows.lexiconFoundSpec.pre6 enc Try.prog Try.f6 Rows.lexiconFoundRow.domain false) (Rows.lexiconFoundSpec.post enc Try.prog Try.f6 false true false false) := by
  refine returnsInHanded_of_change (C := Try.checked) own_ started (by kernel_rfl) Try.func6
    (ChangeSpec.witness6 (enc := enc) (C := Try.checked) false ⟨#[], #[.slice none 0 0, .string ⟨#[]⟩], []⟩ 8 (by kernel_rfl) (by kernel_rfl) (by kernel_rfl) (by kernel_rfl)) ?_
  intro W base args ds gs before hval0 hW hcnd _
  have hval : ∀ (j : Nat) t v, Try.f6.params[j]? = some t → args[j]? = some v → Value.okWide Try.prog W .any base t v := hval0
  obtain ⟨p, q, hA0, hV, hpq, hfz, hnd⟩ := id hW
  have hA : DataW.TrodAll enc Try.prog W 0 (fun _ => true) true Try.f6.params.toList args.toList ds p := hA0
  rw [Try.params6] at hA hval
  obtain ⟨v0, vs0, d0, ds0, p0, q0, hargs, rfl, rfl, h0, r0⟩ := trodAll_cons hA
  obtain ⟨v1, vs1, d1, ds1, p1, q1, rfl, rfl, rfl, h1, r1⟩ := trodAll_cons r0
  obtain ⟨rfl, rfl, rfl⟩ := trodAll_nil r1
  obtain rfl : args = #[v0, v1] := by cases args; simp_all
  obtain ⟨A, ca, W0, rfl, hsl, hR, _⟩ := open_words (hval 0 22 v0 rfl rfl) h0
  obtain ⟨s, rfl, hs⟩ := open_str (hval 1 9 v1 rfl rfl) h1
  refine (Found_c A ca W0 s W hsl hR hs).mono fun e W' ⟨he, hB⟩ => ⟨_, he, ?_⟩
  exact law_post (f := Try.f6) (tb := 4) laid_ (by kernel_rfl) rfl rfl rfl rfl (by kernel_rfl) Try.underlying4 hW hB
theorem found_holds : Rows.LexiconFoundSaid :=
  OpenClaim.holds_of_wide 6 Try.f6 rfl rfl rfl rfl rfl rfl rfl ⟨rfl, rfl, rfl, rfl, rfl⟩ rfl rfl rfl rfl rfl (by kernel_rfl) Try.func6 (by show joinedFacts Try.prog 6 Try.f6 Rows.lexiconFoundSpec Rows.lexiconFoundRow = true; unfold joinedFacts; rw [may_, lifts_, make_]; kernel_rfl)
    (of_decide_eq_true (by kernel_rfl)) (by unfold Func.isWrapper; first | (rw [if_pos (by decide +kernel)]; kernel_rfl) | (rw [if_neg (by decide +kernel)]; exact ⟨rfl, rfl⟩))
    (fun os started H enc _ => found_holds_lifted os started H enc)
end Go.Proofs.Ytagndgidfaladaa
