/-
  For all numbers the law StatsGrows returns true and leaves its arguments as they were; no condition.
-/
import Derived.Test.YtmlgheoliaplgaaDec
import Derived.Test.YtmlgheoliaplgaaGro
namespace Go.Proofs.Ytmlgheoliaplgaa
open Go.RowKit Go.ChangeShapes Go.WideShapes Go.Deep Go.ChangeAt Eng
set_option linter.unusedVariables false
set_option maxRecDepth 100000 in
theorem grows_holds_lifted (os : Os) (started : os.Started) (H : Type) (enc : TypeId × Value → H) :
    ReturnsInHanded {} Try.checked os 10 .any (Rows.statsGrowsSpec.pre6 enc Try.prog Try.f10 Rows.statsGrowsRow.domain false) (Rows.statsGrowsSpec.post enc Try.prog Try.f10 false true false false) := by
  refine returnsInHanded_of_change (C := Try.checked) own_ started (by kernel_rfl) Try.func10
    (ChangeSpec.witness6 (enc := enc) (C := Try.checked) false ⟨#[], #[.int .i64 0, .int .i64 0, .int .i64 0, .int .i64 0, .int .i64 0], []⟩ 8 (by kernel_rfl) (by kernel_rfl) (by kernel_rfl) (by kernel_rfl)) ?_
  intro W base args ds gs before hval0 hW hcnd _
  have hval : ∀ (j : Nat) t v, Try.f10.params[j]? = some t → args[j]? = some v → Value.okWide Try.prog W .any base t v := hval0
  obtain ⟨p, q, hA0, hV, hpq, hfz, hnd⟩ := id hW
  have hA : DataW.TrodAll enc Try.prog W 0 (fun _ => true) true Try.f10.params.toList args.toList ds p := hA0
  rw [Try.params10] at hA hval
  obtain ⟨v0, vs0, d0, ds0, p0, q0, hargs, rfl, rfl, h0, r0⟩ := trodAll_cons hA
  obtain ⟨v1, vs1, d1, ds1, p1, q1, rfl, rfl, rfl, h1, r1⟩ := trodAll_cons r0
  obtain ⟨v2, vs2, d2, ds2, p2, q2, rfl, rfl, rfl, h2, r2⟩ := trodAll_cons r1
  obtain ⟨v3, vs3, d3, ds3, p3, q3, rfl, rfl, rfl, h3, r3⟩ := trodAll_cons r2
  obtain ⟨v4, vs4, d4, ds4, p4, q4, rfl, rfl, rfl, h4, r4⟩ := trodAll_cons r3
  obtain ⟨rfl, rfl, rfl⟩ := trodAll_nil r4
  obtain rfl : args = #[v0, v1, v2, v3, v4] := by cases args; simp_all
  obtain ⟨t, rfl, ht⟩ := open_i Try.underlying3 (hval 0 3 v0 rfl rfl) h0
  obtain ⟨k, rfl, hk⟩ := open_i Try.underlying3 (hval 1 3 v1 rfl rfl) h1
  obtain ⟨s, rfl, hs⟩ := open_i Try.underlying3 (hval 2 3 v2 rfl rfl) h2
  obtain ⟨r, rfl, hr⟩ := open_i Try.underlying3 (hval 3 3 v3 rfl rfl) h3
  obtain ⟨m, rfl, hm⟩ := open_i Try.underlying3 (hval 4 3 v4 rfl rfl) h4
  refine (grows_c t k s r m W ht hk hs hr hm).mono fun e W' ⟨he, hB⟩ => ⟨_, he, ?_⟩
  exact law_post (f := Try.f10) (tb := 4) laid_ (by kernel_rfl) rfl rfl rfl rfl (by kernel_rfl) Try.underlying4 hW hB
theorem grows_holds : Rows.StatsGrowsSaid :=
  OpenClaim.holds_of_wide 10 Try.f10 rfl rfl rfl rfl rfl rfl rfl ⟨rfl, rfl, rfl, rfl, rfl⟩ rfl rfl rfl rfl rfl (by kernel_rfl) Try.func10 (by kernel_rfl)
    (of_decide_eq_true (by kernel_rfl)) (by unfold Func.isWrapper; first | (rw [if_pos (by decide +kernel)]; kernel_rfl) | (rw [if_neg (by decide +kernel)]; exact ⟨rfl, rfl⟩))
    (fun os started H enc _ => grows_holds_lifted os started H enc)
end Go.Proofs.Ytmlgheoliaplgaa
