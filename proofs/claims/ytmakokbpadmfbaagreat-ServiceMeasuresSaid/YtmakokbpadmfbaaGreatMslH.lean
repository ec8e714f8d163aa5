/-
  For all arguments the law ServiceMeasures returns true and leaves its arguments as they were; no condition.
-/
import Derived.Test.YtmakokbpadmfbaaGreatDec6
import Derived.Test.YtmakokbpadmfbaaGreatMsl
namespace Go.Proofs.YtmakokbpadmfbaaGreat
open Go.RowKit Go.ChangeShapes Go.WideShapes Go.Deep Go.ChangeAt Eng
set_option linter.unusedVariables false
set_option maxRecDepth 100000 in
theorem measures_holds_lifted (os : Os) (started : os.Started) (H : Type) (enc : TypeId × Value → H) :
    ReturnsInHanded {} Tryz.checked os 11 .any (Rows.serviceMeasuresSpec.pre6 enc Tryz.prog Tryz.f11 Rows.serviceMeasuresRow.domain false) (Rows.serviceMeasuresSpec.post enc Tryz.prog Tryz.f11 false true false false) := by
  refine returnsInHanded_of_change (C := Tryz.checked) own_ started (by kernel_rfl) Tryz.func11
    (ChangeSpec.witness6 (enc := enc) (C := Tryz.checked) false ⟨#[], #[.slice none 0 0, .slice none 0 0, .int .i64 0, .int .i64 0, .int .u8 0, .int .i64 0, .int .i64 0, .int .i64 0], []⟩ 8 (by kernel_rfl) (by kernel_rfl) (by kernel_rfl) (by kernel_rfl)) ?_
  intro W base args ds gs before hval0 hW hcnd _
  have hval : ∀ (j : Nat) t v, Tryz.f11.params[j]? = some t → args[j]? = some v → Value.okWide Tryz.prog W .any base t v := hval0
  obtain ⟨p, q, hA0, hV, hpq, hfz, hnd⟩ := id hW
  have hA : DataW.TrodAll enc Tryz.prog W 0 (fun _ => true) true Tryz.f11.params.toList args.toList ds p := hA0
  rw [Tryz.params11] at hA hval
  obtain ⟨v0, vs0, d0, ds0, p0, q0, hargs, rfl, rfl, h0, r0⟩ := trodAll_cons hA
  obtain ⟨v1, vs1, d1, ds1, p1, q1, rfl, rfl, rfl, h1, r1⟩ := trodAll_cons r0
  obtain ⟨v2, vs2, d2, ds2, p2, q2, rfl, rfl, rfl, h2, r2⟩ := trodAll_cons r1
  obtain ⟨v3, vs3, d3, ds3, p3, q3, rfl, rfl, rfl, h3, r3⟩ := trodAll_cons r2
  obtain ⟨v4, vs4, d4, ds4, p4, q4, rfl, rfl, rfl, h4, r4⟩ := trodAll_cons r3
  obtain ⟨v5, vs5, d5, ds5, p5, q5, rfl, rfl, rfl, h5, r5⟩ := trodAll_cons r4
  obtain ⟨v6, vs6, d6, ds6, p6, q6, rfl, rfl, rfl, h6, r6⟩ := trodAll_cons r5
  obtain ⟨v7, vs7, d7, ds7, p7, q7, rfl, rfl, rfl, h7, r7⟩ := trodAll_cons r6
  obtain ⟨rfl, rfl, rfl⟩ := trodAll_nil r7
  obtain rfl : args = #[v0, v1, v2, v3, v4, v5, v6, v7] := by cases args; simp_all
  obtain ⟨A, c, l, rfl, hsl, hR, hok⟩ := open_sds (hval 0 24 v0 rfl rfl) h0
  obtain ⟨B, bc, s, rfl, hss, hB, hoks⟩ := open_sns (hval 1 25 v1 rfl rfl) h1
  obtain ⟨now, rfl, hnow⟩ := open_i Tryz.underlying3 (hval 2 3 v2 rfl rfl) h2
  obtain ⟨risk, rfl, hrisk⟩ := open_i Tryz.underlying3 (hval 3 3 v3 rfl rfl) h3
  obtain ⟨cl, rfl, hcl⟩ := open_i Tryz.underlying5 (hval 4 5 v4 rfl rfl) h4
  obtain ⟨fr, rfl, hfr⟩ := open_i Tryz.underlying3 (hval 5 3 v5 rfl rfl) h5
  obtain ⟨to, rfl, hto⟩ := open_i Tryz.underlying3 (hval 6 3 v6 rfl rfl) h6
  obtain ⟨q, rfl, hq⟩ := open_i Tryz.underlying3 (hval 7 3 v7 rfl rfl) h7
  refine (Measures_c A c l B bc s now risk cl fr to q W hsl hss hR hB hok hoks).mono fun e W' ⟨he, hB⟩ => ⟨_, he, ?_⟩
  exact law_post (f := Tryz.f11) (tb := 4) laid_ (by kernel_rfl) rfl rfl rfl rfl (by kernel_rfl) Tryz.underlying4 hW hB
theorem measures_holds : Rows.ServiceMeasuresSaid :=
  OpenClaim.holds_of_wide 11 Tryz.f11 rfl rfl rfl rfl rfl rfl rfl ⟨rfl, rfl, rfl, rfl, rfl⟩ rfl rfl rfl rfl rfl (by kernel_rfl) Tryz.func11 (by show joinedFacts Tryz.prog 11 Tryz.f11 Rows.serviceMeasuresSpec Rows.serviceMeasuresRow = true; unfold joinedFacts; rw [may_, lifts_, make_]; kernel_rfl)
    (of_decide_eq_true (by kernel_rfl)) (by unfold Func.isWrapper; first | (rw [if_pos (by decide +kernel)]; kernel_rfl) | (rw [if_neg (by decide +kernel)]; exact ⟨rfl, rfl⟩))
    (fun os started H enc _ => measures_holds_lifted os started H enc)
end Go.Proofs.YtmakokbpadmfbaaGreat
