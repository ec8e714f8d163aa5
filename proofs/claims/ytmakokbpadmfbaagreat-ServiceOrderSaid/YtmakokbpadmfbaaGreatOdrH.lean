/-
  For all arguments the law ServiceOrder returns true and leaves its arguments as they were; no condition.
-/
import Derived.Test.YtmakokbpadmfbaaGreatDec
import Derived.Test.YtmakokbpadmfbaaGreatOdr
namespace Go.Proofs.YtmakokbpadmfbaaGreat
open Go.RowKit Go.ChangeShapes Go.WideShapes Go.Deep Go.ChangeAt Eng
set_option linter.unusedVariables false
set_option maxRecDepth 100000 in
theorem order_holds_lifted (os : Os) (started : os.Started) (H : Type) (enc : TypeId × Value → H) :
    ReturnsInHanded {} Tryz.checked os 10 .any (Rows.serviceOrderSpec.pre6 enc Tryz.prog Tryz.f10 Rows.serviceOrderRow.domain false) (Rows.serviceOrderSpec.post enc Tryz.prog Tryz.f10 false true false false) := by
  refine returnsInHanded_of_change (C := Tryz.checked) own_ started (by kernel_rfl) Tryz.func10
    (ChangeSpec.witness6 (enc := enc) (C := Tryz.checked) false ⟨#[], #[.slice none 0 0, .int .u8 0, .int .i64 0, .int .i64 0, .int .i64 0], []⟩ 8 (by kernel_rfl) (by kernel_rfl) (by kernel_rfl) (by kernel_rfl)) ?_
  intro W base args ds gs before hval0 hW hcnd _
  have hval : ∀ (j : Nat) t v, Tryz.f10.params[j]? = some t → args[j]? = some v → Value.okWide Tryz.prog W .any base t v := hval0
  obtain ⟨p, q, hA0, hV, hpq, hfz, hnd⟩ := id hW
  have hA : DataW.TrodAll enc Tryz.prog W 0 (fun _ => true) true Tryz.f10.params.toList args.toList ds p := hA0
  rw [Tryz.params10] at hA hval
  obtain ⟨v0, vs0, d0, ds0, p0, q0, hargs, rfl, rfl, h0, r0⟩ := trodAll_cons hA
  obtain ⟨v1, vs1, d1, ds1, p1, q1, rfl, rfl, rfl, h1, r1⟩ := trodAll_cons r0
  obtain ⟨v2, vs2, d2, ds2, p2, q2, rfl, rfl, rfl, h2, r2⟩ := trodAll_cons r1
  obtain ⟨v3, vs3, d3, ds3, p3, q3, rfl, rfl, rfl, h3, r3⟩ := trodAll_cons r2
  obtain ⟨v4, vs4, d4, ds4, p4, q4, rfl, rfl, rfl, h4, r4⟩ := trodAll_cons r3
  obtain ⟨rfl, rfl, rfl⟩ := trodAll_nil r4
  obtain rfl : args = #[v0, v1, v2, v3, v4] := by cases args; simp_all
  obtain ⟨A, c, l, rfl, hsl, hR, hok⟩ := open_ths (hval 0 22 v0 rfl rfl) h0
  obtain ⟨y, rfl, hy⟩ := open_i Tryz.underlying5 (hval 1 5 v1 rfl rfl) h1
  obtain ⟨a, rfl, ha⟩ := open_i Tryz.underlying3 (hval 2 3 v2 rfl rfl) h2
  obtain ⟨z, rfl, hz⟩ := open_i Tryz.underlying3 (hval 3 3 v3 rfl rfl) h3
  obtain ⟨q, rfl, hq⟩ := open_i Tryz.underlying3 (hval 4 3 v4 rfl rfl) h4
  refine (Order_c A c l y a z q W hsl hR hok hy ha hz hq).mono fun e W' ⟨he, hB⟩ => ⟨_, he, ?_⟩
  exact law_post (f := Tryz.f10) (tb := 4) laid_ (by kernel_rfl) rfl rfl rfl rfl (by kernel_rfl) Tryz.underlying4 hW hB
theorem order_holds : Rows.ServiceOrderSaid :=
  OpenClaim.holds_of_wide 10 Tryz.f10 rfl rfl rfl rfl rfl rfl rfl ⟨rfl, rfl, rfl, rfl, rfl⟩ rfl rfl rfl rfl rfl (by kernel_rfl) Tryz.func10 (by show joinedFacts Tryz.prog 10 Tryz.f10 Rows.serviceOrderSpec Rows.serviceOrderRow = true; unfold joinedFacts; rw [may_, lifts_, make_]; kernel_rfl)
    (of_decide_eq_true (by kernel_rfl)) (by unfold Func.isWrapper; first | (rw [if_pos (by decide +kernel)]; kernel_rfl) | (rw [if_neg (by decide +kernel)]; exact ⟨rfl, rfl⟩))
    (fun os started H enc _ => order_holds_lifted os started H enc)
end Go.Proofs.YtmakokbpadmfbaaGreat
