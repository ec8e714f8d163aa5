/-
  For all numbers and shares the law StatsQuantiles returns true and leaves its arguments as they were; no condition.
-/
import Derived.Test.YtmlgheoliaplgaaDec3
import Derived.Test.YtmlgheoliaplgaaQnt
namespace Go.Proofs.Ytmlgheoliaplgaa
open Go.RowKit Go.ChangeShapes Go.WideShapes Go.Deep Go.ChangeAt Eng
set_option linter.unusedVariables false
set_option maxRecDepth 100000 in
theorem quantiles_holds_lifted (os : Os) (started : os.Started) (H : Type) (enc : TypeId × Value → H) :
    ReturnsInHanded {} Try.checked os 5 .any (Rows.statsQuantilesSpec.pre6 enc Try.prog Try.f5 Rows.statsQuantilesRow.domain false) (Rows.statsQuantilesSpec.post enc Try.prog Try.f5 false true false false) := by
  refine returnsInHanded_of_change_sized (C := Try.checked) own_ started (by kernel_rfl) Try.func5
    (ChangeSpec.witness6 (enc := enc) (C := Try.checked) false ⟨#[], #[.slice none 0 0, .int .i64 0], []⟩ 8 (by kernel_rfl) (by kernel_rfl) (by kernel_rfl) (by kernel_rfl)) ?_
  intro W base args ds gs before hval0 hW hcnd hsz _
  have hval : ∀ (j : Nat) t v, Try.f5.params[j]? = some t → args[j]? = some v → Value.okWide Try.prog W .any base t v := hval0
  obtain ⟨p, q, hA0, hV, hpq, hfz, hnd⟩ := id hW
  have hA : DataW.TrodAll enc Try.prog W 0 (fun _ => true) true Try.f5.params.toList args.toList ds p := hA0
  rw [Try.params5] at hA hval
  obtain ⟨v0, vs0, d0, ds0, p0, q0, hargs, rfl, rfl, h0, r0⟩ := trodAll_cons hA
  obtain ⟨v1, vs1, d1, ds1, p1, q1, rfl, rfl, rfl, h1, r1⟩ := trodAll_cons r0
  obtain ⟨rfl, rfl, rfl⟩ := trodAll_nil r1
  obtain rfl : args = #[v0, v1] := by cases args; simp_all
  obtain ⟨A, c, l, rfl, hsl, hR, hok, hsh⟩ := open_ints3 (hval 0 24 v0 rfl rfl) h0
  have hb : l.length * 8 ≤ 140737488351232 := sized_rs hsh (fun es sp e => by subst e; have h9 := sized_slice hsz (j := 0) (t := 24) (e := 3) rfl rfl Try.underlying24; rwa [show Try.checked.prog.bytesOf 3 = 8 by kernel_rfl] at h9)
  obtain ⟨q, rfl, hq⟩ := open_i Try.underlying3 (hval 1 3 v1 rfl rfl) h1
  refine (quants_c A c l q W hb hsl hR).mono fun e W' ⟨he, hB⟩ => ⟨_, he, ?_⟩
  exact law_post (f := Try.f5) (tb := 4) laid_ (by kernel_rfl) rfl rfl rfl rfl (by kernel_rfl) Try.underlying4 hW hB
theorem quantiles_holds : Rows.StatsQuantilesSaid :=
  OpenClaim.holds_of_wide 5 Try.f5 rfl rfl rfl rfl rfl rfl rfl ⟨rfl, rfl, rfl, rfl, rfl⟩ rfl rfl rfl rfl rfl (by kernel_rfl) Try.func5 (by kernel_rfl)
    (of_decide_eq_true (by kernel_rfl)) (by unfold Func.isWrapper; first | (rw [if_pos (by decide +kernel)]; kernel_rfl) | (rw [if_neg (by decide +kernel)]; exact ⟨rfl, rfl⟩))
    (fun os started H enc _ => quantiles_holds_lifted os started H enc)
end Go.Proofs.Ytmlgheoliaplgaa
