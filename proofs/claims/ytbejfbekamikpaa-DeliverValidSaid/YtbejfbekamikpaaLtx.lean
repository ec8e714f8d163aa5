/-
  letterbagkit: marks; strings lent, and whether they were kept or are the same.
-/
import Derived.Test.YtbejfbekamikpaaSta
import Derived.Test.YtbejfbekamikpaaEngCoreB
namespace Go.Proofs.Ytbejfbekamikpaa
open Go.RowKit Eng
set_option linter.unusedVariables false
set_option linter.unusedSimpArgs false
set_option maxHeartbeats 8000000
attribute [local irreducible] SC SQ J Qt Calls Iterates LSub FSub
abbrev strC (u : List UInt8) : List Value := [strV u]
theorem mark_c (k i : Int) (w : World) (hk : 0 ≤ k ∧ k ≤ 2) (hi : 0 ≤ i ∧ i ≤ 100000) : Calls Try.prog 77 #[.int .i64 k, .int .i64 i] w fun e w' => e = .returned (.int .i64 (1000003 * (k + 7) + i)) ∧ Below w.heap.size w w' := by
  refine eng_start (n := 10) (args := [.int .i64 k, .int .i64 i]) tab tab_ok fns fns_ok [.tmp 4] Try.func77 rfl rfl rfl rfl ?_
  repeat' (first | (refine gJ ?_; first | refine js rfl rfl rfl rfl ?_ | refine jar rfl rfl rfl rfl rfl rfl rfl (by omega) ?_ | (refine j_qe rfl rfl rfl ?_; first | refine ⟨_, q_addu8 rfl rfl rfl (by omega), ?_⟩)) | (refine gSC ?_; first | refine sc_mv rfl ?_ | refine sc_q rfl ?_ | refine sc_region ?_) | (refine gSQ ?_; first | refine sq_go rfl ?_ | refine sq_mv rfl ?_ | refine sq_ende (by first | exact .inl rfl | exact .inr rfl) rfl rfl ⟨_, (RVs.cons (RV.tmp rfl) (RVs.nil)), ?_⟩) | refine j_nil ?_ | ((refine sc_cond rfl ?_ ?_) <;> intro hc <;> (first | exact absurd hc (by decide) | ((try simp only [engHC] at hc) <;> first | (exfalso; omega) | exact absurd trivial hc | skip))))
  (intro w' hS; refine ⟨?_, hS.below⟩; simp only [pack])
def mkX (i : Nat) : List UInt8 := [35, 1, 0, 0, 47, UInt8.ofNat i, 0, 0]
def mksX : Nat → List (List UInt8)
  | 0 => []
  | n + 1 => mksX n ++ [mkX n]
theorem mksX_len : ∀ n, (mksX n).length = n
  | 0 => rfl
  | n + 1 => by simp [mksX, mksX_len n]
theorem mksX_get : ∀ n i, i < n → (mksX n)[i]? = some (mkX i)
  | 0, i, h => by omega
  | n + 1, i, h => by
    simp only [mksX]
    by_cases hi : i < n
    · rw [List.getElem?_append_left (by rw [mksX_len]; exact hi), mksX_get n i hi]
    · have : i = n := by omega
      subst this
      rw [List.getElem?_append_right (by rw [mksX_len]; omega), mksX_len, Nat.sub_self]
      rfl
set_option maxRecDepth 8000 in
theorem markX_c (i : Nat) (w : World) (hi : i < 12) : Calls Try.prog 118 #[.int .i64 1, .int .i64 i] w fun e w' => e = .returned (strV (mkX i)) ∧ Below w.heap.size w w' := by
  have h : i = 0 ∨ i = 1 ∨ i = 2 ∨ i = 3 ∨ i = 4 ∨ i = 5 ∨ i = 6 ∨ i = 7 ∨ i = 8 ∨ i = 9 ∨ i = 10 ∨ i = 11 := by omega
  rcases h with rfl | rfl | rfl | rfl | rfl | rfl | rfl | rfl | rfl | rfl | rfl | rfl
  all_goals
    refine eng_start (n := 23) (args := [.int .i64 1, .int .i64 _]) tab tab_ok fns fns_ok [.tmp 4] Try.func118 rfl rfl rfl rfl ?_
    repeat' (first | (refine gJ ?_; first | refine js rfl rfl rfl rfl ?_ | (refine j_qe rfl rfl rfl ?_; first | refine ⟨_, q_conv_bts (mkX 0) rfl Try.underlying23 Try.underlying5 Try.underlying9 rfl (by (repeat constructor)) rfl rfl, ?_⟩ | refine ⟨_, q_conv_bts (mkX 1) rfl Try.underlying23 Try.underlying5 Try.underlying9 rfl (by (repeat constructor)) rfl rfl, ?_⟩ | refine ⟨_, q_conv_bts (mkX 2) rfl Try.underlying23 Try.underlying5 Try.underlying9 rfl (by (repeat constructor)) rfl rfl, ?_⟩ | refine ⟨_, q_conv_bts (mkX 3) rfl Try.underlying23 Try.underlying5 Try.underlying9 rfl (by (repeat constructor)) rfl rfl, ?_⟩ | refine ⟨_, q_conv_bts (mkX 4) rfl Try.underlying23 Try.underlying5 Try.underlying9 rfl (by (repeat constructor)) rfl rfl, ?_⟩ | refine ⟨_, q_conv_bts (mkX 5) rfl Try.underlying23 Try.underlying5 Try.underlying9 rfl (by (repeat constructor)) rfl rfl, ?_⟩ | refine ⟨_, q_conv_bts (mkX 6) rfl Try.underlying23 Try.underlying5 Try.underlying9 rfl (by (repeat constructor)) rfl rfl, ?_⟩ | refine ⟨_, q_conv_bts (mkX 7) rfl Try.underlying23 Try.underlying5 Try.underlying9 rfl (by (repeat constructor)) rfl rfl, ?_⟩ | refine ⟨_, q_conv_bts (mkX 8) rfl Try.underlying23 Try.underlying5 Try.underlying9 rfl (by (repeat constructor)) rfl rfl, ?_⟩ | refine ⟨_, q_conv_bts (mkX 9) rfl Try.underlying23 Try.underlying5 Try.underlying9 rfl (by (repeat constructor)) rfl rfl, ?_⟩ | refine ⟨_, q_conv_bts (mkX 10) rfl Try.underlying23 Try.underlying5 Try.underlying9 rfl (by (repeat constructor)) rfl rfl, ?_⟩ | refine ⟨_, q_conv_bts (mkX 11) rfl Try.underlying23 Try.underlying5 Try.underlying9 rfl (by (repeat constructor)) rfl rfl, ?_⟩) | (refine gF ?_; first | (refine j_buildSlice rfl rfl rfl rfl rfl rfl rfl rfl rfl rfl rfl rfl ?_; intro b)) | (refine j_qe rfl rfl rfl ?_; first | refine ⟨_, q_shr1 rfl rfl rfl, ?_⟩ | refine ⟨_, q_shr rfl rfl rfl ⟨by omega, by decide⟩, ?_⟩ | refine ⟨_, q_shr rfl rfl rfl ⟨by omega, by show Int.toNat _ ≤ (8:Nat); omega⟩, ?_⟩ | refine ⟨_, q_conv rfl rfl rfl rfl rfl rfl (by first | rfl | (exact i64_wrap (by omega) (by omega)) | (exact u8_wrap (by omega) (by omega)) | (exact u64_wrap (by omega) (by omega)) | (exact u16_wrap (by omega) (by omega))), ?_⟩)) | (refine gSC ?_; first | refine sc_mv rfl ?_ | refine sc_q rfl ?_ | refine sc_region ?_) | (refine gSQ ?_; first | refine sq_go rfl ?_ | refine sq_mv rfl ?_ | refine sq_ende (by first | exact .inl rfl | exact .inr rfl) rfl rfl ⟨_, (RVs.cons (RV.tmp rfl) (RVs.nil)), ?_⟩) | refine j_nil ?_ | ((refine sc_cond rfl ?_ ?_) <;> intro hc <;> (first | exact absurd hc (by decide) | ((try simp only [engHC] at hc) <;> first | (exfalso; omega) | exact absurd trivial hc | skip))))
    (intro w' hS; refine ⟨?_, hS.below⟩; simp only [pack])
end Go.Proofs.Ytbejfbekamikpaa
