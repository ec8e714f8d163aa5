/-
  The law's rules.
-/
import Derived.Test.YtbejfbekamikpaaSix
namespace Go.Proofs.Ytbejfbekamikpaa
open Go.RowKit Eng
set_option linter.unusedVariables false
set_option linter.unusedSimpArgs false
attribute [local irreducible] SC SQ J Qt Calls Iterates
structure Nt where
  pt : Int
  kd : Int
  a : Int
  b : Int
abbrev ntC (n : Nt) : List Value := [.int .u8 n.pt, .int .u8 n.kd, .int .u8 n.a, .int .u8 n.b]
def ntOk (n : Nt) : Prop := (0 ≤ n.pt ∧ n.pt ≤ 255) ∧ (0 ≤ n.kd ∧ n.kd ≤ 255) ∧ (0 ≤ n.a ∧ n.a ≤ 255) ∧ (0 ≤ n.b ∧ n.b ≤ 255)
def mdayF (a : Int) : Int := 100 * (1 + a % 12) + 1 + a / 12
def ruledF (n : Nt) : Ru :=
  if n.kd % 3 = 0 then ⟨1 + n.pt % 6, 1 + n.kd % 3, mdayF n.a, mdayF n.b, 0⟩
  else if n.kd % 3 = 1 then ⟨1 + n.pt % 6, 1 + n.kd % 3, 2 * n.a, 2 * n.a + n.b % 200, 0⟩
  else ⟨1 + n.pt % 6, 1 + n.kd % 3, 0, 0, 1 + n.a % 127⟩
theorem ruled_c (n : Nt) (w : World) (hn : ntOk n) :
    Calls Try.prog 16 #[.agg (ntC n).toArray] w fun e w' => e = .returned (.agg (ruC (ruledF n)).toArray) ∧ Below w.heap.size w w' := by
  obtain ⟨⟨p0, p1⟩, ⟨k0, k1⟩, ⟨a0, a1⟩, b0, b1⟩ := hn
  refine eng_start (n := 67) (args := [.agg (ntC n).toArray]) tab tab_ok fns fns_ok [.cell 2 37] Try.func16 rfl rfl rfl rfl ?_
  repeat' (first
   | (refine gJ ?_
      first
      | refine jmv rfl rfl rfl rfl rfl ?_
      | (refine gload rfl rfl ?_
         refine j_qe rfl rfl rfl ?_
         first
         | refine ⟨_, q_load_own rfl rfl rfl rfl (by (repeat (first | exact InL.here | apply InL.there))) (by first | rfl | assumption), ?_⟩
         | refine ⟨_, q_loadA_own rfl rfl rfl rfl (by (repeat (first | exact InL.here | apply InL.there))) (by rfl), ?_⟩
         | refine ⟨_, q_loadA_ext rfl rfl rfl rfl ⟨by assumption, (by first | exact id | assumption)⟩ (by rfl), ?_⟩
         | refine ⟨_, q_load_ext rfl rfl rfl rfl ⟨by assumption, (by first | exact id | assumption)⟩ (by first | rfl | assumption), ?_⟩
         | refine ⟨_, q_load_extb rfl rfl rfl rfl ⟨by assumption, (by first | exact id | assumption)⟩ (by rfl), ?_⟩
         | refine ⟨_, q_loadA_extb rfl rfl rfl rfl ⟨by assumption, (by first | exact id | assumption)⟩ (by rfl), ?_⟩
         | refine ⟨_, q_load_ext0 rfl rfl rfl rfl ⟨by assumption, (by first | exact id | assumption)⟩ (by rfl), ?_⟩)
      | refine jfield rfl rfl rfl rfl rfl rfl rfl rfl ?_
      | refine jcmp rfl rfl rfl rfl rfl rfl rfl ?_
      | refine jar rfl rfl rfl rfl rfl rfl rfl (by omega) ?_
      | refine jextract rfl rfl rfl rfl rfl rfl ?_
      | refine j_store rfl rfl rfl rfl rfl rfl rfl rfl (by (repeat (first | exact Upd.here | apply Upd.there))) (by rfl) ?_
      | (refine j_alloc rfl rfl rfl rfl rfl ?_; intro b)
      | (refine j_box rfl rfl rfl rfl rfl ?_; intro b)
      | (refine j_qe rfl rfl rfl ?_
         first
         | refine ⟨_, q_pick_t rfl rfl rfl, ?_⟩
         | refine ⟨_, q_pick_f rfl rfl rfl, ?_⟩
         | refine ⟨_, q_not rfl rfl, ?_⟩
         | refine ⟨_, q_index_nat rfl rfl rfl rfl rfl (by omega), ?_⟩
         | refine ⟨_, q_index_slice rfl rfl rfl rfl rfl (by omega), ?_⟩
         | refine ⟨_, q_index_arr rfl rfl rfl rfl rfl (by omega), ?_⟩
         | refine ⟨_, q_index_arr_ext rfl rfl rfl rfl rfl (by omega), ?_⟩
         | refine ⟨_, q_len_slice rfl rfl rfl rfl, ?_⟩
         | refine ⟨_, q_makeFunc rfl rfl, ?_⟩
         | refine ⟨_, q_build_struct rfl rfl rfl rfl rfl, ?_⟩
         | refine ⟨_, q_build_arr rfl rfl rfl rfl rfl, ?_⟩
         | refine ⟨_, q_nilCheck rfl rfl, ?_⟩
         | refine ⟨_, q_field_ext rfl rfl rfl rfl rfl, ?_⟩
         | refine ⟨_, q_quo rfl rfl rfl (by omega), ?_⟩
         | refine ⟨_, q_rem rfl rfl rfl (by omega), ?_⟩
         | refine ⟨_, q_quot rfl rfl rfl (by omega), ?_⟩
         | refine ⟨_, q_remt rfl rfl rfl (by omega), ?_⟩
         | refine ⟨_, q_addu8 rfl rfl rfl (by omega), ?_⟩
         | refine ⟨_, q_quou8 rfl rfl rfl (by omega), ?_⟩
         | refine ⟨_, q_shr1 rfl rfl rfl, ?_⟩
         | refine ⟨_, q_shr rfl rfl rfl ⟨by omega, by decide⟩, ?_⟩
         | refine ⟨_, q_shr rfl rfl rfl ⟨by omega, by show Int.toNat _ ≤ (8:Nat); omega⟩, ?_⟩
         | refine ⟨_, q_and1 rfl rfl rfl (by first | assumption | omega), ?_⟩
         | refine ⟨_, q_conv rfl rfl rfl rfl rfl rfl (by first | rfl | (exact i64_wrap (by omega) (by omega)) | (exact u8_wrap (by omega) (by omega)) | (exact u64_wrap (by omega) (by omega)) | (exact u16_wrap (by omega) (by omega))), ?_⟩)
      | refine j_guard_undef rfl rfl rfl rfl rfl ?_
      | (refine j_guard rfl rfl rfl rfl rfl ?_ ?_ <;> intro hc <;> (first | (exact absurd hc (by decide)) | ((try simp only [decide_eq_true_eq, decide_eq_false_iff_not, Bool.not_eq_true', Bool.not_eq_false', Bool.not_true, Bool.not_false, ne_eq, Decidable.not_not] at hc) <;> first | (exfalso; omega) | (exact absurd trivial hc) | skip)))
      | (refine j_buildSlice rfl rfl rfl rfl rfl rfl rfl rfl rfl rfl rfl rfl ?_; intro b)
      | (refine j_append rfl rfl rfl rfl rfl rfl rfl rfl rfl rfl rfl (by (repeat (first | exact InL.here | apply InL.there))) (by (repeat (first | exact InL.here | apply InL.there))) (by rfl) (by rfl) (by omega) (fun _ => by (repeat (first | exact Upd.here | apply Upd.there))) ?_; intro v))
   | (refine gSC ?_
      first
      | refine sc_seq ?_
      | refine sc_region ?_
      | (refine sc_cond rfl ?_ ?_ <;> intro hc <;> (first | (exact absurd hc (by decide)) | ((try simp only [decide_eq_true_eq, decide_eq_false_iff_not, Bool.not_eq_true', Bool.not_eq_false', Bool.not_true, Bool.not_false, ne_eq, Decidable.not_not] at hc) <;> first | (exfalso; omega) | (exact absurd trivial hc) | skip)))
      | refine sc_block ?_
      | refine sc_ret ?_
      | refine sc_exit ?_
      | refine sc_skip ?_
       | (rename_i bA bB; refine sc_mixed [.cells bA 44 (ntC n)] rfl mixed ?_)
      | refine sc_draw rfl mixed (by kernel_rfl) ?_)
   | (refine gSQ ?_
      first
      | refine sq_seq ?_
      | refine sq_blk ?_
      | refine sq_seq_ret ?_
      | refine sq_blk_ret ?_
      | refine sq_loop_ret ?_
      | refine sq_seq_exit ?_
      | refine sq_blk_hit ?_
      | refine sq_blk_miss rfl ?_
      | refine sq_loop_exit ?_
      | refine sq_ende (.inl rfl) rfl rfl ⟨_, (RVs.cons (by first | exact RV.cell rfl rfl rfl (by (repeat (first | exact InL.here | apply InL.there))) (by rfl) | exact RV.cellA rfl rfl rfl (by (repeat (first | exact InL.here | apply InL.there))) (by rfl)) (RVs.nil)), ?_⟩
      | refine sq_ende (.inr rfl) rfl rfl ⟨_, (RVs.cons (by first | exact RV.cell rfl rfl rfl (by (repeat (first | exact InL.here | apply InL.there))) (by rfl) | exact RV.cellA rfl rfl rfl (by (repeat (first | exact InL.here | apply InL.there))) (by rfl)) (RVs.nil)), ?_⟩)
   | refine j_nil ?_
   )
  · have q1 : 0 ≤ n.a / 12 ∧ n.a / 12 ≤ 21 := by omega
    have q2 : 0 ≤ n.b / 12 ∧ n.b / 12 ≤ 21 := by omega
    (refine ja_take 0 rfl (by kernel_rfl) rfl rfl rfl (by repeat (first | exact LSub.nil | refine LSub.cons (by repeat (first | exact Rem.here | apply Rem.there)) ?_)) ?_; first | (refine ⟨_, q_add rfl rfl rfl (by omega), ?_⟩) | (refine ⟨_, q_mul rfl rfl rfl (by omega), ?_⟩) | (refine ⟨_, q_addu8 rfl rfl rfl (by omega), ?_⟩) | (refine ⟨_, q_quou8 rfl rfl rfl (by omega), ?_⟩) | (refine ⟨_, q_rem rfl rfl rfl (by omega), ?_⟩) | (refine ⟨_, q_field_own rfl rfl rfl rfl rfl, ?_⟩) | (refine ⟨_, q_load_own rfl rfl rfl rfl (by (repeat (first | exact InL.here | apply InL.there))) (by rfl), ?_⟩) | (refine ⟨_, q_conv rfl rfl rfl rfl rfl rfl (by first | rfl | (exact i64_wrap (by omega) (by omega)) | (exact u8_wrap (by omega) (by omega))), ?_⟩))
    (refine ja_take 1 rfl (by kernel_rfl) rfl rfl rfl (by repeat (first | exact LSub.nil | refine LSub.cons (by repeat (first | exact Rem.here | apply Rem.there)) ?_)) ?_; first | (refine ⟨_, q_add rfl rfl rfl (by omega), ?_⟩) | (refine ⟨_, q_mul rfl rfl rfl (by omega), ?_⟩) | (refine ⟨_, q_addu8 rfl rfl rfl (by omega), ?_⟩) | (refine ⟨_, q_quou8 rfl rfl rfl (by omega), ?_⟩) | (refine ⟨_, q_rem rfl rfl rfl (by omega), ?_⟩) | (refine ⟨_, q_field_own rfl rfl rfl rfl rfl, ?_⟩) | (refine ⟨_, q_load_own rfl rfl rfl rfl (by (repeat (first | exact InL.here | apply InL.there))) (by rfl), ?_⟩) | (refine ⟨_, q_conv rfl rfl rfl rfl rfl rfl (by first | rfl | (exact i64_wrap (by omega) (by omega)) | (exact u8_wrap (by omega) (by omega))), ?_⟩))
    (refine ja_take 2 rfl (by kernel_rfl) rfl rfl rfl (by repeat (first | exact LSub.nil | refine LSub.cons (by repeat (first | exact Rem.here | apply Rem.there)) ?_)) ?_; first | (refine ⟨_, q_add rfl rfl rfl (by omega), ?_⟩) | (refine ⟨_, q_mul rfl rfl rfl (by omega), ?_⟩) | (refine ⟨_, q_addu8 rfl rfl rfl (by omega), ?_⟩) | (refine ⟨_, q_quou8 rfl rfl rfl (by omega), ?_⟩) | (refine ⟨_, q_rem rfl rfl rfl (by omega), ?_⟩) | (refine ⟨_, q_field_own rfl rfl rfl rfl rfl, ?_⟩) | (refine ⟨_, q_load_own rfl rfl rfl rfl (by (repeat (first | exact InL.here | apply InL.there))) (by rfl), ?_⟩) | (refine ⟨_, q_conv rfl rfl rfl rfl rfl rfl (by first | rfl | (exact i64_wrap (by omega) (by omega)) | (exact u8_wrap (by omega) (by omega))), ?_⟩))
    (refine ja_take 3 rfl (by kernel_rfl) rfl rfl rfl (by repeat (first | exact LSub.nil | refine LSub.cons (by repeat (first | exact Rem.here | apply Rem.there)) ?_)) ?_; first | (refine ⟨_, q_add rfl rfl rfl (by omega), ?_⟩) | (refine ⟨_, q_mul rfl rfl rfl (by omega), ?_⟩) | (refine ⟨_, q_addu8 rfl rfl rfl (by omega), ?_⟩) | (refine ⟨_, q_quou8 rfl rfl rfl (by omega), ?_⟩) | (refine ⟨_, q_rem rfl rfl rfl (by omega), ?_⟩) | (refine ⟨_, q_field_own rfl rfl rfl rfl rfl, ?_⟩) | (refine ⟨_, q_load_own rfl rfl rfl rfl (by (repeat (first | exact InL.here | apply InL.there))) (by rfl), ?_⟩) | (refine ⟨_, q_conv rfl rfl rfl rfl rfl rfl (by first | rfl | (exact i64_wrap (by omega) (by omega)) | (exact u8_wrap (by omega) (by omega))), ?_⟩))
    (refine ja_take 4 rfl (by kernel_rfl) rfl rfl rfl (by repeat (first | exact LSub.nil | refine LSub.cons (by repeat (first | exact Rem.here | apply Rem.there)) ?_)) ?_; first | (refine ⟨_, q_add rfl rfl rfl (by omega), ?_⟩) | (refine ⟨_, q_mul rfl rfl rfl (by omega), ?_⟩) | (refine ⟨_, q_addu8 rfl rfl rfl (by omega), ?_⟩) | (refine ⟨_, q_quou8 rfl rfl rfl (by omega), ?_⟩) | (refine ⟨_, q_rem rfl rfl rfl (by omega), ?_⟩) | (refine ⟨_, q_field_own rfl rfl rfl rfl rfl, ?_⟩) | (refine ⟨_, q_load_own rfl rfl rfl rfl (by (repeat (first | exact InL.here | apply InL.there))) (by rfl), ?_⟩) | (refine ⟨_, q_conv rfl rfl rfl rfl rfl rfl (by first | rfl | (exact i64_wrap (by omega) (by omega)) | (exact u8_wrap (by omega) (by omega))), ?_⟩))
    (refine ja_take 5 rfl (by kernel_rfl) rfl rfl rfl (by repeat (first | exact LSub.nil | refine LSub.cons (by repeat (first | exact Rem.here | apply Rem.there)) ?_)) ?_; first | (refine ⟨_, q_add rfl rfl rfl (by omega), ?_⟩) | (refine ⟨_, q_mul rfl rfl rfl (by omega), ?_⟩) | (refine ⟨_, q_addu8 rfl rfl rfl (by omega), ?_⟩) | (refine ⟨_, q_quou8 rfl rfl rfl (by omega), ?_⟩) | (refine ⟨_, q_rem rfl rfl rfl (by omega), ?_⟩) | (refine ⟨_, q_field_own rfl rfl rfl rfl rfl, ?_⟩) | (refine ⟨_, q_load_own rfl rfl rfl rfl (by (repeat (first | exact InL.here | apply InL.there))) (by rfl), ?_⟩) | (refine ⟨_, q_conv rfl rfl rfl rfl rfl rfl (by first | rfl | (exact i64_wrap (by omega) (by omega)) | (exact u8_wrap (by omega) (by omega))), ?_⟩))
    (refine ja_take 6 rfl (by kernel_rfl) rfl rfl rfl (by repeat (first | exact LSub.nil | refine LSub.cons (by repeat (first | exact Rem.here | apply Rem.there)) ?_)) ?_; first | (refine ⟨_, q_add rfl rfl rfl (by omega), ?_⟩) | (refine ⟨_, q_mul rfl rfl rfl (by omega), ?_⟩) | (refine ⟨_, q_addu8 rfl rfl rfl (by omega), ?_⟩) | (refine ⟨_, q_quou8 rfl rfl rfl (by omega), ?_⟩) | (refine ⟨_, q_rem rfl rfl rfl (by omega), ?_⟩) | (refine ⟨_, q_field_own rfl rfl rfl rfl rfl, ?_⟩) | (refine ⟨_, q_load_own rfl rfl rfl rfl (by (repeat (first | exact InL.here | apply InL.there))) (by rfl), ?_⟩) | (refine ⟨_, q_conv rfl rfl rfl rfl rfl rfl (by first | rfl | (exact i64_wrap (by omega) (by omega)) | (exact u8_wrap (by omega) (by omega))), ?_⟩))
    (refine ja_take 7 rfl (by kernel_rfl) rfl rfl rfl (by repeat (first | exact LSub.nil | refine LSub.cons (by repeat (first | exact Rem.here | apply Rem.there)) ?_)) ?_; first | (refine ⟨_, q_add rfl rfl rfl (by omega), ?_⟩) | (refine ⟨_, q_mul rfl rfl rfl (by omega), ?_⟩) | (refine ⟨_, q_addu8 rfl rfl rfl (by omega), ?_⟩) | (refine ⟨_, q_quou8 rfl rfl rfl (by omega), ?_⟩) | (refine ⟨_, q_rem rfl rfl rfl (by omega), ?_⟩) | (refine ⟨_, q_field_own rfl rfl rfl rfl rfl, ?_⟩) | (refine ⟨_, q_load_own rfl rfl rfl rfl (by (repeat (first | exact InL.here | apply InL.there))) (by rfl), ?_⟩) | (refine ⟨_, q_conv rfl rfl rfl rfl rfl rfl (by first | rfl | (exact i64_wrap (by omega) (by omega)) | (exact u8_wrap (by omega) (by omega))), ?_⟩))
    (refine ja_take 8 rfl (by kernel_rfl) rfl rfl rfl (by repeat (first | exact LSub.nil | refine LSub.cons (by repeat (first | exact Rem.here | apply Rem.there)) ?_)) ?_; first | (refine ⟨_, q_add rfl rfl rfl (by omega), ?_⟩) | (refine ⟨_, q_mul rfl rfl rfl (by omega), ?_⟩) | (refine ⟨_, q_addu8 rfl rfl rfl (by omega), ?_⟩) | (refine ⟨_, q_quou8 rfl rfl rfl (by omega), ?_⟩) | (refine ⟨_, q_rem rfl rfl rfl (by omega), ?_⟩) | (refine ⟨_, q_field_own rfl rfl rfl rfl rfl, ?_⟩) | (refine ⟨_, q_load_own rfl rfl rfl rfl (by (repeat (first | exact InL.here | apply InL.there))) (by rfl), ?_⟩) | (refine ⟨_, q_conv rfl rfl rfl rfl rfl rfl (by first | rfl | (exact i64_wrap (by omega) (by omega)) | (exact u8_wrap (by omega) (by omega))), ?_⟩))
    (refine ja_take 9 rfl (by kernel_rfl) rfl rfl rfl (by repeat (first | exact LSub.nil | refine LSub.cons (by repeat (first | exact Rem.here | apply Rem.there)) ?_)) ?_; first | (refine ⟨_, q_add rfl rfl rfl (by omega), ?_⟩) | (refine ⟨_, q_mul rfl rfl rfl (by omega), ?_⟩) | (refine ⟨_, q_addu8 rfl rfl rfl (by omega), ?_⟩) | (refine ⟨_, q_quou8 rfl rfl rfl (by omega), ?_⟩) | (refine ⟨_, q_rem rfl rfl rfl (by omega), ?_⟩) | (refine ⟨_, q_field_own rfl rfl rfl rfl rfl, ?_⟩) | (refine ⟨_, q_load_own rfl rfl rfl rfl (by (repeat (first | exact InL.here | apply InL.there))) (by rfl), ?_⟩) | (refine ⟨_, q_conv rfl rfl rfl rfl rfl rfl (by first | rfl | (exact i64_wrap (by omega) (by omega)) | (exact u8_wrap (by omega) (by omega))), ?_⟩))
    (refine ja_take 10 rfl (by kernel_rfl) rfl rfl rfl (by repeat (first | exact LSub.nil | refine LSub.cons (by repeat (first | exact Rem.here | apply Rem.there)) ?_)) ?_; first | (refine ⟨_, q_add rfl rfl rfl (by omega), ?_⟩) | (refine ⟨_, q_mul rfl rfl rfl (by omega), ?_⟩) | (refine ⟨_, q_addu8 rfl rfl rfl (by omega), ?_⟩) | (refine ⟨_, q_quou8 rfl rfl rfl (by omega), ?_⟩) | (refine ⟨_, q_rem rfl rfl rfl (by omega), ?_⟩) | (refine ⟨_, q_field_own rfl rfl rfl rfl rfl, ?_⟩) | (refine ⟨_, q_load_own rfl rfl rfl rfl (by (repeat (first | exact InL.here | apply InL.there))) (by rfl), ?_⟩) | (refine ⟨_, q_conv rfl rfl rfl rfl rfl rfl (by first | rfl | (exact i64_wrap (by omega) (by omega)) | (exact u8_wrap (by omega) (by omega))), ?_⟩))
    (refine ja_take 11 rfl (by kernel_rfl) rfl rfl rfl (by repeat (first | exact LSub.nil | refine LSub.cons (by repeat (first | exact Rem.here | apply Rem.there)) ?_)) ?_; first | (refine ⟨_, q_add rfl rfl rfl (by omega), ?_⟩) | (refine ⟨_, q_mul rfl rfl rfl (by omega), ?_⟩) | (refine ⟨_, q_addu8 rfl rfl rfl (by omega), ?_⟩) | (refine ⟨_, q_quou8 rfl rfl rfl (by omega), ?_⟩) | (refine ⟨_, q_rem rfl rfl rfl (by omega), ?_⟩) | (refine ⟨_, q_field_own rfl rfl rfl rfl rfl, ?_⟩) | (refine ⟨_, q_load_own rfl rfl rfl rfl (by (repeat (first | exact InL.here | apply InL.there))) (by rfl), ?_⟩) | (refine ⟨_, q_conv rfl rfl rfl rfl rfl rfl (by first | rfl | (exact i64_wrap (by omega) (by omega)) | (exact u8_wrap (by omega) (by omega))), ?_⟩))
    (refine ja_take 12 rfl (by kernel_rfl) rfl rfl rfl (by repeat (first | exact LSub.nil | refine LSub.cons (by repeat (first | exact Rem.here | apply Rem.there)) ?_)) ?_; first | (refine ⟨_, q_add rfl rfl rfl (by omega), ?_⟩) | (refine ⟨_, q_mul rfl rfl rfl (by omega), ?_⟩) | (refine ⟨_, q_addu8 rfl rfl rfl (by omega), ?_⟩) | (refine ⟨_, q_quou8 rfl rfl rfl (by omega), ?_⟩) | (refine ⟨_, q_rem rfl rfl rfl (by omega), ?_⟩) | (refine ⟨_, q_field_own rfl rfl rfl rfl rfl, ?_⟩) | (refine ⟨_, q_load_own rfl rfl rfl rfl (by (repeat (first | exact InL.here | apply InL.there))) (by rfl), ?_⟩) | (refine ⟨_, q_conv rfl rfl rfl rfl rfl rfl (by first | rfl | (exact i64_wrap (by omega) (by omega)) | (exact u8_wrap (by omega) (by omega))), ?_⟩))
    (refine ja_take 13 rfl (by kernel_rfl) rfl rfl rfl (by repeat (first | exact LSub.nil | refine LSub.cons (by repeat (first | exact Rem.here | apply Rem.there)) ?_)) ?_; first | (refine ⟨_, q_add rfl rfl rfl (by omega), ?_⟩) | (refine ⟨_, q_mul rfl rfl rfl (by omega), ?_⟩) | (refine ⟨_, q_addu8 rfl rfl rfl (by omega), ?_⟩) | (refine ⟨_, q_quou8 rfl rfl rfl (by omega), ?_⟩) | (refine ⟨_, q_rem rfl rfl rfl (by omega), ?_⟩) | (refine ⟨_, q_field_own rfl rfl rfl rfl rfl, ?_⟩) | (refine ⟨_, q_load_own rfl rfl rfl rfl (by (repeat (first | exact InL.here | apply InL.there))) (by rfl), ?_⟩) | (refine ⟨_, q_conv rfl rfl rfl rfl rfl rfl (by first | rfl | (exact i64_wrap (by omega) (by omega)) | (exact u8_wrap (by omega) (by omega))), ?_⟩))
    (refine ja_take 14 rfl (by kernel_rfl) rfl rfl rfl (by repeat (first | exact LSub.nil | refine LSub.cons (by repeat (first | exact Rem.here | apply Rem.there)) ?_)) ?_; first | (refine ⟨_, q_add rfl rfl rfl (by omega), ?_⟩) | (refine ⟨_, q_mul rfl rfl rfl (by omega), ?_⟩) | (refine ⟨_, q_addu8 rfl rfl rfl (by omega), ?_⟩) | (refine ⟨_, q_quou8 rfl rfl rfl (by omega), ?_⟩) | (refine ⟨_, q_rem rfl rfl rfl (by omega), ?_⟩) | (refine ⟨_, q_field_own rfl rfl rfl rfl rfl, ?_⟩) | (refine ⟨_, q_load_own rfl rfl rfl rfl (by (repeat (first | exact InL.here | apply InL.there))) (by rfl), ?_⟩) | (refine ⟨_, q_conv rfl rfl rfl rfl rfl rfl (by first | rfl | (exact i64_wrap (by omega) (by omega)) | (exact u8_wrap (by omega) (by omega))), ?_⟩))
    (refine ja_take 15 rfl (by kernel_rfl) rfl rfl rfl (by repeat (first | exact LSub.nil | refine LSub.cons (by repeat (first | exact Rem.here | apply Rem.there)) ?_)) ?_; first | (refine ⟨_, q_add rfl rfl rfl (by omega), ?_⟩) | (refine ⟨_, q_mul rfl rfl rfl (by omega), ?_⟩) | (refine ⟨_, q_addu8 rfl rfl rfl (by omega), ?_⟩) | (refine ⟨_, q_quou8 rfl rfl rfl (by omega), ?_⟩) | (refine ⟨_, q_rem rfl rfl rfl (by omega), ?_⟩) | (refine ⟨_, q_field_own rfl rfl rfl rfl rfl, ?_⟩) | (refine ⟨_, q_load_own rfl rfl rfl rfl (by (repeat (first | exact InL.here | apply InL.there))) (by rfl), ?_⟩) | (refine ⟨_, q_conv rfl rfl rfl rfl rfl rfl (by first | rfl | (exact i64_wrap (by omega) (by omega)) | (exact u8_wrap (by omega) (by omega))), ?_⟩))
    (refine ja_take 16 rfl (by kernel_rfl) rfl rfl rfl (by repeat (first | exact LSub.nil | refine LSub.cons (by repeat (first | exact Rem.here | apply Rem.there)) ?_)) ?_; first | (refine ⟨_, q_add rfl rfl rfl (by omega), ?_⟩) | (refine ⟨_, q_mul rfl rfl rfl (by omega), ?_⟩) | (refine ⟨_, q_addu8 rfl rfl rfl (by omega), ?_⟩) | (refine ⟨_, q_quou8 rfl rfl rfl (by omega), ?_⟩) | (refine ⟨_, q_rem rfl rfl rfl (by omega), ?_⟩) | (refine ⟨_, q_field_own rfl rfl rfl rfl rfl, ?_⟩) | (refine ⟨_, q_load_own rfl rfl rfl rfl (by (repeat (first | exact InL.here | apply InL.there))) (by rfl), ?_⟩) | (refine ⟨_, q_conv rfl rfl rfl rfl rfl rfl (by first | rfl | (exact i64_wrap (by omega) (by omega)) | (exact u8_wrap (by omega) (by omega))), ?_⟩))
    (refine ja_take 17 rfl (by kernel_rfl) rfl rfl rfl (by repeat (first | exact LSub.nil | refine LSub.cons (by repeat (first | exact Rem.here | apply Rem.there)) ?_)) ?_; first | (refine ⟨_, q_add rfl rfl rfl (by omega), ?_⟩) | (refine ⟨_, q_mul rfl rfl rfl (by omega), ?_⟩) | (refine ⟨_, q_addu8 rfl rfl rfl (by omega), ?_⟩) | (refine ⟨_, q_quou8 rfl rfl rfl (by omega), ?_⟩) | (refine ⟨_, q_rem rfl rfl rfl (by omega), ?_⟩) | (refine ⟨_, q_field_own rfl rfl rfl rfl rfl, ?_⟩) | (refine ⟨_, q_load_own rfl rfl rfl rfl (by (repeat (first | exact InL.here | apply InL.there))) (by rfl), ?_⟩) | (refine ⟨_, q_conv rfl rfl rfl rfl rfl rfl (by first | rfl | (exact i64_wrap (by omega) (by omega)) | (exact u8_wrap (by omega) (by omega))), ?_⟩))
    (refine ja_take 18 rfl (by kernel_rfl) rfl rfl rfl (by repeat (first | exact LSub.nil | refine LSub.cons (by repeat (first | exact Rem.here | apply Rem.there)) ?_)) ?_; first | (refine ⟨_, q_add rfl rfl rfl (by omega), ?_⟩) | (refine ⟨_, q_mul rfl rfl rfl (by omega), ?_⟩) | (refine ⟨_, q_addu8 rfl rfl rfl (by omega), ?_⟩) | (refine ⟨_, q_quou8 rfl rfl rfl (by omega), ?_⟩) | (refine ⟨_, q_rem rfl rfl rfl (by omega), ?_⟩) | (refine ⟨_, q_field_own rfl rfl rfl rfl rfl, ?_⟩) | (refine ⟨_, q_load_own rfl rfl rfl rfl (by (repeat (first | exact InL.here | apply InL.there))) (by rfl), ?_⟩) | (refine ⟨_, q_conv rfl rfl rfl rfl rfl rfl (by first | rfl | (exact i64_wrap (by omega) (by omega)) | (exact u8_wrap (by omega) (by omega))), ?_⟩))
    (refine ja_take 19 rfl (by kernel_rfl) rfl rfl rfl (by repeat (first | exact LSub.nil | refine LSub.cons (by repeat (first | exact Rem.here | apply Rem.there)) ?_)) ?_; first | (refine ⟨_, q_add rfl rfl rfl (by omega), ?_⟩) | (refine ⟨_, q_mul rfl rfl rfl (by omega), ?_⟩) | (refine ⟨_, q_addu8 rfl rfl rfl (by omega), ?_⟩) | (refine ⟨_, q_quou8 rfl rfl rfl (by omega), ?_⟩) | (refine ⟨_, q_rem rfl rfl rfl (by omega), ?_⟩) | (refine ⟨_, q_field_own rfl rfl rfl rfl rfl, ?_⟩) | (refine ⟨_, q_load_own rfl rfl rfl rfl (by (repeat (first | exact InL.here | apply InL.there))) (by rfl), ?_⟩) | (refine ⟨_, q_conv rfl rfl rfl rfl rfl rfl (by first | rfl | (exact i64_wrap (by omega) (by omega)) | (exact u8_wrap (by omega) (by omega))), ?_⟩))
    (refine ja_take 20 rfl (by kernel_rfl) rfl rfl rfl (by repeat (first | exact LSub.nil | refine LSub.cons (by repeat (first | exact Rem.here | apply Rem.there)) ?_)) ?_; first | (refine ⟨_, q_add rfl rfl rfl (by omega), ?_⟩) | (refine ⟨_, q_mul rfl rfl rfl (by omega), ?_⟩) | (refine ⟨_, q_addu8 rfl rfl rfl (by omega), ?_⟩) | (refine ⟨_, q_quou8 rfl rfl rfl (by omega), ?_⟩) | (refine ⟨_, q_rem rfl rfl rfl (by omega), ?_⟩) | (refine ⟨_, q_field_own rfl rfl rfl rfl rfl, ?_⟩) | (refine ⟨_, q_load_own rfl rfl rfl rfl (by (repeat (first | exact InL.here | apply InL.there))) (by rfl), ?_⟩) | (refine ⟨_, q_conv rfl rfl rfl rfl rfl rfl (by first | rfl | (exact i64_wrap (by omega) (by omega)) | (exact u8_wrap (by omega) (by omega))), ?_⟩))
    (refine ja_take 21 rfl (by kernel_rfl) rfl rfl rfl (by repeat (first | exact LSub.nil | refine LSub.cons (by repeat (first | exact Rem.here | apply Rem.there)) ?_)) ?_; first | (refine ⟨_, q_add rfl rfl rfl (by omega), ?_⟩) | (refine ⟨_, q_mul rfl rfl rfl (by omega), ?_⟩) | (refine ⟨_, q_addu8 rfl rfl rfl (by omega), ?_⟩) | (refine ⟨_, q_quou8 rfl rfl rfl (by omega), ?_⟩) | (refine ⟨_, q_rem rfl rfl rfl (by omega), ?_⟩) | (refine ⟨_, q_field_own rfl rfl rfl rfl rfl, ?_⟩) | (refine ⟨_, q_load_own rfl rfl rfl rfl (by (repeat (first | exact InL.here | apply InL.there))) (by rfl), ?_⟩) | (refine ⟨_, q_conv rfl rfl rfl rfl rfl rfl (by first | rfl | (exact i64_wrap (by omega) (by omega)) | (exact u8_wrap (by omega) (by omega))), ?_⟩))
    (refine ja_take 22 rfl (by kernel_rfl) rfl rfl rfl (by repeat (first | exact LSub.nil | refine LSub.cons (by repeat (first | exact Rem.here | apply Rem.there)) ?_)) ?_; first | (refine ⟨_, q_add rfl rfl rfl (by omega), ?_⟩) | (refine ⟨_, q_mul rfl rfl rfl (by omega), ?_⟩) | (refine ⟨_, q_addu8 rfl rfl rfl (by omega), ?_⟩) | (refine ⟨_, q_quou8 rfl rfl rfl (by omega), ?_⟩) | (refine ⟨_, q_rem rfl rfl rfl (by omega), ?_⟩) | (refine ⟨_, q_field_own rfl rfl rfl rfl rfl, ?_⟩) | (refine ⟨_, q_load_own rfl rfl rfl rfl (by (repeat (first | exact InL.here | apply InL.there))) (by rfl), ?_⟩) | (refine ⟨_, q_conv rfl rfl rfl rfl rfl rfl (by first | rfl | (exact i64_wrap (by omega) (by omega)) | (exact u8_wrap (by omega) (by omega))), ?_⟩))
    (refine ja_take 23 rfl (by kernel_rfl) rfl rfl rfl (by repeat (first | exact LSub.nil | refine LSub.cons (by repeat (first | exact Rem.here | apply Rem.there)) ?_)) ?_; first | (refine ⟨_, q_add rfl rfl rfl (by omega), ?_⟩) | (refine ⟨_, q_mul rfl rfl rfl (by omega), ?_⟩) | (refine ⟨_, q_addu8 rfl rfl rfl (by omega), ?_⟩) | (refine ⟨_, q_quou8 rfl rfl rfl (by omega), ?_⟩) | (refine ⟨_, q_rem rfl rfl rfl (by omega), ?_⟩) | (refine ⟨_, q_field_own rfl rfl rfl rfl rfl, ?_⟩) | (refine ⟨_, q_load_own rfl rfl rfl rfl (by (repeat (first | exact InL.here | apply InL.there))) (by rfl), ?_⟩) | (refine ⟨_, q_conv rfl rfl rfl rfl rfl rfl (by first | rfl | (exact i64_wrap (by omega) (by omega)) | (exact u8_wrap (by omega) (by omega))), ?_⟩))
    (refine ja_take 24 rfl (by kernel_rfl) rfl rfl rfl (by repeat (first | exact LSub.nil | refine LSub.cons (by repeat (first | exact Rem.here | apply Rem.there)) ?_)) ?_; first | (refine ⟨_, q_add rfl rfl rfl (by omega), ?_⟩) | (refine ⟨_, q_mul rfl rfl rfl (by omega), ?_⟩) | (refine ⟨_, q_addu8 rfl rfl rfl (by omega), ?_⟩) | (refine ⟨_, q_quou8 rfl rfl rfl (by omega), ?_⟩) | (refine ⟨_, q_rem rfl rfl rfl (by omega), ?_⟩) | (refine ⟨_, q_field_own rfl rfl rfl rfl rfl, ?_⟩) | (refine ⟨_, q_load_own rfl rfl rfl rfl (by (repeat (first | exact InL.here | apply InL.there))) (by rfl), ?_⟩) | (refine ⟨_, q_conv rfl rfl rfl rfl rfl rfl (by first | rfl | (exact i64_wrap (by omega) (by omega)) | (exact u8_wrap (by omega) (by omega))), ?_⟩))
    (refine ja_all [25] (by kernel_rfl) rfl ?_ rfl; intro i hi; simp only [List.mem_cons, List.mem_nil_iff, or_false] at hi; subst hi; refine ⟨_, rfl, rfl, ?_⟩)
    refine j_store rfl rfl rfl rfl rfl rfl rfl rfl (by (repeat (first | exact Upd.here | apply Upd.there))) (by rfl) ?_
    (refine j_nil ?_; refine sq_next (by repeat (first | exact LSub.nil | refine LSub.cons (by repeat (first | exact Rem.here | apply Rem.there)) ?_)) ?_)
    (refine ja_all [26] (by kernel_rfl) rfl ?_ rfl; intro i hi; simp only [List.mem_cons, List.mem_nil_iff, or_false] at hi; subst hi; refine ⟨_, rfl, rfl, ?_⟩)
    refine jfield rfl rfl rfl rfl rfl rfl rfl rfl ?_
    (refine j_nil ?_; refine sq_next (by repeat (first | exact LSub.nil | refine LSub.cons (by repeat (first | exact Rem.here | apply Rem.there)) ?_)) ?_)
    (refine ja_all [27] (by kernel_rfl) rfl ?_ rfl; intro i hi; simp only [List.mem_cons, List.mem_nil_iff, or_false] at hi; subst hi; refine ⟨_, rfl, rfl, ?_⟩)
    refine j_store rfl rfl rfl rfl rfl rfl rfl rfl (by (repeat (first | exact Upd.here | apply Upd.there))) (by rfl) ?_
    (refine j_nil ?_; refine sq_next (by repeat (first | exact LSub.nil | refine LSub.cons (by repeat (first | exact Rem.here | apply Rem.there)) ?_)) ?_)
    refine ja_done (by kernel_rfl) ?_
    repeat' (first
     | (refine gJ ?_
        first
        | refine jmv rfl rfl rfl rfl rfl ?_
        | (refine gload rfl rfl ?_
           refine j_qe rfl rfl rfl ?_
           first
           | refine ⟨_, q_load_own rfl rfl rfl rfl (by (repeat (first | exact InL.here | apply InL.there))) (by first | rfl | assumption), ?_⟩
           | refine ⟨_, q_loadA_own rfl rfl rfl rfl (by (repeat (first | exact InL.here | apply InL.there))) (by rfl), ?_⟩
           | refine ⟨_, q_loadA_ext rfl rfl rfl rfl ⟨by assumption, (by first | exact id | assumption)⟩ (by rfl), ?_⟩
           | refine ⟨_, q_load_ext rfl rfl rfl rfl ⟨by assumption, (by first | exact id | assumption)⟩ (by first | rfl | assumption), ?_⟩
           | refine ⟨_, q_load_extb rfl rfl rfl rfl ⟨by assumption, (by first | exact id | assumption)⟩ (by rfl), ?_⟩
           | refine ⟨_, q_loadA_extb rfl rfl rfl rfl ⟨by assumption, (by first | exact id | assumption)⟩ (by rfl), ?_⟩
           | refine ⟨_, q_load_ext0 rfl rfl rfl rfl ⟨by assumption, (by first | exact id | assumption)⟩ (by rfl), ?_⟩)
        | refine jfield rfl rfl rfl rfl rfl rfl rfl rfl ?_
        | refine jcmp rfl rfl rfl rfl rfl rfl rfl ?_
        | refine jar rfl rfl rfl rfl rfl rfl rfl (by omega) ?_
        | refine jextract rfl rfl rfl rfl rfl rfl ?_
        | refine j_store rfl rfl rfl rfl rfl rfl rfl rfl (by (repeat (first | exact Upd.here | apply Upd.there))) (by rfl) ?_
        | (refine j_alloc rfl rfl rfl rfl rfl ?_; intro b)
        | (refine j_box rfl rfl rfl rfl rfl ?_; intro b)
        | (refine j_qe rfl rfl rfl ?_
           first
           | refine ⟨_, q_pick_t rfl rfl rfl, ?_⟩
           | refine ⟨_, q_pick_f rfl rfl rfl, ?_⟩
           | refine ⟨_, q_not rfl rfl, ?_⟩
           | refine ⟨_, q_index_nat rfl rfl rfl rfl rfl (by omega), ?_⟩
           | refine ⟨_, q_index_slice rfl rfl rfl rfl rfl (by omega), ?_⟩
           | refine ⟨_, q_index_arr rfl rfl rfl rfl rfl (by omega), ?_⟩
           | refine ⟨_, q_index_arr_ext rfl rfl rfl rfl rfl (by omega), ?_⟩
           | refine ⟨_, q_len_slice rfl rfl rfl rfl, ?_⟩
           | refine ⟨_, q_makeFunc rfl rfl, ?_⟩
           | refine ⟨_, q_build_struct rfl rfl rfl rfl rfl, ?_⟩
           | refine ⟨_, q_build_arr rfl rfl rfl rfl rfl, ?_⟩
           | refine ⟨_, q_nilCheck rfl rfl, ?_⟩
           | refine ⟨_, q_field_ext rfl rfl rfl rfl rfl, ?_⟩
           | refine ⟨_, q_quo rfl rfl rfl (by omega), ?_⟩
           | refine ⟨_, q_rem rfl rfl rfl (by omega), ?_⟩
           | refine ⟨_, q_quot rfl rfl rfl (by omega), ?_⟩
           | refine ⟨_, q_remt rfl rfl rfl (by omega), ?_⟩
           | refine ⟨_, q_addu8 rfl rfl rfl (by omega), ?_⟩
           | refine ⟨_, q_quou8 rfl rfl rfl (by omega), ?_⟩
           | refine ⟨_, q_shr1 rfl rfl rfl, ?_⟩
           | refine ⟨_, q_shr rfl rfl rfl ⟨by omega, by decide⟩, ?_⟩
           | refine ⟨_, q_shr rfl rfl rfl ⟨by omega, by show Int.toNat _ ≤ (8:Nat); omega⟩, ?_⟩
           | refine ⟨_, q_and1 rfl rfl rfl (by first | assumption | omega), ?_⟩
           | refine ⟨_, q_conv rfl rfl rfl rfl rfl rfl (by first | rfl | (exact i64_wrap (by omega) (by omega)) | (exact u8_wrap (by omega) (by omega)) | (exact u64_wrap (by omega) (by omega)) | (exact u16_wrap (by omega) (by omega))), ?_⟩)
        | refine j_guard_undef rfl rfl rfl rfl rfl ?_
        | (refine j_guard rfl rfl rfl rfl rfl ?_ ?_ <;> intro hc <;> (first | (exact absurd hc (by decide)) | ((try simp only [decide_eq_true_eq, decide_eq_false_iff_not, Bool.not_eq_true', Bool.not_eq_false', Bool.not_true, Bool.not_false, ne_eq, Decidable.not_not] at hc) <;> first | (exfalso; omega) | (exact absurd trivial hc) | skip)))
        | (refine j_buildSlice rfl rfl rfl rfl rfl rfl rfl rfl rfl rfl rfl rfl ?_; intro b)
        | (refine j_append rfl rfl rfl rfl rfl rfl rfl rfl rfl rfl rfl (by (repeat (first | exact InL.here | apply InL.there))) (by (repeat (first | exact InL.here | apply InL.there))) (by rfl) (by rfl) (by omega) (fun _ => by (repeat (first | exact Upd.here | apply Upd.there))) ?_; intro v))
     | (refine gSC ?_
        first
        | refine sc_seq ?_
        | refine sc_region ?_
        | (refine sc_cond rfl ?_ ?_ <;> intro hc <;> (first | (exact absurd hc (by decide)) | ((try simp only [decide_eq_true_eq, decide_eq_false_iff_not, Bool.not_eq_true', Bool.not_eq_false', Bool.not_true, Bool.not_false, ne_eq, Decidable.not_not] at hc) <;> first | (exfalso; omega) | (exact absurd trivial hc) | skip)))
        | refine sc_block ?_
        | refine sc_ret ?_
        | refine sc_exit ?_
        | refine sc_skip ?_
        | refine sc_draw rfl mixed (by kernel_rfl) ?_)
     | (refine gSQ ?_
        first
        | refine sq_seq ?_
        | refine sq_blk ?_
        | refine sq_seq_ret ?_
        | refine sq_blk_ret ?_
        | refine sq_loop_ret ?_
        | refine sq_seq_exit ?_
        | refine sq_blk_hit ?_
        | refine sq_blk_miss rfl ?_
        | refine sq_loop_exit ?_
        | refine sq_ende (.inl rfl) rfl rfl ⟨_, (RVs.cons (by first | exact RV.cell rfl rfl rfl (by (repeat (first | exact InL.here | apply InL.there))) (by rfl) | exact RV.cellA rfl rfl rfl (by (repeat (first | exact InL.here | apply InL.there))) (by rfl)) (RVs.nil)), ?_⟩
        | refine sq_ende (.inr rfl) rfl rfl ⟨_, (RVs.cons (by first | exact RV.cell rfl rfl rfl (by (repeat (first | exact InL.here | apply InL.there))) (by rfl) | exact RV.cellA rfl rfl rfl (by (repeat (first | exact InL.here | apply InL.there))) (by rfl)) (RVs.nil)), ?_⟩)
     | refine j_nil ?_
     )
    (intro w' hS; refine ⟨?_, hS.below⟩; simp only [pack])
    have e : n.kd % 3 = 0 := by omega
    simp only [ruledF, e, if_true, mdayF]
    rfl
  · (intro w' hS; refine ⟨?_, hS.below⟩; simp only [pack])
    have e : n.kd % 3 = 1 := by omega
    have e0 : ¬ n.kd % 3 = 0 := by omega
    simp only [ruledF, e0, e, if_true, if_false]
    rfl
  · (intro w' hS; refine ⟨?_, hS.below⟩; simp only [pack])
    have e : ¬ n.kd % 3 = 1 := by omega
    have e0 : ¬ n.kd % 3 = 0 := by omega
    simp only [ruledF, e0, e, if_false]
    rfl
end Go.Proofs.Ytbejfbekamikpaa
