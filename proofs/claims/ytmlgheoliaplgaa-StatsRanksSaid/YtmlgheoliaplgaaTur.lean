/-
  StatsTurns.
-/
import Derived.Test.YtmlgheoliaplgaaAw
namespace Go.Proofs.Ytmlgheoliaplgaa
open Go.RowKit Eng
set_option linter.unusedVariables false
set_option linter.unusedSimpArgs false
attribute [local irreducible] SC SQ J Qt Calls Iterates
set_option exponentiation.threshold 600
theorem share_c (s : Int) (p : Nat) (w : World) (hs : inI s) (hp : s % 10001 = p) : Calls Try.prog 20 #[.int .i64 s] w fun e w' => e = .returned (.int .i64 p) ∧ Below w.heap.size w w' := by
  rw [← hp]
  refine eng_start (n := 5) (args := [.int .i64 s]) tab tab_ok fns fns_ok [.tmp 2] Try.func20 rfl rfl rfl rfl ?_
  repeat' (first
   | (refine gJ ?_
      first
      | refine jmv rfl rfl rfl rfl rfl ?_
      | (refine gload rfl rfl ?_
         refine j_qe rfl rfl rfl ?_
         first
         | refine ⟨_, q_load_own rfl rfl rfl rfl (by (repeat (first | exact InL.here | apply InL.there))) (by first | rfl | assumption), ?_⟩
         | refine ⟨_, q_loadA_own rfl rfl rfl rfl (by (repeat (first | exact InL.here | apply InL.there))) (by rfl), ?_⟩
         | refine ⟨_, q_loadA_ext rfl rfl rfl rfl ⟨by assumption, (by first | exact id | assumption)⟩ (by rfl), ?_⟩
         | refine ⟨_, q_load_ext rfl rfl rfl rfl ⟨by assumption, (by first | exact id | assumption)⟩ (by first | rfl | assumption), ?_⟩
         | refine ⟨_, q_load_extb rfl rfl rfl rfl ⟨by assumption, (by first | exact id | assumption)⟩ (by rfl), ?_⟩
         | refine ⟨_, q_loadA_extb rfl rfl rfl rfl ⟨by assumption, (by first | exact id | assumption)⟩ (by rfl), ?_⟩
         | refine ⟨_, q_load_ext0 rfl rfl rfl rfl ⟨by assumption, (by first | exact id | assumption)⟩ (by rfl), ?_⟩)
      | refine jfield rfl rfl rfl rfl rfl rfl rfl rfl ?_
      | refine jcmp rfl rfl rfl rfl rfl rfl rfl ?_
      | refine jar rfl rfl rfl rfl rfl rfl rfl (by omega) ?_
      | refine jextract rfl rfl rfl rfl rfl rfl ?_
      | (refine gcall rfl rfl ?_
         first
         | (refine j_qc (f := 19) rfl rfl rfl rfl rfl rfl rfl ?_; refine ⟨_, (fun w' _ => pick_c s 10001 w' hs (by omega)), ?_⟩))
      | refine j_store rfl rfl rfl rfl rfl rfl rfl rfl (by (repeat (first | exact Upd.here | apply Upd.there))) (by rfl) ?_
      | (refine j_alloc rfl rfl rfl rfl rfl ?_; intro b)
      | (refine j_box rfl rfl rfl rfl rfl ?_; intro b)
      | (refine j_qe rfl rfl rfl ?_
         first
         | refine ⟨_, q_pick_t rfl rfl rfl, ?_⟩
         | refine ⟨_, q_pick_f rfl rfl rfl, ?_⟩
         | refine ⟨_, q_not rfl rfl, ?_⟩
         | refine ⟨_, q_index_nat rfl rfl rfl rfl rfl (by omega), ?_⟩
         | refine ⟨_, q_index_slice rfl rfl rfl rfl rfl (by omega), ?_⟩
         | refine ⟨_, q_index_arr rfl rfl rfl rfl rfl (by omega), ?_⟩
         | refine ⟨_, q_index_arr_ext rfl rfl rfl rfl rfl (by omega), ?_⟩
         | refine ⟨_, q_len_slice rfl rfl rfl rfl, ?_⟩
         | refine ⟨_, q_makeFunc rfl rfl, ?_⟩
         | refine ⟨_, q_build_struct rfl rfl rfl rfl rfl, ?_⟩
         | refine ⟨_, q_build_arr rfl rfl rfl rfl rfl, ?_⟩
         | refine ⟨_, q_nilCheck rfl rfl, ?_⟩
         | refine ⟨_, q_field_ext rfl rfl rfl rfl rfl, ?_⟩
         | refine ⟨_, q_quo rfl rfl rfl (by omega), ?_⟩
         | refine ⟨_, q_rem rfl rfl rfl (by omega), ?_⟩
         | refine ⟨_, q_quot rfl rfl rfl (by omega), ?_⟩
         | refine ⟨_, q_remt rfl rfl rfl (by omega), ?_⟩
         | refine ⟨_, q_addu8 rfl rfl rfl (by omega), ?_⟩
         | refine ⟨_, q_quou8 rfl rfl rfl (by omega), ?_⟩
         | refine ⟨_, q_shr1 rfl rfl rfl, ?_⟩
         | refine ⟨_, q_shr rfl rfl rfl ⟨by omega, by decide⟩, ?_⟩
         | refine ⟨_, q_shr rfl rfl rfl ⟨by omega, by show Int.toNat _ ≤ (8:Nat); omega⟩, ?_⟩
         | refine ⟨_, q_and1 rfl rfl rfl (by first | assumption | omega), ?_⟩
         | refine ⟨_, q_conv rfl rfl rfl rfl rfl rfl (by first | rfl | (exact i64_wrap (by omega) (by omega)) | (exact u8_wrap (by omega) (by omega)) | (exact u64_wrap (by omega) (by omega)) | (exact u16_wrap (by omega) (by omega))), ?_⟩)
      | refine j_guard_undef rfl rfl rfl rfl rfl ?_
      | (refine j_guard rfl rfl rfl rfl rfl ?_ ?_ <;> intro hc <;> (first | (exact absurd hc (by decide)) | ((try simp only [decide_eq_true_eq, decide_eq_false_iff_not, Bool.not_eq_true', Bool.not_eq_false', Bool.not_true, Bool.not_false, ne_eq, Decidable.not_not] at hc) <;> first | (exfalso; omega) | (exact absurd trivial hc) | skip)))
      | (refine j_buildSlice rfl rfl rfl rfl rfl rfl rfl rfl rfl rfl rfl rfl ?_; intro b)
      | (refine j_append rfl rfl rfl rfl rfl rfl rfl rfl rfl rfl rfl (by (repeat (first | exact InL.here | apply InL.there))) (by (repeat (first | exact InL.here | apply InL.there))) (by rfl) (by rfl) (by omega) (fun _ => by (repeat (first | exact Upd.here | apply Upd.there))) ?_; intro v))
   | (refine gSC ?_
      first
      | refine sc_seq ?_
      | refine sc_region ?_
      | (refine sc_cond rfl ?_ ?_ <;> intro hc <;> (first | (exact absurd hc (by decide)) | ((try simp only [decide_eq_true_eq, decide_eq_false_iff_not, Bool.not_eq_true', Bool.not_eq_false', Bool.not_true, Bool.not_false, ne_eq, Decidable.not_not] at hc) <;> first | (exfalso; omega) | (exact absurd trivial hc) | skip)))
      | refine sc_block ?_
      | refine sc_ret ?_
      | refine sc_exit ?_
      | refine sc_skip ?_
      | refine sc_draw rfl mixed (by kernel_rfl) ?_)
   | (refine gSQ ?_
      first
      | refine sq_seq ?_
      | refine sq_blk ?_
      | refine sq_seq_ret ?_
      | refine sq_blk_ret ?_
      | refine sq_loop_ret ?_
      | refine sq_seq_exit ?_
      | refine sq_blk_hit ?_
      | refine sq_blk_miss rfl ?_
      | refine sq_loop_exit ?_
      | refine sq_ende (.inl rfl) rfl rfl ⟨_, (RVs.cons (RV.tmp rfl) (RVs.nil)), ?_⟩
      | refine sq_ende (.inr rfl) rfl rfl ⟨_, (RVs.cons (RV.tmp rfl) (RVs.nil)), ?_⟩)
   | refine j_nil ?_
   )
  (intro w' hS; refine ⟨?_, hS.below⟩; simp only [pack])
theorem risk_c (s : Int) (a : Nat) (w : World) (hs : inI s) (ha : 1 + s % 2000 = a) : Calls Try.prog 21 #[.int .i64 s] w fun e w' => e = .returned (.int .i64 a) ∧ Below w.heap.size w w' := by
  rw [← ha]
  refine eng_start (n := 6) (args := [.int .i64 s]) tab tab_ok fns fns_ok [.tmp 2] Try.func21 rfl rfl rfl rfl ?_
  repeat' (first
   | (refine gJ ?_
      first
      | refine jmv rfl rfl rfl rfl rfl ?_
      | (refine gload rfl rfl ?_
         refine j_qe rfl rfl rfl ?_
         first
         | refine ⟨_, q_load_own rfl rfl rfl rfl (by (repeat (first | exact InL.here | apply InL.there))) (by first | rfl | assumption), ?_⟩
         | refine ⟨_, q_loadA_own rfl rfl rfl rfl (by (repeat (first | exact InL.here | apply InL.there))) (by rfl), ?_⟩
         | refine ⟨_, q_loadA_ext rfl rfl rfl rfl ⟨by assumption, (by first | exact id | assumption)⟩ (by rfl), ?_⟩
         | refine ⟨_, q_load_ext rfl rfl rfl rfl ⟨by assumption, (by first | exact id | assumption)⟩ (by first | rfl | assumption), ?_⟩
         | refine ⟨_, q_load_extb rfl rfl rfl rfl ⟨by assumption, (by first | exact id | assumption)⟩ (by rfl), ?_⟩
         | refine ⟨_, q_loadA_extb rfl rfl rfl rfl ⟨by assumption, (by first | exact id | assumption)⟩ (by rfl), ?_⟩
         | refine ⟨_, q_load_ext0 rfl rfl rfl rfl ⟨by assumption, (by first | exact id | assumption)⟩ (by rfl), ?_⟩)
      | refine jfield rfl rfl rfl rfl rfl rfl rfl rfl ?_
      | refine jcmp rfl rfl rfl rfl rfl rfl rfl ?_
      | refine jar rfl rfl rfl rfl rfl rfl rfl (by omega) ?_
      | refine jextract rfl rfl rfl rfl rfl rfl ?_
      | (refine gcall rfl rfl ?_
         first
         | (refine j_qc (f := 19) rfl rfl rfl rfl rfl rfl rfl ?_; refine ⟨_, (fun w' _ => pick_c s 2000 w' hs (by omega)), ?_⟩))
      | refine j_store rfl rfl rfl rfl rfl rfl rfl rfl (by (repeat (first | exact Upd.here | apply Upd.there))) (by rfl) ?_
      | (refine j_alloc rfl rfl rfl rfl rfl ?_; intro b)
      | (refine j_box rfl rfl rfl rfl rfl ?_; intro b)
      | (refine j_qe rfl rfl rfl ?_
         first
         | refine ⟨_, q_pick_t rfl rfl rfl, ?_⟩
         | refine ⟨_, q_pick_f rfl rfl rfl, ?_⟩
         | refine ⟨_, q_not rfl rfl, ?_⟩
         | refine ⟨_, q_index_nat rfl rfl rfl rfl rfl (by omega), ?_⟩
         | refine ⟨_, q_index_slice rfl rfl rfl rfl rfl (by omega), ?_⟩
         | refine ⟨_, q_index_arr rfl rfl rfl rfl rfl (by omega), ?_⟩
         | refine ⟨_, q_index_arr_ext rfl rfl rfl rfl rfl (by omega), ?_⟩
         | refine ⟨_, q_len_slice rfl rfl rfl rfl, ?_⟩
         | refine ⟨_, q_makeFunc rfl rfl, ?_⟩
         | refine ⟨_, q_build_struct rfl rfl rfl rfl rfl, ?_⟩
         | refine ⟨_, q_build_arr rfl rfl rfl rfl rfl, ?_⟩
         | refine ⟨_, q_nilCheck rfl rfl, ?_⟩
         | refine ⟨_, q_field_ext rfl rfl rfl rfl rfl, ?_⟩
         | refine ⟨_, q_quo rfl rfl rfl (by omega), ?_⟩
         | refine ⟨_, q_rem rfl rfl rfl (by omega), ?_⟩
         | refine ⟨_, q_quot rfl rfl rfl (by omega), ?_⟩
         | refine ⟨_, q_remt rfl rfl rfl (by omega), ?_⟩
         | refine ⟨_, q_addu8 rfl rfl rfl (by omega), ?_⟩
         | refine ⟨_, q_quou8 rfl rfl rfl (by omega), ?_⟩
         | refine ⟨_, q_shr1 rfl rfl rfl, ?_⟩
         | refine ⟨_, q_shr rfl rfl rfl ⟨by omega, by decide⟩, ?_⟩
         | refine ⟨_, q_shr rfl rfl rfl ⟨by omega, by show Int.toNat _ ≤ (8:Nat); omega⟩, ?_⟩
         | refine ⟨_, q_and1 rfl rfl rfl (by first | assumption | omega), ?_⟩
         | refine ⟨_, q_conv rfl rfl rfl rfl rfl rfl (by first | rfl | (exact i64_wrap (by omega) (by omega)) | (exact u8_wrap (by omega) (by omega)) | (exact u64_wrap (by omega) (by omega)) | (exact u16_wrap (by omega) (by omega))), ?_⟩)
      | refine j_guard_undef rfl rfl rfl rfl rfl ?_
      | (refine j_guard rfl rfl rfl rfl rfl ?_ ?_ <;> intro hc <;> (first | (exact absurd hc (by decide)) | ((try simp only [decide_eq_true_eq, decide_eq_false_iff_not, Bool.not_eq_true', Bool.not_eq_false', Bool.not_true, Bool.not_false, ne_eq, Decidable.not_not] at hc) <;> first | (exfalso; omega) | (exact absurd trivial hc) | skip)))
      | (refine j_buildSlice rfl rfl rfl rfl rfl rfl rfl rfl rfl rfl rfl rfl ?_; intro b)
      | (refine j_append rfl rfl rfl rfl rfl rfl rfl rfl rfl rfl rfl (by (repeat (first | exact InL.here | apply InL.there))) (by (repeat (first | exact InL.here | apply InL.there))) (by rfl) (by rfl) (by omega) (fun _ => by (repeat (first | exact Upd.here | apply Upd.there))) ?_; intro v))
   | (refine gSC ?_
      first
      | refine sc_seq ?_
      | refine sc_region ?_
      | (refine sc_cond rfl ?_ ?_ <;> intro hc <;> (first | (exact absurd hc (by decide)) | ((try simp only [decide_eq_true_eq, decide_eq_false_iff_not, Bool.not_eq_true', Bool.not_eq_false', Bool.not_true, Bool.not_false, ne_eq, Decidable.not_not] at hc) <;> first | (exfalso; omega) | (exact absurd trivial hc) | skip)))
      | refine sc_block ?_
      | refine sc_ret ?_
      | refine sc_exit ?_
      | refine sc_skip ?_
      | refine sc_draw rfl mixed (by kernel_rfl) ?_)
   | (refine gSQ ?_
      first
      | refine sq_seq ?_
      | refine sq_blk ?_
      | refine sq_seq_ret ?_
      | refine sq_blk_ret ?_
      | refine sq_loop_ret ?_
      | refine sq_seq_exit ?_
      | refine sq_blk_hit ?_
      | refine sq_blk_miss rfl ?_
      | refine sq_loop_exit ?_
      | refine sq_ende (.inl rfl) rfl rfl ⟨_, (RVs.cons (RV.tmp rfl) (RVs.nil)), ?_⟩
      | refine sq_ende (.inr rfl) rfl rfl ⟨_, (RVs.cons (RV.tmp rfl) (RVs.nil)), ?_⟩)
   | refine j_nil ?_
   )
  (intro w' hS; refine ⟨?_, hS.below⟩; simp only [pack])
theorem trials_c (x y : Int) (most n k : Nat) (w : World) (hx : inI x) (hy : inI y) (hm : most ≤ 1000) (hn : x % ((most : Int) + 1) = n) (hk : y % ((n : Int) + 1) = k) :
    Calls Try.prog 27 #[.int .i64 x, .int .i64 y, .int .i64 most] w fun e w' => e = .returned (.tuple #[.int .i64 n, .int .i64 k]) ∧ Below w.heap.size w w' := by
  have hb := Int.emod_lt_of_pos x (show (0 : Int) < (most : Int) + 1 by omega)
  rw [hn] at hb
  have h1 := fun w' => pick_c x ((most : Int) + 1) w' hx (by omega)
  rw [hn] at h1
  have h2 := fun w' => pick_c y ((n : Int) + 1) w' hy (by omega)
  rw [hk] at h2
  refine eng_start (n := 17) (args := [.int .i64 x, .int .i64 y, .int .i64 most]) tab tab_ok fns fns_ok [.tmp 6, .tmp 7] Try.func27 rfl rfl rfl rfl ?_
  repeat' (first
   | (refine gJ ?_
      first
      | refine jmv rfl rfl rfl rfl rfl ?_
      | (refine gload rfl rfl ?_
         refine j_qe rfl rfl rfl ?_
         first
         | refine ⟨_, q_load_own rfl rfl rfl rfl (by (repeat (first | exact InL.here | apply InL.there))) (by first | rfl | assumption), ?_⟩
         | refine ⟨_, q_loadA_own rfl rfl rfl rfl (by (repeat (first | exact InL.here | apply InL.there))) (by rfl), ?_⟩
         | refine ⟨_, q_loadA_ext rfl rfl rfl rfl ⟨by assumption, (by first | exact id | assumption)⟩ (by rfl), ?_⟩
         | refine ⟨_, q_load_ext rfl rfl rfl rfl ⟨by assumption, (by first | exact id | assumption)⟩ (by first | rfl | assumption), ?_⟩
         | refine ⟨_, q_load_extb rfl rfl rfl rfl ⟨by assumption, (by first | exact id | assumption)⟩ (by rfl), ?_⟩
         | refine ⟨_, q_loadA_extb rfl rfl rfl rfl ⟨by assumption, (by first | exact id | assumption)⟩ (by rfl), ?_⟩
         | refine ⟨_, q_load_ext0 rfl rfl rfl rfl ⟨by assumption, (by first | exact id | assumption)⟩ (by rfl), ?_⟩)
      | refine jfield rfl rfl rfl rfl rfl rfl rfl rfl ?_
      | refine jcmp rfl rfl rfl rfl rfl rfl rfl ?_
      | refine jar rfl rfl rfl rfl rfl rfl rfl (by omega) ?_
      | refine jextract rfl rfl rfl rfl rfl rfl ?_
      | (refine gcall rfl rfl ?_
         first
         | (refine j_qc (f := 19) rfl rfl rfl rfl rfl rfl rfl ?_; refine ⟨_, (fun w' _ => h1 w'), ?_⟩)
         | (refine j_qc (f := 19) rfl rfl rfl rfl rfl rfl rfl ?_; refine ⟨_, (fun w' _ => h2 w'), ?_⟩))
      | refine j_store rfl rfl rfl rfl rfl rfl rfl rfl (by (repeat (first | exact Upd.here | apply Upd.there))) (by rfl) ?_
      | (refine j_alloc rfl rfl rfl rfl rfl ?_; intro b)
      | (refine j_box rfl rfl rfl rfl rfl ?_; intro b)
      | (refine j_qe rfl rfl rfl ?_
         first
         | refine ⟨_, q_pick_t rfl rfl rfl, ?_⟩
         | refine ⟨_, q_pick_f rfl rfl rfl, ?_⟩
         | refine ⟨_, q_not rfl rfl, ?_⟩
         | refine ⟨_, q_index_nat rfl rfl rfl rfl rfl (by omega), ?_⟩
         | refine ⟨_, q_index_slice rfl rfl rfl rfl rfl (by omega), ?_⟩
         | refine ⟨_, q_index_arr rfl rfl rfl rfl rfl (by omega), ?_⟩
         | refine ⟨_, q_index_arr_ext rfl rfl rfl rfl rfl (by omega), ?_⟩
         | refine ⟨_, q_len_slice rfl rfl rfl rfl, ?_⟩
         | refine ⟨_, q_makeFunc rfl rfl, ?_⟩
         | refine ⟨_, q_build_struct rfl rfl rfl rfl rfl, ?_⟩
         | refine ⟨_, q_build_arr rfl rfl rfl rfl rfl, ?_⟩
         | refine ⟨_, q_nilCheck rfl rfl, ?_⟩
         | refine ⟨_, q_field_ext rfl rfl rfl rfl rfl, ?_⟩
         | refine ⟨_, q_quo rfl rfl rfl (by omega), ?_⟩
         | refine ⟨_, q_rem rfl rfl rfl (by omega), ?_⟩
         | refine ⟨_, q_quot rfl rfl rfl (by omega), ?_⟩
         | refine ⟨_, q_remt rfl rfl rfl (by omega), ?_⟩
         | refine ⟨_, q_addu8 rfl rfl rfl (by omega), ?_⟩
         | refine ⟨_, q_quou8 rfl rfl rfl (by omega), ?_⟩
         | refine ⟨_, q_shr1 rfl rfl rfl, ?_⟩
         | refine ⟨_, q_shr rfl rfl rfl ⟨by omega, by decide⟩, ?_⟩
         | refine ⟨_, q_shr rfl rfl rfl ⟨by omega, by show Int.toNat _ ≤ (8:Nat); omega⟩, ?_⟩
         | refine ⟨_, q_and1 rfl rfl rfl (by first | assumption | omega), ?_⟩
         | refine ⟨_, q_conv rfl rfl rfl rfl rfl rfl (by first | rfl | (exact i64_wrap (by omega) (by omega)) | (exact u8_wrap (by omega) (by omega)) | (exact u64_wrap (by omega) (by omega)) | (exact u16_wrap (by omega) (by omega))), ?_⟩)
      | refine j_guard_undef rfl rfl rfl rfl rfl ?_
      | (refine j_guard rfl rfl rfl rfl rfl ?_ ?_ <;> intro hc <;> (first | (exact absurd hc (by decide)) | ((try simp only [decide_eq_true_eq, decide_eq_false_iff_not, Bool.not_eq_true', Bool.not_eq_false', Bool.not_true, Bool.not_false, ne_eq, Decidable.not_not] at hc) <;> first | (exfalso; omega) | (exact absurd trivial hc) | skip)))
      | (refine j_buildSlice rfl rfl rfl rfl rfl rfl rfl rfl rfl rfl rfl rfl ?_; intro b)
      | (refine j_append rfl rfl rfl rfl rfl rfl rfl rfl rfl rfl rfl (by (repeat (first | exact InL.here | apply InL.there))) (by (repeat (first | exact InL.here | apply InL.there))) (by rfl) (by rfl) (by omega) (fun _ => by (repeat (first | exact Upd.here | apply Upd.there))) ?_; intro v))
   | (refine gSC ?_
      first
      | refine sc_seq ?_
      | refine sc_region ?_
      | (refine sc_cond rfl ?_ ?_ <;> intro hc <;> (first | (exact absurd hc (by decide)) | ((try simp only [decide_eq_true_eq, decide_eq_false_iff_not, Bool.not_eq_true', Bool.not_eq_false', Bool.not_true, Bool.not_false, ne_eq, Decidable.not_not] at hc) <;> first | (exfalso; omega) | (exact absurd trivial hc) | skip)))
      | refine sc_block ?_
      | refine sc_ret ?_
      | refine sc_exit ?_
      | refine sc_skip ?_
      | refine sc_draw rfl mixed (by kernel_rfl) ?_)
   | (refine gSQ ?_
      first
      | refine sq_seq ?_
      | refine sq_blk ?_
      | refine sq_seq_ret ?_
      | refine sq_blk_ret ?_
      | refine sq_loop_ret ?_
      | refine sq_seq_exit ?_
      | refine sq_blk_hit ?_
      | refine sq_blk_miss rfl ?_
      | refine sq_loop_exit ?_
      | refine sq_ende (.inl rfl) rfl rfl ⟨_, (RVs.cons (RV.tmp rfl) (RVs.cons (RV.tmp rfl) (RVs.nil))), ?_⟩
      | refine sq_ende (.inr rfl) rfl rfl ⟨_, (RVs.cons (RV.tmp rfl) (RVs.cons (RV.tmp rfl) (RVs.nil))), ?_⟩)
   | refine j_nil ?_
   )
  (intro w' hS; refine ⟨?_, hS.below⟩; simp only [pack])
theorem nat_mod (x : Int) (m : Nat) (hm : 0 < m) : ∃ n : Nat, x % (m : Int) = n ∧ n < m := ⟨(x % (m : Int)).toNat, by
  have := Int.emod_nonneg x (show (m : Int) ≠ 0 by omega)
  omega, by
  have := Int.emod_nonneg x (show (m : Int) ≠ 0 by omega)
  have := Int.emod_lt_of_pos x (show (0 : Int) < m by omega)
  omega⟩
theorem get_trials (x y : Int) (most : Nat) : ∃ n k : Nat, x % ((most : Int) + 1) = n ∧ y % ((n : Int) + 1) = k ∧ n ≤ most ∧ k ≤ n := by
  obtain ⟨n, h1, h2⟩ := nat_mod x (most + 1) (by omega)
  obtain ⟨k, h3, h4⟩ := nat_mod y (n + 1) (by omega)
  exact ⟨n, k, by exact_mod_cast h1, by exact_mod_cast h3, by omega, by omega⟩
theorem turns_c (t k0 s r : Int) (w : World) (ht : inI t) (hk0 : inI k0) (hs : inI s) (hr : inI r) :
    Calls Try.prog 9 #[.int .i64 t, .int .i64 k0, .int .i64 s, .int .i64 r] w fun e w' => e = .returned (.bool true) ∧ Below w.heap.size w w' := by
  obtain ⟨n, k, en, ek, hn, hk⟩ := get_trials t k0 100
  obtain ⟨p, ep, hp⟩ := nat_mod s 10001 (by omega)
  obtain ⟨a0, ea, ha⟩ := nat_mod r 2000 (by omega)
  obtain ⟨a, ea2⟩ : ∃ a : Nat, a = a0 + 1 := ⟨_, rfl⟩
  have ea3 : 1 + r % 2000 = a := by rw [show r % 2000 = (a0 : Int) from ea]; omega
  have e1 : low (10000 - p) (10000 - (10000 - p)) n (n - k) = up p (10000 - p) n k := by rw [low_turn (by omega), show 10000 - (10000 - p) = p by omega, show n - (n - k) = k by omega]
  have e2 : ch n (n - k) = ch n k := (bn_flip hk).symm
  have e3 : n - (n - k) = k := by omega
  have c1 : ((n : Int) - k) = ((n - k : Nat) : Int) := by omega
  have c2 : ((10000 : Int) - p) = ((10000 - p : Nat) : Int) := by omega
  have hl : ∀ w', Calls Try.prog 29 #[.int .i64 n, .int .i64 ((n : Int) - k), .int .i64 ((10000 : Int) - p)] w' fun e w'' => ∃ v : Value, True ∧ e = .returned (.tuple #[v, .int .i64 0]) ∧ St w' Cold [haN v (up p (10000 - p) n k)] w'' := fun w' => by
    rw [c1, c2, ← e1]
    exact lower_c n (n - k) (10000 - p) w' (by omega) (by omega) (by omega)
  have hch2 : ∀ w', Calls Try.prog 32 #[.int .i64 n, .int .i64 ((n : Int) - k)] w' fun e w'' => ∃ v : Value, True ∧ e = .returned (.tuple #[v, .int .i64 0]) ∧ St w' Cold [haN v (ch n k)] w'' := fun w' => by
    rw [c1, ← e2]
    exact choose_c n (n - k) w' (by omega) (by omega)
  have hg : ∀ w', Calls Try.prog 24 #[.int .i64 n, .int .i64 ((n : Int) - k), .int .i64 a] w' fun e w'' => e = .returned (.tuple #[.int .i64 ((10000 : Int) - (lowF n k a : Nat)), .int .i64 0]) ∧ Below w'.heap.size w' w'' := fun w' => by
    have h := greatest_c n (n - k) a w' (by omega) (by omega) (by omega)
    rw [e3, ← c1] at h
    exact h
  have hcap := Nat.le_trans (up_cap (p := p) (n := n) (k := k) (by omega) (by omega)) cap_500
  have hchc : ch n k ≤ cap := by have := ch_cap2 (n := n) (k := k) (m := 1) (by omega) (by omega); rwa [Nat.mul_one] at this
  have hlo := (lowest_spec (posB n k a)).1
  have hlo2 : (lowF n k a : Int) ≤ 10000 := by unfold lowF; omega
  refine eng_start (n := 112) (args := [.int .i64 t, .int .i64 k0, .int .i64 s, .int .i64 r]) tab tab_ok fns fns_ok [.tmp 8] Try.func9 rfl rfl rfl rfl ?_
  repeat' (first
   | (refine gJ ?_
      first
      | refine jmv rfl rfl rfl rfl rfl ?_
      | (refine gload rfl rfl ?_
         refine j_qe rfl rfl rfl ?_
         first
         | refine ⟨_, q_load_own rfl rfl rfl rfl (by (repeat (first | exact InL.here | apply InL.there))) (by first | rfl | assumption), ?_⟩
         | refine ⟨_, q_loadA_own rfl rfl rfl rfl (by (repeat (first | exact InL.here | apply InL.there))) (by rfl), ?_⟩
         | refine ⟨_, q_loadA_ext rfl rfl rfl rfl ⟨by assumption, (by first | exact id | assumption)⟩ (by rfl), ?_⟩
         | refine ⟨_, q_load_ext rfl rfl rfl rfl ⟨by assumption, (by first | exact id | assumption)⟩ (by first | rfl | assumption), ?_⟩
         | refine ⟨_, q_load_extb rfl rfl rfl rfl ⟨by assumption, (by first | exact id | assumption)⟩ (by rfl), ?_⟩
         | refine ⟨_, q_loadA_extb rfl rfl rfl rfl ⟨by assumption, (by first | exact id | assumption)⟩ (by rfl), ?_⟩
         | refine ⟨_, q_load_ext0 rfl rfl rfl rfl ⟨by assumption, (by first | exact id | assumption)⟩ (by rfl), ?_⟩)
      | refine jfield rfl rfl rfl rfl rfl rfl rfl rfl ?_
      | refine jcmp rfl rfl rfl rfl rfl rfl rfl ?_
      | refine jar rfl rfl rfl rfl rfl rfl rfl (by omega) ?_
      | refine jextract rfl rfl rfl rfl rfl rfl ?_
      | (refine gcall rfl rfl ?_
         first
         | (refine j_qc (f := 14) rfl rfl rfl rfl rfl rfl rfl ?_; refine ⟨_, (fun w' _ => awake_c w'), ?_⟩)
         | (refine j_qc (f := 27) rfl rfl rfl rfl rfl rfl rfl ?_; refine ⟨_, (fun w' _ => trials_c t k0 100 n k w' ht hk0 (by omega) en ek), ?_⟩)
         | (refine j_qc (f := 20) rfl rfl rfl rfl rfl rfl rfl ?_; refine ⟨_, (fun w' _ => share_c s p w' hs ep), ?_⟩)
         | (refine j_qc (f := 21) rfl rfl rfl rfl rfl rfl rfl ?_; refine ⟨_, (fun w' _ => risk_c r a w' hr ea3), ?_⟩)
         | (refine j_qc (f := 30) rfl rfl rfl rfl rfl rfl rfl ?_; refine ⟨_, (fun w' hs => by have h9 := same1_c A1 c1 (up p (10000 - p) n k) A2 c2 (up p (10000 - p) n k) w' hcap hcap (sl_of_own hs (by (repeat (first | exact InL.here | apply InL.there))) rfl rfl) (sl_of_own hs (by (repeat (first | exact InL.here | apply InL.there))) rfl rfl); rw [decide_eq_true rfl] at h9; exact h9), ?_⟩)
         | (refine j_qc (f := 30) rfl rfl rfl rfl rfl rfl rfl ?_; refine ⟨_, (fun w' hs => by have h9 := same1_c A3 c3 (ch n k) A4 c4 (ch n k) w' hchc hchc (sl_of_own hs (by (repeat (first | exact InL.here | apply InL.there))) rfl rfl) (sl_of_own hs (by (repeat (first | exact InL.here | apply InL.there))) rfl rfl); rw [decide_eq_true rfl] at h9; exact h9), ?_⟩)
         | (refine j_qc (f := 23) rfl rfl rfl rfl rfl rfl rfl ?_; refine ⟨_, (fun w' _ => least_c n k a w' hk (by omega) (by omega)), ?_⟩)
         | (refine j_qc (f := 24) rfl rfl rfl rfl rfl rfl rfl ?_; refine ⟨_, (fun w' _ => hg w'), ?_⟩))
      | (refine gcall rfl rfl ?_; refine j_nat2 (f := 28) rfl rfl rfl rfl rfl rfl rfl (fun w' _ => upper_c n k p w' hk (by omega) (by omega)) ?_; intro A1 c1)
      | (refine gcall rfl rfl ?_; refine j_nat2 (f := 29) rfl rfl rfl rfl rfl rfl rfl (fun w' _ => hl w') ?_; intro A2 c2)
      | (refine gcall rfl rfl ?_; refine j_nat2 (f := 32) rfl rfl rfl rfl rfl rfl rfl (fun w' _ => choose_c n k w' hk (by omega)) ?_; intro A3 c3)
      | (refine gcall rfl rfl ?_; refine j_nat2 (f := 32) rfl rfl rfl rfl rfl rfl rfl (fun w' _ => hch2 w') ?_; intro A4 c4)
      | refine j_store rfl rfl rfl rfl rfl rfl rfl rfl (by (repeat (first | exact Upd.here | apply Upd.there))) (by rfl) ?_
      | (refine j_alloc rfl rfl rfl rfl rfl ?_; intro b)
      | (refine j_box rfl rfl rfl rfl rfl ?_; intro b)
      | (refine j_qe rfl rfl rfl ?_
         first
         | refine ⟨_, q_pick_t rfl rfl rfl, ?_⟩
         | refine ⟨_, q_pick_f rfl rfl rfl, ?_⟩
         | refine ⟨_, q_not rfl rfl, ?_⟩
         | refine ⟨_, q_index_nat rfl rfl rfl rfl rfl (by omega), ?_⟩
         | refine ⟨_, q_index_slice rfl rfl rfl rfl rfl (by omega), ?_⟩
         | refine ⟨_, q_index_arr rfl rfl rfl rfl rfl (by omega), ?_⟩
         | refine ⟨_, q_index_arr_ext rfl rfl rfl rfl rfl (by omega), ?_⟩
         | refine ⟨_, q_len_slice rfl rfl rfl rfl, ?_⟩
         | refine ⟨_, q_makeFunc rfl rfl, ?_⟩
         | refine ⟨_, q_build_struct rfl rfl rfl rfl rfl, ?_⟩
         | refine ⟨_, q_build_arr rfl rfl rfl rfl rfl, ?_⟩
         | refine ⟨_, q_nilCheck rfl rfl, ?_⟩
         | refine ⟨_, q_field_ext rfl rfl rfl rfl rfl, ?_⟩
         | refine ⟨_, q_quo rfl rfl rfl (by omega), ?_⟩
         | refine ⟨_, q_rem rfl rfl rfl (by omega), ?_⟩
         | refine ⟨_, q_quot rfl rfl rfl (by omega), ?_⟩
         | refine ⟨_, q_remt rfl rfl rfl (by omega), ?_⟩
         | refine ⟨_, q_addu8 rfl rfl rfl (by omega), ?_⟩
         | refine ⟨_, q_quou8 rfl rfl rfl (by omega), ?_⟩
         | refine ⟨_, q_shr1 rfl rfl rfl, ?_⟩
         | refine ⟨_, q_shr rfl rfl rfl ⟨by omega, by decide⟩, ?_⟩
         | refine ⟨_, q_shr rfl rfl rfl ⟨by omega, by show Int.toNat _ ≤ (8:Nat); omega⟩, ?_⟩
         | refine ⟨_, q_and1 rfl rfl rfl (by first | assumption | omega), ?_⟩
         | refine ⟨_, q_conv rfl rfl rfl rfl rfl rfl (by first | rfl | (exact i64_wrap (by omega) (by omega)) | (exact u8_wrap (by omega) (by omega)) | (exact u64_wrap (by omega) (by omega)) | (exact u16_wrap (by omega) (by omega))), ?_⟩)
      | refine j_guard_undef rfl rfl rfl rfl rfl ?_
      | (refine j_guard rfl rfl rfl rfl rfl ?_ ?_ <;> intro hc <;> (first | (exact absurd hc (by decide)) | ((try simp only [decide_eq_true_eq, decide_eq_false_iff_not, Bool.not_eq_true', Bool.not_eq_false', Bool.not_true, Bool.not_false, ne_eq, Decidable.not_not] at hc) <;> first | (exfalso; omega) | (exact absurd trivial hc) | skip)))
      | (refine j_buildSlice rfl rfl rfl rfl rfl rfl rfl rfl rfl rfl rfl rfl ?_; intro b)
      | (refine j_append rfl rfl rfl rfl rfl rfl rfl rfl rfl rfl rfl (by (repeat (first | exact InL.here | apply InL.there))) (by (repeat (first | exact InL.here | apply InL.there))) (by rfl) (by rfl) (by omega) (fun _ => by (repeat (first | exact Upd.here | apply Upd.there))) ?_; intro v))
   | (refine gSC ?_
      first
      | refine sc_seq ?_
      | refine sc_region ?_
      | (refine sc_cond rfl ?_ ?_ <;> intro hc <;> (first | (exact absurd hc (by decide)) | ((try simp only [decide_eq_true_eq, decide_eq_false_iff_not, Bool.not_eq_true', Bool.not_eq_false', Bool.not_true, Bool.not_false, ne_eq, Decidable.not_not] at hc) <;> first | (exfalso; omega) | (exact absurd trivial hc) | skip)))
      | refine sc_block ?_
      | refine sc_ret ?_
      | refine sc_exit ?_
      | refine sc_skip ?_
      | refine sc_draw rfl mixed (by kernel_rfl) ?_)
   | (refine gSQ ?_
      first
      | refine sq_seq ?_
      | refine sq_blk ?_
      | refine sq_seq_ret ?_
      | refine sq_blk_ret ?_
      | refine sq_loop_ret ?_
      | refine sq_seq_exit ?_
      | refine sq_blk_hit ?_
      | refine sq_blk_miss rfl ?_
      | refine sq_loop_exit ?_
      | refine sq_ende (.inl rfl) rfl rfl ⟨_, (RVs.cons (RV.tmp rfl) (RVs.nil)), ?_⟩
      | refine sq_ende (.inr rfl) rfl rfl ⟨_, (RVs.cons (RV.tmp rfl) (RVs.nil)), ?_⟩)
   | refine j_nil ?_
   )
  all_goals ((intro w' hS; refine ⟨?_, hS.below⟩; simp only [pack]); exact rb (by simp; omega))
end Go.Proofs.Ytmlgheoliaplgaa
