/-
  The calendar's functions: what each call yields.
-/
import Derived.Test.YtbejfbekamikpaaTab
import Derived.Test.YtbejfbekamikpaaEngCoreA
import Derived.Test.YtbejfbekamikpaaPl0
namespace Go.Proofs.Ytbejfbekamikpaa
open Go.RowKit Eng
set_option linter.unusedVariables false
set_option linter.unusedSimpArgs false
set_option maxHeartbeats 8000000
attribute [local irreducible] SC SQ J Qt Calls Iterates
theorem ri {k : IntKind} {a b : Int} (h : a = b) : Ending.returned (.int k a) = .returned (.int k b) := by rw [h]
theorem rb {a b : Bool} (h : a = b) : Ending.returned (.bool a) = .returned (.bool b) := by rw [h]
theorem checkDay_c (d : Int) (w : World) :
    Calls Try.prog 39 #[.int .i64 d] w fun e w' => e = .returned (.int .i64 (checkDayF d)) ∧ Below w.heap.size w w' := by
  refine eng_start (n := 7) (args := [.int .i64 d]) tab tab_ok fns fns_ok [.tmp 2] Try.func39 rfl rfl rfl rfl ?_
  repeat' (first
   | (refine gJ ?_
      first
      | refine jmv rfl rfl rfl rfl rfl ?_
      | (refine gload rfl rfl ?_
         refine j_qe rfl rfl rfl ?_
         first
         | refine ⟨_, q_load_own rfl rfl rfl rfl (by (repeat (first | exact InL.here | apply InL.there))) (by first | rfl | assumption), ?_⟩
         | refine ⟨_, q_loadA_own rfl rfl rfl rfl (by (repeat (first | exact InL.here | apply InL.there))) (by rfl), ?_⟩
         | refine ⟨_, q_loadA_ext rfl rfl rfl rfl ⟨by assumption, (by first | exact id | assumption)⟩ (by rfl), ?_⟩
         | refine ⟨_, q_load_ext rfl rfl rfl rfl ⟨by assumption, (by first | exact id | assumption)⟩ (by first | rfl | assumption), ?_⟩
         | refine ⟨_, q_load_extb rfl rfl rfl rfl ⟨by assumption, (by first | exact id | assumption)⟩ (by rfl), ?_⟩
         | refine ⟨_, q_loadA_extb rfl rfl rfl rfl ⟨by assumption, (by first | exact id | assumption)⟩ (by rfl), ?_⟩
         | refine ⟨_, q_load_ext0 rfl rfl rfl rfl ⟨by assumption, (by first | exact id | assumption)⟩ (by rfl), ?_⟩)
      | refine jfield rfl rfl rfl rfl rfl rfl rfl rfl ?_
      | refine jcmp rfl rfl rfl rfl rfl rfl rfl ?_
      | refine jar rfl rfl rfl rfl rfl rfl rfl (by omega) ?_
      | refine jextract rfl rfl rfl rfl rfl rfl ?_
      | (refine gF ?_
         first
         | refine j_store rfl rfl rfl rfl rfl rfl rfl rfl (by (repeat (first | exact Upd.here | apply Upd.there))) (by rfl) ?_
         | (refine j_alloc rfl rfl rfl rfl rfl ?_; intro b)
         | (refine j_box rfl rfl rfl rfl rfl ?_; intro b)
         | (refine j_buildSlice rfl rfl rfl rfl rfl rfl rfl rfl rfl rfl rfl rfl ?_; intro b)
         | (refine j_append rfl rfl rfl rfl rfl rfl rfl rfl rfl rfl rfl (by (repeat (first | exact InL.here | apply InL.there))) (by (repeat (first | exact InL.here | apply InL.there))) (by rfl) (by rfl) (by omega) (fun _ => by (repeat (first | exact Upd.here | apply Upd.there))) ?_; intro v))
      | (refine j_qe rfl rfl rfl ?_
         first
         | refine ⟨_, q_pick_t rfl rfl rfl, ?_⟩
         | refine ⟨_, q_pick_f rfl rfl rfl, ?_⟩
         | refine ⟨_, q_not rfl rfl, ?_⟩
         | refine ⟨_, q_index_nat rfl rfl rfl rfl rfl (by omega), ?_⟩
         | refine ⟨_, q_index_slice rfl rfl rfl rfl rfl (by omega), ?_⟩
         | refine ⟨_, q_index_arr rfl rfl rfl rfl rfl (by omega), ?_⟩
         | refine ⟨_, q_index_arr_ext rfl rfl rfl rfl rfl (by omega), ?_⟩
         | refine ⟨_, q_len_slice rfl rfl rfl rfl, ?_⟩
         | refine ⟨_, q_makeFunc rfl rfl, ?_⟩
         | refine ⟨_, q_build_struct rfl rfl rfl rfl rfl, ?_⟩
         | refine ⟨_, q_build_arr rfl rfl rfl rfl rfl, ?_⟩
         | refine ⟨_, q_nilCheck rfl rfl, ?_⟩
         | refine ⟨_, q_field_ext rfl rfl rfl rfl rfl, ?_⟩
         | refine ⟨_, q_quo rfl rfl rfl (by omega), ?_⟩
         | refine ⟨_, q_rem rfl rfl rfl (by omega), ?_⟩
         | refine ⟨_, q_quot rfl rfl rfl (by omega), ?_⟩
         | refine ⟨_, q_remt rfl rfl rfl (by omega), ?_⟩
         | refine ⟨_, q_addu8 rfl rfl rfl (by omega), ?_⟩
         | refine ⟨_, q_quou8 rfl rfl rfl (by omega), ?_⟩
         | refine ⟨_, q_shr1 rfl rfl rfl, ?_⟩
         | refine ⟨_, q_shr rfl rfl rfl ⟨by omega, by decide⟩, ?_⟩
         | refine ⟨_, q_shr rfl rfl rfl ⟨by omega, by show Int.toNat _ ≤ (8:Nat); omega⟩, ?_⟩
         | refine ⟨_, q_and1 rfl rfl rfl (by first | assumption | omega), ?_⟩
         | refine ⟨_, q_conv rfl rfl rfl rfl rfl rfl (by first | rfl | (exact i64_wrap (by omega) (by omega)) | (exact u8_wrap (by omega) (by omega)) | (exact u64_wrap (by omega) (by omega)) | (exact u16_wrap (by omega) (by omega))), ?_⟩)
      | refine j_guard_undef rfl rfl rfl rfl rfl ?_
      | (refine j_guard rfl rfl rfl rfl rfl ?_ ?_ <;> intro hc <;> (first | (exact absurd hc (by decide)) | ((try simp only [decide_eq_true_eq, decide_eq_false_iff_not, Bool.not_eq_true', Bool.not_eq_false', Bool.not_true, Bool.not_false, ne_eq, Decidable.not_not] at hc) <;> first | (exfalso; omega) | (exact absurd trivial hc) | skip))))
   | (refine gSC ?_
      first
      | refine sc_seq ?_
      | refine sc_region ?_
      | (refine sc_cond rfl ?_ ?_ <;> intro hc <;> (first | (exact absurd hc (by decide)) | ((try simp only [decide_eq_true_eq, decide_eq_false_iff_not, Bool.not_eq_true', Bool.not_eq_false', Bool.not_true, Bool.not_false, ne_eq, Decidable.not_not] at hc) <;> first | (exfalso; omega) | (exact absurd trivial hc) | skip)))
      | refine sc_block ?_
      | refine sc_ret ?_
      | refine sc_exit ?_
      | refine sc_skip ?_
      | refine sc_draw rfl mixed (by kernel_rfl) ?_)
   | (refine gSQ ?_
      first
      | refine sq_seq ?_
      | refine sq_blk ?_
      | refine sq_seq_ret ?_
      | refine sq_blk_ret ?_
      | refine sq_loop_ret ?_
      | refine sq_seq_exit ?_
      | refine sq_blk_hit ?_
      | refine sq_blk_miss rfl ?_
      | refine sq_loop_exit ?_
      | refine sq_ende (.inl rfl) rfl rfl ⟨_, (RVs.cons (RV.tmp rfl) (RVs.nil)), ?_⟩
      | refine sq_ende (.inr rfl) rfl rfl ⟨_, (RVs.cons (RV.tmp rfl) (RVs.nil)), ?_⟩)
   | refine j_nil ?_
   )
  all_goals ((intro w' hS; refine ⟨?_, hS.below⟩; simp only [pack]); exact ri (by unfold checkDayF; (repeat' split) <;> omega))
theorem yearStart_c (y : Int) (w : World) (h : 2001 ≤ y) (h2 : y ≤ 4001) :
    Calls Try.prog 40 #[.int .i64 y] w fun e w' => e = .returned (.int .i64 (ysF y)) ∧ Below w.heap.size w w' := by
  refine eng_start (n := 17) (args := [.int .i64 y]) tab tab_ok fns fns_ok [.tmp 2] Try.func40 rfl rfl rfl rfl ?_
  repeat' (first
   | (refine gJ ?_
      first
      | refine jmv rfl rfl rfl rfl rfl ?_
      | (refine gload rfl rfl ?_
         refine j_qe rfl rfl rfl ?_
         first
         | refine ⟨_, q_load_own rfl rfl rfl rfl (by (repeat (first | exact InL.here | apply InL.there))) (by first | rfl | assumption), ?_⟩
         | refine ⟨_, q_loadA_own rfl rfl rfl rfl (by (repeat (first | exact InL.here | apply InL.there))) (by rfl), ?_⟩
         | refine ⟨_, q_loadA_ext rfl rfl rfl rfl ⟨by assumption, (by first | exact id | assumption)⟩ (by rfl), ?_⟩
         | refine ⟨_, q_load_ext rfl rfl rfl rfl ⟨by assumption, (by first | exact id | assumption)⟩ (by first | rfl | assumption), ?_⟩
         | refine ⟨_, q_load_extb rfl rfl rfl rfl ⟨by assumption, (by first | exact id | assumption)⟩ (by rfl), ?_⟩
         | refine ⟨_, q_loadA_extb rfl rfl rfl rfl ⟨by assumption, (by first | exact id | assumption)⟩ (by rfl), ?_⟩
         | refine ⟨_, q_load_ext0 rfl rfl rfl rfl ⟨by assumption, (by first | exact id | assumption)⟩ (by rfl), ?_⟩)
      | refine jfield rfl rfl rfl rfl rfl rfl rfl rfl ?_
      | refine jcmp rfl rfl rfl rfl rfl rfl rfl ?_
      | refine jar rfl rfl rfl rfl rfl rfl rfl (by omega) ?_
      | refine jextract rfl rfl rfl rfl rfl rfl ?_
      | (refine gF ?_
         first
         | refine j_store rfl rfl rfl rfl rfl rfl rfl rfl (by (repeat (first | exact Upd.here | apply Upd.there))) (by rfl) ?_
         | (refine j_alloc rfl rfl rfl rfl rfl ?_; intro b)
         | (refine j_box rfl rfl rfl rfl rfl ?_; intro b)
         | (refine j_buildSlice rfl rfl rfl rfl rfl rfl rfl rfl rfl rfl rfl rfl ?_; intro b)
         | (refine j_append rfl rfl rfl rfl rfl rfl rfl rfl rfl rfl rfl (by (repeat (first | exact InL.here | apply InL.there))) (by (repeat (first | exact InL.here | apply InL.there))) (by rfl) (by rfl) (by omega) (fun _ => by (repeat (first | exact Upd.here | apply Upd.there))) ?_; intro v))
      | (refine j_qe rfl rfl rfl ?_
         first
         | refine ⟨_, q_pick_t rfl rfl rfl, ?_⟩
         | refine ⟨_, q_pick_f rfl rfl rfl, ?_⟩
         | refine ⟨_, q_not rfl rfl, ?_⟩
         | refine ⟨_, q_index_nat rfl rfl rfl rfl rfl (by omega), ?_⟩
         | refine ⟨_, q_index_slice rfl rfl rfl rfl rfl (by omega), ?_⟩
         | refine ⟨_, q_index_arr rfl rfl rfl rfl rfl (by omega), ?_⟩
         | refine ⟨_, q_index_arr_ext rfl rfl rfl rfl rfl (by omega), ?_⟩
         | refine ⟨_, q_len_slice rfl rfl rfl rfl, ?_⟩
         | refine ⟨_, q_makeFunc rfl rfl, ?_⟩
         | refine ⟨_, q_build_struct rfl rfl rfl rfl rfl, ?_⟩
         | refine ⟨_, q_build_arr rfl rfl rfl rfl rfl, ?_⟩
         | refine ⟨_, q_nilCheck rfl rfl, ?_⟩
         | refine ⟨_, q_field_ext rfl rfl rfl rfl rfl, ?_⟩
         | refine ⟨_, q_quo rfl rfl rfl (by omega), ?_⟩
         | refine ⟨_, q_rem rfl rfl rfl (by omega), ?_⟩
         | refine ⟨_, q_quot rfl rfl rfl (by omega), ?_⟩
         | refine ⟨_, q_remt rfl rfl rfl (by omega), ?_⟩
         | refine ⟨_, q_addu8 rfl rfl rfl (by omega), ?_⟩
         | refine ⟨_, q_quou8 rfl rfl rfl (by omega), ?_⟩
         | refine ⟨_, q_shr1 rfl rfl rfl, ?_⟩
         | refine ⟨_, q_shr rfl rfl rfl ⟨by omega, by decide⟩, ?_⟩
         | refine ⟨_, q_shr rfl rfl rfl ⟨by omega, by show Int.toNat _ ≤ (8:Nat); omega⟩, ?_⟩
         | refine ⟨_, q_and1 rfl rfl rfl (by first | assumption | omega), ?_⟩
         | refine ⟨_, q_conv rfl rfl rfl rfl rfl rfl (by first | rfl | (exact i64_wrap (by omega) (by omega)) | (exact u8_wrap (by omega) (by omega)) | (exact u64_wrap (by omega) (by omega)) | (exact u16_wrap (by omega) (by omega))), ?_⟩)
      | refine j_guard_undef rfl rfl rfl rfl rfl ?_
      | (refine j_guard rfl rfl rfl rfl rfl ?_ ?_ <;> intro hc <;> (first | (exact absurd hc (by decide)) | ((try simp only [decide_eq_true_eq, decide_eq_false_iff_not, Bool.not_eq_true', Bool.not_eq_false', Bool.not_true, Bool.not_false, ne_eq, Decidable.not_not] at hc) <;> first | (exfalso; omega) | (exact absurd trivial hc) | skip))))
   | (refine gSC ?_
      first
      | refine sc_seq ?_
      | refine sc_region ?_
      | (refine sc_cond rfl ?_ ?_ <;> intro hc <;> (first | (exact absurd hc (by decide)) | ((try simp only [decide_eq_true_eq, decide_eq_false_iff_not, Bool.not_eq_true', Bool.not_eq_false', Bool.not_true, Bool.not_false, ne_eq, Decidable.not_not] at hc) <;> first | (exfalso; omega) | (exact absurd trivial hc) | skip)))
      | refine sc_block ?_
      | refine sc_ret ?_
      | refine sc_exit ?_
      | refine sc_skip ?_
      | refine sc_draw rfl mixed (by kernel_rfl) ?_)
   | (refine gSQ ?_
      first
      | refine sq_seq ?_
      | refine sq_blk ?_
      | refine sq_seq_ret ?_
      | refine sq_blk_ret ?_
      | refine sq_loop_ret ?_
      | refine sq_seq_exit ?_
      | refine sq_blk_hit ?_
      | refine sq_blk_miss rfl ?_
      | refine sq_loop_exit ?_
      | refine sq_ende (.inl rfl) rfl rfl ⟨_, (RVs.cons (RV.tmp rfl) (RVs.nil)), ?_⟩
      | refine sq_ende (.inr rfl) rfl rfl ⟨_, (RVs.cons (RV.tmp rfl) (RVs.nil)), ?_⟩)
   | refine j_nil ?_
   )
  all_goals ((intro w' hS; refine ⟨?_, hS.below⟩; simp only [pack]); rfl)
theorem leap_c (y : Int) (w : World) (h : 2001 ≤ y) (h2 : y ≤ 4001) :
    Calls Try.prog 41 #[.int .i64 y] w fun e w' => e = .returned (.bool (leapB y)) ∧ Below w.heap.size w w' := by
  refine eng_start (n := 16) (args := [.int .i64 y]) tab tab_ok fns fns_ok [.tmp 2] Try.func41 rfl rfl rfl rfl ?_
  repeat' (first
   | (refine gJ ?_
      first
      | refine jmv rfl rfl rfl rfl rfl ?_
      | (refine gload rfl rfl ?_
         refine j_qe rfl rfl rfl ?_
         first
         | refine ⟨_, q_load_own rfl rfl rfl rfl (by (repeat (first | exact InL.here | apply InL.there))) (by first | rfl | assumption), ?_⟩
         | refine ⟨_, q_loadA_own rfl rfl rfl rfl (by (repeat (first | exact InL.here | apply InL.there))) (by rfl), ?_⟩
         | refine ⟨_, q_loadA_ext rfl rfl rfl rfl ⟨by assumption, (by first | exact id | assumption)⟩ (by rfl), ?_⟩
         | refine ⟨_, q_load_ext rfl rfl rfl rfl ⟨by assumption, (by first | exact id | assumption)⟩ (by first | rfl | assumption), ?_⟩
         | refine ⟨_, q_load_extb rfl rfl rfl rfl ⟨by assumption, (by first | exact id | assumption)⟩ (by rfl), ?_⟩
         | refine ⟨_, q_loadA_extb rfl rfl rfl rfl ⟨by assumption, (by first | exact id | assumption)⟩ (by rfl), ?_⟩
         | refine ⟨_, q_load_ext0 rfl rfl rfl rfl ⟨by assumption, (by first | exact id | assumption)⟩ (by rfl), ?_⟩)
      | refine jfield rfl rfl rfl rfl rfl rfl rfl rfl ?_
      | refine jcmp rfl rfl rfl rfl rfl rfl rfl ?_
      | refine jar rfl rfl rfl rfl rfl rfl rfl (by omega) ?_
      | refine jextract rfl rfl rfl rfl rfl rfl ?_
      | (refine gF ?_
         first
         | refine j_store rfl rfl rfl rfl rfl rfl rfl rfl (by (repeat (first | exact Upd.here | apply Upd.there))) (by rfl) ?_
         | (refine j_alloc rfl rfl rfl rfl rfl ?_; intro b)
         | (refine j_box rfl rfl rfl rfl rfl ?_; intro b)
         | (refine j_buildSlice rfl rfl rfl rfl rfl rfl rfl rfl rfl rfl rfl rfl ?_; intro b)
         | (refine j_append rfl rfl rfl rfl rfl rfl rfl rfl rfl rfl rfl (by (repeat (first | exact InL.here | apply InL.there))) (by (repeat (first | exact InL.here | apply InL.there))) (by rfl) (by rfl) (by omega) (fun _ => by (repeat (first | exact Upd.here | apply Upd.there))) ?_; intro v))
      | (refine j_qe rfl rfl rfl ?_
         first
         | refine ⟨_, q_pick_t rfl rfl rfl, ?_⟩
         | refine ⟨_, q_pick_f rfl rfl rfl, ?_⟩
         | refine ⟨_, q_not rfl rfl, ?_⟩
         | refine ⟨_, q_index_nat rfl rfl rfl rfl rfl (by omega), ?_⟩
         | refine ⟨_, q_index_slice rfl rfl rfl rfl rfl (by omega), ?_⟩
         | refine ⟨_, q_index_arr rfl rfl rfl rfl rfl (by omega), ?_⟩
         | refine ⟨_, q_index_arr_ext rfl rfl rfl rfl rfl (by omega), ?_⟩
         | refine ⟨_, q_len_slice rfl rfl rfl rfl, ?_⟩
         | refine ⟨_, q_makeFunc rfl rfl, ?_⟩
         | refine ⟨_, q_build_struct rfl rfl rfl rfl rfl, ?_⟩
         | refine ⟨_, q_build_arr rfl rfl rfl rfl rfl, ?_⟩
         | refine ⟨_, q_nilCheck rfl rfl, ?_⟩
         | refine ⟨_, q_field_ext rfl rfl rfl rfl rfl, ?_⟩
         | refine ⟨_, q_quo rfl rfl rfl (by omega), ?_⟩
         | refine ⟨_, q_rem rfl rfl rfl (by omega), ?_⟩
         | refine ⟨_, q_quot rfl rfl rfl (by omega), ?_⟩
         | refine ⟨_, q_remt rfl rfl rfl (by omega), ?_⟩
         | refine ⟨_, q_addu8 rfl rfl rfl (by omega), ?_⟩
         | refine ⟨_, q_quou8 rfl rfl rfl (by omega), ?_⟩
         | refine ⟨_, q_shr1 rfl rfl rfl, ?_⟩
         | refine ⟨_, q_shr rfl rfl rfl ⟨by omega, by decide⟩, ?_⟩
         | refine ⟨_, q_shr rfl rfl rfl ⟨by omega, by show Int.toNat _ ≤ (8:Nat); omega⟩, ?_⟩
         | refine ⟨_, q_and1 rfl rfl rfl (by first | assumption | omega), ?_⟩
         | refine ⟨_, q_conv rfl rfl rfl rfl rfl rfl (by first | rfl | (exact i64_wrap (by omega) (by omega)) | (exact u8_wrap (by omega) (by omega)) | (exact u64_wrap (by omega) (by omega)) | (exact u16_wrap (by omega) (by omega))), ?_⟩)
      | refine j_guard_undef rfl rfl rfl rfl rfl ?_
      | (refine j_guard rfl rfl rfl rfl rfl ?_ ?_ <;> intro hc <;> (first | (exact absurd hc (by decide)) | ((try simp only [decide_eq_true_eq, decide_eq_false_iff_not, Bool.not_eq_true', Bool.not_eq_false', Bool.not_true, Bool.not_false, ne_eq, Decidable.not_not] at hc) <;> first | (exfalso; omega) | (exact absurd trivial hc) | skip))))
   | (refine gSC ?_
      first
      | refine sc_seq ?_
      | refine sc_region ?_
      | (refine sc_cond rfl ?_ ?_ <;> intro hc <;> (first | (exact absurd hc (by decide)) | ((try simp only [decide_eq_true_eq, decide_eq_false_iff_not, Bool.not_eq_true', Bool.not_eq_false', Bool.not_true, Bool.not_false, ne_eq, Decidable.not_not] at hc) <;> first | (exfalso; omega) | (exact absurd trivial hc) | skip)))
      | refine sc_block ?_
      | refine sc_ret ?_
      | refine sc_exit ?_
      | refine sc_skip ?_
      | refine sc_draw rfl mixed (by kernel_rfl) ?_)
   | (refine gSQ ?_
      first
      | refine sq_seq ?_
      | refine sq_blk ?_
      | refine sq_seq_ret ?_
      | refine sq_blk_ret ?_
      | refine sq_loop_ret ?_
      | refine sq_seq_exit ?_
      | refine sq_blk_hit ?_
      | refine sq_blk_miss rfl ?_
      | refine sq_loop_exit ?_
      | refine sq_ende (.inl rfl) rfl rfl ⟨_, (RVs.cons (RV.tmp rfl) (RVs.nil)), ?_⟩
      | refine sq_ende (.inr rfl) rfl rfl ⟨_, (RVs.cons (RV.tmp rfl) (RVs.nil)), ?_⟩)
   | refine j_nil ?_
   )
  all_goals ((intro w' hS; refine ⟨?_, hS.below⟩; simp only [pack]); exact rb (by simp [leapB, *]))
def aheadL : List Value := [.int .i64 0, .int .i64 31, .int .i64 59, .int .i64 90, .int .i64 120, .int .i64 151, .int .i64 181, .int .i64 212, .int .i64 243, .int .i64 273, .int .i64 304, .int .i64 334, .int .i64 365]
theorem aheadOf_c (w : World) :
    Calls Try.prog 42 #[] w fun e w' => e = .returned (.agg aheadL.toArray) ∧ Below w.heap.size w w' := by
  refine eng_start (n := 2) (args := []) tab tab_ok fns fns_ok [.cell 0 85] Try.func42 rfl rfl rfl rfl ?_
  repeat' (first
   | (refine gJ ?_
      first
      | refine jmv rfl rfl rfl rfl rfl ?_
      | (refine gload rfl rfl ?_
         refine j_qe rfl rfl rfl ?_
         first
         | refine ⟨_, q_load_own rfl rfl rfl rfl (by (repeat (first | exact InL.here | apply InL.there))) (by first | rfl | assumption), ?_⟩
         | refine ⟨_, q_loadA_own rfl rfl rfl rfl (by (repeat (first | exact InL.here | apply InL.there))) (by rfl), ?_⟩
         | refine ⟨_, q_loadA_ext rfl rfl rfl rfl ⟨by assumption, (by first | exact id | assumption)⟩ (by rfl), ?_⟩
         | refine ⟨_, q_load_ext rfl rfl rfl rfl ⟨by assumption, (by first | exact id | assumption)⟩ (by first | rfl | assumption), ?_⟩
         | refine ⟨_, q_load_extb rfl rfl rfl rfl ⟨by assumption, (by first | exact id | assumption)⟩ (by rfl), ?_⟩
         | refine ⟨_, q_loadA_extb rfl rfl rfl rfl ⟨by assumption, (by first | exact id | assumption)⟩ (by rfl), ?_⟩
         | refine ⟨_, q_load_ext0 rfl rfl rfl rfl ⟨by assumption, (by first | exact id | assumption)⟩ (by rfl), ?_⟩)
      | refine jfield rfl rfl rfl rfl rfl rfl rfl rfl ?_
      | refine jcmp rfl rfl rfl rfl rfl rfl rfl ?_
      | refine jar rfl rfl rfl rfl rfl rfl rfl (by omega) ?_
      | refine jextract rfl rfl rfl rfl rfl rfl ?_
      | (refine gF ?_
         first
         | refine j_store rfl rfl rfl rfl rfl rfl rfl rfl (by (repeat (first | exact Upd.here | apply Upd.there))) (by rfl) ?_
         | (refine j_alloc rfl rfl rfl rfl rfl ?_; intro b)
         | (refine j_box rfl rfl rfl rfl rfl ?_; intro b)
         | (refine j_buildSlice rfl rfl rfl rfl rfl rfl rfl rfl rfl rfl rfl rfl ?_; intro b)
         | (refine j_append rfl rfl rfl rfl rfl rfl rfl rfl rfl rfl rfl (by (repeat (first | exact InL.here | apply InL.there))) (by (repeat (first | exact InL.here | apply InL.there))) (by rfl) (by rfl) (by omega) (fun _ => by (repeat (first | exact Upd.here | apply Upd.there))) ?_; intro v))
      | (refine j_qe rfl rfl rfl ?_
         first
         | refine ⟨_, q_pick_t rfl rfl rfl, ?_⟩
         | refine ⟨_, q_pick_f rfl rfl rfl, ?_⟩
         | refine ⟨_, q_not rfl rfl, ?_⟩
         | refine ⟨_, q_index_nat rfl rfl rfl rfl rfl (by omega), ?_⟩
         | refine ⟨_, q_index_slice rfl rfl rfl rfl rfl (by omega), ?_⟩
         | refine ⟨_, q_index_arr rfl rfl rfl rfl rfl (by omega), ?_⟩
         | refine ⟨_, q_index_arr_ext rfl rfl rfl rfl rfl (by omega), ?_⟩
         | refine ⟨_, q_len_slice rfl rfl rfl rfl, ?_⟩
         | refine ⟨_, q_makeFunc rfl rfl, ?_⟩
         | refine ⟨_, q_build_struct rfl rfl rfl rfl rfl, ?_⟩
         | refine ⟨_, q_build_arr rfl rfl rfl rfl rfl, ?_⟩
         | refine ⟨_, q_nilCheck rfl rfl, ?_⟩
         | refine ⟨_, q_field_ext rfl rfl rfl rfl rfl, ?_⟩
         | refine ⟨_, q_quo rfl rfl rfl (by omega), ?_⟩
         | refine ⟨_, q_rem rfl rfl rfl (by omega), ?_⟩
         | refine ⟨_, q_quot rfl rfl rfl (by omega), ?_⟩
         | refine ⟨_, q_remt rfl rfl rfl (by omega), ?_⟩
         | refine ⟨_, q_addu8 rfl rfl rfl (by omega), ?_⟩
         | refine ⟨_, q_quou8 rfl rfl rfl (by omega), ?_⟩
         | refine ⟨_, q_shr1 rfl rfl rfl, ?_⟩
         | refine ⟨_, q_shr rfl rfl rfl ⟨by omega, by decide⟩, ?_⟩
         | refine ⟨_, q_shr rfl rfl rfl ⟨by omega, by show Int.toNat _ ≤ (8:Nat); omega⟩, ?_⟩
         | refine ⟨_, q_and1 rfl rfl rfl (by first | assumption | omega), ?_⟩
         | refine ⟨_, q_conv rfl rfl rfl rfl rfl rfl (by first | rfl | (exact i64_wrap (by omega) (by omega)) | (exact u8_wrap (by omega) (by omega)) | (exact u64_wrap (by omega) (by omega)) | (exact u16_wrap (by omega) (by omega))), ?_⟩)
      | refine j_guard_undef rfl rfl rfl rfl rfl ?_
      | (refine j_guard rfl rfl rfl rfl rfl ?_ ?_ <;> intro hc <;> (first | (exact absurd hc (by decide)) | ((try simp only [decide_eq_true_eq, decide_eq_false_iff_not, Bool.not_eq_true', Bool.not_eq_false', Bool.not_true, Bool.not_false, ne_eq, Decidable.not_not] at hc) <;> first | (exfalso; omega) | (exact absurd trivial hc) | skip))))
   | (refine gSC ?_
      first
      | refine sc_seq ?_
      | refine sc_region ?_
      | (refine sc_cond rfl ?_ ?_ <;> intro hc <;> (first | (exact absurd hc (by decide)) | ((try simp only [decide_eq_true_eq, decide_eq_false_iff_not, Bool.not_eq_true', Bool.not_eq_false', Bool.not_true, Bool.not_false, ne_eq, Decidable.not_not] at hc) <;> first | (exfalso; omega) | (exact absurd trivial hc) | skip)))
      | refine sc_block ?_
      | refine sc_ret ?_
      | refine sc_exit ?_
      | refine sc_skip ?_
      | refine sc_draw rfl mixed (by kernel_rfl) ?_)
   | (refine gSQ ?_
      first
      | refine sq_seq ?_
      | refine sq_blk ?_
      | refine sq_seq_ret ?_
      | refine sq_blk_ret ?_
      | refine sq_loop_ret ?_
      | refine sq_seq_exit ?_
      | refine sq_blk_hit ?_
      | refine sq_blk_miss rfl ?_
      | refine sq_loop_exit ?_
      | refine sq_ende (.inl rfl) rfl rfl ⟨_, (RVs.cons (by first | exact RV.cell rfl rfl rfl (by (repeat (first | exact InL.here | apply InL.there))) (by rfl) | exact RV.cellA rfl rfl rfl (by (repeat (first | exact InL.here | apply InL.there))) (by rfl)) (RVs.nil)), ?_⟩
      | refine sq_ende (.inr rfl) rfl rfl ⟨_, (RVs.cons (by first | exact RV.cell rfl rfl rfl (by (repeat (first | exact InL.here | apply InL.there))) (by rfl) | exact RV.cellA rfl rfl rfl (by (repeat (first | exact InL.here | apply InL.there))) (by rfl)) (RVs.nil)), ?_⟩)
   | refine j_nil ?_
   )
  all_goals ((intro w' hS; refine ⟨?_, hS.below⟩; simp only [pack]); rfl)
theorem ahead_nth (m : Int) (h1 : 0 ≤ m) (h2 : m ≤ 12) : nth aheadL (m.toNat * 1) = some (.int .i64 (aheadF m)) := by
  have : m = 0 ∨ m = 1 ∨ m = 2 ∨ m = 3 ∨ m = 4 ∨ m = 5 ∨ m = 6 ∨ m = 7 ∨ m = 8 ∨ m = 9 ∨ m = 10 ∨ m = 11 ∨ m = 12 := by omega
  rcases this with rfl|rfl|rfl|rfl|rfl|rfl|rfl|rfl|rfl|rfl|rfl|rfl|rfl <;> rfl
theorem monthDays_c (ad : Addr) (m : Int) (leap : Bool) (w : World) (h1 : 1 ≤ m) (h2 : m ≤ 12) (hE : Ext w ad aheadL) :
    Calls Try.prog 43 #[.pointer (some ad), .int .i64 m, .bool leap] w fun e w' => e = .returned (.int .i64 (mdF m leap)) ∧ Below w.heap.size w w' := by
  have n1 := ahead_nth m (by omega) h2
  have n2 := ahead_nth (m - 1) (by omega) (by omega)
  have b1 := ahead_bd m
  have b2 := ahead_bd (m - 1)
  refine eng_start (n := 28) (args := [.pointer (some ad), .int .i64 m, .bool leap]) tab tab_ok fns fns_ok [.tmp 6] Try.func43 rfl rfl rfl rfl ?_
  repeat' (first
   | (refine gJ ?_
      first
      | refine jmv rfl rfl rfl rfl rfl ?_
      | (refine gload rfl rfl ?_
         refine j_qe rfl rfl rfl ?_
         first
         | refine ⟨_, q_load_own rfl rfl rfl rfl (by (repeat (first | exact InL.here | apply InL.there))) (by first | rfl | assumption), ?_⟩
         | refine ⟨_, q_loadA_own rfl rfl rfl rfl (by (repeat (first | exact InL.here | apply InL.there))) (by rfl), ?_⟩
         | refine ⟨_, q_loadA_ext rfl rfl rfl rfl ⟨by assumption, (by first | exact id | assumption)⟩ (by rfl), ?_⟩
         | refine ⟨_, q_load_ext rfl rfl rfl rfl ⟨by assumption, (by first | exact id | assumption)⟩ (by first | rfl | assumption), ?_⟩
         | refine ⟨_, q_load_extb rfl rfl rfl rfl ⟨by assumption, (by first | exact id | assumption)⟩ (by rfl), ?_⟩
         | refine ⟨_, q_loadA_extb rfl rfl rfl rfl ⟨by assumption, (by first | exact id | assumption)⟩ (by rfl), ?_⟩
         | refine ⟨_, q_load_ext0 rfl rfl rfl rfl ⟨by assumption, (by first | exact id | assumption)⟩ (by rfl), ?_⟩)
      | refine jfield rfl rfl rfl rfl rfl rfl rfl rfl ?_
      | refine jcmp rfl rfl rfl rfl rfl rfl rfl ?_
      | refine jar rfl rfl rfl rfl rfl rfl rfl (by omega) ?_
      | refine jextract rfl rfl rfl rfl rfl rfl ?_
      | (refine gF ?_
         first
         | refine j_store rfl rfl rfl rfl rfl rfl rfl rfl (by (repeat (first | exact Upd.here | apply Upd.there))) (by rfl) ?_
         | (refine j_alloc rfl rfl rfl rfl rfl ?_; intro b)
         | (refine j_box rfl rfl rfl rfl rfl ?_; intro b)
         | (refine j_buildSlice rfl rfl rfl rfl rfl rfl rfl rfl rfl rfl rfl rfl ?_; intro b)
         | (refine j_append rfl rfl rfl rfl rfl rfl rfl rfl rfl rfl rfl (by (repeat (first | exact InL.here | apply InL.there))) (by (repeat (first | exact InL.here | apply InL.there))) (by rfl) (by rfl) (by omega) (fun _ => by (repeat (first | exact Upd.here | apply Upd.there))) ?_; intro v))
      | (refine j_qe rfl rfl rfl ?_
         first
         | refine ⟨_, q_pick_t rfl rfl rfl, ?_⟩
         | refine ⟨_, q_pick_f rfl rfl rfl, ?_⟩
         | refine ⟨_, q_not rfl rfl, ?_⟩
         | refine ⟨_, q_index_nat rfl rfl rfl rfl rfl (by omega), ?_⟩
         | refine ⟨_, q_index_slice rfl rfl rfl rfl rfl (by omega), ?_⟩
         | refine ⟨_, q_index_arr rfl rfl rfl rfl rfl (by omega), ?_⟩
         | refine ⟨_, q_index_arr_ext rfl rfl rfl rfl rfl (by omega), ?_⟩
         | refine ⟨_, q_len_slice rfl rfl rfl rfl, ?_⟩
         | refine ⟨_, q_makeFunc rfl rfl, ?_⟩
         | refine ⟨_, q_build_struct rfl rfl rfl rfl rfl, ?_⟩
         | refine ⟨_, q_build_arr rfl rfl rfl rfl rfl, ?_⟩
         | refine ⟨_, q_nilCheck rfl rfl, ?_⟩
         | refine ⟨_, q_field_ext rfl rfl rfl rfl rfl, ?_⟩
         | refine ⟨_, q_quo rfl rfl rfl (by omega), ?_⟩
         | refine ⟨_, q_rem rfl rfl rfl (by omega), ?_⟩
         | refine ⟨_, q_quot rfl rfl rfl (by omega), ?_⟩
         | refine ⟨_, q_remt rfl rfl rfl (by omega), ?_⟩
         | refine ⟨_, q_addu8 rfl rfl rfl (by omega), ?_⟩
         | refine ⟨_, q_quou8 rfl rfl rfl (by omega), ?_⟩
         | refine ⟨_, q_shr1 rfl rfl rfl, ?_⟩
         | refine ⟨_, q_shr rfl rfl rfl ⟨by omega, by decide⟩, ?_⟩
         | refine ⟨_, q_shr rfl rfl rfl ⟨by omega, by show Int.toNat _ ≤ (8:Nat); omega⟩, ?_⟩
         | refine ⟨_, q_and1 rfl rfl rfl (by first | assumption | omega), ?_⟩
         | refine ⟨_, q_conv rfl rfl rfl rfl rfl rfl (by first | rfl | (exact i64_wrap (by omega) (by omega)) | (exact u8_wrap (by omega) (by omega)) | (exact u64_wrap (by omega) (by omega)) | (exact u16_wrap (by omega) (by omega))), ?_⟩)
      | refine j_guard_undef rfl rfl rfl rfl rfl ?_
      | (refine j_guard rfl rfl rfl rfl rfl ?_ ?_ <;> intro hc <;> (first | (exact absurd hc (by decide)) | ((try simp only [decide_eq_true_eq, decide_eq_false_iff_not, Bool.not_eq_true', Bool.not_eq_false', Bool.not_true, Bool.not_false, ne_eq, Decidable.not_not] at hc) <;> first | (exfalso; omega) | (exact absurd trivial hc) | skip))))
   | (refine gSC ?_
      first
      | refine sc_seq ?_
      | refine sc_region ?_
      | (refine sc_cond rfl ?_ ?_ <;> intro hc <;> (first | (exact absurd hc (by decide)) | ((try simp only [decide_eq_true_eq, decide_eq_false_iff_not, Bool.not_eq_true', Bool.not_eq_false', Bool.not_true, Bool.not_false, ne_eq, Decidable.not_not] at hc) <;> first | (exfalso; omega) | (exact absurd trivial hc) | skip)))
      | refine sc_block ?_
      | refine sc_ret ?_
      | refine sc_exit ?_
      | refine sc_skip ?_
      | refine sc_draw rfl mixed (by kernel_rfl) ?_)
   | (refine gSQ ?_
      first
      | refine sq_seq ?_
      | refine sq_blk ?_
      | refine sq_seq_ret ?_
      | refine sq_blk_ret ?_
      | refine sq_loop_ret ?_
      | refine sq_seq_exit ?_
      | refine sq_blk_hit ?_
      | refine sq_blk_miss rfl ?_
      | refine sq_loop_exit ?_
      | refine sq_ende (.inl rfl) rfl rfl ⟨_, (RVs.cons (RV.tmp rfl) (RVs.nil)), ?_⟩
      | refine sq_ende (.inr rfl) rfl rfl ⟨_, (RVs.cons (RV.tmp rfl) (RVs.nil)), ?_⟩)
   | refine j_nil ?_
   )
  all_goals ((intro w' hS; refine ⟨?_, hS.below⟩; simp only [pack]); exact ri (by simp [mdF, *]))
theorem dateNo_c (d : Int) (w : World) (h : checkDayF d ≠ 0) :
    Calls Try.prog 20 #[.int .i64 d] w fun e w' => e = .returned (.tuple #[.int .i64 0, .int .i64 0, .int .i64 0, .int .i64 (checkDayF d)]) ∧ Below w.heap.size w w' := by
  refine eng_start (n := 57) (args := [.int .i64 d]) tab tab_ok fns fns_ok [.tmp 2, .tmp 3, .tmp 4, .tmp 5] Try.func20 rfl rfl rfl rfl ?_
  repeat' (first
   | (refine gJ ?_
      first
      | refine jmv rfl rfl rfl rfl rfl ?_
      | (refine gload rfl rfl ?_
         refine j_qe rfl rfl rfl ?_
         first
         | refine ⟨_, q_load_own rfl rfl rfl rfl (by (repeat (first | exact InL.here | apply InL.there))) (by first | rfl | assumption), ?_⟩
         | refine ⟨_, q_loadA_own rfl rfl rfl rfl (by (repeat (first | exact InL.here | apply InL.there))) (by rfl), ?_⟩
         | refine ⟨_, q_loadA_ext rfl rfl rfl rfl ⟨by assumption, (by first | exact id | assumption)⟩ (by rfl), ?_⟩
         | refine ⟨_, q_load_ext rfl rfl rfl rfl ⟨by assumption, (by first | exact id | assumption)⟩ (by first | rfl | assumption), ?_⟩
         | refine ⟨_, q_load_extb rfl rfl rfl rfl ⟨by assumption, (by first | exact id | assumption)⟩ (by rfl), ?_⟩
         | refine ⟨_, q_loadA_extb rfl rfl rfl rfl ⟨by assumption, (by first | exact id | assumption)⟩ (by rfl), ?_⟩
         | refine ⟨_, q_load_ext0 rfl rfl rfl rfl ⟨by assumption, (by first | exact id | assumption)⟩ (by rfl), ?_⟩)
      | refine jfield rfl rfl rfl rfl rfl rfl rfl rfl ?_
      | refine jcmp rfl rfl rfl rfl rfl rfl rfl ?_
      | refine jar rfl rfl rfl rfl rfl rfl rfl (by omega) ?_
      | refine jextract rfl rfl rfl rfl rfl rfl ?_
      | (refine gcall rfl rfl ?_
         first
         | (refine j_qc (f := 39) rfl rfl rfl rfl rfl rfl rfl ?_; refine ⟨_, (fun w _ => checkDay_c d w), ?_⟩))
      | (refine gF ?_
         first
         | refine j_store rfl rfl rfl rfl rfl rfl rfl rfl (by (repeat (first | exact Upd.here | apply Upd.there))) (by rfl) ?_
         | (refine j_alloc rfl rfl rfl rfl rfl ?_; intro b)
         | (refine j_box rfl rfl rfl rfl rfl ?_; intro b)
         | (refine j_buildSlice rfl rfl rfl rfl rfl rfl rfl rfl rfl rfl rfl rfl ?_; intro b)
         | (refine j_append rfl rfl rfl rfl rfl rfl rfl rfl rfl rfl rfl (by (repeat (first | exact InL.here | apply InL.there))) (by (repeat (first | exact InL.here | apply InL.there))) (by rfl) (by rfl) (by omega) (fun _ => by (repeat (first | exact Upd.here | apply Upd.there))) ?_; intro v))
      | (refine j_qe rfl rfl rfl ?_
         first
         | refine ⟨_, q_pick_t rfl rfl rfl, ?_⟩
         | refine ⟨_, q_pick_f rfl rfl rfl, ?_⟩
         | refine ⟨_, q_not rfl rfl, ?_⟩
         | refine ⟨_, q_index_nat rfl rfl rfl rfl rfl (by omega), ?_⟩
         | refine ⟨_, q_index_slice rfl rfl rfl rfl rfl (by omega), ?_⟩
         | refine ⟨_, q_index_arr rfl rfl rfl rfl rfl (by omega), ?_⟩
         | refine ⟨_, q_index_arr_ext rfl rfl rfl rfl rfl (by omega), ?_⟩
         | refine ⟨_, q_len_slice rfl rfl rfl rfl, ?_⟩
         | refine ⟨_, q_makeFunc rfl rfl, ?_⟩
         | refine ⟨_, q_build_struct rfl rfl rfl rfl rfl, ?_⟩
         | refine ⟨_, q_build_arr rfl rfl rfl rfl rfl, ?_⟩
         | refine ⟨_, q_nilCheck rfl rfl, ?_⟩
         | refine ⟨_, q_field_ext rfl rfl rfl rfl rfl, ?_⟩
         | refine ⟨_, q_quo rfl rfl rfl (by omega), ?_⟩
         | refine ⟨_, q_rem rfl rfl rfl (by omega), ?_⟩
         | refine ⟨_, q_quot rfl rfl rfl (by omega), ?_⟩
         | refine ⟨_, q_remt rfl rfl rfl (by omega), ?_⟩
         | refine ⟨_, q_addu8 rfl rfl rfl (by omega), ?_⟩
         | refine ⟨_, q_quou8 rfl rfl rfl (by omega), ?_⟩
         | refine ⟨_, q_shr1 rfl rfl rfl, ?_⟩
         | refine ⟨_, q_shr rfl rfl rfl ⟨by omega, by decide⟩, ?_⟩
         | refine ⟨_, q_shr rfl rfl rfl ⟨by omega, by show Int.toNat _ ≤ (8:Nat); omega⟩, ?_⟩
         | refine ⟨_, q_and1 rfl rfl rfl (by first | assumption | omega), ?_⟩
         | refine ⟨_, q_conv rfl rfl rfl rfl rfl rfl (by first | rfl | (exact i64_wrap (by omega) (by omega)) | (exact u8_wrap (by omega) (by omega)) | (exact u64_wrap (by omega) (by omega)) | (exact u16_wrap (by omega) (by omega))), ?_⟩)
      | refine j_guard_undef rfl rfl rfl rfl rfl ?_
      | (refine j_guard rfl rfl rfl rfl rfl ?_ ?_ <;> intro hc <;> (first | (exact absurd hc (by decide)) | ((try simp only [decide_eq_true_eq, decide_eq_false_iff_not, Bool.not_eq_true', Bool.not_eq_false', Bool.not_true, Bool.not_false, ne_eq, Decidable.not_not] at hc) <;> first | (exfalso; omega) | (exact absurd trivial hc) | skip))))
   | (refine gSC ?_
      first
      | refine sc_seq ?_
      | refine sc_region ?_
      | (refine sc_cond rfl ?_ ?_ <;> intro hc <;> (first | (exact absurd hc (by decide)) | ((try simp only [decide_eq_true_eq, decide_eq_false_iff_not, Bool.not_eq_true', Bool.not_eq_false', Bool.not_true, Bool.not_false, ne_eq, Decidable.not_not] at hc) <;> first | (exfalso; omega) | (exact absurd trivial hc) | skip)))
      | refine sc_block ?_
      | refine sc_ret ?_
      | refine sc_exit ?_
      | refine sc_skip ?_
      | refine sc_draw rfl mixed (by kernel_rfl) ?_)
   | (refine gSQ ?_
      first
      | refine sq_seq ?_
      | refine sq_blk ?_
      | refine sq_seq_ret ?_
      | refine sq_blk_ret ?_
      | refine sq_loop_ret ?_
      | refine sq_seq_exit ?_
      | refine sq_blk_hit ?_
      | refine sq_blk_miss rfl ?_
      | refine sq_loop_exit ?_
      | refine sq_ende (.inl rfl) rfl rfl ⟨_, (RVs.cons (RV.tmp rfl) (RVs.cons (RV.tmp rfl) (RVs.cons (RV.tmp rfl) (RVs.cons (RV.tmp rfl) (RVs.nil))))), ?_⟩
      | refine sq_ende (.inr rfl) rfl rfl ⟨_, (RVs.cons (RV.tmp rfl) (RVs.cons (RV.tmp rfl) (RVs.cons (RV.tmp rfl) (RVs.cons (RV.tmp rfl) (RVs.nil))))), ?_⟩)
   | refine j_nil ?_
   )
  (intro w' hS; refine ⟨?_, hS.below⟩; simp only [pack])
theorem date_c (d : Int) (w : World) (h0 : 0 ≤ d) (h1 : d ≤ 730484) :
    Calls Try.prog 20 #[.int .i64 d] w fun e w' => e = .returned (.tuple #[.int .i64 (yrF d), .int .i64 (mthF d), .int .i64 (dayF d), .int .i64 0]) ∧ Below w.heap.size w w' := by
  have hck : checkDayF d = 0 := by unfold checkDayF; (repeat' split) <;> omega
  obtain ⟨y1, y2, y3, y4, y5, y6⟩ := yr_spec d h0 h1
  refine eng_start (n := 57) (args := [.int .i64 d]) tab tab_ok fns fns_ok [.tmp 2, .tmp 3, .tmp 4, .tmp 5] Try.func20 rfl rfl rfl rfl ?_
  repeat' (first
   | (refine gJ ?_
      first
      | refine jmv rfl rfl rfl rfl rfl ?_
      | (refine gload rfl rfl ?_
         refine j_qe rfl rfl rfl ?_
         first
         | refine ⟨_, q_load_own rfl rfl rfl rfl (by (repeat (first | exact InL.here | apply InL.there))) (by first | rfl | assumption), ?_⟩
         | refine ⟨_, q_loadA_own rfl rfl rfl rfl (by (repeat (first | exact InL.here | apply InL.there))) (by rfl), ?_⟩
         | refine ⟨_, q_loadA_ext rfl rfl rfl rfl ⟨by assumption, (by first | exact id | assumption)⟩ (by rfl), ?_⟩
         | refine ⟨_, q_load_ext rfl rfl rfl rfl ⟨by assumption, (by first | exact id | assumption)⟩ (by first | rfl | assumption), ?_⟩
         | refine ⟨_, q_load_extb rfl rfl rfl rfl ⟨by assumption, (by first | exact id | assumption)⟩ (by rfl), ?_⟩
         | refine ⟨_, q_loadA_extb rfl rfl rfl rfl ⟨by assumption, (by first | exact id | assumption)⟩ (by rfl), ?_⟩
         | refine ⟨_, q_load_ext0 rfl rfl rfl rfl ⟨by assumption, (by first | exact id | assumption)⟩ (by rfl), ?_⟩)
      | refine jfield rfl rfl rfl rfl rfl rfl rfl rfl ?_
      | refine jcmp rfl rfl rfl rfl rfl rfl rfl ?_
      | refine jar rfl rfl rfl rfl rfl rfl rfl (by omega) ?_
      | refine jextract rfl rfl rfl rfl rfl rfl ?_
      | (refine gcall rfl rfl ?_
         first
         | (refine j_qc (f := 39) rfl rfl rfl rfl rfl rfl rfl ?_; refine ⟨_, (fun w _ => hck ▸ checkDay_c d w), ?_⟩))
      | (refine gF ?_
         first
         | refine j_store rfl rfl rfl rfl rfl rfl rfl rfl (by (repeat (first | exact Upd.here | apply Upd.there))) (by rfl) ?_
         | (refine j_alloc rfl rfl rfl rfl rfl ?_; intro b)
         | (refine j_box rfl rfl rfl rfl rfl ?_; intro b)
         | (refine j_buildSlice rfl rfl rfl rfl rfl rfl rfl rfl rfl rfl rfl rfl ?_; intro b)
         | (refine j_append rfl rfl rfl rfl rfl rfl rfl rfl rfl rfl rfl (by (repeat (first | exact InL.here | apply InL.there))) (by (repeat (first | exact InL.here | apply InL.there))) (by rfl) (by rfl) (by omega) (fun _ => by (repeat (first | exact Upd.here | apply Upd.there))) ?_; intro v))
      | (refine j_qe rfl rfl rfl ?_
         first
         | refine ⟨_, q_pick_t rfl rfl rfl, ?_⟩
         | refine ⟨_, q_pick_f rfl rfl rfl, ?_⟩
         | refine ⟨_, q_not rfl rfl, ?_⟩
         | refine ⟨_, q_index_nat rfl rfl rfl rfl rfl (by omega), ?_⟩
         | refine ⟨_, q_index_slice rfl rfl rfl rfl rfl (by omega), ?_⟩
         | refine ⟨_, q_index_arr rfl rfl rfl rfl rfl (by omega), ?_⟩
         | refine ⟨_, q_index_arr_ext rfl rfl rfl rfl rfl (by omega), ?_⟩
         | refine ⟨_, q_len_slice rfl rfl rfl rfl, ?_⟩
         | refine ⟨_, q_makeFunc rfl rfl, ?_⟩
         | refine ⟨_, q_build_struct rfl rfl rfl rfl rfl, ?_⟩
         | refine ⟨_, q_build_arr rfl rfl rfl rfl rfl, ?_⟩
         | refine ⟨_, q_nilCheck rfl rfl, ?_⟩
         | refine ⟨_, q_field_ext rfl rfl rfl rfl rfl, ?_⟩
         | refine ⟨_, q_quo rfl rfl rfl (by omega), ?_⟩
         | refine ⟨_, q_rem rfl rfl rfl (by omega), ?_⟩
         | refine ⟨_, q_quot rfl rfl rfl (by omega), ?_⟩
         | refine ⟨_, q_remt rfl rfl rfl (by omega), ?_⟩
         | refine ⟨_, q_addu8 rfl rfl rfl (by omega), ?_⟩
         | refine ⟨_, q_quou8 rfl rfl rfl (by omega), ?_⟩
         | refine ⟨_, q_shr1 rfl rfl rfl, ?_⟩
         | refine ⟨_, q_shr rfl rfl rfl ⟨by omega, by decide⟩, ?_⟩
         | refine ⟨_, q_shr rfl rfl rfl ⟨by omega, by show Int.toNat _ ≤ (8:Nat); omega⟩, ?_⟩
         | refine ⟨_, q_and1 rfl rfl rfl (by first | assumption | omega), ?_⟩
         | refine ⟨_, q_conv rfl rfl rfl rfl rfl rfl (by first | rfl | (exact i64_wrap (by omega) (by omega)) | (exact u8_wrap (by omega) (by omega)) | (exact u64_wrap (by omega) (by omega)) | (exact u16_wrap (by omega) (by omega))), ?_⟩)
      | refine j_guard_undef rfl rfl rfl rfl rfl ?_
      | (refine j_guard rfl rfl rfl rfl rfl ?_ ?_ <;> intro hc <;> (first | (exact absurd hc (by decide)) | ((try simp only [decide_eq_true_eq, decide_eq_false_iff_not, Bool.not_eq_true', Bool.not_eq_false', Bool.not_true, Bool.not_false, ne_eq, Decidable.not_not] at hc) <;> first | (exfalso; omega) | (exact absurd trivial hc) | skip))))
   | (refine gSC ?_
      first
      | refine sc_seq ?_
      | refine sc_region ?_
      | (refine sc_cond rfl ?_ ?_ <;> intro hc <;> (first | (exact absurd hc (by decide)) | ((try simp only [decide_eq_true_eq, decide_eq_false_iff_not, Bool.not_eq_true', Bool.not_eq_false', Bool.not_true, Bool.not_false, ne_eq, Decidable.not_not] at hc) <;> first | (exfalso; omega) | (exact absurd trivial hc) | skip)))
      | refine sc_block ?_
      | refine sc_ret ?_
      | refine sc_exit ?_
      | refine sc_skip ?_
      | refine sc_draw rfl mixed (by kernel_rfl) ?_)
   | (refine gSQ ?_
      first
      | refine sq_seq ?_
      | refine sq_blk ?_
      | refine sq_seq_ret ?_
      | refine sq_blk_ret ?_
      | refine sq_loop_ret ?_
      | refine sq_seq_exit ?_
      | refine sq_blk_hit ?_
      | refine sq_blk_miss rfl ?_
      | refine sq_loop_exit ?_
      | refine sq_ende (.inl rfl) rfl rfl ⟨_, (RVs.cons (RV.tmp rfl) (RVs.cons (RV.tmp rfl) (RVs.cons (RV.tmp rfl) (RVs.cons (RV.tmp rfl) (RVs.nil))))), ?_⟩
      | refine sq_ende (.inr rfl) rfl rfl ⟨_, (RVs.cons (RV.tmp rfl) (RVs.cons (RV.tmp rfl) (RVs.cons (RV.tmp rfl) (RVs.cons (RV.tmp rfl) (RVs.nil))))), ?_⟩)
   | refine j_nil ?_
   )
  refine sc_loop (ι := Int) (fun y => yrF d - 1 ≤ y ∧ y ≤ yrF d + 1 ∧ 2001 ≤ y) (fun y => (y - 1990).toNat) (fun y => [(0, .int .i64 d), (7, .int .i64 y)]) (fun _ => []) (2001 + d * 400 / 146097) ⟨y5, y6, by omega⟩ (by repeat (first | exact FSub.nil | refine FSub.cons rfl ?_ | refine FSub.conse rfl (by congr 1; omega) ?_)) (by repeat (first | exact LSub.nil | refine LSub.cons (by repeat (first | exact Rem.here | apply Rem.there)) ?_)) ?_
  intro y ⟨a1, a2, a3⟩
  by_cases hy : yrF d < y
  · have hf : d < ysF y := by have := ys_mono (yrF d + 1) y (by omega); omega
    repeat' (first
     | (refine gJ ?_
        first
        | refine jmv rfl rfl rfl rfl rfl ?_
        | (refine gload rfl rfl ?_
           refine j_qe rfl rfl rfl ?_
           first
           | refine ⟨_, q_load_own rfl rfl rfl rfl (by (repeat (first | exact InL.here | apply InL.there))) (by first | rfl | assumption), ?_⟩
           | refine ⟨_, q_loadA_own rfl rfl rfl rfl (by (repeat (first | exact InL.here | apply InL.there))) (by rfl), ?_⟩
           | refine ⟨_, q_loadA_ext rfl rfl rfl rfl ⟨by assumption, (by first | exact id | assumption)⟩ (by rfl), ?_⟩
           | refine ⟨_, q_load_ext rfl rfl rfl rfl ⟨by assumption, (by first | exact id | assumption)⟩ (by first | rfl | assumption), ?_⟩
           | refine ⟨_, q_load_extb rfl rfl rfl rfl ⟨by assumption, (by first | exact id | assumption)⟩ (by rfl), ?_⟩
           | refine ⟨_, q_loadA_extb rfl rfl rfl rfl ⟨by assumption, (by first | exact id | assumption)⟩ (by rfl), ?_⟩
           | refine ⟨_, q_load_ext0 rfl rfl rfl rfl ⟨by assumption, (by first | exact id | assumption)⟩ (by rfl), ?_⟩)
        | refine jfield rfl rfl rfl rfl rfl rfl rfl rfl ?_
        | refine jcmp rfl rfl rfl rfl rfl rfl rfl ?_
        | refine jar rfl rfl rfl rfl rfl rfl rfl (by omega) ?_
        | refine jextract rfl rfl rfl rfl rfl rfl ?_
        | (refine gcall rfl rfl ?_
           first
           | (refine j_qc (f := 40) rfl rfl rfl rfl rfl rfl rfl ?_; refine ⟨_, (fun w _ => yearStart_c y w (by omega) (by omega)), ?_⟩))
        | (refine gF ?_
           first
           | refine j_store rfl rfl rfl rfl rfl rfl rfl rfl (by (repeat (first | exact Upd.here | apply Upd.there))) (by rfl) ?_
           | (refine j_alloc rfl rfl rfl rfl rfl ?_; intro b)
           | (refine j_box rfl rfl rfl rfl rfl ?_; intro b)
           | (refine j_buildSlice rfl rfl rfl rfl rfl rfl rfl rfl rfl rfl rfl rfl ?_; intro b)
           | (refine j_append rfl rfl rfl rfl rfl rfl rfl rfl rfl rfl rfl (by (repeat (first | exact InL.here | apply InL.there))) (by (repeat (first | exact InL.here | apply InL.there))) (by rfl) (by rfl) (by omega) (fun _ => by (repeat (first | exact Upd.here | apply Upd.there))) ?_; intro v))
        | (refine j_qe rfl rfl rfl ?_
           first
           | refine ⟨_, q_pick_t rfl rfl rfl, ?_⟩
           | refine ⟨_, q_pick_f rfl rfl rfl, ?_⟩
           | refine ⟨_, q_not rfl rfl, ?_⟩
           | refine ⟨_, q_index_nat rfl rfl rfl rfl rfl (by omega), ?_⟩
           | refine ⟨_, q_index_slice rfl rfl rfl rfl rfl (by omega), ?_⟩
           | refine ⟨_, q_index_arr rfl rfl rfl rfl rfl (by omega), ?_⟩
           | refine ⟨_, q_index_arr_ext rfl rfl rfl rfl rfl (by omega), ?_⟩
           | refine ⟨_, q_len_slice rfl rfl rfl rfl, ?_⟩
           | refine ⟨_, q_makeFunc rfl rfl, ?_⟩
           | refine ⟨_, q_build_struct rfl rfl rfl rfl rfl, ?_⟩
           | refine ⟨_, q_build_arr rfl rfl rfl rfl rfl, ?_⟩
           | refine ⟨_, q_nilCheck rfl rfl, ?_⟩
           | refine ⟨_, q_field_ext rfl rfl rfl rfl rfl, ?_⟩
           | refine ⟨_, q_quo rfl rfl rfl (by omega), ?_⟩
           | refine ⟨_, q_rem rfl rfl rfl (by omega), ?_⟩
           | refine ⟨_, q_quot rfl rfl rfl (by omega), ?_⟩
           | refine ⟨_, q_remt rfl rfl rfl (by omega), ?_⟩
           | refine ⟨_, q_addu8 rfl rfl rfl (by omega), ?_⟩
           | refine ⟨_, q_quou8 rfl rfl rfl (by omega), ?_⟩
           | refine ⟨_, q_shr1 rfl rfl rfl, ?_⟩
           | refine ⟨_, q_shr rfl rfl rfl ⟨by omega, by decide⟩, ?_⟩
           | refine ⟨_, q_shr rfl rfl rfl ⟨by omega, by show Int.toNat _ ≤ (8:Nat); omega⟩, ?_⟩
           | refine ⟨_, q_and1 rfl rfl rfl (by first | assumption | omega), ?_⟩
           | refine ⟨_, q_conv rfl rfl rfl rfl rfl rfl (by first | rfl | (exact i64_wrap (by omega) (by omega)) | (exact u8_wrap (by omega) (by omega)) | (exact u64_wrap (by omega) (by omega)) | (exact u16_wrap (by omega) (by omega))), ?_⟩)
        | refine j_guard_undef rfl rfl rfl rfl rfl ?_
        | (refine j_guard rfl rfl rfl rfl rfl ?_ ?_ <;> intro hc <;> (first | (exact absurd hc (by decide)) | ((try simp only [decide_eq_true_eq, decide_eq_false_iff_not, Bool.not_eq_true', Bool.not_eq_false', Bool.not_true, Bool.not_false, ne_eq, Decidable.not_not] at hc) <;> first | (exfalso; omega) | (exact absurd trivial hc) | skip))))
     | (refine gSC ?_
        first
        | refine sc_seq ?_
        | refine sc_region ?_
        | (refine sc_cond rfl ?_ ?_ <;> intro hc <;> (first | (exact absurd hc (by decide)) | ((try simp only [decide_eq_true_eq, decide_eq_false_iff_not, Bool.not_eq_true', Bool.not_eq_false', Bool.not_true, Bool.not_false, ne_eq, Decidable.not_not] at hc) <;> first | (exfalso; omega) | (exact absurd trivial hc) | skip)))
        | refine sc_block ?_
        | refine sc_ret ?_
        | refine sc_exit ?_
        | refine sc_skip ?_
        | refine sc_draw rfl mixed (by kernel_rfl) ?_)
     | (refine gSQ ?_
        first
        | refine sq_seq ?_
        | refine sq_blk ?_
        | refine sq_seq_ret ?_
        | refine sq_blk_ret ?_
        | refine sq_loop_ret ?_
        | refine sq_seq_exit ?_
        | refine sq_blk_hit ?_
        | refine sq_blk_miss rfl ?_
        | refine sq_loop_exit ?_
        | refine sq_ende (.inl rfl) rfl rfl ⟨_, (RVs.cons (RV.tmp rfl) (RVs.cons (RV.tmp rfl) (RVs.cons (RV.tmp rfl) (RVs.cons (RV.tmp rfl) (RVs.nil))))), ?_⟩
        | refine sq_ende (.inr rfl) rfl rfl ⟨_, (RVs.cons (RV.tmp rfl) (RVs.cons (RV.tmp rfl) (RVs.cons (RV.tmp rfl) (RVs.cons (RV.tmp rfl) (RVs.nil))))), ?_⟩)
     | refine j_nil ?_
     )
    exact sq_loop (y - 1) ⟨by omega, by omega, by omega⟩ (by omega) (by repeat (first | exact FSub.nil | refine FSub.cons rfl ?_ | refine FSub.conse rfl (by congr 1; omega) ?_)) (by repeat (first | exact LSub.nil | refine LSub.cons (by repeat (first | exact Rem.here | apply Rem.there)) ?_))
  · have hf : ysF y ≤ d := by have := ys_mono y (yrF d) (by omega); omega
    repeat' (first
     | (refine gJ ?_
        first
        | refine jmv rfl rfl rfl rfl rfl ?_
        | (refine gload rfl rfl ?_
           refine j_qe rfl rfl rfl ?_
           first
           | refine ⟨_, q_load_own rfl rfl rfl rfl (by (repeat (first | exact InL.here | apply InL.there))) (by first | rfl | assumption), ?_⟩
           | refine ⟨_, q_loadA_own rfl rfl rfl rfl (by (repeat (first | exact InL.here | apply InL.there))) (by rfl), ?_⟩
           | refine ⟨_, q_loadA_ext rfl rfl rfl rfl ⟨by assumption, (by first | exact id | assumption)⟩ (by rfl), ?_⟩
           | refine ⟨_, q_load_ext rfl rfl rfl rfl ⟨by assumption, (by first | exact id | assumption)⟩ (by first | rfl | assumption), ?_⟩
           | refine ⟨_, q_load_extb rfl rfl rfl rfl ⟨by assumption, (by first | exact id | assumption)⟩ (by rfl), ?_⟩
           | refine ⟨_, q_loadA_extb rfl rfl rfl rfl ⟨by assumption, (by first | exact id | assumption)⟩ (by rfl), ?_⟩
           | refine ⟨_, q_load_ext0 rfl rfl rfl rfl ⟨by assumption, (by first | exact id | assumption)⟩ (by rfl), ?_⟩)
        | refine jfield rfl rfl rfl rfl rfl rfl rfl rfl ?_
        | refine jcmp rfl rfl rfl rfl rfl rfl rfl ?_
        | refine jar rfl rfl rfl rfl rfl rfl rfl (by omega) ?_
        | refine jextract rfl rfl rfl rfl rfl rfl ?_
        | (refine gcall rfl rfl ?_
           first
           | (refine j_qc (f := 40) rfl rfl rfl rfl rfl rfl rfl ?_; refine ⟨_, (fun w _ => yearStart_c y w (by omega) (by omega)), ?_⟩))
        | (refine gF ?_
           first
           | refine j_store rfl rfl rfl rfl rfl rfl rfl rfl (by (repeat (first | exact Upd.here | apply Upd.there))) (by rfl) ?_
           | (refine j_alloc rfl rfl rfl rfl rfl ?_; intro b)
           | (refine j_box rfl rfl rfl rfl rfl ?_; intro b)
           | (refine j_buildSlice rfl rfl rfl rfl rfl rfl rfl rfl rfl rfl rfl rfl ?_; intro b)
           | (refine j_append rfl rfl rfl rfl rfl rfl rfl rfl rfl rfl rfl (by (repeat (first | exact InL.here | apply InL.there))) (by (repeat (first | exact InL.here | apply InL.there))) (by rfl) (by rfl) (by omega) (fun _ => by (repeat (first | exact Upd.here | apply Upd.there))) ?_; intro v))
        | (refine j_qe rfl rfl rfl ?_
           first
           | refine ⟨_, q_pick_t rfl rfl rfl, ?_⟩
           | refine ⟨_, q_pick_f rfl rfl rfl, ?_⟩
           | refine ⟨_, q_not rfl rfl, ?_⟩
           | refine ⟨_, q_index_nat rfl rfl rfl rfl rfl (by omega), ?_⟩
           | refine ⟨_, q_index_slice rfl rfl rfl rfl rfl (by omega), ?_⟩
           | refine ⟨_, q_index_arr rfl rfl rfl rfl rfl (by omega), ?_⟩
           | refine ⟨_, q_index_arr_ext rfl rfl rfl rfl rfl (by omega), ?_⟩
           | refine ⟨_, q_len_slice rfl rfl rfl rfl, ?_⟩
           | refine ⟨_, q_makeFunc rfl rfl, ?_⟩
           | refine ⟨_, q_build_struct rfl rfl rfl rfl rfl, ?_⟩
           | refine ⟨_, q_build_arr rfl rfl rfl rfl rfl, ?_⟩
           | refine ⟨_, q_nilCheck rfl rfl, ?_⟩
           | refine ⟨_, q_field_ext rfl rfl rfl rfl rfl, ?_⟩
           | refine ⟨_, q_quo rfl rfl rfl (by omega), ?_⟩
           | refine ⟨_, q_rem rfl rfl rfl (by omega), ?_⟩
           | refine ⟨_, q_quot rfl rfl rfl (by omega), ?_⟩
           | refine ⟨_, q_remt rfl rfl rfl (by omega), ?_⟩
           | refine ⟨_, q_addu8 rfl rfl rfl (by omega), ?_⟩
           | refine ⟨_, q_quou8 rfl rfl rfl (by omega), ?_⟩
           | refine ⟨_, q_shr1 rfl rfl rfl, ?_⟩
           | refine ⟨_, q_shr rfl rfl rfl ⟨by omega, by decide⟩, ?_⟩
           | refine ⟨_, q_shr rfl rfl rfl ⟨by omega, by show Int.toNat _ ≤ (8:Nat); omega⟩, ?_⟩
           | refine ⟨_, q_and1 rfl rfl rfl (by first | assumption | omega), ?_⟩
           | refine ⟨_, q_conv rfl rfl rfl rfl rfl rfl (by first | rfl | (exact i64_wrap (by omega) (by omega)) | (exact u8_wrap (by omega) (by omega)) | (exact u64_wrap (by omega) (by omega)) | (exact u16_wrap (by omega) (by omega))), ?_⟩)
        | refine j_guard_undef rfl rfl rfl rfl rfl ?_
        | (refine j_guard rfl rfl rfl rfl rfl ?_ ?_ <;> intro hc <;> (first | (exact absurd hc (by decide)) | ((try simp only [decide_eq_true_eq, decide_eq_false_iff_not, Bool.not_eq_true', Bool.not_eq_false', Bool.not_true, Bool.not_false, ne_eq, Decidable.not_not] at hc) <;> first | (exfalso; omega) | (exact absurd trivial hc) | skip))))
     | (refine gSC ?_
        first
        | refine sc_seq ?_
        | refine sc_region ?_
        | (refine sc_cond rfl ?_ ?_ <;> intro hc <;> (first | (exact absurd hc (by decide)) | ((try simp only [decide_eq_true_eq, decide_eq_false_iff_not, Bool.not_eq_true', Bool.not_eq_false', Bool.not_true, Bool.not_false, ne_eq, Decidable.not_not] at hc) <;> first | (exfalso; omega) | (exact absurd trivial hc) | skip)))
        | refine sc_block ?_
        | refine sc_ret ?_
        | refine sc_exit ?_
        | refine sc_skip ?_
        | refine sc_draw rfl mixed (by kernel_rfl) ?_)
     | (refine gSQ ?_
        first
        | refine sq_seq ?_
        | refine sq_blk ?_
        | refine sq_seq_ret ?_
        | refine sq_blk_ret ?_
        | refine sq_loop_ret ?_
        | refine sq_seq_exit ?_
        | refine sq_blk_hit ?_
        | refine sq_blk_miss rfl ?_
        | refine sq_loop_exit ?_
        | refine sq_ende (.inl rfl) rfl rfl ⟨_, (RVs.cons (RV.tmp rfl) (RVs.cons (RV.tmp rfl) (RVs.cons (RV.tmp rfl) (RVs.cons (RV.tmp rfl) (RVs.nil))))), ?_⟩
        | refine sq_ende (.inr rfl) rfl rfl ⟨_, (RVs.cons (RV.tmp rfl) (RVs.cons (RV.tmp rfl) (RVs.cons (RV.tmp rfl) (RVs.cons (RV.tmp rfl) (RVs.nil))))), ?_⟩)
     | refine j_nil ?_
     )
    refine sc_loop (ι := Int) (fun y => y ≤ yrF d ∧ 2001 ≤ y) (fun y => (5000 - y).toNat) (fun y => [(0, .int .i64 d), (7, .int .i64 y)]) (fun _ => []) y ⟨by omega, a3⟩ (by repeat (first | exact FSub.nil | refine FSub.cons rfl ?_ | refine FSub.conse rfl (by congr 1; omega) ?_)) (by repeat (first | exact LSub.nil | refine LSub.cons (by repeat (first | exact Rem.here | apply Rem.there)) ?_)) ?_
    clear a1 a2 a3 hy hf
    intro y ⟨a2, a3⟩
    by_cases hy : y < yrF d
    · have hf : ysF (y + 1) ≤ d := by have := ys_mono (y + 1) (yrF d) (by omega); omega
      repeat' (first
       | (refine gJ ?_
          first
          | refine jmv rfl rfl rfl rfl rfl ?_
          | (refine gload rfl rfl ?_
             refine j_qe rfl rfl rfl ?_
             first
             | refine ⟨_, q_load_own rfl rfl rfl rfl (by (repeat (first | exact InL.here | apply InL.there))) (by first | rfl | assumption), ?_⟩
             | refine ⟨_, q_loadA_own rfl rfl rfl rfl (by (repeat (first | exact InL.here | apply InL.there))) (by rfl), ?_⟩
             | refine ⟨_, q_loadA_ext rfl rfl rfl rfl ⟨by assumption, (by first | exact id | assumption)⟩ (by rfl), ?_⟩
             | refine ⟨_, q_load_ext rfl rfl rfl rfl ⟨by assumption, (by first | exact id | assumption)⟩ (by first | rfl | assumption), ?_⟩
             | refine ⟨_, q_load_extb rfl rfl rfl rfl ⟨by assumption, (by first | exact id | assumption)⟩ (by rfl), ?_⟩
             | refine ⟨_, q_loadA_extb rfl rfl rfl rfl ⟨by assumption, (by first | exact id | assumption)⟩ (by rfl), ?_⟩
             | refine ⟨_, q_load_ext0 rfl rfl rfl rfl ⟨by assumption, (by first | exact id | assumption)⟩ (by rfl), ?_⟩)
          | refine jfield rfl rfl rfl rfl rfl rfl rfl rfl ?_
          | refine jcmp rfl rfl rfl rfl rfl rfl rfl ?_
          | refine jar rfl rfl rfl rfl rfl rfl rfl (by omega) ?_
          | refine jextract rfl rfl rfl rfl rfl rfl ?_
          | (refine gcall rfl rfl ?_
             first
             | (refine j_qc (f := 40) rfl rfl rfl rfl rfl rfl rfl ?_; refine ⟨_, (fun w _ => yearStart_c (y + 1) w (by omega) (by omega)), ?_⟩))
          | (refine gF ?_
             first
             | refine j_store rfl rfl rfl rfl rfl rfl rfl rfl (by (repeat (first | exact Upd.here | apply Upd.there))) (by rfl) ?_
             | (refine j_alloc rfl rfl rfl rfl rfl ?_; intro b)
             | (refine j_box rfl rfl rfl rfl rfl ?_; intro b)
             | (refine j_buildSlice rfl rfl rfl rfl rfl rfl rfl rfl rfl rfl rfl rfl ?_; intro b)
             | (refine j_append rfl rfl rfl rfl rfl rfl rfl rfl rfl rfl rfl (by (repeat (first | exact InL.here | apply InL.there))) (by (repeat (first | exact InL.here | apply InL.there))) (by rfl) (by rfl) (by omega) (fun _ => by (repeat (first | exact Upd.here | apply Upd.there))) ?_; intro v))
          | (refine j_qe rfl rfl rfl ?_
             first
             | refine ⟨_, q_pick_t rfl rfl rfl, ?_⟩
             | refine ⟨_, q_pick_f rfl rfl rfl, ?_⟩
             | refine ⟨_, q_not rfl rfl, ?_⟩
             | refine ⟨_, q_index_nat rfl rfl rfl rfl rfl (by omega), ?_⟩
             | refine ⟨_, q_index_slice rfl rfl rfl rfl rfl (by omega), ?_⟩
             | refine ⟨_, q_index_arr rfl rfl rfl rfl rfl (by omega), ?_⟩
             | refine ⟨_, q_index_arr_ext rfl rfl rfl rfl rfl (by omega), ?_⟩
             | refine ⟨_, q_len_slice rfl rfl rfl rfl, ?_⟩
             | refine ⟨_, q_makeFunc rfl rfl, ?_⟩
             | refine ⟨_, q_build_struct rfl rfl rfl rfl rfl, ?_⟩
             | refine ⟨_, q_build_arr rfl rfl rfl rfl rfl, ?_⟩
             | refine ⟨_, q_nilCheck rfl rfl, ?_⟩
             | refine ⟨_, q_field_ext rfl rfl rfl rfl rfl, ?_⟩
             | refine ⟨_, q_quo rfl rfl rfl (by omega), ?_⟩
             | refine ⟨_, q_rem rfl rfl rfl (by omega), ?_⟩
             | refine ⟨_, q_quot rfl rfl rfl (by omega), ?_⟩
             | refine ⟨_, q_remt rfl rfl rfl (by omega), ?_⟩
             | refine ⟨_, q_addu8 rfl rfl rfl (by omega), ?_⟩
             | refine ⟨_, q_quou8 rfl rfl rfl (by omega), ?_⟩
             | refine ⟨_, q_shr1 rfl rfl rfl, ?_⟩
             | refine ⟨_, q_shr rfl rfl rfl ⟨by omega, by decide⟩, ?_⟩
             | refine ⟨_, q_shr rfl rfl rfl ⟨by omega, by show Int.toNat _ ≤ (8:Nat); omega⟩, ?_⟩
             | refine ⟨_, q_and1 rfl rfl rfl (by first | assumption | omega), ?_⟩
             | refine ⟨_, q_conv rfl rfl rfl rfl rfl rfl (by first | rfl | (exact i64_wrap (by omega) (by omega)) | (exact u8_wrap (by omega) (by omega)) | (exact u64_wrap (by omega) (by omega)) | (exact u16_wrap (by omega) (by omega))), ?_⟩)
          | refine j_guard_undef rfl rfl rfl rfl rfl ?_
          | (refine j_guard rfl rfl rfl rfl rfl ?_ ?_ <;> intro hc <;> (first | (exact absurd hc (by decide)) | ((try simp only [decide_eq_true_eq, decide_eq_false_iff_not, Bool.not_eq_true', Bool.not_eq_false', Bool.not_true, Bool.not_false, ne_eq, Decidable.not_not] at hc) <;> first | (exfalso; omega) | (exact absurd trivial hc) | skip))))
       | (refine gSC ?_
          first
          | refine sc_seq ?_
          | refine sc_region ?_
          | (refine sc_cond rfl ?_ ?_ <;> intro hc <;> (first | (exact absurd hc (by decide)) | ((try simp only [decide_eq_true_eq, decide_eq_false_iff_not, Bool.not_eq_true', Bool.not_eq_false', Bool.not_true, Bool.not_false, ne_eq, Decidable.not_not] at hc) <;> first | (exfalso; omega) | (exact absurd trivial hc) | skip)))
          | refine sc_block ?_
          | refine sc_ret ?_
          | refine sc_exit ?_
          | refine sc_skip ?_
          | refine sc_draw rfl mixed (by kernel_rfl) ?_)
       | (refine gSQ ?_
          first
          | refine sq_seq ?_
          | refine sq_blk ?_
          | refine sq_seq_ret ?_
          | refine sq_blk_ret ?_
          | refine sq_loop_ret ?_
          | refine sq_seq_exit ?_
          | refine sq_blk_hit ?_
          | refine sq_blk_miss rfl ?_
          | refine sq_loop_exit ?_
          | refine sq_ende (.inl rfl) rfl rfl ⟨_, (RVs.cons (RV.tmp rfl) (RVs.cons (RV.tmp rfl) (RVs.cons (RV.tmp rfl) (RVs.cons (RV.tmp rfl) (RVs.nil))))), ?_⟩
          | refine sq_ende (.inr rfl) rfl rfl ⟨_, (RVs.cons (RV.tmp rfl) (RVs.cons (RV.tmp rfl) (RVs.cons (RV.tmp rfl) (RVs.cons (RV.tmp rfl) (RVs.nil))))), ?_⟩)
       | refine j_nil ?_
       )
      exact sq_loop (y + 1) ⟨by omega, by omega⟩ (by omega) (by repeat (first | exact FSub.nil | refine FSub.cons rfl ?_ | refine FSub.conse rfl (by congr 1; omega) ?_)) (by repeat (first | exact LSub.nil | refine LSub.cons (by repeat (first | exact Rem.here | apply Rem.there)) ?_))
    · obtain rfl : y = yrF d := by omega
      have hls := ys_succ (yrF d)
      generalize hyr : yrF d = y at *
      generalize hlp : leapB y = lp at *
      have hr0 : 0 ≤ d - ysF y := by omega
      have hr1 : d - ysF y ≤ 366 := by split at hls <;> omega
      repeat' (first
       | (refine gJ ?_
          first
          | refine jmv rfl rfl rfl rfl rfl ?_
          | (refine gload rfl rfl ?_
             refine j_qe rfl rfl rfl ?_
             first
             | refine ⟨_, q_load_own rfl rfl rfl rfl (by (repeat (first | exact InL.here | apply InL.there))) (by first | rfl | assumption), ?_⟩
             | refine ⟨_, q_loadA_own rfl rfl rfl rfl (by (repeat (first | exact InL.here | apply InL.there))) (by rfl), ?_⟩
             | refine ⟨_, q_loadA_ext rfl rfl rfl rfl ⟨by assumption, (by first | exact id | assumption)⟩ (by rfl), ?_⟩
             | refine ⟨_, q_load_ext rfl rfl rfl rfl ⟨by assumption, (by first | exact id | assumption)⟩ (by first | rfl | assumption), ?_⟩
             | refine ⟨_, q_load_extb rfl rfl rfl rfl ⟨by assumption, (by first | exact id | assumption)⟩ (by rfl), ?_⟩
             | refine ⟨_, q_loadA_extb rfl rfl rfl rfl ⟨by assumption, (by first | exact id | assumption)⟩ (by rfl), ?_⟩
             | refine ⟨_, q_load_ext0 rfl rfl rfl rfl ⟨by assumption, (by first | exact id | assumption)⟩ (by rfl), ?_⟩)
          | refine jfield rfl rfl rfl rfl rfl rfl rfl rfl ?_
          | refine jcmp rfl rfl rfl rfl rfl rfl rfl ?_
          | refine jar rfl rfl rfl rfl rfl rfl rfl (by omega) ?_
          | refine jextract rfl rfl rfl rfl rfl rfl ?_
          | (refine gcall rfl rfl ?_
             first
             | (refine j_qc (f := 40) rfl rfl rfl rfl rfl rfl rfl ?_; refine ⟨_, (fun w _ => yearStart_c _ w (by omega) (by omega)), ?_⟩)
             | (refine j_qc (f := 41) rfl rfl rfl rfl rfl rfl rfl ?_; refine ⟨_, (fun w _ => hlp ▸ leap_c _ w (by omega) (by omega)), ?_⟩)
             | (refine j_qc (f := 42) rfl rfl rfl rfl rfl rfl rfl ?_; refine ⟨_, (fun w _ => aheadOf_c w), ?_⟩))
          | (refine gF ?_
             first
             | refine j_store rfl rfl rfl rfl rfl rfl rfl rfl (by (repeat (first | exact Upd.here | apply Upd.there))) (by rfl) ?_
             | (refine j_alloc rfl rfl rfl rfl rfl ?_; intro b)
             | (refine j_box rfl rfl rfl rfl rfl ?_; intro b)
             | (refine j_buildSlice rfl rfl rfl rfl rfl rfl rfl rfl rfl rfl rfl rfl ?_; intro b)
             | (refine j_append rfl rfl rfl rfl rfl rfl rfl rfl rfl rfl rfl (by (repeat (first | exact InL.here | apply InL.there))) (by (repeat (first | exact InL.here | apply InL.there))) (by rfl) (by rfl) (by omega) (fun _ => by (repeat (first | exact Upd.here | apply Upd.there))) ?_; intro v))
          | (refine j_qe rfl rfl rfl ?_
             first
             | refine ⟨_, q_pick_t rfl rfl rfl, ?_⟩
             | refine ⟨_, q_pick_f rfl rfl rfl, ?_⟩
             | refine ⟨_, q_not rfl rfl, ?_⟩
             | refine ⟨_, q_index_nat rfl rfl rfl rfl rfl (by omega), ?_⟩
             | refine ⟨_, q_index_slice rfl rfl rfl rfl rfl (by omega), ?_⟩
             | refine ⟨_, q_index_arr rfl rfl rfl rfl rfl (by omega), ?_⟩
             | refine ⟨_, q_index_arr_ext rfl rfl rfl rfl rfl (by omega), ?_⟩
             | refine ⟨_, q_len_slice rfl rfl rfl rfl, ?_⟩
             | refine ⟨_, q_makeFunc rfl rfl, ?_⟩
             | refine ⟨_, q_build_struct rfl rfl rfl rfl rfl, ?_⟩
             | refine ⟨_, q_build_arr rfl rfl rfl rfl rfl, ?_⟩
             | refine ⟨_, q_nilCheck rfl rfl, ?_⟩
             | refine ⟨_, q_field_ext rfl rfl rfl rfl rfl, ?_⟩
             | refine ⟨_, q_quo rfl rfl rfl (by omega), ?_⟩
             | refine ⟨_, q_rem rfl rfl rfl (by omega), ?_⟩
             | refine ⟨_, q_quot rfl rfl rfl (by omega), ?_⟩
             | refine ⟨_, q_remt rfl rfl rfl (by omega), ?_⟩
             | refine ⟨_, q_addu8 rfl rfl rfl (by omega), ?_⟩
             | refine ⟨_, q_quou8 rfl rfl rfl (by omega), ?_⟩
             | refine ⟨_, q_shr1 rfl rfl rfl, ?_⟩
             | refine ⟨_, q_shr rfl rfl rfl ⟨by omega, by decide⟩, ?_⟩
             | refine ⟨_, q_shr rfl rfl rfl ⟨by omega, by show Int.toNat _ ≤ (8:Nat); omega⟩, ?_⟩
             | refine ⟨_, q_and1 rfl rfl rfl (by first | assumption | omega), ?_⟩
             | refine ⟨_, q_conv rfl rfl rfl rfl rfl rfl (by first | rfl | (exact i64_wrap (by omega) (by omega)) | (exact u8_wrap (by omega) (by omega)) | (exact u64_wrap (by omega) (by omega)) | (exact u16_wrap (by omega) (by omega))), ?_⟩)
          | refine j_guard_undef rfl rfl rfl rfl rfl ?_
          | (refine j_guard rfl rfl rfl rfl rfl ?_ ?_ <;> intro hc <;> (first | (exact absurd hc (by decide)) | ((try simp only [decide_eq_true_eq, decide_eq_false_iff_not, Bool.not_eq_true', Bool.not_eq_false', Bool.not_true, Bool.not_false, ne_eq, Decidable.not_not] at hc) <;> first | (exfalso; omega) | (exact absurd trivial hc) | skip))))
       | (refine gSC ?_
          first
          | refine sc_seq ?_
          | refine sc_region ?_
          | (refine sc_cond rfl ?_ ?_ <;> intro hc <;> (first | (exact absurd hc (by decide)) | ((try simp only [decide_eq_true_eq, decide_eq_false_iff_not, Bool.not_eq_true', Bool.not_eq_false', Bool.not_true, Bool.not_false, ne_eq, Decidable.not_not] at hc) <;> first | (exfalso; omega) | (exact absurd trivial hc) | skip)))
          | refine sc_block ?_
          | refine sc_ret ?_
          | refine sc_exit ?_
          | refine sc_skip ?_
          | refine sc_draw rfl mixed (by kernel_rfl) ?_)
       | (refine gSQ ?_
          first
          | refine sq_seq ?_
          | refine sq_blk ?_
          | refine sq_seq_ret ?_
          | refine sq_blk_ret ?_
          | refine sq_loop_ret ?_
          | refine sq_seq_exit ?_
          | refine sq_blk_hit ?_
          | refine sq_blk_miss rfl ?_
          | refine sq_loop_exit ?_
          | refine sq_ende (.inl rfl) rfl rfl ⟨_, (RVs.cons (RV.tmp rfl) (RVs.cons (RV.tmp rfl) (RVs.cons (RV.tmp rfl) (RVs.cons (RV.tmp rfl) (RVs.nil))))), ?_⟩
          | refine sq_ende (.inr rfl) rfl rfl ⟨_, (RVs.cons (RV.tmp rfl) (RVs.cons (RV.tmp rfl) (RVs.cons (RV.tmp rfl) (RVs.cons (RV.tmp rfl) (RVs.nil))))), ?_⟩)
       | refine j_nil ?_
       )
      rename_i b
      refine sc_loop (ι := Int) (fun m => 1 ≤ m ∧ m ≤ 12 ∧ cumF m lp ≤ d - ysF y) (fun m => (13 - m).toNat) (fun m => [(7, .int .i64 y), (8, .int .i64 (d - ysF y - cumF m lp)), (9, .bool lp), (10, .pointer (some ⟨b, 0, none⟩)), (11, .int .i64 m)]) (fun _ => [.cells b 85 aheadL]) 1 ⟨by omega, by omega, by rw [cum_1]; omega⟩ (by repeat (first | exact FSub.nil | refine FSub.cons rfl ?_ | refine FSub.conse rfl (by congr 1; rw [cum_1]; omega) ?_)) (by repeat (first | exact LSub.nil | refine LSub.cons (by repeat (first | exact Rem.here | apply Rem.there)) ?_)) ?_
      intro m ⟨c1, c2, c3⟩
      have hcs := cum_succ m lp c1 c2
      have hmb := md_bd m lp c1 c2
      have hcb := cum_bd m lp
      by_cases hm : mdF m lp ≤ d - ysF y - cumF m lp
      · have hm12 : m < 12 := by
          by_cases h12 : m = 12
          · subst h12
            have := cum_13 lp
            simp only [show (12:Int) + 1 = 13 from rfl] at hcs
            exfalso
            cases lp <;> simp_all <;> omega
          · omega
        repeat' (first
         | (refine gJ ?_
            first
            | refine jmv rfl rfl rfl rfl rfl ?_
            | (refine gload rfl rfl ?_
               refine j_qe rfl rfl rfl ?_
               first
               | refine ⟨_, q_load_own rfl rfl rfl rfl (by (repeat (first | exact InL.here | apply InL.there))) (by first | rfl | assumption), ?_⟩
               | refine ⟨_, q_loadA_own rfl rfl rfl rfl (by (repeat (first | exact InL.here | apply InL.there))) (by rfl), ?_⟩
               | refine ⟨_, q_loadA_ext rfl rfl rfl rfl ⟨by assumption, (by first | exact id | assumption)⟩ (by rfl), ?_⟩
               | refine ⟨_, q_load_ext rfl rfl rfl rfl ⟨by assumption, (by first | exact id | assumption)⟩ (by first | rfl | assumption), ?_⟩
               | refine ⟨_, q_load_extb rfl rfl rfl rfl ⟨by assumption, (by first | exact id | assumption)⟩ (by rfl), ?_⟩
               | refine ⟨_, q_loadA_extb rfl rfl rfl rfl ⟨by assumption, (by first | exact id | assumption)⟩ (by rfl), ?_⟩
               | refine ⟨_, q_load_ext0 rfl rfl rfl rfl ⟨by assumption, (by first | exact id | assumption)⟩ (by rfl), ?_⟩)
            | refine jfield rfl rfl rfl rfl rfl rfl rfl rfl ?_
            | refine jcmp rfl rfl rfl rfl rfl rfl rfl ?_
            | refine jar rfl rfl rfl rfl rfl rfl rfl (by omega) ?_
            | refine jextract rfl rfl rfl rfl rfl rfl ?_
            | (refine gcall rfl rfl ?_
               first
               | (refine j_qc (f := 43) rfl rfl rfl rfl rfl rfl rfl ?_; refine ⟨_, (fun w hs => monthDays_c _ m lp w c1 c2 (hs.ext (by (repeat (first | exact InL.here | apply InL.there))))), ?_⟩))
            | (refine gF ?_
               first
               | refine j_store rfl rfl rfl rfl rfl rfl rfl rfl (by (repeat (first | exact Upd.here | apply Upd.there))) (by rfl) ?_
               | (refine j_alloc rfl rfl rfl rfl rfl ?_; intro b)
               | (refine j_box rfl rfl rfl rfl rfl ?_; intro b)
               | (refine j_buildSlice rfl rfl rfl rfl rfl rfl rfl rfl rfl rfl rfl rfl ?_; intro b)
               | (refine j_append rfl rfl rfl rfl rfl rfl rfl rfl rfl rfl rfl (by (repeat (first | exact InL.here | apply InL.there))) (by (repeat (first | exact InL.here | apply InL.there))) (by rfl) (by rfl) (by omega) (fun _ => by (repeat (first | exact Upd.here | apply Upd.there))) ?_; intro v))
            | (refine j_qe rfl rfl rfl ?_
               first
               | refine ⟨_, q_pick_t rfl rfl rfl, ?_⟩
               | refine ⟨_, q_pick_f rfl rfl rfl, ?_⟩
               | refine ⟨_, q_not rfl rfl, ?_⟩
               | refine ⟨_, q_index_nat rfl rfl rfl rfl rfl (by omega), ?_⟩
               | refine ⟨_, q_index_slice rfl rfl rfl rfl rfl (by omega), ?_⟩
               | refine ⟨_, q_index_arr rfl rfl rfl rfl rfl (by omega), ?_⟩
               | refine ⟨_, q_index_arr_ext rfl rfl rfl rfl rfl (by omega), ?_⟩
               | refine ⟨_, q_len_slice rfl rfl rfl rfl, ?_⟩
               | refine ⟨_, q_makeFunc rfl rfl, ?_⟩
               | refine ⟨_, q_build_struct rfl rfl rfl rfl rfl, ?_⟩
               | refine ⟨_, q_build_arr rfl rfl rfl rfl rfl, ?_⟩
               | refine ⟨_, q_nilCheck rfl rfl, ?_⟩
               | refine ⟨_, q_field_ext rfl rfl rfl rfl rfl, ?_⟩
               | refine ⟨_, q_quo rfl rfl rfl (by omega), ?_⟩
               | refine ⟨_, q_rem rfl rfl rfl (by omega), ?_⟩
               | refine ⟨_, q_quot rfl rfl rfl (by omega), ?_⟩
               | refine ⟨_, q_remt rfl rfl rfl (by omega), ?_⟩
               | refine ⟨_, q_addu8 rfl rfl rfl (by omega), ?_⟩
               | refine ⟨_, q_quou8 rfl rfl rfl (by omega), ?_⟩
               | refine ⟨_, q_shr1 rfl rfl rfl, ?_⟩
               | refine ⟨_, q_shr rfl rfl rfl ⟨by omega, by decide⟩, ?_⟩
               | refine ⟨_, q_shr rfl rfl rfl ⟨by omega, by show Int.toNat _ ≤ (8:Nat); omega⟩, ?_⟩
               | refine ⟨_, q_and1 rfl rfl rfl (by first | assumption | omega), ?_⟩
               | refine ⟨_, q_conv rfl rfl rfl rfl rfl rfl (by first | rfl | (exact i64_wrap (by omega) (by omega)) | (exact u8_wrap (by omega) (by omega)) | (exact u64_wrap (by omega) (by omega)) | (exact u16_wrap (by omega) (by omega))), ?_⟩)
            | refine j_guard_undef rfl rfl rfl rfl rfl ?_
            | (refine j_guard rfl rfl rfl rfl rfl ?_ ?_ <;> intro hc <;> (first | (exact absurd hc (by decide)) | ((try simp only [decide_eq_true_eq, decide_eq_false_iff_not, Bool.not_eq_true', Bool.not_eq_false', Bool.not_true, Bool.not_false, ne_eq, Decidable.not_not] at hc) <;> first | (exfalso; omega) | (exact absurd trivial hc) | skip))))
         | (refine gSC ?_
            first
            | refine sc_seq ?_
            | refine sc_region ?_
            | (refine sc_cond rfl ?_ ?_ <;> intro hc <;> (first | (exact absurd hc (by decide)) | ((try simp only [decide_eq_true_eq, decide_eq_false_iff_not, Bool.not_eq_true', Bool.not_eq_false', Bool.not_true, Bool.not_false, ne_eq, Decidable.not_not] at hc) <;> first | (exfalso; omega) | (exact absurd trivial hc) | skip)))
            | refine sc_block ?_
            | refine sc_ret ?_
            | refine sc_exit ?_
            | refine sc_skip ?_
            | refine sc_draw rfl mixed (by kernel_rfl) ?_)
         | (refine gSQ ?_
            first
            | refine sq_seq ?_
            | refine sq_blk ?_
            | refine sq_seq_ret ?_
            | refine sq_blk_ret ?_
            | refine sq_loop_ret ?_
            | refine sq_seq_exit ?_
            | refine sq_blk_hit ?_
            | refine sq_blk_miss rfl ?_
            | refine sq_loop_exit ?_
            | refine sq_ende (.inl rfl) rfl rfl ⟨_, (RVs.cons (RV.tmp rfl) (RVs.cons (RV.tmp rfl) (RVs.cons (RV.tmp rfl) (RVs.cons (RV.tmp rfl) (RVs.nil))))), ?_⟩
            | refine sq_ende (.inr rfl) rfl rfl ⟨_, (RVs.cons (RV.tmp rfl) (RVs.cons (RV.tmp rfl) (RVs.cons (RV.tmp rfl) (RVs.cons (RV.tmp rfl) (RVs.nil))))), ?_⟩)
         | refine j_nil ?_
         )
        exact sq_loop (m + 1) ⟨by omega, by omega, by omega⟩ (by omega) (by repeat (first | exact FSub.nil | refine FSub.cons rfl ?_ | refine FSub.conse rfl (by congr 1; omega) ?_)) (by repeat (first | exact LSub.nil | refine LSub.cons (by repeat (first | exact Rem.here | apply Rem.there)) ?_))
      · repeat' (first
         | (refine gJ ?_
            first
            | refine jmv rfl rfl rfl rfl rfl ?_
            | (refine gload rfl rfl ?_
               refine j_qe rfl rfl rfl ?_
               first
               | refine ⟨_, q_load_own rfl rfl rfl rfl (by (repeat (first | exact InL.here | apply InL.there))) (by first | rfl | assumption), ?_⟩
               | refine ⟨_, q_loadA_own rfl rfl rfl rfl (by (repeat (first | exact InL.here | apply InL.there))) (by rfl), ?_⟩
               | refine ⟨_, q_loadA_ext rfl rfl rfl rfl ⟨by assumption, (by first | exact id | assumption)⟩ (by rfl), ?_⟩
               | refine ⟨_, q_load_ext rfl rfl rfl rfl ⟨by assumption, (by first | exact id | assumption)⟩ (by first | rfl | assumption), ?_⟩
               | refine ⟨_, q_load_extb rfl rfl rfl rfl ⟨by assumption, (by first | exact id | assumption)⟩ (by rfl), ?_⟩
               | refine ⟨_, q_loadA_extb rfl rfl rfl rfl ⟨by assumption, (by first | exact id | assumption)⟩ (by rfl), ?_⟩
               | refine ⟨_, q_load_ext0 rfl rfl rfl rfl ⟨by assumption, (by first | exact id | assumption)⟩ (by rfl), ?_⟩)
            | refine jfield rfl rfl rfl rfl rfl rfl rfl rfl ?_
            | refine jcmp rfl rfl rfl rfl rfl rfl rfl ?_
            | refine jar rfl rfl rfl rfl rfl rfl rfl (by omega) ?_
            | refine jextract rfl rfl rfl rfl rfl rfl ?_
            | (refine gcall rfl rfl ?_
               first
               | (refine j_qc (f := 43) rfl rfl rfl rfl rfl rfl rfl ?_; refine ⟨_, (fun w hs => monthDays_c _ m lp w c1 c2 (hs.ext (by (repeat (first | exact InL.here | apply InL.there))))), ?_⟩))
            | (refine gF ?_
               first
               | refine j_store rfl rfl rfl rfl rfl rfl rfl rfl (by (repeat (first | exact Upd.here | apply Upd.there))) (by rfl) ?_
               | (refine j_alloc rfl rfl rfl rfl rfl ?_; intro b)
               | (refine j_box rfl rfl rfl rfl rfl ?_; intro b)
               | (refine j_buildSlice rfl rfl rfl rfl rfl rfl rfl rfl rfl rfl rfl rfl ?_; intro b)
               | (refine j_append rfl rfl rfl rfl rfl rfl rfl rfl rfl rfl rfl (by (repeat (first | exact InL.here | apply InL.there))) (by (repeat (first | exact InL.here | apply InL.there))) (by rfl) (by rfl) (by omega) (fun _ => by (repeat (first | exact Upd.here | apply Upd.there))) ?_; intro v))
            | (refine j_qe rfl rfl rfl ?_
               first
               | refine ⟨_, q_pick_t rfl rfl rfl, ?_⟩
               | refine ⟨_, q_pick_f rfl rfl rfl, ?_⟩
               | refine ⟨_, q_not rfl rfl, ?_⟩
               | refine ⟨_, q_index_nat rfl rfl rfl rfl rfl (by omega), ?_⟩
               | refine ⟨_, q_index_slice rfl rfl rfl rfl rfl (by omega), ?_⟩
               | refine ⟨_, q_index_arr rfl rfl rfl rfl rfl (by omega), ?_⟩
               | refine ⟨_, q_index_arr_ext rfl rfl rfl rfl rfl (by omega), ?_⟩
               | refine ⟨_, q_len_slice rfl rfl rfl rfl, ?_⟩
               | refine ⟨_, q_makeFunc rfl rfl, ?_⟩
               | refine ⟨_, q_build_struct rfl rfl rfl rfl rfl, ?_⟩
               | refine ⟨_, q_build_arr rfl rfl rfl rfl rfl, ?_⟩
               | refine ⟨_, q_nilCheck rfl rfl, ?_⟩
               | refine ⟨_, q_field_ext rfl rfl rfl rfl rfl, ?_⟩
               | refine ⟨_, q_quo rfl rfl rfl (by omega), ?_⟩
               | refine ⟨_, q_rem rfl rfl rfl (by omega), ?_⟩
               | refine ⟨_, q_quot rfl rfl rfl (by omega), ?_⟩
               | refine ⟨_, q_remt rfl rfl rfl (by omega), ?_⟩
               | refine ⟨_, q_addu8 rfl rfl rfl (by omega), ?_⟩
               | refine ⟨_, q_quou8 rfl rfl rfl (by omega), ?_⟩
               | refine ⟨_, q_shr1 rfl rfl rfl, ?_⟩
               | refine ⟨_, q_shr rfl rfl rfl ⟨by omega, by decide⟩, ?_⟩
               | refine ⟨_, q_shr rfl rfl rfl ⟨by omega, by show Int.toNat _ ≤ (8:Nat); omega⟩, ?_⟩
               | refine ⟨_, q_and1 rfl rfl rfl (by first | assumption | omega), ?_⟩
               | refine ⟨_, q_conv rfl rfl rfl rfl rfl rfl (by first | rfl | (exact i64_wrap (by omega) (by omega)) | (exact u8_wrap (by omega) (by omega)) | (exact u64_wrap (by omega) (by omega)) | (exact u16_wrap (by omega) (by omega))), ?_⟩)
            | refine j_guard_undef rfl rfl rfl rfl rfl ?_
            | (refine j_guard rfl rfl rfl rfl rfl ?_ ?_ <;> intro hc <;> (first | (exact absurd hc (by decide)) | ((try simp only [decide_eq_true_eq, decide_eq_false_iff_not, Bool.not_eq_true', Bool.not_eq_false', Bool.not_true, Bool.not_false, ne_eq, Decidable.not_not] at hc) <;> first | (exfalso; omega) | (exact absurd trivial hc) | skip))))
         | (refine gSC ?_
            first
            | refine sc_seq ?_
            | refine sc_region ?_
            | (refine sc_cond rfl ?_ ?_ <;> intro hc <;> (first | (exact absurd hc (by decide)) | ((try simp only [decide_eq_true_eq, decide_eq_false_iff_not, Bool.not_eq_true', Bool.not_eq_false', Bool.not_true, Bool.not_false, ne_eq, Decidable.not_not] at hc) <;> first | (exfalso; omega) | (exact absurd trivial hc) | skip)))
            | refine sc_block ?_
            | refine sc_ret ?_
            | refine sc_exit ?_
            | refine sc_skip ?_
            | refine sc_draw rfl mixed (by kernel_rfl) ?_)
         | (refine gSQ ?_
            first
            | refine sq_seq ?_
            | refine sq_blk ?_
            | refine sq_seq_ret ?_
            | refine sq_blk_ret ?_
            | refine sq_loop_ret ?_
            | refine sq_seq_exit ?_
            | refine sq_blk_hit ?_
            | refine sq_blk_miss rfl ?_
            | refine sq_loop_exit ?_
            | refine sq_ende (.inl rfl) rfl rfl ⟨_, (RVs.cons (RV.tmp rfl) (RVs.cons (RV.tmp rfl) (RVs.cons (RV.tmp rfl) (RVs.cons (RV.tmp rfl) (RVs.nil))))), ?_⟩
            | refine sq_ende (.inr rfl) rfl rfl ⟨_, (RVs.cons (RV.tmp rfl) (RVs.cons (RV.tmp rfl) (RVs.cons (RV.tmp rfl) (RVs.cons (RV.tmp rfl) (RVs.nil))))), ?_⟩)
         | refine j_nil ?_
         )
        have e1 : mthF d = m := by unfold mthF doyF; rw [hyr, hlp]; exact mo_of _ m lp c1 c2 c3 (by omega)
        have e2 : dayF d = d - ysF y - cumF m lp + 1 := by unfold dayF doyF; rw [e1, hyr, hlp]
        rw [e1, e2]
        (intro w' hS; refine ⟨?_, hS.below⟩; simp only [pack])
theorem weekday_c (d : Int) (w : World) :
    Calls Try.prog 66 #[.int .i64 d] w fun e w' => e = .returned (.tuple #[.int .i64 (if checkDayF d = 0 then d % 7 else 0), .int .i64 (checkDayF d)]) ∧ Below w.heap.size w w' := by
  by_cases hck : checkDayF d = 0
  · have hb : 0 ≤ d ∧ d ≤ 730484 := by unfold checkDayF at hck; (repeat' split at hck) <;> omega
    rw [hck, if_pos rfl]
    refine eng_start (n := 12) (args := [.int .i64 d]) tab tab_ok fns fns_ok [.tmp 2, .tmp 3] Try.func66 rfl rfl rfl rfl ?_
    repeat' (first
     | (refine gJ ?_
        first
        | refine jmv rfl rfl rfl rfl rfl ?_
        | (refine gload rfl rfl ?_
           refine j_qe rfl rfl rfl ?_
           first
           | refine ⟨_, q_load_own rfl rfl rfl rfl (by (repeat (first | exact InL.here | apply InL.there))) (by first | rfl | assumption), ?_⟩
           | refine ⟨_, q_loadA_own rfl rfl rfl rfl (by (repeat (first | exact InL.here | apply InL.there))) (by rfl), ?_⟩
           | refine ⟨_, q_loadA_ext rfl rfl rfl rfl ⟨by assumption, (by first | exact id | assumption)⟩ (by rfl), ?_⟩
           | refine ⟨_, q_load_ext rfl rfl rfl rfl ⟨by assumption, (by first | exact id | assumption)⟩ (by first | rfl | assumption), ?_⟩
           | refine ⟨_, q_load_extb rfl rfl rfl rfl ⟨by assumption, (by first | exact id | assumption)⟩ (by rfl), ?_⟩
           | refine ⟨_, q_loadA_extb rfl rfl rfl rfl ⟨by assumption, (by first | exact id | assumption)⟩ (by rfl), ?_⟩
           | refine ⟨_, q_load_ext0 rfl rfl rfl rfl ⟨by assumption, (by first | exact id | assumption)⟩ (by rfl), ?_⟩)
        | refine jfield rfl rfl rfl rfl rfl rfl rfl rfl ?_
        | refine jcmp rfl rfl rfl rfl rfl rfl rfl ?_
        | refine jar rfl rfl rfl rfl rfl rfl rfl (by omega) ?_
        | refine jextract rfl rfl rfl rfl rfl rfl ?_
        | (refine gcall rfl rfl ?_
           first
           | (refine j_qc (f := 39) rfl rfl rfl rfl rfl rfl rfl ?_; refine ⟨_, (fun w _ => hck ▸ checkDay_c d w), ?_⟩))
        | (refine gF ?_
           first
           | refine j_store rfl rfl rfl rfl rfl rfl rfl rfl (by (repeat (first | exact Upd.here | apply Upd.there))) (by rfl) ?_
           | (refine j_alloc rfl rfl rfl rfl rfl ?_; intro b)
           | (refine j_box rfl rfl rfl rfl rfl ?_; intro b)
           | (refine j_buildSlice rfl rfl rfl rfl rfl rfl rfl rfl rfl rfl rfl rfl ?_; intro b)
           | (refine j_append rfl rfl rfl rfl rfl rfl rfl rfl rfl rfl rfl (by (repeat (first | exact InL.here | apply InL.there))) (by (repeat (first | exact InL.here | apply InL.there))) (by rfl) (by rfl) (by omega) (fun _ => by (repeat (first | exact Upd.here | apply Upd.there))) ?_; intro v))
        | (refine j_qe rfl rfl rfl ?_
           first
           | refine ⟨_, q_pick_t rfl rfl rfl, ?_⟩
           | refine ⟨_, q_pick_f rfl rfl rfl, ?_⟩
           | refine ⟨_, q_not rfl rfl, ?_⟩
           | refine ⟨_, q_index_nat rfl rfl rfl rfl rfl (by omega), ?_⟩
           | refine ⟨_, q_index_slice rfl rfl rfl rfl rfl (by omega), ?_⟩
           | refine ⟨_, q_index_arr rfl rfl rfl rfl rfl (by omega), ?_⟩
           | refine ⟨_, q_index_arr_ext rfl rfl rfl rfl rfl (by omega), ?_⟩
           | refine ⟨_, q_len_slice rfl rfl rfl rfl, ?_⟩
           | refine ⟨_, q_makeFunc rfl rfl, ?_⟩
           | refine ⟨_, q_build_struct rfl rfl rfl rfl rfl, ?_⟩
           | refine ⟨_, q_build_arr rfl rfl rfl rfl rfl, ?_⟩
           | refine ⟨_, q_nilCheck rfl rfl, ?_⟩
           | refine ⟨_, q_field_ext rfl rfl rfl rfl rfl, ?_⟩
           | refine ⟨_, q_quo rfl rfl rfl (by omega), ?_⟩
           | refine ⟨_, q_rem rfl rfl rfl (by omega), ?_⟩
           | refine ⟨_, q_quot rfl rfl rfl (by omega), ?_⟩
           | refine ⟨_, q_remt rfl rfl rfl (by omega), ?_⟩
           | refine ⟨_, q_addu8 rfl rfl rfl (by omega), ?_⟩
           | refine ⟨_, q_quou8 rfl rfl rfl (by omega), ?_⟩
           | refine ⟨_, q_shr1 rfl rfl rfl, ?_⟩
           | refine ⟨_, q_shr rfl rfl rfl ⟨by omega, by decide⟩, ?_⟩
           | refine ⟨_, q_shr rfl rfl rfl ⟨by omega, by show Int.toNat _ ≤ (8:Nat); omega⟩, ?_⟩
           | refine ⟨_, q_and1 rfl rfl rfl (by first | assumption | omega), ?_⟩
           | refine ⟨_, q_conv rfl rfl rfl rfl rfl rfl (by first | rfl | (exact i64_wrap (by omega) (by omega)) | (exact u8_wrap (by omega) (by omega)) | (exact u64_wrap (by omega) (by omega)) | (exact u16_wrap (by omega) (by omega))), ?_⟩)
        | refine j_guard_undef rfl rfl rfl rfl rfl ?_
        | (refine j_guard rfl rfl rfl rfl rfl ?_ ?_ <;> intro hc <;> (first | (exact absurd hc (by decide)) | ((try simp only [decide_eq_true_eq, decide_eq_false_iff_not, Bool.not_eq_true', Bool.not_eq_false', Bool.not_true, Bool.not_false, ne_eq, Decidable.not_not] at hc) <;> first | (exfalso; omega) | (exact absurd trivial hc) | skip))))
     | (refine gSC ?_
        first
        | refine sc_seq ?_
        | refine sc_region ?_
        | (refine sc_cond rfl ?_ ?_ <;> intro hc <;> (first | (exact absurd hc (by decide)) | ((try simp only [decide_eq_true_eq, decide_eq_false_iff_not, Bool.not_eq_true', Bool.not_eq_false', Bool.not_true, Bool.not_false, ne_eq, Decidable.not_not] at hc) <;> first | (exfalso; omega) | (exact absurd trivial hc) | skip)))
        | refine sc_block ?_
        | refine sc_ret ?_
        | refine sc_exit ?_
        | refine sc_skip ?_
        | refine sc_draw rfl mixed (by kernel_rfl) ?_)
     | (refine gSQ ?_
        first
        | refine sq_seq ?_
        | refine sq_blk ?_
        | refine sq_seq_ret ?_
        | refine sq_blk_ret ?_
        | refine sq_loop_ret ?_
        | refine sq_seq_exit ?_
        | refine sq_blk_hit ?_
        | refine sq_blk_miss rfl ?_
        | refine sq_loop_exit ?_
        | refine sq_ende (.inl rfl) rfl rfl ⟨_, (RVs.cons (RV.tmp rfl) (RVs.cons (RV.tmp rfl) (RVs.nil))), ?_⟩
        | refine sq_ende (.inr rfl) rfl rfl ⟨_, (RVs.cons (RV.tmp rfl) (RVs.cons (RV.tmp rfl) (RVs.nil))), ?_⟩)
     | refine j_nil ?_
     )
    (intro w' hS; refine ⟨?_, hS.below⟩; simp only [pack])
  · rw [if_neg hck]
    refine eng_start (n := 12) (args := [.int .i64 d]) tab tab_ok fns fns_ok [.tmp 2, .tmp 3] Try.func66 rfl rfl rfl rfl ?_
    repeat' (first
     | (refine gJ ?_
        first
        | refine jmv rfl rfl rfl rfl rfl ?_
        | (refine gload rfl rfl ?_
           refine j_qe rfl rfl rfl ?_
           first
           | refine ⟨_, q_load_own rfl rfl rfl rfl (by (repeat (first | exact InL.here | apply InL.there))) (by first | rfl | assumption), ?_⟩
           | refine ⟨_, q_loadA_own rfl rfl rfl rfl (by (repeat (first | exact InL.here | apply InL.there))) (by rfl), ?_⟩
           | refine ⟨_, q_loadA_ext rfl rfl rfl rfl ⟨by assumption, (by first | exact id | assumption)⟩ (by rfl), ?_⟩
           | refine ⟨_, q_load_ext rfl rfl rfl rfl ⟨by assumption, (by first | exact id | assumption)⟩ (by first | rfl | assumption), ?_⟩
           | refine ⟨_, q_load_extb rfl rfl rfl rfl ⟨by assumption, (by first | exact id | assumption)⟩ (by rfl), ?_⟩
           | refine ⟨_, q_loadA_extb rfl rfl rfl rfl ⟨by assumption, (by first | exact id | assumption)⟩ (by rfl), ?_⟩
           | refine ⟨_, q_load_ext0 rfl rfl rfl rfl ⟨by assumption, (by first | exact id | assumption)⟩ (by rfl), ?_⟩)
        | refine jfield rfl rfl rfl rfl rfl rfl rfl rfl ?_
        | refine jcmp rfl rfl rfl rfl rfl rfl rfl ?_
        | refine jar rfl rfl rfl rfl rfl rfl rfl (by omega) ?_
        | refine jextract rfl rfl rfl rfl rfl rfl ?_
        | (refine gcall rfl rfl ?_
           first
           | (refine j_qc (f := 39) rfl rfl rfl rfl rfl rfl rfl ?_; refine ⟨_, (fun w _ => checkDay_c d w), ?_⟩))
        | (refine gF ?_
           first
           | refine j_store rfl rfl rfl rfl rfl rfl rfl rfl (by (repeat (first | exact Upd.here | apply Upd.there))) (by rfl) ?_
           | (refine j_alloc rfl rfl rfl rfl rfl ?_; intro b)
           | (refine j_box rfl rfl rfl rfl rfl ?_; intro b)
           | (refine j_buildSlice rfl rfl rfl rfl rfl rfl rfl rfl rfl rfl rfl rfl ?_; intro b)
           | (refine j_append rfl rfl rfl rfl rfl rfl rfl rfl rfl rfl rfl (by (repeat (first | exact InL.here | apply InL.there))) (by (repeat (first | exact InL.here | apply InL.there))) (by rfl) (by rfl) (by omega) (fun _ => by (repeat (first | exact Upd.here | apply Upd.there))) ?_; intro v))
        | (refine j_qe rfl rfl rfl ?_
           first
           | refine ⟨_, q_pick_t rfl rfl rfl, ?_⟩
           | refine ⟨_, q_pick_f rfl rfl rfl, ?_⟩
           | refine ⟨_, q_not rfl rfl, ?_⟩
           | refine ⟨_, q_index_nat rfl rfl rfl rfl rfl (by omega), ?_⟩
           | refine ⟨_, q_index_slice rfl rfl rfl rfl rfl (by omega), ?_⟩
           | refine ⟨_, q_index_arr rfl rfl rfl rfl rfl (by omega), ?_⟩
           | refine ⟨_, q_index_arr_ext rfl rfl rfl rfl rfl (by omega), ?_⟩
           | refine ⟨_, q_len_slice rfl rfl rfl rfl, ?_⟩
           | refine ⟨_, q_makeFunc rfl rfl, ?_⟩
           | refine ⟨_, q_build_struct rfl rfl rfl rfl rfl, ?_⟩
           | refine ⟨_, q_build_arr rfl rfl rfl rfl rfl, ?_⟩
           | refine ⟨_, q_nilCheck rfl rfl, ?_⟩
           | refine ⟨_, q_field_ext rfl rfl rfl rfl rfl, ?_⟩
           | refine ⟨_, q_quo rfl rfl rfl (by omega), ?_⟩
           | refine ⟨_, q_rem rfl rfl rfl (by omega), ?_⟩
           | refine ⟨_, q_quot rfl rfl rfl (by omega), ?_⟩
           | refine ⟨_, q_remt rfl rfl rfl (by omega), ?_⟩
           | refine ⟨_, q_addu8 rfl rfl rfl (by omega), ?_⟩
           | refine ⟨_, q_quou8 rfl rfl rfl (by omega), ?_⟩
           | refine ⟨_, q_shr1 rfl rfl rfl, ?_⟩
           | refine ⟨_, q_shr rfl rfl rfl ⟨by omega, by decide⟩, ?_⟩
           | refine ⟨_, q_shr rfl rfl rfl ⟨by omega, by show Int.toNat _ ≤ (8:Nat); omega⟩, ?_⟩
           | refine ⟨_, q_and1 rfl rfl rfl (by first | assumption | omega), ?_⟩
           | refine ⟨_, q_conv rfl rfl rfl rfl rfl rfl (by first | rfl | (exact i64_wrap (by omega) (by omega)) | (exact u8_wrap (by omega) (by omega)) | (exact u64_wrap (by omega) (by omega)) | (exact u16_wrap (by omega) (by omega))), ?_⟩)
        | refine j_guard_undef rfl rfl rfl rfl rfl ?_
        | (refine j_guard rfl rfl rfl rfl rfl ?_ ?_ <;> intro hc <;> (first | (exact absurd hc (by decide)) | ((try simp only [decide_eq_true_eq, decide_eq_false_iff_not, Bool.not_eq_true', Bool.not_eq_false', Bool.not_true, Bool.not_false, ne_eq, Decidable.not_not] at hc) <;> first | (exfalso; omega) | (exact absurd trivial hc) | skip))))
     | (refine gSC ?_
        first
        | refine sc_seq ?_
        | refine sc_region ?_
        | (refine sc_cond rfl ?_ ?_ <;> intro hc <;> (first | (exact absurd hc (by decide)) | ((try simp only [decide_eq_true_eq, decide_eq_false_iff_not, Bool.not_eq_true', Bool.not_eq_false', Bool.not_true, Bool.not_false, ne_eq, Decidable.not_not] at hc) <;> first | (exfalso; omega) | (exact absurd trivial hc) | skip)))
        | refine sc_block ?_
        | refine sc_ret ?_
        | refine sc_exit ?_
        | refine sc_skip ?_
        | refine sc_draw rfl mixed (by kernel_rfl) ?_)
     | (refine gSQ ?_
        first
        | refine sq_seq ?_
        | refine sq_blk ?_
        | refine sq_seq_ret ?_
        | refine sq_blk_ret ?_
        | refine sq_loop_ret ?_
        | refine sq_seq_exit ?_
        | refine sq_blk_hit ?_
        | refine sq_blk_miss rfl ?_
        | refine sq_loop_exit ?_
        | refine sq_ende (.inl rfl) rfl rfl ⟨_, (RVs.cons (RV.tmp rfl) (RVs.cons (RV.tmp rfl) (RVs.nil))), ?_⟩
        | refine sq_ende (.inr rfl) rfl rfl ⟨_, (RVs.cons (RV.tmp rfl) (RVs.cons (RV.tmp rfl) (RVs.nil))), ?_⟩)
     | refine j_nil ?_
     )
    (intro w' hS; refine ⟨?_, hS.below⟩; simp only [pack])
theorem yearDay_c (n : Int) (w : World) (h0 : -9223372036854775808 ≤ n) (h1 : n ≤ 9223372036854775807) :
    Calls Try.prog 91 #[.int .i64 n] w fun e w' => e = .returned (.bool (ydB n)) ∧ Below w.heap.size w w' := by
  by_cases hp : 0 < n
  · refine eng_start (n := 31) (args := [.int .i64 n]) tab tab_ok fns fns_ok [.tmp 2] Try.func91 rfl rfl rfl rfl ?_
    repeat' (first
     | (refine gJ ?_
        first
        | refine jmv rfl rfl rfl rfl rfl ?_
        | (refine gload rfl rfl ?_
           refine j_qe rfl rfl rfl ?_
           first
           | refine ⟨_, q_load_own rfl rfl rfl rfl (by (repeat (first | exact InL.here | apply InL.there))) (by first | rfl | assumption), ?_⟩
           | refine ⟨_, q_loadA_own rfl rfl rfl rfl (by (repeat (first | exact InL.here | apply InL.there))) (by rfl), ?_⟩
           | refine ⟨_, q_loadA_ext rfl rfl rfl rfl ⟨by assumption, (by first | exact id | assumption)⟩ (by rfl), ?_⟩
           | refine ⟨_, q_load_ext rfl rfl rfl rfl ⟨by assumption, (by first | exact id | assumption)⟩ (by first | rfl | assumption), ?_⟩
           | refine ⟨_, q_load_extb rfl rfl rfl rfl ⟨by assumption, (by first | exact id | assumption)⟩ (by rfl), ?_⟩
           | refine ⟨_, q_loadA_extb rfl rfl rfl rfl ⟨by assumption, (by first | exact id | assumption)⟩ (by rfl), ?_⟩
           | refine ⟨_, q_load_ext0 rfl rfl rfl rfl ⟨by assumption, (by first | exact id | assumption)⟩ (by rfl), ?_⟩)
        | refine jfield rfl rfl rfl rfl rfl rfl rfl rfl ?_
        | refine jcmp rfl rfl rfl rfl rfl rfl rfl ?_
        | refine jar rfl rfl rfl rfl rfl rfl rfl (by omega) ?_
        | refine jextract rfl rfl rfl rfl rfl rfl ?_
        | (refine gcall rfl rfl ?_
           first
           | (refine j_qc (f := 42) rfl rfl rfl rfl rfl rfl rfl ?_; refine ⟨_, (fun w _ => aheadOf_c w), ?_⟩)
           | (refine j_qc (f := 43) rfl rfl rfl rfl rfl rfl rfl ?_; refine ⟨_, (fun w hs => monthDays_c _ _ _ w (by omega) (by omega) ((hs.ext (by (repeat (first | exact InL.here | apply InL.there))) : Ext w _ aheadL))), ?_⟩))
        | (refine gF ?_
           first
           | refine j_store rfl rfl rfl rfl rfl rfl rfl rfl (by (repeat (first | exact Upd.here | apply Upd.there))) (by rfl) ?_
           | (refine j_alloc rfl rfl rfl rfl rfl ?_; intro b)
           | (refine j_box rfl rfl rfl rfl rfl ?_; intro b)
           | (refine j_buildSlice rfl rfl rfl rfl rfl rfl rfl rfl rfl rfl rfl rfl ?_; intro b)
           | (refine j_append rfl rfl rfl rfl rfl rfl rfl rfl rfl rfl rfl (by (repeat (first | exact InL.here | apply InL.there))) (by (repeat (first | exact InL.here | apply InL.there))) (by rfl) (by rfl) (by omega) (fun _ => by (repeat (first | exact Upd.here | apply Upd.there))) ?_; intro v))
        | (refine j_qe rfl rfl rfl ?_
           first
           | refine ⟨_, q_pick_t rfl rfl rfl, ?_⟩
           | refine ⟨_, q_pick_f rfl rfl rfl, ?_⟩
           | refine ⟨_, q_not rfl rfl, ?_⟩
           | refine ⟨_, q_index_nat rfl rfl rfl rfl rfl (by omega), ?_⟩
           | refine ⟨_, q_index_slice rfl rfl rfl rfl rfl (by omega), ?_⟩
           | refine ⟨_, q_index_arr rfl rfl rfl rfl rfl (by omega), ?_⟩
           | refine ⟨_, q_index_arr_ext rfl rfl rfl rfl rfl (by omega), ?_⟩
           | refine ⟨_, q_len_slice rfl rfl rfl rfl, ?_⟩
           | refine ⟨_, q_makeFunc rfl rfl, ?_⟩
           | refine ⟨_, q_build_struct rfl rfl rfl rfl rfl, ?_⟩
           | refine ⟨_, q_build_arr rfl rfl rfl rfl rfl, ?_⟩
           | refine ⟨_, q_nilCheck rfl rfl, ?_⟩
           | refine ⟨_, q_field_ext rfl rfl rfl rfl rfl, ?_⟩
           | refine ⟨_, q_quo rfl rfl rfl (by omega), ?_⟩
           | refine ⟨_, q_rem rfl rfl rfl (by omega), ?_⟩
           | refine ⟨_, q_quot rfl rfl rfl (by omega), ?_⟩
           | refine ⟨_, q_remt rfl rfl rfl (by omega), ?_⟩
           | refine ⟨_, q_addu8 rfl rfl rfl (by omega), ?_⟩
           | refine ⟨_, q_quou8 rfl rfl rfl (by omega), ?_⟩
           | refine ⟨_, q_shr1 rfl rfl rfl, ?_⟩
           | refine ⟨_, q_shr rfl rfl rfl ⟨by omega, by decide⟩, ?_⟩
           | refine ⟨_, q_shr rfl rfl rfl ⟨by omega, by show Int.toNat _ ≤ (8:Nat); omega⟩, ?_⟩
           | refine ⟨_, q_and1 rfl rfl rfl (by first | assumption | omega), ?_⟩
           | refine ⟨_, q_conv rfl rfl rfl rfl rfl rfl (by first | rfl | (exact i64_wrap (by omega) (by omega)) | (exact u8_wrap (by omega) (by omega)) | (exact u64_wrap (by omega) (by omega)) | (exact u16_wrap (by omega) (by omega))), ?_⟩)
        | refine j_guard_undef rfl rfl rfl rfl rfl ?_
        | (refine j_guard rfl rfl rfl rfl rfl ?_ ?_ <;> intro hc <;> (first | (exact absurd hc (by decide)) | ((try simp only [decide_eq_true_eq, decide_eq_false_iff_not, Bool.not_eq_true', Bool.not_eq_false', Bool.not_true, Bool.not_false, ne_eq, Decidable.not_not] at hc) <;> first | (exfalso; omega) | (exact absurd trivial hc) | skip))))
     | (refine gSC ?_
        first
        | refine sc_seq ?_
        | refine sc_region ?_
        | (refine sc_cond rfl ?_ ?_ <;> intro hc <;> (first | (exact absurd hc (by decide)) | ((try simp only [decide_eq_true_eq, decide_eq_false_iff_not, Bool.not_eq_true', Bool.not_eq_false', Bool.not_true, Bool.not_false, ne_eq, Decidable.not_not] at hc) <;> first | (exfalso; omega) | (exact absurd trivial hc) | skip)))
        | refine sc_block ?_
        | refine sc_ret ?_
        | refine sc_exit ?_
        | refine sc_skip ?_
        | refine sc_draw rfl mixed (by kernel_rfl) ?_)
     | (refine gSQ ?_
        first
        | refine sq_seq ?_
        | refine sq_blk ?_
        | refine sq_seq_ret ?_
        | refine sq_blk_ret ?_
        | refine sq_loop_ret ?_
        | refine sq_seq_exit ?_
        | refine sq_blk_hit ?_
        | refine sq_blk_miss rfl ?_
        | refine sq_loop_exit ?_
        | refine sq_ende (.inl rfl) rfl rfl ⟨_, (RVs.cons (RV.tmp rfl) (RVs.nil)), ?_⟩
        | refine sq_ende (.inr rfl) rfl rfl ⟨_, (RVs.cons (RV.tmp rfl) (RVs.nil)), ?_⟩)
     | refine j_nil ?_
     )
    all_goals ((intro w' hS; refine ⟨?_, hS.below⟩; simp only [pack]); exact rb (by simp [ydB, *]))
  · refine eng_start (n := 31) (args := [.int .i64 n]) tab tab_ok fns fns_ok [.tmp 2] Try.func91 rfl rfl rfl rfl ?_
    repeat' (first
     | (refine gJ ?_
        first
        | refine jmv rfl rfl rfl rfl rfl ?_
        | (refine gload rfl rfl ?_
           refine j_qe rfl rfl rfl ?_
           first
           | refine ⟨_, q_load_own rfl rfl rfl rfl (by (repeat (first | exact InL.here | apply InL.there))) (by first | rfl | assumption), ?_⟩
           | refine ⟨_, q_loadA_own rfl rfl rfl rfl (by (repeat (first | exact InL.here | apply InL.there))) (by rfl), ?_⟩
           | refine ⟨_, q_loadA_ext rfl rfl rfl rfl ⟨by assumption, (by first | exact id | assumption)⟩ (by rfl), ?_⟩
           | refine ⟨_, q_load_ext rfl rfl rfl rfl ⟨by assumption, (by first | exact id | assumption)⟩ (by first | rfl | assumption), ?_⟩
           | refine ⟨_, q_load_extb rfl rfl rfl rfl ⟨by assumption, (by first | exact id | assumption)⟩ (by rfl), ?_⟩
           | refine ⟨_, q_loadA_extb rfl rfl rfl rfl ⟨by assumption, (by first | exact id | assumption)⟩ (by rfl), ?_⟩
           | refine ⟨_, q_load_ext0 rfl rfl rfl rfl ⟨by assumption, (by first | exact id | assumption)⟩ (by rfl), ?_⟩)
        | refine jfield rfl rfl rfl rfl rfl rfl rfl rfl ?_
        | refine jcmp rfl rfl rfl rfl rfl rfl rfl ?_
        | refine jar rfl rfl rfl rfl rfl rfl rfl (by omega) ?_
        | refine jextract rfl rfl rfl rfl rfl rfl ?_
        | (refine gcall rfl rfl ?_
           first
           | (refine j_qc (f := 42) rfl rfl rfl rfl rfl rfl rfl ?_; refine ⟨_, (fun w _ => aheadOf_c w), ?_⟩))
        | (refine gF ?_
           first
           | refine j_store rfl rfl rfl rfl rfl rfl rfl rfl (by (repeat (first | exact Upd.here | apply Upd.there))) (by rfl) ?_
           | (refine j_alloc rfl rfl rfl rfl rfl ?_; intro b)
           | (refine j_box rfl rfl rfl rfl rfl ?_; intro b)
           | (refine j_buildSlice rfl rfl rfl rfl rfl rfl rfl rfl rfl rfl rfl rfl ?_; intro b)
           | (refine j_append rfl rfl rfl rfl rfl rfl rfl rfl rfl rfl rfl (by (repeat (first | exact InL.here | apply InL.there))) (by (repeat (first | exact InL.here | apply InL.there))) (by rfl) (by rfl) (by omega) (fun _ => by (repeat (first | exact Upd.here | apply Upd.there))) ?_; intro v))
        | (refine j_qe rfl rfl rfl ?_
           first
           | refine ⟨_, q_pick_t rfl rfl rfl, ?_⟩
           | refine ⟨_, q_pick_f rfl rfl rfl, ?_⟩
           | refine ⟨_, q_not rfl rfl, ?_⟩
           | refine ⟨_, q_index_nat rfl rfl rfl rfl rfl (by omega), ?_⟩
           | refine ⟨_, q_index_slice rfl rfl rfl rfl rfl (by omega), ?_⟩
           | refine ⟨_, q_index_arr rfl rfl rfl rfl rfl (by omega), ?_⟩
           | refine ⟨_, q_index_arr_ext rfl rfl rfl rfl rfl (by omega), ?_⟩
           | refine ⟨_, q_len_slice rfl rfl rfl rfl, ?_⟩
           | refine ⟨_, q_makeFunc rfl rfl, ?_⟩
           | refine ⟨_, q_build_struct rfl rfl rfl rfl rfl, ?_⟩
           | refine ⟨_, q_build_arr rfl rfl rfl rfl rfl, ?_⟩
           | refine ⟨_, q_nilCheck rfl rfl, ?_⟩
           | refine ⟨_, q_field_ext rfl rfl rfl rfl rfl, ?_⟩
           | refine ⟨_, q_quo rfl rfl rfl (by omega), ?_⟩
           | refine ⟨_, q_rem rfl rfl rfl (by omega), ?_⟩
           | refine ⟨_, q_quot rfl rfl rfl (by omega), ?_⟩
           | refine ⟨_, q_remt rfl rfl rfl (by omega), ?_⟩
           | refine ⟨_, q_addu8 rfl rfl rfl (by omega), ?_⟩
           | refine ⟨_, q_quou8 rfl rfl rfl (by omega), ?_⟩
           | refine ⟨_, q_shr1 rfl rfl rfl, ?_⟩
           | refine ⟨_, q_shr rfl rfl rfl ⟨by omega, by decide⟩, ?_⟩
           | refine ⟨_, q_shr rfl rfl rfl ⟨by omega, by show Int.toNat _ ≤ (8:Nat); omega⟩, ?_⟩
           | refine ⟨_, q_and1 rfl rfl rfl (by first | assumption | omega), ?_⟩
           | refine ⟨_, q_conv rfl rfl rfl rfl rfl rfl (by first | rfl | (exact i64_wrap (by omega) (by omega)) | (exact u8_wrap (by omega) (by omega)) | (exact u64_wrap (by omega) (by omega)) | (exact u16_wrap (by omega) (by omega))), ?_⟩)
        | refine j_guard_undef rfl rfl rfl rfl rfl ?_
        | (refine j_guard rfl rfl rfl rfl rfl ?_ ?_ <;> intro hc <;> (first | (exact absurd hc (by decide)) | ((try simp only [decide_eq_true_eq, decide_eq_false_iff_not, Bool.not_eq_true', Bool.not_eq_false', Bool.not_true, Bool.not_false, ne_eq, Decidable.not_not] at hc) <;> first | (exfalso; omega) | (exact absurd trivial hc) | skip))))
     | (refine gSC ?_
        first
        | refine sc_seq ?_
        | refine sc_region ?_
        | (refine sc_cond rfl ?_ ?_ <;> intro hc <;> (first | (exact absurd hc (by decide)) | ((try simp only [decide_eq_true_eq, decide_eq_false_iff_not, Bool.not_eq_true', Bool.not_eq_false', Bool.not_true, Bool.not_false, ne_eq, Decidable.not_not] at hc) <;> first | (exfalso; omega) | (exact absurd trivial hc) | skip)))
        | refine sc_block ?_
        | refine sc_ret ?_
        | refine sc_exit ?_
        | refine sc_skip ?_
        | refine sc_draw rfl mixed (by kernel_rfl) ?_)
     | (refine gSQ ?_
        first
        | refine sq_seq ?_
        | refine sq_blk ?_
        | refine sq_seq_ret ?_
        | refine sq_blk_ret ?_
        | refine sq_loop_ret ?_
        | refine sq_seq_exit ?_
        | refine sq_blk_hit ?_
        | refine sq_blk_miss rfl ?_
        | refine sq_loop_exit ?_
        | refine sq_ende (.inl rfl) rfl rfl ⟨_, (RVs.cons (RV.tmp rfl) (RVs.nil)), ?_⟩
        | refine sq_ende (.inr rfl) rfl rfl ⟨_, (RVs.cons (RV.tmp rfl) (RVs.nil)), ?_⟩)
     | refine j_nil ?_
     )
    all_goals ((intro w' hS; refine ⟨?_, hS.below⟩; simp only [pack]); exact rb (by simp [ydB, *]))
theorem yearly_c (d a b : Int) (w : World) (a0 : -9223372036854775808 ≤ a) (a1 : a ≤ 9223372036854775807) (b0 : -9223372036854775808 ≤ b) (b1 : b ≤ 9223372036854775807) :
    Calls Try.prog 65 #[.int .i64 d, .int .i64 a, .int .i64 b] w fun e w' => e = .returned (.tuple #[.bool (decide (checkDayF d = 0) && (ydB a && (ydB b && yearlyB d a b))), .int .i64 (if checkDayF d = 0 then (if (ydB a && ydB b) then 0 else 10) else checkDayF d)]) ∧ Below w.heap.size w w' := by
  by_cases hck : checkDayF d = 0
  · have hb : 0 ≤ d ∧ d ≤ 730484 := by unfold checkDayF at hck; (repeat' split at hck) <;> omega
    obtain ⟨m1, m2, m3, m4⟩ := mth_day_bd d hb.1 hb.2
    have m5 := (md_bd (mthF d) (leapB (yrF d)) m1 m2).2
    refine eng_start (n := 54) (args := [.int .i64 d, .int .i64 a, .int .i64 b]) tab tab_ok fns fns_ok [.tmp 6, .tmp 7] Try.func65 rfl rfl rfl rfl ?_
    repeat' (first
     | (refine gJ ?_
        first
        | refine jmv rfl rfl rfl rfl rfl ?_
        | (refine gload rfl rfl ?_
           refine j_qe rfl rfl rfl ?_
           first
           | refine ⟨_, q_load_own rfl rfl rfl rfl (by (repeat (first | exact InL.here | apply InL.there))) (by first | rfl | assumption), ?_⟩
           | refine ⟨_, q_loadA_own rfl rfl rfl rfl (by (repeat (first | exact InL.here | apply InL.there))) (by rfl), ?_⟩
           | refine ⟨_, q_loadA_ext rfl rfl rfl rfl ⟨by assumption, (by first | exact id | assumption)⟩ (by rfl), ?_⟩
           | refine ⟨_, q_load_ext rfl rfl rfl rfl ⟨by assumption, (by first | exact id | assumption)⟩ (by first | rfl | assumption), ?_⟩
           | refine ⟨_, q_load_extb rfl rfl rfl rfl ⟨by assumption, (by first | exact id | assumption)⟩ (by rfl), ?_⟩
           | refine ⟨_, q_loadA_extb rfl rfl rfl rfl ⟨by assumption, (by first | exact id | assumption)⟩ (by rfl), ?_⟩
           | refine ⟨_, q_load_ext0 rfl rfl rfl rfl ⟨by assumption, (by first | exact id | assumption)⟩ (by rfl), ?_⟩)
        | refine jfield rfl rfl rfl rfl rfl rfl rfl rfl ?_
        | refine jcmp rfl rfl rfl rfl rfl rfl rfl ?_
        | refine jar rfl rfl rfl rfl rfl rfl rfl (by omega) ?_
        | refine jextract rfl rfl rfl rfl rfl rfl ?_
        | (refine gcall rfl rfl ?_
           first
           | (refine j_qc (f := 20) rfl rfl rfl rfl rfl rfl rfl ?_; refine ⟨_, (fun w _ => date_c d w hb.1 hb.2), ?_⟩)
           | (refine j_qc (f := 91) rfl rfl rfl rfl rfl rfl rfl ?_; refine ⟨_, (fun w _ => yearDay_c _ w (by omega) (by omega)), ?_⟩))
        | (refine gF ?_
           first
           | refine j_store rfl rfl rfl rfl rfl rfl rfl rfl (by (repeat (first | exact Upd.here | apply Upd.there))) (by rfl) ?_
           | (refine j_alloc rfl rfl rfl rfl rfl ?_; intro b)
           | (refine j_box rfl rfl rfl rfl rfl ?_; intro b)
           | (refine j_buildSlice rfl rfl rfl rfl rfl rfl rfl rfl rfl rfl rfl rfl ?_; intro b)
           | (refine j_append rfl rfl rfl rfl rfl rfl rfl rfl rfl rfl rfl (by (repeat (first | exact InL.here | apply InL.there))) (by (repeat (first | exact InL.here | apply InL.there))) (by rfl) (by rfl) (by omega) (fun _ => by (repeat (first | exact Upd.here | apply Upd.there))) ?_; intro v))
        | (refine j_qe rfl rfl rfl ?_
           first
           | refine ⟨_, q_pick_t rfl rfl rfl, ?_⟩
           | refine ⟨_, q_pick_f rfl rfl rfl, ?_⟩
           | refine ⟨_, q_not rfl rfl, ?_⟩
           | refine ⟨_, q_index_nat rfl rfl rfl rfl rfl (by omega), ?_⟩
           | refine ⟨_, q_index_slice rfl rfl rfl rfl rfl (by omega), ?_⟩
           | refine ⟨_, q_index_arr rfl rfl rfl rfl rfl (by omega), ?_⟩
           | refine ⟨_, q_index_arr_ext rfl rfl rfl rfl rfl (by omega), ?_⟩
           | refine ⟨_, q_len_slice rfl rfl rfl rfl, ?_⟩
           | refine ⟨_, q_makeFunc rfl rfl, ?_⟩
           | refine ⟨_, q_build_struct rfl rfl rfl rfl rfl, ?_⟩
           | refine ⟨_, q_build_arr rfl rfl rfl rfl rfl, ?_⟩
           | refine ⟨_, q_nilCheck rfl rfl, ?_⟩
           | refine ⟨_, q_field_ext rfl rfl rfl rfl rfl, ?_⟩
           | refine ⟨_, q_quo rfl rfl rfl (by omega), ?_⟩
           | refine ⟨_, q_rem rfl rfl rfl (by omega), ?_⟩
           | refine ⟨_, q_quot rfl rfl rfl (by omega), ?_⟩
           | refine ⟨_, q_remt rfl rfl rfl (by omega), ?_⟩
           | refine ⟨_, q_addu8 rfl rfl rfl (by omega), ?_⟩
           | refine ⟨_, q_quou8 rfl rfl rfl (by omega), ?_⟩
           | refine ⟨_, q_shr1 rfl rfl rfl, ?_⟩
           | refine ⟨_, q_shr rfl rfl rfl ⟨by omega, by decide⟩, ?_⟩
           | refine ⟨_, q_shr rfl rfl rfl ⟨by omega, by show Int.toNat _ ≤ (8:Nat); omega⟩, ?_⟩
           | refine ⟨_, q_and1 rfl rfl rfl (by first | assumption | omega), ?_⟩
           | refine ⟨_, q_conv rfl rfl rfl rfl rfl rfl (by first | rfl | (exact i64_wrap (by omega) (by omega)) | (exact u8_wrap (by omega) (by omega)) | (exact u64_wrap (by omega) (by omega)) | (exact u16_wrap (by omega) (by omega))), ?_⟩)
        | refine j_guard_undef rfl rfl rfl rfl rfl ?_
        | (refine j_guard rfl rfl rfl rfl rfl ?_ ?_ <;> intro hc <;> (first | (exact absurd hc (by decide)) | ((try simp only [decide_eq_true_eq, decide_eq_false_iff_not, Bool.not_eq_true', Bool.not_eq_false', Bool.not_true, Bool.not_false, ne_eq, Decidable.not_not] at hc) <;> first | (exfalso; omega) | (exact absurd trivial hc) | skip))))
     | (refine gSC ?_
        first
        | refine sc_seq ?_
        | refine sc_region ?_
        | (refine sc_cond rfl ?_ ?_ <;> intro hc <;> (first | (exact absurd hc (by decide)) | ((try simp only [decide_eq_true_eq, decide_eq_false_iff_not, Bool.not_eq_true', Bool.not_eq_false', Bool.not_true, Bool.not_false, ne_eq, Decidable.not_not] at hc) <;> first | (exfalso; omega) | (exact absurd trivial hc) | skip)))
        | refine sc_block ?_
        | refine sc_ret ?_
        | refine sc_exit ?_
        | refine sc_skip ?_
        | refine sc_draw rfl mixed (by kernel_rfl) ?_)
     | (refine gSQ ?_
        first
        | refine sq_seq ?_
        | refine sq_blk ?_
        | refine sq_seq_ret ?_
        | refine sq_blk_ret ?_
        | refine sq_loop_ret ?_
        | refine sq_seq_exit ?_
        | refine sq_blk_hit ?_
        | refine sq_blk_miss rfl ?_
        | refine sq_loop_exit ?_
        | refine sq_ende (.inl rfl) rfl rfl ⟨_, (RVs.cons (RV.tmp rfl) (RVs.cons (RV.tmp rfl) (RVs.nil))), ?_⟩
        | refine sq_ende (.inr rfl) rfl rfl ⟨_, (RVs.cons (RV.tmp rfl) (RVs.cons (RV.tmp rfl) (RVs.nil))), ?_⟩)
     | refine j_nil ?_
     )
    all_goals (intro w' hS; refine ⟨?_, hS.below⟩; simp only [pack])
    all_goals simp [yearlyB, *]
  · refine eng_start (n := 54) (args := [.int .i64 d, .int .i64 a, .int .i64 b]) tab tab_ok fns fns_ok [.tmp 6, .tmp 7] Try.func65 rfl rfl rfl rfl ?_
    repeat' (first
     | (refine gJ ?_
        first
        | refine jmv rfl rfl rfl rfl rfl ?_
        | (refine gload rfl rfl ?_
           refine j_qe rfl rfl rfl ?_
           first
           | refine ⟨_, q_load_own rfl rfl rfl rfl (by (repeat (first | exact InL.here | apply InL.there))) (by first | rfl | assumption), ?_⟩
           | refine ⟨_, q_loadA_own rfl rfl rfl rfl (by (repeat (first | exact InL.here | apply InL.there))) (by rfl), ?_⟩
           | refine ⟨_, q_loadA_ext rfl rfl rfl rfl ⟨by assumption, (by first | exact id | assumption)⟩ (by rfl), ?_⟩
           | refine ⟨_, q_load_ext rfl rfl rfl rfl ⟨by assumption, (by first | exact id | assumption)⟩ (by first | rfl | assumption), ?_⟩
           | refine ⟨_, q_load_extb rfl rfl rfl rfl ⟨by assumption, (by first | exact id | assumption)⟩ (by rfl), ?_⟩
           | refine ⟨_, q_loadA_extb rfl rfl rfl rfl ⟨by assumption, (by first | exact id | assumption)⟩ (by rfl), ?_⟩
           | refine ⟨_, q_load_ext0 rfl rfl rfl rfl ⟨by assumption, (by first | exact id | assumption)⟩ (by rfl), ?_⟩)
        | refine jfield rfl rfl rfl rfl rfl rfl rfl rfl ?_
        | refine jcmp rfl rfl rfl rfl rfl rfl rfl ?_
        | refine jar rfl rfl rfl rfl rfl rfl rfl (by omega) ?_
        | refine jextract rfl rfl rfl rfl rfl rfl ?_
        | (refine gcall rfl rfl ?_
           first
           | (refine j_qc (f := 20) rfl rfl rfl rfl rfl rfl rfl ?_; refine ⟨_, (fun w _ => dateNo_c d w hck), ?_⟩))
        | (refine gF ?_
           first
           | refine j_store rfl rfl rfl rfl rfl rfl rfl rfl (by (repeat (first | exact Upd.here | apply Upd.there))) (by rfl) ?_
           | (refine j_alloc rfl rfl rfl rfl rfl ?_; intro b)
           | (refine j_box rfl rfl rfl rfl rfl ?_; intro b)
           | (refine j_buildSlice rfl rfl rfl rfl rfl rfl rfl rfl rfl rfl rfl rfl ?_; intro b)
           | (refine j_append rfl rfl rfl rfl rfl rfl rfl rfl rfl rfl rfl (by (repeat (first | exact InL.here | apply InL.there))) (by (repeat (first | exact InL.here | apply InL.there))) (by rfl) (by rfl) (by omega) (fun _ => by (repeat (first | exact Upd.here | apply Upd.there))) ?_; intro v))
        | (refine j_qe rfl rfl rfl ?_
           first
           | refine ⟨_, q_pick_t rfl rfl rfl, ?_⟩
           | refine ⟨_, q_pick_f rfl rfl rfl, ?_⟩
           | refine ⟨_, q_not rfl rfl, ?_⟩
           | refine ⟨_, q_index_nat rfl rfl rfl rfl rfl (by omega), ?_⟩
           | refine ⟨_, q_index_slice rfl rfl rfl rfl rfl (by omega), ?_⟩
           | refine ⟨_, q_index_arr rfl rfl rfl rfl rfl (by omega), ?_⟩
           | refine ⟨_, q_index_arr_ext rfl rfl rfl rfl rfl (by omega), ?_⟩
           | refine ⟨_, q_len_slice rfl rfl rfl rfl, ?_⟩
           | refine ⟨_, q_makeFunc rfl rfl, ?_⟩
           | refine ⟨_, q_build_struct rfl rfl rfl rfl rfl, ?_⟩
           | refine ⟨_, q_build_arr rfl rfl rfl rfl rfl, ?_⟩
           | refine ⟨_, q_nilCheck rfl rfl, ?_⟩
           | refine ⟨_, q_field_ext rfl rfl rfl rfl rfl, ?_⟩
           | refine ⟨_, q_quo rfl rfl rfl (by omega), ?_⟩
           | refine ⟨_, q_rem rfl rfl rfl (by omega), ?_⟩
           | refine ⟨_, q_quot rfl rfl rfl (by omega), ?_⟩
           | refine ⟨_, q_remt rfl rfl rfl (by omega), ?_⟩
           | refine ⟨_, q_addu8 rfl rfl rfl (by omega), ?_⟩
           | refine ⟨_, q_quou8 rfl rfl rfl (by omega), ?_⟩
           | refine ⟨_, q_shr1 rfl rfl rfl, ?_⟩
           | refine ⟨_, q_shr rfl rfl rfl ⟨by omega, by decide⟩, ?_⟩
           | refine ⟨_, q_shr rfl rfl rfl ⟨by omega, by show Int.toNat _ ≤ (8:Nat); omega⟩, ?_⟩
           | refine ⟨_, q_and1 rfl rfl rfl (by first | assumption | omega), ?_⟩
           | refine ⟨_, q_conv rfl rfl rfl rfl rfl rfl (by first | rfl | (exact i64_wrap (by omega) (by omega)) | (exact u8_wrap (by omega) (by omega)) | (exact u64_wrap (by omega) (by omega)) | (exact u16_wrap (by omega) (by omega))), ?_⟩)
        | refine j_guard_undef rfl rfl rfl rfl rfl ?_
        | (refine j_guard rfl rfl rfl rfl rfl ?_ ?_ <;> intro hc <;> (first | (exact absurd hc (by decide)) | ((try simp only [decide_eq_true_eq, decide_eq_false_iff_not, Bool.not_eq_true', Bool.not_eq_false', Bool.not_true, Bool.not_false, ne_eq, Decidable.not_not] at hc) <;> first | (exfalso; omega) | (exact absurd trivial hc) | skip))))
     | (refine gSC ?_
        first
        | refine sc_seq ?_
        | refine sc_region ?_
        | (refine sc_cond rfl ?_ ?_ <;> intro hc <;> (first | (exact absurd hc (by decide)) | ((try simp only [decide_eq_true_eq, decide_eq_false_iff_not, Bool.not_eq_true', Bool.not_eq_false', Bool.not_true, Bool.not_false, ne_eq, Decidable.not_not] at hc) <;> first | (exfalso; omega) | (exact absurd trivial hc) | skip)))
        | refine sc_block ?_
        | refine sc_ret ?_
        | refine sc_exit ?_
        | refine sc_skip ?_
        | refine sc_draw rfl mixed (by kernel_rfl) ?_)
     | (refine gSQ ?_
        first
        | refine sq_seq ?_
        | refine sq_blk ?_
        | refine sq_seq_ret ?_
        | refine sq_blk_ret ?_
        | refine sq_loop_ret ?_
        | refine sq_seq_exit ?_
        | refine sq_blk_hit ?_
        | refine sq_blk_miss rfl ?_
        | refine sq_loop_exit ?_
        | refine sq_ende (.inl rfl) rfl rfl ⟨_, (RVs.cons (RV.tmp rfl) (RVs.cons (RV.tmp rfl) (RVs.nil))), ?_⟩
        | refine sq_ende (.inr rfl) rfl rfl ⟨_, (RVs.cons (RV.tmp rfl) (RVs.cons (RV.tmp rfl) (RVs.nil))), ?_⟩)
     | refine j_nil ?_
     )
    all_goals ((intro w' hS; refine ⟨?_, hS.below⟩; simp only [pack]); simp [hck])
abbrev intC (x : Int) : List Value := [.int .i64 x]
theorem drop_cons {α : Type} {l : List α} {k : Nat} {x : α} (h : l[k]? = some x) : l.drop k = x :: l.drop (k + 1) := by
  obtain ⟨hlt, hx⟩ := List.getElem?_eq_some_iff.1 h
  rw [List.drop_eq_getElem_cons hlt, hx]
theorem right_c (A : Option Addr) (c : Nat) (l : List Int) (w : World) (hl : l.length ≤ 9223372036854775807) (h : RS w 1 intC A l) :
    Calls Try.prog 58 #[.slice A l.length c] w fun e w' => e = .returned (.bool (rightB l)) ∧ Below w.heap.size w w' := by
  generalize hn : l.length = n at *
  refine eng_start (n := 24) (args := [.slice A n c]) tab tab_ok fns fns_ok [.tmp 2] Try.func58 rfl rfl rfl rfl ?_
  repeat' (first
   | (refine gJ ?_
      first
      | refine jmv rfl rfl rfl rfl rfl ?_
      | (refine gload rfl rfl ?_
         refine j_qe rfl rfl rfl ?_
         first
         | refine ⟨_, q_load_own rfl rfl rfl rfl (by (repeat (first | exact InL.here | apply InL.there))) (by first | rfl | assumption), ?_⟩
         | refine ⟨_, q_loadA_own rfl rfl rfl rfl (by (repeat (first | exact InL.here | apply InL.there))) (by rfl), ?_⟩
         | refine ⟨_, q_loadA_ext rfl rfl rfl rfl ⟨by assumption, (by first | exact id | assumption)⟩ (by rfl), ?_⟩
         | refine ⟨_, q_load_ext rfl rfl rfl rfl ⟨by assumption, (by first | exact id | assumption)⟩ (by first | rfl | assumption), ?_⟩
         | refine ⟨_, q_load_extb rfl rfl rfl rfl ⟨by assumption, (by first | exact id | assumption)⟩ (by rfl), ?_⟩
         | refine ⟨_, q_loadA_extb rfl rfl rfl rfl ⟨by assumption, (by first | exact id | assumption)⟩ (by rfl), ?_⟩
         | refine ⟨_, q_load_ext0 rfl rfl rfl rfl ⟨by assumption, (by first | exact id | assumption)⟩ (by rfl), ?_⟩)
      | refine jfield rfl rfl rfl rfl rfl rfl rfl rfl ?_
      | refine jcmp rfl rfl rfl rfl rfl rfl rfl ?_
      | refine jar rfl rfl rfl rfl rfl rfl rfl (by omega) ?_
      | refine jextract rfl rfl rfl rfl rfl rfl ?_
      | (refine gF ?_
         first
         | refine j_store rfl rfl rfl rfl rfl rfl rfl rfl (by (repeat (first | exact Upd.here | apply Upd.there))) (by rfl) ?_
         | (refine j_alloc rfl rfl rfl rfl rfl ?_; intro b)
         | (refine j_box rfl rfl rfl rfl rfl ?_; intro b)
         | (refine j_buildSlice rfl rfl rfl rfl rfl rfl rfl rfl rfl rfl rfl rfl ?_; intro b)
         | (refine j_append rfl rfl rfl rfl rfl rfl rfl rfl rfl rfl rfl (by (repeat (first | exact InL.here | apply InL.there))) (by (repeat (first | exact InL.here | apply InL.there))) (by rfl) (by rfl) (by omega) (fun _ => by (repeat (first | exact Upd.here | apply Upd.there))) ?_; intro v))
      | (refine j_qe rfl rfl rfl ?_
         first
         | refine ⟨_, q_pick_t rfl rfl rfl, ?_⟩
         | refine ⟨_, q_pick_f rfl rfl rfl, ?_⟩
         | refine ⟨_, q_not rfl rfl, ?_⟩
         | refine ⟨_, q_index_nat rfl rfl rfl rfl rfl (by omega), ?_⟩
         | refine ⟨_, q_index_slice rfl rfl rfl rfl rfl (by omega), ?_⟩
         | refine ⟨_, q_index_arr rfl rfl rfl rfl rfl (by omega), ?_⟩
         | refine ⟨_, q_index_arr_ext rfl rfl rfl rfl rfl (by omega), ?_⟩
         | refine ⟨_, q_len_slice rfl rfl rfl rfl, ?_⟩
         | refine ⟨_, q_makeFunc rfl rfl, ?_⟩
         | refine ⟨_, q_build_struct rfl rfl rfl rfl rfl, ?_⟩
         | refine ⟨_, q_build_arr rfl rfl rfl rfl rfl, ?_⟩
         | refine ⟨_, q_nilCheck rfl rfl, ?_⟩
         | refine ⟨_, q_field_ext rfl rfl rfl rfl rfl, ?_⟩
         | refine ⟨_, q_quo rfl rfl rfl (by omega), ?_⟩
         | refine ⟨_, q_rem rfl rfl rfl (by omega), ?_⟩
         | refine ⟨_, q_quot rfl rfl rfl (by omega), ?_⟩
         | refine ⟨_, q_remt rfl rfl rfl (by omega), ?_⟩
         | refine ⟨_, q_addu8 rfl rfl rfl (by omega), ?_⟩
         | refine ⟨_, q_quou8 rfl rfl rfl (by omega), ?_⟩
         | refine ⟨_, q_shr1 rfl rfl rfl, ?_⟩
         | refine ⟨_, q_shr rfl rfl rfl ⟨by omega, by decide⟩, ?_⟩
         | refine ⟨_, q_shr rfl rfl rfl ⟨by omega, by show Int.toNat _ ≤ (8:Nat); omega⟩, ?_⟩
         | refine ⟨_, q_and1 rfl rfl rfl (by first | assumption | omega), ?_⟩
         | refine ⟨_, q_conv rfl rfl rfl rfl rfl rfl (by first | rfl | (exact i64_wrap (by omega) (by omega)) | (exact u8_wrap (by omega) (by omega)) | (exact u64_wrap (by omega) (by omega)) | (exact u16_wrap (by omega) (by omega))), ?_⟩)
      | refine j_guard_undef rfl rfl rfl rfl rfl ?_
      | (refine j_guard rfl rfl rfl rfl rfl ?_ ?_ <;> intro hc <;> (first | (exact absurd hc (by decide)) | ((try simp only [decide_eq_true_eq, decide_eq_false_iff_not, Bool.not_eq_true', Bool.not_eq_false', Bool.not_true, Bool.not_false, ne_eq, Decidable.not_not] at hc) <;> first | (exfalso; omega) | (exact absurd trivial hc) | skip))))
   | (refine gSC ?_
      first
      | refine sc_seq ?_
      | refine sc_region ?_
      | (refine sc_cond rfl ?_ ?_ <;> intro hc <;> (first | (exact absurd hc (by decide)) | ((try simp only [decide_eq_true_eq, decide_eq_false_iff_not, Bool.not_eq_true', Bool.not_eq_false', Bool.not_true, Bool.not_false, ne_eq, Decidable.not_not] at hc) <;> first | (exfalso; omega) | (exact absurd trivial hc) | skip)))
      | refine sc_block ?_
      | refine sc_ret ?_
      | refine sc_exit ?_
      | refine sc_skip ?_
      | refine sc_draw rfl mixed (by kernel_rfl) ?_)
   | (refine gSQ ?_
      first
      | refine sq_seq ?_
      | refine sq_blk ?_
      | refine sq_seq_ret ?_
      | refine sq_blk_ret ?_
      | refine sq_loop_ret ?_
      | refine sq_seq_exit ?_
      | refine sq_blk_hit ?_
      | refine sq_blk_miss rfl ?_
      | refine sq_loop_exit ?_
      | refine sq_ende (.inl rfl) rfl rfl ⟨_, (RVs.cons (RV.tmp rfl) (RVs.nil)), ?_⟩
      | refine sq_ende (.inr rfl) rfl rfl ⟨_, (RVs.cons (RV.tmp rfl) (RVs.nil)), ?_⟩)
   | refine j_nil ?_
   )
  · (intro w' hS; refine ⟨?_, hS.below⟩; simp only [pack]); exact rb (by simp [rightB, hn]; omega)
  · refine sc_loop (ι := Nat × Int) (fun p => p.1 ≤ n ∧ rightB l = rightFrom p.2 (l.drop p.1)) (fun p => n - p.1) (fun p => [(3, .int .i64 p.2), (9, .slice A n c), (10, .int .i64 n), (11, .int .i64 p.1)]) (fun _ => []) (0, -1) ⟨by simp, by simp [rightB, hn]; omega⟩ (by repeat (first | exact FSub.nil | refine FSub.cons rfl ?_ | refine FSub.conse rfl (by congr 1; omega) ?_)) (by repeat (first | exact LSub.nil | refine LSub.cons (by repeat (first | exact Rem.here | apply Rem.there)) ?_)) ?_
    intro ⟨k, last⟩ ⟨hk, hr⟩
    by_cases hlt : k < n
    · obtain ⟨x, hx⟩ : ∃ x, l[k]? = some x := ⟨_, List.getElem?_eq_getElem (by omega)⟩
      obtain ⟨ad, rfl, hE⟩ := h k x hx
      have hd := drop_cons hx
      simp only at hr
      rw [hd] at hr
      repeat' (first
       | (refine gJ ?_
          first
          | refine jmv rfl rfl rfl rfl rfl ?_
          | (refine gload rfl rfl ?_
             refine j_qe rfl rfl rfl ?_
             first
             | refine ⟨_, q_load_own rfl rfl rfl rfl (by (repeat (first | exact InL.here | apply InL.there))) (by first | rfl | assumption), ?_⟩
             | refine ⟨_, q_loadA_own rfl rfl rfl rfl (by (repeat (first | exact InL.here | apply InL.there))) (by rfl), ?_⟩
             | refine ⟨_, q_loadA_ext rfl rfl rfl rfl ⟨by assumption, (by first | exact id | assumption)⟩ (by rfl), ?_⟩
             | refine ⟨_, q_load_ext rfl rfl rfl rfl ⟨by assumption, (by first | exact id | assumption)⟩ (by first | rfl | assumption), ?_⟩
             | refine ⟨_, q_load_extb rfl rfl rfl rfl ⟨by assumption, (by first | exact id | assumption)⟩ (by rfl), ?_⟩
             | refine ⟨_, q_loadA_extb rfl rfl rfl rfl ⟨by assumption, (by first | exact id | assumption)⟩ (by rfl), ?_⟩
             | refine ⟨_, q_load_ext0 rfl rfl rfl rfl ⟨by assumption, (by first | exact id | assumption)⟩ (by rfl), ?_⟩)
          | refine jfield rfl rfl rfl rfl rfl rfl rfl rfl ?_
          | refine jcmp rfl rfl rfl rfl rfl rfl rfl ?_
          | refine jar rfl rfl rfl rfl rfl rfl rfl (by omega) ?_
          | refine jextract rfl rfl rfl rfl rfl rfl ?_
          | (refine gF ?_
             first
             | refine j_store rfl rfl rfl rfl rfl rfl rfl rfl (by (repeat (first | exact Upd.here | apply Upd.there))) (by rfl) ?_
             | (refine j_alloc rfl rfl rfl rfl rfl ?_; intro b)
             | (refine j_box rfl rfl rfl rfl rfl ?_; intro b)
             | (refine j_buildSlice rfl rfl rfl rfl rfl rfl rfl rfl rfl rfl rfl rfl ?_; intro b)
             | (refine j_append rfl rfl rfl rfl rfl rfl rfl rfl rfl rfl rfl (by (repeat (first | exact InL.here | apply InL.there))) (by (repeat (first | exact InL.here | apply InL.there))) (by rfl) (by rfl) (by omega) (fun _ => by (repeat (first | exact Upd.here | apply Upd.there))) ?_; intro v))
          | (refine j_qe rfl rfl rfl ?_
             first
             | refine ⟨_, q_pick_t rfl rfl rfl, ?_⟩
             | refine ⟨_, q_pick_f rfl rfl rfl, ?_⟩
             | refine ⟨_, q_not rfl rfl, ?_⟩
             | refine ⟨_, q_index_nat rfl rfl rfl rfl rfl (by omega), ?_⟩
             | refine ⟨_, q_index_slice rfl rfl rfl rfl rfl (by omega), ?_⟩
             | refine ⟨_, q_index_arr rfl rfl rfl rfl rfl (by omega), ?_⟩
             | refine ⟨_, q_index_arr_ext rfl rfl rfl rfl rfl (by omega), ?_⟩
             | refine ⟨_, q_len_slice rfl rfl rfl rfl, ?_⟩
             | refine ⟨_, q_makeFunc rfl rfl, ?_⟩
             | refine ⟨_, q_build_struct rfl rfl rfl rfl rfl, ?_⟩
             | refine ⟨_, q_build_arr rfl rfl rfl rfl rfl, ?_⟩
             | refine ⟨_, q_nilCheck rfl rfl, ?_⟩
             | refine ⟨_, q_field_ext rfl rfl rfl rfl rfl, ?_⟩
             | refine ⟨_, q_quo rfl rfl rfl (by omega), ?_⟩
             | refine ⟨_, q_rem rfl rfl rfl (by omega), ?_⟩
             | refine ⟨_, q_quot rfl rfl rfl (by omega), ?_⟩
             | refine ⟨_, q_remt rfl rfl rfl (by omega), ?_⟩
             | refine ⟨_, q_addu8 rfl rfl rfl (by omega), ?_⟩
             | refine ⟨_, q_quou8 rfl rfl rfl (by omega), ?_⟩
             | refine ⟨_, q_shr1 rfl rfl rfl, ?_⟩
             | refine ⟨_, q_shr rfl rfl rfl ⟨by omega, by decide⟩, ?_⟩
             | refine ⟨_, q_shr rfl rfl rfl ⟨by omega, by show Int.toNat _ ≤ (8:Nat); omega⟩, ?_⟩
             | refine ⟨_, q_and1 rfl rfl rfl (by first | assumption | omega), ?_⟩
             | refine ⟨_, q_conv rfl rfl rfl rfl rfl rfl (by first | rfl | (exact i64_wrap (by omega) (by omega)) | (exact u8_wrap (by omega) (by omega)) | (exact u64_wrap (by omega) (by omega)) | (exact u16_wrap (by omega) (by omega))), ?_⟩)
          | refine j_guard_undef rfl rfl rfl rfl rfl ?_
          | (refine j_guard rfl rfl rfl rfl rfl ?_ ?_ <;> intro hc <;> (first | (exact absurd hc (by decide)) | ((try simp only [decide_eq_true_eq, decide_eq_false_iff_not, Bool.not_eq_true', Bool.not_eq_false', Bool.not_true, Bool.not_false, ne_eq, Decidable.not_not] at hc) <;> first | (exfalso; omega) | (exact absurd trivial hc) | skip))))
       | (refine gSC ?_
          first
          | refine sc_seq ?_
          | refine sc_region ?_
          | (refine sc_cond rfl ?_ ?_ <;> intro hc <;> (first | (exact absurd hc (by decide)) | ((try simp only [decide_eq_true_eq, decide_eq_false_iff_not, Bool.not_eq_true', Bool.not_eq_false', Bool.not_true, Bool.not_false, ne_eq, Decidable.not_not] at hc) <;> first | (exfalso; omega) | (exact absurd trivial hc) | skip)))
          | refine sc_block ?_
          | refine sc_ret ?_
          | refine sc_exit ?_
          | refine sc_skip ?_
          | refine sc_draw rfl mixed (by kernel_rfl) ?_)
       | (refine gSQ ?_
          first
          | refine sq_seq ?_
          | refine sq_blk ?_
          | refine sq_seq_ret ?_
          | refine sq_blk_ret ?_
          | refine sq_loop_ret ?_
          | refine sq_seq_exit ?_
          | refine sq_blk_hit ?_
          | refine sq_blk_miss rfl ?_
          | refine sq_loop_exit ?_
          | refine sq_ende (.inl rfl) rfl rfl ⟨_, (RVs.cons (RV.tmp rfl) (RVs.nil)), ?_⟩
          | refine sq_ende (.inr rfl) rfl rfl ⟨_, (RVs.cons (RV.tmp rfl) (RVs.nil)), ?_⟩)
       | refine j_nil ?_
       )
      all_goals first
        | (refine sq_loop (k + 1, x) ⟨?_, ?_⟩ ?_ (by repeat (first | exact FSub.nil | refine FSub.cons rfl ?_ | refine FSub.conse rfl (by congr 1; omega) ?_)) (by repeat (first | exact LSub.nil | refine LSub.cons (by repeat (first | exact Rem.here | apply Rem.there)) ?_))
           · show k + 1 ≤ n; omega
           · rw [hr]
             have h1 : last < x := by omega
             have h2 : x ≤ 730484 := by omega
             simp [rightFrom, h1, h2]
           · show n - (k + 1) < n - k; omega)
        | ((intro w' hS; refine ⟨?_, hS.below⟩; simp only [pack]); refine rb ?_; rw [hr]; simp only [rightFrom]; simp; omega)
    · repeat' (first
       | (refine gJ ?_
          first
          | refine jmv rfl rfl rfl rfl rfl ?_
          | (refine gload rfl rfl ?_
             refine j_qe rfl rfl rfl ?_
             first
             | refine ⟨_, q_load_own rfl rfl rfl rfl (by (repeat (first | exact InL.here | apply InL.there))) (by first | rfl | assumption), ?_⟩
             | refine ⟨_, q_loadA_own rfl rfl rfl rfl (by (repeat (first | exact InL.here | apply InL.there))) (by rfl), ?_⟩
             | refine ⟨_, q_loadA_ext rfl rfl rfl rfl ⟨by assumption, (by first | exact id | assumption)⟩ (by rfl), ?_⟩
             | refine ⟨_, q_load_ext rfl rfl rfl rfl ⟨by assumption, (by first | exact id | assumption)⟩ (by first | rfl | assumption), ?_⟩
             | refine ⟨_, q_load_extb rfl rfl rfl rfl ⟨by assumption, (by first | exact id | assumption)⟩ (by rfl), ?_⟩
             | refine ⟨_, q_loadA_extb rfl rfl rfl rfl ⟨by assumption, (by first | exact id | assumption)⟩ (by rfl), ?_⟩
             | refine ⟨_, q_load_ext0 rfl rfl rfl rfl ⟨by assumption, (by first | exact id | assumption)⟩ (by rfl), ?_⟩)
          | refine jfield rfl rfl rfl rfl rfl rfl rfl rfl ?_
          | refine jcmp rfl rfl rfl rfl rfl rfl rfl ?_
          | refine jar rfl rfl rfl rfl rfl rfl rfl (by omega) ?_
          | refine jextract rfl rfl rfl rfl rfl rfl ?_
          | (refine gF ?_
             first
             | refine j_store rfl rfl rfl rfl rfl rfl rfl rfl (by (repeat (first | exact Upd.here | apply Upd.there))) (by rfl) ?_
             | (refine j_alloc rfl rfl rfl rfl rfl ?_; intro b)
             | (refine j_box rfl rfl rfl rfl rfl ?_; intro b)
             | (refine j_buildSlice rfl rfl rfl rfl rfl rfl rfl rfl rfl rfl rfl rfl ?_; intro b)
             | (refine j_append rfl rfl rfl rfl rfl rfl rfl rfl rfl rfl rfl (by (repeat (first | exact InL.here | apply InL.there))) (by (repeat (first | exact InL.here | apply InL.there))) (by rfl) (by rfl) (by omega) (fun _ => by (repeat (first | exact Upd.here | apply Upd.there))) ?_; intro v))
          | (refine j_qe rfl rfl rfl ?_
             first
             | refine ⟨_, q_pick_t rfl rfl rfl, ?_⟩
             | refine ⟨_, q_pick_f rfl rfl rfl, ?_⟩
             | refine ⟨_, q_not rfl rfl, ?_⟩
             | refine ⟨_, q_index_nat rfl rfl rfl rfl rfl (by omega), ?_⟩
             | refine ⟨_, q_index_slice rfl rfl rfl rfl rfl (by omega), ?_⟩
             | refine ⟨_, q_index_arr rfl rfl rfl rfl rfl (by omega), ?_⟩
             | refine ⟨_, q_index_arr_ext rfl rfl rfl rfl rfl (by omega), ?_⟩
             | refine ⟨_, q_len_slice rfl rfl rfl rfl, ?_⟩
             | refine ⟨_, q_makeFunc rfl rfl, ?_⟩
             | refine ⟨_, q_build_struct rfl rfl rfl rfl rfl, ?_⟩
             | refine ⟨_, q_build_arr rfl rfl rfl rfl rfl, ?_⟩
             | refine ⟨_, q_nilCheck rfl rfl, ?_⟩
             | refine ⟨_, q_field_ext rfl rfl rfl rfl rfl, ?_⟩
             | refine ⟨_, q_quo rfl rfl rfl (by omega), ?_⟩
             | refine ⟨_, q_rem rfl rfl rfl (by omega), ?_⟩
             | refine ⟨_, q_quot rfl rfl rfl (by omega), ?_⟩
             | refine ⟨_, q_remt rfl rfl rfl (by omega), ?_⟩
             | refine ⟨_, q_addu8 rfl rfl rfl (by omega), ?_⟩
             | refine ⟨_, q_quou8 rfl rfl rfl (by omega), ?_⟩
             | refine ⟨_, q_shr1 rfl rfl rfl, ?_⟩
             | refine ⟨_, q_shr rfl rfl rfl ⟨by omega, by decide⟩, ?_⟩
             | refine ⟨_, q_shr rfl rfl rfl ⟨by omega, by show Int.toNat _ ≤ (8:Nat); omega⟩, ?_⟩
             | refine ⟨_, q_and1 rfl rfl rfl (by first | assumption | omega), ?_⟩
             | refine ⟨_, q_conv rfl rfl rfl rfl rfl rfl (by first | rfl | (exact i64_wrap (by omega) (by omega)) | (exact u8_wrap (by omega) (by omega)) | (exact u64_wrap (by omega) (by omega)) | (exact u16_wrap (by omega) (by omega))), ?_⟩)
          | refine j_guard_undef rfl rfl rfl rfl rfl ?_
          | (refine j_guard rfl rfl rfl rfl rfl ?_ ?_ <;> intro hc <;> (first | (exact absurd hc (by decide)) | ((try simp only [decide_eq_true_eq, decide_eq_false_iff_not, Bool.not_eq_true', Bool.not_eq_false', Bool.not_true, Bool.not_false, ne_eq, Decidable.not_not] at hc) <;> first | (exfalso; omega) | (exact absurd trivial hc) | skip))))
       | (refine gSC ?_
          first
          | refine sc_seq ?_
          | refine sc_region ?_
          | (refine sc_cond rfl ?_ ?_ <;> intro hc <;> (first | (exact absurd hc (by decide)) | ((try simp only [decide_eq_true_eq, decide_eq_false_iff_not, Bool.not_eq_true', Bool.not_eq_false', Bool.not_true, Bool.not_false, ne_eq, Decidable.not_not] at hc) <;> first | (exfalso; omega) | (exact absurd trivial hc) | skip)))
          | refine sc_block ?_
          | refine sc_ret ?_
          | refine sc_exit ?_
          | refine sc_skip ?_
          | refine sc_draw rfl mixed (by kernel_rfl) ?_)
       | (refine gSQ ?_
          first
          | refine sq_seq ?_
          | refine sq_blk ?_
          | refine sq_seq_ret ?_
          | refine sq_blk_ret ?_
          | refine sq_loop_ret ?_
          | refine sq_seq_exit ?_
          | refine sq_blk_hit ?_
          | refine sq_blk_miss rfl ?_
          | refine sq_loop_exit ?_
          | refine sq_ende (.inl rfl) rfl rfl ⟨_, (RVs.cons (RV.tmp rfl) (RVs.nil)), ?_⟩
          | refine sq_ende (.inr rfl) rfl rfl ⟨_, (RVs.cons (RV.tmp rfl) (RVs.nil)), ?_⟩)
       | refine j_nil ?_
       )
      (intro w' hS; refine ⟨?_, hS.below⟩; simp only [pack])
      exact rb (by rw [hr, List.drop_of_length_le (by simp; omega)]; rfl)
end Go.Proofs.Ytbejfbekamikpaa
