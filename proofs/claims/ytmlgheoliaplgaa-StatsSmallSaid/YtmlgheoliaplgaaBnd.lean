/-
  StatsBounds.
-/
import Derived.Test.YtmlgheoliaplgaaRf6
import Derived.Test.YtmlgheoliaplgaaAw
namespace Go.Proofs.Ytmlgheoliaplgaa
open Go.RowKit Eng
set_option linter.unusedVariables false
set_option linter.unusedSimpArgs false
attribute [local irreducible] SC SQ J Qt Calls Iterates
set_option exponentiation.threshold 600
set_option maxRecDepth 4000 in
set_option maxHeartbeats 8000000 in
theorem sbounds_c (n k x : Int) (w : World) :
    Calls Try.prog 16 #[.int .i64 n, .int .i64 k, .int .i64 x] w fun e w' => e = .returned (.bool true) ∧ Below w.heap.size w w' := by
  by_cases hbig : 40 < n ∧ n ≤ 500
  · refine eng_start (n := 67) (args := [.int .i64 n, .int .i64 k, .int .i64 x]) tab tab_ok fns fns_ok [.tmp 6] Try.func16 rfl rfl rfl rfl ?_
    repeat' (first
     | (refine gJ ?_
        first
        | refine jmv rfl rfl rfl rfl rfl ?_
        | refine jcmp rfl rfl rfl rfl rfl rfl rfl ?_
        | refine jextract rfl rfl rfl rfl rfl rfl ?_
        | (refine j_qe rfl rfl rfl ?_
           first
           | refine ⟨_, q_pick_t rfl rfl rfl, ?_⟩
           | refine ⟨_, q_pick_f rfl rfl rfl, ?_⟩)
        | refine j_guard_undef rfl rfl rfl rfl rfl ?_
        | (refine j_guard rfl rfl rfl rfl rfl ?_ ?_ <;> intro hc <;> (first | (exact absurd hc (by decide)) | ((try simp only [decide_eq_true_eq, decide_eq_false_iff_not, Bool.not_eq_true', Bool.not_eq_false', Bool.not_true, Bool.not_false, ne_eq, Decidable.not_not] at hc) <;> first | (exfalso; omega) | (exact absurd trivial hc) | skip))))
     | (refine gSC ?_
        first
        | refine sc_seq ?_
        | refine sc_region ?_
        | (refine sc_cond rfl ?_ ?_ <;> intro hc <;> (first | (exact absurd hc (by decide)) | ((try simp only [decide_eq_true_eq, decide_eq_false_iff_not, Bool.not_eq_true', Bool.not_eq_false', Bool.not_true, Bool.not_false, ne_eq, Decidable.not_not] at hc) <;> first | (exfalso; omega) | (exact absurd trivial hc) | skip)))
        | refine sc_block ?_
        | refine sc_ret ?_
        | refine sc_exit ?_
        | refine sc_skip ?_)
     | (refine gSQ ?_
        first
        | refine sq_seq ?_
        | refine sq_blk ?_
        | refine sq_seq_ret ?_
        | refine sq_blk_ret ?_
        | refine sq_loop_ret ?_
        | refine sq_seq_exit ?_
        | refine sq_blk_hit ?_
        | refine sq_blk_miss rfl ?_
        | refine sq_loop_exit ?_
        | refine sq_ende (.inl rfl) rfl rfl ⟨_, (RVs.cons (RV.tmp rfl) (RVs.nil)), ?_⟩
        | refine sq_ende (.inr rfl) rfl rfl ⟨_, (RVs.cons (RV.tmp rfl) (RVs.nil)), ?_⟩)
     | refine j_nil ?_
     )
    (intro w' hS; refine ⟨?_, hS.below⟩; simp only [pack])
  by_cases hB : checkF n k x 1 2000 = 0
  · obtain ⟨⟨a1, a2, a3⟩, b1, b2⟩ := check_none hB
    obtain ⟨m, rfl⟩ : ∃ m : Nat, n = m := ⟨n.toNat, by omega⟩
    obtain ⟨j, rfl⟩ : ∃ j : Nat, k = j := ⟨k.toNat, by omega⟩
    obtain ⟨p, rfl⟩ : ∃ p : Nat, x = p := ⟨x.toNat, by omega⟩
    have p1 := fun w' => least_c m j p w' (by omega) (by omega) (by omega)
    have q1 := fun w' => least_r m j p w' (by omega) (by omega) (by omega)
    have p2 := fun w' => greatest_c m j p w' (by omega) (by omega) (by omega)
    have q2 := fun w' => greatest_r m j p w' (by omega) (by omega) (by omega)
    clear hB
    generalize lowF m j p = X1 at *
    generalize (10000 : Int) - (lowF m (m - j) p : Nat) = X2 at *
    refine eng_start (n := 67) (args := [.int .i64 m, .int .i64 j, .int .i64 p]) tab tab_ok fns fns_ok [.tmp 6] Try.func16 rfl rfl rfl rfl ?_
    repeat' (first
     | (refine gJ ?_
        first
        | refine jmv rfl rfl rfl rfl rfl ?_
        | refine jcmp rfl rfl rfl rfl rfl rfl rfl ?_
        | refine jextract rfl rfl rfl rfl rfl rfl ?_
        | (refine gcall rfl rfl ?_
           first
           | (refine j_qc (f := 23) rfl rfl rfl rfl rfl rfl rfl ?_; refine ⟨_, (fun w' _ => p1 w'), ?_⟩)
           | (refine j_qc (f := 45) rfl rfl rfl rfl rfl rfl rfl ?_; refine ⟨_, (fun w' _ => q1 w'), ?_⟩)
           | (refine j_qc (f := 24) rfl rfl rfl rfl rfl rfl rfl ?_; refine ⟨_, (fun w' _ => p2 w'), ?_⟩)
           | (refine j_qc (f := 46) rfl rfl rfl rfl rfl rfl rfl ?_; refine ⟨_, (fun w' _ => q2 w'), ?_⟩))
        | (refine j_qe rfl rfl rfl ?_
           first
           | refine ⟨_, q_pick_t rfl rfl rfl, ?_⟩
           | refine ⟨_, q_pick_f rfl rfl rfl, ?_⟩)
        | refine j_guard_undef rfl rfl rfl rfl rfl ?_
        | (refine j_guard rfl rfl rfl rfl rfl ?_ ?_ <;> intro hc <;> (first | (exact absurd hc (by decide)) | ((try simp only [decide_eq_true_eq, decide_eq_false_iff_not, Bool.not_eq_true', Bool.not_eq_false', Bool.not_true, Bool.not_false, ne_eq, Decidable.not_not] at hc) <;> first | (exfalso; omega) | (exact absurd trivial hc) | skip))))
     | (refine gSC ?_
        first
        | refine sc_seq ?_
        | refine sc_region ?_
        | (refine sc_cond rfl ?_ ?_ <;> intro hc <;> (first | (exact absurd hc (by decide)) | ((try simp only [decide_eq_true_eq, decide_eq_false_iff_not, Bool.not_eq_true', Bool.not_eq_false', Bool.not_true, Bool.not_false, ne_eq, Decidable.not_not] at hc) <;> first | (exfalso; omega) | (exact absurd trivial hc) | skip)))
        | refine sc_block ?_
        | refine sc_ret ?_
        | refine sc_exit ?_
        | refine sc_skip ?_)
     | (refine gSQ ?_
        first
        | refine sq_seq ?_
        | refine sq_blk ?_
        | refine sq_seq_ret ?_
        | refine sq_blk_ret ?_
        | refine sq_loop_ret ?_
        | refine sq_seq_exit ?_
        | refine sq_blk_hit ?_
        | refine sq_blk_miss rfl ?_
        | refine sq_loop_exit ?_
        | refine sq_ende (.inl rfl) rfl rfl ⟨_, (RVs.cons (RV.tmp rfl) (RVs.nil)), ?_⟩
        | refine sq_ende (.inr rfl) rfl rfl ⟨_, (RVs.cons (RV.tmp rfl) (RVs.nil)), ?_⟩)
     | refine j_nil ?_
     )
    all_goals (intro w' hS; refine ⟨?_, hS.below⟩; simp only [pack])
    all_goals (first | done | exact rb (by simp))
  · have p1 := fun w' => least_e n k x w' hB
    have q1 := fun w' => least_re n k x w' hB
    have p2 := fun w' => greatest_e n k x w' hB
    have q2 := fun w' => greatest_re n k x w' hB
    clear hB
    generalize checkF n k x 1 2000 = e at *
    refine eng_start (n := 67) (args := [.int .i64 n, .int .i64 k, .int .i64 x]) tab tab_ok fns fns_ok [.tmp 6] Try.func16 rfl rfl rfl rfl ?_
    repeat' (first
     | (refine gJ ?_
        first
        | refine jmv rfl rfl rfl rfl rfl ?_
        | refine jcmp rfl rfl rfl rfl rfl rfl rfl ?_
        | refine jextract rfl rfl rfl rfl rfl rfl ?_
        | (refine gcall rfl rfl ?_
           first
           | (refine j_qc (f := 23) rfl rfl rfl rfl rfl rfl rfl ?_; refine ⟨_, (fun w' _ => p1 w'), ?_⟩)
           | (refine j_qc (f := 45) rfl rfl rfl rfl rfl rfl rfl ?_; refine ⟨_, (fun w' _ => q1 w'), ?_⟩)
           | (refine j_qc (f := 24) rfl rfl rfl rfl rfl rfl rfl ?_; refine ⟨_, (fun w' _ => p2 w'), ?_⟩)
           | (refine j_qc (f := 46) rfl rfl rfl rfl rfl rfl rfl ?_; refine ⟨_, (fun w' _ => q2 w'), ?_⟩))
        | (refine j_qe rfl rfl rfl ?_
           first
           | refine ⟨_, q_pick_t rfl rfl rfl, ?_⟩
           | refine ⟨_, q_pick_f rfl rfl rfl, ?_⟩)
        | refine j_guard_undef rfl rfl rfl rfl rfl ?_
        | (refine j_guard rfl rfl rfl rfl rfl ?_ ?_ <;> intro hc <;> (first | (exact absurd hc (by decide)) | ((try simp only [decide_eq_true_eq, decide_eq_false_iff_not, Bool.not_eq_true', Bool.not_eq_false', Bool.not_true, Bool.not_false, ne_eq, Decidable.not_not] at hc) <;> first | (exfalso; omega) | (exact absurd trivial hc) | skip))))
     | (refine gSC ?_
        first
        | refine sc_seq ?_
        | refine sc_region ?_
        | (refine sc_cond rfl ?_ ?_ <;> intro hc <;> (first | (exact absurd hc (by decide)) | ((try simp only [decide_eq_true_eq, decide_eq_false_iff_not, Bool.not_eq_true', Bool.not_eq_false', Bool.not_true, Bool.not_false, ne_eq, Decidable.not_not] at hc) <;> first | (exfalso; omega) | (exact absurd trivial hc) | skip)))
        | refine sc_block ?_
        | refine sc_ret ?_
        | refine sc_exit ?_
        | refine sc_skip ?_)
     | (refine gSQ ?_
        first
        | refine sq_seq ?_
        | refine sq_blk ?_
        | refine sq_seq_ret ?_
        | refine sq_blk_ret ?_
        | refine sq_loop_ret ?_
        | refine sq_seq_exit ?_
        | refine sq_blk_hit ?_
        | refine sq_blk_miss rfl ?_
        | refine sq_loop_exit ?_
        | refine sq_ende (.inl rfl) rfl rfl ⟨_, (RVs.cons (RV.tmp rfl) (RVs.nil)), ?_⟩
        | refine sq_ende (.inr rfl) rfl rfl ⟨_, (RVs.cons (RV.tmp rfl) (RVs.nil)), ?_⟩)
     | refine j_nil ?_
     )
    all_goals (intro w' hS; refine ⟨?_, hS.below⟩; simp only [pack])
    all_goals (first | done | exact rb (by simp))
theorem bounds_c (n k x : Int) (w : World) :
    Calls Try.prog 4 #[.int .i64 n, .int .i64 k, .int .i64 x] w fun e w' => e = .returned (.bool true) ∧ Below w.heap.size w w' := by
  refine eng_start (n := 14) (args := [.int .i64 n, .int .i64 k, .int .i64 x]) tab tab_ok fns fns_ok [.tmp 6] Try.func4 rfl rfl rfl rfl ?_
  repeat' (first
   | (refine gJ ?_
      first
      | refine jmv rfl rfl rfl rfl rfl ?_
      | (refine gcall rfl rfl ?_
         first
         | (refine j_qc (f := 14) rfl rfl rfl rfl rfl rfl rfl ?_; refine ⟨_, (fun w' _ => awake_c w'), ?_⟩)
         | (refine j_qc (f := 16) rfl rfl rfl rfl rfl rfl rfl ?_; refine ⟨_, (fun w' _ => sbounds_c n k x w'), ?_⟩))
      | (refine j_qe rfl rfl rfl ?_
         first
         | refine ⟨_, q_pick_t rfl rfl rfl, ?_⟩
         | refine ⟨_, q_pick_f rfl rfl rfl, ?_⟩)
      | refine j_guard_undef rfl rfl rfl rfl rfl ?_
      | (refine j_guard rfl rfl rfl rfl rfl ?_ ?_ <;> intro hc <;> (first | (exact absurd hc (by decide)) | ((try simp only [decide_eq_true_eq, decide_eq_false_iff_not, Bool.not_eq_true', Bool.not_eq_false', Bool.not_true, Bool.not_false, ne_eq, Decidable.not_not] at hc) <;> first | (exfalso; omega) | (exact absurd trivial hc) | skip))))
   | (refine gSC ?_
      first
      | refine sc_seq ?_
      | refine sc_region ?_
      | (refine sc_cond rfl ?_ ?_ <;> intro hc <;> (first | (exact absurd hc (by decide)) | ((try simp only [decide_eq_true_eq, decide_eq_false_iff_not, Bool.not_eq_true', Bool.not_eq_false', Bool.not_true, Bool.not_false, ne_eq, Decidable.not_not] at hc) <;> first | (exfalso; omega) | (exact absurd trivial hc) | skip)))
      | refine sc_block ?_
      | refine sc_ret ?_
      | refine sc_exit ?_
      | refine sc_skip ?_)
   | (refine gSQ ?_
      first
      | refine sq_seq ?_
      | refine sq_blk ?_
      | refine sq_seq_ret ?_
      | refine sq_blk_ret ?_
      | refine sq_loop_ret ?_
      | refine sq_seq_exit ?_
      | refine sq_blk_hit ?_
      | refine sq_blk_miss rfl ?_
      | refine sq_loop_exit ?_
      | refine sq_ende (.inl rfl) rfl rfl ⟨_, (RVs.cons (RV.tmp rfl) (RVs.nil)), ?_⟩
      | refine sq_ende (.inr rfl) rfl rfl ⟨_, (RVs.cons (RV.tmp rfl) (RVs.nil)), ?_⟩)
   | refine j_nil ?_
   )
  (intro w' hS; refine ⟨?_, hS.below⟩; simp only [pack])
end Go.Proofs.Ytmlgheoliaplgaa
