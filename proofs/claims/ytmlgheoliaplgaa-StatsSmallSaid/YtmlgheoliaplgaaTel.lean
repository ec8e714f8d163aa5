/-
  StatsTells, StatsBounds.
-/
import Derived.Test.YtmlgheoliaplgaaRf6
import Derived.Test.YtmlgheoliaplgaaAw
namespace Go.Proofs.Ytmlgheoliaplgaa
open Go.RowKit Eng
set_option linter.unusedVariables false
set_option linter.unusedSimpArgs false
attribute [local irreducible] SC SQ J Qt Calls Iterates
set_option exponentiation.threshold 600
theorem same00 (w : World) : Calls Try.prog 30 #[.slice none 0 0, .slice none 0 0] w fun e w' => e = .returned (.bool true) ∧ Below w.heap.size w w' := by
  have h := same1_c none 0 0 none 0 0 w (Nat.zero_le _) (Nat.zero_le _) SL.empty SL.empty
  rw [decide_eq_true rfl] at h
  exact h
theorem tsame (A : Option Addr) (c : Nat) (B : Option Addr) (bc a : Nat) (w : World) (ha : a ≤ cap) (hA : SL w A c (limbs a)) (hB : SL w B bc (limbs a)) :
    Calls Try.prog 30 #[.slice A (limbs a).length c, .slice B (limbs a).length bc] w fun e w' => e = .returned (.bool true) ∧ Below w.heap.size w w' := by
  have h := same1_c A c a B bc a w ha ha hA hB
  rw [decide_eq_true rfl] at h
  exact h
theorem check_sub {n k x lo hi : Int} (h : checkF n k 0 0 0 ≠ 0) : checkF n k x lo hi ≠ 0 := by
  unfold checkF at *
  (repeat' split at h) <;> (repeat' split) <;> omega
set_option maxRecDepth 4000 in
set_option maxHeartbeats 8000000 in
theorem stells_c (n k x : Int) (w : World) :
    Calls Try.prog 15 #[.int .i64 n, .int .i64 k, .int .i64 x] w fun e w' => e = .returned (.bool true) ∧ Below w.heap.size w w' := by
  by_cases hbig : 60 < n ∧ n ≤ 500
  · refine eng_start (n := 111) (args := [.int .i64 n, .int .i64 k, .int .i64 x]) tab tab_ok fns fns_ok [.tmp 6] Try.func15 rfl rfl rfl rfl ?_
    repeat' (first
     | (refine gJ ?_
        first
        | refine jmv rfl rfl rfl rfl rfl ?_
        | refine jcmp rfl rfl rfl rfl rfl rfl rfl ?_
        | refine jextract rfl rfl rfl rfl rfl rfl ?_
        | (refine j_qe rfl rfl rfl ?_
           first
           | refine ⟨_, q_pick_t rfl rfl rfl, ?_⟩
           | refine ⟨_, q_pick_f rfl rfl rfl, ?_⟩
           | refine ⟨_, q_not rfl rfl, ?_⟩)
        | refine j_guard_undef rfl rfl rfl rfl rfl ?_
        | (refine j_guard rfl rfl rfl rfl rfl ?_ ?_ <;> intro hc <;> (first | (exact absurd hc (by decide)) | ((try simp only [decide_eq_true_eq, decide_eq_false_iff_not, Bool.not_eq_true', Bool.not_eq_false', Bool.not_true, Bool.not_false, ne_eq, Decidable.not_not] at hc) <;> first | (exfalso; omega) | (exact absurd trivial hc) | skip))))
     | (refine gSC ?_
        first
        | refine sc_seq ?_
        | refine sc_region ?_
        | (refine sc_cond rfl ?_ ?_ <;> intro hc <;> (first | (exact absurd hc (by decide)) | ((try simp only [decide_eq_true_eq, decide_eq_false_iff_not, Bool.not_eq_true', Bool.not_eq_false', Bool.not_true, Bool.not_false, ne_eq, Decidable.not_not] at hc) <;> first | (exfalso; omega) | (exact absurd trivial hc) | skip)))
        | refine sc_block ?_
        | refine sc_ret ?_
        | refine sc_exit ?_
        | refine sc_skip ?_)
     | (refine gSQ ?_
        first
        | refine sq_seq ?_
        | refine sq_blk ?_
        | refine sq_seq_ret ?_
        | refine sq_blk_ret ?_
        | refine sq_loop_ret ?_
        | refine sq_seq_exit ?_
        | refine sq_blk_hit ?_
        | refine sq_blk_miss rfl ?_
        | refine sq_loop_exit ?_
        | refine sq_ende (.inl rfl) rfl rfl ⟨_, (RVs.cons (RV.tmp rfl) (RVs.nil)), ?_⟩
        | refine sq_ende (.inr rfl) rfl rfl ⟨_, (RVs.cons (RV.tmp rfl) (RVs.nil)), ?_⟩)
     | refine j_nil ?_
     )
    (intro w' hS; refine ⟨?_, hS.below⟩; simp only [pack])
  by_cases hA : checkF n k 0 0 0 = 0
  · obtain ⟨⟨a1, a2, a3⟩, -⟩ := check_none hA
    obtain ⟨m, rfl⟩ : ∃ m : Nat, n = m := ⟨n.toNat, by omega⟩
    obtain ⟨j, rfl⟩ : ∃ j : Nat, k = j := ⟨k.toNat, by omega⟩
    have c1 : ch m j ≤ cap := by have := ch_cap2 (n := m) (k := j) (m := 1) (by omega) (by omega); rwa [Nat.mul_one] at this
    have p1 := fun w' => choose_c m j w' (by omega) (by omega)
    have q1 := fun w' => choose_r m j w' (by omega) (by omega)
    by_cases hB : checkF m j x 0 10000 = 0
    · obtain ⟨-, b1, b2⟩ := check_none hB
      obtain ⟨p, rfl⟩ : ∃ p : Nat, x = p := ⟨x.toNat, by omega⟩
      have c2 := Nat.le_trans (bn_cap (p := p) (n := m) (k := j) (by omega) (by omega)) cap_500
      have c3 := Nat.le_trans (up_cap (p := p) (n := m) (k := j) (by omega) (by omega)) cap_500
      have c4 := Nat.le_trans (low_cap (p := p) (n := m) (k := j) (by omega) (by omega)) cap_500
      have p2 := fun w' => chance_c m j p w' (by omega) (by omega) (by omega)
      have q2 := fun w' => chance_r m j p w' (by omega) (by omega) (by omega)
      have p3 := fun w' => upper_c m j p w' (by omega) (by omega) (by omega)
      have q3 := fun w' => upper_r m j p w' (by omega) (by omega) (by omega)
      have p4 := fun w' => lower_c m j p w' (by omega) (by omega) (by omega)
      have q4 := fun w' => lower_r m j p w' (by omega) (by omega) (by omega)
      clear hA hB
      generalize ch m j = X1 at *
      generalize bn p (10000 - p) m j = X2 at *
      generalize up p (10000 - p) m j = X3 at *
      generalize low p (10000 - p) m j = X4 at *
      refine eng_start (n := 111) (args := [.int .i64 m, .int .i64 j, .int .i64 p]) tab tab_ok fns fns_ok [.tmp 6] Try.func15 rfl rfl rfl rfl ?_
      repeat' (first
       | (refine gJ ?_
          first
          | refine jmv rfl rfl rfl rfl rfl ?_
          | refine jcmp rfl rfl rfl rfl rfl rfl rfl ?_
          | refine jextract rfl rfl rfl rfl rfl rfl ?_
          | (refine gcall rfl rfl ?_
             first
             | (refine j_qc (f := 30) rfl rfl rfl rfl rfl rfl rfl ?_; refine ⟨_, (fun w' hs => tsame A1 d1 A2 d2 X1 w' c1 (sl_of_own hs (by (repeat (first | exact InL.here | apply InL.there))) rfl rfl) (sl_of_own hs (by (repeat (first | exact InL.here | apply InL.there))) rfl rfl)), ?_⟩)
             | (refine j_qc (f := 30) rfl rfl rfl rfl rfl rfl rfl ?_; refine ⟨_, (fun w' hs => tsame A3 d3 A4 d4 X2 w' c2 (sl_of_own hs (by (repeat (first | exact InL.here | apply InL.there))) rfl rfl) (sl_of_own hs (by (repeat (first | exact InL.here | apply InL.there))) rfl rfl)), ?_⟩)
             | (refine j_qc (f := 30) rfl rfl rfl rfl rfl rfl rfl ?_; refine ⟨_, (fun w' hs => tsame A5 d5 A6 d6 X3 w' c3 (sl_of_own hs (by (repeat (first | exact InL.here | apply InL.there))) rfl rfl) (sl_of_own hs (by (repeat (first | exact InL.here | apply InL.there))) rfl rfl)), ?_⟩)
             | (refine j_qc (f := 30) rfl rfl rfl rfl rfl rfl rfl ?_; refine ⟨_, (fun w' hs => tsame A7 d7 A8 d8 X4 w' c4 (sl_of_own hs (by (repeat (first | exact InL.here | apply InL.there))) rfl rfl) (sl_of_own hs (by (repeat (first | exact InL.here | apply InL.there))) rfl rfl)), ?_⟩))
          | (refine gcall rfl rfl ?_; refine j_nat2 (f := 32) rfl rfl rfl rfl rfl rfl rfl (fun w' _ => p1 w') ?_; intro A1 d1)
          | (refine gcall rfl rfl ?_; refine j_nat2 (f := 41) rfl rfl rfl rfl rfl rfl rfl (fun w' _ => q1 w') ?_; intro A2 d2)
          | (refine gcall rfl rfl ?_; refine j_nat2 (f := 22) rfl rfl rfl rfl rfl rfl rfl (fun w' _ => p2 w') ?_; intro A3 d3)
          | (refine gcall rfl rfl ?_; refine j_nat2 (f := 42) rfl rfl rfl rfl rfl rfl rfl (fun w' _ => q2 w') ?_; intro A4 d4)
          | (refine gcall rfl rfl ?_; refine j_nat2 (f := 28) rfl rfl rfl rfl rfl rfl rfl (fun w' _ => p3 w') ?_; intro A5 d5)
          | (refine gcall rfl rfl ?_; refine j_nat2 (f := 43) rfl rfl rfl rfl rfl rfl rfl (fun w' _ => q3 w') ?_; intro A6 d6)
          | (refine gcall rfl rfl ?_; refine j_nat2 (f := 29) rfl rfl rfl rfl rfl rfl rfl (fun w' _ => p4 w') ?_; intro A7 d7)
          | (refine gcall rfl rfl ?_; refine j_nat2 (f := 44) rfl rfl rfl rfl rfl rfl rfl (fun w' _ => q4 w') ?_; intro A8 d8)
          | (refine j_qe rfl rfl rfl ?_
             first
             | refine ⟨_, q_pick_t rfl rfl rfl, ?_⟩
             | refine ⟨_, q_pick_f rfl rfl rfl, ?_⟩
             | refine ⟨_, q_not rfl rfl, ?_⟩)
          | refine j_guard_undef rfl rfl rfl rfl rfl ?_
          | (refine j_guard rfl rfl rfl rfl rfl ?_ ?_ <;> intro hc <;> (first | (exact absurd hc (by decide)) | ((try simp only [decide_eq_true_eq, decide_eq_false_iff_not, Bool.not_eq_true', Bool.not_eq_false', Bool.not_true, Bool.not_false, ne_eq, Decidable.not_not] at hc) <;> first | (exfalso; omega) | (exact absurd trivial hc) | skip))))
       | (refine gSC ?_
          first
          | refine sc_seq ?_
          | refine sc_region ?_
          | (refine sc_cond rfl ?_ ?_ <;> intro hc <;> (first | (exact absurd hc (by decide)) | ((try simp only [decide_eq_true_eq, decide_eq_false_iff_not, Bool.not_eq_true', Bool.not_eq_false', Bool.not_true, Bool.not_false, ne_eq, Decidable.not_not] at hc) <;> first | (exfalso; omega) | (exact absurd trivial hc) | skip)))
          | refine sc_block ?_
          | refine sc_ret ?_
          | refine sc_exit ?_
          | refine sc_skip ?_)
       | (refine gSQ ?_
          first
          | refine sq_seq ?_
          | refine sq_blk ?_
          | refine sq_seq_ret ?_
          | refine sq_blk_ret ?_
          | refine sq_loop_ret ?_
          | refine sq_seq_exit ?_
          | refine sq_blk_hit ?_
          | refine sq_blk_miss rfl ?_
          | refine sq_loop_exit ?_
          | refine sq_ende (.inl rfl) rfl rfl ⟨_, (RVs.cons (RV.tmp rfl) (RVs.nil)), ?_⟩
          | refine sq_ende (.inr rfl) rfl rfl ⟨_, (RVs.cons (RV.tmp rfl) (RVs.nil)), ?_⟩)
       | refine j_nil ?_
       )
      all_goals (intro w' hS; refine ⟨?_, hS.below⟩; simp only [pack])
      all_goals (first | done | exact rb (by simp))
    · have p2 := fun w' => chance_e m j x w' hB
      have q2 := fun w' => chance_re m j x w' hB
      have p3 := fun w' => upper_e m j x w' hB
      have q3 := fun w' => upper_re m j x w' hB
      have p4 := fun w' => lower_e m j x w' hB
      have q4 := fun w' => lower_re m j x w' hB
      clear hA hB
      generalize ch m j = X1 at *
      generalize checkF m j x 0 10000 = e at *
      refine eng_start (n := 111) (args := [.int .i64 m, .int .i64 j, .int .i64 x]) tab tab_ok fns fns_ok [.tmp 6] Try.func15 rfl rfl rfl rfl ?_
      repeat' (first
       | (refine gJ ?_
          first
          | refine jmv rfl rfl rfl rfl rfl ?_
          | refine jcmp rfl rfl rfl rfl rfl rfl rfl ?_
          | refine jextract rfl rfl rfl rfl rfl rfl ?_
          | (refine gcall rfl rfl ?_
             first
             | (refine j_qc (f := 30) rfl rfl rfl rfl rfl rfl rfl ?_; refine ⟨_, (fun w' hs => tsame A1 d1 A2 d2 X1 w' c1 (sl_of_own hs (by (repeat (first | exact InL.here | apply InL.there))) rfl rfl) (sl_of_own hs (by (repeat (first | exact InL.here | apply InL.there))) rfl rfl)), ?_⟩)
             | (refine j_qc (f := 22) rfl rfl rfl rfl rfl rfl rfl ?_; refine ⟨_, (fun w' _ => p2 w'), ?_⟩)
             | (refine j_qc (f := 42) rfl rfl rfl rfl rfl rfl rfl ?_; refine ⟨_, (fun w' _ => q2 w'), ?_⟩)
             | (refine j_qc (f := 28) rfl rfl rfl rfl rfl rfl rfl ?_; refine ⟨_, (fun w' _ => p3 w'), ?_⟩)
             | (refine j_qc (f := 43) rfl rfl rfl rfl rfl rfl rfl ?_; refine ⟨_, (fun w' _ => q3 w'), ?_⟩)
             | (refine j_qc (f := 29) rfl rfl rfl rfl rfl rfl rfl ?_; refine ⟨_, (fun w' _ => p4 w'), ?_⟩)
             | (refine j_qc (f := 44) rfl rfl rfl rfl rfl rfl rfl ?_; refine ⟨_, (fun w' _ => q4 w'), ?_⟩)
             | (refine j_qc (f := 30) rfl rfl rfl rfl rfl rfl rfl ?_; refine ⟨_, (fun w' _ => same00 w'), ?_⟩))
          | (refine gcall rfl rfl ?_; refine j_nat2 (f := 32) rfl rfl rfl rfl rfl rfl rfl (fun w' _ => p1 w') ?_; intro A1 d1)
          | (refine gcall rfl rfl ?_; refine j_nat2 (f := 41) rfl rfl rfl rfl rfl rfl rfl (fun w' _ => q1 w') ?_; intro A2 d2)
          | (refine j_qe rfl rfl rfl ?_
             first
             | refine ⟨_, q_pick_t rfl rfl rfl, ?_⟩
             | refine ⟨_, q_pick_f rfl rfl rfl, ?_⟩
             | refine ⟨_, q_not rfl rfl, ?_⟩)
          | refine j_guard_undef rfl rfl rfl rfl rfl ?_
          | (refine j_guard rfl rfl rfl rfl rfl ?_ ?_ <;> intro hc <;> (first | (exact absurd hc (by decide)) | ((try simp only [decide_eq_true_eq, decide_eq_false_iff_not, Bool.not_eq_true', Bool.not_eq_false', Bool.not_true, Bool.not_false, ne_eq, Decidable.not_not] at hc) <;> first | (exfalso; omega) | (exact absurd trivial hc) | skip))))
       | (refine gSC ?_
          first
          | refine sc_seq ?_
          | refine sc_region ?_
          | (refine sc_cond rfl ?_ ?_ <;> intro hc <;> (first | (exact absurd hc (by decide)) | ((try simp only [decide_eq_true_eq, decide_eq_false_iff_not, Bool.not_eq_true', Bool.not_eq_false', Bool.not_true, Bool.not_false, ne_eq, Decidable.not_not] at hc) <;> first | (exfalso; omega) | (exact absurd trivial hc) | skip)))
          | refine sc_block ?_
          | refine sc_ret ?_
          | refine sc_exit ?_
          | refine sc_skip ?_)
       | (refine gSQ ?_
          first
          | refine sq_seq ?_
          | refine sq_blk ?_
          | refine sq_seq_ret ?_
          | refine sq_blk_ret ?_
          | refine sq_loop_ret ?_
          | refine sq_seq_exit ?_
          | refine sq_blk_hit ?_
          | refine sq_blk_miss rfl ?_
          | refine sq_loop_exit ?_
          | refine sq_ende (.inl rfl) rfl rfl ⟨_, (RVs.cons (RV.tmp rfl) (RVs.nil)), ?_⟩
          | refine sq_ende (.inr rfl) rfl rfl ⟨_, (RVs.cons (RV.tmp rfl) (RVs.nil)), ?_⟩)
       | refine j_nil ?_
       )
      all_goals (intro w' hS; refine ⟨?_, hS.below⟩; simp only [pack])
      all_goals (first | done | exact rb (by simp))
  · have hB : checkF n k x 0 10000 ≠ 0 := check_sub hA
    have p1 := fun w' => choose_e n k w' hA
    have q1 := fun w' => choose_re n k w' hA
    have p2 := fun w' => chance_e n k x w' hB
    have q2 := fun w' => chance_re n k x w' hB
    have p3 := fun w' => upper_e n k x w' hB
    have q3 := fun w' => upper_re n k x w' hB
    have p4 := fun w' => lower_e n k x w' hB
    have q4 := fun w' => lower_re n k x w' hB
    clear hA hB
    generalize checkF n k 0 0 0 = d at *
    generalize checkF n k x 0 10000 = e at *
    refine eng_start (n := 111) (args := [.int .i64 n, .int .i64 k, .int .i64 x]) tab tab_ok fns fns_ok [.tmp 6] Try.func15 rfl rfl rfl rfl ?_
    repeat' (first
     | (refine gJ ?_
        first
        | refine jmv rfl rfl rfl rfl rfl ?_
        | refine jcmp rfl rfl rfl rfl rfl rfl rfl ?_
        | refine jextract rfl rfl rfl rfl rfl rfl ?_
        | (refine gcall rfl rfl ?_
           first
           | (refine j_qc (f := 32) rfl rfl rfl rfl rfl rfl rfl ?_; refine ⟨_, (fun w' _ => p1 w'), ?_⟩)
           | (refine j_qc (f := 41) rfl rfl rfl rfl rfl rfl rfl ?_; refine ⟨_, (fun w' _ => q1 w'), ?_⟩)
           | (refine j_qc (f := 22) rfl rfl rfl rfl rfl rfl rfl ?_; refine ⟨_, (fun w' _ => p2 w'), ?_⟩)
           | (refine j_qc (f := 42) rfl rfl rfl rfl rfl rfl rfl ?_; refine ⟨_, (fun w' _ => q2 w'), ?_⟩)
           | (refine j_qc (f := 28) rfl rfl rfl rfl rfl rfl rfl ?_; refine ⟨_, (fun w' _ => p3 w'), ?_⟩)
           | (refine j_qc (f := 43) rfl rfl rfl rfl rfl rfl rfl ?_; refine ⟨_, (fun w' _ => q3 w'), ?_⟩)
           | (refine j_qc (f := 29) rfl rfl rfl rfl rfl rfl rfl ?_; refine ⟨_, (fun w' _ => p4 w'), ?_⟩)
           | (refine j_qc (f := 44) rfl rfl rfl rfl rfl rfl rfl ?_; refine ⟨_, (fun w' _ => q4 w'), ?_⟩)
           | (refine j_qc (f := 30) rfl rfl rfl rfl rfl rfl rfl ?_; refine ⟨_, (fun w' _ => same00 w'), ?_⟩))
        | (refine j_qe rfl rfl rfl ?_
           first
           | refine ⟨_, q_pick_t rfl rfl rfl, ?_⟩
           | refine ⟨_, q_pick_f rfl rfl rfl, ?_⟩
           | refine ⟨_, q_not rfl rfl, ?_⟩)
        | refine j_guard_undef rfl rfl rfl rfl rfl ?_
        | (refine j_guard rfl rfl rfl rfl rfl ?_ ?_ <;> intro hc <;> (first | (exact absurd hc (by decide)) | ((try simp only [decide_eq_true_eq, decide_eq_false_iff_not, Bool.not_eq_true', Bool.not_eq_false', Bool.not_true, Bool.not_false, ne_eq, Decidable.not_not] at hc) <;> first | (exfalso; omega) | (exact absurd trivial hc) | skip))))
     | (refine gSC ?_
        first
        | refine sc_seq ?_
        | refine sc_region ?_
        | (refine sc_cond rfl ?_ ?_ <;> intro hc <;> (first | (exact absurd hc (by decide)) | ((try simp only [decide_eq_true_eq, decide_eq_false_iff_not, Bool.not_eq_true', Bool.not_eq_false', Bool.not_true, Bool.not_false, ne_eq, Decidable.not_not] at hc) <;> first | (exfalso; omega) | (exact absurd trivial hc) | skip)))
        | refine sc_block ?_
        | refine sc_ret ?_
        | refine sc_exit ?_
        | refine sc_skip ?_)
     | (refine gSQ ?_
        first
        | refine sq_seq ?_
        | refine sq_blk ?_
        | refine sq_seq_ret ?_
        | refine sq_blk_ret ?_
        | refine sq_loop_ret ?_
        | refine sq_seq_exit ?_
        | refine sq_blk_hit ?_
        | refine sq_blk_miss rfl ?_
        | refine sq_loop_exit ?_
        | refine sq_ende (.inl rfl) rfl rfl ⟨_, (RVs.cons (RV.tmp rfl) (RVs.nil)), ?_⟩
        | refine sq_ende (.inr rfl) rfl rfl ⟨_, (RVs.cons (RV.tmp rfl) (RVs.nil)), ?_⟩)
     | refine j_nil ?_
     )
    all_goals (intro w' hS; refine ⟨?_, hS.below⟩; simp only [pack])
    all_goals (first | done | exact rb (by simp))
theorem tells_c (n k x : Int) (w : World) :
    Calls Try.prog 3 #[.int .i64 n, .int .i64 k, .int .i64 x] w fun e w' => e = .returned (.bool true) ∧ Below w.heap.size w w' := by
  refine eng_start (n := 14) (args := [.int .i64 n, .int .i64 k, .int .i64 x]) tab tab_ok fns fns_ok [.tmp 6] Try.func3 rfl rfl rfl rfl ?_
  repeat' (first
   | (refine gJ ?_
      first
      | refine jmv rfl rfl rfl rfl rfl ?_
      | (refine gcall rfl rfl ?_
         first
         | (refine j_qc (f := 14) rfl rfl rfl rfl rfl rfl rfl ?_; refine ⟨_, (fun w' _ => awake_c w'), ?_⟩)
         | (refine j_qc (f := 15) rfl rfl rfl rfl rfl rfl rfl ?_; refine ⟨_, (fun w' _ => stells_c n k x w'), ?_⟩))
      | (refine j_qe rfl rfl rfl ?_
         first
         | refine ⟨_, q_pick_t rfl rfl rfl, ?_⟩
         | refine ⟨_, q_pick_f rfl rfl rfl, ?_⟩)
      | refine j_guard_undef rfl rfl rfl rfl rfl ?_
      | (refine j_guard rfl rfl rfl rfl rfl ?_ ?_ <;> intro hc <;> (first | (exact absurd hc (by decide)) | ((try simp only [decide_eq_true_eq, decide_eq_false_iff_not, Bool.not_eq_true', Bool.not_eq_false', Bool.not_true, Bool.not_false, ne_eq, Decidable.not_not] at hc) <;> first | (exfalso; omega) | (exact absurd trivial hc) | skip))))
   | (refine gSC ?_
      first
      | refine sc_seq ?_
      | refine sc_region ?_
      | (refine sc_cond rfl ?_ ?_ <;> intro hc <;> (first | (exact absurd hc (by decide)) | ((try simp only [decide_eq_true_eq, decide_eq_false_iff_not, Bool.not_eq_true', Bool.not_eq_false', Bool.not_true, Bool.not_false, ne_eq, Decidable.not_not] at hc) <;> first | (exfalso; omega) | (exact absurd trivial hc) | skip)))
      | refine sc_block ?_
      | refine sc_ret ?_
      | refine sc_exit ?_
      | refine sc_skip ?_)
   | (refine gSQ ?_
      first
      | refine sq_seq ?_
      | refine sq_blk ?_
      | refine sq_seq_ret ?_
      | refine sq_blk_ret ?_
      | refine sq_loop_ret ?_
      | refine sq_seq_exit ?_
      | refine sq_blk_hit ?_
      | refine sq_blk_miss rfl ?_
      | refine sq_loop_exit ?_
      | refine sq_ende (.inl rfl) rfl rfl ⟨_, (RVs.cons (RV.tmp rfl) (RVs.nil)), ?_⟩
      | refine sq_ende (.inr rfl) rfl rfl ⟨_, (RVs.cons (RV.tmp rfl) (RVs.nil)), ?_⟩)
   | refine j_nil ?_
   )
  (intro w' hS; refine ⟨?_, hS.below⟩; simp only [pack])
end Go.Proofs.Ytmlgheoliaplgaa
