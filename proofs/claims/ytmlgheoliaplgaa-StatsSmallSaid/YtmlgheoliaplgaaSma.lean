/-
  StatsSmall.
-/
import Derived.Test.YtmlgheoliaplgaaQnt
import Derived.Test.YtmlgheoliaplgaaTel
import Derived.Test.YtmlgheoliaplgaaBnd
import Derived.Test.YtmlgheoliaplgaaRk
import Derived.Test.YtmlgheoliaplgaaNl2
import Derived.Test.YtmlgheoliaplgaaEngApp
import Derived.Test.YtmlgheoliaplgaaEngNeg
namespace Go.Proofs.Ytmlgheoliaplgaa
open Go.RowKit Eng
set_option linter.unusedVariables false
set_option linter.unusedSimpArgs false
attribute [local irreducible] SC SQ J Qt Calls Iterates
set_option exponentiation.threshold 600
theorem up_last (p q n : Nat) : up p q n n = p ^ n := by rw [up_split, up_zero _ _ _ _ (Nat.lt_succ_self n), bn_last, Nat.add_zero]
theorem low_of {n : Nat} (h1 : ¬ (500 * 10000 ^ n < 9940 ^ n * 10000)) (h2 : 500 * 10000 ^ n < 9941 ^ n * 10000) : lowF n n 500 = 9941 := by
  have e1 : posB n n 500 9940 = false := by unfold posB excB; rw [up_last]; exact decide_eq_false h1
  have e2 : posB n n 500 9941 = true := by unfold posB excB; rw [up_last]; exact decide_eq_true h2
  refine lowest_eq (fun p hp => ?_) (fun _ => e2) (by omega)
  cases h : posB n n 500 p with
  | false => rfl
  | true => rw [posB_mono n n 500 p 9940 (by omega) (by omega) h] at e1; cases e1
theorem low_499 : lowF 499 499 500 = 9941 := low_of (by decide +kernel) (by decide +kernel)
theorem low_500 : lowF 500 500 500 = 9941 := low_of (by decide +kernel) (by decide +kernel)
theorem low_none (n : Nat) (h : 0 < n) : low 10000 0 n 0 = 0 := by
  unfold low
  rw [part_one, bn_head]
  exact Nat.zero_pow h
theorem ch_pos : ∀ n k, k ≤ n → 0 < ch n k
  | 0, 0, _ => by decide
  | n + 1, 0, _ => by have := ch_pos n 0 (Nat.zero_le _); simp only [ch, bn] at *; omega
  | n + 1, k + 1, h => by have := ch_pos n k (by omega); simp only [ch, bn] at *; omega
def fl (n i : Nat) : List Int := (List.range n).map fun j => if j < i then -(j : Int) else 0
theorem fl_len (n i : Nat) : (fl n i).length = n := by simp [fl]
theorem fl_get {n i j : Nat} (h : j < n) : (fl n i)[j]? = some (if j < i then -(j : Int) else 0) := by
  unfold fl
  rw [List.getElem?_map, List.getElem?_range h]
  rfl
theorem fl_zero (n : Nat) : fl n 0 = List.replicate n 0 := by
  apply List.ext_getElem?
  intro j
  by_cases h : j < n
  · rw [fl_get h, List.getElem?_replicate, if_pos h, if_neg (by omega)]
  · rw [List.getElem?_eq_none (by rw [fl_len]; omega), List.getElem?_eq_none (by simp; omega)]
theorem fl_set {n i : Nat} (h : i < n) : (fl n i).set i (-(i : Int)) = fl n (i + 1) := by
  apply List.ext_getElem?
  intro j
  by_cases hj : j < n
  · rw [List.getElem?_set, fl_get hj, fl_get hj]
    by_cases e : i = j
    · subst e; rw [if_pos rfl, if_pos (by rw [fl_len]; omega), if_pos (by omega)]
    · rw [if_neg e]
      by_cases hji : j < i
      · rw [if_pos hji, if_pos (by omega)]
      · rw [if_neg hji, if_neg (by omega)]
  · rw [List.getElem?_eq_none (by rw [List.length_set, fl_len]; omega), List.getElem?_eq_none (by rw [fl_len]; omega)]
theorem fl_mem {n : Nat} {y : Int} (h : y ∈ fl n n) : 1 - (n : Int) ≤ y ∧ y ≤ 0 := by
  obtain ⟨j, hj⟩ := List.mem_iff_getElem?.1 h
  have hl := (List.getElem?_eq_some_iff.1 hj).1
  rw [fl_len] at hl
  rw [fl_get hl, if_pos hl] at hj
  injection hj with hj
  omega
theorem fl_last {n : Nat} (h0 : 0 < n) : (sortI (fl n n))[rank n 10000]? = some 0 := by
  have hr : rank n 10000 = n - 1 := by unfold rank; rw [show (10000 * n + 9999) / 10000 = n by omega]; omega
  rw [hr]
  refine rank_of ?_ ?_
  · have : lessN (fl n n) 0 < (fl n n).length := by
      unfold lessN
      have h1 := List.countP_eq_length (p := fun y : Int => decide (y < 0)) (l := fl n n)
      have h2 := List.countP_le_length (p := fun y : Int => decide (y < 0)) (l := fl n n)
      rcases Nat.lt_or_ge (List.countP (fun y : Int => decide (y < 0)) (fl n n)) (fl n n).length with h | h
      · exact h
      · have h3 := h1.1 (by omega) 0 (List.mem_of_getElem? (i := 0) (by rw [fl_get h0, if_pos h0]; rfl))
        simp at h3
    rw [fl_len] at this
    omega
  · have : mostN (fl n n) 0 = (fl n n).length := by
      unfold mostN
      rw [List.countP_eq_length]
      intro y hy
      have := fl_mem hy
      simp; omega
    rw [this, fl_len]
    omega
theorem fl_first {n : Nat} (h0 : 0 < n) (h : n ≤ 10000) : (sortI (fl n n))[rank n 1]? = some (1 - (n : Int)) := by
  have hr : rank n 1 = 0 := by unfold rank; rw [Nat.one_mul, show (n + 9999) / 10000 = 1 by omega]; rfl
  rw [hr]
  refine rank_of ?_ ?_
  · rw [lessN_none fun y hy => (fl_mem hy).1]
    exact Nat.le_refl _
  · unfold mostN
    rw [List.countP_pos_iff]
    refine ⟨1 - (n : Int), List.mem_of_getElem? (i := n - 1) (by rw [fl_get (by omega), if_pos (by omega)]; congr 1; omega), by simp⟩
attribute [local irreducible] sortI
theorem rs_lit {w0 w : World} {hot : Nat → Prop} {L : List HA} {u b : Nat} {l : List Int} (hs : St w0 hot L w) (hin : InL L (.cells b u (l.flatMap intC))) : RS w 1 intC (some ⟨b, 0, none⟩) l := fun i x hx => by
  have hE := hs.ext hin
  refine ⟨_, rfl, by rw [block_add]; exact hE.lt, fun j v hv => ?_⟩
  rw [nth_eq] at hv
  have hfl := flat_at intC 1 (fun _ => rfl) l i x j v hx hv
  rw [Eng.add_add]
  exact hE.cell _ _ (by rw [nth_eq]; exact hfl)
theorem sl_lit {b n : Nat} (h : n ≤ 1000) : Sl (some ⟨b, 0, none⟩) n n := ⟨fun h => (by cases h), Nat.le_refl _, by omega⟩
theorem limbs_posl {x : Nat} (h : 0 < x) : 0 < (limbs x).length := by
  rcases Nat.eq_zero_or_pos (limbs x).length with h1 | h1
  · rw [(limbs_nil x).1 (List.length_eq_zero_iff.1 h1)] at h; omega
  · exact h1
theorem ends_valid (n : Nat) (hn : n = 499 ∨ n = 500) : lowF n n 500 = 9941 := by
  rcases hn with rfl | rfl
  · exact low_499
  · exact low_500
set_option maxRecDepth 4000 in
set_option maxHeartbeats 8000000 in
theorem ends_c (w : World) : Calls Try.prog 18 #[] w fun e w' => e = .returned (.bool true) ∧ Below w.heap.size w w' := by
  refine eng_start (n := 184) (args := []) tab tab_ok fns fns_ok [.tmp 0] Try.func18 rfl rfl rfl rfl ?_
  repeat' (first
   | (refine gJ ?_
      first
      | refine jmv rfl rfl rfl rfl rfl ?_
      | refine jcmp rfl rfl rfl rfl rfl rfl rfl ?_
      | refine jar rfl rfl rfl rfl rfl rfl rfl (by omega) ?_
      | refine jextract rfl rfl rfl rfl rfl rfl ?_
      | refine j_store rfl rfl rfl rfl rfl rfl rfl rfl (by (repeat (first | exact Upd.here | apply Upd.there))) (by rfl) ?_
      | (refine j_qe rfl rfl rfl ?_
         first
         | refine ⟨_, q_pick_t rfl rfl rfl, ?_⟩
         | refine ⟨_, q_pick_f rfl rfl rfl, ?_⟩
         | refine ⟨_, q_not rfl rfl, ?_⟩
         | refine ⟨_, q_index_nat rfl rfl rfl rfl rfl (by omega), ?_⟩
         | refine ⟨_, q_index_slice rfl rfl rfl rfl rfl (by omega), ?_⟩
         | refine ⟨_, q_index_arr rfl rfl rfl rfl rfl (by omega), ?_⟩
         | refine ⟨_, q_index_arr_ext rfl rfl rfl rfl rfl (by omega), ?_⟩
         | refine ⟨_, q_len_slice rfl rfl rfl rfl, ?_⟩
         | refine ⟨_, q_addu8 rfl rfl rfl (by omega), ?_⟩)
      | refine j_guard_undef rfl rfl rfl rfl rfl ?_
      | (refine j_guard rfl rfl rfl rfl rfl ?_ ?_ <;> intro hc <;> (first | (exact absurd hc (by decide)) | ((try simp only [decide_eq_true_eq, decide_eq_false_iff_not, Bool.not_eq_true', Bool.not_eq_false', Bool.not_true, Bool.not_false, ne_eq, Decidable.not_not] at hc) <;> first | (exfalso; omega) | (exact absurd trivial hc) | skip))))
   | (refine gSC ?_
      first
      | refine sc_seq ?_
      | refine sc_region ?_
      | (refine sc_cond rfl ?_ ?_ <;> intro hc <;> (first | (exact absurd hc (by decide)) | ((try simp only [decide_eq_true_eq, decide_eq_false_iff_not, Bool.not_eq_true', Bool.not_eq_false', Bool.not_true, Bool.not_false, ne_eq, Decidable.not_not] at hc) <;> first | (exfalso; omega) | (exact absurd trivial hc) | skip)))
      | refine sc_block ?_
      | refine sc_ret ?_
      | refine sc_exit ?_
      | refine sc_skip ?_)
   | (refine gSQ ?_
      first
      | refine sq_seq ?_
      | refine sq_blk ?_
      | refine sq_seq_ret ?_
      | refine sq_blk_ret ?_
      | refine sq_loop_ret ?_
      | refine sq_seq_exit ?_
      | refine sq_blk_hit ?_
      | refine sq_blk_miss rfl ?_
      | refine sq_loop_exit ?_
      | refine sq_ende (.inl rfl) rfl rfl ⟨_, (RVs.cons (RV.tmp rfl) (RVs.nil)), ?_⟩
      | refine sq_ende (.inr rfl) rfl rfl ⟨_, (RVs.cons (RV.tmp rfl) (RVs.nil)), ?_⟩)
   | refine j_nil ?_
   )
  refine sc_loop (ι := Nat) (fun i => 499 ≤ i ∧ i ≤ 502) (fun i => 502 - i) (fun i => [(1, .int .i64 i)]) (fun _ => []) 499 ⟨by omega, by omega⟩ (by repeat (first | exact FSub.nil | refine FSub.cons rfl ?_ | refine FSub.conse rfl (by congr 1; omega) ?_)) (by repeat (first | exact LSub.nil | refine LSub.cons (by repeat (first | exact Rem.here | apply Rem.there)) ?_)) ?_
  rintro n ⟨h1, h2⟩
  by_cases hv : n ≤ 500
  · have hd := ends_valid n (by omega)
    have p1 : ∀ w', Calls Try.prog 32 #[.int .i64 n, .int .i64 250] w' _ := fun w' => choose_c n 250 w' (by omega) hv
    have p2 : ∀ w', Calls Try.prog 28 #[.int .i64 n, .int .i64 n, .int .i64 9999] w' _ := fun w' => upper_c n n 9999 w' (Nat.le_refl _) hv (by omega)
    have p3 : ∀ w', Calls Try.prog 29 #[.int .i64 n, .int .i64 0, .int .i64 10000] w' _ := fun w' => lower_c n 0 10000 w' (by omega) hv (by omega)
    have p4 : ∀ w', Calls Try.prog 23 #[.int .i64 n, .int .i64 n, .int .i64 500] w' _ := fun w' => least_c n n 500 w' (Nat.le_refl _) hv (by omega)
    have p5 : ∀ w', Calls Try.prog 24 #[.int .i64 n, .int .i64 n, .int .i64 500] w' _ := fun w' => greatest_c n n 500 w' (Nat.le_refl _) hv (by omega)
    have l1 := limbs_posl (ch_pos n 250 (by omega))
    have l2 : 0 < (limbs (up 9999 (10000 - 9999) n n)).length := limbs_posl (by rw [up_last]; exact Nat.pow_pos (by omega))
    have l3 : (limbs (low 10000 (10000 - 10000) n 0)).length = 0 := by rw [show 10000 - 10000 = 0 from rfl, low_none n (by omega)]; rfl
    have b1 := cap_len (show ch n 250 ≤ cap by have := ch_cap2 (n := n) (k := 250) (m := 1) hv (by omega); rwa [Nat.mul_one] at this)
    have b2 := cap_len (Nat.le_trans (up_cap (p := 9999) (n := n) (k := n) (by omega) hv) cap_500)
    rw [hd] at p4
    generalize ch n 250 = X1 at *
    generalize up 9999 (10000 - 9999) n n = X2 at *
    generalize low 10000 (10000 - 10000) n 0 = X3 at *
    generalize (10000 : Int) - (lowF n (n - n) 500 : Nat) = X5 at *
    repeat' (first
     | (refine gJ ?_
        first
        | refine jmv rfl rfl rfl rfl rfl ?_
        | refine jcmp rfl rfl rfl rfl rfl rfl rfl ?_
        | refine jar rfl rfl rfl rfl rfl rfl rfl (by omega) ?_
        | refine jextract rfl rfl rfl rfl rfl rfl ?_
        | (refine gcall rfl rfl ?_
           first
           | (refine j_qc (f := 23) rfl rfl rfl rfl rfl rfl rfl ?_; refine ⟨_, (fun w' _ => p4 w'), ?_⟩)
           | (refine j_qc (f := 24) rfl rfl rfl rfl rfl rfl rfl ?_; refine ⟨_, (fun w' _ => p5 w'), ?_⟩))
        | (refine gcall rfl rfl ?_; refine j_nat2 (f := 32) rfl rfl rfl rfl rfl rfl rfl (fun w' _ => p1 w') ?_; intro A1 d1)
        | (refine gcall rfl rfl ?_; refine j_nat2 (f := 28) rfl rfl rfl rfl rfl rfl rfl (fun w' _ => p2 w') ?_; intro A2 d2)
        | (refine gcall rfl rfl ?_; refine j_nat2 (f := 29) rfl rfl rfl rfl rfl rfl rfl (fun w' _ => p3 w') ?_; intro A3 d3)
        | refine j_store rfl rfl rfl rfl rfl rfl rfl rfl (by (repeat (first | exact Upd.here | apply Upd.there))) (by rfl) ?_
        | (refine j_qe rfl rfl rfl ?_
           first
           | refine ⟨_, q_pick_t rfl rfl rfl, ?_⟩
           | refine ⟨_, q_pick_f rfl rfl rfl, ?_⟩
           | refine ⟨_, q_not rfl rfl, ?_⟩
           | refine ⟨_, q_index_nat rfl rfl rfl rfl rfl (by omega), ?_⟩
           | refine ⟨_, q_index_slice rfl rfl rfl rfl rfl (by omega), ?_⟩
           | refine ⟨_, q_index_arr rfl rfl rfl rfl rfl (by omega), ?_⟩
           | refine ⟨_, q_index_arr_ext rfl rfl rfl rfl rfl (by omega), ?_⟩
           | refine ⟨_, q_len_slice rfl rfl rfl rfl, ?_⟩
           | refine ⟨_, q_addu8 rfl rfl rfl (by omega), ?_⟩)
        | refine j_guard_undef rfl rfl rfl rfl rfl ?_
        | (refine j_guard rfl rfl rfl rfl rfl ?_ ?_ <;> intro hc <;> (first | (exact absurd hc (by decide)) | ((try simp only [decide_eq_true_eq, decide_eq_false_iff_not, Bool.not_eq_true', Bool.not_eq_false', Bool.not_true, Bool.not_false, ne_eq, Decidable.not_not] at hc) <;> first | (exfalso; omega) | (exact absurd trivial hc) | skip))))
     | (refine gSC ?_
        first
        | refine sc_seq ?_
        | refine sc_region ?_
        | (refine sc_cond rfl ?_ ?_ <;> intro hc <;> (first | (exact absurd hc (by decide)) | ((try simp only [decide_eq_true_eq, decide_eq_false_iff_not, Bool.not_eq_true', Bool.not_eq_false', Bool.not_true, Bool.not_false, ne_eq, Decidable.not_not] at hc) <;> first | (exfalso; omega) | (exact absurd trivial hc) | skip)))
        | refine sc_block ?_
        | refine sc_ret ?_
        | refine sc_exit ?_
        | refine sc_skip ?_)
     | (refine gSQ ?_
        first
        | refine sq_seq ?_
        | refine sq_blk ?_
        | refine sq_seq_ret ?_
        | refine sq_blk_ret ?_
        | refine sq_loop_ret ?_
        | refine sq_seq_exit ?_
        | refine sq_blk_hit ?_
        | refine sq_blk_miss rfl ?_
        | refine sq_loop_exit ?_
        | refine sq_ende (.inl rfl) rfl rfl ⟨_, (RVs.cons (RV.tmp rfl) (RVs.nil)), ?_⟩
        | refine sq_ende (.inr rfl) rfl rfl ⟨_, (RVs.cons (RV.tmp rfl) (RVs.nil)), ?_⟩)
     | refine j_nil ?_
     )
    all_goals exact sq_loop (n + 1) ⟨by omega, by omega⟩ (by omega) (by repeat (first | exact FSub.nil | refine FSub.cons rfl ?_ | refine FSub.conse rfl (by congr 1; omega) ?_)) (by repeat (first | exact LSub.nil | refine LSub.cons (by repeat (first | exact Rem.here | apply Rem.there)) ?_))
  · by_cases hv2 : n = 501
    · subst hv2
      have p1 : ∀ w', Calls Try.prog 32 #[.int .i64 ((501 : Nat) : Int), .int .i64 250] w' fun e w'' => e = .returned (.tuple #[.slice none 0 0, .int .i64 3]) ∧ Below w'.heap.size w' w'' := fun w' => choose_e 501 250 w' (by decide)
      have p2 : ∀ w', Calls Try.prog 28 #[.int .i64 ((501 : Nat) : Int), .int .i64 ((501 : Nat) : Int), .int .i64 9999] w' fun e w'' => e = .returned (.tuple #[.slice none 0 0, .int .i64 3]) ∧ Below w'.heap.size w' w'' := fun w' => upper_e 501 501 9999 w' (by decide)
      have p3 : ∀ w', Calls Try.prog 29 #[.int .i64 ((501 : Nat) : Int), .int .i64 0, .int .i64 10000] w' fun e w'' => e = .returned (.tuple #[.slice none 0 0, .int .i64 3]) ∧ Below w'.heap.size w' w'' := fun w' => lower_e 501 0 10000 w' (by decide)
      have p4 : ∀ w', Calls Try.prog 23 #[.int .i64 ((501 : Nat) : Int), .int .i64 ((501 : Nat) : Int), .int .i64 500] w' fun e w'' => e = .returned (.tuple #[.int .i64 0, .int .i64 3]) ∧ Below w'.heap.size w' w'' := fun w' => least_e 501 501 500 w' (by decide)
      have p5 : ∀ w', Calls Try.prog 24 #[.int .i64 ((501 : Nat) : Int), .int .i64 ((501 : Nat) : Int), .int .i64 500] w' fun e w'' => e = .returned (.tuple #[.int .i64 0, .int .i64 3]) ∧ Below w'.heap.size w' w'' := fun w' => greatest_e 501 501 500 w' (by decide)
      repeat' (first
       | (refine gJ ?_
          first
          | refine jmv rfl rfl rfl rfl rfl ?_
          | refine jcmp rfl rfl rfl rfl rfl rfl rfl ?_
          | refine jar rfl rfl rfl rfl rfl rfl rfl (by omega) ?_
          | refine jextract rfl rfl rfl rfl rfl rfl ?_
          | (refine gcall rfl rfl ?_
             first
             | (refine j_qc (f := 32) rfl rfl rfl rfl rfl rfl rfl ?_; refine ⟨_, (fun w' _ => p1 w'), ?_⟩)
             | (refine j_qc (f := 28) rfl rfl rfl rfl rfl rfl rfl ?_; refine ⟨_, (fun w' _ => p2 w'), ?_⟩)
             | (refine j_qc (f := 29) rfl rfl rfl rfl rfl rfl rfl ?_; refine ⟨_, (fun w' _ => p3 w'), ?_⟩)
             | (refine j_qc (f := 23) rfl rfl rfl rfl rfl rfl rfl ?_; refine ⟨_, (fun w' _ => p4 w'), ?_⟩)
             | (refine j_qc (f := 24) rfl rfl rfl rfl rfl rfl rfl ?_; refine ⟨_, (fun w' _ => p5 w'), ?_⟩))
          | refine j_store rfl rfl rfl rfl rfl rfl rfl rfl (by (repeat (first | exact Upd.here | apply Upd.there))) (by rfl) ?_
          | (refine j_qe rfl rfl rfl ?_
             first
             | refine ⟨_, q_pick_t rfl rfl rfl, ?_⟩
             | refine ⟨_, q_pick_f rfl rfl rfl, ?_⟩
             | refine ⟨_, q_not rfl rfl, ?_⟩
             | refine ⟨_, q_index_nat rfl rfl rfl rfl rfl (by omega), ?_⟩
             | refine ⟨_, q_index_slice rfl rfl rfl rfl rfl (by omega), ?_⟩
             | refine ⟨_, q_index_arr rfl rfl rfl rfl rfl (by omega), ?_⟩
             | refine ⟨_, q_index_arr_ext rfl rfl rfl rfl rfl (by omega), ?_⟩
             | refine ⟨_, q_len_slice rfl rfl rfl rfl, ?_⟩
             | refine ⟨_, q_addu8 rfl rfl rfl (by omega), ?_⟩)
          | refine j_guard_undef rfl rfl rfl rfl rfl ?_
          | (refine j_guard rfl rfl rfl rfl rfl ?_ ?_ <;> intro hc <;> (first | (exact absurd hc (by decide)) | ((try simp only [decide_eq_true_eq, decide_eq_false_iff_not, Bool.not_eq_true', Bool.not_eq_false', Bool.not_true, Bool.not_false, ne_eq, Decidable.not_not] at hc) <;> first | (exfalso; omega) | (exact absurd trivial hc) | skip))))
       | (refine gSC ?_
          first
          | refine sc_seq ?_
          | refine sc_region ?_
          | (refine sc_cond rfl ?_ ?_ <;> intro hc <;> (first | (exact absurd hc (by decide)) | ((try simp only [decide_eq_true_eq, decide_eq_false_iff_not, Bool.not_eq_true', Bool.not_eq_false', Bool.not_true, Bool.not_false, ne_eq, Decidable.not_not] at hc) <;> first | (exfalso; omega) | (exact absurd trivial hc) | skip)))
          | refine sc_block ?_
          | refine sc_ret ?_
          | refine sc_exit ?_
          | refine sc_skip ?_)
       | (refine gSQ ?_
          first
          | refine sq_seq ?_
          | refine sq_blk ?_
          | refine sq_seq_ret ?_
          | refine sq_blk_ret ?_
          | refine sq_loop_ret ?_
          | refine sq_seq_exit ?_
          | refine sq_blk_hit ?_
          | refine sq_blk_miss rfl ?_
          | refine sq_loop_exit ?_
          | refine sq_ende (.inl rfl) rfl rfl ⟨_, (RVs.cons (RV.tmp rfl) (RVs.nil)), ?_⟩
          | refine sq_ende (.inr rfl) rfl rfl ⟨_, (RVs.cons (RV.tmp rfl) (RVs.nil)), ?_⟩)
       | refine j_nil ?_
       )
      all_goals exact sq_loop 502 ⟨by omega, by omega⟩ (by omega) (by repeat (first | exact FSub.nil | refine FSub.cons rfl ?_ | refine FSub.conse rfl (by congr 1; omega) ?_)) (by repeat (first | exact LSub.nil | refine LSub.cons (by repeat (first | exact Rem.here | apply Rem.there)) ?_))
    · obtain rfl : n = 502 := by omega
      repeat' (first
       | (refine gJ ?_
          first
          | refine jmv rfl rfl rfl rfl rfl ?_
          | refine jcmp rfl rfl rfl rfl rfl rfl rfl ?_
          | refine jar rfl rfl rfl rfl rfl rfl rfl (by omega) ?_
          | refine jextract rfl rfl rfl rfl rfl rfl ?_
          | refine j_store rfl rfl rfl rfl rfl rfl rfl rfl (by (repeat (first | exact Upd.here | apply Upd.there))) (by rfl) ?_
          | (refine j_qe rfl rfl rfl ?_
             first
             | refine ⟨_, q_pick_t rfl rfl rfl, ?_⟩
             | refine ⟨_, q_pick_f rfl rfl rfl, ?_⟩
             | refine ⟨_, q_not rfl rfl, ?_⟩
             | refine ⟨_, q_index_nat rfl rfl rfl rfl rfl (by omega), ?_⟩
             | refine ⟨_, q_index_slice rfl rfl rfl rfl rfl (by omega), ?_⟩
             | refine ⟨_, q_index_arr rfl rfl rfl rfl rfl (by omega), ?_⟩
             | refine ⟨_, q_index_arr_ext rfl rfl rfl rfl rfl (by omega), ?_⟩
             | refine ⟨_, q_len_slice rfl rfl rfl rfl, ?_⟩
             | refine ⟨_, q_addu8 rfl rfl rfl (by omega), ?_⟩)
          | refine j_guard_undef rfl rfl rfl rfl rfl ?_
          | (refine j_guard rfl rfl rfl rfl rfl ?_ ?_ <;> intro hc <;> (first | (exact absurd hc (by decide)) | ((try simp only [decide_eq_true_eq, decide_eq_false_iff_not, Bool.not_eq_true', Bool.not_eq_false', Bool.not_true, Bool.not_false, ne_eq, Decidable.not_not] at hc) <;> first | (exfalso; omega) | (exact absurd trivial hc) | skip))))
       | (refine gSC ?_
          first
          | refine sc_seq ?_
          | refine sc_region ?_
          | (refine sc_cond rfl ?_ ?_ <;> intro hc <;> (first | (exact absurd hc (by decide)) | ((try simp only [decide_eq_true_eq, decide_eq_false_iff_not, Bool.not_eq_true', Bool.not_eq_false', Bool.not_true, Bool.not_false, ne_eq, Decidable.not_not] at hc) <;> first | (exfalso; omega) | (exact absurd trivial hc) | skip)))
          | refine sc_block ?_
          | refine sc_ret ?_
          | refine sc_exit ?_
          | refine sc_skip ?_)
       | (refine gSQ ?_
          first
          | refine sq_seq ?_
          | refine sq_blk ?_
          | refine sq_seq_ret ?_
          | refine sq_blk_ret ?_
          | refine sq_loop_ret ?_
          | refine sq_seq_exit ?_
          | refine sq_blk_hit ?_
          | refine sq_blk_miss rfl ?_
          | refine sq_loop_exit ?_
          | refine sq_ende (.inl rfl) rfl rfl ⟨_, (RVs.cons (RV.tmp rfl) (RVs.nil)), ?_⟩
          | refine sq_ende (.inr rfl) rfl rfl ⟨_, (RVs.cons (RV.tmp rfl) (RVs.nil)), ?_⟩)
       | refine j_nil ?_
       )
      refine sc_loop (ι := Nat) (fun i => 9999 ≤ i ∧ i ≤ 10002) (fun i => 10002 - i) (fun i => [(13, .int .i64 i)]) (fun _ => []) 9999 ⟨by omega, by omega⟩ (by repeat (first | exact FSub.nil | refine FSub.cons rfl ?_ | refine FSub.conse rfl (by congr 1; omega) ?_)) (by repeat (first | exact LSub.nil | refine LSub.cons (by repeat (first | exact Rem.here | apply Rem.there)) ?_)) ?_
      rintro n ⟨g1, g2⟩
      clear h1 h2 hv hv2
      by_cases hlt : n ≤ 10001
      · repeat' (first
         | (refine gJ ?_
            first
            | refine jmv rfl rfl rfl rfl rfl ?_
            | refine jcmp rfl rfl rfl rfl rfl rfl rfl ?_
            | refine jar rfl rfl rfl rfl rfl rfl rfl (by omega) ?_
            | refine jextract rfl rfl rfl rfl rfl rfl ?_
            | (refine j_make rfl rfl rfl rfl rfl rfl rfl rfl rfl rfl rfl ⟨by omega, by omega⟩ ?_; intro b)
            | refine j_store rfl rfl rfl rfl rfl rfl rfl rfl (by (repeat (first | exact Upd.here | apply Upd.there))) (by rfl) ?_
            | (refine j_qe rfl rfl rfl ?_
               first
               | refine ⟨_, q_pick_t rfl rfl rfl, ?_⟩
               | refine ⟨_, q_pick_f rfl rfl rfl, ?_⟩
               | refine ⟨_, q_not rfl rfl, ?_⟩
               | refine ⟨_, q_index_nat rfl rfl rfl rfl rfl (by omega), ?_⟩
               | refine ⟨_, q_index_slice rfl rfl rfl rfl rfl (by omega), ?_⟩
               | refine ⟨_, q_index_arr rfl rfl rfl rfl rfl (by omega), ?_⟩
               | refine ⟨_, q_index_arr_ext rfl rfl rfl rfl rfl (by omega), ?_⟩
               | refine ⟨_, q_len_slice rfl rfl rfl rfl, ?_⟩
               | refine ⟨_, q_addu8 rfl rfl rfl (by omega), ?_⟩)
            | refine j_guard_undef rfl rfl rfl rfl rfl ?_
            | (refine j_guard rfl rfl rfl rfl rfl ?_ ?_ <;> intro hc <;> (first | (exact absurd hc (by decide)) | ((try simp only [decide_eq_true_eq, decide_eq_false_iff_not, Bool.not_eq_true', Bool.not_eq_false', Bool.not_true, Bool.not_false, ne_eq, Decidable.not_not] at hc) <;> first | (exfalso; omega) | (exact absurd trivial hc) | skip))))
         | (refine gSC ?_
            first
            | refine sc_seq ?_
            | refine sc_region ?_
            | (refine sc_cond rfl ?_ ?_ <;> intro hc <;> (first | (exact absurd hc (by decide)) | ((try simp only [decide_eq_true_eq, decide_eq_false_iff_not, Bool.not_eq_true', Bool.not_eq_false', Bool.not_true, Bool.not_false, ne_eq, Decidable.not_not] at hc) <;> first | (exfalso; omega) | (exact absurd trivial hc) | skip)))
            | refine sc_block ?_
            | refine sc_ret ?_
            | refine sc_exit ?_
            | refine sc_skip ?_)
         | (refine gSQ ?_
            first
            | refine sq_seq ?_
            | refine sq_blk ?_
            | refine sq_seq_ret ?_
            | refine sq_blk_ret ?_
            | refine sq_loop_ret ?_
            | refine sq_seq_exit ?_
            | refine sq_blk_hit ?_
            | refine sq_blk_miss rfl ?_
            | refine sq_loop_exit ?_
            | refine sq_ende (.inl rfl) rfl rfl ⟨_, (RVs.cons (RV.tmp rfl) (RVs.nil)), ?_⟩
            | refine sq_ende (.inr rfl) rfl rfl ⟨_, (RVs.cons (RV.tmp rfl) (RVs.nil)), ?_⟩)
         | refine j_nil ?_
         )
        rw [show ((n : Int)).toNat = n from rfl]
        refine sc_loop (ι := Nat) (fun i => i ≤ n) (fun i => n - i) (fun i => [(13, .int .i64 n), (14, .slice (some ⟨b, 0, none⟩) n n), (119, .slice (some ⟨b, 0, none⟩) n n), (120, .int .i64 n), (121, .int .i64 i)]) (fun i => [.own (.slice (some ⟨b, 0, none⟩) n n) 3 1 n ((fl n i).flatMap intC)]) 0 (Nat.zero_le _) (by repeat (first | exact FSub.nil | refine FSub.cons rfl ?_ | refine FSub.conse rfl (by congr 1; omega) ?_)) (by
          rw [fl_zero, ← reps_flat intC 0 n]
          exact (by repeat (first | exact LSub.nil | refine LSub.cons (by repeat (first | exact Rem.here | apply Rem.there)) ?_))) ?_
        intro i hi
        by_cases hin : i < n
        · have hg := fl_get (n := n) (i := i) hin
          rw [if_neg (by omega)] at hg
          have hset := fl_set hin
          repeat' (first
           | (refine gJ ?_
              first
              | refine jmv rfl rfl rfl rfl rfl ?_
              | refine jcmp rfl rfl rfl rfl rfl rfl rfl ?_
              | refine jar rfl rfl rfl rfl rfl rfl rfl (by omega) ?_
              | refine jextract rfl rfl rfl rfl rfl rfl ?_
              | (refine j_qe rfl rfl rfl ?_; refine ⟨_, q_neg rfl rfl (i64_wrap (by omega) (by omega)), ?_⟩)
              | (refine j_store_row (f := intC) (z' := -(i : Int)) rfl rfl rfl rfl rfl rfl rfl rfl (by (repeat (first | exact InL.here | apply InL.there))) (fun _ => rfl) hg rfl rfl (by (repeat (first | exact Upd.here | apply Upd.there))) ?_)
              | refine j_store rfl rfl rfl rfl rfl rfl rfl rfl (by (repeat (first | exact Upd.here | apply Upd.there))) (by rfl) ?_
              | (refine j_qe rfl rfl rfl ?_
                 first
                 | refine ⟨_, q_pick_t rfl rfl rfl, ?_⟩
                 | refine ⟨_, q_pick_f rfl rfl rfl, ?_⟩
                 | refine ⟨_, q_not rfl rfl, ?_⟩
                 | refine ⟨_, q_index_nat rfl rfl rfl rfl rfl (by omega), ?_⟩
                 | refine ⟨_, q_index_slice rfl rfl rfl rfl rfl (by omega), ?_⟩
                 | refine ⟨_, q_index_arr rfl rfl rfl rfl rfl (by omega), ?_⟩
                 | refine ⟨_, q_index_arr_ext rfl rfl rfl rfl rfl (by omega), ?_⟩
                 | refine ⟨_, q_len_slice rfl rfl rfl rfl, ?_⟩
                 | refine ⟨_, q_addu8 rfl rfl rfl (by omega), ?_⟩)
              | refine j_guard_undef rfl rfl rfl rfl rfl ?_
              | (refine j_guard rfl rfl rfl rfl rfl ?_ ?_ <;> intro hc <;> (first | (exact absurd hc (by decide)) | ((try simp only [decide_eq_true_eq, decide_eq_false_iff_not, Bool.not_eq_true', Bool.not_eq_false', Bool.not_true, Bool.not_false, ne_eq, Decidable.not_not] at hc) <;> first | (exfalso; omega) | (exact absurd trivial hc) | skip))))
           | (refine gSC ?_
              first
              | refine sc_seq ?_
              | refine sc_region ?_
              | (refine sc_cond rfl ?_ ?_ <;> intro hc <;> (first | (exact absurd hc (by decide)) | ((try simp only [decide_eq_true_eq, decide_eq_false_iff_not, Bool.not_eq_true', Bool.not_eq_false', Bool.not_true, Bool.not_false, ne_eq, Decidable.not_not] at hc) <;> first | (exfalso; omega) | (exact absurd trivial hc) | skip)))
              | refine sc_block ?_
              | refine sc_ret ?_
              | refine sc_exit ?_
              | refine sc_skip ?_)
           | (refine gSQ ?_
              first
              | refine sq_seq ?_
              | refine sq_blk ?_
              | refine sq_seq_ret ?_
              | refine sq_blk_ret ?_
              | refine sq_loop_ret ?_
              | refine sq_seq_exit ?_
              | refine sq_blk_hit ?_
              | refine sq_blk_miss rfl ?_
              | refine sq_loop_exit ?_
              | refine sq_ende (.inl rfl) rfl rfl ⟨_, (RVs.cons (RV.tmp rfl) (RVs.nil)), ?_⟩
              | refine sq_ende (.inr rfl) rfl rfl ⟨_, (RVs.cons (RV.tmp rfl) (RVs.nil)), ?_⟩)
           | refine j_nil ?_
           )
          refine sq_loop (i + 1) (by omega) (by omega) (by repeat (first | exact FSub.nil | refine FSub.cons rfl ?_ | refine FSub.conse rfl (by congr 1; omega) ?_)) ?_
          rw [← hset]
          exact (by repeat (first | exact LSub.nil | refine LSub.cons (by repeat (first | exact Rem.here | apply Rem.there)) ?_))
        · obtain rfl : i = n := by omega
          have hfl := fl_len i i
          by_cases hv : i ≤ 10000
          · have q1 : ∀ A c w', SI w' A c (fl i i) → Calls Try.prog 37 #[.slice A (fl i i).length c, .int .i64 10000] w' _ := fun A c w' h => quant_c A c (fl i i) 10000 w' (by omega) (by omega) (by omega) h
            have q2 : ∀ A c w', SI w' A c (fl i i) → Calls Try.prog 37 #[.slice A (fl i i).length c, .int .i64 1] w' _ := fun A c w' h => quant_c A c (fl i i) 1 w' (by omega) (by omega) (by omega) h
            rw [hfl, fl_last (by omega)] at q1
            rw [hfl, fl_first (by omega) hv] at q2
            simp only [Option.getD_some] at q1 q2
            repeat' (first
             | (refine gJ ?_
                first
                | refine jmv rfl rfl rfl rfl rfl ?_
                | refine jcmp rfl rfl rfl rfl rfl rfl rfl ?_
                | refine jar rfl rfl rfl rfl rfl rfl rfl (by omega) ?_
                | refine jextract rfl rfl rfl rfl rfl rfl ?_
                | (refine gcall rfl rfl ?_
                   first
                   | (refine j_qc (f := 37) rfl rfl rfl rfl rfl rfl rfl ?_; refine ⟨_, (fun w' hs => q1 _ _ w' ⟨rs_own (f := intC) (fun _ => rfl) hs (by (repeat (first | exact InL.here | apply InL.there))) hfl.symm rfl, fun h => by cases h⟩), ?_⟩)
                   | (refine j_qc (f := 37) rfl rfl rfl rfl rfl rfl rfl ?_; refine ⟨_, (fun w' hs => q2 _ _ w' ⟨rs_own (f := intC) (fun _ => rfl) hs (by (repeat (first | exact InL.here | apply InL.there))) hfl.symm rfl, fun h => by cases h⟩), ?_⟩))
                | (refine j_qe rfl rfl rfl ?_; refine ⟨_, q_neqbr false rfl Try.underlying4 rfl rfl (by simp; omega), ?_⟩)
                | refine j_store rfl rfl rfl rfl rfl rfl rfl rfl (by (repeat (first | exact Upd.here | apply Upd.there))) (by rfl) ?_
                | (refine j_qe rfl rfl rfl ?_
                   first
                   | refine ⟨_, q_pick_t rfl rfl rfl, ?_⟩
                   | refine ⟨_, q_pick_f rfl rfl rfl, ?_⟩
                   | refine ⟨_, q_not rfl rfl, ?_⟩
                   | refine ⟨_, q_index_nat rfl rfl rfl rfl rfl (by omega), ?_⟩
                   | refine ⟨_, q_index_slice rfl rfl rfl rfl rfl (by omega), ?_⟩
                   | refine ⟨_, q_index_arr rfl rfl rfl rfl rfl (by omega), ?_⟩
                   | refine ⟨_, q_index_arr_ext rfl rfl rfl rfl rfl (by omega), ?_⟩
                   | refine ⟨_, q_len_slice rfl rfl rfl rfl, ?_⟩
                   | refine ⟨_, q_addu8 rfl rfl rfl (by omega), ?_⟩)
                | refine j_guard_undef rfl rfl rfl rfl rfl ?_
                | (refine j_guard rfl rfl rfl rfl rfl ?_ ?_ <;> intro hc <;> (first | (exact absurd hc (by decide)) | ((try simp only [decide_eq_true_eq, decide_eq_false_iff_not, Bool.not_eq_true', Bool.not_eq_false', Bool.not_true, Bool.not_false, ne_eq, Decidable.not_not] at hc) <;> first | (exfalso; omega) | (exact absurd trivial hc) | skip))))
             | (refine gSC ?_
                first
                | refine sc_seq ?_
                | refine sc_region ?_
                | (refine sc_cond rfl ?_ ?_ <;> intro hc <;> (first | (exact absurd hc (by decide)) | ((try simp only [decide_eq_true_eq, decide_eq_false_iff_not, Bool.not_eq_true', Bool.not_eq_false', Bool.not_true, Bool.not_false, ne_eq, Decidable.not_not] at hc) <;> first | (exfalso; omega) | (exact absurd trivial hc) | skip)))
                | refine sc_block ?_
                | refine sc_ret ?_
                | refine sc_exit ?_
                | refine sc_skip ?_)
             | (refine gSQ ?_
                first
                | refine sq_seq ?_
                | refine sq_blk ?_
                | refine sq_seq_ret ?_
                | refine sq_blk_ret ?_
                | refine sq_loop_ret ?_
                | refine sq_seq_exit ?_
                | refine sq_blk_hit ?_
                | refine sq_blk_miss rfl ?_
                | refine sq_loop_exit ?_
                | refine sq_ende (.inl rfl) rfl rfl ⟨_, (RVs.cons (RV.tmp rfl) (RVs.nil)), ?_⟩
                | refine sq_ende (.inr rfl) rfl rfl ⟨_, (RVs.cons (RV.tmp rfl) (RVs.nil)), ?_⟩)
             | refine j_nil ?_
             )
            all_goals exact sq_loop (i + 1) ⟨by omega, by omega⟩ (by omega) (by repeat (first | exact FSub.nil | refine FSub.cons rfl ?_ | refine FSub.conse rfl (by congr 1; omega) ?_)) (by repeat (first | exact LSub.nil | refine LSub.cons (by repeat (first | exact Rem.here | apply Rem.there)) ?_))
          · have q1 : ∀ A c (q : Int) w', Calls Try.prog 37 #[.slice A (fl i i).length c, .int .i64 q] w' _ := fun A c q w' => quant_e A c (fl i i) q w' (by omega) (.inl (by omega))
            have e1 : ∀ q : Int, quantF (fl i i) q = (0, 5) := fun q => by unfold quantF; rw [if_pos (by omega)]
            simp only [e1] at q1
            rw [hfl] at q1
            repeat' (first
             | (refine gJ ?_
                first
                | refine jmv rfl rfl rfl rfl rfl ?_
                | refine jcmp rfl rfl rfl rfl rfl rfl rfl ?_
                | refine jar rfl rfl rfl rfl rfl rfl rfl (by omega) ?_
                | refine jextract rfl rfl rfl rfl rfl rfl ?_
                | (refine gcall rfl rfl ?_
                   first
                   | (refine j_qc (f := 37) rfl rfl rfl rfl rfl rfl rfl ?_; refine ⟨_, (fun w' hs => q1 _ _ _ w'), ?_⟩))
                | (refine j_qe rfl rfl rfl ?_; refine ⟨_, q_neqbr false rfl Try.underlying4 rfl rfl (by simp; omega), ?_⟩)
                | refine j_store rfl rfl rfl rfl rfl rfl rfl rfl (by (repeat (first | exact Upd.here | apply Upd.there))) (by rfl) ?_
                | (refine j_qe rfl rfl rfl ?_
                   first
                   | refine ⟨_, q_pick_t rfl rfl rfl, ?_⟩
                   | refine ⟨_, q_pick_f rfl rfl rfl, ?_⟩
                   | refine ⟨_, q_not rfl rfl, ?_⟩
                   | refine ⟨_, q_index_nat rfl rfl rfl rfl rfl (by omega), ?_⟩
                   | refine ⟨_, q_index_slice rfl rfl rfl rfl rfl (by omega), ?_⟩
                   | refine ⟨_, q_index_arr rfl rfl rfl rfl rfl (by omega), ?_⟩
                   | refine ⟨_, q_index_arr_ext rfl rfl rfl rfl rfl (by omega), ?_⟩
                   | refine ⟨_, q_len_slice rfl rfl rfl rfl, ?_⟩
                   | refine ⟨_, q_addu8 rfl rfl rfl (by omega), ?_⟩)
                | refine j_guard_undef rfl rfl rfl rfl rfl ?_
                | (refine j_guard rfl rfl rfl rfl rfl ?_ ?_ <;> intro hc <;> (first | (exact absurd hc (by decide)) | ((try simp only [decide_eq_true_eq, decide_eq_false_iff_not, Bool.not_eq_true', Bool.not_eq_false', Bool.not_true, Bool.not_false, ne_eq, Decidable.not_not] at hc) <;> first | (exfalso; omega) | (exact absurd trivial hc) | skip))))
             | (refine gSC ?_
                first
                | refine sc_seq ?_
                | refine sc_region ?_
                | (refine sc_cond rfl ?_ ?_ <;> intro hc <;> (first | (exact absurd hc (by decide)) | ((try simp only [decide_eq_true_eq, decide_eq_false_iff_not, Bool.not_eq_true', Bool.not_eq_false', Bool.not_true, Bool.not_false, ne_eq, Decidable.not_not] at hc) <;> first | (exfalso; omega) | (exact absurd trivial hc) | skip)))
                | refine sc_block ?_
                | refine sc_ret ?_
                | refine sc_exit ?_
                | refine sc_skip ?_)
             | (refine gSQ ?_
                first
                | refine sq_seq ?_
                | refine sq_blk ?_
                | refine sq_seq_ret ?_
                | refine sq_blk_ret ?_
                | refine sq_loop_ret ?_
                | refine sq_seq_exit ?_
                | refine sq_blk_hit ?_
                | refine sq_blk_miss rfl ?_
                | refine sq_loop_exit ?_
                | refine sq_ende (.inl rfl) rfl rfl ⟨_, (RVs.cons (RV.tmp rfl) (RVs.nil)), ?_⟩
                | refine sq_ende (.inr rfl) rfl rfl ⟨_, (RVs.cons (RV.tmp rfl) (RVs.nil)), ?_⟩)
             | refine j_nil ?_
             )
            all_goals exact sq_loop (i + 1) ⟨by omega, by omega⟩ (by omega) (by repeat (first | exact FSub.nil | refine FSub.cons rfl ?_ | refine FSub.conse rfl (by congr 1; omega) ?_)) (by repeat (first | exact LSub.nil | refine LSub.cons (by repeat (first | exact Rem.here | apply Rem.there)) ?_))
      · repeat' (first
         | (refine gJ ?_
            first
            | refine jmv rfl rfl rfl rfl rfl ?_
            | refine jcmp rfl rfl rfl rfl rfl rfl rfl ?_
            | refine jar rfl rfl rfl rfl rfl rfl rfl (by omega) ?_
            | refine jextract rfl rfl rfl rfl rfl rfl ?_
            | (refine gcall rfl rfl ?_
               first
               | (refine j_qc (f := 14) rfl rfl rfl rfl rfl rfl rfl ?_; refine ⟨_, (fun w' _ => awake_c w'), ?_⟩))
            | refine j_store rfl rfl rfl rfl rfl rfl rfl rfl (by (repeat (first | exact Upd.here | apply Upd.there))) (by rfl) ?_
            | (refine j_qe rfl rfl rfl ?_
               first
               | refine ⟨_, q_pick_t rfl rfl rfl, ?_⟩
               | refine ⟨_, q_pick_f rfl rfl rfl, ?_⟩
               | refine ⟨_, q_not rfl rfl, ?_⟩
               | refine ⟨_, q_index_nat rfl rfl rfl rfl rfl (by omega), ?_⟩
               | refine ⟨_, q_index_slice rfl rfl rfl rfl rfl (by omega), ?_⟩
               | refine ⟨_, q_index_arr rfl rfl rfl rfl rfl (by omega), ?_⟩
               | refine ⟨_, q_index_arr_ext rfl rfl rfl rfl rfl (by omega), ?_⟩
               | refine ⟨_, q_len_slice rfl rfl rfl rfl, ?_⟩
               | refine ⟨_, q_addu8 rfl rfl rfl (by omega), ?_⟩)
            | refine j_guard_undef rfl rfl rfl rfl rfl ?_
            | (refine j_guard rfl rfl rfl rfl rfl ?_ ?_ <;> intro hc <;> (first | (exact absurd hc (by decide)) | ((try simp only [decide_eq_true_eq, decide_eq_false_iff_not, Bool.not_eq_true', Bool.not_eq_false', Bool.not_true, Bool.not_false, ne_eq, Decidable.not_not] at hc) <;> first | (exfalso; omega) | (exact absurd trivial hc) | skip))))
         | (refine gSC ?_
            first
            | refine sc_seq ?_
            | refine sc_region ?_
            | (refine sc_cond rfl ?_ ?_ <;> intro hc <;> (first | (exact absurd hc (by decide)) | ((try simp only [decide_eq_true_eq, decide_eq_false_iff_not, Bool.not_eq_true', Bool.not_eq_false', Bool.not_true, Bool.not_false, ne_eq, Decidable.not_not] at hc) <;> first | (exfalso; omega) | (exact absurd trivial hc) | skip)))
            | refine sc_block ?_
            | refine sc_ret ?_
            | refine sc_exit ?_
            | refine sc_skip ?_)
         | (refine gSQ ?_
            first
            | refine sq_seq ?_
            | refine sq_blk ?_
            | refine sq_seq_ret ?_
            | refine sq_blk_ret ?_
            | refine sq_loop_ret ?_
            | refine sq_seq_exit ?_
            | refine sq_blk_hit ?_
            | refine sq_blk_miss rfl ?_
            | refine sq_loop_exit ?_
            | refine sq_ende (.inl rfl) rfl rfl ⟨_, (RVs.cons (RV.tmp rfl) (RVs.nil)), ?_⟩
            | refine sq_ende (.inr rfl) rfl rfl ⟨_, (RVs.cons (RV.tmp rfl) (RVs.nil)), ?_⟩)
         | refine j_nil ?_
         )
        (intro w' hS; refine ⟨?_, hS.below⟩; simp only [pack])
theorem ext_now {w0 w : World} {L : List HA} {b u : Nat} {cs : List Value} (hs : St w0 Cold L w) (hin : InL L (.cells b u cs)) : Ext w ⟨b, 0, none⟩ cs := hs.ext hin
theorem rs_ext {w : World} {b : Nat} {l : List Int} (hE : Ext w ⟨b, 0, none⟩ (l.flatMap intC)) : RS w 1 intC (some ⟨b, 0, none⟩) l := fun i x hx => by
  refine ⟨_, rfl, by rw [block_add]; exact hE.lt, fun j v hv => ?_⟩
  rw [nth_eq] at hv
  have hfl := flat_at intC 1 (fun _ => rfl) l i x j v hx hv
  rw [Eng.add_add]
  exact hE.cell _ _ (by rw [nth_eq]; exact hfl)
/-- A list of numbers, as the law has it. -/
def GoodS (w : World) (v : Value) : Prop := ∃ A c l, v = .slice A (List.length l) c ∧ l.length ≤ 10 ∧ Sl A l.length c ∧ RS w 1 intC A l
theorem good_lit {w : World} {b : Nat} (l : List Int) (hE : Ext w ⟨b, 0, none⟩ (l.flatMap intC)) (hl : l.length ≤ 10) : GoodS w (.slice (some ⟨b, 0, none⟩) l.length l.length) := ⟨_, _, l, rfl, hl, sl_lit (by omega), rs_ext hE⟩
theorem good_nil {w : World} : GoodS w (.slice none 0 0) := ⟨none, 0, [], rfl, by simp, ⟨fun _ => ⟨rfl, rfl⟩, Nat.le_refl _, by omega⟩, RS.nil⟩
set_option maxRecDepth 4000 in
set_option maxHeartbeats 8000000 in
theorem small_c (w : World) : Calls Try.prog 6 #[] w fun e w' => e = .returned (.bool true) ∧ Below w.heap.size w w' := by
  refine eng_start (n := 118) (args := []) tab tab_ok fns fns_ok [.tmp 0] Try.func6 rfl rfl rfl rfl ?_
  repeat' (first
   | (refine gJ ?_
      first
      | refine jmv rfl rfl rfl rfl rfl ?_
      | (refine gload rfl rfl ?_
         refine j_qe rfl rfl rfl ?_
         first
         | refine ⟨_, q_load_own rfl rfl rfl rfl (by (repeat (first | exact InL.here | apply InL.there))) (by first | rfl | assumption), ?_⟩
         | refine ⟨_, q_loadA_own rfl rfl rfl rfl (by (repeat (first | exact InL.here | apply InL.there))) (by rfl), ?_⟩
         | refine ⟨_, q_loadA_ext rfl rfl rfl rfl ⟨by assumption, (by first | exact id | assumption)⟩ (by rfl), ?_⟩
         | refine ⟨_, q_load_ext rfl rfl rfl rfl ⟨by assumption, (by first | exact id | assumption)⟩ (by first | rfl | assumption), ?_⟩
         | refine ⟨_, q_load_extb rfl rfl rfl rfl ⟨by assumption, (by first | exact id | assumption)⟩ (by rfl), ?_⟩
         | refine ⟨_, q_loadA_extb rfl rfl rfl rfl ⟨by assumption, (by first | exact id | assumption)⟩ (by rfl), ?_⟩
         | refine ⟨_, q_load_ext0 rfl rfl rfl rfl ⟨by assumption, (by first | exact id | assumption)⟩ (by rfl), ?_⟩)
      | refine jcmp rfl rfl rfl rfl rfl rfl rfl ?_
      | refine jar rfl rfl rfl rfl rfl rfl rfl (by omega) ?_
      | (refine j_qe rfl rfl rfl ?_
         first
         | refine ⟨_, q_pick_t rfl rfl rfl, ?_⟩
         | refine ⟨_, q_pick_f rfl rfl rfl, ?_⟩
         | refine ⟨_, q_not rfl rfl, ?_⟩
         | refine ⟨_, q_index_nat rfl rfl rfl rfl rfl (by omega), ?_⟩
         | refine ⟨_, q_index_slice rfl rfl rfl rfl rfl (by omega), ?_⟩
         | refine ⟨_, q_index_arr rfl rfl rfl rfl rfl (by omega), ?_⟩
         | refine ⟨_, q_index_arr_ext rfl rfl rfl rfl rfl (by omega), ?_⟩
         | refine ⟨_, q_len_slice rfl rfl rfl rfl, ?_⟩
         | refine ⟨_, q_addu8 rfl rfl rfl (by omega), ?_⟩)
      | refine j_guard_undef rfl rfl rfl rfl rfl ?_
      | (refine j_guard rfl rfl rfl rfl rfl ?_ ?_ <;> intro hc <;> (first | (exact absurd hc (by decide)) | ((try simp only [decide_eq_true_eq, decide_eq_false_iff_not, Bool.not_eq_true', Bool.not_eq_false', Bool.not_true, Bool.not_false, ne_eq, Decidable.not_not] at hc) <;> first | (exfalso; omega) | (exact absurd trivial hc) | skip)))
      | (refine j_buildSlice rfl rfl rfl rfl rfl rfl rfl rfl rfl rfl rfl rfl ?_; intro b))
   | (refine gSC ?_
      first
      | refine sc_seq ?_
      | refine sc_region ?_
      | (refine sc_cond rfl ?_ ?_ <;> intro hc <;> (first | (exact absurd hc (by decide)) | ((try simp only [decide_eq_true_eq, decide_eq_false_iff_not, Bool.not_eq_true', Bool.not_eq_false', Bool.not_true, Bool.not_false, ne_eq, Decidable.not_not] at hc) <;> first | (exfalso; omega) | (exact absurd trivial hc) | skip)))
      | refine sc_block ?_
      | refine sc_ret ?_
      | refine sc_exit ?_
      | refine sc_skip ?_)
   | (refine gSQ ?_
      first
      | refine sq_seq ?_
      | refine sq_blk ?_
      | refine sq_seq_ret ?_
      | refine sq_blk_ret ?_
      | refine sq_loop_ret ?_
      | refine sq_seq_exit ?_
      | refine sq_blk_hit ?_
      | refine sq_blk_miss rfl ?_
      | refine sq_loop_exit ?_
      | refine sq_ende (.inl rfl) rfl rfl ⟨_, (RVs.cons (RV.tmp rfl) (RVs.nil)), ?_⟩
      | refine sq_ende (.inr rfl) rfl rfl ⟨_, (RVs.cons (RV.tmp rfl) (RVs.nil)), ?_⟩)
   | refine j_nil ?_
   )
  refine sc_loop (ι := Int) (fun n => -1 ≤ n ∧ n ≤ 7) (fun n => (7 - n).toNat) (fun n => [(1, .int .i64 n)]) (fun _ => []) (-1) ⟨by omega, by omega⟩ (by repeat (first | exact FSub.nil | refine FSub.cons rfl ?_ | refine FSub.conse rfl (by congr 1; omega) ?_)) (by repeat (first | exact LSub.nil | refine LSub.cons (by repeat (first | exact Rem.here | apply Rem.there)) ?_)) ?_
  rintro n ⟨hn1, hn2⟩
  by_cases hn : n ≤ 6
  · repeat' (first
     | (refine gJ ?_
        first
        | refine jmv rfl rfl rfl rfl rfl ?_
        | (refine gload rfl rfl ?_
           refine j_qe rfl rfl rfl ?_
           first
           | refine ⟨_, q_load_own rfl rfl rfl rfl (by (repeat (first | exact InL.here | apply InL.there))) (by first | rfl | assumption), ?_⟩
           | refine ⟨_, q_loadA_own rfl rfl rfl rfl (by (repeat (first | exact InL.here | apply InL.there))) (by rfl), ?_⟩
           | refine ⟨_, q_loadA_ext rfl rfl rfl rfl ⟨by assumption, (by first | exact id | assumption)⟩ (by rfl), ?_⟩
           | refine ⟨_, q_load_ext rfl rfl rfl rfl ⟨by assumption, (by first | exact id | assumption)⟩ (by first | rfl | assumption), ?_⟩
           | refine ⟨_, q_load_extb rfl rfl rfl rfl ⟨by assumption, (by first | exact id | assumption)⟩ (by rfl), ?_⟩
           | refine ⟨_, q_loadA_extb rfl rfl rfl rfl ⟨by assumption, (by first | exact id | assumption)⟩ (by rfl), ?_⟩
           | refine ⟨_, q_load_ext0 rfl rfl rfl rfl ⟨by assumption, (by first | exact id | assumption)⟩ (by rfl), ?_⟩)
        | refine jcmp rfl rfl rfl rfl rfl rfl rfl ?_
        | refine jar rfl rfl rfl rfl rfl rfl rfl (by omega) ?_
        | (refine j_qe rfl rfl rfl ?_
           first
           | refine ⟨_, q_pick_t rfl rfl rfl, ?_⟩
           | refine ⟨_, q_pick_f rfl rfl rfl, ?_⟩
           | refine ⟨_, q_not rfl rfl, ?_⟩
           | refine ⟨_, q_index_nat rfl rfl rfl rfl rfl (by omega), ?_⟩
           | refine ⟨_, q_index_slice rfl rfl rfl rfl rfl (by omega), ?_⟩
           | refine ⟨_, q_index_arr rfl rfl rfl rfl rfl (by omega), ?_⟩
           | refine ⟨_, q_index_arr_ext rfl rfl rfl rfl rfl (by omega), ?_⟩
           | refine ⟨_, q_len_slice rfl rfl rfl rfl, ?_⟩
           | refine ⟨_, q_addu8 rfl rfl rfl (by omega), ?_⟩)
        | refine j_guard_undef rfl rfl rfl rfl rfl ?_
        | (refine j_guard rfl rfl rfl rfl rfl ?_ ?_ <;> intro hc <;> (first | (exact absurd hc (by decide)) | ((try simp only [decide_eq_true_eq, decide_eq_false_iff_not, Bool.not_eq_true', Bool.not_eq_false', Bool.not_true, Bool.not_false, ne_eq, Decidable.not_not] at hc) <;> first | (exfalso; omega) | (exact absurd trivial hc) | skip)))
        | (refine j_buildSlice rfl rfl rfl rfl rfl rfl rfl rfl rfl rfl rfl rfl ?_; intro b))
     | (refine gSC ?_
        first
        | refine sc_seq ?_
        | refine sc_region ?_
        | (refine sc_cond rfl ?_ ?_ <;> intro hc <;> (first | (exact absurd hc (by decide)) | ((try simp only [decide_eq_true_eq, decide_eq_false_iff_not, Bool.not_eq_true', Bool.not_eq_false', Bool.not_true, Bool.not_false, ne_eq, Decidable.not_not] at hc) <;> first | (exfalso; omega) | (exact absurd trivial hc) | skip)))
        | refine sc_block ?_
        | refine sc_ret ?_
        | refine sc_exit ?_
        | refine sc_skip ?_)
     | (refine gSQ ?_
        first
        | refine sq_seq ?_
        | refine sq_blk ?_
        | refine sq_seq_ret ?_
        | refine sq_blk_ret ?_
        | refine sq_loop_ret ?_
        | refine sq_seq_exit ?_
        | refine sq_blk_hit ?_
        | refine sq_blk_miss rfl ?_
        | refine sq_loop_exit ?_
        | refine sq_ende (.inl rfl) rfl rfl ⟨_, (RVs.cons (RV.tmp rfl) (RVs.nil)), ?_⟩
        | refine sq_ende (.inr rfl) rfl rfl ⟨_, (RVs.cons (RV.tmp rfl) (RVs.nil)), ?_⟩)
     | refine j_nil ?_
     )
    refine sc_loop (ι := Int) (fun k => -1 ≤ k ∧ k ≤ n + 2) (fun k => (n + 2 - k).toNat) (fun k => [(1, .int .i64 n), (2, .int .i64 k)]) (fun _ => []) (-1) ⟨by omega, by omega⟩ (by repeat (first | exact FSub.nil | refine FSub.cons rfl ?_ | refine FSub.conse rfl (by congr 1; omega) ?_)) (by repeat (first | exact LSub.nil | refine LSub.cons (by repeat (first | exact Rem.here | apply Rem.there)) ?_)) ?_
    rintro k ⟨hk1, hk2⟩
    by_cases hk : k ≤ n + 1
    · repeat' (first
       | (refine gJ ?_
          first
          | refine jmv rfl rfl rfl rfl rfl ?_
          | (refine gload rfl rfl ?_
             refine j_qe rfl rfl rfl ?_
             first
             | refine ⟨_, q_load_own rfl rfl rfl rfl (by (repeat (first | exact InL.here | apply InL.there))) (by first | rfl | assumption), ?_⟩
             | refine ⟨_, q_loadA_own rfl rfl rfl rfl (by (repeat (first | exact InL.here | apply InL.there))) (by rfl), ?_⟩
             | refine ⟨_, q_loadA_ext rfl rfl rfl rfl ⟨by assumption, (by first | exact id | assumption)⟩ (by rfl), ?_⟩
             | refine ⟨_, q_load_ext rfl rfl rfl rfl ⟨by assumption, (by first | exact id | assumption)⟩ (by first | rfl | assumption), ?_⟩
             | refine ⟨_, q_load_extb rfl rfl rfl rfl ⟨by assumption, (by first | exact id | assumption)⟩ (by rfl), ?_⟩
             | refine ⟨_, q_loadA_extb rfl rfl rfl rfl ⟨by assumption, (by first | exact id | assumption)⟩ (by rfl), ?_⟩
             | refine ⟨_, q_load_ext0 rfl rfl rfl rfl ⟨by assumption, (by first | exact id | assumption)⟩ (by rfl), ?_⟩)
          | refine jcmp rfl rfl rfl rfl rfl rfl rfl ?_
          | refine jar rfl rfl rfl rfl rfl rfl rfl (by omega) ?_
          | (refine j_qe rfl rfl rfl ?_
             first
             | refine ⟨_, q_pick_t rfl rfl rfl, ?_⟩
             | refine ⟨_, q_pick_f rfl rfl rfl, ?_⟩
             | refine ⟨_, q_not rfl rfl, ?_⟩
             | refine ⟨_, q_index_nat rfl rfl rfl rfl rfl (by omega), ?_⟩
             | refine ⟨_, q_index_slice rfl rfl rfl rfl rfl (by omega), ?_⟩
             | refine ⟨_, q_index_arr rfl rfl rfl rfl rfl (by omega), ?_⟩
             | refine ⟨_, q_index_arr_ext rfl rfl rfl rfl rfl (by omega), ?_⟩
             | refine ⟨_, q_len_slice rfl rfl rfl rfl, ?_⟩
             | refine ⟨_, q_addu8 rfl rfl rfl (by omega), ?_⟩)
          | refine j_guard_undef rfl rfl rfl rfl rfl ?_
          | (refine j_guard rfl rfl rfl rfl rfl ?_ ?_ <;> intro hc <;> (first | (exact absurd hc (by decide)) | ((try simp only [decide_eq_true_eq, decide_eq_false_iff_not, Bool.not_eq_true', Bool.not_eq_false', Bool.not_true, Bool.not_false, ne_eq, Decidable.not_not] at hc) <;> first | (exfalso; omega) | (exact absurd trivial hc) | skip)))
          | (refine j_buildSlice rfl rfl rfl rfl rfl rfl rfl rfl rfl rfl rfl rfl ?_; intro b))
       | (refine gSC ?_
          first
          | refine sc_seq ?_
          | refine sc_region ?_
          | (refine sc_cond rfl ?_ ?_ <;> intro hc <;> (first | (exact absurd hc (by decide)) | ((try simp only [decide_eq_true_eq, decide_eq_false_iff_not, Bool.not_eq_true', Bool.not_eq_false', Bool.not_true, Bool.not_false, ne_eq, Decidable.not_not] at hc) <;> first | (exfalso; omega) | (exact absurd trivial hc) | skip)))
          | refine sc_block ?_
          | refine sc_ret ?_
          | refine sc_exit ?_
          | refine sc_skip ?_)
       | (refine gSQ ?_
          first
          | refine sq_seq ?_
          | refine sq_blk ?_
          | refine sq_seq_ret ?_
          | refine sq_blk_ret ?_
          | refine sq_loop_ret ?_
          | refine sq_seq_exit ?_
          | refine sq_blk_hit ?_
          | refine sq_blk_miss rfl ?_
          | refine sq_loop_exit ?_
          | refine sq_ende (.inl rfl) rfl rfl ⟨_, (RVs.cons (RV.tmp rfl) (RVs.nil)), ?_⟩
          | refine sq_ende (.inr rfl) rfl rfl ⟨_, (RVs.cons (RV.tmp rfl) (RVs.nil)), ?_⟩)
       | refine j_nil ?_
       )
      refine sc_lit (n := 9) 1 (b := b) (by (repeat (first | exact Upd.here | apply Upd.there))) rfl (by omega) ?_
      refine sc_loop (ι := Nat) (fun i => i ≤ 9) (fun i => 9 - i) (fun i => [(1, .int .i64 n), (2, .int .i64 k), (24, .slice (some ⟨b, 0, none⟩) 9 9), (25, .int .i64 9), (26, .int .i64 i)]) (fun _ => [.own (.slice (some ⟨b, 0, none⟩) 9 9) 3 1 9 (([-1, 0, 1, 4999, 5000, 5001, 9999, 10000, 10001] : List Int).flatMap intC)]) 0 (Nat.zero_le _) (by repeat (first | exact FSub.nil | refine FSub.cons rfl ?_ | refine FSub.conse rfl (by congr 1; omega) ?_)) (by repeat (first | exact LSub.nil | refine LSub.cons (by repeat (first | exact Rem.here | apply Rem.there)) ?_)) ?_
      intro i hi
      by_cases hlt : i < 9
      · obtain ⟨x, hx⟩ : ∃ x, ([-1, 0, 1, 4999, 5000, 5001, 9999, 10000, 10001] : List Int)[i]? = some x := ⟨_, List.getElem?_eq_getElem (by simpa using hlt)⟩
        repeat' (first
         | (refine gJ ?_
            first
            | refine jmv rfl rfl rfl rfl rfl ?_
            | refine jcmp rfl rfl rfl rfl rfl rfl rfl ?_
            | refine jar rfl rfl rfl rfl rfl rfl rfl (by omega) ?_
            | (refine gcall rfl rfl ?_
               first
               | (refine j_qc (f := 15) rfl rfl rfl rfl rfl rfl rfl ?_; refine ⟨_, (fun w' _ => stells_c n k x w'), ?_⟩))
            | (refine j_qe rfl rfl rfl ?_; refine ⟨_, q_row1 (f := intC) rfl rfl rfl rfl (by (repeat (first | exact InL.here | apply InL.there))) (fun _ => rfl) hx rfl, ?_⟩)
            | (refine j_qe rfl rfl rfl ?_
               first
               | refine ⟨_, q_pick_t rfl rfl rfl, ?_⟩
               | refine ⟨_, q_pick_f rfl rfl rfl, ?_⟩
               | refine ⟨_, q_not rfl rfl, ?_⟩
               | refine ⟨_, q_index_nat rfl rfl rfl rfl rfl (by omega), ?_⟩
               | refine ⟨_, q_index_slice rfl rfl rfl rfl rfl (by omega), ?_⟩
               | refine ⟨_, q_index_arr rfl rfl rfl rfl rfl (by omega), ?_⟩
               | refine ⟨_, q_index_arr_ext rfl rfl rfl rfl rfl (by omega), ?_⟩
               | refine ⟨_, q_len_slice rfl rfl rfl rfl, ?_⟩
               | refine ⟨_, q_addu8 rfl rfl rfl (by omega), ?_⟩)
            | refine j_guard_undef rfl rfl rfl rfl rfl ?_
            | (refine j_guard rfl rfl rfl rfl rfl ?_ ?_ <;> intro hc <;> (first | (exact absurd hc (by decide)) | ((try simp only [decide_eq_true_eq, decide_eq_false_iff_not, Bool.not_eq_true', Bool.not_eq_false', Bool.not_true, Bool.not_false, ne_eq, Decidable.not_not] at hc) <;> first | (exfalso; omega) | (exact absurd trivial hc) | skip)))
            | (refine j_buildSlice rfl rfl rfl rfl rfl rfl rfl rfl rfl rfl rfl rfl ?_; intro b))
         | (refine gSC ?_
            first
            | refine sc_seq ?_
            | refine sc_region ?_
            | (refine sc_cond rfl ?_ ?_ <;> intro hc <;> (first | (exact absurd hc (by decide)) | ((try simp only [decide_eq_true_eq, decide_eq_false_iff_not, Bool.not_eq_true', Bool.not_eq_false', Bool.not_true, Bool.not_false, ne_eq, Decidable.not_not] at hc) <;> first | (exfalso; omega) | (exact absurd trivial hc) | skip)))
            | refine sc_block ?_
            | refine sc_ret ?_
            | refine sc_exit ?_
            | refine sc_skip ?_)
         | (refine gSQ ?_
            first
            | refine sq_seq ?_
            | refine sq_blk ?_
            | refine sq_seq_ret ?_
            | refine sq_blk_ret ?_
            | refine sq_loop_ret ?_
            | refine sq_seq_exit ?_
            | refine sq_blk_hit ?_
            | refine sq_blk_miss rfl ?_
            | refine sq_loop_exit ?_
            | refine sq_ende (.inl rfl) rfl rfl ⟨_, (RVs.cons (RV.tmp rfl) (RVs.nil)), ?_⟩
            | refine sq_ende (.inr rfl) rfl rfl ⟨_, (RVs.cons (RV.tmp rfl) (RVs.nil)), ?_⟩)
         | refine j_nil ?_
         )
        exact sq_loop (i + 1) (by omega) (by omega) (by repeat (first | exact FSub.nil | refine FSub.cons rfl ?_ | refine FSub.conse rfl (by congr 1; omega) ?_)) (by repeat (first | exact LSub.nil | refine LSub.cons (by repeat (first | exact Rem.here | apply Rem.there)) ?_))
      · obtain rfl : i = 9 := by omega
        repeat' (first
         | (refine gJ ?_
            first
            | refine jmv rfl rfl rfl rfl rfl ?_
            | (refine gload rfl rfl ?_
               refine j_qe rfl rfl rfl ?_
               first
               | refine ⟨_, q_load_own rfl rfl rfl rfl (by (repeat (first | exact InL.here | apply InL.there))) (by first | rfl | assumption), ?_⟩
               | refine ⟨_, q_loadA_own rfl rfl rfl rfl (by (repeat (first | exact InL.here | apply InL.there))) (by rfl), ?_⟩
               | refine ⟨_, q_loadA_ext rfl rfl rfl rfl ⟨by assumption, (by first | exact id | assumption)⟩ (by rfl), ?_⟩
               | refine ⟨_, q_load_ext rfl rfl rfl rfl ⟨by assumption, (by first | exact id | assumption)⟩ (by first | rfl | assumption), ?_⟩
               | refine ⟨_, q_load_extb rfl rfl rfl rfl ⟨by assumption, (by first | exact id | assumption)⟩ (by rfl), ?_⟩
               | refine ⟨_, q_loadA_extb rfl rfl rfl rfl ⟨by assumption, (by first | exact id | assumption)⟩ (by rfl), ?_⟩
               | refine ⟨_, q_load_ext0 rfl rfl rfl rfl ⟨by assumption, (by first | exact id | assumption)⟩ (by rfl), ?_⟩)
            | refine jcmp rfl rfl rfl rfl rfl rfl rfl ?_
            | refine jar rfl rfl rfl rfl rfl rfl rfl (by omega) ?_
            | (refine j_qe rfl rfl rfl ?_
               first
               | refine ⟨_, q_pick_t rfl rfl rfl, ?_⟩
               | refine ⟨_, q_pick_f rfl rfl rfl, ?_⟩
               | refine ⟨_, q_not rfl rfl, ?_⟩
               | refine ⟨_, q_index_nat rfl rfl rfl rfl rfl (by omega), ?_⟩
               | refine ⟨_, q_index_slice rfl rfl rfl rfl rfl (by omega), ?_⟩
               | refine ⟨_, q_index_arr rfl rfl rfl rfl rfl (by omega), ?_⟩
               | refine ⟨_, q_index_arr_ext rfl rfl rfl rfl rfl (by omega), ?_⟩
               | refine ⟨_, q_len_slice rfl rfl rfl rfl, ?_⟩
               | refine ⟨_, q_addu8 rfl rfl rfl (by omega), ?_⟩)
            | refine j_guard_undef rfl rfl rfl rfl rfl ?_
            | (refine j_guard rfl rfl rfl rfl rfl ?_ ?_ <;> intro hc <;> (first | (exact absurd hc (by decide)) | ((try simp only [decide_eq_true_eq, decide_eq_false_iff_not, Bool.not_eq_true', Bool.not_eq_false', Bool.not_true, Bool.not_false, ne_eq, Decidable.not_not] at hc) <;> first | (exfalso; omega) | (exact absurd trivial hc) | skip)))
            | (refine j_buildSlice rfl rfl rfl rfl rfl rfl rfl rfl rfl rfl rfl rfl ?_; intro b))
         | (refine gSC ?_
            first
            | refine sc_seq ?_
            | refine sc_region ?_
            | (refine sc_cond rfl ?_ ?_ <;> intro hc <;> (first | (exact absurd hc (by decide)) | ((try simp only [decide_eq_true_eq, decide_eq_false_iff_not, Bool.not_eq_true', Bool.not_eq_false', Bool.not_true, Bool.not_false, ne_eq, Decidable.not_not] at hc) <;> first | (exfalso; omega) | (exact absurd trivial hc) | skip)))
            | refine sc_block ?_
            | refine sc_ret ?_
            | refine sc_exit ?_
            | refine sc_skip ?_)
         | (refine gSQ ?_
            first
            | refine sq_seq ?_
            | refine sq_blk ?_
            | refine sq_seq_ret ?_
            | refine sq_blk_ret ?_
            | refine sq_loop_ret ?_
            | refine sq_seq_exit ?_
            | refine sq_blk_hit ?_
            | refine sq_blk_miss rfl ?_
            | refine sq_loop_exit ?_
            | refine sq_ende (.inl rfl) rfl rfl ⟨_, (RVs.cons (RV.tmp rfl) (RVs.nil)), ?_⟩
            | refine sq_ende (.inr rfl) rfl rfl ⟨_, (RVs.cons (RV.tmp rfl) (RVs.nil)), ?_⟩)
         | refine j_nil ?_
         )
        refine sc_lit (n := 7) 1 (b := b) (by (repeat (first | exact Upd.here | apply Upd.there))) rfl (by omega) ?_
        refine sc_loop (ι := Nat) (fun i => i ≤ 7) (fun i => 7 - i) (fun i => [(1, .int .i64 n), (2, .int .i64 k), (36, .slice (some ⟨b, 0, none⟩) 7 7), (37, .int .i64 7), (38, .int .i64 i)]) (fun _ => [.own (.slice (some ⟨b, 0, none⟩) 7 7) 3 1 7 (([0, 1, 2, 500, 1999, 2000, 2001] : List Int).flatMap intC)]) 0 (Nat.zero_le _) (by repeat (first | exact FSub.nil | refine FSub.cons rfl ?_ | refine FSub.conse rfl (by congr 1; omega) ?_)) (by repeat (first | exact LSub.nil | refine LSub.cons (by repeat (first | exact Rem.here | apply Rem.there)) ?_)) ?_
        intro i hi
        by_cases hlt : i < 7
        · obtain ⟨x, hx⟩ : ∃ x, ([0, 1, 2, 500, 1999, 2000, 2001] : List Int)[i]? = some x := ⟨_, List.getElem?_eq_getElem (by simpa using hlt)⟩
          repeat' (first
           | (refine gJ ?_
              first
              | refine jmv rfl rfl rfl rfl rfl ?_
              | refine jcmp rfl rfl rfl rfl rfl rfl rfl ?_
              | refine jar rfl rfl rfl rfl rfl rfl rfl (by omega) ?_
              | (refine gcall rfl rfl ?_
                 first
                 | (refine j_qc (f := 16) rfl rfl rfl rfl rfl rfl rfl ?_; refine ⟨_, (fun w' _ => sbounds_c n k x w'), ?_⟩))
              | (refine j_qe rfl rfl rfl ?_; refine ⟨_, q_row1 (f := intC) rfl rfl rfl rfl (by (repeat (first | exact InL.here | apply InL.there))) (fun _ => rfl) hx rfl, ?_⟩)
              | (refine j_qe rfl rfl rfl ?_
                 first
                 | refine ⟨_, q_pick_t rfl rfl rfl, ?_⟩
                 | refine ⟨_, q_pick_f rfl rfl rfl, ?_⟩
                 | refine ⟨_, q_not rfl rfl, ?_⟩
                 | refine ⟨_, q_index_nat rfl rfl rfl rfl rfl (by omega), ?_⟩
                 | refine ⟨_, q_index_slice rfl rfl rfl rfl rfl (by omega), ?_⟩
                 | refine ⟨_, q_index_arr rfl rfl rfl rfl rfl (by omega), ?_⟩
                 | refine ⟨_, q_index_arr_ext rfl rfl rfl rfl rfl (by omega), ?_⟩
                 | refine ⟨_, q_len_slice rfl rfl rfl rfl, ?_⟩
                 | refine ⟨_, q_addu8 rfl rfl rfl (by omega), ?_⟩)
              | refine j_guard_undef rfl rfl rfl rfl rfl ?_
              | (refine j_guard rfl rfl rfl rfl rfl ?_ ?_ <;> intro hc <;> (first | (exact absurd hc (by decide)) | ((try simp only [decide_eq_true_eq, decide_eq_false_iff_not, Bool.not_eq_true', Bool.not_eq_false', Bool.not_true, Bool.not_false, ne_eq, Decidable.not_not] at hc) <;> first | (exfalso; omega) | (exact absurd trivial hc) | skip)))
              | (refine j_buildSlice rfl rfl rfl rfl rfl rfl rfl rfl rfl rfl rfl rfl ?_; intro b))
           | (refine gSC ?_
              first
              | refine sc_seq ?_
              | refine sc_region ?_
              | (refine sc_cond rfl ?_ ?_ <;> intro hc <;> (first | (exact absurd hc (by decide)) | ((try simp only [decide_eq_true_eq, decide_eq_false_iff_not, Bool.not_eq_true', Bool.not_eq_false', Bool.not_true, Bool.not_false, ne_eq, Decidable.not_not] at hc) <;> first | (exfalso; omega) | (exact absurd trivial hc) | skip)))
              | refine sc_block ?_
              | refine sc_ret ?_
              | refine sc_exit ?_
              | refine sc_skip ?_)
           | (refine gSQ ?_
              first
              | refine sq_seq ?_
              | refine sq_blk ?_
              | refine sq_seq_ret ?_
              | refine sq_blk_ret ?_
              | refine sq_loop_ret ?_
              | refine sq_seq_exit ?_
              | refine sq_blk_hit ?_
              | refine sq_blk_miss rfl ?_
              | refine sq_loop_exit ?_
              | refine sq_ende (.inl rfl) rfl rfl ⟨_, (RVs.cons (RV.tmp rfl) (RVs.nil)), ?_⟩
              | refine sq_ende (.inr rfl) rfl rfl ⟨_, (RVs.cons (RV.tmp rfl) (RVs.nil)), ?_⟩)
           | refine j_nil ?_
           )
          exact sq_loop (i + 1) (by omega) (by omega) (by repeat (first | exact FSub.nil | refine FSub.cons rfl ?_ | refine FSub.conse rfl (by congr 1; omega) ?_)) (by repeat (first | exact LSub.nil | refine LSub.cons (by repeat (first | exact Rem.here | apply Rem.there)) ?_))
        · obtain rfl : i = 7 := by omega
          repeat' (first
           | (refine gJ ?_
              first
              | refine jmv rfl rfl rfl rfl rfl ?_
              | (refine gload rfl rfl ?_
                 refine j_qe rfl rfl rfl ?_
                 first
                 | refine ⟨_, q_load_own rfl rfl rfl rfl (by (repeat (first | exact InL.here | apply InL.there))) (by first | rfl | assumption), ?_⟩
                 | refine ⟨_, q_loadA_own rfl rfl rfl rfl (by (repeat (first | exact InL.here | apply InL.there))) (by rfl), ?_⟩
                 | refine ⟨_, q_loadA_ext rfl rfl rfl rfl ⟨by assumption, (by first | exact id | assumption)⟩ (by rfl), ?_⟩
                 | refine ⟨_, q_load_ext rfl rfl rfl rfl ⟨by assumption, (by first | exact id | assumption)⟩ (by first | rfl | assumption), ?_⟩
                 | refine ⟨_, q_load_extb rfl rfl rfl rfl ⟨by assumption, (by first | exact id | assumption)⟩ (by rfl), ?_⟩
                 | refine ⟨_, q_loadA_extb rfl rfl rfl rfl ⟨by assumption, (by first | exact id | assumption)⟩ (by rfl), ?_⟩
                 | refine ⟨_, q_load_ext0 rfl rfl rfl rfl ⟨by assumption, (by first | exact id | assumption)⟩ (by rfl), ?_⟩)
              | refine jcmp rfl rfl rfl rfl rfl rfl rfl ?_
              | refine jar rfl rfl rfl rfl rfl rfl rfl (by omega) ?_
              | (refine j_qe rfl rfl rfl ?_
                 first
                 | refine ⟨_, q_pick_t rfl rfl rfl, ?_⟩
                 | refine ⟨_, q_pick_f rfl rfl rfl, ?_⟩
                 | refine ⟨_, q_not rfl rfl, ?_⟩
                 | refine ⟨_, q_index_nat rfl rfl rfl rfl rfl (by omega), ?_⟩
                 | refine ⟨_, q_index_slice rfl rfl rfl rfl rfl (by omega), ?_⟩
                 | refine ⟨_, q_index_arr rfl rfl rfl rfl rfl (by omega), ?_⟩
                 | refine ⟨_, q_index_arr_ext rfl rfl rfl rfl rfl (by omega), ?_⟩
                 | refine ⟨_, q_len_slice rfl rfl rfl rfl, ?_⟩
                 | refine ⟨_, q_addu8 rfl rfl rfl (by omega), ?_⟩)
              | refine j_guard_undef rfl rfl rfl rfl rfl ?_
              | (refine j_guard rfl rfl rfl rfl rfl ?_ ?_ <;> intro hc <;> (first | (exact absurd hc (by decide)) | ((try simp only [decide_eq_true_eq, decide_eq_false_iff_not, Bool.not_eq_true', Bool.not_eq_false', Bool.not_true, Bool.not_false, ne_eq, Decidable.not_not] at hc) <;> first | (exfalso; omega) | (exact absurd trivial hc) | skip)))
              | (refine j_buildSlice rfl rfl rfl rfl rfl rfl rfl rfl rfl rfl rfl rfl ?_; intro b))
           | (refine gSC ?_
              first
              | refine sc_seq ?_
              | refine sc_region ?_
              | (refine sc_cond rfl ?_ ?_ <;> intro hc <;> (first | (exact absurd hc (by decide)) | ((try simp only [decide_eq_true_eq, decide_eq_false_iff_not, Bool.not_eq_true', Bool.not_eq_false', Bool.not_true, Bool.not_false, ne_eq, Decidable.not_not] at hc) <;> first | (exfalso; omega) | (exact absurd trivial hc) | skip)))
              | refine sc_block ?_
              | refine sc_ret ?_
              | refine sc_exit ?_
              | refine sc_skip ?_)
           | (refine gSQ ?_
              first
              | refine sq_seq ?_
              | refine sq_blk ?_
              | refine sq_seq_ret ?_
              | refine sq_blk_ret ?_
              | refine sq_loop_ret ?_
              | refine sq_seq_exit ?_
              | refine sq_blk_hit ?_
              | refine sq_blk_miss rfl ?_
              | refine sq_loop_exit ?_
              | refine sq_ende (.inl rfl) rfl rfl ⟨_, (RVs.cons (RV.tmp rfl) (RVs.nil)), ?_⟩
              | refine sq_ende (.inr rfl) rfl rfl ⟨_, (RVs.cons (RV.tmp rfl) (RVs.nil)), ?_⟩)
           | refine j_nil ?_
           )
          exact sq_loop (k + 1) ⟨by omega, by omega⟩ (by omega) (by repeat (first | exact FSub.nil | refine FSub.cons rfl ?_ | refine FSub.conse rfl (by congr 1; omega) ?_)) (by repeat (first | exact LSub.nil | refine LSub.cons (by repeat (first | exact Rem.here | apply Rem.there)) ?_))
    · repeat' (first
       | (refine gJ ?_
          first
          | refine jmv rfl rfl rfl rfl rfl ?_
          | (refine gload rfl rfl ?_
             refine j_qe rfl rfl rfl ?_
             first
             | refine ⟨_, q_load_own rfl rfl rfl rfl (by (repeat (first | exact InL.here | apply InL.there))) (by first | rfl | assumption), ?_⟩
             | refine ⟨_, q_loadA_own rfl rfl rfl rfl (by (repeat (first | exact InL.here | apply InL.there))) (by rfl), ?_⟩
             | refine ⟨_, q_loadA_ext rfl rfl rfl rfl ⟨by assumption, (by first | exact id | assumption)⟩ (by rfl), ?_⟩
             | refine ⟨_, q_load_ext rfl rfl rfl rfl ⟨by assumption, (by first | exact id | assumption)⟩ (by first | rfl | assumption), ?_⟩
             | refine ⟨_, q_load_extb rfl rfl rfl rfl ⟨by assumption, (by first | exact id | assumption)⟩ (by rfl), ?_⟩
             | refine ⟨_, q_loadA_extb rfl rfl rfl rfl ⟨by assumption, (by first | exact id | assumption)⟩ (by rfl), ?_⟩
             | refine ⟨_, q_load_ext0 rfl rfl rfl rfl ⟨by assumption, (by first | exact id | assumption)⟩ (by rfl), ?_⟩)
          | refine jcmp rfl rfl rfl rfl rfl rfl rfl ?_
          | refine jar rfl rfl rfl rfl rfl rfl rfl (by omega) ?_
          | (refine j_qe rfl rfl rfl ?_
             first
             | refine ⟨_, q_pick_t rfl rfl rfl, ?_⟩
             | refine ⟨_, q_pick_f rfl rfl rfl, ?_⟩
             | refine ⟨_, q_not rfl rfl, ?_⟩
             | refine ⟨_, q_index_nat rfl rfl rfl rfl rfl (by omega), ?_⟩
             | refine ⟨_, q_index_slice rfl rfl rfl rfl rfl (by omega), ?_⟩
             | refine ⟨_, q_index_arr rfl rfl rfl rfl rfl (by omega), ?_⟩
             | refine ⟨_, q_index_arr_ext rfl rfl rfl rfl rfl (by omega), ?_⟩
             | refine ⟨_, q_len_slice rfl rfl rfl rfl, ?_⟩
             | refine ⟨_, q_addu8 rfl rfl rfl (by omega), ?_⟩)
          | refine j_guard_undef rfl rfl rfl rfl rfl ?_
          | (refine j_guard rfl rfl rfl rfl rfl ?_ ?_ <;> intro hc <;> (first | (exact absurd hc (by decide)) | ((try simp only [decide_eq_true_eq, decide_eq_false_iff_not, Bool.not_eq_true', Bool.not_eq_false', Bool.not_true, Bool.not_false, ne_eq, Decidable.not_not] at hc) <;> first | (exfalso; omega) | (exact absurd trivial hc) | skip)))
          | (refine j_buildSlice rfl rfl rfl rfl rfl rfl rfl rfl rfl rfl rfl rfl ?_; intro b))
       | (refine gSC ?_
          first
          | refine sc_seq ?_
          | refine sc_region ?_
          | (refine sc_cond rfl ?_ ?_ <;> intro hc <;> (first | (exact absurd hc (by decide)) | ((try simp only [decide_eq_true_eq, decide_eq_false_iff_not, Bool.not_eq_true', Bool.not_eq_false', Bool.not_true, Bool.not_false, ne_eq, Decidable.not_not] at hc) <;> first | (exfalso; omega) | (exact absurd trivial hc) | skip)))
          | refine sc_block ?_
          | refine sc_ret ?_
          | refine sc_exit ?_
          | refine sc_skip ?_)
       | (refine gSQ ?_
          first
          | refine sq_seq ?_
          | refine sq_blk ?_
          | refine sq_seq_ret ?_
          | refine sq_blk_ret ?_
          | refine sq_loop_ret ?_
          | refine sq_seq_exit ?_
          | refine sq_blk_hit ?_
          | refine sq_blk_miss rfl ?_
          | refine sq_loop_exit ?_
          | refine sq_ende (.inl rfl) rfl rfl ⟨_, (RVs.cons (RV.tmp rfl) (RVs.nil)), ?_⟩
          | refine sq_ende (.inr rfl) rfl rfl ⟨_, (RVs.cons (RV.tmp rfl) (RVs.nil)), ?_⟩)
       | refine j_nil ?_
       )
      exact sq_loop (n + 1) ⟨by omega, by omega⟩ (by omega) (by repeat (first | exact FSub.nil | refine FSub.cons rfl ?_ | refine FSub.conse rfl (by congr 1; omega) ?_)) (by repeat (first | exact LSub.nil | refine LSub.cons (by repeat (first | exact Rem.here | apply Rem.there)) ?_))
  · repeat' (first
     | (refine gJ ?_
        first
        | refine jmv rfl rfl rfl rfl rfl ?_
        | (refine gload rfl rfl ?_
           refine j_qe rfl rfl rfl ?_
           first
           | refine ⟨_, q_load_own rfl rfl rfl rfl (by (repeat (first | exact InL.here | apply InL.there))) (by first | rfl | assumption), ?_⟩
           | refine ⟨_, q_loadA_own rfl rfl rfl rfl (by (repeat (first | exact InL.here | apply InL.there))) (by rfl), ?_⟩
           | refine ⟨_, q_loadA_ext rfl rfl rfl rfl ⟨by assumption, (by first | exact id | assumption)⟩ (by rfl), ?_⟩
           | refine ⟨_, q_load_ext rfl rfl rfl rfl ⟨by assumption, (by first | exact id | assumption)⟩ (by first | rfl | assumption), ?_⟩
           | refine ⟨_, q_load_extb rfl rfl rfl rfl ⟨by assumption, (by first | exact id | assumption)⟩ (by rfl), ?_⟩
           | refine ⟨_, q_loadA_extb rfl rfl rfl rfl ⟨by assumption, (by first | exact id | assumption)⟩ (by rfl), ?_⟩
           | refine ⟨_, q_load_ext0 rfl rfl rfl rfl ⟨by assumption, (by first | exact id | assumption)⟩ (by rfl), ?_⟩)
        | refine jcmp rfl rfl rfl rfl rfl rfl rfl ?_
        | refine jar rfl rfl rfl rfl rfl rfl rfl (by omega) ?_
        | (refine j_qe rfl rfl rfl ?_
           first
           | refine ⟨_, q_pick_t rfl rfl rfl, ?_⟩
           | refine ⟨_, q_pick_f rfl rfl rfl, ?_⟩
           | refine ⟨_, q_not rfl rfl, ?_⟩
           | refine ⟨_, q_index_nat rfl rfl rfl rfl rfl (by omega), ?_⟩
           | refine ⟨_, q_index_slice rfl rfl rfl rfl rfl (by omega), ?_⟩
           | refine ⟨_, q_index_arr rfl rfl rfl rfl rfl (by omega), ?_⟩
           | refine ⟨_, q_index_arr_ext rfl rfl rfl rfl rfl (by omega), ?_⟩
           | refine ⟨_, q_len_slice rfl rfl rfl rfl, ?_⟩
           | refine ⟨_, q_addu8 rfl rfl rfl (by omega), ?_⟩)
        | refine j_guard_undef rfl rfl rfl rfl rfl ?_
        | (refine j_guard rfl rfl rfl rfl rfl ?_ ?_ <;> intro hc <;> (first | (exact absurd hc (by decide)) | ((try simp only [decide_eq_true_eq, decide_eq_false_iff_not, Bool.not_eq_true', Bool.not_eq_false', Bool.not_true, Bool.not_false, ne_eq, Decidable.not_not] at hc) <;> first | (exfalso; omega) | (exact absurd trivial hc) | skip)))
        | (refine j_buildSlice rfl rfl rfl rfl rfl rfl rfl rfl rfl rfl rfl rfl ?_; intro b))
     | (refine gSC ?_
        first
        | refine sc_seq ?_
        | refine sc_region ?_
        | (refine sc_cond rfl ?_ ?_ <;> intro hc <;> (first | (exact absurd hc (by decide)) | ((try simp only [decide_eq_true_eq, decide_eq_false_iff_not, Bool.not_eq_true', Bool.not_eq_false', Bool.not_true, Bool.not_false, ne_eq, Decidable.not_not] at hc) <;> first | (exfalso; omega) | (exact absurd trivial hc) | skip)))
        | refine sc_block ?_
        | refine sc_ret ?_
        | refine sc_exit ?_
        | refine sc_skip ?_)
     | (refine gSQ ?_
        first
        | refine sq_seq ?_
        | refine sq_blk ?_
        | refine sq_seq_ret ?_
        | refine sq_blk_ret ?_
        | refine sq_loop_ret ?_
        | refine sq_seq_exit ?_
        | refine sq_blk_hit ?_
        | refine sq_blk_miss rfl ?_
        | refine sq_loop_exit ?_
        | refine sq_ende (.inl rfl) rfl rfl ⟨_, (RVs.cons (RV.tmp rfl) (RVs.nil)), ?_⟩
        | refine sq_ende (.inr rfl) rfl rfl ⟨_, (RVs.cons (RV.tmp rfl) (RVs.nil)), ?_⟩)
     | refine j_nil ?_
     )
    revert b
    intro b0
    refine sc_lit (n := 4) 1 (b := b0) (by (repeat (first | exact Upd.here | apply Upd.there))) rfl (by omega) ?_
    refine sc_loop (ι := Nat) (fun i => i ≤ 4) (fun i => 4 - i) (fun i => [(48, .slice (some ⟨b0, 0, none⟩) 4 4), (49, .int .i64 4), (50, .int .i64 i)]) (fun _ => [.own (.slice (some ⟨b0, 0, none⟩) 4 4) 3 1 4 (([-9223372036854775808, -1, 501, 9223372036854775807] : List Int).flatMap intC)]) 0 (Nat.zero_le _) (by repeat (first | exact FSub.nil | refine FSub.cons rfl ?_ | refine FSub.conse rfl (by congr 1; omega) ?_)) (by repeat (first | exact LSub.nil | refine LSub.cons (by repeat (first | exact Rem.here | apply Rem.there)) ?_)) ?_
    intro i hi
    by_cases hlt : i < 4
    · obtain ⟨x, hx⟩ : ∃ x, ([-9223372036854775808, -1, 501, 9223372036854775807] : List Int)[i]? = some x := ⟨_, List.getElem?_eq_getElem (by simpa using hlt)⟩
      repeat' (first
       | (refine gJ ?_
          first
          | refine jmv rfl rfl rfl rfl rfl ?_
          | refine jcmp rfl rfl rfl rfl rfl rfl rfl ?_
          | refine jar rfl rfl rfl rfl rfl rfl rfl (by omega) ?_
          | (refine j_qe rfl rfl rfl ?_; refine ⟨_, q_row1 (f := intC) rfl rfl rfl rfl (by (repeat (first | exact InL.here | apply InL.there))) (fun _ => rfl) hx rfl, ?_⟩)
          | (refine j_qe rfl rfl rfl ?_
             first
             | refine ⟨_, q_pick_t rfl rfl rfl, ?_⟩
             | refine ⟨_, q_pick_f rfl rfl rfl, ?_⟩
             | refine ⟨_, q_not rfl rfl, ?_⟩
             | refine ⟨_, q_index_nat rfl rfl rfl rfl rfl (by omega), ?_⟩
             | refine ⟨_, q_index_slice rfl rfl rfl rfl rfl (by omega), ?_⟩
             | refine ⟨_, q_index_arr rfl rfl rfl rfl rfl (by omega), ?_⟩
             | refine ⟨_, q_index_arr_ext rfl rfl rfl rfl rfl (by omega), ?_⟩
             | refine ⟨_, q_len_slice rfl rfl rfl rfl, ?_⟩
             | refine ⟨_, q_addu8 rfl rfl rfl (by omega), ?_⟩)
          | refine j_guard_undef rfl rfl rfl rfl rfl ?_
          | (refine j_guard rfl rfl rfl rfl rfl ?_ ?_ <;> intro hc <;> (first | (exact absurd hc (by decide)) | ((try simp only [decide_eq_true_eq, decide_eq_false_iff_not, Bool.not_eq_true', Bool.not_eq_false', Bool.not_true, Bool.not_false, ne_eq, Decidable.not_not] at hc) <;> first | (exfalso; omega) | (exact absurd trivial hc) | skip)))
          | (refine j_buildSlice rfl rfl rfl rfl rfl rfl rfl rfl rfl rfl rfl rfl ?_; intro b))
       | (refine gSC ?_
          first
          | refine sc_seq ?_
          | refine sc_region ?_
          | (refine sc_cond rfl ?_ ?_ <;> intro hc <;> (first | (exact absurd hc (by decide)) | ((try simp only [decide_eq_true_eq, decide_eq_false_iff_not, Bool.not_eq_true', Bool.not_eq_false', Bool.not_true, Bool.not_false, ne_eq, Decidable.not_not] at hc) <;> first | (exfalso; omega) | (exact absurd trivial hc) | skip)))
          | refine sc_block ?_
          | refine sc_ret ?_
          | refine sc_exit ?_
          | refine sc_skip ?_)
       | (refine gSQ ?_
          first
          | refine sq_seq ?_
          | refine sq_blk ?_
          | refine sq_seq_ret ?_
          | refine sq_blk_ret ?_
          | refine sq_loop_ret ?_
          | refine sq_seq_exit ?_
          | refine sq_blk_hit ?_
          | refine sq_blk_miss rfl ?_
          | refine sq_loop_exit ?_
          | refine sq_ende (.inl rfl) rfl rfl ⟨_, (RVs.cons (RV.tmp rfl) (RVs.nil)), ?_⟩
          | refine sq_ende (.inr rfl) rfl rfl ⟨_, (RVs.cons (RV.tmp rfl) (RVs.nil)), ?_⟩)
       | refine j_nil ?_
       )
      refine sc_lit (n := 5) 1 (b := b) (by (repeat (first | exact Upd.here | apply Upd.there))) rfl (by omega) ?_
      refine sc_loop (ι := Nat) (fun j => j ≤ 5) (fun j => 5 - j) (fun j => [(8, .int .i64 x), (48, .slice (some ⟨b0, 0, none⟩) 4 4), (49, .int .i64 4), (50, .int .i64 i), (54, .slice (some ⟨b, 0, none⟩) 5 5), (55, .int .i64 5), (56, .int .i64 j)])
        (fun _ => [.own (.slice (some ⟨b, 0, none⟩) 5 5) 3 1 5 (([-9223372036854775808, -1, 0, 501, 9223372036854775807] : List Int).flatMap intC), .own (.slice (some ⟨b0, 0, none⟩) 4 4) 3 1 4 (([-9223372036854775808, -1, 501, 9223372036854775807] : List Int).flatMap intC)]) 0 (Nat.zero_le _) (by repeat (first | exact FSub.nil | refine FSub.cons rfl ?_ | refine FSub.conse rfl (by congr 1; omega) ?_)) (by repeat (first | exact LSub.nil | refine LSub.cons (by repeat (first | exact Rem.here | apply Rem.there)) ?_)) ?_
      intro j hj
      by_cases hjl : j < 5
      · obtain ⟨y, hy⟩ : ∃ y, ([-9223372036854775808, -1, 0, 501, 9223372036854775807] : List Int)[j]? = some y := ⟨_, List.getElem?_eq_getElem (by simpa using hjl)⟩
        repeat' (first
         | (refine gJ ?_
            first
            | refine jmv rfl rfl rfl rfl rfl ?_
            | refine jcmp rfl rfl rfl rfl rfl rfl rfl ?_
            | refine jar rfl rfl rfl rfl rfl rfl rfl (by omega) ?_
            | (refine gcall rfl rfl ?_
               first
               | (refine j_qc (f := 15) rfl rfl rfl rfl rfl rfl rfl ?_; refine ⟨_, (fun w' _ => stells_c _ _ _ w'), ?_⟩)
               | (refine j_qc (f := 16) rfl rfl rfl rfl rfl rfl rfl ?_; refine ⟨_, (fun w' _ => sbounds_c _ _ _ w'), ?_⟩)
               | (refine j_qc (f := 17) rfl rfl rfl rfl rfl rfl rfl ?_; refine ⟨_, (fun w' hs => squant_c (some ⟨b, 0, none⟩) 2 [y, x] y w' (by show 2 * 8 ≤ 140737488351232; omega) (sl_lit (by show 2 ≤ 1000; omega)) (rs_lit hs (l := [y, x]) (by (repeat (first | exact InL.here | apply InL.there))))), ?_⟩))
            | (refine j_qe rfl rfl rfl ?_; refine ⟨_, q_row1 (f := intC) rfl rfl rfl rfl (by (repeat (first | exact InL.here | apply InL.there))) (fun _ => rfl) hy rfl, ?_⟩)
            | (refine j_qe rfl rfl rfl ?_
               first
               | refine ⟨_, q_pick_t rfl rfl rfl, ?_⟩
               | refine ⟨_, q_pick_f rfl rfl rfl, ?_⟩
               | refine ⟨_, q_not rfl rfl, ?_⟩
               | refine ⟨_, q_index_nat rfl rfl rfl rfl rfl (by omega), ?_⟩
               | refine ⟨_, q_index_slice rfl rfl rfl rfl rfl (by omega), ?_⟩
               | refine ⟨_, q_index_arr rfl rfl rfl rfl rfl (by omega), ?_⟩
               | refine ⟨_, q_index_arr_ext rfl rfl rfl rfl rfl (by omega), ?_⟩
               | refine ⟨_, q_len_slice rfl rfl rfl rfl, ?_⟩
               | refine ⟨_, q_addu8 rfl rfl rfl (by omega), ?_⟩)
            | refine j_guard_undef rfl rfl rfl rfl rfl ?_
            | (refine j_guard rfl rfl rfl rfl rfl ?_ ?_ <;> intro hc <;> (first | (exact absurd hc (by decide)) | ((try simp only [decide_eq_true_eq, decide_eq_false_iff_not, Bool.not_eq_true', Bool.not_eq_false', Bool.not_true, Bool.not_false, ne_eq, Decidable.not_not] at hc) <;> first | (exfalso; omega) | (exact absurd trivial hc) | skip)))
            | (refine j_buildSlice rfl rfl rfl rfl rfl rfl rfl rfl rfl rfl rfl rfl ?_; intro b))
         | (refine gSC ?_
            first
            | refine sc_seq ?_
            | refine sc_region ?_
            | (refine sc_cond rfl ?_ ?_ <;> intro hc <;> (first | (exact absurd hc (by decide)) | ((try simp only [decide_eq_true_eq, decide_eq_false_iff_not, Bool.not_eq_true', Bool.not_eq_false', Bool.not_true, Bool.not_false, ne_eq, Decidable.not_not] at hc) <;> first | (exfalso; omega) | (exact absurd trivial hc) | skip)))
            | refine sc_block ?_
            | refine sc_ret ?_
            | refine sc_exit ?_
            | refine sc_skip ?_)
         | (refine gSQ ?_
            first
            | refine sq_seq ?_
            | refine sq_blk ?_
            | refine sq_seq_ret ?_
            | refine sq_blk_ret ?_
            | refine sq_loop_ret ?_
            | refine sq_seq_exit ?_
            | refine sq_blk_hit ?_
            | refine sq_blk_miss rfl ?_
            | refine sq_loop_exit ?_
            | refine sq_ende (.inl rfl) rfl rfl ⟨_, (RVs.cons (RV.tmp rfl) (RVs.nil)), ?_⟩
            | refine sq_ende (.inr rfl) rfl rfl ⟨_, (RVs.cons (RV.tmp rfl) (RVs.nil)), ?_⟩)
         | refine j_nil ?_
         )
        exact sq_loop (j + 1) (by omega) (by omega) (by repeat (first | exact FSub.nil | refine FSub.cons rfl ?_ | refine FSub.conse rfl (by congr 1; omega) ?_)) (by repeat (first | exact LSub.nil | refine LSub.cons (by repeat (first | exact Rem.here | apply Rem.there)) ?_))
      · obtain rfl : j = 5 := by omega
        repeat' (first
         | (refine gJ ?_
            first
            | refine jmv rfl rfl rfl rfl rfl ?_
            | (refine gload rfl rfl ?_
               refine j_qe rfl rfl rfl ?_
               first
               | refine ⟨_, q_load_own rfl rfl rfl rfl (by (repeat (first | exact InL.here | apply InL.there))) (by first | rfl | assumption), ?_⟩
               | refine ⟨_, q_loadA_own rfl rfl rfl rfl (by (repeat (first | exact InL.here | apply InL.there))) (by rfl), ?_⟩
               | refine ⟨_, q_loadA_ext rfl rfl rfl rfl ⟨by assumption, (by first | exact id | assumption)⟩ (by rfl), ?_⟩
               | refine ⟨_, q_load_ext rfl rfl rfl rfl ⟨by assumption, (by first | exact id | assumption)⟩ (by first | rfl | assumption), ?_⟩
               | refine ⟨_, q_load_extb rfl rfl rfl rfl ⟨by assumption, (by first | exact id | assumption)⟩ (by rfl), ?_⟩
               | refine ⟨_, q_loadA_extb rfl rfl rfl rfl ⟨by assumption, (by first | exact id | assumption)⟩ (by rfl), ?_⟩
               | refine ⟨_, q_load_ext0 rfl rfl rfl rfl ⟨by assumption, (by first | exact id | assumption)⟩ (by rfl), ?_⟩)
            | refine jcmp rfl rfl rfl rfl rfl rfl rfl ?_
            | refine jar rfl rfl rfl rfl rfl rfl rfl (by omega) ?_
            | (refine j_qe rfl rfl rfl ?_
               first
               | refine ⟨_, q_pick_t rfl rfl rfl, ?_⟩
               | refine ⟨_, q_pick_f rfl rfl rfl, ?_⟩
               | refine ⟨_, q_not rfl rfl, ?_⟩
               | refine ⟨_, q_index_nat rfl rfl rfl rfl rfl (by omega), ?_⟩
               | refine ⟨_, q_index_slice rfl rfl rfl rfl rfl (by omega), ?_⟩
               | refine ⟨_, q_index_arr rfl rfl rfl rfl rfl (by omega), ?_⟩
               | refine ⟨_, q_index_arr_ext rfl rfl rfl rfl rfl (by omega), ?_⟩
               | refine ⟨_, q_len_slice rfl rfl rfl rfl, ?_⟩
               | refine ⟨_, q_addu8 rfl rfl rfl (by omega), ?_⟩)
            | refine j_guard_undef rfl rfl rfl rfl rfl ?_
            | (refine j_guard rfl rfl rfl rfl rfl ?_ ?_ <;> intro hc <;> (first | (exact absurd hc (by decide)) | ((try simp only [decide_eq_true_eq, decide_eq_false_iff_not, Bool.not_eq_true', Bool.not_eq_false', Bool.not_true, Bool.not_false, ne_eq, Decidable.not_not] at hc) <;> first | (exfalso; omega) | (exact absurd trivial hc) | skip)))
            | (refine j_buildSlice rfl rfl rfl rfl rfl rfl rfl rfl rfl rfl rfl rfl ?_; intro b))
         | (refine gSC ?_
            first
            | refine sc_seq ?_
            | refine sc_region ?_
            | (refine sc_cond rfl ?_ ?_ <;> intro hc <;> (first | (exact absurd hc (by decide)) | ((try simp only [decide_eq_true_eq, decide_eq_false_iff_not, Bool.not_eq_true', Bool.not_eq_false', Bool.not_true, Bool.not_false, ne_eq, Decidable.not_not] at hc) <;> first | (exfalso; omega) | (exact absurd trivial hc) | skip)))
            | refine sc_block ?_
            | refine sc_ret ?_
            | refine sc_exit ?_
            | refine sc_skip ?_)
         | (refine gSQ ?_
            first
            | refine sq_seq ?_
            | refine sq_blk ?_
            | refine sq_seq_ret ?_
            | refine sq_blk_ret ?_
            | refine sq_loop_ret ?_
            | refine sq_seq_exit ?_
            | refine sq_blk_hit ?_
            | refine sq_blk_miss rfl ?_
            | refine sq_loop_exit ?_
            | refine sq_ende (.inl rfl) rfl rfl ⟨_, (RVs.cons (RV.tmp rfl) (RVs.nil)), ?_⟩
            | refine sq_ende (.inr rfl) rfl rfl ⟨_, (RVs.cons (RV.tmp rfl) (RVs.nil)), ?_⟩)
         | refine j_nil ?_
         )
        exact sq_loop (i + 1) (by omega) (by omega) (by repeat (first | exact FSub.nil | refine FSub.cons rfl ?_ | refine FSub.conse rfl (by congr 1; omega) ?_)) (by repeat (first | exact LSub.nil | refine LSub.cons (by repeat (first | exact Rem.here | apply Rem.there)) ?_))
    · obtain rfl : i = 4 := by omega
      repeat' (first
       | (refine gJ ?_
          first
          | refine jmv rfl rfl rfl rfl rfl ?_
          | (refine gload rfl rfl ?_
             refine j_qe rfl rfl rfl ?_
             first
             | refine ⟨_, q_load_own rfl rfl rfl rfl (by (repeat (first | exact InL.here | apply InL.there))) (by first | rfl | assumption), ?_⟩
             | refine ⟨_, q_loadA_own rfl rfl rfl rfl (by (repeat (first | exact InL.here | apply InL.there))) (by rfl), ?_⟩
             | refine ⟨_, q_loadA_ext rfl rfl rfl rfl ⟨by assumption, (by first | exact id | assumption)⟩ (by rfl), ?_⟩
             | refine ⟨_, q_load_ext rfl rfl rfl rfl ⟨by assumption, (by first | exact id | assumption)⟩ (by first | rfl | assumption), ?_⟩
             | refine ⟨_, q_load_extb rfl rfl rfl rfl ⟨by assumption, (by first | exact id | assumption)⟩ (by rfl), ?_⟩
             | refine ⟨_, q_loadA_extb rfl rfl rfl rfl ⟨by assumption, (by first | exact id | assumption)⟩ (by rfl), ?_⟩
             | refine ⟨_, q_load_ext0 rfl rfl rfl rfl ⟨by assumption, (by first | exact id | assumption)⟩ (by rfl), ?_⟩)
          | refine jcmp rfl rfl rfl rfl rfl rfl rfl ?_
          | refine jar rfl rfl rfl rfl rfl rfl rfl (by omega) ?_
          | (refine j_qe rfl rfl rfl ?_
             first
             | refine ⟨_, q_pick_t rfl rfl rfl, ?_⟩
             | refine ⟨_, q_pick_f rfl rfl rfl, ?_⟩
             | refine ⟨_, q_not rfl rfl, ?_⟩
             | refine ⟨_, q_index_nat rfl rfl rfl rfl rfl (by omega), ?_⟩
             | refine ⟨_, q_index_slice rfl rfl rfl rfl rfl (by omega), ?_⟩
             | refine ⟨_, q_index_arr rfl rfl rfl rfl rfl (by omega), ?_⟩
             | refine ⟨_, q_index_arr_ext rfl rfl rfl rfl rfl (by omega), ?_⟩
             | refine ⟨_, q_len_slice rfl rfl rfl rfl, ?_⟩
             | refine ⟨_, q_addu8 rfl rfl rfl (by omega), ?_⟩)
          | refine j_guard_undef rfl rfl rfl rfl rfl ?_
          | (refine j_guard rfl rfl rfl rfl rfl ?_ ?_ <;> intro hc <;> (first | (exact absurd hc (by decide)) | ((try simp only [decide_eq_true_eq, decide_eq_false_iff_not, Bool.not_eq_true', Bool.not_eq_false', Bool.not_true, Bool.not_false, ne_eq, Decidable.not_not] at hc) <;> first | (exfalso; omega) | (exact absurd trivial hc) | skip)))
          | (refine j_buildSlice rfl rfl rfl rfl rfl rfl rfl rfl rfl rfl rfl rfl ?_; intro b))
       | (refine gSC ?_
          first
          | refine sc_seq ?_
          | refine sc_region ?_
          | (refine sc_cond rfl ?_ ?_ <;> intro hc <;> (first | (exact absurd hc (by decide)) | ((try simp only [decide_eq_true_eq, decide_eq_false_iff_not, Bool.not_eq_true', Bool.not_eq_false', Bool.not_true, Bool.not_false, ne_eq, Decidable.not_not] at hc) <;> first | (exfalso; omega) | (exact absurd trivial hc) | skip)))
          | refine sc_block ?_
          | refine sc_ret ?_
          | refine sc_exit ?_
          | refine sc_skip ?_)
       | (refine gSQ ?_
          first
          | refine sq_seq ?_
          | refine sq_blk ?_
          | refine sq_seq_ret ?_
          | refine sq_blk_ret ?_
          | refine sq_loop_ret ?_
          | refine sq_seq_exit ?_
          | refine sq_blk_hit ?_
          | refine sq_blk_miss rfl ?_
          | refine sq_loop_exit ?_
          | refine sq_ende (.inl rfl) rfl rfl ⟨_, (RVs.cons (RV.tmp rfl) (RVs.nil)), ?_⟩
          | refine sq_ende (.inr rfl) rfl rfl ⟨_, (RVs.cons (RV.tmp rfl) (RVs.nil)), ?_⟩)
       | refine j_nil ?_
       )
      rename_i b90 b91 b92 b93 b94
      refine sc_now ?_
      intro w1 hw1
      have hw2 : St w Cold _ w1 := hw1
      clear hw1
      have g0 : GoodS w1 (.slice none 0 0) := good_nil
      have g1 : GoodS w1 (.slice (some ⟨b90, 0, none⟩) 1 1) := good_lit [0] (ext_now hw2 (u := 3) (by (repeat (first | exact InL.here | apply InL.there)))) (by simp)
      have g2 : GoodS w1 (.slice (some ⟨b91, 0, none⟩) 2 2) := good_lit [3, -3] (ext_now hw2 (u := 3) (by (repeat (first | exact InL.here | apply InL.there)))) (by simp)
      have g3 : GoodS w1 (.slice (some ⟨b92, 0, none⟩) 3 3) := good_lit [1, 1, 2] (ext_now hw2 (u := 3) (by (repeat (first | exact InL.here | apply InL.there)))) (by simp)
      have g4 : GoodS w1 (.slice (some ⟨b93, 0, none⟩) 4 4) := good_lit [4, 1, 3, 2] (ext_now hw2 (u := 3) (by (repeat (first | exact InL.here | apply InL.there)))) (by simp)
      have g5 : GoodS w1 (.slice (some ⟨b94, 0, none⟩) 3 3) := good_lit [-9223372036854775808, 9223372036854775807, 0] (ext_now hw2 (u := 3) (by (repeat (first | exact InL.here | apply InL.there)))) (by simp)
      have hE : Ext w1 ⟨b, 0, none⟩ [.slice none 0 0, .slice (some ⟨b90, 0, none⟩) 1 1, .slice (some ⟨b91, 0, none⟩) 2 2, .slice (some ⟨b92, 0, none⟩) 3 3, .slice (some ⟨b93, 0, none⟩) 4 4, .slice (some ⟨b94, 0, none⟩) 3 3] := ext_now hw2 (u := 24) (by (repeat (first | exact InL.here | apply InL.there)))
      have hB : Below w.heap.size w w1 := hw2.below
      have hall : ∀ i v, ([.slice none 0 0, .slice (some ⟨b90, 0, none⟩) 1 1, .slice (some ⟨b91, 0, none⟩) 2 2, .slice (some ⟨b92, 0, none⟩) 3 3, .slice (some ⟨b93, 0, none⟩) 4 4, .slice (some ⟨b94, 0, none⟩) 3 3] : List Value)[i]? = some v → GoodS w1 v ∧ Ext w1 ((⟨b, 0, none⟩ : Addr).add (i * 1)) [v] := fun i v hv => by
        refine ⟨?_, by rw [block_add]; exact hE.lt, fun j u hu => ?_⟩
        · have hm := List.mem_of_getElem? hv
          simp only [List.mem_cons, List.mem_nil_iff, or_false] at hm
          rcases hm with rfl | rfl | rfl | rfl | rfl | rfl <;> assumption
        · cases j with
          | zero =>
            simp only [nth, Option.some.injEq] at hu
            subst hu
            rw [Eng.add_add, Nat.mul_one, Nat.add_zero]
            exact hE.cell i v (by rw [nth_eq]; exact hv)
          | succ j => simp [nth] at hu
      have hlen : ∀ i, i < 6 → ∃ v, ([.slice none 0 0, .slice (some ⟨b90, 0, none⟩) 1 1, .slice (some ⟨b91, 0, none⟩) 2 2, .slice (some ⟨b92, 0, none⟩) 3 3, .slice (some ⟨b93, 0, none⟩) 4 4, .slice (some ⟨b94, 0, none⟩) 3 3] : List Value)[i]? = some v := fun i hi => ⟨_, List.getElem?_eq_getElem (by simpa using hi)⟩
      generalize ([.slice none 0 0, .slice (some ⟨b90, 0, none⟩) 1 1, .slice (some ⟨b91, 0, none⟩) 2 2, .slice (some ⟨b92, 0, none⟩) 3 3, .slice (some ⟨b93, 0, none⟩) 4 4, .slice (some ⟨b94, 0, none⟩) 3 3] : List Value) = rows at hall hlen
      clear g0 g1 g2 g3 g4 g5 hE hw2
      refine sc_loop (ι := Nat) (fun i => i ≤ 6) (fun i => 6 - i) (fun i => [(95, .slice (some ⟨b, 0, none⟩) 6 6), (96, .int .i64 6), (97, .int .i64 i)]) (fun _ => []) 0 (Nat.zero_le _) (by repeat (first | exact FSub.nil | refine FSub.cons rfl ?_ | refine FSub.conse rfl (by congr 1; omega) ?_)) (by repeat (first | exact LSub.nil | refine LSub.cons (by repeat (first | exact Rem.here | apply Rem.there)) ?_)) ?_
      clear hi hlt
      intro i hi
      by_cases hlt : i < 6
      · obtain ⟨v, hv⟩ := hlen i hlt
        obtain ⟨⟨A, c, l, rfl, hl, hsl, hR⟩, hX⟩ := hall i v hv
        have hq := fun q w' (h : RS w' 1 intC A l) => squant_c A c l q w' (by omega) hsl h
        clear hall hv
        generalize l.length = m at *
        repeat' (first
         | (refine gJ ?_
            first
            | refine jmv rfl rfl rfl rfl rfl ?_
            | (refine gload rfl rfl ?_
               refine j_qe rfl rfl rfl ?_
               first
               | refine ⟨_, q_load_own rfl rfl rfl rfl (by (repeat (first | exact InL.here | apply InL.there))) (by first | rfl | assumption), ?_⟩
               | refine ⟨_, q_loadA_own rfl rfl rfl rfl (by (repeat (first | exact InL.here | apply InL.there))) (by rfl), ?_⟩
               | refine ⟨_, q_loadA_ext rfl rfl rfl rfl ⟨by assumption, (by first | exact id | assumption)⟩ (by rfl), ?_⟩
               | refine ⟨_, q_load_ext rfl rfl rfl rfl ⟨by assumption, (by first | exact id | assumption)⟩ (by first | rfl | assumption), ?_⟩
               | refine ⟨_, q_load_extb rfl rfl rfl rfl ⟨by assumption, (by first | exact id | assumption)⟩ (by rfl), ?_⟩
               | refine ⟨_, q_loadA_extb rfl rfl rfl rfl ⟨by assumption, (by first | exact id | assumption)⟩ (by rfl), ?_⟩
               | refine ⟨_, q_load_ext0 rfl rfl rfl rfl ⟨by assumption, (by first | exact id | assumption)⟩ (by rfl), ?_⟩)
            | refine jcmp rfl rfl rfl rfl rfl rfl rfl ?_
            | refine jar rfl rfl rfl rfl rfl rfl rfl (by omega) ?_
            | (refine j_qe rfl rfl rfl ?_
               first
               | refine ⟨_, q_pick_t rfl rfl rfl, ?_⟩
               | refine ⟨_, q_pick_f rfl rfl rfl, ?_⟩
               | refine ⟨_, q_not rfl rfl, ?_⟩
               | refine ⟨_, q_index_nat rfl rfl rfl rfl rfl (by omega), ?_⟩
               | refine ⟨_, q_index_slice rfl rfl rfl rfl rfl (by omega), ?_⟩
               | refine ⟨_, q_index_arr rfl rfl rfl rfl rfl (by omega), ?_⟩
               | refine ⟨_, q_index_arr_ext rfl rfl rfl rfl rfl (by omega), ?_⟩
               | refine ⟨_, q_len_slice rfl rfl rfl rfl, ?_⟩
               | refine ⟨_, q_addu8 rfl rfl rfl (by omega), ?_⟩)
            | refine j_guard_undef rfl rfl rfl rfl rfl ?_
            | (refine j_guard rfl rfl rfl rfl rfl ?_ ?_ <;> intro hc <;> (first | (exact absurd hc (by decide)) | ((try simp only [decide_eq_true_eq, decide_eq_false_iff_not, Bool.not_eq_true', Bool.not_eq_false', Bool.not_true, Bool.not_false, ne_eq, Decidable.not_not] at hc) <;> first | (exfalso; omega) | (exact absurd trivial hc) | skip)))
            | (refine j_buildSlice rfl rfl rfl rfl rfl rfl rfl rfl rfl rfl rfl rfl ?_; intro b))
         | (refine gSC ?_
            first
            | refine sc_seq ?_
            | refine sc_region ?_
            | (refine sc_cond rfl ?_ ?_ <;> intro hc <;> (first | (exact absurd hc (by decide)) | ((try simp only [decide_eq_true_eq, decide_eq_false_iff_not, Bool.not_eq_true', Bool.not_eq_false', Bool.not_true, Bool.not_false, ne_eq, Decidable.not_not] at hc) <;> first | (exfalso; omega) | (exact absurd trivial hc) | skip)))
            | refine sc_block ?_
            | refine sc_ret ?_
            | refine sc_exit ?_
            | refine sc_skip ?_)
         | (refine gSQ ?_
            first
            | refine sq_seq ?_
            | refine sq_blk ?_
            | refine sq_seq_ret ?_
            | refine sq_blk_ret ?_
            | refine sq_loop_ret ?_
            | refine sq_seq_exit ?_
            | refine sq_blk_hit ?_
            | refine sq_blk_miss rfl ?_
            | refine sq_loop_exit ?_
            | refine sq_ende (.inl rfl) rfl rfl ⟨_, (RVs.cons (RV.tmp rfl) (RVs.nil)), ?_⟩
            | refine sq_ende (.inr rfl) rfl rfl ⟨_, (RVs.cons (RV.tmp rfl) (RVs.nil)), ?_⟩)
         | refine j_nil ?_
         )
        refine sc_loop (ι := Int) (fun q => -1250 ≤ q ∧ q ≤ 12500) (fun q => (12500 - q).toNat) (fun q => [(12, .slice A m c), (13, .int .i64 q), (95, .slice (some ⟨b, 0, none⟩) 6 6), (96, .int .i64 6), (97, .int .i64 i)]) (fun _ => []) (-1250) ⟨by omega, by omega⟩ (by repeat (first | exact FSub.nil | refine FSub.cons rfl ?_ | refine FSub.conse rfl (by congr 1; omega) ?_)) (by repeat (first | exact LSub.nil | refine LSub.cons (by repeat (first | exact Rem.here | apply Rem.there)) ?_)) ?_
        rintro q ⟨hq1, hq2⟩
        by_cases hqq : q ≤ 11250
        · repeat' (first
           | (refine gJ ?_
              first
              | refine jmv rfl rfl rfl rfl rfl ?_
              | (refine gload rfl rfl ?_
                 refine j_qe rfl rfl rfl ?_
                 first
                 | refine ⟨_, q_load_own rfl rfl rfl rfl (by (repeat (first | exact InL.here | apply InL.there))) (by first | rfl | assumption), ?_⟩
                 | refine ⟨_, q_loadA_own rfl rfl rfl rfl (by (repeat (first | exact InL.here | apply InL.there))) (by rfl), ?_⟩
                 | refine ⟨_, q_loadA_ext rfl rfl rfl rfl ⟨by assumption, (by first | exact id | assumption)⟩ (by rfl), ?_⟩
                 | refine ⟨_, q_load_ext rfl rfl rfl rfl ⟨by assumption, (by first | exact id | assumption)⟩ (by first | rfl | assumption), ?_⟩
                 | refine ⟨_, q_load_extb rfl rfl rfl rfl ⟨by assumption, (by first | exact id | assumption)⟩ (by rfl), ?_⟩
                 | refine ⟨_, q_loadA_extb rfl rfl rfl rfl ⟨by assumption, (by first | exact id | assumption)⟩ (by rfl), ?_⟩
                 | refine ⟨_, q_load_ext0 rfl rfl rfl rfl ⟨by assumption, (by first | exact id | assumption)⟩ (by rfl), ?_⟩)
              | refine jcmp rfl rfl rfl rfl rfl rfl rfl ?_
              | refine jar rfl rfl rfl rfl rfl rfl rfl (by omega) ?_
              | (refine gcall rfl rfl ?_
                 first
                 | (refine j_qc (f := 17) rfl rfl rfl rfl rfl rfl rfl ?_; refine ⟨_, (fun w' hs => hq _ w' (hR.st hs)), ?_⟩))
              | (refine j_qe rfl rfl rfl ?_
                 first
                 | refine ⟨_, q_pick_t rfl rfl rfl, ?_⟩
                 | refine ⟨_, q_pick_f rfl rfl rfl, ?_⟩
                 | refine ⟨_, q_not rfl rfl, ?_⟩
                 | refine ⟨_, q_index_nat rfl rfl rfl rfl rfl (by omega), ?_⟩
                 | refine ⟨_, q_index_slice rfl rfl rfl rfl rfl (by omega), ?_⟩
                 | refine ⟨_, q_index_arr rfl rfl rfl rfl rfl (by omega), ?_⟩
                 | refine ⟨_, q_index_arr_ext rfl rfl rfl rfl rfl (by omega), ?_⟩
                 | refine ⟨_, q_len_slice rfl rfl rfl rfl, ?_⟩
                 | refine ⟨_, q_addu8 rfl rfl rfl (by omega), ?_⟩)
              | refine j_guard_undef rfl rfl rfl rfl rfl ?_
              | (refine j_guard rfl rfl rfl rfl rfl ?_ ?_ <;> intro hc <;> (first | (exact absurd hc (by decide)) | ((try simp only [decide_eq_true_eq, decide_eq_false_iff_not, Bool.not_eq_true', Bool.not_eq_false', Bool.not_true, Bool.not_false, ne_eq, Decidable.not_not] at hc) <;> first | (exfalso; omega) | (exact absurd trivial hc) | skip)))
              | (refine j_buildSlice rfl rfl rfl rfl rfl rfl rfl rfl rfl rfl rfl rfl ?_; intro b))
           | (refine gSC ?_
              first
              | refine sc_seq ?_
              | refine sc_region ?_
              | (refine sc_cond rfl ?_ ?_ <;> intro hc <;> (first | (exact absurd hc (by decide)) | ((try simp only [decide_eq_true_eq, decide_eq_false_iff_not, Bool.not_eq_true', Bool.not_eq_false', Bool.not_true, Bool.not_false, ne_eq, Decidable.not_not] at hc) <;> first | (exfalso; omega) | (exact absurd trivial hc) | skip)))
              | refine sc_block ?_
              | refine sc_ret ?_
              | refine sc_exit ?_
              | refine sc_skip ?_)
           | (refine gSQ ?_
              first
              | refine sq_seq ?_
              | refine sq_blk ?_
              | refine sq_seq_ret ?_
              | refine sq_blk_ret ?_
              | refine sq_loop_ret ?_
              | refine sq_seq_exit ?_
              | refine sq_blk_hit ?_
              | refine sq_blk_miss rfl ?_
              | refine sq_loop_exit ?_
              | refine sq_ende (.inl rfl) rfl rfl ⟨_, (RVs.cons (RV.tmp rfl) (RVs.nil)), ?_⟩
              | refine sq_ende (.inr rfl) rfl rfl ⟨_, (RVs.cons (RV.tmp rfl) (RVs.nil)), ?_⟩)
           | refine j_nil ?_
           )
          exact sq_loop (q + 1250) ⟨by omega, by omega⟩ (by omega) (by repeat (first | exact FSub.nil | refine FSub.cons rfl ?_ | refine FSub.conse rfl (by congr 1; omega) ?_)) (by repeat (first | exact LSub.nil | refine LSub.cons (by repeat (first | exact Rem.here | apply Rem.there)) ?_))
        · repeat' (first
           | (refine gJ ?_
              first
              | refine jmv rfl rfl rfl rfl rfl ?_
              | (refine gload rfl rfl ?_
                 refine j_qe rfl rfl rfl ?_
                 first
                 | refine ⟨_, q_load_own rfl rfl rfl rfl (by (repeat (first | exact InL.here | apply InL.there))) (by first | rfl | assumption), ?_⟩
                 | refine ⟨_, q_loadA_own rfl rfl rfl rfl (by (repeat (first | exact InL.here | apply InL.there))) (by rfl), ?_⟩
                 | refine ⟨_, q_loadA_ext rfl rfl rfl rfl ⟨by assumption, (by first | exact id | assumption)⟩ (by rfl), ?_⟩
                 | refine ⟨_, q_load_ext rfl rfl rfl rfl ⟨by assumption, (by first | exact id | assumption)⟩ (by first | rfl | assumption), ?_⟩
                 | refine ⟨_, q_load_extb rfl rfl rfl rfl ⟨by assumption, (by first | exact id | assumption)⟩ (by rfl), ?_⟩
                 | refine ⟨_, q_loadA_extb rfl rfl rfl rfl ⟨by assumption, (by first | exact id | assumption)⟩ (by rfl), ?_⟩
                 | refine ⟨_, q_load_ext0 rfl rfl rfl rfl ⟨by assumption, (by first | exact id | assumption)⟩ (by rfl), ?_⟩)
              | refine jcmp rfl rfl rfl rfl rfl rfl rfl ?_
              | refine jar rfl rfl rfl rfl rfl rfl rfl (by omega) ?_
              | (refine j_qe rfl rfl rfl ?_
                 first
                 | refine ⟨_, q_pick_t rfl rfl rfl, ?_⟩
                 | refine ⟨_, q_pick_f rfl rfl rfl, ?_⟩
                 | refine ⟨_, q_not rfl rfl, ?_⟩
                 | refine ⟨_, q_index_nat rfl rfl rfl rfl rfl (by omega), ?_⟩
                 | refine ⟨_, q_index_slice rfl rfl rfl rfl rfl (by omega), ?_⟩
                 | refine ⟨_, q_index_arr rfl rfl rfl rfl rfl (by omega), ?_⟩
                 | refine ⟨_, q_index_arr_ext rfl rfl rfl rfl rfl (by omega), ?_⟩
                 | refine ⟨_, q_len_slice rfl rfl rfl rfl, ?_⟩
                 | refine ⟨_, q_addu8 rfl rfl rfl (by omega), ?_⟩)
              | refine j_guard_undef rfl rfl rfl rfl rfl ?_
              | (refine j_guard rfl rfl rfl rfl rfl ?_ ?_ <;> intro hc <;> (first | (exact absurd hc (by decide)) | ((try simp only [decide_eq_true_eq, decide_eq_false_iff_not, Bool.not_eq_true', Bool.not_eq_false', Bool.not_true, Bool.not_false, ne_eq, Decidable.not_not] at hc) <;> first | (exfalso; omega) | (exact absurd trivial hc) | skip)))
              | (refine j_buildSlice rfl rfl rfl rfl rfl rfl rfl rfl rfl rfl rfl rfl ?_; intro b))
           | (refine gSC ?_
              first
              | refine sc_seq ?_
              | refine sc_region ?_
              | (refine sc_cond rfl ?_ ?_ <;> intro hc <;> (first | (exact absurd hc (by decide)) | ((try simp only [decide_eq_true_eq, decide_eq_false_iff_not, Bool.not_eq_true', Bool.not_eq_false', Bool.not_true, Bool.not_false, ne_eq, Decidable.not_not] at hc) <;> first | (exfalso; omega) | (exact absurd trivial hc) | skip)))
              | refine sc_block ?_
              | refine sc_ret ?_
              | refine sc_exit ?_
              | refine sc_skip ?_)
           | (refine gSQ ?_
              first
              | refine sq_seq ?_
              | refine sq_blk ?_
              | refine sq_seq_ret ?_
              | refine sq_blk_ret ?_
              | refine sq_loop_ret ?_
              | refine sq_seq_exit ?_
              | refine sq_blk_hit ?_
              | refine sq_blk_miss rfl ?_
              | refine sq_loop_exit ?_
              | refine sq_ende (.inl rfl) rfl rfl ⟨_, (RVs.cons (RV.tmp rfl) (RVs.nil)), ?_⟩
              | refine sq_ende (.inr rfl) rfl rfl ⟨_, (RVs.cons (RV.tmp rfl) (RVs.nil)), ?_⟩)
           | refine j_nil ?_
           )
          exact sq_loop (i + 1) (by omega) (by omega) (by repeat (first | exact FSub.nil | refine FSub.cons rfl ?_ | refine FSub.conse rfl (by congr 1; omega) ?_)) (by repeat (first | exact LSub.nil | refine LSub.cons (by repeat (first | exact Rem.here | apply Rem.there)) ?_))
      · obtain rfl : i = 6 := by omega
        repeat' (first
         | (refine gJ ?_
            first
            | refine jmv rfl rfl rfl rfl rfl ?_
            | (refine gload rfl rfl ?_
               refine j_qe rfl rfl rfl ?_
               first
               | refine ⟨_, q_load_own rfl rfl rfl rfl (by (repeat (first | exact InL.here | apply InL.there))) (by first | rfl | assumption), ?_⟩
               | refine ⟨_, q_loadA_own rfl rfl rfl rfl (by (repeat (first | exact InL.here | apply InL.there))) (by rfl), ?_⟩
               | refine ⟨_, q_loadA_ext rfl rfl rfl rfl ⟨by assumption, (by first | exact id | assumption)⟩ (by rfl), ?_⟩
               | refine ⟨_, q_load_ext rfl rfl rfl rfl ⟨by assumption, (by first | exact id | assumption)⟩ (by first | rfl | assumption), ?_⟩
               | refine ⟨_, q_load_extb rfl rfl rfl rfl ⟨by assumption, (by first | exact id | assumption)⟩ (by rfl), ?_⟩
               | refine ⟨_, q_loadA_extb rfl rfl rfl rfl ⟨by assumption, (by first | exact id | assumption)⟩ (by rfl), ?_⟩
               | refine ⟨_, q_load_ext0 rfl rfl rfl rfl ⟨by assumption, (by first | exact id | assumption)⟩ (by rfl), ?_⟩)
            | refine jcmp rfl rfl rfl rfl rfl rfl rfl ?_
            | refine jar rfl rfl rfl rfl rfl rfl rfl (by omega) ?_
            | (refine gcall rfl rfl ?_
               first
               | (refine j_qc (f := 18) rfl rfl rfl rfl rfl rfl rfl ?_; refine ⟨_, (fun w' _ => ends_c w'), ?_⟩))
            | (refine j_qe rfl rfl rfl ?_
               first
               | refine ⟨_, q_pick_t rfl rfl rfl, ?_⟩
               | refine ⟨_, q_pick_f rfl rfl rfl, ?_⟩
               | refine ⟨_, q_not rfl rfl, ?_⟩
               | refine ⟨_, q_index_nat rfl rfl rfl rfl rfl (by omega), ?_⟩
               | refine ⟨_, q_index_slice rfl rfl rfl rfl rfl (by omega), ?_⟩
               | refine ⟨_, q_index_arr rfl rfl rfl rfl rfl (by omega), ?_⟩
               | refine ⟨_, q_index_arr_ext rfl rfl rfl rfl rfl (by omega), ?_⟩
               | refine ⟨_, q_len_slice rfl rfl rfl rfl, ?_⟩
               | refine ⟨_, q_addu8 rfl rfl rfl (by omega), ?_⟩)
            | refine j_guard_undef rfl rfl rfl rfl rfl ?_
            | (refine j_guard rfl rfl rfl rfl rfl ?_ ?_ <;> intro hc <;> (first | (exact absurd hc (by decide)) | ((try simp only [decide_eq_true_eq, decide_eq_false_iff_not, Bool.not_eq_true', Bool.not_eq_false', Bool.not_true, Bool.not_false, ne_eq, Decidable.not_not] at hc) <;> first | (exfalso; omega) | (exact absurd trivial hc) | skip)))
            | (refine j_buildSlice rfl rfl rfl rfl rfl rfl rfl rfl rfl rfl rfl rfl ?_; intro b))
         | (refine gSC ?_
            first
            | refine sc_seq ?_
            | refine sc_region ?_
            | (refine sc_cond rfl ?_ ?_ <;> intro hc <;> (first | (exact absurd hc (by decide)) | ((try simp only [decide_eq_true_eq, decide_eq_false_iff_not, Bool.not_eq_true', Bool.not_eq_false', Bool.not_true, Bool.not_false, ne_eq, Decidable.not_not] at hc) <;> first | (exfalso; omega) | (exact absurd trivial hc) | skip)))
            | refine sc_block ?_
            | refine sc_ret ?_
            | refine sc_exit ?_
            | refine sc_skip ?_)
         | (refine gSQ ?_
            first
            | refine sq_seq ?_
            | refine sq_blk ?_
            | refine sq_seq_ret ?_
            | refine sq_blk_ret ?_
            | refine sq_loop_ret ?_
            | refine sq_seq_exit ?_
            | refine sq_blk_hit ?_
            | refine sq_blk_miss rfl ?_
            | refine sq_loop_exit ?_
            | refine sq_ende (.inl rfl) rfl rfl ⟨_, (RVs.cons (RV.tmp rfl) (RVs.nil)), ?_⟩
            | refine sq_ende (.inr rfl) rfl rfl ⟨_, (RVs.cons (RV.tmp rfl) (RVs.nil)), ?_⟩)
         | refine j_nil ?_
         )
        (intro w' hS; refine ⟨?_, below_then hB hS⟩; simp only [pack])
end Go.Proofs.Ytmlgheoliaplgaa
