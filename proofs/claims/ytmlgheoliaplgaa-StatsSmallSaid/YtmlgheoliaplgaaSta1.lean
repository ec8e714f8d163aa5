/-
  stats: times, plus, over, power, checked, Choose, exceeds.
-/
import Derived.Test.YtmlgheoliaplgaaNat6
import Derived.Test.YtmlgheoliaplgaaNl1
namespace Go.Proofs.Ytmlgheoliaplgaa
open Go.RowKit Eng
set_option linter.unusedVariables false
set_option linter.unusedSimpArgs false
attribute [local irreducible] SC SQ J Qt Calls Iterates
set_option exponentiation.threshold 600
theorem small_cap {a : Nat} (h : a ≤ 5000000) : a ≤ cap := Nat.le_trans h (by unfold cap; decide +kernel)
theorem times_c (A : Option Addr) (c a : Nat) (B : Option Addr) (bc b : Nat) (w : World) (ha : a ≤ cap) (hb : b ≤ cap) (hA : SL w A c (limbs a)) (hB : SL w B bc (limbs b)) :
    Calls Try.prog 62 #[.slice A (limbs a).length c, .slice B (limbs b).length bc] w fun e w' => ∃ v : Value, True ∧ e = .returned v ∧ St w Cold [haN v (a * b)] w' := by
  have h1 := cap_len ha
  have h2 := cap_len hb
  refine eng_start (n := 14) (args := [.slice A (limbs a).length c, .slice B (limbs b).length bc]) tab tab_ok fns fns_ok [.tmp 4] Try.func62 rfl rfl rfl rfl ?_
  repeat' (first
   | (refine gJ ?_
      first
      | refine jmv rfl rfl rfl rfl rfl ?_
      | refine jextract rfl rfl rfl rfl rfl rfl ?_
      | (refine gcall rfl rfl ?_; refine j_nat2 (f := 35) rfl rfl rfl rfl rfl rfl rfl (fun w' hs => mul_c A c a B bc b w' (by omega) (hA.st hs) (hB.st hs)) ?_; intro A3 c3))
   | (refine gSC ?_
      first
      | refine sc_seq ?_
      | refine sc_region ?_
      | (refine sc_cond rfl ?_ ?_ <;> intro hc <;> (first | (exact absurd hc (by decide)) | ((try simp only [decide_eq_true_eq, decide_eq_false_iff_not, Bool.not_eq_true', Bool.not_eq_false', Bool.not_true, Bool.not_false, ne_eq, Decidable.not_not] at hc) <;> first | (exfalso; omega) | (exact absurd trivial hc) | skip)))
      | refine sc_block ?_
      | refine sc_ret ?_
      | refine sc_exit ?_
      | refine sc_skip ?_)
   | (refine gSQ ?_
      first
      | refine sq_seq ?_
      | refine sq_blk ?_
      | refine sq_seq_ret ?_
      | refine sq_blk_ret ?_
      | refine sq_loop_ret ?_
      | refine sq_seq_exit ?_
      | refine sq_blk_hit ?_
      | refine sq_blk_miss rfl ?_
      | refine sq_loop_exit ?_
      | refine sq_ende (.inl rfl) rfl rfl ⟨_, (RVs.cons (RV.tmp rfl) (RVs.nil)), ?_⟩
      | refine sq_ende (.inr rfl) rfl rfl ⟨_, (RVs.cons (RV.tmp rfl) (RVs.nil)), ?_⟩)
   | refine j_nil ?_
   )
  intro w' hS
  exact ⟨_, trivial, rfl, hS.sub (by repeat (first | exact LSub.nil | refine LSub.cons (by repeat (first | exact Rem.here | apply Rem.there)) ?_))⟩
theorem plus_c (A : Option Addr) (c a : Nat) (B : Option Addr) (bc b : Nat) (w : World) (ha : a ≤ cap) (hb : b ≤ cap) (hA : SL w A c (limbs a)) (hB : SL w B bc (limbs b)) :
    Calls Try.prog 75 #[.slice A (limbs a).length c, .slice B (limbs b).length bc] w fun e w' => ∃ v : Value, True ∧ e = .returned v ∧ St w Cold [haN v (a + b)] w' := by
  have h1 := cap_len ha
  have h2 := cap_len hb
  refine eng_start (n := 14) (args := [.slice A (limbs a).length c, .slice B (limbs b).length bc]) tab tab_ok fns fns_ok [.tmp 4] Try.func75 rfl rfl rfl rfl ?_
  repeat' (first
   | (refine gJ ?_
      first
      | refine jmv rfl rfl rfl rfl rfl ?_
      | refine jextract rfl rfl rfl rfl rfl rfl ?_
      | (refine gcall rfl rfl ?_; refine j_nat2 (f := 25) rfl rfl rfl rfl rfl rfl rfl (fun w' hs => add_c A c a B bc b w' (by omega) (by omega) (hA.st hs) (hB.st hs)) ?_; intro A3 c3))
   | (refine gSC ?_
      first
      | refine sc_seq ?_
      | refine sc_region ?_
      | (refine sc_cond rfl ?_ ?_ <;> intro hc <;> (first | (exact absurd hc (by decide)) | ((try simp only [decide_eq_true_eq, decide_eq_false_iff_not, Bool.not_eq_true', Bool.not_eq_false', Bool.not_true, Bool.not_false, ne_eq, Decidable.not_not] at hc) <;> first | (exfalso; omega) | (exact absurd trivial hc) | skip)))
      | refine sc_block ?_
      | refine sc_ret ?_
      | refine sc_exit ?_
      | refine sc_skip ?_)
   | (refine gSQ ?_
      first
      | refine sq_seq ?_
      | refine sq_blk ?_
      | refine sq_seq_ret ?_
      | refine sq_blk_ret ?_
      | refine sq_loop_ret ?_
      | refine sq_seq_exit ?_
      | refine sq_blk_hit ?_
      | refine sq_blk_miss rfl ?_
      | refine sq_loop_exit ?_
      | refine sq_ende (.inl rfl) rfl rfl ⟨_, (RVs.cons (RV.tmp rfl) (RVs.nil)), ?_⟩
      | refine sq_ende (.inr rfl) rfl rfl ⟨_, (RVs.cons (RV.tmp rfl) (RVs.nil)), ?_⟩)
   | refine j_nil ?_
   )
  intro w' hS
  exact ⟨_, trivial, rfl, hS.sub (by repeat (first | exact LSub.nil | refine LSub.cons (by repeat (first | exact Rem.here | apply Rem.there)) ?_))⟩
theorem over_c (A : Option Addr) (c a : Nat) (B : Option Addr) (bc b : Nat) (w : World) (ha : a ≤ cap) (hb0 : 0 < b) (hb : b < 4294967296) (hA : SL w A c (limbs a)) (hB : SL w B bc (limbs b)) :
    Calls Try.prog 61 #[.slice A (limbs a).length c, .slice B (limbs b).length bc] w fun e w' => ∃ v : Value, True ∧ e = .returned v ∧ St w Cold [haN v (a / b)] w' := by
  have h1 := cap_len ha
  refine eng_start (n := 16) (args := [.slice A (limbs a).length c, .slice B (limbs b).length bc]) tab tab_ok fns fns_ok [.tmp 4] Try.func61 rfl rfl rfl rfl ?_
  repeat' (first
   | (refine gJ ?_
      first
      | refine jmv rfl rfl rfl rfl rfl ?_
      | refine jextract rfl rfl rfl rfl rfl rfl ?_
      | (refine gcall rfl rfl ?_; refine j_callN (f := 79) rfl rfl rfl rfl rfl rfl rfl (fun x : (Option Addr × Nat) × Value => .tuple #[.slice x.1.1 (limbs (a / b)).length x.1.2, x.2, .int .i64 0]) (fun _ => True) (fun x => [haN (.slice x.1.1 (limbs (a / b)).length x.1.2) (a / b)]) (fun w' hs => divmod_c A c a B bc b w' (by omega) hb0 hb (hA.st hs) (hB.st hs)) (fun _ => trivial) ?_; rintro ⟨⟨A3, c3⟩, v3⟩ _))
   | (refine gSC ?_
      first
      | refine sc_seq ?_
      | refine sc_region ?_
      | (refine sc_cond rfl ?_ ?_ <;> intro hc <;> (first | (exact absurd hc (by decide)) | ((try simp only [decide_eq_true_eq, decide_eq_false_iff_not, Bool.not_eq_true', Bool.not_eq_false', Bool.not_true, Bool.not_false, ne_eq, Decidable.not_not] at hc) <;> first | (exfalso; omega) | (exact absurd trivial hc) | skip)))
      | refine sc_block ?_
      | refine sc_ret ?_
      | refine sc_exit ?_
      | refine sc_skip ?_)
   | (refine gSQ ?_
      first
      | refine sq_seq ?_
      | refine sq_blk ?_
      | refine sq_seq_ret ?_
      | refine sq_blk_ret ?_
      | refine sq_loop_ret ?_
      | refine sq_seq_exit ?_
      | refine sq_blk_hit ?_
      | refine sq_blk_miss rfl ?_
      | refine sq_loop_exit ?_
      | refine sq_ende (.inl rfl) rfl rfl ⟨_, (RVs.cons (RV.tmp rfl) (RVs.nil)), ?_⟩
      | refine sq_ende (.inr rfl) rfl rfl ⟨_, (RVs.cons (RV.tmp rfl) (RVs.nil)), ?_⟩)
   | refine j_nil ?_
   )
  intro w' hS
  exact ⟨_, trivial, rfl, hS.sub (by repeat (first | exact LSub.nil | refine LSub.cons (by repeat (first | exact Rem.here | apply Rem.there)) ?_))⟩
theorem power_c (a n : Nat) (w : World) (ha : a ≤ 10000) (hn : n ≤ 500) :
    Calls Try.prog 76 #[.int .i64 a, .int .i64 n] w fun e w' => ∃ v : Value, True ∧ e = .returned v ∧ St w Cold [haN v (a ^ n)] w' := by
  refine eng_start (n := 15) (args := [.int .i64 a, .int .i64 n]) tab tab_ok fns fns_ok [.tmp 4] Try.func76 rfl rfl rfl rfl ?_
  repeat' (first
   | (refine gJ ?_
      first
      | refine jmv rfl rfl rfl rfl rfl ?_
      | refine jextract rfl rfl rfl rfl rfl rfl ?_
      | (refine gcall rfl rfl ?_; refine j_nat (f := 60) rfl rfl rfl rfl rfl rfl rfl (fun w' hs => number_c a w' (by omega)) ?_; intro A2 c2)
      | (refine gcall rfl rfl ?_; refine j_nat2 (f := 33) rfl rfl rfl rfl rfl rfl rfl (fun w' hs => pow_c A2 c2 a n w' ha hn (sl_of_own hs (by (repeat (first | exact InL.here | apply InL.there))) rfl rfl)) ?_; intro A3 c3))
   | (refine gSC ?_
      first
      | refine sc_seq ?_
      | refine sc_region ?_
      | (refine sc_cond rfl ?_ ?_ <;> intro hc <;> (first | (exact absurd hc (by decide)) | ((try simp only [decide_eq_true_eq, decide_eq_false_iff_not, Bool.not_eq_true', Bool.not_eq_false', Bool.not_true, Bool.not_false, ne_eq, Decidable.not_not] at hc) <;> first | (exfalso; omega) | (exact absurd trivial hc) | skip)))
      | refine sc_block ?_
      | refine sc_ret ?_
      | refine sc_exit ?_
      | refine sc_skip ?_)
   | (refine gSQ ?_
      first
      | refine sq_seq ?_
      | refine sq_blk ?_
      | refine sq_seq_ret ?_
      | refine sq_blk_ret ?_
      | refine sq_loop_ret ?_
      | refine sq_seq_exit ?_
      | refine sq_blk_hit ?_
      | refine sq_blk_miss rfl ?_
      | refine sq_loop_exit ?_
      | refine sq_ende (.inl rfl) rfl rfl ⟨_, (RVs.cons (RV.tmp rfl) (RVs.nil)), ?_⟩
      | refine sq_ende (.inr rfl) rfl rfl ⟨_, (RVs.cons (RV.tmp rfl) (RVs.nil)), ?_⟩)
   | refine j_nil ?_
   )
  intro w' hS
  exact ⟨_, trivial, rfl, hS.sub (by repeat (first | exact LSub.nil | refine LSub.cons (by repeat (first | exact Rem.here | apply Rem.there)) ?_))⟩
def checkF (n k x lo hi : Int) : Int := if k < 0 ∨ n < k ∨ x < lo ∨ hi < x then 2 else if 500 < n then 3 else 0
theorem checked_c (n k x lo hi : Int) (w : World) :
    Calls Try.prog 51 #[.int .i64 n, .int .i64 k, .int .i64 x, .int .i64 lo, .int .i64 hi] w fun e w' => e = .returned (.int .i64 (checkF n k x lo hi)) ∧ Below w.heap.size w w' := by
  refine eng_start (n := 30) (args := [.int .i64 n, .int .i64 k, .int .i64 x, .int .i64 lo, .int .i64 hi]) tab tab_ok fns fns_ok [.tmp 10] Try.func51 rfl rfl rfl rfl ?_
  repeat' (first
   | (refine gJ ?_
      first
      | refine jmv rfl rfl rfl rfl rfl ?_
      | refine jcmp rfl rfl rfl rfl rfl rfl rfl ?_
      | (refine j_qe rfl rfl rfl ?_
         first
         | refine ⟨_, q_pick_t rfl rfl rfl, ?_⟩
         | refine ⟨_, q_pick_f rfl rfl rfl, ?_⟩)
      | refine j_guard_undef rfl rfl rfl rfl rfl ?_
      | (refine j_guard rfl rfl rfl rfl rfl ?_ ?_ <;> intro hc <;> (first | (exact absurd hc (by decide)) | ((try simp only [decide_eq_true_eq, decide_eq_false_iff_not, Bool.not_eq_true', Bool.not_eq_false', Bool.not_true, Bool.not_false, ne_eq, Decidable.not_not] at hc) <;> first | (exfalso; omega) | (exact absurd trivial hc) | skip))))
   | (refine gSC ?_
      first
      | refine sc_seq ?_
      | refine sc_region ?_
      | (refine sc_cond rfl ?_ ?_ <;> intro hc <;> (first | (exact absurd hc (by decide)) | ((try simp only [decide_eq_true_eq, decide_eq_false_iff_not, Bool.not_eq_true', Bool.not_eq_false', Bool.not_true, Bool.not_false, ne_eq, Decidable.not_not] at hc) <;> first | (exfalso; omega) | (exact absurd trivial hc) | skip)))
      | refine sc_block ?_
      | refine sc_ret ?_
      | refine sc_exit ?_
      | refine sc_skip ?_)
   | (refine gSQ ?_
      first
      | refine sq_seq ?_
      | refine sq_blk ?_
      | refine sq_seq_ret ?_
      | refine sq_blk_ret ?_
      | refine sq_loop_ret ?_
      | refine sq_seq_exit ?_
      | refine sq_blk_hit ?_
      | refine sq_blk_miss rfl ?_
      | refine sq_loop_exit ?_
      | refine sq_ende (.inl rfl) rfl rfl ⟨_, (RVs.cons (RV.tmp rfl) (RVs.nil)), ?_⟩
      | refine sq_ende (.inr rfl) rfl rfl ⟨_, (RVs.cons (RV.tmp rfl) (RVs.nil)), ?_⟩)
   | refine j_nil ?_
   )
  all_goals ((intro w' hS; refine ⟨?_, hS.below⟩; simp only [pack]); refine ri ?_; unfold checkF; (repeat' split) <;> simp_all <;> omega)
theorem check_none {n k x lo hi : Int} (h : checkF n k x lo hi = 0) : (0 ≤ k ∧ k ≤ n ∧ n ≤ 500) ∧ (lo ≤ x ∧ x ≤ hi) := by
  unfold checkF at h
  split at h
  · omega
  · split at h <;> omega
theorem check_range (n k x lo hi : Int) : checkF n k x lo hi = 0 ∨ checkF n k x lo hi = 2 ∨ checkF n k x lo hi = 3 := by
  unfold checkF
  split
  · exact .inr (.inl rfl)
  · split
    · exact .inr (.inr rfl)
    · exact .inl rfl
/-- What does not count is an error. -/
theorem choose_e (n k : Int) (w : World) (hc : checkF n k 0 0 0 ≠ 0) :
    Calls Try.prog 32 #[.int .i64 n, .int .i64 k] w fun e w' => e = .returned (.tuple #[.slice none 0 0, .int .i64 (checkF n k 0 0 0)]) ∧ Below w.heap.size w w' := by
  have hcc := fun w' => checked_c n k 0 0 0 w'
  have hr := check_range n k 0 0 0
  generalize checkF n k 0 0 0 = e at *
  refine eng_start (n := 36) (args := [.int .i64 n, .int .i64 k]) tab tab_ok fns fns_ok [.tmp 4, .tmp 5] Try.func32 rfl rfl rfl rfl ?_
  repeat' (first
   | (refine gJ ?_
      first
      | refine jmv rfl rfl rfl rfl rfl ?_
      | refine jcmp rfl rfl rfl rfl rfl rfl rfl ?_
      | refine jar rfl rfl rfl rfl rfl rfl rfl (by omega) ?_
      | (refine gcall rfl rfl ?_
         first
         | (refine j_qc (f := 51) rfl rfl rfl rfl rfl rfl rfl ?_; refine ⟨_, (fun w' _ => hcc w'), ?_⟩))
      | (refine j_qe rfl rfl rfl ?_
         first
         | refine ⟨_, q_addu8 rfl rfl rfl (by omega), ?_⟩))
   | (refine gSC ?_
      first
      | refine sc_seq ?_
      | refine sc_region ?_
      | (refine sc_cond rfl ?_ ?_ <;> intro hc <;> (first | (exact absurd hc (by decide)) | ((try simp only [decide_eq_true_eq, decide_eq_false_iff_not, Bool.not_eq_true', Bool.not_eq_false', Bool.not_true, Bool.not_false, ne_eq, Decidable.not_not] at hc) <;> first | (exfalso; omega) | (exact absurd trivial hc) | skip)))
      | refine sc_block ?_
      | refine sc_ret ?_
      | refine sc_exit ?_
      | refine sc_skip ?_)
   | (refine gSQ ?_
      first
      | refine sq_seq ?_
      | refine sq_blk ?_
      | refine sq_seq_ret ?_
      | refine sq_blk_ret ?_
      | refine sq_loop_ret ?_
      | refine sq_seq_exit ?_
      | refine sq_blk_hit ?_
      | refine sq_blk_miss rfl ?_
      | refine sq_loop_exit ?_
      | refine sq_ende (.inl rfl) rfl rfl ⟨_, (RVs.cons (RV.tmp rfl) (RVs.cons (RV.tmp rfl) (RVs.nil))), ?_⟩
      | refine sq_ende (.inr rfl) rfl rfl ⟨_, (RVs.cons (RV.tmp rfl) (RVs.cons (RV.tmp rfl) (RVs.nil))), ?_⟩)
   | refine j_nil ?_
   )
  all_goals (intro w' hS; refine ⟨?_, hS.below⟩; simp only [pack])
set_option exponentiation.threshold 600
theorem ch_cap {n k : Nat} (h : n ≤ 500) : ch n k ≤ 2 ^ 500 := Nat.le_trans (bn_le 1 1 n k) (Nat.pow_le_pow_right (by omega) h)
theorem ch_cap2 {n k m : Nat} (h : n ≤ 500) (hm : m ≤ 500) : ch n k * m ≤ cap :=
  Nat.le_trans (Nat.mul_le_mul (ch_cap h) hm) (by unfold cap; decide +kernel)
theorem choose_c (n k : Nat) (w : World) (hk : k ≤ n) (hn : n ≤ 500) :
    Calls Try.prog 32 #[.int .i64 n, .int .i64 k] w fun e w' => ∃ v : Value, True ∧ e = .returned (.tuple #[v, .int .i64 0]) ∧ St w Cold [haN v (ch n k)] w' := by
  have hcc := fun w' => checked_c n k 0 0 0 w'
  have hr : checkF n k 0 0 0 = 0 := by unfold checkF; rw [if_neg (by omega), if_neg (by omega)]
  rw [hr] at hcc
  obtain ⟨m, hm⟩ : ∃ m, min k (n - k) = m := ⟨_, rfl⟩
  have hmin : (if (n : Int) - k < k then (n : Int) - k else k) = m := by split <;> omega
  have e0 : ch n 0 = 1 := by unfold ch; rw [bn_head, Nat.one_pow]
  have hone : ∀ w', Calls Try.prog 60 #[.int .i64 1] w' fun e w'' => ∃ v : Value, True ∧ e = .returned v ∧ St w' Cold [haN v (ch n 0)] w'' := fun w' => by rw [e0]; exact number_c 1 w' (by omega)
  refine eng_start (n := 36) (args := [.int .i64 n, .int .i64 k]) tab tab_ok fns fns_ok [.tmp 4, .tmp 5] Try.func32 rfl rfl rfl rfl ?_
  repeat' (first
   | (refine gJ ?_
      first
      | refine jmv rfl rfl rfl rfl rfl ?_
      | refine jcmp rfl rfl rfl rfl rfl rfl rfl ?_
      | refine jar rfl rfl rfl rfl rfl rfl rfl (by omega) ?_
      | (refine gcall rfl rfl ?_
         first
         | (refine j_qc (f := 51) rfl rfl rfl rfl rfl rfl rfl ?_; refine ⟨_, (fun w' _ => hcc w'), ?_⟩))
      | (refine gcall rfl rfl ?_; refine j_nat (f := 60) rfl rfl rfl rfl rfl rfl rfl (fun w' hs => hone w') ?_; intro A2 c2)
      | (refine j_qe rfl rfl rfl ?_; refine ⟨_, q_minr rfl rfl rfl hmin, ?_⟩)
      | (refine j_qe rfl rfl rfl ?_
         first
         | refine ⟨_, q_addu8 rfl rfl rfl (by omega), ?_⟩))
   | (refine gSC ?_
      first
      | refine sc_seq ?_
      | refine sc_region ?_
      | (refine sc_cond rfl ?_ ?_ <;> intro hc <;> (first | (exact absurd hc (by decide)) | ((try simp only [decide_eq_true_eq, decide_eq_false_iff_not, Bool.not_eq_true', Bool.not_eq_false', Bool.not_true, Bool.not_false, ne_eq, Decidable.not_not] at hc) <;> first | (exfalso; omega) | (exact absurd trivial hc) | skip)))
      | refine sc_block ?_
      | refine sc_ret ?_
      | refine sc_exit ?_
      | refine sc_skip ?_)
   | (refine gSQ ?_
      first
      | refine sq_seq ?_
      | refine sq_blk ?_
      | refine sq_seq_ret ?_
      | refine sq_blk_ret ?_
      | refine sq_loop_ret ?_
      | refine sq_seq_exit ?_
      | refine sq_blk_hit ?_
      | refine sq_blk_miss rfl ?_
      | refine sq_loop_exit ?_
      | refine sq_ende (.inl rfl) rfl rfl ⟨_, (RVs.cons (RV.tmp rfl) (RVs.cons (RV.tmp rfl) (RVs.nil))), ?_⟩
      | refine sq_ende (.inr rfl) rfl rfl ⟨_, (RVs.cons (RV.tmp rfl) (RVs.cons (RV.tmp rfl) (RVs.nil))), ?_⟩)
   | refine j_nil ?_
   )
  refine sc_loop (ι := Nat × Option Addr × Nat) (fun i => i.1 ≤ m) (fun i => m - i.1) (fun i => [(0, .int .i64 n), (1, .int .i64 k), (7, .slice i.2.1 (limbs (ch n i.1)).length i.2.2), (20, .int .i64 m), (21, .int .i64 i.1)])
    (fun i => [haN (.slice i.2.1 (limbs (ch n i.1)).length i.2.2) (ch n i.1)]) (0, A2, c2) (by show 0 ≤ m; omega) (by repeat (first | exact FSub.nil | refine FSub.cons rfl ?_ | refine FSub.conse rfl (by congr 1; omega) ?_)) (by repeat (first | exact LSub.nil | refine LSub.cons (by repeat (first | exact Rem.here | apply Rem.there)) ?_)) ?_
  rintro ⟨i, A3, c3⟩ hi
  dsimp only at hi ⊢
  by_cases hlt : i < m
  · have hn1 : ∀ w', Calls Try.prog 60 #[.int .i64 ((n : Int) - i)] w' fun e w'' => ∃ v : Value, True ∧ e = .returned v ∧ St w' Cold [haN v (n - i)] w'' := fun w' => by
      rw [show (n : Int) - i = ((n - i : Nat) : Int) by omega]
      exact number_c (n - i) w' (by omega)
    have hn2 : ∀ w', Calls Try.prog 60 #[.int .i64 ((i : Int) + 1)] w' fun e w'' => ∃ v : Value, True ∧ e = .returned v ∧ St w' Cold [haN v (i + 1)] w'' := fun w' => by
      rw [show (i : Int) + 1 = ((i + 1 : Nat) : Int) by omega]
      exact number_c (i + 1) w' (by omega)
    have hcap := ch_cap2 (n := n) (k := i) (m := n - i) hn (by omega)
    have hcap1 := ch_cap2 (n := n) (k := i) (m := 1) hn (by omega)
    rw [Nat.mul_one] at hcap1
    have hov := fun A c B bc w' hA hB => over_c A c (ch n i * (n - i)) B bc (i + 1) w' hcap (by omega) (by omega) hA hB
    rw [ch_step (by omega : i ≤ n)] at hov
    repeat' (first
     | (refine gJ ?_
        first
        | refine jmv rfl rfl rfl rfl rfl ?_
        | refine jcmp rfl rfl rfl rfl rfl rfl rfl ?_
        | refine jar rfl rfl rfl rfl rfl rfl rfl (by omega) ?_
        | (refine gcall rfl rfl ?_; refine j_nat (f := 61) rfl rfl rfl rfl rfl rfl rfl (fun w' hs => hov A5 c5 A6 c6 w' (sl_of_own hs (by (repeat (first | exact InL.here | apply InL.there))) rfl rfl) (sl_of_own hs (by (repeat (first | exact InL.here | apply InL.there))) rfl rfl)) ?_; intro A7 c7)
        | (refine gcall rfl rfl ?_; refine j_nat (f := 60) rfl rfl rfl rfl rfl rfl rfl (fun w' hs => hn1 w') ?_; intro A4 c4)
        | (refine gcall rfl rfl ?_; refine j_nat (f := 60) rfl rfl rfl rfl rfl rfl rfl (fun w' hs => hn2 w') ?_; intro A6 c6)
        | (refine gcall rfl rfl ?_; refine j_nat (f := 62) rfl rfl rfl rfl rfl rfl rfl (fun w' hs => times_c A3 c3 (ch n i) A4 c4 (n - i) w' hcap1 (by have := small_cap (a := n - i) (by omega); omega) (sl_of_own hs (by (repeat (first | exact InL.here | apply InL.there))) rfl rfl) (sl_of_own hs (by (repeat (first | exact InL.here | apply InL.there))) rfl rfl)) ?_; intro A5 c5)
        | (refine j_qe rfl rfl rfl ?_
           first
           | refine ⟨_, q_addu8 rfl rfl rfl (by omega), ?_⟩))
     | (refine gSC ?_
        first
        | refine sc_seq ?_
        | refine sc_region ?_
        | (refine sc_cond rfl ?_ ?_ <;> intro hc <;> (first | (exact absurd hc (by decide)) | ((try simp only [decide_eq_true_eq, decide_eq_false_iff_not, Bool.not_eq_true', Bool.not_eq_false', Bool.not_true, Bool.not_false, ne_eq, Decidable.not_not] at hc) <;> first | (exfalso; omega) | (exact absurd trivial hc) | skip)))
        | refine sc_block ?_
        | refine sc_ret ?_
        | refine sc_exit ?_
        | refine sc_skip ?_)
     | (refine gSQ ?_
        first
        | refine sq_seq ?_
        | refine sq_blk ?_
        | refine sq_seq_ret ?_
        | refine sq_blk_ret ?_
        | refine sq_loop_ret ?_
        | refine sq_seq_exit ?_
        | refine sq_blk_hit ?_
        | refine sq_blk_miss rfl ?_
        | refine sq_loop_exit ?_
        | refine sq_ende (.inl rfl) rfl rfl ⟨_, (RVs.cons (RV.tmp rfl) (RVs.cons (RV.tmp rfl) (RVs.nil))), ?_⟩
        | refine sq_ende (.inr rfl) rfl rfl ⟨_, (RVs.cons (RV.tmp rfl) (RVs.cons (RV.tmp rfl) (RVs.nil))), ?_⟩)
     | refine j_nil ?_
     )
    exact sq_loop (i + 1, A7, c7) (by show i + 1 ≤ m; omega) (by show m - (i + 1) < m - i; omega) (by repeat (first | exact FSub.nil | refine FSub.cons rfl ?_ | refine FSub.conse rfl (by congr 1; omega) ?_)) (by repeat (first | exact LSub.nil | refine LSub.cons (by repeat (first | exact Rem.here | apply Rem.there)) ?_))
  · have : i = m := by omega
    subst this
    have em : ch n i = ch n k := by rw [← hm]; exact ch_min hk
    rw [em]
    repeat' (first
     | (refine gJ ?_
        first
        | refine jmv rfl rfl rfl rfl rfl ?_
        | refine jcmp rfl rfl rfl rfl rfl rfl rfl ?_
        | refine jar rfl rfl rfl rfl rfl rfl rfl (by omega) ?_
        | (refine j_qe rfl rfl rfl ?_
           first
           | refine ⟨_, q_addu8 rfl rfl rfl (by omega), ?_⟩))
     | (refine gSC ?_
        first
        | refine sc_seq ?_
        | refine sc_region ?_
        | (refine sc_cond rfl ?_ ?_ <;> intro hc <;> (first | (exact absurd hc (by decide)) | ((try simp only [decide_eq_true_eq, decide_eq_false_iff_not, Bool.not_eq_true', Bool.not_eq_false', Bool.not_true, Bool.not_false, ne_eq, Decidable.not_not] at hc) <;> first | (exfalso; omega) | (exact absurd trivial hc) | skip)))
        | refine sc_block ?_
        | refine sc_ret ?_
        | refine sc_exit ?_
        | refine sc_skip ?_)
     | (refine gSQ ?_
        first
        | refine sq_seq ?_
        | refine sq_blk ?_
        | refine sq_seq_ret ?_
        | refine sq_blk_ret ?_
        | refine sq_loop_ret ?_
        | refine sq_seq_exit ?_
        | refine sq_blk_hit ?_
        | refine sq_blk_miss rfl ?_
        | refine sq_loop_exit ?_
        | refine sq_ende (.inl rfl) rfl rfl ⟨_, (RVs.cons (RV.tmp rfl) (RVs.cons (RV.tmp rfl) (RVs.nil))), ?_⟩
        | refine sq_ende (.inr rfl) rfl rfl ⟨_, (RVs.cons (RV.tmp rfl) (RVs.cons (RV.tmp rfl) (RVs.nil))), ?_⟩)
     | refine j_nil ?_
     )
    intro w' hS
    exact ⟨_, trivial, rfl, hS.sub (by repeat (first | exact LSub.nil | refine LSub.cons (by repeat (first | exact Rem.here | apply Rem.there)) ?_))⟩
/-- 'exceeds' of the program. -/
def excB (c n risk : Nat) : Bool := decide (risk * 10000 ^ n < c * 10000)
theorem sgn_pos (a b : Nat) : (0 < sgn a b) ↔ b < a := by
  unfold sgn
  split
  · omega
  · split <;> omega
theorem exceeds_c (A : Option Addr) (cc c n risk : Nat) (w : World) (hc : c ≤ 10000 ^ 500) (hn : n ≤ 500) (hr : risk ≤ 10000) (hA : SL w A cc (limbs c)) :
    Calls Try.prog 54 #[.slice A (limbs c).length cc, .int .i64 n, .int .i64 risk] w fun e w' => e = .returned (.bool (excB c n risk)) ∧ Below w.heap.size w w' := by
  have h1 : c * 10000 ≤ cap := Nat.le_trans (Nat.mul_le_mul_right _ hc) (by unfold cap; decide +kernel)
  have h2 : risk * 10000 ^ n ≤ cap := Nat.le_trans (Nat.mul_le_mul hr (Nat.le_refl _)) (by rw [Nat.mul_comm, ← Nat.pow_succ]; exact pow_cap (Nat.le_refl _) (by omega))
  have h3 : c ≤ cap := by omega
  have h4 : 10000 ^ n ≤ cap := pow_cap (Nat.le_refl _) (by omega)
  have l1 := cap_len h1
  have l2 := cap_len h2
  have hb : decide (0 < sgn (c * 10000 : Nat) (risk * 10000 ^ n : Nat)) = excB c n risk := by unfold excB; rw [decide_eq_decide]; exact sgn_pos _ _
  refine eng_start (n := 23) (args := [.slice A (limbs c).length cc, .int .i64 n, .int .i64 risk]) tab tab_ok fns fns_ok [.tmp 6] Try.func54 rfl rfl rfl rfl ?_
  repeat' (first
   | (refine gJ ?_
      first
      | refine jmv rfl rfl rfl rfl rfl ?_
      | refine jcmp rfl rfl rfl rfl rfl rfl rfl ?_
      | refine jextract rfl rfl rfl rfl rfl rfl ?_
      | (refine gcall rfl rfl ?_
         first
         | (refine j_qc (f := 36) rfl rfl rfl rfl rfl rfl rfl ?_; refine ⟨_, (fun w' hs => cmp_c A3 c3 (c * 10000) A6 c6 (risk * 10000 ^ n) w' (by omega) (by omega) (sl_of_own hs (by (repeat (first | exact InL.here | apply InL.there))) rfl rfl) (sl_of_own hs (by (repeat (first | exact InL.here | apply InL.there))) rfl rfl)), ?_⟩))
      | (refine gcall rfl rfl ?_; refine j_nat (f := 60) rfl rfl rfl rfl rfl rfl rfl (fun w' hs => number_c 10000 w' (by omega)) ?_; intro A2 c2)
      | (refine gcall rfl rfl ?_; refine j_nat (f := 62) rfl rfl rfl rfl rfl rfl rfl (fun w' hs => times_c A cc c A2 c2 10000 w' h3 (by have := small_cap (a := 10000) (by omega); omega) (hA.st hs) (sl_of_own hs (by (repeat (first | exact InL.here | apply InL.there))) rfl rfl)) ?_; intro A3 c3)
      | (refine gcall rfl rfl ?_; refine j_nat (f := 60) rfl rfl rfl rfl rfl rfl rfl (fun w' hs => number_c risk w' (by omega)) ?_; intro A4 c4)
      | (refine gcall rfl rfl ?_; refine j_nat (f := 76) rfl rfl rfl rfl rfl rfl rfl (fun w' hs => power_c 10000 n w' (by omega) hn) ?_; intro A5 c5)
      | (refine gcall rfl rfl ?_; refine j_nat (f := 62) rfl rfl rfl rfl rfl rfl rfl (fun w' hs => times_c A4 c4 risk A5 c5 (10000 ^ n) w' (by have := small_cap (a := risk) (by omega); omega) h4 (sl_of_own hs (by (repeat (first | exact InL.here | apply InL.there))) rfl rfl) (sl_of_own hs (by (repeat (first | exact InL.here | apply InL.there))) rfl rfl)) ?_; intro A6 c6))
   | (refine gSC ?_
      first
      | refine sc_seq ?_
      | refine sc_region ?_
      | (refine sc_cond rfl ?_ ?_ <;> intro hc <;> (first | (exact absurd hc (by decide)) | ((try simp only [decide_eq_true_eq, decide_eq_false_iff_not, Bool.not_eq_true', Bool.not_eq_false', Bool.not_true, Bool.not_false, ne_eq, Decidable.not_not] at hc) <;> first | (exfalso; omega) | (exact absurd trivial hc) | skip)))
      | refine sc_block ?_
      | refine sc_ret ?_
      | refine sc_exit ?_
      | refine sc_skip ?_)
   | (refine gSQ ?_
      first
      | refine sq_seq ?_
      | refine sq_blk ?_
      | refine sq_seq_ret ?_
      | refine sq_blk_ret ?_
      | refine sq_loop_ret ?_
      | refine sq_seq_exit ?_
      | refine sq_blk_hit ?_
      | refine sq_blk_miss rfl ?_
      | refine sq_loop_exit ?_
      | refine sq_ende (.inl rfl) rfl rfl ⟨_, (RVs.cons (RV.tmp rfl) (RVs.nil)), ?_⟩
      | refine sq_ende (.inr rfl) rfl rfl ⟨_, (RVs.cons (RV.tmp rfl) (RVs.nil)), ?_⟩)
   | refine j_nil ?_
   )
  all_goals ((intro w' hS; refine ⟨?_, hS.below⟩; simp only [pack]); exact rb hb)
end Go.Proofs.Ytmlgheoliaplgaa
