/-
  StatsExact.
-/
import Derived.Test.YtmlgheoliaplgaaGro
namespace Go.Proofs.Ytmlgheoliaplgaa
open Go.RowKit Eng
set_option linter.unusedVariables false
set_option linter.unusedSimpArgs false
attribute [local irreducible] SC SQ J Qt Calls Iterates
set_option exponentiation.threshold 600
set_option maxRecDepth 4000 in
set_option maxHeartbeats 8000000 in
theorem exact_c (t k0 r : Int) (w : World) (ht : inI t) (hk0 : inI k0) (hr : inI r) :
    Calls Try.prog 11 #[.int .i64 t, .int .i64 k0, .int .i64 r] w fun e w' => e = .returned (.bool true) ∧ Below w.heap.size w w' := by
  obtain ⟨n, k, en, ek, hn, hk⟩ := get_trials t k0 100
  obtain ⟨a0, ea, ha⟩ := nat_mod r 2000 (by omega)
  obtain ⟨a, ea2⟩ : ∃ a : Nat, a = a0 + 1 := ⟨_, rfl⟩
  have ea3 : 1 + r % 2000 = a := by rw [show r % 2000 = (a0 : Int) from ea]; omega
  have hlh := low_high (n := n) (k := k) (a := a) hk hn (by omega)
  have hL := lowF_le n k a
  have hR := lowF_le n (n - k) a
  have x1 : excB (up (lowF n k a) (10000 - lowF n k a) n k) n a = true := lowF_pos hk (by omega)
  have x2 : excB (up (lowF n (n - k) a) (10000 - lowF n (n - k) a) n (n - k)) n a = true := lowF_pos (by omega) (by omega)
  have x3 : 0 < lowF n k a → excB (up (lowF n k a - 1) (10000 - (lowF n k a - 1)) n k) n a = false := fun h => lowF_neg (by omega)
  have x4 : 0 < lowF n (n - k) a → excB (up (lowF n (n - k) a - 1) (10000 - (lowF n (n - k) a - 1)) n (n - k)) n a = false := fun h => lowF_neg (by omega)
  have y1 : 0 < n → 0 < lowF n k a → (lowF n k a - 1) * n < 10000 * k := fun h0 h => low_near (a := a) hk h0 hn (by omega) (by omega)
  have y2 : 0 < n → 0 < lowF n (n - k) a → (lowF n (n - k) a - 1) * n < 10000 * (n - k) := fun h0 h => low_near (a := a) (by omega) h0 hn (by omega) (by omega)
  have hle := fun w' => least_c n k a w' hk (by omega) (by omega)
  have hgr := fun w' => greatest_c n k a w' hk (by omega) (by omega)
  generalize lowF n k a = L at *
  generalize lowF n (n - k) a = R at *
  have z1 : 0 < n → ((L : Int) - 1) * n < 10000 * k := fun h0 => by
    rcases Nat.eq_zero_or_pos L with h | h
    · subst h
      have : ((0 : Nat) - 1 : Int) * n = -(n : Int) := by
        show (-1 : Int) * n = -(n : Int)
        omega
      omega
    · have h1 := y1 h0 h
      have e : ((L : Int) - 1) * n = (((L - 1) * n : Nat) : Int) := by rw [Int.natCast_mul, Int.natCast_sub h]; rfl
      rw [e]
      omega
  have z2 : 0 < n → 10000 * (k : Int) < ((10000 : Int) - R + 1) * n := fun h0 => by
    have e0 : ((10000 : Int) - R + 1) * n = 10000 * n + (1 - (R : Int)) * n := by
      rw [← Int.add_mul]
      congr 1
      omega
    rw [e0]
    rcases Nat.eq_zero_or_pos R with h | h
    · subst h
      have : (1 - ((0 : Nat) : Int)) * n = n := by
        show (1 : Int) * n = n
        omega
      omega
    · have h1 := y2 h0 h
      have e : (1 - (R : Int)) * n = -(((R - 1) * n : Nat) : Int) := by
        rw [Int.natCast_mul, Int.natCast_sub h, ← Int.neg_mul]
        congr 1
        show 1 - (R : Int) = -((R : Int) - 1)
        omega
      rw [e]
      omega
  have b1 : -100 ≤ ((L : Int) - 1) * n ∧ ((L : Int) - 1) * n ≤ 2000000 := by
    rcases Nat.eq_zero_or_pos n with h | h
    · subst h
      simp
    · have := z1 h
      refine ⟨?_, by omega⟩
      have h2 : (-1 : Int) * n ≤ ((L : Int) - 1) * n := Int.mul_le_mul_of_nonneg_right (by omega) (by omega)
      omega
  have b2 : 0 ≤ ((10000 : Int) - R + 1) * n ∧ ((10000 : Int) - R + 1) * n ≤ 2000000 := by
    have h2 : ((10000 : Int) - R + 1) * n ≤ 10001 * n := Int.mul_le_mul_of_nonneg_right (by omega) (by omega)
    refine ⟨Int.mul_nonneg (by omega) (by omega), by omega⟩
  have hlo : ∀ w', Calls Try.prog 29 #[.int .i64 n, .int .i64 k, .int .i64 ((10000 : Int) - R)] w' fun e w'' => ∃ v : Value, True ∧ e = .returned (.tuple #[v, .int .i64 0]) ∧ St w' Cold [haN v (up R (10000 - R) n (n - k))] w'' := fun w' => by
    have h := lower_c n k (10000 - R) w' hk (by omega) (by omega)
    rw [low_turn hk, show 10000 - (10000 - R) = R by omega, show ((10000 - R : Nat) : Int) = (10000 : Int) - R by omega] at h
    exact h
  have hlo2 : 0 < R → ∀ w', Calls Try.prog 29 #[.int .i64 n, .int .i64 k, .int .i64 ((10000 : Int) - R + 1)] w' fun e w'' => ∃ v : Value, True ∧ e = .returned (.tuple #[v, .int .i64 0]) ∧ St w' Cold [haN v (up (R - 1) (10000 - (R - 1)) n (n - k))] w'' := fun hR0 w' => by
    have h := lower_c n k (10000 - (R - 1)) w' hk (by omega) (by omega)
    rw [low_turn hk, show 10000 - (10000 - (R - 1)) = R - 1 by omega, show ((10000 - (R - 1) : Nat) : Int) = (10000 : Int) - R + 1 by omega] at h
    exact h
  have hup2 : 0 < L → ∀ w', Calls Try.prog 28 #[.int .i64 n, .int .i64 k, .int .i64 ((L : Int) - 1)] w' fun e w'' => ∃ v : Value, True ∧ e = .returned (.tuple #[v, .int .i64 0]) ∧ St w' Cold [haN v (up (L - 1) (10000 - (L - 1)) n k)] w'' := fun hL0 w' => by
    have h := upper_c n k (L - 1) w' hk (by omega) (by omega)
    rw [show ((L - 1 : Nat) : Int) = (L : Int) - 1 by omega] at h
    exact h
  have hlh2 : (L : Int) + R ≤ 10000 := by omega
  clear y1 y2
  by_cases hn0 : n = 0
  · refine eng_start (n := 149) (args := [.int .i64 t, .int .i64 k0, .int .i64 r]) tab tab_ok fns fns_ok [.tmp 6] Try.func11 rfl rfl rfl rfl ?_
    repeat' (first
     | (refine gJ ?_
        first
        | refine jmv rfl rfl rfl rfl rfl ?_
        | (refine gload rfl rfl ?_
           refine j_qe rfl rfl rfl ?_
           first
           | refine ⟨_, q_load_own rfl rfl rfl rfl (by (repeat (first | exact InL.here | apply InL.there))) (by first | rfl | assumption), ?_⟩
           | refine ⟨_, q_loadA_own rfl rfl rfl rfl (by (repeat (first | exact InL.here | apply InL.there))) (by rfl), ?_⟩
           | refine ⟨_, q_loadA_ext rfl rfl rfl rfl ⟨by assumption, (by first | exact id | assumption)⟩ (by rfl), ?_⟩
           | refine ⟨_, q_load_ext rfl rfl rfl rfl ⟨by assumption, (by first | exact id | assumption)⟩ (by first | rfl | assumption), ?_⟩
           | refine ⟨_, q_load_extb rfl rfl rfl rfl ⟨by assumption, (by first | exact id | assumption)⟩ (by rfl), ?_⟩
           | refine ⟨_, q_loadA_extb rfl rfl rfl rfl ⟨by assumption, (by first | exact id | assumption)⟩ (by rfl), ?_⟩
           | refine ⟨_, q_load_ext0 rfl rfl rfl rfl ⟨by assumption, (by first | exact id | assumption)⟩ (by rfl), ?_⟩)
        | refine jfield rfl rfl rfl rfl rfl rfl rfl rfl ?_
        | refine jcmp rfl rfl rfl rfl rfl rfl rfl ?_
        | refine jar rfl rfl rfl rfl rfl rfl rfl (by omega) ?_
        | refine jextract rfl rfl rfl rfl rfl rfl ?_
        | (refine gcall rfl rfl ?_
           first
           | (refine j_qc (f := 14) rfl rfl rfl rfl rfl rfl rfl ?_; refine ⟨_, (fun w' _ => awake_c w'), ?_⟩)
           | (refine j_qc (f := 27) rfl rfl rfl rfl rfl rfl rfl ?_; refine ⟨_, (fun w' _ => trials_c t k0 100 n k w' ht hk0 (by omega) en ek), ?_⟩)
           | (refine j_qc (f := 21) rfl rfl rfl rfl rfl rfl rfl ?_; refine ⟨_, (fun w' _ => risk_c r a w' hr ea3), ?_⟩)
           | (refine j_qc (f := 23) rfl rfl rfl rfl rfl rfl rfl ?_; refine ⟨_, (fun w' _ => hle w'), ?_⟩)
           | (refine j_qc (f := 24) rfl rfl rfl rfl rfl rfl rfl ?_; refine ⟨_, (fun w' _ => hgr w'), ?_⟩)
           | (refine j_qc (f := 26) rfl rfl rfl rfl rfl rfl rfl ?_; refine ⟨_, (fun w' hs => x1 ▸ lawex_c A1 c1 (up L (10000 - L) n k) n a w' (up_cap (by omega) (by omega)) (by omega) (by omega) (sl_of_own hs (by (repeat (first | exact InL.here | apply InL.there))) rfl rfl)), ?_⟩)
           | (refine j_qc (f := 26) rfl rfl rfl rfl rfl rfl rfl ?_; refine ⟨_, (fun w' hs => x2 ▸ lawex_c A2 c2 (up R (10000 - R) n (n - k)) n a w' (up_cap (by omega) (by omega)) (by omega) (by omega) (sl_of_own hs (by (repeat (first | exact InL.here | apply InL.there))) rfl rfl)), ?_⟩)
           | (refine j_qc (f := 26) rfl rfl rfl rfl rfl rfl rfl ?_; refine ⟨_, (fun w' hs => x3 (by omega) ▸ lawex_c A3 c3 (up (L - 1) (10000 - (L - 1)) n k) n a w' (up_cap (by omega) (by omega)) (by omega) (by omega) (sl_of_own hs (by (repeat (first | exact InL.here | apply InL.there))) rfl rfl)), ?_⟩)
           | (refine j_qc (f := 26) rfl rfl rfl rfl rfl rfl rfl ?_; refine ⟨_, (fun w' hs => x4 (by omega) ▸ lawex_c A4 c4 (up (R - 1) (10000 - (R - 1)) n (n - k)) n a w' (up_cap (by omega) (by omega)) (by omega) (by omega) (sl_of_own hs (by (repeat (first | exact InL.here | apply InL.there))) rfl rfl)), ?_⟩))
        | (refine gcall rfl rfl ?_; refine j_nat2 (f := 28) rfl rfl rfl rfl rfl rfl rfl (fun w' _ => upper_c n k L w' hk (by omega) (by omega)) ?_; intro A1 c1)
        | (refine gcall rfl rfl ?_; refine j_nat2 (f := 29) rfl rfl rfl rfl rfl rfl rfl (fun w' _ => hlo w') ?_; intro A2 c2)
        | (refine gcall rfl rfl ?_; refine j_nat2 (f := 28) rfl rfl rfl rfl rfl rfl rfl (fun w' _ => hup2 (by omega) w') ?_; intro A3 c3)
        | (refine gcall rfl rfl ?_; refine j_nat2 (f := 29) rfl rfl rfl rfl rfl rfl rfl (fun w' _ => hlo2 (by omega) w') ?_; intro A4 c4)
        | refine j_store rfl rfl rfl rfl rfl rfl rfl rfl (by (repeat (first | exact Upd.here | apply Upd.there))) (by rfl) ?_
        | (refine j_alloc rfl rfl rfl rfl rfl ?_; intro b)
        | (refine j_box rfl rfl rfl rfl rfl ?_; intro b)
        | (refine j_qe rfl rfl rfl ?_
           first
           | refine ⟨_, q_pick_t rfl rfl rfl, ?_⟩
           | refine ⟨_, q_pick_f rfl rfl rfl, ?_⟩
           | refine ⟨_, q_not rfl rfl, ?_⟩
           | refine ⟨_, q_index_nat rfl rfl rfl rfl rfl (by omega), ?_⟩
           | refine ⟨_, q_index_slice rfl rfl rfl rfl rfl (by omega), ?_⟩
           | refine ⟨_, q_index_arr rfl rfl rfl rfl rfl (by omega), ?_⟩
           | refine ⟨_, q_index_arr_ext rfl rfl rfl rfl rfl (by omega), ?_⟩
           | refine ⟨_, q_len_slice rfl rfl rfl rfl, ?_⟩
           | refine ⟨_, q_makeFunc rfl rfl, ?_⟩
           | refine ⟨_, q_build_struct rfl rfl rfl rfl rfl, ?_⟩
           | refine ⟨_, q_build_arr rfl rfl rfl rfl rfl, ?_⟩
           | refine ⟨_, q_nilCheck rfl rfl, ?_⟩
           | refine ⟨_, q_field_ext rfl rfl rfl rfl rfl, ?_⟩
           | refine ⟨_, q_quo rfl rfl rfl (by omega), ?_⟩
           | refine ⟨_, q_rem rfl rfl rfl (by omega), ?_⟩
           | refine ⟨_, q_quot rfl rfl rfl (by omega), ?_⟩
           | refine ⟨_, q_remt rfl rfl rfl (by omega), ?_⟩
           | refine ⟨_, q_addu8 rfl rfl rfl (by omega), ?_⟩
           | refine ⟨_, q_quou8 rfl rfl rfl (by omega), ?_⟩
           | refine ⟨_, q_shr1 rfl rfl rfl, ?_⟩
           | refine ⟨_, q_shr rfl rfl rfl ⟨by omega, by decide⟩, ?_⟩
           | refine ⟨_, q_shr rfl rfl rfl ⟨by omega, by show Int.toNat _ ≤ (8:Nat); omega⟩, ?_⟩
           | refine ⟨_, q_and1 rfl rfl rfl (by first | assumption | omega), ?_⟩
           | refine ⟨_, q_conv rfl rfl rfl rfl rfl rfl (by first | rfl | (exact i64_wrap (by omega) (by omega)) | (exact u8_wrap (by omega) (by omega)) | (exact u64_wrap (by omega) (by omega)) | (exact u16_wrap (by omega) (by omega))), ?_⟩)
        | refine j_guard_undef rfl rfl rfl rfl rfl ?_
        | (refine j_guard rfl rfl rfl rfl rfl ?_ ?_ <;> intro hc <;> (first | (exact absurd hc (by decide)) | ((try simp only [decide_eq_true_eq, decide_eq_false_iff_not, Bool.not_eq_true', Bool.not_eq_false', Bool.not_true, Bool.not_false, ne_eq, Decidable.not_not] at hc) <;> first | (exfalso; omega) | (exact absurd trivial hc) | skip)))
        | (refine j_buildSlice rfl rfl rfl rfl rfl rfl rfl rfl rfl rfl rfl rfl ?_; intro b)
        | (refine j_append rfl rfl rfl rfl rfl rfl rfl rfl rfl rfl rfl (by (repeat (first | exact InL.here | apply InL.there))) (by (repeat (first | exact InL.here | apply InL.there))) (by rfl) (by rfl) (by omega) (fun _ => by (repeat (first | exact Upd.here | apply Upd.there))) ?_; intro v))
     | (refine gSC ?_
        first
        | refine sc_seq ?_
        | refine sc_region ?_
        | (refine sc_cond rfl ?_ ?_ <;> intro hc <;> (first | (exact absurd hc (by decide)) | ((try simp only [decide_eq_true_eq, decide_eq_false_iff_not, Bool.not_eq_true', Bool.not_eq_false', Bool.not_true, Bool.not_false, ne_eq, Decidable.not_not] at hc) <;> first | (exfalso; omega) | (exact absurd trivial hc) | skip)))
        | refine sc_block ?_
        | refine sc_ret ?_
        | refine sc_exit ?_
        | refine sc_skip ?_
        | refine sc_draw rfl mixed (by kernel_rfl) ?_)
     | (refine gSQ ?_
        first
        | refine sq_seq ?_
        | refine sq_blk ?_
        | refine sq_seq_ret ?_
        | refine sq_blk_ret ?_
        | refine sq_loop_ret ?_
        | refine sq_seq_exit ?_
        | refine sq_blk_hit ?_
        | refine sq_blk_miss rfl ?_
        | refine sq_loop_exit ?_
        | refine sq_ende (.inl rfl) rfl rfl ⟨_, (RVs.cons (RV.tmp rfl) (RVs.nil)), ?_⟩
        | refine sq_ende (.inr rfl) rfl rfl ⟨_, (RVs.cons (RV.tmp rfl) (RVs.nil)), ?_⟩)
     | refine j_nil ?_
     )
    all_goals (intro w' hS; refine ⟨?_, hS.below⟩; simp only [pack])
  · have z1' := z1 (by omega)
    have z2' := z2 (by omega)
    refine eng_start (n := 149) (args := [.int .i64 t, .int .i64 k0, .int .i64 r]) tab tab_ok fns fns_ok [.tmp 6] Try.func11 rfl rfl rfl rfl ?_
    repeat' (first
     | (refine gJ ?_
        first
        | refine jmv rfl rfl rfl rfl rfl ?_
        | (refine gload rfl rfl ?_
           refine j_qe rfl rfl rfl ?_
           first
           | refine ⟨_, q_load_own rfl rfl rfl rfl (by (repeat (first | exact InL.here | apply InL.there))) (by first | rfl | assumption), ?_⟩
           | refine ⟨_, q_loadA_own rfl rfl rfl rfl (by (repeat (first | exact InL.here | apply InL.there))) (by rfl), ?_⟩
           | refine ⟨_, q_loadA_ext rfl rfl rfl rfl ⟨by assumption, (by first | exact id | assumption)⟩ (by rfl), ?_⟩
           | refine ⟨_, q_load_ext rfl rfl rfl rfl ⟨by assumption, (by first | exact id | assumption)⟩ (by first | rfl | assumption), ?_⟩
           | refine ⟨_, q_load_extb rfl rfl rfl rfl ⟨by assumption, (by first | exact id | assumption)⟩ (by rfl), ?_⟩
           | refine ⟨_, q_loadA_extb rfl rfl rfl rfl ⟨by assumption, (by first | exact id | assumption)⟩ (by rfl), ?_⟩
           | refine ⟨_, q_load_ext0 rfl rfl rfl rfl ⟨by assumption, (by first | exact id | assumption)⟩ (by rfl), ?_⟩)
        | refine jfield rfl rfl rfl rfl rfl rfl rfl rfl ?_
        | refine jcmp rfl rfl rfl rfl rfl rfl rfl ?_
        | refine jar rfl rfl rfl rfl rfl rfl rfl (by omega) ?_
        | refine jextract rfl rfl rfl rfl rfl rfl ?_
        | (refine gcall rfl rfl ?_
           first
           | (refine j_qc (f := 14) rfl rfl rfl rfl rfl rfl rfl ?_; refine ⟨_, (fun w' _ => awake_c w'), ?_⟩)
           | (refine j_qc (f := 27) rfl rfl rfl rfl rfl rfl rfl ?_; refine ⟨_, (fun w' _ => trials_c t k0 100 n k w' ht hk0 (by omega) en ek), ?_⟩)
           | (refine j_qc (f := 21) rfl rfl rfl rfl rfl rfl rfl ?_; refine ⟨_, (fun w' _ => risk_c r a w' hr ea3), ?_⟩)
           | (refine j_qc (f := 23) rfl rfl rfl rfl rfl rfl rfl ?_; refine ⟨_, (fun w' _ => hle w'), ?_⟩)
           | (refine j_qc (f := 24) rfl rfl rfl rfl rfl rfl rfl ?_; refine ⟨_, (fun w' _ => hgr w'), ?_⟩)
           | (refine j_qc (f := 26) rfl rfl rfl rfl rfl rfl rfl ?_; refine ⟨_, (fun w' hs => x1 ▸ lawex_c A1 c1 (up L (10000 - L) n k) n a w' (up_cap (by omega) (by omega)) (by omega) (by omega) (sl_of_own hs (by (repeat (first | exact InL.here | apply InL.there))) rfl rfl)), ?_⟩)
           | (refine j_qc (f := 26) rfl rfl rfl rfl rfl rfl rfl ?_; refine ⟨_, (fun w' hs => x2 ▸ lawex_c A2 c2 (up R (10000 - R) n (n - k)) n a w' (up_cap (by omega) (by omega)) (by omega) (by omega) (sl_of_own hs (by (repeat (first | exact InL.here | apply InL.there))) rfl rfl)), ?_⟩)
           | (refine j_qc (f := 26) rfl rfl rfl rfl rfl rfl rfl ?_; refine ⟨_, (fun w' hs => x3 (by omega) ▸ lawex_c A3 c3 (up (L - 1) (10000 - (L - 1)) n k) n a w' (up_cap (by omega) (by omega)) (by omega) (by omega) (sl_of_own hs (by (repeat (first | exact InL.here | apply InL.there))) rfl rfl)), ?_⟩)
           | (refine j_qc (f := 26) rfl rfl rfl rfl rfl rfl rfl ?_; refine ⟨_, (fun w' hs => x4 (by omega) ▸ lawex_c A4 c4 (up (R - 1) (10000 - (R - 1)) n (n - k)) n a w' (up_cap (by omega) (by omega)) (by omega) (by omega) (sl_of_own hs (by (repeat (first | exact InL.here | apply InL.there))) rfl rfl)), ?_⟩))
        | (refine gcall rfl rfl ?_; refine j_nat2 (f := 28) rfl rfl rfl rfl rfl rfl rfl (fun w' _ => upper_c n k L w' hk (by omega) (by omega)) ?_; intro A1 c1)
        | (refine gcall rfl rfl ?_; refine j_nat2 (f := 29) rfl rfl rfl rfl rfl rfl rfl (fun w' _ => hlo w') ?_; intro A2 c2)
        | (refine gcall rfl rfl ?_; refine j_nat2 (f := 28) rfl rfl rfl rfl rfl rfl rfl (fun w' _ => hup2 (by omega) w') ?_; intro A3 c3)
        | (refine gcall rfl rfl ?_; refine j_nat2 (f := 29) rfl rfl rfl rfl rfl rfl rfl (fun w' _ => hlo2 (by omega) w') ?_; intro A4 c4)
        | refine j_store rfl rfl rfl rfl rfl rfl rfl rfl (by (repeat (first | exact Upd.here | apply Upd.there))) (by rfl) ?_
        | (refine j_alloc rfl rfl rfl rfl rfl ?_; intro b)
        | (refine j_box rfl rfl rfl rfl rfl ?_; intro b)
        | (refine j_qe rfl rfl rfl ?_
           first
           | refine ⟨_, q_pick_t rfl rfl rfl, ?_⟩
           | refine ⟨_, q_pick_f rfl rfl rfl, ?_⟩
           | refine ⟨_, q_not rfl rfl, ?_⟩
           | refine ⟨_, q_index_nat rfl rfl rfl rfl rfl (by omega), ?_⟩
           | refine ⟨_, q_index_slice rfl rfl rfl rfl rfl (by omega), ?_⟩
           | refine ⟨_, q_index_arr rfl rfl rfl rfl rfl (by omega), ?_⟩
           | refine ⟨_, q_index_arr_ext rfl rfl rfl rfl rfl (by omega), ?_⟩
           | refine ⟨_, q_len_slice rfl rfl rfl rfl, ?_⟩
           | refine ⟨_, q_makeFunc rfl rfl, ?_⟩
           | refine ⟨_, q_build_struct rfl rfl rfl rfl rfl, ?_⟩
           | refine ⟨_, q_build_arr rfl rfl rfl rfl rfl, ?_⟩
           | refine ⟨_, q_nilCheck rfl rfl, ?_⟩
           | refine ⟨_, q_field_ext rfl rfl rfl rfl rfl, ?_⟩
           | refine ⟨_, q_quo rfl rfl rfl (by omega), ?_⟩
           | refine ⟨_, q_rem rfl rfl rfl (by omega), ?_⟩
           | refine ⟨_, q_quot rfl rfl rfl (by omega), ?_⟩
           | refine ⟨_, q_remt rfl rfl rfl (by omega), ?_⟩
           | refine ⟨_, q_addu8 rfl rfl rfl (by omega), ?_⟩
           | refine ⟨_, q_quou8 rfl rfl rfl (by omega), ?_⟩
           | refine ⟨_, q_shr1 rfl rfl rfl, ?_⟩
           | refine ⟨_, q_shr rfl rfl rfl ⟨by omega, by decide⟩, ?_⟩
           | refine ⟨_, q_shr rfl rfl rfl ⟨by omega, by show Int.toNat _ ≤ (8:Nat); omega⟩, ?_⟩
           | refine ⟨_, q_and1 rfl rfl rfl (by first | assumption | omega), ?_⟩
           | refine ⟨_, q_conv rfl rfl rfl rfl rfl rfl (by first | rfl | (exact i64_wrap (by omega) (by omega)) | (exact u8_wrap (by omega) (by omega)) | (exact u64_wrap (by omega) (by omega)) | (exact u16_wrap (by omega) (by omega))), ?_⟩)
        | refine j_guard_undef rfl rfl rfl rfl rfl ?_
        | (refine j_guard rfl rfl rfl rfl rfl ?_ ?_ <;> intro hc <;> (first | (exact absurd hc (by decide)) | ((try simp only [decide_eq_true_eq, decide_eq_false_iff_not, Bool.not_eq_true', Bool.not_eq_false', Bool.not_true, Bool.not_false, ne_eq, Decidable.not_not] at hc) <;> first | (exfalso; omega) | (exact absurd trivial hc) | skip)))
        | (refine j_buildSlice rfl rfl rfl rfl rfl rfl rfl rfl rfl rfl rfl rfl ?_; intro b)
        | (refine j_append rfl rfl rfl rfl rfl rfl rfl rfl rfl rfl rfl (by (repeat (first | exact InL.here | apply InL.there))) (by (repeat (first | exact InL.here | apply InL.there))) (by rfl) (by rfl) (by omega) (fun _ => by (repeat (first | exact Upd.here | apply Upd.there))) ?_; intro v))
     | (refine gSC ?_
        first
        | refine sc_seq ?_
        | refine sc_region ?_
        | (refine sc_cond rfl ?_ ?_ <;> intro hc <;> (first | (exact absurd hc (by decide)) | ((try simp only [decide_eq_true_eq, decide_eq_false_iff_not, Bool.not_eq_true', Bool.not_eq_false', Bool.not_true, Bool.not_false, ne_eq, Decidable.not_not] at hc) <;> first | (exfalso; omega) | (exact absurd trivial hc) | skip)))
        | refine sc_block ?_
        | refine sc_ret ?_
        | refine sc_exit ?_
        | refine sc_skip ?_
        | refine sc_draw rfl mixed (by kernel_rfl) ?_)
     | (refine gSQ ?_
        first
        | refine sq_seq ?_
        | refine sq_blk ?_
        | refine sq_seq_ret ?_
        | refine sq_blk_ret ?_
        | refine sq_loop_ret ?_
        | refine sq_seq_exit ?_
        | refine sq_blk_hit ?_
        | refine sq_blk_miss rfl ?_
        | refine sq_loop_exit ?_
        | refine sq_ende (.inl rfl) rfl rfl ⟨_, (RVs.cons (RV.tmp rfl) (RVs.nil)), ?_⟩
        | refine sq_ende (.inr rfl) rfl rfl ⟨_, (RVs.cons (RV.tmp rfl) (RVs.nil)), ?_⟩)
     | refine j_nil ?_
     )
    all_goals (intro w' hS; refine ⟨?_, hS.below⟩; simp only [pack])
    all_goals exact rb (decide_eq_true z2')
end Go.Proofs.Ytmlgheoliaplgaa
