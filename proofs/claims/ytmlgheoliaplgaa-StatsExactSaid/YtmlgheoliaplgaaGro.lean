/-
  StatsGrows.
-/
import Derived.Test.YtmlgheoliaplgaaTur
import Derived.Test.YtmlgheoliaplgaaNl3
namespace Go.Proofs.Ytmlgheoliaplgaa
open Go.RowKit Eng
set_option linter.unusedVariables false
set_option linter.unusedSimpArgs false
attribute [local irreducible] SC SQ J Qt Calls Iterates
set_option exponentiation.threshold 600
theorem sgn_le {a b : Nat} (h : a ≤ b) : sgn a b ≤ 0 := by
  unfold sgn
  split
  · omega
  · split <;> omega
theorem min_lem (p q : Nat) : (if (q : Int) < p then (q : Int) else p) = ((min p q : Nat) : Int) := by split <;> omega
theorem max_lem2 (p q : Nat) : (if (p : Int) < q then (q : Int) else p) = ((max p q : Nat) : Int) := by split <;> omega
theorem grows_c (t k0 s r m : Int) (w : World) (ht : inI t) (hk0 : inI k0) (hs : inI s) (hr : inI r) (hm : inI m) :
    Calls Try.prog 10 #[.int .i64 t, .int .i64 k0, .int .i64 s, .int .i64 r, .int .i64 m] w fun e w' => e = .returned (.bool true) ∧ Below w.heap.size w w' := by
  obtain ⟨n, k, en, ek, hn, hk⟩ := get_trials t k0 100
  obtain ⟨p, ep, hp⟩ := nat_mod s 10001 (by omega)
  obtain ⟨q, eq, hq⟩ := nat_mod m 10001 (by omega)
  obtain ⟨a0, ea, ha⟩ := nat_mod r 2000 (by omega)
  obtain ⟨b0, eb, hb⟩ := nat_mod m 2000 (by omega)
  obtain ⟨a, ea2⟩ : ∃ a : Nat, a = a0 + 1 := ⟨_, rfl⟩
  have ea3 : 1 + r % 2000 = a := by rw [show r % 2000 = (a0 : Int) from ea]; omega
  obtain ⟨b1, eb2⟩ : ∃ b1 : Nat, b1 = b0 + 1 := ⟨_, rfl⟩
  have eb3 : 1 + m % 2000 = b1 := by rw [show m % 2000 = (b0 : Int) from eb]; omega
  obtain ⟨P, hP⟩ : ∃ P, min p q = P := ⟨_, rfl⟩
  obtain ⟨Q, hQ⟩ : ∃ Q, max p q = Q := ⟨_, rfl⟩
  obtain ⟨A, hA⟩ : ∃ A, min a b1 = A := ⟨_, rfl⟩
  obtain ⟨B, hB⟩ : ∃ B, max a b1 = B := ⟨_, rfl⟩
  have m1 := min_lem p q
  have m2 := max_lem2 p q
  have m3 := min_lem a b1
  have m4 := max_lem2 a b1
  rw [hP] at m1
  rw [hQ] at m2
  rw [hA] at m3
  rw [hB] at m4
  have hPQ : P ≤ Q ∧ Q ≤ 10000 := by omega
  have hAB : 1 ≤ A ∧ A ≤ B ∧ B ≤ 2000 := by omega
  have f1 : sgn (up P (10000 - P) n k : Nat) (up Q (10000 - Q) n k : Nat) ≤ 0 := sgn_le (up_mono hPQ.1 (by omega) n k)
  have f2 : (lowF n k A : Int) ≤ lowF n k B := by have := lowF_risk (n := n) (k := k) hAB.2.1; omega
  have f3 : sgn (up P (10000 - P) n (k + 1) : Nat) (up P (10000 - P) n k : Nat) ≤ 0 := sgn_le (up_anti _ _ n k)
  have f4 : (lowF n k A : Int) ≤ lowF n (k + 1) A := by have := lowF_succ n k A; omega
  have cap1 := cap_len (Nat.le_trans (up_cap (p := P) (n := n) (k := k) (by omega) (by omega)) cap_500)
  have cap2 := cap_len (Nat.le_trans (up_cap (p := Q) (n := n) (k := k) (by omega) (by omega)) cap_500)
  have cap3 := cap_len (Nat.le_trans (up_cap (p := P) (n := n) (k := k + 1) (by omega) (by omega)) cap_500)
  have c1 : ((k : Int) + 1) = ((k + 1 : Nat) : Int) := by omega
  have hu2 : k < n → ∀ w', Calls Try.prog 28 #[.int .i64 n, .int .i64 ((k : Int) + 1), .int .i64 P] w' fun e w'' => ∃ v : Value, True ∧ e = .returned (.tuple #[v, .int .i64 0]) ∧ St w' Cold [haN v (up P (10000 - P) n (k + 1))] w'' := fun hlt w' => by
    rw [c1]
    exact upper_c n (k + 1) P w' (by omega) (by omega) (by omega)
  have hl2 : k < n → ∀ w', Calls Try.prog 23 #[.int .i64 n, .int .i64 ((k : Int) + 1), .int .i64 A] w' fun e w'' => e = .returned (.tuple #[.int .i64 (lowF n (k + 1) A : Nat), .int .i64 0]) ∧ Below w'.heap.size w' w'' := fun hlt w' => by
    rw [c1]
    exact least_c n (k + 1) A w' (by omega) (by omega) (by omega)
  clear c1
  by_cases hkn : k = n
  · refine eng_start (n := 148) (args := [.int .i64 t, .int .i64 k0, .int .i64 s, .int .i64 r, .int .i64 m]) tab tab_ok fns fns_ok [.tmp 10] Try.func10 rfl rfl rfl rfl ?_
    repeat' (first
     | (refine gJ ?_
        first
        | refine jmv rfl rfl rfl rfl rfl ?_
        | (refine gload rfl rfl ?_
           refine j_qe rfl rfl rfl ?_
           first
           | refine ⟨_, q_load_own rfl rfl rfl rfl (by (repeat (first | exact InL.here | apply InL.there))) (by first | rfl | assumption), ?_⟩
           | refine ⟨_, q_loadA_own rfl rfl rfl rfl (by (repeat (first | exact InL.here | apply InL.there))) (by rfl), ?_⟩
           | refine ⟨_, q_loadA_ext rfl rfl rfl rfl ⟨by assumption, (by first | exact id | assumption)⟩ (by rfl), ?_⟩
           | refine ⟨_, q_load_ext rfl rfl rfl rfl ⟨by assumption, (by first | exact id | assumption)⟩ (by first | rfl | assumption), ?_⟩
           | refine ⟨_, q_load_extb rfl rfl rfl rfl ⟨by assumption, (by first | exact id | assumption)⟩ (by rfl), ?_⟩
           | refine ⟨_, q_loadA_extb rfl rfl rfl rfl ⟨by assumption, (by first | exact id | assumption)⟩ (by rfl), ?_⟩
           | refine ⟨_, q_load_ext0 rfl rfl rfl rfl ⟨by assumption, (by first | exact id | assumption)⟩ (by rfl), ?_⟩)
        | refine jfield rfl rfl rfl rfl rfl rfl rfl rfl ?_
        | refine jcmp rfl rfl rfl rfl rfl rfl rfl ?_
        | refine jar rfl rfl rfl rfl rfl rfl rfl (by omega) ?_
        | refine jextract rfl rfl rfl rfl rfl rfl ?_
        | (refine gcall rfl rfl ?_
           first
           | (refine j_qc (f := 14) rfl rfl rfl rfl rfl rfl rfl ?_; refine ⟨_, (fun w' _ => awake_c w'), ?_⟩)
           | (refine j_qc (f := 27) rfl rfl rfl rfl rfl rfl rfl ?_; refine ⟨_, (fun w' _ => trials_c t k0 100 n k w' ht hk0 (by omega) en ek), ?_⟩)
           | (refine j_qc (f := 20) rfl rfl rfl rfl rfl rfl rfl ?_; refine ⟨_, (fun w' _ => share_c s p w' hs ep), ?_⟩)
           | (refine j_qc (f := 20) rfl rfl rfl rfl rfl rfl rfl ?_; refine ⟨_, (fun w' _ => share_c m q w' hm eq), ?_⟩)
           | (refine j_qc (f := 21) rfl rfl rfl rfl rfl rfl rfl ?_; refine ⟨_, (fun w' _ => risk_c r a w' hr ea3), ?_⟩)
           | (refine j_qc (f := 21) rfl rfl rfl rfl rfl rfl rfl ?_; refine ⟨_, (fun w' _ => risk_c m b1 w' hm eb3), ?_⟩)
           | (refine j_qc (f := 36) rfl rfl rfl rfl rfl rfl rfl ?_; refine ⟨_, (fun w' hs => cmp_c A1 c1 (up P (10000 - P) n k) A2 c2 (up Q (10000 - Q) n k) w' (by omega) (by omega) (sl_of_own hs (by (repeat (first | exact InL.here | apply InL.there))) rfl rfl) (sl_of_own hs (by (repeat (first | exact InL.here | apply InL.there))) rfl rfl)), ?_⟩)
           | (refine j_qc (f := 23) rfl rfl rfl rfl rfl rfl rfl ?_; refine ⟨_, (fun w' _ => least_c n k A w' hk (by omega) (by omega)), ?_⟩)
           | (refine j_qc (f := 23) rfl rfl rfl rfl rfl rfl rfl ?_; refine ⟨_, (fun w' _ => least_c n k B w' hk (by omega) (by omega)), ?_⟩))
        | (refine j_qe rfl rfl rfl ?_; refine ⟨_, q_minr rfl rfl rfl m1, ?_⟩)
        | (refine j_qe rfl rfl rfl ?_; refine ⟨_, q_maxr rfl rfl rfl m2, ?_⟩)
        | (refine j_qe rfl rfl rfl ?_; refine ⟨_, q_minr rfl rfl rfl m3, ?_⟩)
        | (refine j_qe rfl rfl rfl ?_; refine ⟨_, q_maxr rfl rfl rfl m4, ?_⟩)
        | (refine gcall rfl rfl ?_; refine j_nat2 (f := 28) rfl rfl rfl rfl rfl rfl rfl (fun w' _ => upper_c n k P w' hk (by omega) (by omega)) ?_; intro A1 c1)
        | (refine gcall rfl rfl ?_; refine j_nat2 (f := 28) rfl rfl rfl rfl rfl rfl rfl (fun w' _ => upper_c n k Q w' hk (by omega) (by omega)) ?_; intro A2 c2)
        | refine j_store rfl rfl rfl rfl rfl rfl rfl rfl (by (repeat (first | exact Upd.here | apply Upd.there))) (by rfl) ?_
        | (refine j_alloc rfl rfl rfl rfl rfl ?_; intro b)
        | (refine j_box rfl rfl rfl rfl rfl ?_; intro b)
        | (refine j_qe rfl rfl rfl ?_
           first
           | refine ⟨_, q_pick_t rfl rfl rfl, ?_⟩
           | refine ⟨_, q_pick_f rfl rfl rfl, ?_⟩
           | refine ⟨_, q_not rfl rfl, ?_⟩
           | refine ⟨_, q_index_nat rfl rfl rfl rfl rfl (by omega), ?_⟩
           | refine ⟨_, q_index_slice rfl rfl rfl rfl rfl (by omega), ?_⟩
           | refine ⟨_, q_index_arr rfl rfl rfl rfl rfl (by omega), ?_⟩
           | refine ⟨_, q_index_arr_ext rfl rfl rfl rfl rfl (by omega), ?_⟩
           | refine ⟨_, q_len_slice rfl rfl rfl rfl, ?_⟩
           | refine ⟨_, q_makeFunc rfl rfl, ?_⟩
           | refine ⟨_, q_build_struct rfl rfl rfl rfl rfl, ?_⟩
           | refine ⟨_, q_build_arr rfl rfl rfl rfl rfl, ?_⟩
           | refine ⟨_, q_nilCheck rfl rfl, ?_⟩
           | refine ⟨_, q_field_ext rfl rfl rfl rfl rfl, ?_⟩
           | refine ⟨_, q_quo rfl rfl rfl (by omega), ?_⟩
           | refine ⟨_, q_rem rfl rfl rfl (by omega), ?_⟩
           | refine ⟨_, q_quot rfl rfl rfl (by omega), ?_⟩
           | refine ⟨_, q_remt rfl rfl rfl (by omega), ?_⟩
           | refine ⟨_, q_addu8 rfl rfl rfl (by omega), ?_⟩
           | refine ⟨_, q_quou8 rfl rfl rfl (by omega), ?_⟩
           | refine ⟨_, q_shr1 rfl rfl rfl, ?_⟩
           | refine ⟨_, q_shr rfl rfl rfl ⟨by omega, by decide⟩, ?_⟩
           | refine ⟨_, q_shr rfl rfl rfl ⟨by omega, by show Int.toNat _ ≤ (8:Nat); omega⟩, ?_⟩
           | refine ⟨_, q_and1 rfl rfl rfl (by first | assumption | omega), ?_⟩
           | refine ⟨_, q_conv rfl rfl rfl rfl rfl rfl (by first | rfl | (exact i64_wrap (by omega) (by omega)) | (exact u8_wrap (by omega) (by omega)) | (exact u64_wrap (by omega) (by omega)) | (exact u16_wrap (by omega) (by omega))), ?_⟩)
        | refine j_guard_undef rfl rfl rfl rfl rfl ?_
        | (refine j_guard rfl rfl rfl rfl rfl ?_ ?_ <;> intro hc <;> (first | (exact absurd hc (by decide)) | ((try simp only [decide_eq_true_eq, decide_eq_false_iff_not, Bool.not_eq_true', Bool.not_eq_false', Bool.not_true, Bool.not_false, ne_eq, Decidable.not_not] at hc) <;> first | (exfalso; omega) | (exact absurd trivial hc) | skip)))
        | (refine j_buildSlice rfl rfl rfl rfl rfl rfl rfl rfl rfl rfl rfl rfl ?_; intro b)
        | (refine j_append rfl rfl rfl rfl rfl rfl rfl rfl rfl rfl rfl (by (repeat (first | exact InL.here | apply InL.there))) (by (repeat (first | exact InL.here | apply InL.there))) (by rfl) (by rfl) (by omega) (fun _ => by (repeat (first | exact Upd.here | apply Upd.there))) ?_; intro v))
     | (refine gSC ?_
        first
        | refine sc_seq ?_
        | refine sc_region ?_
        | (refine sc_cond rfl ?_ ?_ <;> intro hc <;> (first | (exact absurd hc (by decide)) | ((try simp only [decide_eq_true_eq, decide_eq_false_iff_not, Bool.not_eq_true', Bool.not_eq_false', Bool.not_true, Bool.not_false, ne_eq, Decidable.not_not] at hc) <;> first | (exfalso; omega) | (exact absurd trivial hc) | skip)))
        | refine sc_block ?_
        | refine sc_ret ?_
        | refine sc_exit ?_
        | refine sc_skip ?_
        | refine sc_draw rfl mixed (by kernel_rfl) ?_)
     | (refine gSQ ?_
        first
        | refine sq_seq ?_
        | refine sq_blk ?_
        | refine sq_seq_ret ?_
        | refine sq_blk_ret ?_
        | refine sq_loop_ret ?_
        | refine sq_seq_exit ?_
        | refine sq_blk_hit ?_
        | refine sq_blk_miss rfl ?_
        | refine sq_loop_exit ?_
        | refine sq_ende (.inl rfl) rfl rfl ⟨_, (RVs.cons (RV.tmp rfl) (RVs.nil)), ?_⟩
        | refine sq_ende (.inr rfl) rfl rfl ⟨_, (RVs.cons (RV.tmp rfl) (RVs.nil)), ?_⟩)
     | refine j_nil ?_
     )
    all_goals (intro w' hS; refine ⟨?_, hS.below⟩; simp only [pack])
  · refine eng_start (n := 148) (args := [.int .i64 t, .int .i64 k0, .int .i64 s, .int .i64 r, .int .i64 m]) tab tab_ok fns fns_ok [.tmp 10] Try.func10 rfl rfl rfl rfl ?_
    repeat' (first
     | (refine gJ ?_
        first
        | refine jmv rfl rfl rfl rfl rfl ?_
        | (refine gload rfl rfl ?_
           refine j_qe rfl rfl rfl ?_
           first
           | refine ⟨_, q_load_own rfl rfl rfl rfl (by (repeat (first | exact InL.here | apply InL.there))) (by first | rfl | assumption), ?_⟩
           | refine ⟨_, q_loadA_own rfl rfl rfl rfl (by (repeat (first | exact InL.here | apply InL.there))) (by rfl), ?_⟩
           | refine ⟨_, q_loadA_ext rfl rfl rfl rfl ⟨by assumption, (by first | exact id | assumption)⟩ (by rfl), ?_⟩
           | refine ⟨_, q_load_ext rfl rfl rfl rfl ⟨by assumption, (by first | exact id | assumption)⟩ (by first | rfl | assumption), ?_⟩
           | refine ⟨_, q_load_extb rfl rfl rfl rfl ⟨by assumption, (by first | exact id | assumption)⟩ (by rfl), ?_⟩
           | refine ⟨_, q_loadA_extb rfl rfl rfl rfl ⟨by assumption, (by first | exact id | assumption)⟩ (by rfl), ?_⟩
           | refine ⟨_, q_load_ext0 rfl rfl rfl rfl ⟨by assumption, (by first | exact id | assumption)⟩ (by rfl), ?_⟩)
        | refine jfield rfl rfl rfl rfl rfl rfl rfl rfl ?_
        | refine jcmp rfl rfl rfl rfl rfl rfl rfl ?_
        | refine jar rfl rfl rfl rfl rfl rfl rfl (by omega) ?_
        | refine jextract rfl rfl rfl rfl rfl rfl ?_
        | (refine gcall rfl rfl ?_
           first
           | (refine j_qc (f := 14) rfl rfl rfl rfl rfl rfl rfl ?_; refine ⟨_, (fun w' _ => awake_c w'), ?_⟩)
           | (refine j_qc (f := 27) rfl rfl rfl rfl rfl rfl rfl ?_; refine ⟨_, (fun w' _ => trials_c t k0 100 n k w' ht hk0 (by omega) en ek), ?_⟩)
           | (refine j_qc (f := 20) rfl rfl rfl rfl rfl rfl rfl ?_; refine ⟨_, (fun w' _ => share_c s p w' hs ep), ?_⟩)
           | (refine j_qc (f := 20) rfl rfl rfl rfl rfl rfl rfl ?_; refine ⟨_, (fun w' _ => share_c m q w' hm eq), ?_⟩)
           | (refine j_qc (f := 21) rfl rfl rfl rfl rfl rfl rfl ?_; refine ⟨_, (fun w' _ => risk_c r a w' hr ea3), ?_⟩)
           | (refine j_qc (f := 21) rfl rfl rfl rfl rfl rfl rfl ?_; refine ⟨_, (fun w' _ => risk_c m b1 w' hm eb3), ?_⟩)
           | (refine j_qc (f := 36) rfl rfl rfl rfl rfl rfl rfl ?_; refine ⟨_, (fun w' hs => cmp_c A1 c1 (up P (10000 - P) n k) A2 c2 (up Q (10000 - Q) n k) w' (by omega) (by omega) (sl_of_own hs (by (repeat (first | exact InL.here | apply InL.there))) rfl rfl) (sl_of_own hs (by (repeat (first | exact InL.here | apply InL.there))) rfl rfl)), ?_⟩)
           | (refine j_qc (f := 36) rfl rfl rfl rfl rfl rfl rfl ?_; refine ⟨_, (fun w' hs => cmp_c A3 c3 (up P (10000 - P) n (k + 1)) A1 c1 (up P (10000 - P) n k) w' (by omega) (by omega) (sl_of_own hs (by (repeat (first | exact InL.here | apply InL.there))) rfl rfl) (sl_of_own hs (by (repeat (first | exact InL.here | apply InL.there))) rfl rfl)), ?_⟩)
           | (refine j_qc (f := 23) rfl rfl rfl rfl rfl rfl rfl ?_; refine ⟨_, (fun w' _ => least_c n k A w' hk (by omega) (by omega)), ?_⟩)
           | (refine j_qc (f := 23) rfl rfl rfl rfl rfl rfl rfl ?_; refine ⟨_, (fun w' _ => least_c n k B w' hk (by omega) (by omega)), ?_⟩)
           | (refine j_qc (f := 23) rfl rfl rfl rfl rfl rfl rfl ?_; refine ⟨_, (fun w' _ => hl2 (by omega) w'), ?_⟩))
        | (refine j_qe rfl rfl rfl ?_; refine ⟨_, q_minr rfl rfl rfl m1, ?_⟩)
        | (refine j_qe rfl rfl rfl ?_; refine ⟨_, q_maxr rfl rfl rfl m2, ?_⟩)
        | (refine j_qe rfl rfl rfl ?_; refine ⟨_, q_minr rfl rfl rfl m3, ?_⟩)
        | (refine j_qe rfl rfl rfl ?_; refine ⟨_, q_maxr rfl rfl rfl m4, ?_⟩)
        | (refine gcall rfl rfl ?_; refine j_nat2 (f := 28) rfl rfl rfl rfl rfl rfl rfl (fun w' _ => upper_c n k P w' hk (by omega) (by omega)) ?_; intro A1 c1)
        | (refine gcall rfl rfl ?_; refine j_nat2 (f := 28) rfl rfl rfl rfl rfl rfl rfl (fun w' _ => upper_c n k Q w' hk (by omega) (by omega)) ?_; intro A2 c2)
        | (refine gcall rfl rfl ?_; refine j_nat2 (f := 28) rfl rfl rfl rfl rfl rfl rfl (fun w' _ => hu2 (by omega) w') ?_; intro A3 c3)
        | refine j_store rfl rfl rfl rfl rfl rfl rfl rfl (by (repeat (first | exact Upd.here | apply Upd.there))) (by rfl) ?_
        | (refine j_alloc rfl rfl rfl rfl rfl ?_; intro b)
        | (refine j_box rfl rfl rfl rfl rfl ?_; intro b)
        | (refine j_qe rfl rfl rfl ?_
           first
           | refine ⟨_, q_pick_t rfl rfl rfl, ?_⟩
           | refine ⟨_, q_pick_f rfl rfl rfl, ?_⟩
           | refine ⟨_, q_not rfl rfl, ?_⟩
           | refine ⟨_, q_index_nat rfl rfl rfl rfl rfl (by omega), ?_⟩
           | refine ⟨_, q_index_slice rfl rfl rfl rfl rfl (by omega), ?_⟩
           | refine ⟨_, q_index_arr rfl rfl rfl rfl rfl (by omega), ?_⟩
           | refine ⟨_, q_index_arr_ext rfl rfl rfl rfl rfl (by omega), ?_⟩
           | refine ⟨_, q_len_slice rfl rfl rfl rfl, ?_⟩
           | refine ⟨_, q_makeFunc rfl rfl, ?_⟩
           | refine ⟨_, q_build_struct rfl rfl rfl rfl rfl, ?_⟩
           | refine ⟨_, q_build_arr rfl rfl rfl rfl rfl, ?_⟩
           | refine ⟨_, q_nilCheck rfl rfl, ?_⟩
           | refine ⟨_, q_field_ext rfl rfl rfl rfl rfl, ?_⟩
           | refine ⟨_, q_quo rfl rfl rfl (by omega), ?_⟩
           | refine ⟨_, q_rem rfl rfl rfl (by omega), ?_⟩
           | refine ⟨_, q_quot rfl rfl rfl (by omega), ?_⟩
           | refine ⟨_, q_remt rfl rfl rfl (by omega), ?_⟩
           | refine ⟨_, q_addu8 rfl rfl rfl (by omega), ?_⟩
           | refine ⟨_, q_quou8 rfl rfl rfl (by omega), ?_⟩
           | refine ⟨_, q_shr1 rfl rfl rfl, ?_⟩
           | refine ⟨_, q_shr rfl rfl rfl ⟨by omega, by decide⟩, ?_⟩
           | refine ⟨_, q_shr rfl rfl rfl ⟨by omega, by show Int.toNat _ ≤ (8:Nat); omega⟩, ?_⟩
           | refine ⟨_, q_and1 rfl rfl rfl (by first | assumption | omega), ?_⟩
           | refine ⟨_, q_conv rfl rfl rfl rfl rfl rfl (by first | rfl | (exact i64_wrap (by omega) (by omega)) | (exact u8_wrap (by omega) (by omega)) | (exact u64_wrap (by omega) (by omega)) | (exact u16_wrap (by omega) (by omega))), ?_⟩)
        | refine j_guard_undef rfl rfl rfl rfl rfl ?_
        | (refine j_guard rfl rfl rfl rfl rfl ?_ ?_ <;> intro hc <;> (first | (exact absurd hc (by decide)) | ((try simp only [decide_eq_true_eq, decide_eq_false_iff_not, Bool.not_eq_true', Bool.not_eq_false', Bool.not_true, Bool.not_false, ne_eq, Decidable.not_not] at hc) <;> first | (exfalso; omega) | (exact absurd trivial hc) | skip)))
        | (refine j_buildSlice rfl rfl rfl rfl rfl rfl rfl rfl rfl rfl rfl rfl ?_; intro b)
        | (refine j_append rfl rfl rfl rfl rfl rfl rfl rfl rfl rfl rfl (by (repeat (first | exact InL.here | apply InL.there))) (by (repeat (first | exact InL.here | apply InL.there))) (by rfl) (by rfl) (by omega) (fun _ => by (repeat (first | exact Upd.here | apply Upd.there))) ?_; intro v))
     | (refine gSC ?_
        first
        | refine sc_seq ?_
        | refine sc_region ?_
        | (refine sc_cond rfl ?_ ?_ <;> intro hc <;> (first | (exact absurd hc (by decide)) | ((try simp only [decide_eq_true_eq, decide_eq_false_iff_not, Bool.not_eq_true', Bool.not_eq_false', Bool.not_true, Bool.not_false, ne_eq, Decidable.not_not] at hc) <;> first | (exfalso; omega) | (exact absurd trivial hc) | skip)))
        | refine sc_block ?_
        | refine sc_ret ?_
        | refine sc_exit ?_
        | refine sc_skip ?_
        | refine sc_draw rfl mixed (by kernel_rfl) ?_)
     | (refine gSQ ?_
        first
        | refine sq_seq ?_
        | refine sq_blk ?_
        | refine sq_seq_ret ?_
        | refine sq_blk_ret ?_
        | refine sq_loop_ret ?_
        | refine sq_seq_exit ?_
        | refine sq_blk_hit ?_
        | refine sq_blk_miss rfl ?_
        | refine sq_loop_exit ?_
        | refine sq_ende (.inl rfl) rfl rfl ⟨_, (RVs.cons (RV.tmp rfl) (RVs.nil)), ?_⟩
        | refine sq_ende (.inr rfl) rfl rfl ⟨_, (RVs.cons (RV.tmp rfl) (RVs.nil)), ?_⟩)
     | refine j_nil ?_
     )
    all_goals (intro w' hS; refine ⟨?_, hS.below⟩; simp only [pack])
    all_goals exact rb (decide_eq_true f4)
end Go.Proofs.Ytmlgheoliaplgaa
