/-
  StatsSums.
-/
import Derived.Test.YtmlgheoliaplgaaTur
import Derived.Test.YtmlgheoliaplgaaNl3
namespace Go.Proofs.Ytmlgheoliaplgaa
open Go.RowKit Eng
set_option linter.unusedVariables false
set_option linter.unusedSimpArgs false
attribute [local irreducible] SC SQ J Qt Calls Iterates
set_option exponentiation.threshold 600
theorem hsame (A : Option Addr) (c : Nat) (B : Option Addr) (bc a : Nat) (w : World) (ha : a ≤ cap) (hA : SL w A c (limbs a)) (hB : SL w B bc (limbs a)) :
    Calls Try.prog 30 #[.slice A (limbs a).length c, .slice B (limbs a).length bc] w fun e w' => e = .returned (.bool true) ∧ Below w.heap.size w w' := by
  have h := same1_c A c a B bc a w ha ha hA hB
  rw [decide_eq_true rfl] at h
  exact h
theorem hadd (A : Option Addr) (c a : Nat) (B : Option Addr) (bc b s : Nat) (w : World) (ha : a ≤ cap) (hb : b ≤ cap) (hs : a + b = s) (hA : SL w A c (limbs a)) (hB : SL w B bc (limbs b)) :
    Calls Try.prog 25 #[.slice A (limbs a).length c, .slice B (limbs b).length bc] w fun e w' => ∃ v : Value, True ∧ e = .returned (.tuple #[v, .int .i64 0]) ∧ St w Cold [haN v s] w' := by
  have h1 := cap_len ha
  have h2 := cap_len hb
  rw [← hs]
  exact add_c A c a B bc b w (by omega) (by omega) hA hB
set_option maxRecDepth 4000 in
set_option maxHeartbeats 8000000 in
theorem sums_c (t k0 s : Int) (w : World) (ht : inI t) (hk0 : inI k0) (hs : inI s) :
    Calls Try.prog 8 #[.int .i64 t, .int .i64 k0, .int .i64 s] w fun e w' => e = .returned (.bool true) ∧ Below w.heap.size w w' := by
  obtain ⟨n, k, en, ek, hn, hk⟩ := get_trials t k0 200
  obtain ⟨p, ep, hp⟩ := nat_mod s 10001 (by omega)
  have cW : 10000 ^ n ≤ cap := pow_cap (Nat.le_refl _) (by omega)
  have cU := Nat.le_trans (up_cap (p := p) (n := n) (k := k) (by omega) (by omega)) cap_500
  have cU1 := Nat.le_trans (up_cap (p := p) (n := n) (k := k + 1) (by omega) (by omega)) cap_500
  have cB := Nat.le_trans (bn_cap (p := p) (n := n) (k := k) (by omega) (by omega)) cap_500
  have cL := Nat.le_trans (low_cap (p := p) (n := n) (k := k - 1) (by omega) (by omega)) cap_500
  have cH : ch n k * 5000 ^ n ≤ cap := by rw [← half_ch]; exact Nat.le_trans (bn_cap (p := 5000) (n := n) (k := k) (by omega) (by omega)) cap_500
  have c0 : 0 ≤ cap := Nat.zero_le _
  have l1 := cap_len (show ch n k ≤ cap by have := ch_cap2 (n := n) (k := k) (m := 1) (by omega) (by omega); rwa [Nat.mul_one] at this)
  have l2 := cap_len (show 5000 ^ n ≤ cap from pow_cap (by omega) (by omega))
  have e1 : 0 < k → up p (10000 - p) n k + low p (10000 - p) n (k - 1) = 10000 ^ n := fun h => by
    have := low_up p (10000 - p) n (k - 1)
    rw [show k - 1 + 1 = k by omega, show p + (10000 - p) = 10000 by omega] at this
    omega
  have e1z : k = 0 → up p (10000 - p) n k + 0 = 10000 ^ n := fun h => by rw [h, up_all, show p + (10000 - p) = 10000 by omega, Nat.add_zero]
  have e2 : up p (10000 - p) n (k + 1) + bn p (10000 - p) n k = up p (10000 - p) n k := by rw [up_split p (10000 - p) n k, Nat.add_comm]
  have e2z : k = n → 0 + bn p (10000 - p) n k = up p (10000 - p) n k := fun h => by rw [up_split p (10000 - p) n k, up_zero _ _ _ _ (by omega), Nat.add_zero, Nat.zero_add]
  have hadd1 := fun (h : 0 < k) A c B bc w' hA hB => hadd A c _ B bc _ _ w' cU cL (e1 h) hA hB
  have hadd1z := fun (h : k = 0) A c B bc w' hA hB => hadd A c _ B bc _ _ w' cU c0 (e1z h) hA hB
  have hadd2 := fun A c B bc w' hA hB => hadd A c _ B bc _ _ w' cU1 cB e2 hA hB
  have hadd2z := fun (h : k = n) A c B bc w' hA hB => hadd A c _ B bc _ _ w' c0 cB (e2z h) hA hB
  have hhalf : ∀ w', Calls Try.prog 22 #[.int .i64 n, .int .i64 k, .int .i64 5000] w' fun e w'' => ∃ v : Value, True ∧ e = .returned (.tuple #[v, .int .i64 0]) ∧ St w' Cold [haN v (ch n k * 5000 ^ n)] w'' := fun w' => by
    have h := chance_c n k 5000 w' hk (by omega) (by omega)
    rw [half_ch] at h
    exact h
  have hup2 : k < n → ∀ w', Calls Try.prog 28 #[.int .i64 n, .int .i64 ((k : Int) + 1), .int .i64 p] w' fun e w'' => ∃ v : Value, True ∧ e = .returned (.tuple #[v, .int .i64 0]) ∧ St w' Cold [haN v (up p (10000 - p) n (k + 1))] w'' := fun hlt w' => by
    rw [show ((k : Int) + 1) = ((k + 1 : Nat) : Int) by omega]
    exact upper_c n (k + 1) p w' (by omega) (by omega) (by omega)
  have hlo2 : 0 < k → ∀ w', Calls Try.prog 29 #[.int .i64 n, .int .i64 ((k : Int) - 1), .int .i64 p] w' fun e w'' => ∃ v : Value, True ∧ e = .returned (.tuple #[v, .int .i64 0]) ∧ St w' Cold [haN v (low p (10000 - p) n (k - 1))] w'' := fun hlt w' => by
    rw [show ((k : Int) - 1) = ((k - 1 : Nat) : Int) by omega]
    exact lower_c n (k - 1) p w' (by omega) (by omega) (by omega)
  clear e1 e1z e2 e2z
  rcases Nat.lt_or_ge k n with hkn | hkn <;> rcases Nat.eq_zero_or_pos k with hkz | hkz
  · refine eng_start (n := 141) (args := [.int .i64 t, .int .i64 k0, .int .i64 s]) tab tab_ok fns fns_ok [.tmp 6] Try.func8 rfl rfl rfl rfl ?_
    repeat' (first
     | (refine gJ ?_
        first
        | refine jmv rfl rfl rfl rfl rfl ?_
        | (refine gload rfl rfl ?_
           refine j_qe rfl rfl rfl ?_
           first
           | refine ⟨_, q_load_own rfl rfl rfl rfl (by (repeat (first | exact InL.here | apply InL.there))) (by first | rfl | assumption), ?_⟩
           | refine ⟨_, q_loadA_own rfl rfl rfl rfl (by (repeat (first | exact InL.here | apply InL.there))) (by rfl), ?_⟩
           | refine ⟨_, q_loadA_ext rfl rfl rfl rfl ⟨by assumption, (by first | exact id | assumption)⟩ (by rfl), ?_⟩
           | refine ⟨_, q_load_ext rfl rfl rfl rfl ⟨by assumption, (by first | exact id | assumption)⟩ (by first | rfl | assumption), ?_⟩
           | refine ⟨_, q_load_extb rfl rfl rfl rfl ⟨by assumption, (by first | exact id | assumption)⟩ (by rfl), ?_⟩
           | refine ⟨_, q_loadA_extb rfl rfl rfl rfl ⟨by assumption, (by first | exact id | assumption)⟩ (by rfl), ?_⟩
           | refine ⟨_, q_load_ext0 rfl rfl rfl rfl ⟨by assumption, (by first | exact id | assumption)⟩ (by rfl), ?_⟩)
        | refine jfield rfl rfl rfl rfl rfl rfl rfl rfl ?_
        | refine jcmp rfl rfl rfl rfl rfl rfl rfl ?_
        | refine jar rfl rfl rfl rfl rfl rfl rfl (by omega) ?_
        | refine jextract rfl rfl rfl rfl rfl rfl ?_
        | (refine gcall rfl rfl ?_
           first
           | (refine j_qc (f := 14) rfl rfl rfl rfl rfl rfl rfl ?_; refine ⟨_, (fun w' _ => awake_c w'), ?_⟩)
           | (refine j_qc (f := 27) rfl rfl rfl rfl rfl rfl rfl ?_; refine ⟨_, (fun w' _ => trials_c t k0 200 n k w' ht hk0 (by omega) en ek), ?_⟩)
           | (refine j_qc (f := 20) rfl rfl rfl rfl rfl rfl rfl ?_; refine ⟨_, (fun w' _ => share_c s p w' hs ep), ?_⟩)
           | (refine j_qc (f := 30) rfl rfl rfl rfl rfl rfl rfl ?_; refine ⟨_, (fun w' hs => hsame A5 c5 A7 c7 (10000 ^ n) w' cW (sl_of_own hs (by (repeat (first | exact InL.here | apply InL.there))) rfl rfl) (sl_of_own hs (by (repeat (first | exact InL.here | apply InL.there))) rfl rfl)), ?_⟩)
           | (refine j_qc (f := 30) rfl rfl rfl rfl rfl rfl rfl ?_; refine ⟨_, (fun w' hs => hsame A6 c6 A1 c1 (up p (10000 - p) n k) w' cU (sl_of_own hs (by (repeat (first | exact InL.here | apply InL.there))) rfl rfl) (sl_of_own hs (by (repeat (first | exact InL.here | apply InL.there))) rfl rfl)), ?_⟩)
           | (refine j_qc (f := 30) rfl rfl rfl rfl rfl rfl rfl ?_; refine ⟨_, (fun w' hs => hsame A8 c8 A12 c12 (ch n k * 5000 ^ n) w' cH (sl_of_own hs (by (repeat (first | exact InL.here | apply InL.there))) rfl rfl) (sl_of_own hs (by (repeat (first | exact InL.here | apply InL.there))) rfl rfl)), ?_⟩))
        | (refine gcall rfl rfl ?_; refine j_nat2 (f := 28) rfl rfl rfl rfl rfl rfl rfl (fun w' _ => upper_c n k p w' hk (by omega) (by omega)) ?_; intro A1 c1)
        | (refine gcall rfl rfl ?_; refine j_nat2 (f := 22) rfl rfl rfl rfl rfl rfl rfl (fun w' _ => chance_c n k p w' hk (by omega) (by omega)) ?_; intro A2 c2)
        | (refine j_build0 rfl rfl rfl rfl rfl rfl ?_; intro b1)
        | (refine gcall rfl rfl ?_; refine j_nat2 (f := 28) rfl rfl rfl rfl rfl rfl rfl (fun w' _ => hup2 (by omega) w') ?_; intro A3 c3)
        | (refine gcall rfl rfl ?_; refine j_nat2 (f := 25) rfl rfl rfl rfl rfl rfl rfl (fun w' hs => hadd1z (by omega) A1 c1 _ _ w' (sl_of_own hs (by (repeat (first | exact InL.here | apply InL.there))) rfl rfl) (sl_of_own hs (by (repeat (first | exact InL.here | apply InL.there))) rfl rfl)) ?_; intro A5 c5)
        | (refine gcall rfl rfl ?_; refine j_nat2 (f := 25) rfl rfl rfl rfl rfl rfl rfl (fun w' hs => hadd2 A3 c3 A2 c2 w' (sl_of_own hs (by (repeat (first | exact InL.here | apply InL.there))) rfl rfl) (sl_of_own hs (by (repeat (first | exact InL.here | apply InL.there))) rfl rfl)) ?_; intro A6 c6)
        | (refine gcall rfl rfl ?_; refine j_nat (f := 31) rfl rfl rfl rfl rfl rfl rfl (fun w' _ => all_c n w' (by omega)) ?_; intro A7 c7)
        | (refine gcall rfl rfl ?_; refine j_nat2 (f := 22) rfl rfl rfl rfl rfl rfl rfl (fun w' _ => hhalf w') ?_; intro A8 c8)
        | (refine gcall rfl rfl ?_; refine j_nat2 (f := 32) rfl rfl rfl rfl rfl rfl rfl (fun w' _ => choose_c n k w' hk (by omega)) ?_; intro A9 c9)
        | (refine gcall rfl rfl ?_; refine j_nat (f := 34) rfl rfl rfl rfl rfl rfl rfl (fun w' _ => of_c 5000 w' (by omega)) ?_; intro A10 c10)
        | (refine gcall rfl rfl ?_; refine j_nat2 (f := 33) rfl rfl rfl rfl rfl rfl rfl (fun w' hs => pow_c A10 c10 5000 n w' (by omega) (by omega) (sl_of_own hs (by (repeat (first | exact InL.here | apply InL.there))) rfl rfl)) ?_; intro A11 c11)
        | (refine gcall rfl rfl ?_; refine j_nat2 (f := 35) rfl rfl rfl rfl rfl rfl rfl (fun w' hs => mul_c A9 c9 (ch n k) A11 c11 (5000 ^ n) w' (by omega) (sl_of_own hs (by (repeat (first | exact InL.here | apply InL.there))) rfl rfl) (sl_of_own hs (by (repeat (first | exact InL.here | apply InL.there))) rfl rfl)) ?_; intro A12 c12)
        | refine j_store rfl rfl rfl rfl rfl rfl rfl rfl (by (repeat (first | exact Upd.here | apply Upd.there))) (by rfl) ?_
        | (refine j_alloc rfl rfl rfl rfl rfl ?_; intro b)
        | (refine j_box rfl rfl rfl rfl rfl ?_; intro b)
        | (refine j_qe rfl rfl rfl ?_
           first
           | refine ⟨_, q_pick_t rfl rfl rfl, ?_⟩
           | refine ⟨_, q_pick_f rfl rfl rfl, ?_⟩
           | refine ⟨_, q_not rfl rfl, ?_⟩
           | refine ⟨_, q_index_nat rfl rfl rfl rfl rfl (by omega), ?_⟩
           | refine ⟨_, q_index_slice rfl rfl rfl rfl rfl (by omega), ?_⟩
           | refine ⟨_, q_index_arr rfl rfl rfl rfl rfl (by omega), ?_⟩
           | refine ⟨_, q_index_arr_ext rfl rfl rfl rfl rfl (by omega), ?_⟩
           | refine ⟨_, q_len_slice rfl rfl rfl rfl, ?_⟩
           | refine ⟨_, q_makeFunc rfl rfl, ?_⟩
           | refine ⟨_, q_build_struct rfl rfl rfl rfl rfl, ?_⟩
           | refine ⟨_, q_build_arr rfl rfl rfl rfl rfl, ?_⟩
           | refine ⟨_, q_nilCheck rfl rfl, ?_⟩
           | refine ⟨_, q_field_ext rfl rfl rfl rfl rfl, ?_⟩
           | refine ⟨_, q_quo rfl rfl rfl (by omega), ?_⟩
           | refine ⟨_, q_rem rfl rfl rfl (by omega), ?_⟩
           | refine ⟨_, q_quot rfl rfl rfl (by omega), ?_⟩
           | refine ⟨_, q_remt rfl rfl rfl (by omega), ?_⟩
           | refine ⟨_, q_addu8 rfl rfl rfl (by omega), ?_⟩
           | refine ⟨_, q_quou8 rfl rfl rfl (by omega), ?_⟩
           | refine ⟨_, q_shr1 rfl rfl rfl, ?_⟩
           | refine ⟨_, q_shr rfl rfl rfl ⟨by omega, by decide⟩, ?_⟩
           | refine ⟨_, q_shr rfl rfl rfl ⟨by omega, by show Int.toNat _ ≤ (8:Nat); omega⟩, ?_⟩
           | refine ⟨_, q_and1 rfl rfl rfl (by first | assumption | omega), ?_⟩
           | refine ⟨_, q_conv rfl rfl rfl rfl rfl rfl (by first | rfl | (exact i64_wrap (by omega) (by omega)) | (exact u8_wrap (by omega) (by omega)) | (exact u64_wrap (by omega) (by omega)) | (exact u16_wrap (by omega) (by omega))), ?_⟩)
        | refine j_guard_undef rfl rfl rfl rfl rfl ?_
        | (refine j_guard rfl rfl rfl rfl rfl ?_ ?_ <;> intro hc <;> (first | (exact absurd hc (by decide)) | ((try simp only [decide_eq_true_eq, decide_eq_false_iff_not, Bool.not_eq_true', Bool.not_eq_false', Bool.not_true, Bool.not_false, ne_eq, Decidable.not_not] at hc) <;> first | (exfalso; omega) | (exact absurd trivial hc) | skip)))
        | (refine j_buildSlice rfl rfl rfl rfl rfl rfl rfl rfl rfl rfl rfl rfl ?_; intro b)
        | (refine j_append rfl rfl rfl rfl rfl rfl rfl rfl rfl rfl rfl (by (repeat (first | exact InL.here | apply InL.there))) (by (repeat (first | exact InL.here | apply InL.there))) (by rfl) (by rfl) (by omega) (fun _ => by (repeat (first | exact Upd.here | apply Upd.there))) ?_; intro v))
     | (refine gSC ?_
        first
        | refine sc_seq ?_
        | refine sc_region ?_
        | (refine sc_cond rfl ?_ ?_ <;> intro hc <;> (first | (exact absurd hc (by decide)) | ((try simp only [decide_eq_true_eq, decide_eq_false_iff_not, Bool.not_eq_true', Bool.not_eq_false', Bool.not_true, Bool.not_false, ne_eq, Decidable.not_not] at hc) <;> first | (exfalso; omega) | (exact absurd trivial hc) | skip)))
        | refine sc_block ?_
        | refine sc_ret ?_
        | refine sc_exit ?_
        | refine sc_skip ?_
        | refine sc_draw rfl mixed (by kernel_rfl) ?_)
     | (refine gSQ ?_
        first
        | refine sq_seq ?_
        | refine sq_blk ?_
        | refine sq_seq_ret ?_
        | refine sq_blk_ret ?_
        | refine sq_loop_ret ?_
        | refine sq_seq_exit ?_
        | refine sq_blk_hit ?_
        | refine sq_blk_miss rfl ?_
        | refine sq_loop_exit ?_
        | refine sq_ende (.inl rfl) rfl rfl ⟨_, (RVs.cons (RV.tmp rfl) (RVs.nil)), ?_⟩
        | refine sq_ende (.inr rfl) rfl rfl ⟨_, (RVs.cons (RV.tmp rfl) (RVs.nil)), ?_⟩)
     | refine j_nil ?_
     )
    all_goals (intro w' hS; refine ⟨?_, hS.below⟩; simp only [pack])
  · refine eng_start (n := 141) (args := [.int .i64 t, .int .i64 k0, .int .i64 s]) tab tab_ok fns fns_ok [.tmp 6] Try.func8 rfl rfl rfl rfl ?_
    repeat' (first
     | (refine gJ ?_
        first
        | refine jmv rfl rfl rfl rfl rfl ?_
        | (refine gload rfl rfl ?_
           refine j_qe rfl rfl rfl ?_
           first
           | refine ⟨_, q_load_own rfl rfl rfl rfl (by (repeat (first | exact InL.here | apply InL.there))) (by first | rfl | assumption), ?_⟩
           | refine ⟨_, q_loadA_own rfl rfl rfl rfl (by (repeat (first | exact InL.here | apply InL.there))) (by rfl), ?_⟩
           | refine ⟨_, q_loadA_ext rfl rfl rfl rfl ⟨by assumption, (by first | exact id | assumption)⟩ (by rfl), ?_⟩
           | refine ⟨_, q_load_ext rfl rfl rfl rfl ⟨by assumption, (by first | exact id | assumption)⟩ (by first | rfl | assumption), ?_⟩
           | refine ⟨_, q_load_extb rfl rfl rfl rfl ⟨by assumption, (by first | exact id | assumption)⟩ (by rfl), ?_⟩
           | refine ⟨_, q_loadA_extb rfl rfl rfl rfl ⟨by assumption, (by first | exact id | assumption)⟩ (by rfl), ?_⟩
           | refine ⟨_, q_load_ext0 rfl rfl rfl rfl ⟨by assumption, (by first | exact id | assumption)⟩ (by rfl), ?_⟩)
        | refine jfield rfl rfl rfl rfl rfl rfl rfl rfl ?_
        | refine jcmp rfl rfl rfl rfl rfl rfl rfl ?_
        | refine jar rfl rfl rfl rfl rfl rfl rfl (by omega) ?_
        | refine jextract rfl rfl rfl rfl rfl rfl ?_
        | (refine gcall rfl rfl ?_
           first
           | (refine j_qc (f := 14) rfl rfl rfl rfl rfl rfl rfl ?_; refine ⟨_, (fun w' _ => awake_c w'), ?_⟩)
           | (refine j_qc (f := 27) rfl rfl rfl rfl rfl rfl rfl ?_; refine ⟨_, (fun w' _ => trials_c t k0 200 n k w' ht hk0 (by omega) en ek), ?_⟩)
           | (refine j_qc (f := 20) rfl rfl rfl rfl rfl rfl rfl ?_; refine ⟨_, (fun w' _ => share_c s p w' hs ep), ?_⟩)
           | (refine j_qc (f := 30) rfl rfl rfl rfl rfl rfl rfl ?_; refine ⟨_, (fun w' hs => hsame A5 c5 A7 c7 (10000 ^ n) w' cW (sl_of_own hs (by (repeat (first | exact InL.here | apply InL.there))) rfl rfl) (sl_of_own hs (by (repeat (first | exact InL.here | apply InL.there))) rfl rfl)), ?_⟩)
           | (refine j_qc (f := 30) rfl rfl rfl rfl rfl rfl rfl ?_; refine ⟨_, (fun w' hs => hsame A6 c6 A1 c1 (up p (10000 - p) n k) w' cU (sl_of_own hs (by (repeat (first | exact InL.here | apply InL.there))) rfl rfl) (sl_of_own hs (by (repeat (first | exact InL.here | apply InL.there))) rfl rfl)), ?_⟩)
           | (refine j_qc (f := 30) rfl rfl rfl rfl rfl rfl rfl ?_; refine ⟨_, (fun w' hs => hsame A8 c8 A12 c12 (ch n k * 5000 ^ n) w' cH (sl_of_own hs (by (repeat (first | exact InL.here | apply InL.there))) rfl rfl) (sl_of_own hs (by (repeat (first | exact InL.here | apply InL.there))) rfl rfl)), ?_⟩))
        | (refine gcall rfl rfl ?_; refine j_nat2 (f := 28) rfl rfl rfl rfl rfl rfl rfl (fun w' _ => upper_c n k p w' hk (by omega) (by omega)) ?_; intro A1 c1)
        | (refine gcall rfl rfl ?_; refine j_nat2 (f := 22) rfl rfl rfl rfl rfl rfl rfl (fun w' _ => chance_c n k p w' hk (by omega) (by omega)) ?_; intro A2 c2)
        | (refine j_build0 rfl rfl rfl rfl rfl rfl ?_; intro b1)
        | (refine gcall rfl rfl ?_; refine j_nat2 (f := 28) rfl rfl rfl rfl rfl rfl rfl (fun w' _ => hup2 (by omega) w') ?_; intro A3 c3)
        | (refine gcall rfl rfl ?_; refine j_nat2 (f := 29) rfl rfl rfl rfl rfl rfl rfl (fun w' _ => hlo2 (by omega) w') ?_; intro A4 c4)
        | (refine gcall rfl rfl ?_; refine j_nat2 (f := 25) rfl rfl rfl rfl rfl rfl rfl (fun w' hs => hadd1 (by omega) A1 c1 A4 c4 w' (sl_of_own hs (by (repeat (first | exact InL.here | apply InL.there))) rfl rfl) (sl_of_own hs (by (repeat (first | exact InL.here | apply InL.there))) rfl rfl)) ?_; intro A5 c5)
        | (refine gcall rfl rfl ?_; refine j_nat2 (f := 25) rfl rfl rfl rfl rfl rfl rfl (fun w' hs => hadd2 A3 c3 A2 c2 w' (sl_of_own hs (by (repeat (first | exact InL.here | apply InL.there))) rfl rfl) (sl_of_own hs (by (repeat (first | exact InL.here | apply InL.there))) rfl rfl)) ?_; intro A6 c6)
        | (refine gcall rfl rfl ?_; refine j_nat (f := 31) rfl rfl rfl rfl rfl rfl rfl (fun w' _ => all_c n w' (by omega)) ?_; intro A7 c7)
        | (refine gcall rfl rfl ?_; refine j_nat2 (f := 22) rfl rfl rfl rfl rfl rfl rfl (fun w' _ => hhalf w') ?_; intro A8 c8)
        | (refine gcall rfl rfl ?_; refine j_nat2 (f := 32) rfl rfl rfl rfl rfl rfl rfl (fun w' _ => choose_c n k w' hk (by omega)) ?_; intro A9 c9)
        | (refine gcall rfl rfl ?_; refine j_nat (f := 34) rfl rfl rfl rfl rfl rfl rfl (fun w' _ => of_c 5000 w' (by omega)) ?_; intro A10 c10)
        | (refine gcall rfl rfl ?_; refine j_nat2 (f := 33) rfl rfl rfl rfl rfl rfl rfl (fun w' hs => pow_c A10 c10 5000 n w' (by omega) (by omega) (sl_of_own hs (by (repeat (first | exact InL.here | apply InL.there))) rfl rfl)) ?_; intro A11 c11)
        | (refine gcall rfl rfl ?_; refine j_nat2 (f := 35) rfl rfl rfl rfl rfl rfl rfl (fun w' hs => mul_c A9 c9 (ch n k) A11 c11 (5000 ^ n) w' (by omega) (sl_of_own hs (by (repeat (first | exact InL.here | apply InL.there))) rfl rfl) (sl_of_own hs (by (repeat (first | exact InL.here | apply InL.there))) rfl rfl)) ?_; intro A12 c12)
        | refine j_store rfl rfl rfl rfl rfl rfl rfl rfl (by (repeat (first | exact Upd.here | apply Upd.there))) (by rfl) ?_
        | (refine j_alloc rfl rfl rfl rfl rfl ?_; intro b)
        | (refine j_box rfl rfl rfl rfl rfl ?_; intro b)
        | (refine j_qe rfl rfl rfl ?_
           first
           | refine ⟨_, q_pick_t rfl rfl rfl, ?_⟩
           | refine ⟨_, q_pick_f rfl rfl rfl, ?_⟩
           | refine ⟨_, q_not rfl rfl, ?_⟩
           | refine ⟨_, q_index_nat rfl rfl rfl rfl rfl (by omega), ?_⟩
           | refine ⟨_, q_index_slice rfl rfl rfl rfl rfl (by omega), ?_⟩
           | refine ⟨_, q_index_arr rfl rfl rfl rfl rfl (by omega), ?_⟩
           | refine ⟨_, q_index_arr_ext rfl rfl rfl rfl rfl (by omega), ?_⟩
           | refine ⟨_, q_len_slice rfl rfl rfl rfl, ?_⟩
           | refine ⟨_, q_makeFunc rfl rfl, ?_⟩
           | refine ⟨_, q_build_struct rfl rfl rfl rfl rfl, ?_⟩
           | refine ⟨_, q_build_arr rfl rfl rfl rfl rfl, ?_⟩
           | refine ⟨_, q_nilCheck rfl rfl, ?_⟩
           | refine ⟨_, q_field_ext rfl rfl rfl rfl rfl, ?_⟩
           | refine ⟨_, q_quo rfl rfl rfl (by omega), ?_⟩
           | refine ⟨_, q_rem rfl rfl rfl (by omega), ?_⟩
           | refine ⟨_, q_quot rfl rfl rfl (by omega), ?_⟩
           | refine ⟨_, q_remt rfl rfl rfl (by omega), ?_⟩
           | refine ⟨_, q_addu8 rfl rfl rfl (by omega), ?_⟩
           | refine ⟨_, q_quou8 rfl rfl rfl (by omega), ?_⟩
           | refine ⟨_, q_shr1 rfl rfl rfl, ?_⟩
           | refine ⟨_, q_shr rfl rfl rfl ⟨by omega, by decide⟩, ?_⟩
           | refine ⟨_, q_shr rfl rfl rfl ⟨by omega, by show Int.toNat _ ≤ (8:Nat); omega⟩, ?_⟩
           | refine ⟨_, q_and1 rfl rfl rfl (by first | assumption | omega), ?_⟩
           | refine ⟨_, q_conv rfl rfl rfl rfl rfl rfl (by first | rfl | (exact i64_wrap (by omega) (by omega)) | (exact u8_wrap (by omega) (by omega)) | (exact u64_wrap (by omega) (by omega)) | (exact u16_wrap (by omega) (by omega))), ?_⟩)
        | refine j_guard_undef rfl rfl rfl rfl rfl ?_
        | (refine j_guard rfl rfl rfl rfl rfl ?_ ?_ <;> intro hc <;> (first | (exact absurd hc (by decide)) | ((try simp only [decide_eq_true_eq, decide_eq_false_iff_not, Bool.not_eq_true', Bool.not_eq_false', Bool.not_true, Bool.not_false, ne_eq, Decidable.not_not] at hc) <;> first | (exfalso; omega) | (exact absurd trivial hc) | skip)))
        | (refine j_buildSlice rfl rfl rfl rfl rfl rfl rfl rfl rfl rfl rfl rfl ?_; intro b)
        | (refine j_append rfl rfl rfl rfl rfl rfl rfl rfl rfl rfl rfl (by (repeat (first | exact InL.here | apply InL.there))) (by (repeat (first | exact InL.here | apply InL.there))) (by rfl) (by rfl) (by omega) (fun _ => by (repeat (first | exact Upd.here | apply Upd.there))) ?_; intro v))
     | (refine gSC ?_
        first
        | refine sc_seq ?_
        | refine sc_region ?_
        | (refine sc_cond rfl ?_ ?_ <;> intro hc <;> (first | (exact absurd hc (by decide)) | ((try simp only [decide_eq_true_eq, decide_eq_false_iff_not, Bool.not_eq_true', Bool.not_eq_false', Bool.not_true, Bool.not_false, ne_eq, Decidable.not_not] at hc) <;> first | (exfalso; omega) | (exact absurd trivial hc) | skip)))
        | refine sc_block ?_
        | refine sc_ret ?_
        | refine sc_exit ?_
        | refine sc_skip ?_
        | refine sc_draw rfl mixed (by kernel_rfl) ?_)
     | (refine gSQ ?_
        first
        | refine sq_seq ?_
        | refine sq_blk ?_
        | refine sq_seq_ret ?_
        | refine sq_blk_ret ?_
        | refine sq_loop_ret ?_
        | refine sq_seq_exit ?_
        | refine sq_blk_hit ?_
        | refine sq_blk_miss rfl ?_
        | refine sq_loop_exit ?_
        | refine sq_ende (.inl rfl) rfl rfl ⟨_, (RVs.cons (RV.tmp rfl) (RVs.nil)), ?_⟩
        | refine sq_ende (.inr rfl) rfl rfl ⟨_, (RVs.cons (RV.tmp rfl) (RVs.nil)), ?_⟩)
     | refine j_nil ?_
     )
    all_goals (intro w' hS; refine ⟨?_, hS.below⟩; simp only [pack])
  · refine eng_start (n := 141) (args := [.int .i64 t, .int .i64 k0, .int .i64 s]) tab tab_ok fns fns_ok [.tmp 6] Try.func8 rfl rfl rfl rfl ?_
    repeat' (first
     | (refine gJ ?_
        first
        | refine jmv rfl rfl rfl rfl rfl ?_
        | (refine gload rfl rfl ?_
           refine j_qe rfl rfl rfl ?_
           first
           | refine ⟨_, q_load_own rfl rfl rfl rfl (by (repeat (first | exact InL.here | apply InL.there))) (by first | rfl | assumption), ?_⟩
           | refine ⟨_, q_loadA_own rfl rfl rfl rfl (by (repeat (first | exact InL.here | apply InL.there))) (by rfl), ?_⟩
           | refine ⟨_, q_loadA_ext rfl rfl rfl rfl ⟨by assumption, (by first | exact id | assumption)⟩ (by rfl), ?_⟩
           | refine ⟨_, q_load_ext rfl rfl rfl rfl ⟨by assumption, (by first | exact id | assumption)⟩ (by first | rfl | assumption), ?_⟩
           | refine ⟨_, q_load_extb rfl rfl rfl rfl ⟨by assumption, (by first | exact id | assumption)⟩ (by rfl), ?_⟩
           | refine ⟨_, q_loadA_extb rfl rfl rfl rfl ⟨by assumption, (by first | exact id | assumption)⟩ (by rfl), ?_⟩
           | refine ⟨_, q_load_ext0 rfl rfl rfl rfl ⟨by assumption, (by first | exact id | assumption)⟩ (by rfl), ?_⟩)
        | refine jfield rfl rfl rfl rfl rfl rfl rfl rfl ?_
        | refine jcmp rfl rfl rfl rfl rfl rfl rfl ?_
        | refine jar rfl rfl rfl rfl rfl rfl rfl (by omega) ?_
        | refine jextract rfl rfl rfl rfl rfl rfl ?_
        | (refine gcall rfl rfl ?_
           first
           | (refine j_qc (f := 14) rfl rfl rfl rfl rfl rfl rfl ?_; refine ⟨_, (fun w' _ => awake_c w'), ?_⟩)
           | (refine j_qc (f := 27) rfl rfl rfl rfl rfl rfl rfl ?_; refine ⟨_, (fun w' _ => trials_c t k0 200 n k w' ht hk0 (by omega) en ek), ?_⟩)
           | (refine j_qc (f := 20) rfl rfl rfl rfl rfl rfl rfl ?_; refine ⟨_, (fun w' _ => share_c s p w' hs ep), ?_⟩)
           | (refine j_qc (f := 30) rfl rfl rfl rfl rfl rfl rfl ?_; refine ⟨_, (fun w' hs => hsame A5 c5 A7 c7 (10000 ^ n) w' cW (sl_of_own hs (by (repeat (first | exact InL.here | apply InL.there))) rfl rfl) (sl_of_own hs (by (repeat (first | exact InL.here | apply InL.there))) rfl rfl)), ?_⟩)
           | (refine j_qc (f := 30) rfl rfl rfl rfl rfl rfl rfl ?_; refine ⟨_, (fun w' hs => hsame A6 c6 A1 c1 (up p (10000 - p) n k) w' cU (sl_of_own hs (by (repeat (first | exact InL.here | apply InL.there))) rfl rfl) (sl_of_own hs (by (repeat (first | exact InL.here | apply InL.there))) rfl rfl)), ?_⟩)
           | (refine j_qc (f := 30) rfl rfl rfl rfl rfl rfl rfl ?_; refine ⟨_, (fun w' hs => hsame A8 c8 A12 c12 (ch n k * 5000 ^ n) w' cH (sl_of_own hs (by (repeat (first | exact InL.here | apply InL.there))) rfl rfl) (sl_of_own hs (by (repeat (first | exact InL.here | apply InL.there))) rfl rfl)), ?_⟩))
        | (refine gcall rfl rfl ?_; refine j_nat2 (f := 28) rfl rfl rfl rfl rfl rfl rfl (fun w' _ => upper_c n k p w' hk (by omega) (by omega)) ?_; intro A1 c1)
        | (refine gcall rfl rfl ?_; refine j_nat2 (f := 22) rfl rfl rfl rfl rfl rfl rfl (fun w' _ => chance_c n k p w' hk (by omega) (by omega)) ?_; intro A2 c2)
        | (refine j_build0 rfl rfl rfl rfl rfl rfl ?_; intro b1)
        | (refine gcall rfl rfl ?_; refine j_nat2 (f := 25) rfl rfl rfl rfl rfl rfl rfl (fun w' hs => hadd1z (by omega) A1 c1 _ _ w' (sl_of_own hs (by (repeat (first | exact InL.here | apply InL.there))) rfl rfl) (sl_of_own hs (by (repeat (first | exact InL.here | apply InL.there))) rfl rfl)) ?_; intro A5 c5)
        | (refine gcall rfl rfl ?_; refine j_nat2 (f := 25) rfl rfl rfl rfl rfl rfl rfl (fun w' hs => hadd2z (by omega) _ _ A2 c2 w' (sl_of_own hs (by (repeat (first | exact InL.here | apply InL.there))) rfl rfl) (sl_of_own hs (by (repeat (first | exact InL.here | apply InL.there))) rfl rfl)) ?_; intro A6 c6)
        | (refine gcall rfl rfl ?_; refine j_nat (f := 31) rfl rfl rfl rfl rfl rfl rfl (fun w' _ => all_c n w' (by omega)) ?_; intro A7 c7)
        | (refine gcall rfl rfl ?_; refine j_nat2 (f := 22) rfl rfl rfl rfl rfl rfl rfl (fun w' _ => hhalf w') ?_; intro A8 c8)
        | (refine gcall rfl rfl ?_; refine j_nat2 (f := 32) rfl rfl rfl rfl rfl rfl rfl (fun w' _ => choose_c n k w' hk (by omega)) ?_; intro A9 c9)
        | (refine gcall rfl rfl ?_; refine j_nat (f := 34) rfl rfl rfl rfl rfl rfl rfl (fun w' _ => of_c 5000 w' (by omega)) ?_; intro A10 c10)
        | (refine gcall rfl rfl ?_; refine j_nat2 (f := 33) rfl rfl rfl rfl rfl rfl rfl (fun w' hs => pow_c A10 c10 5000 n w' (by omega) (by omega) (sl_of_own hs (by (repeat (first | exact InL.here | apply InL.there))) rfl rfl)) ?_; intro A11 c11)
        | (refine gcall rfl rfl ?_; refine j_nat2 (f := 35) rfl rfl rfl rfl rfl rfl rfl (fun w' hs => mul_c A9 c9 (ch n k) A11 c11 (5000 ^ n) w' (by omega) (sl_of_own hs (by (repeat (first | exact InL.here | apply InL.there))) rfl rfl) (sl_of_own hs (by (repeat (first | exact InL.here | apply InL.there))) rfl rfl)) ?_; intro A12 c12)
        | refine j_store rfl rfl rfl rfl rfl rfl rfl rfl (by (repeat (first | exact Upd.here | apply Upd.there))) (by rfl) ?_
        | (refine j_alloc rfl rfl rfl rfl rfl ?_; intro b)
        | (refine j_box rfl rfl rfl rfl rfl ?_; intro b)
        | (refine j_qe rfl rfl rfl ?_
           first
           | refine ⟨_, q_pick_t rfl rfl rfl, ?_⟩
           | refine ⟨_, q_pick_f rfl rfl rfl, ?_⟩
           | refine ⟨_, q_not rfl rfl, ?_⟩
           | refine ⟨_, q_index_nat rfl rfl rfl rfl rfl (by omega), ?_⟩
           | refine ⟨_, q_index_slice rfl rfl rfl rfl rfl (by omega), ?_⟩
           | refine ⟨_, q_index_arr rfl rfl rfl rfl rfl (by omega), ?_⟩
           | refine ⟨_, q_index_arr_ext rfl rfl rfl rfl rfl (by omega), ?_⟩
           | refine ⟨_, q_len_slice rfl rfl rfl rfl, ?_⟩
           | refine ⟨_, q_makeFunc rfl rfl, ?_⟩
           | refine ⟨_, q_build_struct rfl rfl rfl rfl rfl, ?_⟩
           | refine ⟨_, q_build_arr rfl rfl rfl rfl rfl, ?_⟩
           | refine ⟨_, q_nilCheck rfl rfl, ?_⟩
           | refine ⟨_, q_field_ext rfl rfl rfl rfl rfl, ?_⟩
           | refine ⟨_, q_quo rfl rfl rfl (by omega), ?_⟩
           | refine ⟨_, q_rem rfl rfl rfl (by omega), ?_⟩
           | refine ⟨_, q_quot rfl rfl rfl (by omega), ?_⟩
           | refine ⟨_, q_remt rfl rfl rfl (by omega), ?_⟩
           | refine ⟨_, q_addu8 rfl rfl rfl (by omega), ?_⟩
           | refine ⟨_, q_quou8 rfl rfl rfl (by omega), ?_⟩
           | refine ⟨_, q_shr1 rfl rfl rfl, ?_⟩
           | refine ⟨_, q_shr rfl rfl rfl ⟨by omega, by decide⟩, ?_⟩
           | refine ⟨_, q_shr rfl rfl rfl ⟨by omega, by show Int.toNat _ ≤ (8:Nat); omega⟩, ?_⟩
           | refine ⟨_, q_and1 rfl rfl rfl (by first | assumption | omega), ?_⟩
           | refine ⟨_, q_conv rfl rfl rfl rfl rfl rfl (by first | rfl | (exact i64_wrap (by omega) (by omega)) | (exact u8_wrap (by omega) (by omega)) | (exact u64_wrap (by omega) (by omega)) | (exact u16_wrap (by omega) (by omega))), ?_⟩)
        | refine j_guard_undef rfl rfl rfl rfl rfl ?_
        | (refine j_guard rfl rfl rfl rfl rfl ?_ ?_ <;> intro hc <;> (first | (exact absurd hc (by decide)) | ((try simp only [decide_eq_true_eq, decide_eq_false_iff_not, Bool.not_eq_true', Bool.not_eq_false', Bool.not_true, Bool.not_false, ne_eq, Decidable.not_not] at hc) <;> first | (exfalso; omega) | (exact absurd trivial hc) | skip)))
        | (refine j_buildSlice rfl rfl rfl rfl rfl rfl rfl rfl rfl rfl rfl rfl ?_; intro b)
        | (refine j_append rfl rfl rfl rfl rfl rfl rfl rfl rfl rfl rfl (by (repeat (first | exact InL.here | apply InL.there))) (by (repeat (first | exact InL.here | apply InL.there))) (by rfl) (by rfl) (by omega) (fun _ => by (repeat (first | exact Upd.here | apply Upd.there))) ?_; intro v))
     | (refine gSC ?_
        first
        | refine sc_seq ?_
        | refine sc_region ?_
        | (refine sc_cond rfl ?_ ?_ <;> intro hc <;> (first | (exact absurd hc (by decide)) | ((try simp only [decide_eq_true_eq, decide_eq_false_iff_not, Bool.not_eq_true', Bool.not_eq_false', Bool.not_true, Bool.not_false, ne_eq, Decidable.not_not] at hc) <;> first | (exfalso; omega) | (exact absurd trivial hc) | skip)))
        | refine sc_block ?_
        | refine sc_ret ?_
        | refine sc_exit ?_
        | refine sc_skip ?_
        | refine sc_draw rfl mixed (by kernel_rfl) ?_)
     | (refine gSQ ?_
        first
        | refine sq_seq ?_
        | refine sq_blk ?_
        | refine sq_seq_ret ?_
        | refine sq_blk_ret ?_
        | refine sq_loop_ret ?_
        | refine sq_seq_exit ?_
        | refine sq_blk_hit ?_
        | refine sq_blk_miss rfl ?_
        | refine sq_loop_exit ?_
        | refine sq_ende (.inl rfl) rfl rfl ⟨_, (RVs.cons (RV.tmp rfl) (RVs.nil)), ?_⟩
        | refine sq_ende (.inr rfl) rfl rfl ⟨_, (RVs.cons (RV.tmp rfl) (RVs.nil)), ?_⟩)
     | refine j_nil ?_
     )
    all_goals (intro w' hS; refine ⟨?_, hS.below⟩; simp only [pack])
  · refine eng_start (n := 141) (args := [.int .i64 t, .int .i64 k0, .int .i64 s]) tab tab_ok fns fns_ok [.tmp 6] Try.func8 rfl rfl rfl rfl ?_
    repeat' (first
     | (refine gJ ?_
        first
        | refine jmv rfl rfl rfl rfl rfl ?_
        | (refine gload rfl rfl ?_
           refine j_qe rfl rfl rfl ?_
           first
           | refine ⟨_, q_load_own rfl rfl rfl rfl (by (repeat (first | exact InL.here | apply InL.there))) (by first | rfl | assumption), ?_⟩
           | refine ⟨_, q_loadA_own rfl rfl rfl rfl (by (repeat (first | exact InL.here | apply InL.there))) (by rfl), ?_⟩
           | refine ⟨_, q_loadA_ext rfl rfl rfl rfl ⟨by assumption, (by first | exact id | assumption)⟩ (by rfl), ?_⟩
           | refine ⟨_, q_load_ext rfl rfl rfl rfl ⟨by assumption, (by first | exact id | assumption)⟩ (by first | rfl | assumption), ?_⟩
           | refine ⟨_, q_load_extb rfl rfl rfl rfl ⟨by assumption, (by first | exact id | assumption)⟩ (by rfl), ?_⟩
           | refine ⟨_, q_loadA_extb rfl rfl rfl rfl ⟨by assumption, (by first | exact id | assumption)⟩ (by rfl), ?_⟩
           | refine ⟨_, q_load_ext0 rfl rfl rfl rfl ⟨by assumption, (by first | exact id | assumption)⟩ (by rfl), ?_⟩)
        | refine jfield rfl rfl rfl rfl rfl rfl rfl rfl ?_
        | refine jcmp rfl rfl rfl rfl rfl rfl rfl ?_
        | refine jar rfl rfl rfl rfl rfl rfl rfl (by omega) ?_
        | refine jextract rfl rfl rfl rfl rfl rfl ?_
        | (refine gcall rfl rfl ?_
           first
           | (refine j_qc (f := 14) rfl rfl rfl rfl rfl rfl rfl ?_; refine ⟨_, (fun w' _ => awake_c w'), ?_⟩)
           | (refine j_qc (f := 27) rfl rfl rfl rfl rfl rfl rfl ?_; refine ⟨_, (fun w' _ => trials_c t k0 200 n k w' ht hk0 (by omega) en ek), ?_⟩)
           | (refine j_qc (f := 20) rfl rfl rfl rfl rfl rfl rfl ?_; refine ⟨_, (fun w' _ => share_c s p w' hs ep), ?_⟩)
           | (refine j_qc (f := 30) rfl rfl rfl rfl rfl rfl rfl ?_; refine ⟨_, (fun w' hs => hsame A5 c5 A7 c7 (10000 ^ n) w' cW (sl_of_own hs (by (repeat (first | exact InL.here | apply InL.there))) rfl rfl) (sl_of_own hs (by (repeat (first | exact InL.here | apply InL.there))) rfl rfl)), ?_⟩)
           | (refine j_qc (f := 30) rfl rfl rfl rfl rfl rfl rfl ?_; refine ⟨_, (fun w' hs => hsame A6 c6 A1 c1 (up p (10000 - p) n k) w' cU (sl_of_own hs (by (repeat (first | exact InL.here | apply InL.there))) rfl rfl) (sl_of_own hs (by (repeat (first | exact InL.here | apply InL.there))) rfl rfl)), ?_⟩)
           | (refine j_qc (f := 30) rfl rfl rfl rfl rfl rfl rfl ?_; refine ⟨_, (fun w' hs => hsame A8 c8 A12 c12 (ch n k * 5000 ^ n) w' cH (sl_of_own hs (by (repeat (first | exact InL.here | apply InL.there))) rfl rfl) (sl_of_own hs (by (repeat (first | exact InL.here | apply InL.there))) rfl rfl)), ?_⟩))
        | (refine gcall rfl rfl ?_; refine j_nat2 (f := 28) rfl rfl rfl rfl rfl rfl rfl (fun w' _ => upper_c n k p w' hk (by omega) (by omega)) ?_; intro A1 c1)
        | (refine gcall rfl rfl ?_; refine j_nat2 (f := 22) rfl rfl rfl rfl rfl rfl rfl (fun w' _ => chance_c n k p w' hk (by omega) (by omega)) ?_; intro A2 c2)
        | (refine j_build0 rfl rfl rfl rfl rfl rfl ?_; intro b1)
        | (refine gcall rfl rfl ?_; refine j_nat2 (f := 29) rfl rfl rfl rfl rfl rfl rfl (fun w' _ => hlo2 (by omega) w') ?_; intro A4 c4)
        | (refine gcall rfl rfl ?_; refine j_nat2 (f := 25) rfl rfl rfl rfl rfl rfl rfl (fun w' hs => hadd1 (by omega) A1 c1 A4 c4 w' (sl_of_own hs (by (repeat (first | exact InL.here | apply InL.there))) rfl rfl) (sl_of_own hs (by (repeat (first | exact InL.here | apply InL.there))) rfl rfl)) ?_; intro A5 c5)
        | (refine gcall rfl rfl ?_; refine j_nat2 (f := 25) rfl rfl rfl rfl rfl rfl rfl (fun w' hs => hadd2z (by omega) _ _ A2 c2 w' (sl_of_own hs (by (repeat (first | exact InL.here | apply InL.there))) rfl rfl) (sl_of_own hs (by (repeat (first | exact InL.here | apply InL.there))) rfl rfl)) ?_; intro A6 c6)
        | (refine gcall rfl rfl ?_; refine j_nat (f := 31) rfl rfl rfl rfl rfl rfl rfl (fun w' _ => all_c n w' (by omega)) ?_; intro A7 c7)
        | (refine gcall rfl rfl ?_; refine j_nat2 (f := 22) rfl rfl rfl rfl rfl rfl rfl (fun w' _ => hhalf w') ?_; intro A8 c8)
        | (refine gcall rfl rfl ?_; refine j_nat2 (f := 32) rfl rfl rfl rfl rfl rfl rfl (fun w' _ => choose_c n k w' hk (by omega)) ?_; intro A9 c9)
        | (refine gcall rfl rfl ?_; refine j_nat (f := 34) rfl rfl rfl rfl rfl rfl rfl (fun w' _ => of_c 5000 w' (by omega)) ?_; intro A10 c10)
        | (refine gcall rfl rfl ?_; refine j_nat2 (f := 33) rfl rfl rfl rfl rfl rfl rfl (fun w' hs => pow_c A10 c10 5000 n w' (by omega) (by omega) (sl_of_own hs (by (repeat (first | exact InL.here | apply InL.there))) rfl rfl)) ?_; intro A11 c11)
        | (refine gcall rfl rfl ?_; refine j_nat2 (f := 35) rfl rfl rfl rfl rfl rfl rfl (fun w' hs => mul_c A9 c9 (ch n k) A11 c11 (5000 ^ n) w' (by omega) (sl_of_own hs (by (repeat (first | exact InL.here | apply InL.there))) rfl rfl) (sl_of_own hs (by (repeat (first | exact InL.here | apply InL.there))) rfl rfl)) ?_; intro A12 c12)
        | refine j_store rfl rfl rfl rfl rfl rfl rfl rfl (by (repeat (first | exact Upd.here | apply Upd.there))) (by rfl) ?_
        | (refine j_alloc rfl rfl rfl rfl rfl ?_; intro b)
        | (refine j_box rfl rfl rfl rfl rfl ?_; intro b)
        | (refine j_qe rfl rfl rfl ?_
           first
           | refine ⟨_, q_pick_t rfl rfl rfl, ?_⟩
           | refine ⟨_, q_pick_f rfl rfl rfl, ?_⟩
           | refine ⟨_, q_not rfl rfl, ?_⟩
           | refine ⟨_, q_index_nat rfl rfl rfl rfl rfl (by omega), ?_⟩
           | refine ⟨_, q_index_slice rfl rfl rfl rfl rfl (by omega), ?_⟩
           | refine ⟨_, q_index_arr rfl rfl rfl rfl rfl (by omega), ?_⟩
           | refine ⟨_, q_index_arr_ext rfl rfl rfl rfl rfl (by omega), ?_⟩
           | refine ⟨_, q_len_slice rfl rfl rfl rfl, ?_⟩
           | refine ⟨_, q_makeFunc rfl rfl, ?_⟩
           | refine ⟨_, q_build_struct rfl rfl rfl rfl rfl, ?_⟩
           | refine ⟨_, q_build_arr rfl rfl rfl rfl rfl, ?_⟩
           | refine ⟨_, q_nilCheck rfl rfl, ?_⟩
           | refine ⟨_, q_field_ext rfl rfl rfl rfl rfl, ?_⟩
           | refine ⟨_, q_quo rfl rfl rfl (by omega), ?_⟩
           | refine ⟨_, q_rem rfl rfl rfl (by omega), ?_⟩
           | refine ⟨_, q_quot rfl rfl rfl (by omega), ?_⟩
           | refine ⟨_, q_remt rfl rfl rfl (by omega), ?_⟩
           | refine ⟨_, q_addu8 rfl rfl rfl (by omega), ?_⟩
           | refine ⟨_, q_quou8 rfl rfl rfl (by omega), ?_⟩
           | refine ⟨_, q_shr1 rfl rfl rfl, ?_⟩
           | refine ⟨_, q_shr rfl rfl rfl ⟨by omega, by decide⟩, ?_⟩
           | refine ⟨_, q_shr rfl rfl rfl ⟨by omega, by show Int.toNat _ ≤ (8:Nat); omega⟩, ?_⟩
           | refine ⟨_, q_and1 rfl rfl rfl (by first | assumption | omega), ?_⟩
           | refine ⟨_, q_conv rfl rfl rfl rfl rfl rfl (by first | rfl | (exact i64_wrap (by omega) (by omega)) | (exact u8_wrap (by omega) (by omega)) | (exact u64_wrap (by omega) (by omega)) | (exact u16_wrap (by omega) (by omega))), ?_⟩)
        | refine j_guard_undef rfl rfl rfl rfl rfl ?_
        | (refine j_guard rfl rfl rfl rfl rfl ?_ ?_ <;> intro hc <;> (first | (exact absurd hc (by decide)) | ((try simp only [decide_eq_true_eq, decide_eq_false_iff_not, Bool.not_eq_true', Bool.not_eq_false', Bool.not_true, Bool.not_false, ne_eq, Decidable.not_not] at hc) <;> first | (exfalso; omega) | (exact absurd trivial hc) | skip)))
        | (refine j_buildSlice rfl rfl rfl rfl rfl rfl rfl rfl rfl rfl rfl rfl ?_; intro b)
        | (refine j_append rfl rfl rfl rfl rfl rfl rfl rfl rfl rfl rfl (by (repeat (first | exact InL.here | apply InL.there))) (by (repeat (first | exact InL.here | apply InL.there))) (by rfl) (by rfl) (by omega) (fun _ => by (repeat (first | exact Upd.here | apply Upd.there))) ?_; intro v))
     | (refine gSC ?_
        first
        | refine sc_seq ?_
        | refine sc_region ?_
        | (refine sc_cond rfl ?_ ?_ <;> intro hc <;> (first | (exact absurd hc (by decide)) | ((try simp only [decide_eq_true_eq, decide_eq_false_iff_not, Bool.not_eq_true', Bool.not_eq_false', Bool.not_true, Bool.not_false, ne_eq, Decidable.not_not] at hc) <;> first | (exfalso; omega) | (exact absurd trivial hc) | skip)))
        | refine sc_block ?_
        | refine sc_ret ?_
        | refine sc_exit ?_
        | refine sc_skip ?_
        | refine sc_draw rfl mixed (by kernel_rfl) ?_)
     | (refine gSQ ?_
        first
        | refine sq_seq ?_
        | refine sq_blk ?_
        | refine sq_seq_ret ?_
        | refine sq_blk_ret ?_
        | refine sq_loop_ret ?_
        | refine sq_seq_exit ?_
        | refine sq_blk_hit ?_
        | refine sq_blk_miss rfl ?_
        | refine sq_loop_exit ?_
        | refine sq_ende (.inl rfl) rfl rfl ⟨_, (RVs.cons (RV.tmp rfl) (RVs.nil)), ?_⟩
        | refine sq_ende (.inr rfl) rfl rfl ⟨_, (RVs.cons (RV.tmp rfl) (RVs.nil)), ?_⟩)
     | refine j_nil ?_
     )
    all_goals (intro w' hS; refine ⟨?_, hS.below⟩; simp only [pack])
end Go.Proofs.Ytmlgheoliaplgaa
