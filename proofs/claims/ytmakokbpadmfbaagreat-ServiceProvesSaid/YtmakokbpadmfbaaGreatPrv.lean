/-
  ServiceProves.
-/
import Derived.Test.YtmakokbpadmfbaaGreatNl3
import Derived.Test.YtmakokbpadmfbaaGreatEngCoreB
namespace Go.Proofs.YtmakokbpadmfbaaGreat
open Go.RowKit Eng
set_option linter.unusedVariables false
set_option linter.unusedSimpArgs false
set_option maxHeartbeats 8000000
attribute [local irreducible] SC SQ J Qt Calls Iterates LSub FSub
set_option exponentiation.threshold 600
theorem exceeds1_c (a1 a2 : Addr) (A : Option Addr) (cc c n risk : Nat) (ri : Int) (w : World) (hri : ri = risk) (hc : c ≤ 10000 ^ 500) (hn : n ≤ 500) (hr : risk ≤ 10000) (h1 : Ext w a1 [.int .i64 n]) (h2 : Ext w a2 [.int .i64 ri]) (hA : SL w A cc (limbs c)) :
    Calls Tryz.prog 25 #[.slice A (limbs c).length cc, .pointer (some a1), .pointer (some a2)] w fun e w' => e = .returned (.bool (excB c n risk)) ∧ Below w.heap.size w w' := by
  subst hri
  have g1 : c * 10000 ≤ cap := Nat.le_trans (Nat.mul_le_mul_right _ hc) (by unfold cap; decide +kernel)
  have g2 : 10000 ^ n * risk ≤ cap := by
    rw [Nat.mul_comm]
    exact Nat.le_trans (Nat.mul_le_mul hr (Nat.le_refl _)) (by rw [Nat.mul_comm, ← Nat.pow_succ]; exact pow_cap (Nat.le_refl _) (by omega))
  have g3 : c ≤ cap := by omega
  have g4 : 10000 ^ n ≤ cap := pow_cap (Nat.le_refl _) (by omega)
  have l1 := cap_len g1
  have l2 := cap_len g2
  have l3 := cap_len g3
  have l4 := cap_len g4
  have l5 := cap_len (small_cap (a := 10000) (by omega))
  have l6 := cap_len (small_cap (a := risk) (by omega))
  have hb : decide (0 < sgn (c * 10000 : Nat) (10000 ^ n * risk : Nat)) = excB c n risk := by unfold excB; rw [decide_eq_decide, Nat.mul_comm (10000 ^ n) risk]; exact sgn_pos _ _
  have hcv : (risk : Int) % 18446744073709551616 = risk := by omega
  refine eng_start (n := 45) (args := [.slice A (limbs c).length cc, .pointer (some a1), .pointer (some a2)]) tab tab_ok fns fns_ok [.tmp 4] Tryz.func25 rfl rfl rfl rfl ?_
  repeat' (first | (refine gJ ?_; first | refine js rfl rfl rfl rfl ?_ | (refine gload rfl rfl ?_; refine j_qe rfl rfl rfl ?_; refine ⟨_, q_load_ext0 rfl rfl rfl rfl ⟨by assumption, (by first | exact id | assumption)⟩ (by rfl), ?_⟩) | (refine gcall rfl rfl ?_; (refine j_qc (f := 29) rfl rfl rfl rfl rfl rfl rfl ?_; refine ⟨_, (fun w' hs => cmp_c A4 c4 (c * 10000) A6 c6 (10000 ^ n * risk) w' (by omega) (by omega) (sl_of_own hs (by (repeat constructor)) rfl rfl) (sl_of_own hs (by (repeat constructor)) rfl rfl)), ?_⟩)) | (refine gcall rfl rfl ?_; refine gF ?_; refine j_nat (f := 27) rfl rfl rfl rfl rfl rfl rfl (fun w' hs => of_c 10000 w' (by omega)) ?_; intro A2 c2) | (refine gcall rfl rfl ?_; refine gF ?_; refine j_nat2 (f := 26) rfl rfl rfl rfl rfl rfl rfl (fun w' hs => pow_c A2 c2 10000 n w' (by omega) hn (sl_of_own hs (by (repeat constructor)) rfl rfl)) ?_; intro A3 c3) | (refine gcall rfl rfl ?_; refine gF ?_; refine j_nat2 (f := 28) rfl rfl rfl rfl rfl rfl rfl (fun w' hs => mul_c A cc c A2 c2 10000 w' (by omega) (hA.st hs) (sl_of_own hs (by (repeat constructor)) rfl rfl)) ?_; intro A4 c4) | (refine gcall rfl rfl ?_; refine gF ?_; refine j_nat (f := 27) rfl rfl rfl rfl rfl rfl rfl (fun w' hs => of_c risk w' (by omega)) ?_; intro A5 c5) | (refine gcall rfl rfl ?_; refine gF ?_; refine j_nat2 (f := 28) rfl rfl rfl rfl rfl rfl rfl (fun w' hs => mul_c A3 c3 (10000 ^ n) A5 c5 risk w' (by omega) (sl_of_own hs (by (repeat constructor)) rfl rfl) (sl_of_own hs (by (repeat constructor)) rfl rfl)) ?_; intro A6 c6) | (refine j_qe rfl rfl rfl ?_; refine ⟨_, q_conv rfl rfl rfl rfl rfl rfl (by first | rfl | (exact i64_wrap (by omega) (by omega)) | (exact u8_wrap (by omega) (by omega)) | (exact u64_wrap (by omega) (by omega)) | (exact u16_wrap (by omega) (by omega))), ?_⟩)) | (refine gSC ?_; first | refine sc_mv rfl ?_ | refine sc_q rfl ?_ | refine sc_region ?_ | refine sc_auto 1 (.q 1 (.e 0 (.e 2 (.q 3 (.q 4 (.q 5 (.q 6 (.q 7 (.z))))))))) mixed ?_) | (refine gJG ?_; first | refine jg_q rfl (by kernel_rfl) ?_ | refine jg_e (by kernel_rfl) rfl ?_ | refine jg_done (by kernel_rfl) ?_) | (refine gSQ ?_; first | refine jg_next ?_ | (refine gFE ?_; refine jg_next1 ?_) | refine sq_go rfl ?_ | refine sq_ende (by first | exact .inl rfl | exact .inr rfl) rfl rfl ⟨_, (RVs.cons (RV.tmp rfl) (RVs.nil)), ?_⟩) | refine j_nil ?_ | ((refine j_guard rfl rfl rfl rfl rfl ?_ ?_) <;> intro hc <;> (first | exact absurd hc (by decide) | ((try simp only [engHC] at hc) <;> skip))))
  all_goals ((intro w' hS; refine ⟨?_, hS.below⟩; simp only [pack]); exact rb hb)
theorem pos_lt {n k r p : Nat} (hk : k ≤ n) (hr : r < 10000) (hp : p ≤ 10000) : posB n k r p = false ↔ p < lowF n k r := by
  constructor
  · intro h
    rcases Nat.lt_or_ge p (lowF n k r) with h1 | h1
    · exact h1
    · have := posB_mono n k r _ p h1 hp (lowF_pos hk hr)
      rw [h] at this
      cases this
  · exact lowF_neg
set_option maxHeartbeats 8000000 in
theorem Proves_c (t k0 r0 q : Int) (w : World) (ht : inI t) (hk0 : inI k0) (hr : inI r0) (hq : inI q) :
    Calls Tryz.prog 7 #[.int .i64 t, .int .i64 k0, .int .i64 r0, .int .i64 q] w fun e w' => e = .returned (.bool true) ∧ Below w.heap.size w w' := by
  have hp1 := fun w' => pick_c t 61 w' ht (by omega)
  obtain ⟨n, hn⟩ : ∃ n : Nat, t % 61 = n := ⟨(t % 61).toNat, by omega⟩
  rw [hn] at hp1
  have hn1 : n ≤ 60 := by omega
  have hp2 := fun w' => pick_c k0 ((n : Int) + 1) w' hk0 (by omega)
  have hk2 : 0 ≤ k0 % ((n : Int) + 1) ∧ k0 % ((n : Int) + 1) < (n : Int) + 1 := ⟨Int.emod_nonneg _ (by omega), Int.emod_lt_of_pos _ (by omega)⟩
  obtain ⟨k, hk⟩ : ∃ k : Nat, k0 % ((n : Int) + 1) = k := ⟨(k0 % ((n : Int) + 1)).toNat, by omega⟩
  rw [hk] at hp2
  have hk1 : k ≤ n := by omega
  have hp3 := fun w' => pick_c r0 2000 w' hr (by omega)
  obtain ⟨r, hr1⟩ : ∃ r : Nat, (r : Int) = 1 + r0 % 2000 := ⟨(1 + r0 % 2000).toNat, by omega⟩
  obtain ⟨z, hz⟩ : ∃ z, z = r0 % 2000 := ⟨_, rfl⟩
  rw [← hz] at hp3 hr1
  have hz2 : 1 + z = r := hr1.symm
  have hr2 : 1 ≤ r ∧ r ≤ 2000 := by omega
  have hp4 := fun w' => pick_c q 10001 w' hq (by omega)
  obtain ⟨p, hp⟩ : ∃ p : Nat, q % 10001 = p := ⟨(q % 10001).toNat, by omega⟩
  rw [hp] at hp4
  have hp5 : p ≤ 10000 := by omega
  have hle := fun w' => least_c n k r w' hk1 (by omega) hr2
  have hgr := fun w' => greatest_c n k r w' hk1 (by omega) hr2
  rw [hr1] at hle hgr
  have hL := lowF_le n k r
  have hR := lowF_le n (n - k) r
  have hup : 0 < p → ∀ w', Calls Tryz.prog 30 #[.int .i64 n, .int .i64 k, .int .i64 ((p : Int) - 1)] w' fun e w'' => ∃ v : Value, True ∧ e = .returned (.tuple #[v, .int .i64 0]) ∧ St w' Cold [haN v (up (p - 1) (10000 - (p - 1)) n k)] w'' := fun hL0 w' => by
    have h := upper_c n k (p - 1) w' hk1 (by omega) (by omega)
    rw [show ((p - 1 : Nat) : Int) = (p : Int) - 1 by omega] at h
    exact h
  have hlo := fun w' => lower_c n k p w' hk1 (by omega) hp5
  have hc1 : up (p - 1) (10000 - (p - 1)) n k ≤ 10000 ^ 500 := up_cap (by omega) (by omega)
  have hc2 : low p (10000 - p) n k ≤ 10000 ^ 500 := low_cap hp5 (by omega)
  have e1 : 0 < p → excB (up (p - 1) (10000 - (p - 1)) n k) n r = !decide (p ≤ lowF n k r) := fun h0 => by
    have := pos_lt (p := p - 1) hk1 (show r < 10000 by omega) (by omega)
    unfold posB at this
    by_cases h : p ≤ lowF n k r
    · rw [this.2 (by omega)]
      simp [h]
    · cases hx : excB (up (p - 1) (10000 - (p - 1)) n k) n r with
      | true => simp [h]
      | false => have := this.1 hx; omega
  have e2 : excB (low p (10000 - p) n k) n r = !decide (10000 - (lowF n (n - k) r : Int) < p) := by
    rw [low_turn hk1]
    have := pos_lt (n := n) (k := n - k) (p := 10000 - p) (by omega) (show r < 10000 by omega) (by omega)
    unfold posB at this
    rw [show 10000 - (10000 - p) = p by omega] at this
    by_cases h : 10000 - (lowF n (n - k) r : Int) < p
    · rw [this.2 (by omega)]
      simp [h]
    · cases hx : excB (up (10000 - p) p n (n - k)) n r with
      | true => simp [h]
      | false => have := this.1 hx; omega
  generalize lowF n k r = L at *
  generalize lowF n (n - k) r = R at *
  generalize up (p - 1) (10000 - (p - 1)) n k = U at *
  generalize low p (10000 - p) n k = D at *
  have hV := fun w' => Verdict_c (⟨0, 0, 0, n, k, 0, 0, L, (10000 : Int) - R⟩ : Rw) p w'
  obtain ⟨v, hv⟩ : ∃ v, (verF (⟨0, 0, 0, n, k, 0, 0, L, (10000 : Int) - R⟩ : Rw) p) = (v, 0) ∧ (v = 1 ↔ p ≤ L) ∧ (¬ p ≤ L → (v = 2 ↔ 10000 - (R : Int) < p)) := by
    unfold verF
    rw [if_pos (by omega)]
    dsimp only
    split
    · exact ⟨1, rfl, by omega, by omega⟩
    · split
      · exact ⟨2, rfl, by omega, by omega⟩
      · exact ⟨3, rfl, by omega, by omega⟩
  rw [hv.1] at hV
  obtain ⟨_, v1, v2⟩ := hv
  obtain ⟨b1, hb1⟩ : ∃ b1, decide (p ≤ L) = b1 := ⟨_, rfl⟩
  obtain ⟨b2, hb2⟩ : ∃ b2, decide (10000 - (R : Int) < p) = b2 := ⟨_, rfl⟩
  rw [hb1] at e1
  rw [hb2] at e2
  have u1 : b1 = true ↔ p ≤ L := by rw [← hb1]; exact decide_eq_true_iff
  have u2 : b2 = true ↔ 10000 - (R : Int) < p := by rw [← hb2]; exact decide_eq_true_iff
  have d1 : decide (v = 1) = b1 := by rw [← hb1]; exact decide_eq_decide.2 v1
  have d2 : b1 = false → decide (v = 2) = b2 := fun h => by rw [← hb2]; exact decide_eq_decide.2 (v2 fun h2 => by have := u1.2 h2; rw [h] at this; cases this)
  clear hb1 hb2
  cases b1 <;> cases b2 <;> simp only [Bool.not_false, Bool.not_true, Bool.false_eq_true, true_iff, false_iff] at e1 e2 u1 u2
  · refine eng_start (n := 113) (args := [.int .i64 t, .int .i64 k0, .int .i64 r0, .int .i64 q]) tab tab_ok fns fns_ok [.tmp 8] Tryz.func7 rfl rfl rfl rfl ?_
    repeat' (first | (refine gJ ?_; first | refine js rfl rfl rfl rfl ?_ | (refine gload rfl rfl ?_; refine j_qe rfl rfl rfl ?_; refine ⟨_, q_load_own rfl rfl rfl rfl (by (repeat constructor)) (by first | rfl | assumption), ?_⟩) | refine jar rfl rfl rfl rfl rfl rfl rfl (by omega) ?_ | (refine gcall rfl rfl ?_; first | (refine j_qc (f := 13) rfl rfl rfl rfl rfl rfl rfl ?_; refine ⟨_, (fun w' _ => awake_c w'), ?_⟩) | (refine j_qc (f := 16) rfl rfl rfl rfl rfl rfl rfl ?_; refine ⟨_, (fun w' _ => hp1 w'), ?_⟩) | (refine j_qc (f := 16) rfl rfl rfl rfl rfl rfl rfl ?_; refine ⟨_, (fun w' _ => hp2 w'), ?_⟩) | (refine j_qc (f := 16) rfl rfl rfl rfl rfl rfl rfl ?_; refine ⟨_, (fun w' _ => hp3 w'), ?_⟩) | (refine j_qc (f := 16) rfl rfl rfl rfl rfl rfl rfl ?_; refine ⟨_, (fun w' _ => hp4 w'), ?_⟩) | (refine j_qc (f := 19) rfl rfl rfl rfl rfl rfl rfl ?_; refine ⟨_, (fun w' _ => hle w'), ?_⟩) | (refine j_qc (f := 20) rfl rfl rfl rfl rfl rfl rfl ?_; refine ⟨_, (fun w' _ => hgr w'), ?_⟩) | (refine j_qc (f := 23) rfl rfl rfl rfl rfl rfl rfl ?_; refine ⟨_, (fun w' _ => hV w'), ?_⟩)) | (refine j_qe rfl rfl rfl ?_; refine ⟨_, q_eqlb rfl Tryz.underlying4 rfl rfl, ?_⟩) | (refine gcall rfl rfl ?_; refine gF ?_; refine j_nat2 (f := 30) rfl rfl rfl rfl rfl rfl rfl (fun w' hs => hup (by omega) w') ?_; intro A2 c2) | (refine gcall rfl rfl ?_; refine gF ?_; refine j_nat2 (f := 31) rfl rfl rfl rfl rfl rfl rfl (fun w' hs => hlo w') ?_; intro A3 c3) | (refine gcall rfl rfl ?_; refine j_qc (f := 25) rfl rfl rfl rfl rfl rfl rfl ?_; refine ⟨_, (fun w' hs => e1 (by omega) ▸ exceeds1_c _ _ A2 c2 U n r _ w' hz2 hc1 (by omega) (by omega) (hs.ext (by (repeat constructor))) (hs.ext (by (repeat constructor))) (sl_of_own hs (by (repeat constructor)) rfl rfl)), ?_⟩) | (refine gcall rfl rfl ?_; refine j_qc (f := 25) rfl rfl rfl rfl rfl rfl rfl ?_; refine ⟨_, (fun w' hs => e2 ▸ exceeds1_c _ _ A3 c3 D n r _ w' hz2 hc2 (by omega) (by omega) (hs.ext (by (repeat constructor))) (hs.ext (by (repeat constructor))) (sl_of_own hs (by (repeat constructor)) rfl rfl)), ?_⟩) | (refine gF ?_; first | refine j_store rfl rfl rfl rfl rfl rfl rfl rfl (by (repeat constructor)) (by rfl) ?_ | (refine j_alloc rfl rfl rfl rfl rfl ?_; intro b) | (refine j_box rfl rfl rfl rfl rfl ?_; intro b)) | (refine j_qe rfl rfl rfl ?_; first | refine ⟨_, q_makeFunc rfl rfl, ?_⟩ | refine ⟨_, q_build_struct rfl rfl rfl rfl rfl, ?_⟩) | refine j_guard_undef rfl rfl rfl rfl rfl ?_) | (refine gSC ?_; first | refine sc_mv rfl ?_ | refine sc_q rfl ?_ | refine sc_region ?_) | (refine gSQ ?_; first | refine sq_go rfl ?_ | refine sq_ende (by first | exact .inl rfl | exact .inr rfl) rfl rfl ⟨_, (RVs.cons (RV.tmp rfl) (RVs.nil)), ?_⟩) | refine j_nil ?_ | ((first | refine j_guard rfl rfl rfl rfl rfl ?_ ?_ | refine sc_cond rfl ?_ ?_) <;> intro hc <;> (first | exact absurd hc (by decide) | ((try simp only [engHC] at hc) <;> first | (exfalso; omega) | skip))))
    all_goals
      (intro w' hS; refine ⟨?_, hS.below⟩; simp only [pack])
      first
        | done
        | exact rb rfl
        | exact rb (by rw [d2 rfl]; rfl)
        | exact rb (by rw [d1]; rfl)
        | exact absurd ‹(_ == decide (v = 1)) = false› (by rw [d1]; decide)
        | exact absurd ‹(_ == decide (v = 1)) = true› (by rw [d1]; decide)
        | exact absurd ‹(_ == decide (v = 1)) = false› (by rw [d1]; simp; omega)
        | exact rb (by rw [d1]; simp; omega)
        | (exfalso; omega)
  · refine eng_start (n := 113) (args := [.int .i64 t, .int .i64 k0, .int .i64 r0, .int .i64 q]) tab tab_ok fns fns_ok [.tmp 8] Tryz.func7 rfl rfl rfl rfl ?_
    repeat' (first | (refine gJ ?_; first | refine js rfl rfl rfl rfl ?_ | (refine gload rfl rfl ?_; refine j_qe rfl rfl rfl ?_; refine ⟨_, q_load_own rfl rfl rfl rfl (by (repeat constructor)) (by first | rfl | assumption), ?_⟩) | refine jar rfl rfl rfl rfl rfl rfl rfl (by omega) ?_ | (refine gcall rfl rfl ?_; first | (refine j_qc (f := 13) rfl rfl rfl rfl rfl rfl rfl ?_; refine ⟨_, (fun w' _ => awake_c w'), ?_⟩) | (refine j_qc (f := 16) rfl rfl rfl rfl rfl rfl rfl ?_; refine ⟨_, (fun w' _ => hp1 w'), ?_⟩) | (refine j_qc (f := 16) rfl rfl rfl rfl rfl rfl rfl ?_; refine ⟨_, (fun w' _ => hp2 w'), ?_⟩) | (refine j_qc (f := 16) rfl rfl rfl rfl rfl rfl rfl ?_; refine ⟨_, (fun w' _ => hp3 w'), ?_⟩) | (refine j_qc (f := 16) rfl rfl rfl rfl rfl rfl rfl ?_; refine ⟨_, (fun w' _ => hp4 w'), ?_⟩) | (refine j_qc (f := 19) rfl rfl rfl rfl rfl rfl rfl ?_; refine ⟨_, (fun w' _ => hle w'), ?_⟩) | (refine j_qc (f := 20) rfl rfl rfl rfl rfl rfl rfl ?_; refine ⟨_, (fun w' _ => hgr w'), ?_⟩) | (refine j_qc (f := 23) rfl rfl rfl rfl rfl rfl rfl ?_; refine ⟨_, (fun w' _ => hV w'), ?_⟩)) | (refine j_qe rfl rfl rfl ?_; refine ⟨_, q_eqlb rfl Tryz.underlying4 rfl rfl, ?_⟩) | (refine gcall rfl rfl ?_; refine gF ?_; refine j_nat2 (f := 30) rfl rfl rfl rfl rfl rfl rfl (fun w' hs => hup (by omega) w') ?_; intro A2 c2) | (refine gcall rfl rfl ?_; refine gF ?_; refine j_nat2 (f := 31) rfl rfl rfl rfl rfl rfl rfl (fun w' hs => hlo w') ?_; intro A3 c3) | (refine gcall rfl rfl ?_; refine j_qc (f := 25) rfl rfl rfl rfl rfl rfl rfl ?_; refine ⟨_, (fun w' hs => e1 (by omega) ▸ exceeds1_c _ _ A2 c2 U n r _ w' hz2 hc1 (by omega) (by omega) (hs.ext (by (repeat constructor))) (hs.ext (by (repeat constructor))) (sl_of_own hs (by (repeat constructor)) rfl rfl)), ?_⟩) | (refine gcall rfl rfl ?_; refine j_qc (f := 25) rfl rfl rfl rfl rfl rfl rfl ?_; refine ⟨_, (fun w' hs => e2 ▸ exceeds1_c _ _ A3 c3 D n r _ w' hz2 hc2 (by omega) (by omega) (hs.ext (by (repeat constructor))) (hs.ext (by (repeat constructor))) (sl_of_own hs (by (repeat constructor)) rfl rfl)), ?_⟩) | (refine gF ?_; first | refine j_store rfl rfl rfl rfl rfl rfl rfl rfl (by (repeat constructor)) (by rfl) ?_ | (refine j_alloc rfl rfl rfl rfl rfl ?_; intro b) | (refine j_box rfl rfl rfl rfl rfl ?_; intro b)) | (refine j_qe rfl rfl rfl ?_; first | refine ⟨_, q_makeFunc rfl rfl, ?_⟩ | refine ⟨_, q_build_struct rfl rfl rfl rfl rfl, ?_⟩) | refine j_guard_undef rfl rfl rfl rfl rfl ?_) | (refine gSC ?_; first | refine sc_mv rfl ?_ | refine sc_q rfl ?_ | refine sc_region ?_) | (refine gSQ ?_; first | refine sq_go rfl ?_ | refine sq_ende (by first | exact .inl rfl | exact .inr rfl) rfl rfl ⟨_, (RVs.cons (RV.tmp rfl) (RVs.nil)), ?_⟩) | refine j_nil ?_ | ((first | refine j_guard rfl rfl rfl rfl rfl ?_ ?_ | refine sc_cond rfl ?_ ?_) <;> intro hc <;> (first | exact absurd hc (by decide) | ((try simp only [engHC] at hc) <;> first | (exfalso; omega) | skip))))
    all_goals
      (intro w' hS; refine ⟨?_, hS.below⟩; simp only [pack])
      first
        | done
        | exact rb rfl
        | exact rb (by rw [d2 rfl]; rfl)
        | exact rb (by rw [d1]; rfl)
        | exact absurd ‹(_ == decide (v = 1)) = false› (by rw [d1]; decide)
        | exact absurd ‹(_ == decide (v = 1)) = true› (by rw [d1]; decide)
        | exact absurd ‹(_ == decide (v = 1)) = false› (by rw [d1]; simp; omega)
        | exact rb (by rw [d1]; simp; omega)
        | (exfalso; omega)
  · refine eng_start (n := 113) (args := [.int .i64 t, .int .i64 k0, .int .i64 r0, .int .i64 q]) tab tab_ok fns fns_ok [.tmp 8] Tryz.func7 rfl rfl rfl rfl ?_
    repeat' (first | (refine gJ ?_; first | refine js rfl rfl rfl rfl ?_ | (refine gload rfl rfl ?_; refine j_qe rfl rfl rfl ?_; refine ⟨_, q_load_own rfl rfl rfl rfl (by (repeat constructor)) (by first | rfl | assumption), ?_⟩) | refine jar rfl rfl rfl rfl rfl rfl rfl (by omega) ?_ | (refine gcall rfl rfl ?_; first | (refine j_qc (f := 13) rfl rfl rfl rfl rfl rfl rfl ?_; refine ⟨_, (fun w' _ => awake_c w'), ?_⟩) | (refine j_qc (f := 16) rfl rfl rfl rfl rfl rfl rfl ?_; refine ⟨_, (fun w' _ => hp1 w'), ?_⟩) | (refine j_qc (f := 16) rfl rfl rfl rfl rfl rfl rfl ?_; refine ⟨_, (fun w' _ => hp2 w'), ?_⟩) | (refine j_qc (f := 16) rfl rfl rfl rfl rfl rfl rfl ?_; refine ⟨_, (fun w' _ => hp3 w'), ?_⟩) | (refine j_qc (f := 16) rfl rfl rfl rfl rfl rfl rfl ?_; refine ⟨_, (fun w' _ => hp4 w'), ?_⟩) | (refine j_qc (f := 19) rfl rfl rfl rfl rfl rfl rfl ?_; refine ⟨_, (fun w' _ => hle w'), ?_⟩) | (refine j_qc (f := 20) rfl rfl rfl rfl rfl rfl rfl ?_; refine ⟨_, (fun w' _ => hgr w'), ?_⟩) | (refine j_qc (f := 23) rfl rfl rfl rfl rfl rfl rfl ?_; refine ⟨_, (fun w' _ => hV w'), ?_⟩)) | (refine j_qe rfl rfl rfl ?_; refine ⟨_, q_eqlb rfl Tryz.underlying4 rfl rfl, ?_⟩) | (refine gcall rfl rfl ?_; refine gF ?_; refine j_nat2 (f := 30) rfl rfl rfl rfl rfl rfl rfl (fun w' hs => hup (by omega) w') ?_; intro A2 c2) | (refine gcall rfl rfl ?_; refine gF ?_; refine j_nat2 (f := 31) rfl rfl rfl rfl rfl rfl rfl (fun w' hs => hlo w') ?_; intro A3 c3) | (refine gcall rfl rfl ?_; refine j_qc (f := 25) rfl rfl rfl rfl rfl rfl rfl ?_; refine ⟨_, (fun w' hs => e1 (by omega) ▸ exceeds1_c _ _ A2 c2 U n r _ w' hz2 hc1 (by omega) (by omega) (hs.ext (by (repeat constructor))) (hs.ext (by (repeat constructor))) (sl_of_own hs (by (repeat constructor)) rfl rfl)), ?_⟩) | (refine gcall rfl rfl ?_; refine j_qc (f := 25) rfl rfl rfl rfl rfl rfl rfl ?_; refine ⟨_, (fun w' hs => e2 ▸ exceeds1_c _ _ A3 c3 D n r _ w' hz2 hc2 (by omega) (by omega) (hs.ext (by (repeat constructor))) (hs.ext (by (repeat constructor))) (sl_of_own hs (by (repeat constructor)) rfl rfl)), ?_⟩) | (refine gF ?_; first | refine j_store rfl rfl rfl rfl rfl rfl rfl rfl (by (repeat constructor)) (by rfl) ?_ | (refine j_alloc rfl rfl rfl rfl rfl ?_; intro b) | (refine j_box rfl rfl rfl rfl rfl ?_; intro b)) | (refine j_qe rfl rfl rfl ?_; first | refine ⟨_, q_makeFunc rfl rfl, ?_⟩ | refine ⟨_, q_build_struct rfl rfl rfl rfl rfl, ?_⟩) | refine j_guard_undef rfl rfl rfl rfl rfl ?_) | (refine gSC ?_; first | refine sc_mv rfl ?_ | refine sc_q rfl ?_ | refine sc_region ?_) | (refine gSQ ?_; first | refine sq_go rfl ?_ | refine sq_ende (by first | exact .inl rfl | exact .inr rfl) rfl rfl ⟨_, (RVs.cons (RV.tmp rfl) (RVs.nil)), ?_⟩) | refine j_nil ?_ | ((first | refine j_guard rfl rfl rfl rfl rfl ?_ ?_ | refine sc_cond rfl ?_ ?_) <;> intro hc <;> (first | exact absurd hc (by decide) | ((try simp only [engHC] at hc) <;> first | (exfalso; omega) | skip))))
    all_goals
      (intro w' hS; refine ⟨?_, hS.below⟩; simp only [pack])
      first
        | done
        | exact rb rfl
        | exact rb (by rw [d2 rfl]; rfl)
        | exact rb (by rw [d1]; rfl)
        | exact absurd ‹(_ == decide (v = 1)) = false› (by rw [d1]; decide)
        | exact absurd ‹(_ == decide (v = 1)) = true› (by rw [d1]; decide)
        | exact absurd ‹(_ == decide (v = 1)) = false› (by rw [d1]; simp; omega)
        | exact rb (by rw [d1]; simp; omega)
        | (exfalso; omega)
  · refine eng_start (n := 113) (args := [.int .i64 t, .int .i64 k0, .int .i64 r0, .int .i64 q]) tab tab_ok fns fns_ok [.tmp 8] Tryz.func7 rfl rfl rfl rfl ?_
    repeat' (first | (refine gJ ?_; first | refine js rfl rfl rfl rfl ?_ | (refine gload rfl rfl ?_; refine j_qe rfl rfl rfl ?_; refine ⟨_, q_load_own rfl rfl rfl rfl (by (repeat constructor)) (by first | rfl | assumption), ?_⟩) | refine jar rfl rfl rfl rfl rfl rfl rfl (by omega) ?_ | (refine gcall rfl rfl ?_; first | (refine j_qc (f := 13) rfl rfl rfl rfl rfl rfl rfl ?_; refine ⟨_, (fun w' _ => awake_c w'), ?_⟩) | (refine j_qc (f := 16) rfl rfl rfl rfl rfl rfl rfl ?_; refine ⟨_, (fun w' _ => hp1 w'), ?_⟩) | (refine j_qc (f := 16) rfl rfl rfl rfl rfl rfl rfl ?_; refine ⟨_, (fun w' _ => hp2 w'), ?_⟩) | (refine j_qc (f := 16) rfl rfl rfl rfl rfl rfl rfl ?_; refine ⟨_, (fun w' _ => hp3 w'), ?_⟩) | (refine j_qc (f := 16) rfl rfl rfl rfl rfl rfl rfl ?_; refine ⟨_, (fun w' _ => hp4 w'), ?_⟩) | (refine j_qc (f := 19) rfl rfl rfl rfl rfl rfl rfl ?_; refine ⟨_, (fun w' _ => hle w'), ?_⟩) | (refine j_qc (f := 20) rfl rfl rfl rfl rfl rfl rfl ?_; refine ⟨_, (fun w' _ => hgr w'), ?_⟩) | (refine j_qc (f := 23) rfl rfl rfl rfl rfl rfl rfl ?_; refine ⟨_, (fun w' _ => hV w'), ?_⟩)) | (refine j_qe rfl rfl rfl ?_; refine ⟨_, q_eqlb rfl Tryz.underlying4 rfl rfl, ?_⟩) | (refine gcall rfl rfl ?_; refine gF ?_; refine j_nat2 (f := 30) rfl rfl rfl rfl rfl rfl rfl (fun w' hs => hup (by omega) w') ?_; intro A2 c2) | (refine gcall rfl rfl ?_; refine gF ?_; refine j_nat2 (f := 31) rfl rfl rfl rfl rfl rfl rfl (fun w' hs => hlo w') ?_; intro A3 c3) | (refine gcall rfl rfl ?_; refine j_qc (f := 25) rfl rfl rfl rfl rfl rfl rfl ?_; refine ⟨_, (fun w' hs => e1 (by omega) ▸ exceeds1_c _ _ A2 c2 U n r _ w' hz2 hc1 (by omega) (by omega) (hs.ext (by (repeat constructor))) (hs.ext (by (repeat constructor))) (sl_of_own hs (by (repeat constructor)) rfl rfl)), ?_⟩) | (refine gcall rfl rfl ?_; refine j_qc (f := 25) rfl rfl rfl rfl rfl rfl rfl ?_; refine ⟨_, (fun w' hs => e2 ▸ exceeds1_c _ _ A3 c3 D n r _ w' hz2 hc2 (by omega) (by omega) (hs.ext (by (repeat constructor))) (hs.ext (by (repeat constructor))) (sl_of_own hs (by (repeat constructor)) rfl rfl)), ?_⟩) | (refine gF ?_; first | refine j_store rfl rfl rfl rfl rfl rfl rfl rfl (by (repeat constructor)) (by rfl) ?_ | (refine j_alloc rfl rfl rfl rfl rfl ?_; intro b) | (refine j_box rfl rfl rfl rfl rfl ?_; intro b)) | (refine j_qe rfl rfl rfl ?_; first | refine ⟨_, q_makeFunc rfl rfl, ?_⟩ | refine ⟨_, q_build_struct rfl rfl rfl rfl rfl, ?_⟩) | refine j_guard_undef rfl rfl rfl rfl rfl ?_) | (refine gSC ?_; first | refine sc_mv rfl ?_ | refine sc_q rfl ?_ | refine sc_region ?_) | (refine gSQ ?_; first | refine sq_go rfl ?_ | refine sq_ende (by first | exact .inl rfl | exact .inr rfl) rfl rfl ⟨_, (RVs.cons (RV.tmp rfl) (RVs.nil)), ?_⟩) | refine j_nil ?_ | ((first | refine j_guard rfl rfl rfl rfl rfl ?_ ?_ | refine sc_cond rfl ?_ ?_) <;> intro hc <;> (first | exact absurd hc (by decide) | ((try simp only [engHC] at hc) <;> first | (exfalso; omega) | skip))))
    all_goals
      (intro w' hS; refine ⟨?_, hS.below⟩; simp only [pack])
      first
        | done
        | exact rb rfl
        | exact rb (by rw [d2 rfl]; rfl)
        | exact rb (by rw [d1]; rfl)
        | exact absurd ‹(_ == decide (v = 1)) = false› (by rw [d1]; decide)
        | exact absurd ‹(_ == decide (v = 1)) = true› (by rw [d1]; decide)
        | exact absurd ‹(_ == decide (v = 1)) = false› (by rw [d1]; simp; omega)
        | exact rb (by rw [d1]; simp; omega)
        | (exfalso; omega)
end Go.Proofs.YtmakokbpadmfbaaGreat
