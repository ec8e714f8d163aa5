/-
  The reference: chances, sum.
-/
import Derived.Test.YtmlgheoliaplgaaRf1
import Derived.Test.YtmlgheoliaplgaaNl1
namespace Go.Proofs.Ytmlgheoliaplgaa
open Go.RowKit Eng
set_option linter.unusedVariables false
set_option linter.unusedSimpArgs false
attribute [local irreducible] SC SQ J Qt Calls Iterates
abbrev valC (v : Value) : List Value := [v]
/-- Rows of digits, from a place on. -/
def rowsD (f : Nat → Nat) : Nat → List Value → List HA
  | _, [] => []
  | k, v :: vs => haD v (f k) :: rowsD f (k + 1) vs
theorem rowsD_mem (f : Nat → Nat) : ∀ (vs : List Value) (k i : Nat) (v : Value), vs[i]? = some v → haD v (f (k + i)) ∈ rowsD f k vs
  | [], k, i, v, h => by simp at h
  | u :: vs, k, 0, v, h => by simp at h; subst h; exact List.mem_cons_self
  | u :: vs, k, i + 1, v, h => by
    simp at h
    have := rowsD_mem f vs (k + 1) i v h
    rw [show k + 1 + i = k + (i + 1) by omega] at this
    exact List.mem_cons_of_mem _ this
theorem rowsD_snoc (f : Nat → Nat) : ∀ (vs : List Value) (k : Nat) (v : Value), rowsD f k (vs ++ [v]) = rowsD f k vs ++ [haD v (f (k + vs.length))]
  | [], k, v => rfl
  | u :: vs, k, v => by
    simp only [List.cons_append, rowsD, rowsD_snoc f vs (k + 1) v, List.length_cons]
    rw [show k + 1 + vs.length = k + (vs.length + 1) by omega]
set_option exponentiation.threshold 1100 in
theorem len_bn {p m k : Nat} (hp : p ≤ 10000) (hm : m ≤ 501) : (dg (bn p (10000 - p) m k)).length ≤ 1000 := by
  rw [dg_len]
  refine Nat.lt_of_le_of_lt (bn_le _ _ _ _) ?_
  rw [show p + (10000 - p) = 10000 by omega]
  exact Nat.pow_lt_pow_right (by omega) (by omega)
theorem bn_nextD (p q i k : Nat) (h : 0 < k) : bn p q (i + 1) k = bn p q i k * q + bn p q i (k - 1) * p := by
  obtain ⟨j, rfl⟩ : ∃ j, k = j + 1 := ⟨k - 1, by omega⟩
  simp only [bn, Nat.add_sub_cancel]
  rw [Nat.mul_comm p, Nat.mul_comm q, Nat.add_comm]
theorem toNat_pred (k : Nat) : ((k : Int) - 1).toNat = k - 1 := by omega
set_option maxRecDepth 4000 in
set_option maxHeartbeats 8000000 in
theorem chances_r (n p : Nat) (w : World) (hn : n ≤ 500) (hp : p ≤ 10000) :
    Calls Try.prog 84 #[.int .i64 n, .int .i64 p] w fun e w' => ∃ x : Value × List Value, x.2.length = n + 1 ∧ e = .returned x.1 ∧ St w Cold (.own x.1 24 1 (n + 1) (x.2.flatMap valC) :: rowsD (bn p (10000 - p) n) 0 x.2) w' := by
  have hq : (10000 : Int) - p = ((10000 - p : Nat) : Int) := by omega
  have ht1 := fun A c a w' h1 h => times_r A c a p w' h1 hp h
  have ht2 := fun A c a w' h1 h => times_r A c a (10000 - p) w' h1 (by omega) h
  rw [← hq] at ht2
  refine eng_start (n := 51) (args := [.int .i64 n, .int .i64 p]) tab tab_ok fns fns_ok [.tmp 4] Try.func84 rfl rfl rfl rfl ?_
  repeat' (first
   | (refine gJ ?_
      first
      | refine jmv rfl rfl rfl rfl rfl ?_
      | (refine gload rfl rfl ?_
         refine j_qe rfl rfl rfl ?_
         first
         | refine ⟨_, q_load_own rfl rfl rfl rfl (by (repeat (first | exact InL.here | apply InL.there))) (by first | rfl | assumption), ?_⟩
         | refine ⟨_, q_loadA_own rfl rfl rfl rfl (by (repeat (first | exact InL.here | apply InL.there))) (by rfl), ?_⟩
         | refine ⟨_, q_loadA_ext rfl rfl rfl rfl ⟨by assumption, (by first | exact id | assumption)⟩ (by rfl), ?_⟩
         | refine ⟨_, q_load_ext rfl rfl rfl rfl ⟨by assumption, (by first | exact id | assumption)⟩ (by first | rfl | assumption), ?_⟩
         | refine ⟨_, q_load_extb rfl rfl rfl rfl ⟨by assumption, (by first | exact id | assumption)⟩ (by rfl), ?_⟩
         | refine ⟨_, q_loadA_extb rfl rfl rfl rfl ⟨by assumption, (by first | exact id | assumption)⟩ (by rfl), ?_⟩
         | refine ⟨_, q_load_ext0 rfl rfl rfl rfl ⟨by assumption, (by first | exact id | assumption)⟩ (by rfl), ?_⟩)
      | refine jcmp rfl rfl rfl rfl rfl rfl rfl ?_
      | refine jar rfl rfl rfl rfl rfl rfl rfl (by omega) ?_
      | (refine j_qe rfl rfl rfl ?_
         first
         | refine ⟨_, q_index_nat rfl rfl rfl rfl rfl (by omega), ?_⟩
         | refine ⟨_, q_index_slice rfl rfl rfl rfl rfl (by omega), ?_⟩
         | refine ⟨_, q_index_arr rfl rfl rfl rfl rfl (by omega), ?_⟩
         | refine ⟨_, q_index_arr_ext rfl rfl rfl rfl rfl (by omega), ?_⟩
         | refine ⟨_, q_addu8 rfl rfl rfl (by omega), ?_⟩)
      | (refine j_buildSlice rfl rfl rfl rfl rfl rfl rfl rfl rfl rfl rfl rfl ?_; intro b)
      | (refine j_append rfl rfl rfl rfl rfl rfl rfl rfl rfl rfl rfl (by (repeat (first | exact InL.here | apply InL.there))) (by (repeat (first | exact InL.here | apply InL.there))) (by rfl) (by rfl) (by omega) (fun _ => by (repeat (first | exact Upd.here | apply Upd.there))) ?_; intro v))
   | (refine gSC ?_
      first
      | refine sc_seq ?_
      | refine sc_region ?_
      | (refine sc_cond rfl ?_ ?_ <;> intro hc <;> (first | (exact absurd hc (by decide)) | ((try simp only [decide_eq_true_eq, decide_eq_false_iff_not, Bool.not_eq_true', Bool.not_eq_false', Bool.not_true, Bool.not_false, ne_eq, Decidable.not_not] at hc) <;> first | (exfalso; omega) | (exact absurd trivial hc) | skip)))
      | refine sc_block ?_
      | refine sc_ret ?_
      | refine sc_exit ?_
      | refine sc_skip ?_)
   | (refine gSQ ?_
      first
      | refine sq_seq ?_
      | refine sq_blk ?_
      | refine sq_seq_ret ?_
      | refine sq_blk_ret ?_
      | refine sq_loop_ret ?_
      | refine sq_seq_exit ?_
      | refine sq_blk_hit ?_
      | refine sq_blk_miss rfl ?_
      | refine sq_loop_exit ?_
      | refine sq_ende (.inl rfl) rfl rfl ⟨_, (RVs.cons (RV.tmp rfl) (RVs.nil)), ?_⟩
      | refine sq_ende (.inr rfl) rfl rfl ⟨_, (RVs.cons (RV.tmp rfl) (RVs.nil)), ?_⟩)
   | refine j_nil ?_
   )
  rename_i b1
  refine sc_lit (n := 1) 1 (b := b1) (by (repeat (first | exact Upd.here | apply Upd.there))) rfl (by omega) ?_
  refine sc_lit (n := 1) 1 (b := b) (by (repeat (first | exact Upd.here | apply Upd.there))) rfl (by omega) ?_
  refine sc_loop (ι := Nat × Value × List Value) (fun i => i.1 ≤ n ∧ i.2.2.length = i.1 + 1) (fun i => n - i.1) (fun i => [(0, .int .i64 n), (1, .int .i64 p), (5, i.2.1), (6, .int .i64 i.1)])
    (fun i => .own i.2.1 24 1 (i.1 + 1) (i.2.2.flatMap valC) :: rowsD (bn p (10000 - p) i.1) 0 i.2.2) (0, .slice (some ⟨b, 0, none⟩) 1 1, [.slice (some ⟨b1, 0, none⟩) 1 1]) ⟨Nat.zero_le _, rfl⟩ (by repeat (first | exact FSub.nil | refine FSub.cons rfl ?_ | refine FSub.conse rfl (by congr 1; omega) ?_)) (by repeat (first | exact LSub.nil | refine LSub.cons (by repeat (first | exact Rem.here | apply Rem.there)) ?_)) ?_
  rintro ⟨i, lv, rows⟩ ⟨hi, hrl⟩
  dsimp only at hi hrl ⊢
  by_cases hlt : i < n
  · obtain ⟨T, hT⟩ : ∃ T, rowsD (bn p (10000 - p) i) 0 rows = T := ⟨_, rfl⟩
    have hTm : ∀ j v, rows[j]? = some v → haD v (bn p (10000 - p) i j) ∈ T := fun j v hj => by
      have := rowsD_mem (bn p (10000 - p) i) rows 0 j v hj
      rw [Nat.zero_add, hT] at this
      exact this
    rw [hT]
    refine sc_ownq (v := lv) (by (repeat (first | exact InL.here | apply InL.there))) (by omega) ?_
    rintro ad0 c0 rfl hc0
    refine sc_own_nil 24 1 ?_
    repeat' (first
     | (refine gJ ?_
        first
        | refine jmv rfl rfl rfl rfl rfl ?_
        | (refine gload rfl rfl ?_
           refine j_qe rfl rfl rfl ?_
           first
           | refine ⟨_, q_load_own rfl rfl rfl rfl (by (repeat (first | exact InL.here | apply InL.there))) (by first | rfl | assumption), ?_⟩
           | refine ⟨_, q_loadA_own rfl rfl rfl rfl (by (repeat (first | exact InL.here | apply InL.there))) (by rfl), ?_⟩
           | refine ⟨_, q_loadA_ext rfl rfl rfl rfl ⟨by assumption, (by first | exact id | assumption)⟩ (by rfl), ?_⟩
           | refine ⟨_, q_load_ext rfl rfl rfl rfl ⟨by assumption, (by first | exact id | assumption)⟩ (by first | rfl | assumption), ?_⟩
           | refine ⟨_, q_load_extb rfl rfl rfl rfl ⟨by assumption, (by first | exact id | assumption)⟩ (by rfl), ?_⟩
           | refine ⟨_, q_loadA_extb rfl rfl rfl rfl ⟨by assumption, (by first | exact id | assumption)⟩ (by rfl), ?_⟩
           | refine ⟨_, q_load_ext0 rfl rfl rfl rfl ⟨by assumption, (by first | exact id | assumption)⟩ (by rfl), ?_⟩)
        | refine jcmp rfl rfl rfl rfl rfl rfl rfl ?_
        | refine jar rfl rfl rfl rfl rfl rfl rfl (by omega) ?_
        | (refine j_qe rfl rfl rfl ?_
           first
           | refine ⟨_, q_index_nat rfl rfl rfl rfl rfl (by omega), ?_⟩
           | refine ⟨_, q_index_slice rfl rfl rfl rfl rfl (by omega), ?_⟩
           | refine ⟨_, q_index_arr rfl rfl rfl rfl rfl (by omega), ?_⟩
           | refine ⟨_, q_index_arr_ext rfl rfl rfl rfl rfl (by omega), ?_⟩
           | refine ⟨_, q_addu8 rfl rfl rfl (by omega), ?_⟩)
        | (refine j_buildSlice rfl rfl rfl rfl rfl rfl rfl rfl rfl rfl rfl rfl ?_; intro b)
        | (refine j_append rfl rfl rfl rfl rfl rfl rfl rfl rfl rfl rfl (by (repeat (first | exact InL.here | apply InL.there))) (by (repeat (first | exact InL.here | apply InL.there))) (by rfl) (by rfl) (by omega) (fun _ => by (repeat (first | exact Upd.here | apply Upd.there))) ?_; intro v))
     | (refine gSC ?_
        first
        | refine sc_seq ?_
        | refine sc_region ?_
        | (refine sc_cond rfl ?_ ?_ <;> intro hc <;> (first | (exact absurd hc (by decide)) | ((try simp only [decide_eq_true_eq, decide_eq_false_iff_not, Bool.not_eq_true', Bool.not_eq_false', Bool.not_true, Bool.not_false, ne_eq, Decidable.not_not] at hc) <;> first | (exfalso; omega) | (exact absurd trivial hc) | skip)))
        | refine sc_block ?_
        | refine sc_ret ?_
        | refine sc_exit ?_
        | refine sc_skip ?_)
     | (refine gSQ ?_
        first
        | refine sq_seq ?_
        | refine sq_blk ?_
        | refine sq_seq_ret ?_
        | refine sq_blk_ret ?_
        | refine sq_loop_ret ?_
        | refine sq_seq_exit ?_
        | refine sq_blk_hit ?_
        | refine sq_blk_miss rfl ?_
        | refine sq_loop_exit ?_
        | refine sq_ende (.inl rfl) rfl rfl ⟨_, (RVs.cons (RV.tmp rfl) (RVs.nil)), ?_⟩
        | refine sq_ende (.inr rfl) rfl rfl ⟨_, (RVs.cons (RV.tmp rfl) (RVs.nil)), ?_⟩)
     | refine j_nil ?_
     )
    refine sc_loop (ι := Nat × Value × List Value) (fun j => j.1 ≤ i + 2 ∧ j.2.2.length = j.1) (fun j => i + 2 - j.1) (fun j => [(0, .int .i64 n), (1, .int .i64 p), (5, .slice (some ad0) (i + 1) c0), (6, .int .i64 i), (7, j.2.1), (8, .int .i64 j.1)])
      (fun j => .own j.2.1 24 1 j.1 (j.2.2.flatMap valC) :: .own (.slice (some ad0) (i + 1) c0) 24 1 (i + 1) (rows.flatMap valC) :: (T ++ rowsD (bn p (10000 - p) (i + 1)) 0 j.2.2)) (0, .slice none 0 0, []) ⟨Nat.zero_le _, rfl⟩ (by repeat (first | exact FSub.nil | refine FSub.cons rfl ?_ | refine FSub.conse rfl (by congr 1; omega) ?_)) (by dsimp only [rowsD]; rw [List.append_nil]; exact (by repeat (first | exact LSub.refl | refine LSub.cons (by repeat (first | exact Rem.here | apply Rem.there)) ?_ | apply LSub.skip))) ?_
    rintro ⟨k, nv, nrows⟩ ⟨hk, hkl⟩
    dsimp only at hk hkl ⊢
    obtain ⟨U, hU⟩ : ∃ U, rowsD (bn p (10000 - p) (i + 1)) 0 nrows = U := ⟨_, rfl⟩
    rw [hU]
    by_cases hlt2 : k ≤ i + 1
    · have lx := fun m => len_bn (p := p) (m := i) (k := m) hp (by omega)
      have lz := len_bn (p := p) (m := i + 1) (k := k) hp (by omega)
      have hU2 : ∀ x, rowsD (bn p (10000 - p) (i + 1)) 0 (nrows ++ [x]) = U ++ [haD x (bn p (10000 - p) (i + 1) k)] := fun x => by
        rw [rowsD_snoc, hU, hkl, Nat.zero_add]
      have hfin : ∀ x v' L, LSub (haD x (bn p (10000 - p) (i + 1) k) :: .own v' 24 1 (k + 1) ((nrows ++ [x]).flatMap valC) :: .own (.slice (some ad0) (i + 1) c0) 24 1 (i + 1) (rows.flatMap valC) :: (T ++ U)) L →
          LSub (.own v' 24 1 (k + 1) ((nrows ++ [x]).flatMap valC) :: .own (.slice (some ad0) (i + 1) c0) 24 1 (i + 1) (rows.flatMap valC) :: (T ++ rowsD (bn p (10000 - p) (i + 1)) 0 (nrows ++ [x]))) L := fun x v' L h => by
        rw [hU2, ← List.append_assoc]
        exact h.perm ((List.perm_append_comm (l₁ := [haD x (bn p (10000 - p) (i + 1) k)])).trans (List.Perm.refl _))
      have hsn : ∀ x, nrows.flatMap valC ++ [x] = (nrows ++ [x]).flatMap valC := fun x => by rw [List.flatMap_append]; rfl
      by_cases hk0 : k = 0
      · subst hk0
        obtain ⟨v1, hv1⟩ : ∃ v, rows[0]? = some v := ⟨_, List.getElem?_eq_getElem (by omega)⟩
        have hm1 := hTm 0 v1 hv1
        have e1 : bn p (10000 - p) i 0 * (10000 - p) = bn p (10000 - p) (i + 1) 0 := by simp only [bn]; exact Nat.mul_comm _ _
        have lx0 := lx 0
        generalize bn p (10000 - p) i 0 = X at *
        generalize bn p (10000 - p) (i + 1) 0 = Z at *
        refine sc_owns (v := v1) (inL_mem (List.mem_cons_of_mem _ (List.mem_cons_of_mem _ (List.mem_append_left _ hm1)))) ?_
        rintro A1 c1 rfl hsl1
        have hc1 := fun w' (h : SD w' A1 c1 X) => by have h9 := ht2 A1 c1 X w' (by omega) h; rw [e1] at h9; exact h9
        repeat' (first
         | (refine gJ ?_
            first
            | refine jmv rfl rfl rfl rfl rfl ?_
            | refine jcmp rfl rfl rfl rfl rfl rfl rfl ?_
            | refine jar rfl rfl rfl rfl rfl rfl rfl (by omega) ?_
            | (refine gcall rfl rfl ?_
               first
               | (refine j_qc (f := 83) rfl rfl rfl rfl rfl rfl rfl ?_; refine ⟨_, (fun w' hs => trim_d A3 c3 Z w' (sd_own hs (by (repeat (first | exact InL.here | apply InL.there))))), ?_⟩))
            | (refine j_qe rfl rfl rfl ?_; refine ⟨_, q_row1 (f := valC) rfl rfl rfl rfl (by (repeat (first | exact InL.here | apply InL.there))) (fun _ => rfl) hv1 rfl, ?_⟩)
            | (refine gcall rfl rfl ?_; refine j_dg (f := 101) rfl rfl rfl rfl rfl rfl rfl (fun w' hs => hc1 w' (sd_own hs (inL_mem (List.mem_cons_of_mem _ (List.mem_cons_of_mem _ (List.mem_append_left _ hm1)))))) ?_; intro A3 c3 h3)
            | (refine j_qe rfl rfl rfl ?_
               first
               | refine ⟨_, q_index_nat rfl rfl rfl rfl rfl (by omega), ?_⟩
               | refine ⟨_, q_index_slice rfl rfl rfl rfl rfl (by omega), ?_⟩
               | refine ⟨_, q_index_arr rfl rfl rfl rfl rfl (by omega), ?_⟩
               | refine ⟨_, q_index_arr_ext rfl rfl rfl rfl rfl (by omega), ?_⟩
               | refine ⟨_, q_addu8 rfl rfl rfl (by omega), ?_⟩)
            | (refine j_buildSlice rfl rfl rfl rfl rfl rfl rfl rfl rfl rfl rfl rfl ?_; intro b)
            | (refine j_append rfl rfl rfl rfl rfl rfl rfl rfl rfl rfl rfl (by (repeat (first | exact InL.here | apply InL.there))) (by (repeat (first | exact InL.here | apply InL.there))) (by rfl) (by rfl) (by omega) (fun _ => by (repeat (first | exact Upd.here | apply Upd.there))) ?_; intro v))
         | (refine gSC ?_
            first
            | refine sc_seq ?_
            | refine sc_region ?_
            | (refine sc_cond rfl ?_ ?_ <;> intro hc <;> (first | (exact absurd hc (by decide)) | ((try simp only [decide_eq_true_eq, decide_eq_false_iff_not, Bool.not_eq_true', Bool.not_eq_false', Bool.not_true, Bool.not_false, ne_eq, Decidable.not_not] at hc) <;> first | (exfalso; omega) | (exact absurd trivial hc) | skip)))
            | refine sc_block ?_
            | refine sc_ret ?_
            | refine sc_exit ?_
            | refine sc_skip ?_)
         | (refine gSQ ?_
            first
            | refine sq_seq ?_
            | refine sq_blk ?_
            | refine sq_seq_ret ?_
            | refine sq_blk_ret ?_
            | refine sq_loop_ret ?_
            | refine sq_seq_exit ?_
            | refine sq_blk_hit ?_
            | refine sq_blk_miss rfl ?_
            | refine sq_loop_exit ?_
            | refine sq_ende (.inl rfl) rfl rfl ⟨_, (RVs.cons (RV.tmp rfl) (RVs.nil)), ?_⟩
            | refine sq_ende (.inr rfl) rfl rfl ⟨_, (RVs.cons (RV.tmp rfl) (RVs.nil)), ?_⟩)
         | refine j_nil ?_
         )
        refine sq_loop (0 + 1, v, nrows ++ [.slice A3 (dg Z).length c3]) ⟨by show 0 + 1 ≤ i + 2; omega, by simp [hkl]⟩ (by show i + 2 - (0 + 1) < i + 2 - 0; omega) (by repeat (first | exact FSub.nil | refine FSub.cons rfl ?_ | refine FSub.conse rfl (by congr 1; omega) ?_)) (hfin _ _ _ ?_)
        rw [← hsn]
        exact (by repeat (first | exact LSub.refl | refine LSub.cons (by repeat (first | exact Rem.here | apply Rem.there)) ?_ | apply LSub.skip))
      · obtain ⟨v2, hv2⟩ : ∃ v, rows[k - 1]? = some v := ⟨_, List.getElem?_eq_getElem (by omega)⟩
        have hm2 := hTm (k - 1) v2 hv2
        rw [← toNat_pred k] at hv2
        have lx2 := lx (k - 1)
        have e2 := bn_nextD p (10000 - p) i k (by omega)
        by_cases hki : k ≤ i
        · obtain ⟨v1, hv1⟩ : ∃ v, rows[k]? = some v := ⟨_, List.getElem?_eq_getElem (by omega)⟩
          have hm1 := hTm k v1 hv1
          have lx1 := lx k
          have hlex : bn p (10000 - p) i k * (10000 - p) ≤ bn p (10000 - p) (i + 1) k := by rw [e2]; exact Nat.le_add_right _ _
          have hlen1 := dg_le hlex
          generalize bn p (10000 - p) i k = X at *
          generalize bn p (10000 - p) i (k - 1) = Y at *
          generalize bn p (10000 - p) (i + 1) k = Z at *
          refine sc_owns (v := v1) (inL_mem (List.mem_cons_of_mem _ (List.mem_cons_of_mem _ (List.mem_append_left _ hm1)))) ?_
          rintro A1 c1 rfl hsl1
          refine sc_owns (v := v2) (inL_mem (List.mem_cons_of_mem _ (List.mem_cons_of_mem _ (List.mem_append_left _ hm2)))) ?_
          rintro A2 c2 rfl hsl2
          have hc1 := fun w' (h : SD w' A1 c1 X) => ht2 A1 c1 X w' (by omega) h
          have hc2 := fun w' (h : SD w' A2 c2 Y) => ht1 A2 c2 Y w' (by omega) h
          have hc3 := fun A c B d w' h1 h2 => by have h9 := add_r A c (X * (10000 - p)) B d (Y * p) w' (by rw [← e2]; omega) h1 h2; rw [← e2] at h9; exact h9
          repeat' (first
           | (refine gJ ?_
              first
              | refine jmv rfl rfl rfl rfl rfl ?_
              | refine jcmp rfl rfl rfl rfl rfl rfl rfl ?_
              | refine jar rfl rfl rfl rfl rfl rfl rfl (by omega) ?_
              | (refine gcall rfl rfl ?_
                 first
                 | (refine j_qc (f := 83) rfl rfl rfl rfl rfl rfl rfl ?_; refine ⟨_, (fun w' hs => trim_d A5 c5 Z w' (sd_own hs (by (repeat (first | exact InL.here | apply InL.there))))), ?_⟩))
              | (refine j_qe rfl rfl rfl ?_; refine ⟨_, q_row1 (f := valC) rfl rfl rfl rfl (by (repeat (first | exact InL.here | apply InL.there))) (fun _ => rfl) hv1 rfl, ?_⟩)
              | (refine j_qe rfl rfl rfl ?_; refine ⟨_, q_row1 (f := valC) rfl rfl rfl rfl (by (repeat (first | exact InL.here | apply InL.there))) (fun _ => rfl) hv2 rfl, ?_⟩)
              | (refine gcall rfl rfl ?_; refine j_dg (f := 101) rfl rfl rfl rfl rfl rfl rfl (fun w' hs => hc1 w' (sd_own hs (inL_mem (List.mem_cons_of_mem _ (List.mem_cons_of_mem _ (List.mem_append_left _ hm1)))))) ?_; intro A3 c3 h3)
              | (refine gcall rfl rfl ?_; refine j_dg (f := 101) rfl rfl rfl rfl rfl rfl rfl (fun w' hs => hc2 w' (sd_own hs (inL_mem (List.mem_cons_of_mem _ (List.mem_cons_of_mem _ (List.mem_cons_of_mem _ (List.mem_append_left _ hm2))))))) ?_; intro A4 c4 h4)
              | (refine gcall rfl rfl ?_; refine j_dg (f := 69) rfl rfl rfl rfl rfl rfl rfl (fun w' hs => hc3 A3 c3 A4 c4 w' (sd_own hs (by (repeat (first | exact InL.here | apply InL.there)))) (sd_own hs (by (repeat (first | exact InL.here | apply InL.there))))) ?_; intro A5 c5 h5)
              | (refine j_qe rfl rfl rfl ?_
                 first
                 | refine ⟨_, q_index_nat rfl rfl rfl rfl rfl (by omega), ?_⟩
                 | refine ⟨_, q_index_slice rfl rfl rfl rfl rfl (by omega), ?_⟩
                 | refine ⟨_, q_index_arr rfl rfl rfl rfl rfl (by omega), ?_⟩
                 | refine ⟨_, q_index_arr_ext rfl rfl rfl rfl rfl (by omega), ?_⟩
                 | refine ⟨_, q_addu8 rfl rfl rfl (by omega), ?_⟩)
              | (refine j_buildSlice rfl rfl rfl rfl rfl rfl rfl rfl rfl rfl rfl rfl ?_; intro b)
              | (refine j_append rfl rfl rfl rfl rfl rfl rfl rfl rfl rfl rfl (by (repeat (first | exact InL.here | apply InL.there))) (by (repeat (first | exact InL.here | apply InL.there))) (by rfl) (by rfl) (by omega) (fun _ => by (repeat (first | exact Upd.here | apply Upd.there))) ?_; intro v))
           | (refine gSC ?_
              first
              | refine sc_seq ?_
              | refine sc_region ?_
              | (refine sc_cond rfl ?_ ?_ <;> intro hc <;> (first | (exact absurd hc (by decide)) | ((try simp only [decide_eq_true_eq, decide_eq_false_iff_not, Bool.not_eq_true', Bool.not_eq_false', Bool.not_true, Bool.not_false, ne_eq, Decidable.not_not] at hc) <;> first | (exfalso; omega) | (exact absurd trivial hc) | skip)))
              | refine sc_block ?_
              | refine sc_ret ?_
              | refine sc_exit ?_
              | refine sc_skip ?_)
           | (refine gSQ ?_
              first
              | refine sq_seq ?_
              | refine sq_blk ?_
              | refine sq_seq_ret ?_
              | refine sq_blk_ret ?_
              | refine sq_loop_ret ?_
              | refine sq_seq_exit ?_
              | refine sq_blk_hit ?_
              | refine sq_blk_miss rfl ?_
              | refine sq_loop_exit ?_
              | refine sq_ende (.inl rfl) rfl rfl ⟨_, (RVs.cons (RV.tmp rfl) (RVs.nil)), ?_⟩
              | refine sq_ende (.inr rfl) rfl rfl ⟨_, (RVs.cons (RV.tmp rfl) (RVs.nil)), ?_⟩)
           | refine j_nil ?_
           )
          refine sq_loop (k + 1, v, nrows ++ [.slice A5 (dg Z).length c5]) ⟨by show k + 1 ≤ i + 2; omega, by simp [hkl]⟩ (by show i + 2 - (k + 1) < i + 2 - k; omega) (by repeat (first | exact FSub.nil | refine FSub.cons rfl ?_ | refine FSub.conse rfl (by congr 1; omega) ?_)) (hfin _ _ _ ?_)
          rw [← hsn]
          exact (by repeat (first | exact LSub.refl | refine LSub.cons (by repeat (first | exact Rem.here | apply Rem.there)) ?_ | apply LSub.skip))
        · obtain rfl : k = i + 1 := by omega
          rw [bn_zero p (10000 - p) i (i + 1) (by omega), Nat.zero_mul] at e2
          generalize bn p (10000 - p) i (i + 1 - 1) = Y at *
          generalize bn p (10000 - p) (i + 1) (i + 1) = Z at *
          refine sc_owns (v := v2) (inL_mem (List.mem_cons_of_mem _ (List.mem_cons_of_mem _ (List.mem_append_left _ hm2)))) ?_
          rintro A2 c2 rfl hsl2
          have hc2 := fun w' (h : SD w' A2 c2 Y) => ht1 A2 c2 Y w' (by omega) h
          have hc3 := fun B d w' h2 => by have h9 := add_r none 0 0 B d (Y * p) w' (by rw [← e2]; omega) sd_nil h2; rw [← e2] at h9; exact h9
          repeat' (first
           | (refine gJ ?_
              first
              | refine jmv rfl rfl rfl rfl rfl ?_
              | refine jcmp rfl rfl rfl rfl rfl rfl rfl ?_
              | refine jar rfl rfl rfl rfl rfl rfl rfl (by omega) ?_
              | (refine gcall rfl rfl ?_
                 first
                 | (refine j_qc (f := 83) rfl rfl rfl rfl rfl rfl rfl ?_; refine ⟨_, (fun w' hs => trim_d A5 c5 Z w' (sd_own hs (by (repeat (first | exact InL.here | apply InL.there))))), ?_⟩))
              | (refine j_qe rfl rfl rfl ?_; refine ⟨_, q_row1 (f := valC) rfl rfl rfl rfl (by (repeat (first | exact InL.here | apply InL.there))) (fun _ => rfl) hv2 rfl, ?_⟩)
              | (refine gcall rfl rfl ?_; refine j_dg (f := 101) rfl rfl rfl rfl rfl rfl rfl (fun w' hs => hc2 w' (sd_own hs (inL_mem (List.mem_cons_of_mem _ (List.mem_cons_of_mem _ (List.mem_append_left _ hm2)))))) ?_; intro A4 c4 h4)
              | (refine gcall rfl rfl ?_; refine j_dg (f := 69) rfl rfl rfl rfl rfl rfl rfl (fun w' hs => hc3 A4 c4 w' (sd_own hs (by (repeat (first | exact InL.here | apply InL.there))))) ?_; intro A5 c5 h5)
              | (refine j_qe rfl rfl rfl ?_
                 first
                 | refine ⟨_, q_index_nat rfl rfl rfl rfl rfl (by omega), ?_⟩
                 | refine ⟨_, q_index_slice rfl rfl rfl rfl rfl (by omega), ?_⟩
                 | refine ⟨_, q_index_arr rfl rfl rfl rfl rfl (by omega), ?_⟩
                 | refine ⟨_, q_index_arr_ext rfl rfl rfl rfl rfl (by omega), ?_⟩
                 | refine ⟨_, q_addu8 rfl rfl rfl (by omega), ?_⟩)
              | (refine j_buildSlice rfl rfl rfl rfl rfl rfl rfl rfl rfl rfl rfl rfl ?_; intro b)
              | (refine j_append rfl rfl rfl rfl rfl rfl rfl rfl rfl rfl rfl (by (repeat (first | exact InL.here | apply InL.there))) (by (repeat (first | exact InL.here | apply InL.there))) (by rfl) (by rfl) (by omega) (fun _ => by (repeat (first | exact Upd.here | apply Upd.there))) ?_; intro v))
           | (refine gSC ?_
              first
              | refine sc_seq ?_
              | refine sc_region ?_
              | (refine sc_cond rfl ?_ ?_ <;> intro hc <;> (first | (exact absurd hc (by decide)) | ((try simp only [decide_eq_true_eq, decide_eq_false_iff_not, Bool.not_eq_true', Bool.not_eq_false', Bool.not_true, Bool.not_false, ne_eq, Decidable.not_not] at hc) <;> first | (exfalso; omega) | (exact absurd trivial hc) | skip)))
              | refine sc_block ?_
              | refine sc_ret ?_
              | refine sc_exit ?_
              | refine sc_skip ?_)
           | (refine gSQ ?_
              first
              | refine sq_seq ?_
              | refine sq_blk ?_
              | refine sq_seq_ret ?_
              | refine sq_blk_ret ?_
              | refine sq_loop_ret ?_
              | refine sq_seq_exit ?_
              | refine sq_blk_hit ?_
              | refine sq_blk_miss rfl ?_
              | refine sq_loop_exit ?_
              | refine sq_ende (.inl rfl) rfl rfl ⟨_, (RVs.cons (RV.tmp rfl) (RVs.nil)), ?_⟩
              | refine sq_ende (.inr rfl) rfl rfl ⟨_, (RVs.cons (RV.tmp rfl) (RVs.nil)), ?_⟩)
           | refine j_nil ?_
           )
          refine sq_loop (i + 1 + 1, v, nrows ++ [.slice A5 (dg Z).length c5]) ⟨by show i + 1 + 1 ≤ i + 2; omega, by simp [hkl]⟩ (by show i + 2 - (i + 1 + 1) < i + 2 - (i + 1); omega) (by repeat (first | exact FSub.nil | refine FSub.cons rfl ?_ | refine FSub.conse rfl (by congr 1; omega) ?_)) (hfin _ _ _ ?_)
          rw [← hsn]
          exact (by repeat (first | exact LSub.refl | refine LSub.cons (by repeat (first | exact Rem.here | apply Rem.there)) ?_ | apply LSub.skip))
    · obtain rfl : k = i + 2 := by omega
      repeat' (first
       | (refine gJ ?_
          first
          | refine jmv rfl rfl rfl rfl rfl ?_
          | (refine gload rfl rfl ?_
             refine j_qe rfl rfl rfl ?_
             first
             | refine ⟨_, q_load_own rfl rfl rfl rfl (by (repeat (first | exact InL.here | apply InL.there))) (by first | rfl | assumption), ?_⟩
             | refine ⟨_, q_loadA_own rfl rfl rfl rfl (by (repeat (first | exact InL.here | apply InL.there))) (by rfl), ?_⟩
             | refine ⟨_, q_loadA_ext rfl rfl rfl rfl ⟨by assumption, (by first | exact id | assumption)⟩ (by rfl), ?_⟩
             | refine ⟨_, q_load_ext rfl rfl rfl rfl ⟨by assumption, (by first | exact id | assumption)⟩ (by first | rfl | assumption), ?_⟩
             | refine ⟨_, q_load_extb rfl rfl rfl rfl ⟨by assumption, (by first | exact id | assumption)⟩ (by rfl), ?_⟩
             | refine ⟨_, q_loadA_extb rfl rfl rfl rfl ⟨by assumption, (by first | exact id | assumption)⟩ (by rfl), ?_⟩
             | refine ⟨_, q_load_ext0 rfl rfl rfl rfl ⟨by assumption, (by first | exact id | assumption)⟩ (by rfl), ?_⟩)
          | refine jcmp rfl rfl rfl rfl rfl rfl rfl ?_
          | refine jar rfl rfl rfl rfl rfl rfl rfl (by omega) ?_
          | (refine j_qe rfl rfl rfl ?_
             first
             | refine ⟨_, q_index_nat rfl rfl rfl rfl rfl (by omega), ?_⟩
             | refine ⟨_, q_index_slice rfl rfl rfl rfl rfl (by omega), ?_⟩
             | refine ⟨_, q_index_arr rfl rfl rfl rfl rfl (by omega), ?_⟩
             | refine ⟨_, q_index_arr_ext rfl rfl rfl rfl rfl (by omega), ?_⟩
             | refine ⟨_, q_addu8 rfl rfl rfl (by omega), ?_⟩)
          | (refine j_buildSlice rfl rfl rfl rfl rfl rfl rfl rfl rfl rfl rfl rfl ?_; intro b)
          | (refine j_append rfl rfl rfl rfl rfl rfl rfl rfl rfl rfl rfl (by (repeat (first | exact InL.here | apply InL.there))) (by (repeat (first | exact InL.here | apply InL.there))) (by rfl) (by rfl) (by omega) (fun _ => by (repeat (first | exact Upd.here | apply Upd.there))) ?_; intro v))
       | (refine gSC ?_
          first
          | refine sc_seq ?_
          | refine sc_region ?_
          | (refine sc_cond rfl ?_ ?_ <;> intro hc <;> (first | (exact absurd hc (by decide)) | ((try simp only [decide_eq_true_eq, decide_eq_false_iff_not, Bool.not_eq_true', Bool.not_eq_false', Bool.not_true, Bool.not_false, ne_eq, Decidable.not_not] at hc) <;> first | (exfalso; omega) | (exact absurd trivial hc) | skip)))
          | refine sc_block ?_
          | refine sc_ret ?_
          | refine sc_exit ?_
          | refine sc_skip ?_)
       | (refine gSQ ?_
          first
          | refine sq_seq ?_
          | refine sq_blk ?_
          | refine sq_seq_ret ?_
          | refine sq_blk_ret ?_
          | refine sq_loop_ret ?_
          | refine sq_seq_exit ?_
          | refine sq_blk_hit ?_
          | refine sq_blk_miss rfl ?_
          | refine sq_loop_exit ?_
          | refine sq_ende (.inl rfl) rfl rfl ⟨_, (RVs.cons (RV.tmp rfl) (RVs.nil)), ?_⟩
          | refine sq_ende (.inr rfl) rfl rfl ⟨_, (RVs.cons (RV.tmp rfl) (RVs.nil)), ?_⟩)
       | refine j_nil ?_
       )
      refine sq_loop (i + 1, nv, nrows) ⟨by show i + 1 ≤ n; omega, hkl⟩ (by show n - (i + 1) < n - i; omega) (by repeat (first | exact FSub.nil | refine FSub.cons rfl ?_ | refine FSub.conse rfl (by congr 1; omega) ?_)) ?_
      dsimp only
      rw [hU]
      exact LSub.cons (by repeat (first | exact Rem.here | apply Rem.there)) (LSub.skip LSub.right)
  · obtain rfl : i = n := by omega
    repeat' (first
     | (refine gJ ?_
        first
        | refine jmv rfl rfl rfl rfl rfl ?_
        | (refine gload rfl rfl ?_
           refine j_qe rfl rfl rfl ?_
           first
           | refine ⟨_, q_load_own rfl rfl rfl rfl (by (repeat (first | exact InL.here | apply InL.there))) (by first | rfl | assumption), ?_⟩
           | refine ⟨_, q_loadA_own rfl rfl rfl rfl (by (repeat (first | exact InL.here | apply InL.there))) (by rfl), ?_⟩
           | refine ⟨_, q_loadA_ext rfl rfl rfl rfl ⟨by assumption, (by first | exact id | assumption)⟩ (by rfl), ?_⟩
           | refine ⟨_, q_load_ext rfl rfl rfl rfl ⟨by assumption, (by first | exact id | assumption)⟩ (by first | rfl | assumption), ?_⟩
           | refine ⟨_, q_load_extb rfl rfl rfl rfl ⟨by assumption, (by first | exact id | assumption)⟩ (by rfl), ?_⟩
           | refine ⟨_, q_loadA_extb rfl rfl rfl rfl ⟨by assumption, (by first | exact id | assumption)⟩ (by rfl), ?_⟩
           | refine ⟨_, q_load_ext0 rfl rfl rfl rfl ⟨by assumption, (by first | exact id | assumption)⟩ (by rfl), ?_⟩)
        | refine jcmp rfl rfl rfl rfl rfl rfl rfl ?_
        | refine jar rfl rfl rfl rfl rfl rfl rfl (by omega) ?_
        | (refine j_qe rfl rfl rfl ?_
           first
           | refine ⟨_, q_index_nat rfl rfl rfl rfl rfl (by omega), ?_⟩
           | refine ⟨_, q_index_slice rfl rfl rfl rfl rfl (by omega), ?_⟩
           | refine ⟨_, q_index_arr rfl rfl rfl rfl rfl (by omega), ?_⟩
           | refine ⟨_, q_index_arr_ext rfl rfl rfl rfl rfl (by omega), ?_⟩
           | refine ⟨_, q_addu8 rfl rfl rfl (by omega), ?_⟩)
        | (refine j_buildSlice rfl rfl rfl rfl rfl rfl rfl rfl rfl rfl rfl rfl ?_; intro b)
        | (refine j_append rfl rfl rfl rfl rfl rfl rfl rfl rfl rfl rfl (by (repeat (first | exact InL.here | apply InL.there))) (by (repeat (first | exact InL.here | apply InL.there))) (by rfl) (by rfl) (by omega) (fun _ => by (repeat (first | exact Upd.here | apply Upd.there))) ?_; intro v))
     | (refine gSC ?_
        first
        | refine sc_seq ?_
        | refine sc_region ?_
        | (refine sc_cond rfl ?_ ?_ <;> intro hc <;> (first | (exact absurd hc (by decide)) | ((try simp only [decide_eq_true_eq, decide_eq_false_iff_not, Bool.not_eq_true', Bool.not_eq_false', Bool.not_true, Bool.not_false, ne_eq, Decidable.not_not] at hc) <;> first | (exfalso; omega) | (exact absurd trivial hc) | skip)))
        | refine sc_block ?_
        | refine sc_ret ?_
        | refine sc_exit ?_
        | refine sc_skip ?_)
     | (refine gSQ ?_
        first
        | refine sq_seq ?_
        | refine sq_blk ?_
        | refine sq_seq_ret ?_
        | refine sq_blk_ret ?_
        | refine sq_loop_ret ?_
        | refine sq_seq_exit ?_
        | refine sq_blk_hit ?_
        | refine sq_blk_miss rfl ?_
        | refine sq_loop_exit ?_
        | refine sq_ende (.inl rfl) rfl rfl ⟨_, (RVs.cons (RV.tmp rfl) (RVs.nil)), ?_⟩
        | refine sq_ende (.inr rfl) rfl rfl ⟨_, (RVs.cons (RV.tmp rfl) (RVs.nil)), ?_⟩)
     | refine j_nil ?_
     )
    intro w' hS
    exact ⟨(lv, rows), hrl, rfl, hS⟩
end Go.Proofs.Ytmlgheoliaplgaa
