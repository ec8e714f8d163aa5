/-
  In one text: Rf2, Rf3, Rf5, Rf6, Rwb, Rk, Rqu.
-/
import Derived.Test.YtmakokbpadmfbaaGreatRf1
import Derived.Test.YtmakokbpadmfbaaGreatSta1
import Derived.Test.YtmakokbpadmfbaaGreatSta4
import Derived.Test.YtmakokbpadmfbaaGreatEngCoreB
import Derived.Test.YtmakokbpadmfbaaGreatRws
import Derived.Test.YtmakokbpadmfbaaGreatSml
import Derived.Test.YtmakokbpadmfbaaGreatMe4
/-
  The reference: chances, sum.
-/
namespace Go.Proofs.YtmakokbpadmfbaaGreat
open Go.RowKit Eng
set_option linter.unusedVariables false
set_option linter.unusedSimpArgs false
set_option maxHeartbeats 8000000
attribute [local irreducible] SC SQ J Qt Calls Iterates LSub FSub
abbrev valC (v : Value) : List Value := [v]
/-- Rows of digits, from a place on. -/
def rowsD (f : Nat → Nat) : Nat → List Value → List HA
  | _, [] => []
  | k, v :: vs => haD v (f k) :: rowsD f (k + 1) vs
theorem rowsD_mem (f : Nat → Nat) : ∀ (vs : List Value) (k i : Nat) (v : Value), vs[i]? = some v → haD v (f (k + i)) ∈ rowsD f k vs
  | [], k, i, v, h => by simp at h
  | u :: vs, k, 0, v, h => by simp at h; subst h; exact List.mem_cons_self
  | u :: vs, k, i + 1, v, h => by
    simp at h
    have := rowsD_mem f vs (k + 1) i v h
    rw [show k + 1 + i = k + (i + 1) by omega] at this
    exact List.mem_cons_of_mem _ this
theorem rowsD_snoc (f : Nat → Nat) : ∀ (vs : List Value) (k : Nat) (v : Value), rowsD f k (vs ++ [v]) = rowsD f k vs ++ [haD v (f (k + vs.length))]
  | [], k, v => rfl
  | u :: vs, k, v => by
    simp only [List.cons_append, rowsD, rowsD_snoc f vs (k + 1) v, List.length_cons]
    rw [show k + 1 + vs.length = k + (vs.length + 1) by omega]
set_option exponentiation.threshold 1100 in
theorem len_bn {p m k : Nat} (hp : p ≤ 10000) (hm : m ≤ 501) : (dg (bn p (10000 - p) m k)).length ≤ 1000 := by
  rw [dg_len]
  refine Nat.lt_of_le_of_lt (bn_le _ _ _ _) ?_
  rw [show p + (10000 - p) = 10000 by omega]
  exact Nat.pow_lt_pow_right (by omega) (by omega)
theorem bn_nextD (p q i k : Nat) (h : 0 < k) : bn p q (i + 1) k = bn p q i k * q + bn p q i (k - 1) * p := by
  obtain ⟨j, rfl⟩ : ∃ j, k = j + 1 := ⟨k - 1, by omega⟩
  simp only [bn, Nat.add_sub_cancel]
  rw [Nat.mul_comm p, Nat.mul_comm q, Nat.add_comm]
theorem toNat_pred (k : Nat) : ((k : Int) - 1).toNat = k - 1 := by omega
set_option maxRecDepth 4000 in
set_option maxHeartbeats 8000000 in
theorem chances_r (n p : Nat) (w : World) (hn : n ≤ 500) (hp : p ≤ 10000) :
    Calls Tryz.prog 152 #[.int .i64 n, .int .i64 p] w fun e w' => ∃ x : Value × List Value, x.2.length = n + 1 ∧ e = .returned x.1 ∧ St w Cold (.own x.1 67 1 (n + 1) (x.2.flatMap valC) :: rowsD (bn p (10000 - p) n) 0 x.2) w' := by
  have hq : (10000 : Int) - p = ((10000 - p : Nat) : Int) := by omega
  have ht1 := fun A c a w' h1 h => times_r A c a p w' h1 hp h
  have ht2 := fun A c a w' h1 h => times_r A c a (10000 - p) w' h1 (by omega) h
  rw [← hq] at ht2
  refine eng_start (n := 51) (args := [.int .i64 n, .int .i64 p]) tab tab_ok fns fns_ok [.tmp 4] Tryz.func152 rfl rfl rfl rfl ?_
  repeat' (first | (refine gJ ?_; first | refine js rfl rfl rfl rfl ?_ | (refine gF ?_; (refine j_buildSlice rfl rfl rfl rfl rfl rfl rfl rfl rfl rfl rfl rfl ?_; intro b))) | (refine gSC ?_; first | refine sc_mv rfl ?_ | refine sc_region ?_) | (refine gSQ ?_; refine sq_go rfl ?_) | refine j_nil ?_)
  rename_i b1
  refine sc_lit (n := 1) 1 (b := b1) (by (repeat constructor)) rfl (by omega) ?_
  refine sc_lit (n := 1) 1 (b := b) (by (repeat constructor)) rfl (by omega) ?_
  refine sc_loop (ι := Nat × Value × List Value) (fun i => i.1 ≤ n ∧ i.2.2.length = i.1 + 1) (fun i => n - i.1) (fun i => [(0, .int .i64 n), (1, .int .i64 p), (5, i.2.1), (6, .int .i64 i.1)])
    (fun i => .own i.2.1 67 1 (i.1 + 1) (i.2.2.flatMap valC) :: rowsD (bn p (10000 - p) i.1) 0 i.2.2) (0, .slice (some ⟨b, 0, none⟩) 1 1, [.slice (some ⟨b1, 0, none⟩) 1 1]) ⟨Nat.zero_le _, rfl⟩ (by repeat (first | exact FSub.nil | refine FSub.cons rfl ?_ | refine FSub.conse rfl (by congr 1; omega) ?_)) (by repeat (first | exact LSub.nil | refine LSub.cons (by repeat (first | exact Rem.here | apply Rem.there)) ?_)) ?_
  rintro ⟨i, lv, rows⟩ ⟨hi, hrl⟩
  dsimp only at hi hrl ⊢
  by_cases hlt : i < n
  · obtain ⟨T, hT⟩ : ∃ T, rowsD (bn p (10000 - p) i) 0 rows = T := ⟨_, rfl⟩
    have hTm : ∀ j v, rows[j]? = some v → haD v (bn p (10000 - p) i j) ∈ T := fun j v hj => by
      have := rowsD_mem (bn p (10000 - p) i) rows 0 j v hj
      rw [Nat.zero_add, hT] at this
      exact this
    rw [hT]
    refine sc_ownq (v := lv) (by (repeat constructor)) (by omega) ?_
    rintro ad0 c0 rfl hc0
    refine sc_own_nil 67 1 ?_
    repeat' (first | (refine gJ ?_; refine js rfl rfl rfl rfl ?_) | (refine gSC ?_; first | refine sc_mv rfl ?_ | refine sc_q rfl ?_ | refine sc_region ?_) | (refine gSQ ?_; refine sq_go rfl ?_) | refine j_nil ?_ | ((refine sc_cond rfl ?_ ?_) <;> intro hc <;> (((try simp only [engHC] at hc) <;> first | (exfalso; omega) | skip))))
    refine sc_loop (ι := Nat × Value × List Value) (fun j => j.1 ≤ i + 2 ∧ j.2.2.length = j.1) (fun j => i + 2 - j.1) (fun j => [(0, .int .i64 n), (1, .int .i64 p), (5, .slice (some ad0) (i + 1) c0), (6, .int .i64 i), (7, j.2.1), (8, .int .i64 j.1)])
      (fun j => .own j.2.1 67 1 j.1 (j.2.2.flatMap valC) :: .own (.slice (some ad0) (i + 1) c0) 67 1 (i + 1) (rows.flatMap valC) :: (T ++ rowsD (bn p (10000 - p) (i + 1)) 0 j.2.2)) (0, .slice none 0 0, []) ⟨Nat.zero_le _, rfl⟩ (by repeat (first | exact FSub.nil | refine FSub.cons rfl ?_ | refine FSub.conse rfl (by congr 1; omega) ?_)) (by dsimp only [rowsD]; rw [List.append_nil]; exact (by repeat (first | exact LSub.refl | refine LSub.cons (by repeat (first | exact Rem.here | apply Rem.there)) ?_ | apply LSub.skip))) ?_
    rintro ⟨k, nv, nrows⟩ ⟨hk, hkl⟩
    dsimp only at hk hkl ⊢
    obtain ⟨U, hU⟩ : ∃ U, rowsD (bn p (10000 - p) (i + 1)) 0 nrows = U := ⟨_, rfl⟩
    rw [hU]
    by_cases hlt2 : k ≤ i + 1
    · have lx := fun m => len_bn (p := p) (m := i) (k := m) hp (by omega)
      have lz := len_bn (p := p) (m := i + 1) (k := k) hp (by omega)
      have hU2 : ∀ x, rowsD (bn p (10000 - p) (i + 1)) 0 (nrows ++ [x]) = U ++ [haD x (bn p (10000 - p) (i + 1) k)] := fun x => by
        rw [rowsD_snoc, hU, hkl, Nat.zero_add]
      have hfin : ∀ x v' L, LSub (haD x (bn p (10000 - p) (i + 1) k) :: .own v' 67 1 (k + 1) ((nrows ++ [x]).flatMap valC) :: .own (.slice (some ad0) (i + 1) c0) 67 1 (i + 1) (rows.flatMap valC) :: (T ++ U)) L →
          LSub (.own v' 67 1 (k + 1) ((nrows ++ [x]).flatMap valC) :: .own (.slice (some ad0) (i + 1) c0) 67 1 (i + 1) (rows.flatMap valC) :: (T ++ rowsD (bn p (10000 - p) (i + 1)) 0 (nrows ++ [x]))) L := fun x v' L h => by
        rw [hU2, ← List.append_assoc]
        exact h.perm ((List.perm_append_comm (l₁ := [haD x (bn p (10000 - p) (i + 1) k)])).trans (List.Perm.refl _))
      have hsn : ∀ x, nrows.flatMap valC ++ [x] = (nrows ++ [x]).flatMap valC := fun x => by rw [List.flatMap_append]; rfl
      by_cases hk0 : k = 0
      · subst hk0
        obtain ⟨v1, hv1⟩ : ∃ v, rows[0]? = some v := ⟨_, List.getElem?_eq_getElem (by omega)⟩
        have hm1 := hTm 0 v1 hv1
        have e1 : bn p (10000 - p) i 0 * (10000 - p) = bn p (10000 - p) (i + 1) 0 := by simp only [bn]; exact Nat.mul_comm _ _
        have lx0 := lx 0
        generalize bn p (10000 - p) i 0 = X at *
        generalize bn p (10000 - p) (i + 1) 0 = Z at *
        refine sc_owns (v := v1) (inL_mem (List.mem_cons_of_mem _ (List.mem_cons_of_mem _ (List.mem_append_left _ hm1)))) ?_
        rintro A1 c1 rfl hsl1
        have hc1 := fun w' (h : SD w' A1 c1 X) => by have h9 := ht2 A1 c1 X w' (by omega) h; rw [e1] at h9; exact h9
        repeat' (first | (refine gJ ?_; first | refine js rfl rfl rfl rfl ?_ | refine jar rfl rfl rfl rfl rfl rfl rfl (by omega) ?_ | (refine gcall rfl rfl ?_; (refine j_qc (f := 154) rfl rfl rfl rfl rfl rfl rfl ?_; refine ⟨_, (fun w' hs => trim_d A3 c3 Z w' (sd_own hs (by (repeat constructor)))), ?_⟩)) | (refine j_qe rfl rfl rfl ?_; refine ⟨_, q_row1 (f := valC) rfl rfl rfl rfl (by (repeat constructor)) (fun _ => rfl) hv1 rfl, ?_⟩) | (refine gcall rfl rfl ?_; refine j_dg (f := 159) rfl rfl rfl rfl rfl rfl rfl (fun w' hs => hc1 w' (sd_own hs (inL_mem (List.mem_cons_of_mem _ (List.mem_cons_of_mem _ (List.mem_append_left _ hm1)))))) ?_; intro A3 c3 h3) | (refine gF ?_; first | (refine j_buildSlice rfl rfl rfl rfl rfl rfl rfl rfl rfl rfl rfl rfl ?_; intro b) | (refine j_append rfl rfl rfl rfl rfl rfl rfl rfl rfl rfl rfl (by (repeat constructor)) (by (repeat constructor)) (by rfl) (by rfl) (by omega) (fun _ => by (repeat constructor)) ?_; intro v)) | (refine j_qe rfl rfl rfl ?_; refine ⟨_, q_index_nat rfl rfl rfl rfl rfl (by omega), ?_⟩)) | (refine gSC ?_; first | refine sc_mv rfl ?_ | refine sc_q rfl ?_ | refine sc_region ?_) | (refine gSQ ?_; first | refine sq_go rfl ?_ | refine sq_mv rfl ?_) | refine j_nil ?_ | ((refine sc_cond rfl ?_ ?_) <;> intro hc <;> (first | exact absurd hc (by decide) | ((try simp only [engHC] at hc) <;> first | (exfalso; omega) | skip))))
        refine sq_loop (0 + 1, v, nrows ++ [.slice A3 (dg Z).length c3]) ⟨by show 0 + 1 ≤ i + 2; omega, by simp [hkl]⟩ (by show i + 2 - (0 + 1) < i + 2 - 0; omega) (by repeat (first | exact FSub.nil | refine FSub.cons rfl ?_ | refine FSub.conse rfl (by congr 1; omega) ?_)) (hfin _ _ _ ?_)
        rw [← hsn]
        exact (by repeat (first | exact LSub.refl | refine LSub.cons (by repeat (first | exact Rem.here | apply Rem.there)) ?_ | apply LSub.skip))
      · obtain ⟨v2, hv2⟩ : ∃ v, rows[k - 1]? = some v := ⟨_, List.getElem?_eq_getElem (by omega)⟩
        have hm2 := hTm (k - 1) v2 hv2
        rw [← toNat_pred k] at hv2
        have lx2 := lx (k - 1)
        have e2 := bn_nextD p (10000 - p) i k (by omega)
        by_cases hki : k ≤ i
        · obtain ⟨v1, hv1⟩ : ∃ v, rows[k]? = some v := ⟨_, List.getElem?_eq_getElem (by omega)⟩
          have hm1 := hTm k v1 hv1
          have lx1 := lx k
          have hlex : bn p (10000 - p) i k * (10000 - p) ≤ bn p (10000 - p) (i + 1) k := by rw [e2]; exact Nat.le_add_right _ _
          have hlen1 := dg_le hlex
          generalize bn p (10000 - p) i k = X at *
          generalize bn p (10000 - p) i (k - 1) = Y at *
          generalize bn p (10000 - p) (i + 1) k = Z at *
          refine sc_owns (v := v1) (inL_mem (List.mem_cons_of_mem _ (List.mem_cons_of_mem _ (List.mem_append_left _ hm1)))) ?_
          rintro A1 c1 rfl hsl1
          refine sc_owns (v := v2) (inL_mem (List.mem_cons_of_mem _ (List.mem_cons_of_mem _ (List.mem_append_left _ hm2)))) ?_
          rintro A2 c2 rfl hsl2
          have hc1 := fun w' (h : SD w' A1 c1 X) => ht2 A1 c1 X w' (by omega) h
          have hc2 := fun w' (h : SD w' A2 c2 Y) => ht1 A2 c2 Y w' (by omega) h
          have hc3 := fun A c B d w' h1 h2 => by have h9 := add_r A c (X * (10000 - p)) B d (Y * p) w' (by rw [← e2]; omega) h1 h2; rw [← e2] at h9; exact h9
          repeat' (first | (refine gJ ?_; first | refine js rfl rfl rfl rfl ?_ | refine jar rfl rfl rfl rfl rfl rfl rfl (by omega) ?_ | (refine gcall rfl rfl ?_; (refine j_qc (f := 154) rfl rfl rfl rfl rfl rfl rfl ?_; refine ⟨_, (fun w' hs => trim_d A5 c5 Z w' (sd_own hs (by (repeat constructor)))), ?_⟩)) | (refine j_qe rfl rfl rfl ?_; refine ⟨_, q_row1 (f := valC) rfl rfl rfl rfl (by (repeat constructor)) (fun _ => rfl) hv1 rfl, ?_⟩) | (refine j_qe rfl rfl rfl ?_; refine ⟨_, q_row1 (f := valC) rfl rfl rfl rfl (by (repeat constructor)) (fun _ => rfl) hv2 rfl, ?_⟩) | (refine gcall rfl rfl ?_; refine j_dg (f := 159) rfl rfl rfl rfl rfl rfl rfl (fun w' hs => hc1 w' (sd_own hs (inL_mem (List.mem_cons_of_mem _ (List.mem_cons_of_mem _ (List.mem_append_left _ hm1)))))) ?_; intro A3 c3 h3) | (refine gcall rfl rfl ?_; refine j_dg (f := 159) rfl rfl rfl rfl rfl rfl rfl (fun w' hs => hc2 w' (sd_own hs (inL_mem (List.mem_cons_of_mem _ (List.mem_cons_of_mem _ (List.mem_cons_of_mem _ (List.mem_append_left _ hm2))))))) ?_; intro A4 c4 h4) | (refine gcall rfl rfl ?_; refine j_dg (f := 153) rfl rfl rfl rfl rfl rfl rfl (fun w' hs => hc3 A3 c3 A4 c4 w' (sd_own hs (by (repeat constructor))) (sd_own hs (by (repeat constructor)))) ?_; intro A5 c5 h5) | (refine gF ?_; first | (refine j_buildSlice rfl rfl rfl rfl rfl rfl rfl rfl rfl rfl rfl rfl ?_; intro b) | (refine j_append rfl rfl rfl rfl rfl rfl rfl rfl rfl rfl rfl (by (repeat constructor)) (by (repeat constructor)) (by rfl) (by rfl) (by omega) (fun _ => by (repeat constructor)) ?_; intro v)) | (refine j_qe rfl rfl rfl ?_; first | refine ⟨_, q_index_nat rfl rfl rfl rfl rfl (by omega), ?_⟩ | refine ⟨_, q_index_slice rfl rfl rfl rfl rfl (by omega), ?_⟩)) | (refine gSC ?_; first | refine sc_mv rfl ?_ | refine sc_q rfl ?_ | refine sc_region ?_) | (refine gSQ ?_; first | refine sq_go rfl ?_ | refine sq_mv rfl ?_) | refine j_nil ?_ | ((refine sc_cond rfl ?_ ?_) <;> intro hc <;> (((try simp only [engHC] at hc) <;> first | (exfalso; omega) | skip))))
          refine sq_loop (k + 1, v, nrows ++ [.slice A5 (dg Z).length c5]) ⟨by show k + 1 ≤ i + 2; omega, by simp [hkl]⟩ (by show i + 2 - (k + 1) < i + 2 - k; omega) (by repeat (first | exact FSub.nil | refine FSub.cons rfl ?_ | refine FSub.conse rfl (by congr 1; omega) ?_)) (hfin _ _ _ ?_)
          rw [← hsn]
          exact (by repeat (first | exact LSub.refl | refine LSub.cons (by repeat (first | exact Rem.here | apply Rem.there)) ?_ | apply LSub.skip))
        · obtain rfl : k = i + 1 := by omega
          rw [bn_zero p (10000 - p) i (i + 1) (by omega), Nat.zero_mul] at e2
          generalize bn p (10000 - p) i (i + 1 - 1) = Y at *
          generalize bn p (10000 - p) (i + 1) (i + 1) = Z at *
          refine sc_owns (v := v2) (inL_mem (List.mem_cons_of_mem _ (List.mem_cons_of_mem _ (List.mem_append_left _ hm2)))) ?_
          rintro A2 c2 rfl hsl2
          have hc2 := fun w' (h : SD w' A2 c2 Y) => ht1 A2 c2 Y w' (by omega) h
          have hc3 := fun B d w' h2 => by have h9 := add_r none 0 0 B d (Y * p) w' (by rw [← e2]; omega) sd_nil h2; rw [← e2] at h9; exact h9
          repeat' (first | (refine gJ ?_; first | refine js rfl rfl rfl rfl ?_ | refine jar rfl rfl rfl rfl rfl rfl rfl (by omega) ?_ | (refine gcall rfl rfl ?_; (refine j_qc (f := 154) rfl rfl rfl rfl rfl rfl rfl ?_; refine ⟨_, (fun w' hs => trim_d A5 c5 Z w' (sd_own hs (by (repeat constructor)))), ?_⟩)) | (refine j_qe rfl rfl rfl ?_; refine ⟨_, q_row1 (f := valC) rfl rfl rfl rfl (by (repeat constructor)) (fun _ => rfl) hv2 rfl, ?_⟩) | (refine gcall rfl rfl ?_; refine j_dg (f := 159) rfl rfl rfl rfl rfl rfl rfl (fun w' hs => hc2 w' (sd_own hs (inL_mem (List.mem_cons_of_mem _ (List.mem_cons_of_mem _ (List.mem_append_left _ hm2)))))) ?_; intro A4 c4 h4) | (refine gcall rfl rfl ?_; refine j_dg (f := 153) rfl rfl rfl rfl rfl rfl rfl (fun w' hs => hc3 A4 c4 w' (sd_own hs (by (repeat constructor)))) ?_; intro A5 c5 h5) | (refine gF ?_; first | (refine j_buildSlice rfl rfl rfl rfl rfl rfl rfl rfl rfl rfl rfl rfl ?_; intro b) | (refine j_append rfl rfl rfl rfl rfl rfl rfl rfl rfl rfl rfl (by (repeat constructor)) (by (repeat constructor)) (by rfl) (by rfl) (by omega) (fun _ => by (repeat constructor)) ?_; intro v)) | (refine j_qe rfl rfl rfl ?_; refine ⟨_, q_index_slice rfl rfl rfl rfl rfl (by omega), ?_⟩)) | (refine gSC ?_; first | refine sc_mv rfl ?_ | refine sc_q rfl ?_ | refine sc_region ?_) | (refine gSQ ?_; first | refine sq_go rfl ?_ | refine sq_mv rfl ?_) | refine j_nil ?_ | ((refine sc_cond rfl ?_ ?_) <;> intro hc <;> (((try simp only [engHC] at hc) <;> first | (exfalso; omega) | skip))))
          refine sq_loop (i + 1 + 1, v, nrows ++ [.slice A5 (dg Z).length c5]) ⟨by show i + 1 + 1 ≤ i + 2; omega, by simp [hkl]⟩ (by show i + 2 - (i + 1 + 1) < i + 2 - (i + 1); omega) (by repeat (first | exact FSub.nil | refine FSub.cons rfl ?_ | refine FSub.conse rfl (by congr 1; omega) ?_)) (hfin _ _ _ ?_)
          rw [← hsn]
          exact (by repeat (first | exact LSub.refl | refine LSub.cons (by repeat (first | exact Rem.here | apply Rem.there)) ?_ | apply LSub.skip))
    · obtain rfl : k = i + 2 := by omega
      repeat' (first | (refine gJ ?_; first | refine js rfl rfl rfl rfl ?_ | refine jar rfl rfl rfl rfl rfl rfl rfl (by omega) ?_) | (refine gSC ?_; first | refine sc_mv rfl ?_ | refine sc_q rfl ?_ | refine sc_region ?_) | (refine gSQ ?_; first | refine sq_go rfl ?_ | refine sq_mv rfl ?_) | refine j_nil ?_ | ((refine sc_cond rfl ?_ ?_) <;> intro hc <;> (((try simp only [engHC] at hc) <;> first | (exfalso; omega) | skip))))
      refine sq_loop (i + 1, nv, nrows) ⟨by show i + 1 ≤ n; omega, hkl⟩ (by show n - (i + 1) < n - i; omega) (by repeat (first | exact FSub.nil | refine FSub.cons rfl ?_ | refine FSub.conse rfl (by congr 1; omega) ?_)) ?_
      dsimp only
      rw [hU]
      exact LSub.cons (by repeat (first | exact Rem.here | apply Rem.there)) (LSub.skip LSub.right)
  · obtain rfl : i = n := by omega
    repeat' (first | (refine gJ ?_; refine js rfl rfl rfl rfl ?_) | (refine gSC ?_; first | refine sc_mv rfl ?_ | refine sc_q rfl ?_ | refine sc_region ?_) | (refine gSQ ?_; first | refine sq_go rfl ?_ | refine sq_mv rfl ?_ | refine sq_ende (by first | exact .inl rfl | exact .inr rfl) rfl rfl ⟨_, (RVs.cons (RV.tmp rfl) (RVs.nil)), ?_⟩) | refine j_nil ?_ | ((refine sc_cond rfl ?_ ?_) <;> intro hc <;> (((try simp only [engHC] at hc) <;> first | (exfalso; omega) | skip))))
    intro w' hS
    exact ⟨(lv, rows), hrl, rfl, hS⟩
end Go.Proofs.YtmakokbpadmfbaaGreat


/-
  The reference: sum.
-/
namespace Go.Proofs.YtmakokbpadmfbaaGreat
open Go.RowKit Eng
set_option linter.unusedVariables false
set_option linter.unusedSimpArgs false
set_option maxHeartbeats 8000000
attribute [local irreducible] SC SQ J Qt Calls Iterates LSub FSub
theorem plain_rowsD (f : Nat → Nat) : ∀ (vs : List Value) (k : Nat), plainHA (rowsD f k vs)
  | [], k => trivial
  | v :: vs, k => plain_rowsD f vs (k + 1)
theorem len_part {p n f i : Nat} (hp : p ≤ 10000) (hn : n ≤ 500) : (dg (part p (10000 - p) n f i)).length ≤ 1000 := by
  refine Nat.le_trans (dg_le (part_le _ _ _ _ _)) ?_
  rw [show p + (10000 - p) = 10000 by omega, ← bn_last 10000 (10000 - 10000) n]
  exact len_bn (by omega) (by omega)
set_option maxRecDepth 4000 in
set_option maxHeartbeats 8000000 in
theorem sum_r (n p f t : Nat) (w : World) (hn : n ≤ 500) (hp : p ≤ 10000) (hft : f ≤ t) (ht : t ≤ n) :
    Calls Tryz.prog 135 #[.int .i64 n, .int .i64 p, .int .i64 f, .int .i64 t] w fun e w' => ∃ v : Value, True ∧ e = .returned v ∧ St w Cold [haD v (part p (10000 - p) n f (t + 1))] w' := by
  refine eng_start (n := 29) (args := [.int .i64 n, .int .i64 p, .int .i64 f, .int .i64 t]) tab tab_ok fns fns_ok [.tmp 8] Tryz.func135 rfl rfl rfl rfl ?_
  repeat' (first | (refine gJ ?_; first | refine js rfl rfl rfl rfl ?_ | (refine gcall rfl rfl ?_; refine gF ?_; refine j_callN (f := 152) (ξ := Value × List Value) rfl rfl rfl rfl rfl rfl rfl (fun x => x.1) (fun x => x.2.length = n + 1) (fun x => .own x.1 67 1 (n + 1) (x.2.flatMap valC) :: rowsD (bn p (10000 - p) n) 0 x.2) (fun w' hs => chances_r n p w' hn hp) (fun x => plain_rowsD _ _ _) ?_; rintro ⟨lv, rows⟩ hrl)) | (refine gSC ?_; first | refine sc_mv rfl ?_ | refine sc_region ?_) | (refine gSQ ?_; refine sq_go rfl ?_) | refine j_nil ?_)
  dsimp only at hrl ⊢
  obtain ⟨T, hT⟩ : ∃ T, rowsD (bn p (10000 - p) n) 0 rows = T := ⟨_, rfl⟩
  have hTm : ∀ j v, rows[j]? = some v → haD v (bn p (10000 - p) n j) ∈ T := fun j v hj => by
    have := rowsD_mem (bn p (10000 - p) n) rows 0 j v hj
    rw [Nat.zero_add, hT] at this
    exact this
  rw [hT]
  have hlp := fun i => len_part (p := p) (n := n) (f := f) (i := i) hp hn
  have hps : ∀ i, f ≤ i → part p (10000 - p) n f i + bn p (10000 - p) n i = part p (10000 - p) n f (i + 1) := fun i hi => by rw [part, if_pos hi]
  have hp0 : part p (10000 - p) n f f = 0 := part_low _ _ _ _ _ (Nat.le_refl _)
  generalize part p (10000 - p) n f = S at *
  refine sc_ownq (v := lv) (by (repeat constructor)) (by omega) ?_
  rintro ad0 c0 rfl hc0
  refine sc_own_nil 3 1 ?_
  refine sc_loop (ι := Nat × Option Addr × Nat) (fun i => f ≤ i.1 ∧ i.1 ≤ t + 1) (fun i => t + 1 - i.1) (fun i => [(3, .int .i64 t), (9, .slice (some ad0) (n + 1) c0), (10, .slice i.2.1 (dg (S i.1)).length i.2.2), (11, .int .i64 i.1)])
    (fun i => haD (.slice i.2.1 (dg (S i.1)).length i.2.2) (S i.1) :: .own (.slice (some ad0) (n + 1) c0) 67 1 (n + 1) (rows.flatMap valC) :: T) (f, none, 0) ⟨Nat.le_refl _, by omega⟩ (by dsimp only; rw [hp0]; exact (by repeat (first | exact FSub.nil | refine FSub.cons rfl ?_ | refine FSub.conse rfl (by congr 1; omega) ?_))) (by dsimp only; rw [hp0]; exact LSub.cons (by repeat (first | exact Rem.here | apply Rem.there)) (LSub.cons (by repeat (first | exact Rem.here | apply Rem.there)) LSub.left)) ?_
  rintro ⟨i, A, c⟩ ⟨hfi, hi⟩
  dsimp only at hfi hi ⊢
  by_cases hlt : i ≤ t
  · obtain ⟨v1, hv1⟩ : ∃ v, rows[i]? = some v := ⟨_, List.getElem?_eq_getElem (by omega)⟩
    have hm1 := hTm i v1 hv1
    have hs1 := hps i hfi
    have hl1 := hlp (i + 1)
    generalize bn p (10000 - p) n i = X at *
    refine sc_owns (v := v1) (inL_mem (List.mem_cons_of_mem _ (List.mem_cons_of_mem _ hm1))) ?_
    rintro A1 c1 rfl hsl1
    have hc3 := fun w' h1 h2 => by have h9 := add_r A c (S i) A1 c1 X w' (by rw [hs1]; omega) h1 h2; rw [hs1] at h9; exact h9
    repeat' (first | (refine gJ ?_; first | refine js rfl rfl rfl rfl ?_ | refine jar rfl rfl rfl rfl rfl rfl rfl (by omega) ?_ | (refine j_qe rfl rfl rfl ?_; refine ⟨_, q_row1 (f := valC) rfl rfl rfl rfl (by (repeat constructor)) (fun _ => rfl) hv1 rfl, ?_⟩) | (refine gcall rfl rfl ?_; refine j_dg (f := 153) rfl rfl rfl rfl rfl rfl rfl (fun w' hs => hc3 w' (sd_own hs (by (repeat constructor))) (sd_own hs (inL_mem (List.mem_cons_of_mem _ (List.mem_cons_of_mem _ hm1))))) ?_; intro A5 c5 h5) | (refine j_qe rfl rfl rfl ?_; refine ⟨_, q_index_nat rfl rfl rfl rfl rfl (by omega), ?_⟩)) | (refine gSC ?_; first | refine sc_mv rfl ?_ | refine sc_q rfl ?_ | refine sc_region ?_) | (refine gSQ ?_; first | refine sq_go rfl ?_ | refine sq_mv rfl ?_) | refine j_nil ?_ | ((refine sc_cond rfl ?_ ?_) <;> intro hc <;> (((try simp only [engHC] at hc) <;> first | (exfalso; omega) | skip))))
    refine sq_loop (i + 1, A5, c5) ⟨by show f ≤ i + 1; omega, by show i + 1 ≤ t + 1; omega⟩ (by show t + 1 - (i + 1) < t + 1 - i; omega) (by repeat (first | exact FSub.nil | refine FSub.cons rfl ?_ | refine FSub.conse rfl (by congr 1; omega) ?_)) ?_
    exact (by repeat (first | exact LSub.refl | refine LSub.cons (by repeat (first | exact Rem.here | apply Rem.there)) ?_ | apply LSub.skip))
  · obtain rfl : i = t + 1 := by omega
    repeat' (first | (refine gJ ?_; first | refine js rfl rfl rfl rfl ?_ | (refine gcall rfl rfl ?_; (refine j_qc (f := 154) rfl rfl rfl rfl rfl rfl rfl ?_; refine ⟨_, (fun w' hs => trim_d A c (S (t + 1)) w' (sd_own hs (by (repeat constructor)))), ?_⟩))) | (refine gSC ?_; first | refine sc_mv rfl ?_ | refine sc_q rfl ?_ | refine sc_region ?_) | (refine gSQ ?_; first | refine sq_go rfl ?_ | refine sq_mv rfl ?_ | refine sq_ende (by first | exact .inl rfl | exact .inr rfl) rfl rfl ⟨_, (RVs.cons (RV.tmp rfl) (RVs.nil)), ?_⟩) | refine j_nil ?_ | ((refine sc_cond rfl ?_ ?_) <;> intro hc <;> (((try simp only [engHC] at hc) <;> first | (exfalso; omega) | skip))))
    intro w' hS
    exact ⟨.slice A (dg (S (t + 1))).length c, trivial, rfl, hS.sub (by repeat (first | exact LSub.nil | refine LSub.cons (by repeat (first | exact Rem.here | apply Rem.there)) ?_))⟩
end Go.Proofs.YtmakokbpadmfbaaGreat


/-
  The reference: Chance, Upper, Lower, exceeds, Least, Greatest.
-/
namespace Go.Proofs.YtmakokbpadmfbaaGreat
open Go.RowKit Eng
set_option linter.unusedVariables false
set_option linter.unusedSimpArgs false
set_option maxHeartbeats 8000000
attribute [local irreducible] SC SQ J Qt Calls Iterates LSub FSub
set_option exponentiation.threshold 600
theorem wrong_r (n k x lo hi : Int) (w : World) :
    Calls Tryz.prog 133 #[.int .i64 n, .int .i64 k, .int .i64 x, .int .i64 lo, .int .i64 hi] w fun e w' => e = .returned (.int .i64 (checkF n k x lo hi)) ∧ Below w.heap.size w w' := by
  refine eng_start (n := 30) (args := [.int .i64 n, .int .i64 k, .int .i64 x, .int .i64 lo, .int .i64 hi]) tab tab_ok fns fns_ok [.tmp 10] Tryz.func133 rfl rfl rfl rfl ?_
  repeat' (first | (refine gJ ?_; refine js rfl rfl rfl rfl ?_) | (refine gSC ?_; first | refine sc_mv rfl ?_ | refine sc_q rfl ?_ | refine sc_region ?_) | (refine gSQ ?_; first | refine sq_go rfl ?_ | refine sq_mv rfl ?_ | refine sq_ende (by first | exact .inl rfl | exact .inr rfl) rfl rfl ⟨_, (RVs.cons (RV.tmp rfl) (RVs.nil)), ?_⟩) | refine j_nil ?_ | ((first | refine j_guard rfl rfl rfl rfl rfl ?_ ?_ | refine sc_cond rfl ?_ ?_) <;> intro hc <;> (first | exact absurd hc (by decide) | ((try simp only [engHC] at hc) <;> skip))))
  all_goals ((intro w' hS; refine ⟨?_, hS.below⟩; simp only [pack]); refine ri ?_; unfold checkF; (repeat' split) <;> simp_all <;> omega)
theorem exc_long {s n r : Nat} (hr : r < 10000) (h : n < (dg s).length) : excB s n r = true := by
  unfold excB
  rw [decide_eq_true_eq]
  have h1 : ¬ s < 10000 ^ n := fun h2 => by have := (dg_len s n).2 h2; omega
  have h0 : 0 < 10000 ^ n := Nat.pow_pos (by omega)
  have h2 : r * 10000 ^ n < 10000 * 10000 ^ n := Nat.mul_lt_mul_of_pos_right hr h0
  have h3 : 10000 * 10000 ^ n ≤ 10000 * s := Nat.mul_le_mul_left _ (by omega)
  rw [Nat.mul_comm s]
  omega
theorem exc_zero {s r : Nat} (hr : r < 10000) : excB s 0 r = decide (0 < (dg s).length) := by
  have h1 := dg_len s 0
  unfold excB
  rw [decide_eq_decide]
  simp only [Nat.pow_zero, Nat.mul_one] at *
  omega
theorem exc_short {s n r : Nat} (hr : 0 < r) (h : (dg s).length < n) : excB s n r = false := by
  unfold excB
  rw [decide_eq_false_iff_not]
  obtain ⟨m, rfl⟩ : ∃ m, n = m + 1 := ⟨n - 1, by omega⟩
  have h1 := (dg_len s m).1 (by omega)
  have h2 : 1 * 10000 ^ (m + 1) ≤ r * 10000 ^ (m + 1) := Nat.mul_le_mul_right _ hr
  rw [Nat.pow_succ] at *
  omega
theorem exc_top {s m r d : Nat} (h : (dg s).length = m + 1) (hd : (dg s)[m]? = some d) : (r < d → excB s (m + 1) r = true) ∧ (d < r → excB s (m + 1) r = false) ∧ (d = r → (excB s (m + 1) r = decide (0 < s % 10000 ^ m))) := by
  have h1 := dg_get (n := s) (i := m) (by omega)
  rw [hd] at h1
  injection h1 with h1
  have h2 := (dg_len s (m + 1)).1 (by omega)
  have h3 : 0 < 10000 ^ m := Nat.pow_pos (by omega)
  have h4 := Nat.div_add_mod s (10000 ^ m)
  have h5 := Nat.mod_lt s h3
  rw [Nat.pow_succ] at h2
  have h6 : s / 10000 ^ m < 10000 := by rw [Nat.div_lt_iff_lt_mul h3, Nat.mul_comm]; exact h2
  rw [Nat.mod_eq_of_lt h6] at h1
  unfold excB
  rw [Nat.pow_succ]
  rw [← h1] at h4
  generalize s % 10000 ^ m = t at *
  generalize 10000 ^ m = P at *
  clear h1 h2 h6
  subst h4
  refine ⟨fun hlt => ?_, fun hlt => ?_, fun he => ?_⟩
  · rw [decide_eq_true_eq]
    have : P * (r + 1) ≤ P * d := Nat.mul_le_mul_left _ hlt
    rw [Nat.mul_add, Nat.mul_one] at this
    rw [← Nat.mul_assoc, Nat.mul_comm r P]
    omega
  · rw [decide_eq_false_iff_not]
    have : P * (d + 1) ≤ P * r := Nat.mul_le_mul_left _ hlt
    rw [Nat.mul_add, Nat.mul_one] at this
    rw [← Nat.mul_assoc, Nat.mul_comm r P]
    omega
  · subst he
    rw [decide_eq_decide, ← Nat.mul_assoc, Nat.mul_comm d P]
    omega
theorem mod_zero {s : Nat} : ∀ k, (∀ i, i < k → s / 10000 ^ i % 10000 = 0) → s % 10000 ^ k = 0
  | 0, _ => by simp [Nat.mod_one]
  | k + 1, h => by rw [Nat.mod_pow_succ, mod_zero k (fun i hi => h i (by omega)), h k (by omega)]; simp
theorem mod_pos {s k i : Nat} (hi : i < k) (h : 0 < s / 10000 ^ i % 10000) : 0 < s % 10000 ^ k := by
  rcases Nat.eq_zero_or_pos (s % 10000 ^ k) with h0 | h0
  · exfalso
    have h1 : s % 10000 ^ (i + 1) = 0 := by
      have hd : 10000 ^ (i + 1) ∣ 10000 ^ k := Nat.pow_dvd_pow _ hi
      have := Nat.mod_mod_of_dvd s hd
      rw [h0] at this
      rw [← this]
      exact Nat.zero_mod _
    rw [Nat.mod_pow_succ] at h1
    have h3 : 0 < 10000 ^ i := Nat.pow_pos (by omega)
    have h4 : 10000 ^ i * (s / 10000 ^ i % 10000) = 0 := by omega
    rcases Nat.mul_eq_zero.1 h4 with h5 | h5 <;> omega
  · exact h0
set_option maxHeartbeats 4000000 in
theorem exceeds_r (A : Option Addr) (c s n r : Nat) (w : World) (hn : n ≤ 500) (hr : 1 ≤ r ∧ r ≤ 2000) (hA : SD w A c s) :
    Calls Tryz.prog 134 #[.slice A (dg s).length c, .int .i64 n, .int .i64 r] w fun e w' => e = .returned (.bool (excB s n r)) ∧ Below w.heap.size w w' := by
  obtain ⟨hRa, -⟩ := hA
  by_cases h1 : n = 0 ∨ n < (dg s).length
  · have hb : excB s n r = decide (0 < (dg s).length) := by
      rcases h1 with rfl | h1
      · exact exc_zero (by omega)
      · rw [exc_long (by omega) h1, eq_comm, decide_eq_true_eq]
        omega
    rw [hb]
    generalize (dg s).length = l at *
    refine eng_start (n := 56) (args := [.slice A l c, .int .i64 n, .int .i64 r]) tab tab_ok fns fns_ok [.tmp 6] Tryz.func134 rfl rfl rfl rfl ?_
    repeat' (first | (refine gJ ?_; first | refine js rfl rfl rfl rfl ?_ | (refine j_qe rfl rfl rfl ?_; refine ⟨_, q_len_slice rfl rfl rfl rfl, ?_⟩)) | (refine gSC ?_; first | refine sc_mv rfl ?_ | refine sc_q rfl ?_ | refine sc_region ?_) | (refine gSQ ?_; first | refine sq_go rfl ?_ | refine sq_mv rfl ?_ | refine sq_ende (by first | exact .inl rfl | exact .inr rfl) rfl rfl ⟨_, (RVs.cons (RV.tmp rfl) (RVs.nil)), ?_⟩) | refine j_nil ?_ | ((first | refine j_guard rfl rfl rfl rfl rfl ?_ ?_ | refine sc_cond rfl ?_ ?_) <;> intro hc <;> (first | exact absurd hc (by decide) | ((try simp only [engHC] at hc) <;> first | (exfalso; omega) | skip))))
    all_goals ((intro w' hS; refine ⟨?_, hS.below⟩; simp only [pack]); first | done | exact rb (by first | (simp; done) | (simp; omega)))
  · by_cases h2 : (dg s).length < n
    · rw [exc_short (by omega) h2]
      generalize (dg s).length = l at *
      refine eng_start (n := 56) (args := [.slice A l c, .int .i64 n, .int .i64 r]) tab tab_ok fns fns_ok [.tmp 6] Tryz.func134 rfl rfl rfl rfl ?_
      repeat' (first | (refine gJ ?_; first | refine js rfl rfl rfl rfl ?_ | (refine j_qe rfl rfl rfl ?_; refine ⟨_, q_len_slice rfl rfl rfl rfl, ?_⟩)) | (refine gSC ?_; first | refine sc_mv rfl ?_ | refine sc_q rfl ?_ | refine sc_region ?_) | (refine gSQ ?_; first | refine sq_go rfl ?_ | refine sq_mv rfl ?_ | refine sq_ende (by first | exact .inl rfl | exact .inr rfl) rfl rfl ⟨_, (RVs.cons (RV.tmp rfl) (RVs.nil)), ?_⟩) | refine j_nil ?_ | ((first | refine j_guard rfl rfl rfl rfl rfl ?_ ?_ | refine sc_cond rfl ?_ ?_) <;> intro hc <;> (first | exact absurd hc (by decide) | ((try simp only [engHC] at hc) <;> first | (exfalso; omega) | skip))))
      all_goals ((intro w' hS; refine ⟨?_, hS.below⟩; simp only [pack]); first | done | exact rb (by first | (simp; done) | (simp; omega)))
    · obtain ⟨m, rfl⟩ : ∃ m, n = m + 1 := ⟨n - 1, by omega⟩
      have hl : (dg s).length = m + 1 := by omega
      obtain ⟨d, hd⟩ : ∃ d, (dg s)[m]? = some d := ⟨_, List.getElem?_eq_getElem (by omega)⟩
      have ht := exc_top (r := r) hl hd
      have hdi := dg_in s d (List.mem_of_getElem? hd)
      have hget := fun i (hi : i < m + 1) => dg_get (n := s) (i := i) (by omega)
      have hin := dg_in s
      obtain ⟨ad, rfl, hX⟩ := hRa m d hd
      rw [hl]
      have e1 : m = (((m + 1 : Nat) : Int) - 1).toNat := by omega
      rw [e1] at hX
      clear h1 h2
      rcases Nat.lt_trichotomy d r with hlt | heq | hgt
      · rw [ht.2.1 hlt]
        refine eng_start (n := 56) (args := [.slice (some ad) (m + 1) c, .int .i64 ((m + 1 : Nat) : Int), .int .i64 r]) tab tab_ok fns fns_ok [.tmp 6] Tryz.func134 rfl rfl rfl rfl ?_
        repeat' (first | (refine gJ ?_; first | refine js rfl rfl rfl rfl ?_ | (refine gload rfl rfl ?_; refine j_qe rfl rfl rfl ?_; refine ⟨_, q_load_ext0 rfl rfl rfl rfl ⟨by assumption, (by first | exact id | assumption)⟩ (by rfl), ?_⟩) | refine jar rfl rfl rfl rfl rfl rfl rfl (by omega) ?_ | (refine j_qe rfl rfl rfl ?_; first | refine ⟨_, q_index_slice rfl rfl rfl rfl rfl (by omega), ?_⟩ | refine ⟨_, q_len_slice rfl rfl rfl rfl, ?_⟩)) | (refine gSC ?_; first | refine sc_mv rfl ?_ | refine sc_q rfl ?_ | refine sc_region ?_) | (refine gSQ ?_; first | refine sq_go rfl ?_ | refine sq_mv rfl ?_ | refine sq_ende (by first | exact .inl rfl | exact .inr rfl) rfl rfl ⟨_, (RVs.cons (RV.tmp rfl) (RVs.nil)), ?_⟩) | refine j_nil ?_ | ((first | refine j_guard rfl rfl rfl rfl rfl ?_ ?_ | refine sc_cond rfl ?_ ?_) <;> intro hc <;> (first | exact absurd hc (by decide) | ((try simp only [engHC] at hc) <;> first | (exfalso; omega) | exact absurd trivial hc | skip))))
        all_goals ((intro w' hS; refine ⟨?_, hS.below⟩; simp only [pack]); first | done | exact rb (by first | (simp; done) | (simp; omega)))
      · rw [ht.2.2 heq]
        subst heq
        refine eng_start (n := 56) (args := [.slice (some ad) (m + 1) c, .int .i64 ((m + 1 : Nat) : Int), .int .i64 d]) tab tab_ok fns fns_ok [.tmp 6] Tryz.func134 rfl rfl rfl rfl ?_
        repeat' (first | (refine gJ ?_; first | refine js rfl rfl rfl rfl ?_ | (refine gload rfl rfl ?_; refine j_qe rfl rfl rfl ?_; refine ⟨_, q_load_ext0 rfl rfl rfl rfl ⟨by assumption, (by first | exact id | assumption)⟩ (by rfl), ?_⟩) | refine jar rfl rfl rfl rfl rfl rfl rfl (by omega) ?_ | (refine j_qe rfl rfl rfl ?_; first | refine ⟨_, q_index_slice rfl rfl rfl rfl rfl (by omega), ?_⟩ | refine ⟨_, q_len_slice rfl rfl rfl rfl, ?_⟩)) | (refine gSC ?_; first | refine sc_mv rfl ?_ | refine sc_q rfl ?_ | refine sc_region ?_) | (refine gSQ ?_; refine sq_go rfl ?_) | refine j_nil ?_ | ((first | refine j_guard rfl rfl rfl rfl rfl ?_ ?_ | refine sc_cond rfl ?_ ?_) <;> intro hc <;> (first | exact absurd hc (by decide) | ((try simp only [engHC] at hc) <;> first | (exfalso; omega) | exact absurd trivial hc | skip))))
        refine sc_loop (ι := Nat) (fun i => i ≤ m ∧ ∀ j, j < i → s / 10000 ^ j % 10000 = 0) (fun i => m - i) (fun i => [(0, .slice (some ad) (m + 1) c), (1, .int .i64 ((m + 1 : Nat) : Int)), (7, .int .i64 i)]) (fun _ => []) 0 ⟨Nat.zero_le _, fun j hj => by omega⟩ (by repeat (first | exact FSub.nil | refine FSub.cons rfl ?_ | refine FSub.conse rfl (by congr 1; omega) ?_)) (by repeat (first | exact LSub.nil | refine LSub.cons (by repeat (first | exact Rem.here | apply Rem.there)) ?_)) ?_
        rintro i ⟨hi, hz⟩
        by_cases him : i < m
        · have hgi := hget i (by omega)
          have hmp := fun h => mod_pos (s := s) him h
          have hnx : ∀ z, s / 10000 ^ i % 10000 = z → z = 0 → ∀ j, j < i + 1 → s / 10000 ^ j % 10000 = 0 := fun z hz1 hz2 j hj => by
            rcases Nat.lt_or_ge j i with h | h
            · exact hz j h
            · rw [show j = i by omega, hz1, hz2]
          generalize s / 10000 ^ i % 10000 = z at *
          obtain ⟨ad2, e2, hZ⟩ := hRa i z hgi
          obtain rfl : ad = ad2 := by injection e2
          by_cases hz0 : z = 0
          · subst hz0
            repeat' (first | (refine gJ ?_; first | refine js rfl rfl rfl rfl ?_ | (refine gload rfl rfl ?_; refine j_qe rfl rfl rfl ?_; refine ⟨_, q_load_ext0 rfl rfl rfl rfl ⟨by assumption, (by first | exact id | assumption)⟩ (by rfl), ?_⟩) | refine jar rfl rfl rfl rfl rfl rfl rfl (by omega) ?_ | (refine j_qe rfl rfl rfl ?_; refine ⟨_, q_index_nat rfl rfl rfl rfl rfl (by omega), ?_⟩)) | (refine gSC ?_; first | refine sc_mv rfl ?_ | refine sc_q rfl ?_ | refine sc_region ?_) | (refine gSQ ?_; first | refine sq_go rfl ?_ | refine sq_mv rfl ?_) | refine j_nil ?_ | ((refine sc_cond rfl ?_ ?_) <;> intro hc <;> (first | exact absurd hc (by decide) | ((try simp only [engHC] at hc) <;> first | (exfalso; omega) | skip))))
            exact sq_loop (i + 1) ⟨by omega, hnx 0 rfl rfl⟩ (by omega) (by repeat (first | exact FSub.nil | refine FSub.cons rfl ?_ | refine FSub.conse rfl (by congr 1; omega) ?_)) (by repeat (first | exact LSub.nil | refine LSub.cons (by repeat (first | exact Rem.here | apply Rem.there)) ?_))
          · repeat' (first | (refine gJ ?_; first | refine js rfl rfl rfl rfl ?_ | (refine gload rfl rfl ?_; refine j_qe rfl rfl rfl ?_; refine ⟨_, q_load_ext0 rfl rfl rfl rfl ⟨by assumption, (by first | exact id | assumption)⟩ (by rfl), ?_⟩) | refine jar rfl rfl rfl rfl rfl rfl rfl (by omega) ?_ | (refine j_qe rfl rfl rfl ?_; refine ⟨_, q_index_nat rfl rfl rfl rfl rfl (by omega), ?_⟩)) | (refine gSC ?_; first | refine sc_mv rfl ?_ | refine sc_q rfl ?_ | refine sc_region ?_) | (refine gSQ ?_; first | refine sq_go rfl ?_ | refine sq_mv rfl ?_ | refine sq_ende (by first | exact .inl rfl | exact .inr rfl) rfl rfl ⟨_, (RVs.cons (RV.tmp rfl) (RVs.nil)), ?_⟩) | refine j_nil ?_ | ((refine sc_cond rfl ?_ ?_) <;> intro hc <;> (((try simp only [engHC] at hc) <;> first | (exfalso; omega) | skip))))
            (intro w' hS; refine ⟨?_, hS.below⟩; simp only [pack])
            exact rb (decide_eq_true (hmp (by omega))).symm
        · obtain rfl : i = m := by omega
          have hz9 := mod_zero i hz
          repeat' (first | (refine gJ ?_; first | refine js rfl rfl rfl rfl ?_ | refine jar rfl rfl rfl rfl rfl rfl rfl (by omega) ?_) | (refine gSC ?_; first | refine sc_mv rfl ?_ | refine sc_q rfl ?_ | refine sc_region ?_) | (refine gSQ ?_; first | refine sq_go rfl ?_ | refine sq_mv rfl ?_ | refine sq_ende (by first | exact .inl rfl | exact .inr rfl) rfl rfl ⟨_, (RVs.cons (RV.tmp rfl) (RVs.nil)), ?_⟩) | refine j_nil ?_ | ((refine sc_cond rfl ?_ ?_) <;> intro hc <;> (((try simp only [engHC] at hc) <;> first | (exfalso; omega) | skip))))
          (intro w' hS; refine ⟨?_, hS.below⟩; simp only [pack])
          exact rb (by rw [hz9]; rfl)
      · rw [ht.1 hgt]
        refine eng_start (n := 56) (args := [.slice (some ad) (m + 1) c, .int .i64 ((m + 1 : Nat) : Int), .int .i64 r]) tab tab_ok fns fns_ok [.tmp 6] Tryz.func134 rfl rfl rfl rfl ?_
        repeat' (first | (refine gJ ?_; first | refine js rfl rfl rfl rfl ?_ | (refine gload rfl rfl ?_; refine j_qe rfl rfl rfl ?_; refine ⟨_, q_load_ext0 rfl rfl rfl rfl ⟨by assumption, (by first | exact id | assumption)⟩ (by rfl), ?_⟩) | refine jar rfl rfl rfl rfl rfl rfl rfl (by omega) ?_ | (refine j_qe rfl rfl rfl ?_; first | refine ⟨_, q_index_slice rfl rfl rfl rfl rfl (by omega), ?_⟩ | refine ⟨_, q_len_slice rfl rfl rfl rfl, ?_⟩)) | (refine gSC ?_; first | refine sc_mv rfl ?_ | refine sc_q rfl ?_ | refine sc_region ?_) | (refine gSQ ?_; first | refine sq_go rfl ?_ | refine sq_mv rfl ?_ | refine sq_ende (by first | exact .inl rfl | exact .inr rfl) rfl rfl ⟨_, (RVs.cons (RV.tmp rfl) (RVs.nil)), ?_⟩) | refine j_nil ?_ | ((first | refine j_guard rfl rfl rfl rfl rfl ?_ ?_ | refine sc_cond rfl ?_ ?_) <;> intro hc <;> (first | exact absurd hc (by decide) | ((try simp only [engHC] at hc) <;> first | (exfalso; omega) | exact absurd trivial hc | skip))))
        all_goals ((intro w' hS; refine ⟨?_, hS.below⟩; simp only [pack]); first | done | exact rb (by first | (simp; done) | (simp; omega)))
end Go.Proofs.YtmakokbpadmfbaaGreat


/-
  The reference: Least, Greatest, Choose.
-/
namespace Go.Proofs.YtmakokbpadmfbaaGreat
open Go.RowKit Eng
set_option linter.unusedVariables false
set_option linter.unusedSimpArgs false
set_option maxHeartbeats 8000000
attribute [local irreducible] SC SQ J Qt Calls Iterates LSub FSub
set_option exponentiation.threshold 600
theorem least_r (n k r : Nat) (w : World) (hk : k ≤ n) (hn : n ≤ 500) (hr : 1 ≤ r ∧ r ≤ 2000) :
    Calls Tryz.prog 107 #[.int .i64 n, .int .i64 k, .int .i64 r] w fun e w' => e = .returned (.tuple #[.int .i64 (lowF n k r : Nat), .int .i64 0]) ∧ Below w.heap.size w w' := by
  have hw := fun w' => wrong_r n k r 1 2000 w'
  have hr0 : checkF n k r 1 2000 = 0 := by unfold checkF; rw [if_neg (by omega), if_neg (by omega)]
  rw [hr0] at hw
  obtain ⟨f1, f2, f3⟩ := lowest_spec (posB n k r)
  have f1 : lowF n k r ≤ 10000 := f1
  have f2 : ∀ p, p < lowF n k r → posB n k r p = false := f2
  have f3 : ∀ p, lowF n k r ≤ p → p < 10000 → posB n k r p = true := fun p h1 h2 => posB_mono n k r (lowF n k r) p h1 (by omega) (f3 (Nat.lt_of_le_of_lt h1 h2))
  generalize lowF n k r = M at *
  refine eng_start (n := 38) (args := [.int .i64 n, .int .i64 k, .int .i64 r]) tab tab_ok fns fns_ok [.tmp 6, .tmp 7] Tryz.func107 rfl rfl rfl rfl ?_
  repeat' (first | (refine gJ ?_; first | refine js rfl rfl rfl rfl ?_ | (refine gcall rfl rfl ?_; (refine j_qc (f := 133) rfl rfl rfl rfl rfl rfl rfl ?_; refine ⟨_, (fun w' _ => hw w'), ?_⟩))) | (refine gSC ?_; first | refine sc_mv rfl ?_ | refine sc_q rfl ?_ | refine sc_region ?_) | (refine gSQ ?_; refine sq_go rfl ?_) | refine j_nil ?_ | ((refine sc_cond rfl ?_ ?_) <;> intro hc <;> (first | exact absurd hc (by decide) | ((try simp only [engHC] at hc) <;> skip))))
  refine sc_loop (ι := Nat × Nat) (fun i => i.1 ≤ M ∧ M ≤ i.2 ∧ i.2 ≤ 10000) (fun i => i.2 - i.1) (fun i => [(0, .int .i64 n), (1, .int .i64 k), (2, .int .i64 r), (9, .int .i64 i.1), (10, .int .i64 i.2)]) (fun _ => []) (0, 10000) ⟨Nat.zero_le _, f1, Nat.le_refl _⟩ (by repeat (first | exact FSub.nil | refine FSub.cons rfl ?_ | refine FSub.conse rfl (by congr 1; omega) ?_)) (by repeat (first | exact LSub.nil | refine LSub.cons (by repeat (first | exact Rem.here | apply Rem.there)) ?_)) ?_
  rintro ⟨lo, hi⟩ ⟨h1, h2, h3⟩
  dsimp only at h1 h2 h3 ⊢
  by_cases hlt : lo < hi
  · obtain ⟨m, hm⟩ : ∃ m, m = (lo + hi) / 2 := ⟨_, rfl⟩
    have em : ((lo : Int) + hi) / 2 = (m : Int) := by omega
    have hs1 := fun w' => sum_r n m k n w' hn (by omega) hk (Nat.le_refl _)
    have l1 := len_part (p := m) (n := n) (f := k) (i := n + 1) (by omega) hn
    rw [part_high _ _ _ _ (by omega)] at hs1 l1
    rw [← em] at hs1
    have hx := fun A c w' h => exceeds_r A c (up m (10000 - m) n k) n r w' hn hr h
    have e0 : excB (up m (10000 - m) n k) n r = posB n k r m := rfl
    rw [e0] at hx
    have g2 := f2 m
    have g3 := f3 m
    cases hp : posB n k r m with
    | true =>
      rw [hp] at hx
      have hle : M ≤ m := by
        rcases Nat.lt_or_ge m M with h | h
        · rw [g2 h] at hp; cases hp
        · exact h
      repeat' (first | (refine gJ ?_; first | refine js rfl rfl rfl rfl ?_ | refine jar rfl rfl rfl rfl rfl rfl rfl (by omega) ?_ | (refine gcall rfl rfl ?_; (refine j_qc (f := 134) rfl rfl rfl rfl rfl rfl rfl ?_; refine ⟨_, (fun w' hs => hx A2 c2 w' (sd_own hs (by (repeat constructor)))), ?_⟩)) | (refine gcall rfl rfl ?_; refine j_dg (f := 135) rfl rfl rfl rfl rfl rfl rfl (fun w' hs => hs1 w') ?_; intro A2 c2 h9) | (refine j_qe rfl rfl rfl ?_; refine ⟨_, q_quo rfl rfl rfl (by omega), ?_⟩)) | (refine gSC ?_; first | refine sc_mv rfl ?_ | refine sc_q rfl ?_ | refine sc_region ?_) | (refine gSQ ?_; first | refine sq_go rfl ?_ | refine sq_mv rfl ?_) | refine j_nil ?_ | ((refine sc_cond rfl ?_ ?_) <;> intro hc <;> (first | exact absurd hc (by decide) | ((try simp only [engHC] at hc) <;> first | (exfalso; omega) | skip))))
      exact sq_loop (lo, m) ⟨h1, hle, by show m ≤ 10000; omega⟩ (by show m - lo < hi - lo; omega) (by dsimp only; rw [← em]; exact (by repeat (first | exact FSub.nil | refine FSub.cons rfl ?_ | refine FSub.conse rfl (by congr 1; omega) ?_))) (by repeat (first | exact LSub.nil | refine LSub.cons (by repeat (first | exact Rem.here | apply Rem.there)) ?_))
    | false =>
      rw [hp] at hx
      have hle : m < M := by
        rcases Nat.lt_or_ge m M with h | h
        · exact h
        · rw [g3 h (by omega)] at hp; cases hp
      repeat' (first | (refine gJ ?_; first | refine js rfl rfl rfl rfl ?_ | refine jar rfl rfl rfl rfl rfl rfl rfl (by omega) ?_ | (refine gcall rfl rfl ?_; (refine j_qc (f := 134) rfl rfl rfl rfl rfl rfl rfl ?_; refine ⟨_, (fun w' hs => hx A2 c2 w' (sd_own hs (by (repeat constructor)))), ?_⟩)) | (refine gcall rfl rfl ?_; refine j_dg (f := 135) rfl rfl rfl rfl rfl rfl rfl (fun w' hs => hs1 w') ?_; intro A2 c2 h9) | (refine j_qe rfl rfl rfl ?_; refine ⟨_, q_quo rfl rfl rfl (by omega), ?_⟩)) | (refine gSC ?_; first | refine sc_mv rfl ?_ | refine sc_q rfl ?_ | refine sc_region ?_) | (refine gSQ ?_; first | refine sq_go rfl ?_ | refine sq_mv rfl ?_) | refine j_nil ?_ | ((refine sc_cond rfl ?_ ?_) <;> intro hc <;> (first | exact absurd hc (by decide) | ((try simp only [engHC] at hc) <;> first | (exfalso; omega) | skip))))
      exact sq_loop (m + 1, hi) ⟨by show m + 1 ≤ M; omega, h2, h3⟩ (by show hi - (m + 1) < hi - lo; omega) (by dsimp only; exact (by repeat (first | exact FSub.nil | refine FSub.cons rfl ?_ | refine FSub.conse rfl (by congr 1; omega) ?_))) (by repeat (first | exact LSub.nil | refine LSub.cons (by repeat (first | exact Rem.here | apply Rem.there)) ?_))
  · obtain rfl : lo = M := by omega
    repeat' (first | (refine gJ ?_; refine js rfl rfl rfl rfl ?_) | (refine gSC ?_; first | refine sc_mv rfl ?_ | refine sc_q rfl ?_ | refine sc_region ?_) | (refine gSQ ?_; first | refine sq_go rfl ?_ | refine sq_mv rfl ?_ | refine sq_ende (by first | exact .inl rfl | exact .inr rfl) rfl rfl ⟨_, (RVs.cons (RV.tmp rfl) (RVs.cons (RV.tmp rfl) (RVs.nil))), ?_⟩) | refine j_nil ?_ | ((refine sc_cond rfl ?_ ?_) <;> intro hc <;> (((try simp only [engHC] at hc) <;> first | (exfalso; omega) | skip))))
    (intro w' hS; refine ⟨?_, hS.below⟩; simp only [pack])
theorem greatest_r (n k r : Nat) (w : World) (hk : k ≤ n) (hn : n ≤ 500) (hr : 1 ≤ r ∧ r ≤ 2000) :
    Calls Tryz.prog 108 #[.int .i64 n, .int .i64 k, .int .i64 r] w fun e w' => e = .returned (.tuple #[.int .i64 ((10000 : Int) - (lowF n (n - k) r : Nat)), .int .i64 0]) ∧ Below w.heap.size w w' := by
  have hw := fun w' => wrong_r n k r 1 2000 w'
  have hr0 : checkF n k r 1 2000 = 0 := by unfold checkF; rw [if_neg (by omega), if_neg (by omega)]
  rw [hr0] at hw
  have hl := fun w' => least_r n (n - k) r w' (by omega) hn hr
  have hL := (lowest_spec (posB n (n - k) r)).1
  have hL : lowF n (n - k) r ≤ 10000 := hL
  generalize lowF n (n - k) r = M at *
  rw [show ((n - k : Nat) : Int) = (n : Int) - k by omega] at hl
  refine eng_start (n := 29) (args := [.int .i64 n, .int .i64 k, .int .i64 r]) tab tab_ok fns fns_ok [.tmp 6, .tmp 7] Tryz.func108 rfl rfl rfl rfl ?_
  repeat' (first | (refine gJ ?_; first | refine js rfl rfl rfl rfl ?_ | refine jar rfl rfl rfl rfl rfl rfl rfl (by omega) ?_ | (refine gcall rfl rfl ?_; first | (refine j_qc (f := 133) rfl rfl rfl rfl rfl rfl rfl ?_; refine ⟨_, (fun w' _ => hw w'), ?_⟩) | (refine j_qc (f := 107) rfl rfl rfl rfl rfl rfl rfl ?_; refine ⟨_, (fun w' _ => hl w'), ?_⟩))) | (refine gSC ?_; first | refine sc_mv rfl ?_ | refine sc_q rfl ?_ | refine sc_region ?_) | (refine gSQ ?_; first | refine sq_go rfl ?_ | refine sq_ende (by first | exact .inl rfl | exact .inr rfl) rfl rfl ⟨_, (RVs.cons (RV.tmp rfl) (RVs.cons (RV.tmp rfl) (RVs.nil))), ?_⟩) | refine j_nil ?_ | ((refine sc_cond rfl ?_ ?_) <;> intro hc <;> (first | exact absurd hc (by decide) | ((try simp only [engHC] at hc) <;> skip))))
  (intro w' hS; refine ⟨?_, hS.below⟩; simp only [pack])
end Go.Proofs.YtmakokbpadmfbaaGreat


/-
  letterbagref41: bounded, Measure, Classes.
-/
namespace Go.Proofs.YtmakokbpadmfbaaGreat
open Go.RowKit Eng
set_option linter.unusedVariables false
set_option linter.unusedSimpArgs false
set_option maxHeartbeats 8000000
attribute [local irreducible] SC SQ J Qt Calls Iterates LSub FSub
def stM (f : Rw → Rw) (R : List Rw) (i : Nat) : List Rw := (R.take i).map f ++ R.drop i
theorem stM_len (f : Rw → Rw) (R : List Rw) (i : Nat) : (stM f R i).length = R.length := by
  unfold stM
  rw [List.length_append, List.length_map, List.length_take, List.length_drop]
  omega
theorem stM_at {f : Rw → Rw} {R : List Rw} {i : Nat} {z : Rw} (h : R[i]? = some z) : (stM f R i)[i]? = some z := by
  have := (List.getElem?_eq_some_iff.1 h).1
  unfold stM
  have hl : ((R.take i).map f).length = i := by rw [List.length_map, List.length_take]; omega
  rw [List.getElem?_append_right (by omega), hl, Nat.sub_self, List.getElem?_drop, Nat.add_zero, h]
theorem stM_next {f : Rw → Rw} {R : List Rw} {i : Nat} {z : Rw} (h : R[i]? = some z) : (stM f R i).set i (f z) = stM f R (i + 1) := by
  have := (List.getElem?_eq_some_iff.1 h).1
  have hl : ((R.take i).map f).length = i := by rw [List.length_map, List.length_take]; omega
  unfold stM
  rw [List.set_append_right _ _ (by omega), hl, Nat.sub_self, drop_cons h, List.set_cons_zero, take_snocS h, List.map_append]
  simp
theorem stM_zero (f : Rw → Rw) (R : List Rw) : stM f R 0 = R := by simp [stM]
theorem stM_all (f : Rw → Rw) (R : List Rw) : stM f R R.length = R.map f := by simp [stM]
theorem rows_bnd (pl : Bool) (l : List Sd) (s : List Sn) (now risk : Int) : msRows (ofB pl) l s now risk = (rowsR pl l s now).map (fun r => bndR r risk) := by
  unfold msRows rowsR
  rw [List.map_map]
  rfl
theorem msLong_no {of : Sn → Lane} {l : List Sd} {s : List Sn} {now : Int} (h : s.length ≤ 500) : msLong of l s now = false := by
  unfold msLong
  rw [List.any_eq_false]
  intro k _
  have := rowAt_small (of := of) (out := fun x => outF l x now) s k
  rw [decide_eq_true_eq]
  omega
set_option maxRecDepth 8000 in
set_option maxHeartbeats 16000000 in
theorem bounded_r (A : Option Addr) (c : Nat) (l : List Sd) (B : Option Addr) (bc : Nat) (s : List Sn) (now risk : Int) (pl : Bool) (w : World) (hl : l.length ≤ 9223372036854775807) (hn5 : s.length ≤ 500) (hcl : ∀ x ∈ l, 0 ≤ x.cl) (hcs : ∀ x ∈ s, 0 ≤ x.cl) (h : RS w 4 sdC A l) (h2 : RS w 6 snC B s) :
    Calls Tryz.prog 89 #[.slice A l.length c, .slice B s.length bc, .int .i64 now, .int .i64 risk, .bool pl] w fun e w' => ∃ v : Value, True ∧ e = .returned (.tuple #[v, .int .i64 (msF (ofB pl) l s now risk).1]) ∧ St w Cold [.own v 90 9 (msF (ofB pl) l s now risk).2.length ((msF (ofB pl) l s now risk).2.flatMap rwC)] w' := by
  have hR := fun w' h' => rRight_c A c l w' hl hcl h'
  have hS := fun w' h' => rSent_c B bc s w' (by omega) hcs h'
  by_cases hbad : msOk l s now risk
  · have hrs := fun w' h h2 => rows_r A c l B bc s now pl w' hl hn5 hcl (sentB_ok hbad.2.1).2 h h2
    have e : msF (ofB pl) l s now risk = (0, (rowsR pl l s now).map (fun r => bndR r risk)) := by unfold msF; rw [if_pos hbad, msLong_no hn5, if_neg (by decide), rows_bnd]
    rw [e]
    dsimp only
    have hsm : ∀ z ∈ rowsR pl l s now, 0 ≤ z.kp ∧ z.kp ≤ z.tr ∧ z.tr ≤ 500 := fun z hz => by
      unfold rowsR at hz
      obtain ⟨k, _, rfl⟩ := List.mem_map.1 hz
      have := rowAt_small (of := ofB pl) (out := fun x => outF l x now) s k
      omega
    have hrl : (rowsR pl l s now).length ≤ s.length := by unfold rowsR; rw [List.length_map, (sortL_perm _).length_eq]; exact lanesO_len s
    generalize rowsR pl l s now = R at *
    obtain ⟨q1, q2, ⟨q3, q4⟩, q5, q6⟩ := hbad
    rw [q1] at hR
    rw [q2] at hS
    clear e
    rw [List.length_map]
    obtain ⟨n, hn⟩ : ∃ n, n = l.length := ⟨_, rfl⟩
    obtain ⟨m, hm⟩ : ∃ n, n = s.length := ⟨_, rfl⟩
    obtain ⟨nr, hnr⟩ : ∃ n, n = R.length := ⟨_, rfl⟩
    rw [← hn, ← hm] at hrs
    rw [← hn] at hR
    rw [← hm] at hS hrl hn5
    rw [← hnr] at hrs hrl
    rw [← hn, ← hm, ← hnr]
    refine eng_start (n := 101) (args := [.slice A n c, .slice B m bc, .int .i64 now, .int .i64 risk, .bool pl]) tab tab_ok fns fns_ok [.tmp 10, .tmp 11] Tryz.func89 rfl rfl rfl rfl ?_
    repeat' (first | (refine gJ ?_; first | refine js rfl rfl rfl rfl ?_ | (refine gcall rfl rfl ?_; first | (refine j_qc (f := 81) rfl rfl rfl rfl rfl rfl rfl ?_; refine ⟨_, (fun w' hs => hR w' (h.st hs)), ?_⟩) | (refine j_qc (f := 82) rfl rfl rfl rfl rfl rfl rfl ?_; refine ⟨_, (fun w' hs => hS w' (h2.st hs)), ?_⟩)) | (refine gcall rfl rfl ?_; refine gF ?_; refine j_callN (f := 106) rfl rfl rfl rfl rfl rfl rfl (fun v : Value => v) (fun _ => True) (fun v => [.own v 90 9 nr (R.flatMap rwC)]) (fun w' hs => hrs w' (h.st hs) (h2.st hs)) (fun _ => trivial) ?_; rintro v1 _; refine j_owns (v := v1) (by (repeat constructor)) ?_; rintro a1 c1 rfl hs1)) | (refine gSC ?_; first | refine sc_mv rfl ?_ | refine sc_q rfl ?_ | refine sc_region ?_) | (refine gSQ ?_; refine sq_go rfl ?_) | refine j_nil ?_ | ((first | refine j_guard rfl rfl rfl rfl rfl ?_ ?_ | refine sc_cond rfl ?_ ?_) <;> intro hc <;> (first | exact absurd hc (by decide) | ((try simp only [engHC] at hc) <;> first | (exfalso; omega) | skip))))
    refine sc_loop (ι := Nat) (fun i => i ≤ nr) (fun i => nr - i) (fun i => [(3, .int .i64 risk), (12, .slice a1 nr c1), (13, .int .i64 i)]) (fun _ => [.own (.slice a1 nr c1) 90 9 nr (R.flatMap rwC)]) 0 (Nat.zero_le _) (by (try dsimp only); exact (by repeat (first | exact FSub.nil | refine FSub.cons rfl ?_ | refine FSub.conse rfl (by congr 1; omega) ?_))) (by repeat (first | exact LSub.refl | refine LSub.cons (by repeat (first | exact Rem.here | apply Rem.there)) ?_ | apply LSub.skip)) ?_
    intro i hi
    dsimp only at hi ⊢
    by_cases hlt : i < nr
    · obtain ⟨z, hz⟩ : ∃ z, R[i]? = some z := ⟨_, List.getElem?_eq_getElem (by omega)⟩
      have hzs := hsm z (List.mem_of_getElem? hz)
      obtain ⟨a1, rfl⟩ : ∃ ad, a1 = some ad := by
        cases a1 with
        | none => have := hs1.nil rfl; omega
        | some ad => exact ⟨ad, rfl⟩
      repeat' (first | (refine gJ ?_; first | refine js rfl rfl rfl rfl ?_ | refine jar rfl rfl rfl rfl rfl rfl rfl (by omega) ?_ | (refine j_qe rfl rfl rfl ?_; refine ⟨_, q_rowF (f := rwC) (l := R) (i := i) (off := 3) rfl rfl rfl rfl (by (repeat constructor)) (fun _ => rfl) hz rfl, ?_⟩) | (refine j_qe rfl rfl rfl ?_; first | refine ⟨_, q_index_nat rfl rfl rfl rfl rfl (by omega), ?_⟩ | refine ⟨_, q_len_slice rfl rfl rfl rfl, ?_⟩ | refine ⟨_, q_field_ext rfl rfl rfl rfl rfl, ?_⟩)) | (refine gSC ?_; first | refine sc_mv rfl ?_ | refine sc_q rfl ?_ | refine sc_region ?_) | (refine gSQ ?_; first | refine sq_go rfl ?_ | refine sq_mv rfl ?_) | refine j_nil ?_ | ((refine sc_cond rfl ?_ ?_) <;> intro hc <;> (((try simp only [engHC] at hc) <;> first | (exfalso; omega) | skip))))
      all_goals exact sq_loop (i + 1) (by show i + 1 ≤ nr; omega) (by show nr - (i + 1) < nr - i; omega) (by (try dsimp only); exact (by repeat (first | exact FSub.nil | refine FSub.cons rfl ?_ | refine FSub.conse rfl (by congr 1; omega) ?_))) (by repeat (first | exact LSub.refl | refine LSub.cons (by repeat (first | exact Rem.here | apply Rem.there)) ?_ | apply LSub.skip))
    repeat' (first | (refine gJ ?_; first | refine js rfl rfl rfl rfl ?_ | (refine j_qe rfl rfl rfl ?_; refine ⟨_, q_len_slice rfl rfl rfl rfl, ?_⟩)) | (refine gSC ?_; first | refine sc_mv rfl ?_ | refine sc_q rfl ?_ | refine sc_region ?_) | (refine gSQ ?_; first | refine sq_go rfl ?_ | refine sq_mv rfl ?_) | refine j_nil ?_ | ((refine sc_cond rfl ?_ ?_) <;> intro hc <;> (((try simp only [engHC] at hc) <;> first | (exfalso; omega) | skip))))
    refine sc_loop (ι := Nat) (fun i => i ≤ nr) (fun i => nr - i) (fun i => [(3, .int .i64 risk), (12, .slice a1 nr c1), (14, .int .i64 i)]) (fun i => [.own (.slice a1 nr c1) 90 9 nr ((stM (fun r => bndR r risk) R i).flatMap rwC)]) 0 (Nat.zero_le _) (by (try dsimp only); exact (by repeat (first | exact FSub.nil | refine FSub.cons rfl ?_ | refine FSub.conse rfl (by congr 1; omega) ?_))) (by rw [stM_zero]; exact (by repeat (first | exact LSub.refl | refine LSub.cons (by repeat (first | exact Rem.here | apply Rem.there)) ?_ | apply LSub.skip))) ?_
    intro i1 hi1
    dsimp only at hi1 ⊢
    by_cases hlt1 : i1 < nr
    · obtain ⟨z, hz⟩ : ∃ z, R[i1]? = some z := ⟨_, List.getElem?_eq_getElem (by omega)⟩
      have hzs := hsm z (List.mem_of_getElem? hz)
      have hza := stM_at (f := fun r => bndR r risk) hz
      have hnx := stM_next (f := fun r => bndR r risk) hz
      have hsl := stM_len (fun r => bndR r risk) R i1
      have h7 := fun w' => least_r z.tr.toNat z.kp.toNat risk.toNat w' (by omega) (by omega) (by omega)
      have h8 := fun w' => greatest_r z.tr.toNat z.kp.toNat risk.toNat w' (by omega) (by omega) (by omega)
      rw [Int.toNat_of_nonneg (by omega), Int.toNat_of_nonneg (by omega), Int.toNat_of_nonneg (by omega)] at h7 h8
      have hbd : bndR z risk = { ({ z with le := ((lowF z.tr.toNat z.kp.toNat risk.toNat : Nat) : Int) } : Rw) with gr := 10000 - ((lowF z.tr.toNat (z.tr.toNat - z.kp.toNat) risk.toNat : Nat) : Int) } := rfl
      rw [hbd] at hnx
      generalize ((lowF z.tr.toNat z.kp.toNat risk.toNat : Nat) : Int) = g1 at *
      generalize 10000 - ((lowF z.tr.toNat (z.tr.toNat - z.kp.toNat) risk.toNat : Nat) : Int) = g2 at *
      generalize stM (fun r => bndR r risk) R i1 = M at *
      have hza2 : (M.set i1 { z with le := g1 })[i1]? = some { z with le := g1 } := by rw [List.getElem?_set_self (by have := (List.getElem?_eq_some_iff.1 hza).1; omega)]
      have hnx2 : (M.set i1 { z with le := g1 }).set i1 { ({ z with le := g1 } : Rw) with gr := g2 } = stM (fun r => bndR r risk) R (i1 + 1) := by rw [List.set_set]; exact hnx
      obtain ⟨a1, rfl⟩ : ∃ ad, a1 = some ad := by
        cases a1 with
        | none => have := hs1.nil rfl; omega
        | some ad => exact ⟨ad, rfl⟩
      repeat' (first | (refine gJ ?_; first | refine js rfl rfl rfl rfl ?_ | refine jar rfl rfl rfl rfl rfl rfl rfl (by omega) ?_ | (refine gcall rfl rfl ?_; first | (refine j_qc (f := 107) rfl rfl rfl rfl rfl rfl rfl ?_; refine ⟨_, (fun w' _ => h7 w'), ?_⟩) | (refine j_qc (f := 108) rfl rfl rfl rfl rfl rfl rfl ?_; refine ⟨_, (fun w' _ => h8 w'), ?_⟩)) | (refine j_qe rfl rfl rfl ?_; refine ⟨_, q_index_at i1 rfl rfl rfl rfl rfl (by omega), ?_⟩) | (refine j_qe rfl rfl rfl ?_; refine ⟨_, q_rowF (f := rwC) (l := M) (i := i1) (off := 3) rfl rfl rfl rfl (by (repeat constructor)) (fun _ => rfl) hza rfl, ?_⟩) | (refine j_qe rfl rfl rfl ?_; refine ⟨_, q_rowF (f := rwC) (l := M) (i := i1) (off := 4) rfl rfl rfl rfl (by (repeat constructor)) (fun _ => rfl) hza rfl, ?_⟩) | (refine j_qe rfl rfl rfl ?_; refine ⟨_, q_rowF (f := rwC) (l := M.set i1 { z with le := g1 }) (i := i1) (off := 3) rfl rfl rfl rfl (by (repeat constructor)) (fun _ => rfl) hza2 rfl, ?_⟩) | (refine j_qe rfl rfl rfl ?_; refine ⟨_, q_rowF (f := rwC) (l := M.set i1 { z with le := g1 }) (i := i1) (off := 4) rfl rfl rfl rfl (by (repeat constructor)) (fun _ => rfl) hza2 rfl, ?_⟩) | (refine gF ?_; refine j_store_rowF (f := rwC) (l := M) (i := i1) (off := 7) (z := z) (z' := { z with le := g1 }) rfl rfl rfl rfl rfl rfl rfl rfl (by (repeat constructor)) (fun _ => rfl) hza rfl (by rfl) (by (repeat constructor)) ?_) | (refine gF ?_; refine j_store_rowF (f := rwC) (l := M.set i1 { z with le := g1 }) (i := i1) (off := 8) (z := { z with le := g1 }) (z' := { ({ z with le := g1 } : Rw) with gr := g2 }) rfl rfl rfl rfl rfl rfl rfl rfl (by (repeat constructor)) (fun _ => rfl) hza2 rfl (by rfl) (by (repeat constructor)) ?_) | (refine j_qe rfl rfl rfl ?_; first | refine ⟨_, q_len_slice rfl rfl rfl rfl, ?_⟩ | refine ⟨_, q_field_ext rfl rfl rfl rfl rfl, ?_⟩)) | (refine gSC ?_; first | refine sc_mv rfl ?_ | refine sc_q rfl ?_ | refine sc_region ?_ | refine sc_auto0 12 (.q 0 (.q 1 (.q 2 (.q 3 (.q 4 (.q 5 (.q 7 (.q 8 (.q 9 (.q 10 (.q 12 (.b 6 11 (.e 11 (.q 13 (.q 14 (.q 15 (.q 16 (.q 17 (.q 18 (.e 19 (.z))))))))) (.e 6 (.q 13 (.q 14 (.q 15 (.q 16 (.q 17 (.q 18 (.e 19 (.z))))))))))))))))))))) mixed ?_ | refine sc_auto0 13 (.q 0 (.q 1 (.q 2 (.q 3 (.q 4 (.q 5 (.q 7 (.q 8 (.q 9 (.q 10 (.q 12 (.b 6 11 (.e 11 (.q 13 (.q 14 (.q 15 (.q 16 (.q 17 (.q 18 (.e 19 (.z))))))))) (.e 6 (.q 13 (.q 14 (.q 15 (.q 16 (.q 17 (.q 18 (.e 19 (.z))))))))))))))))))))) mixed ?_) | (refine gJG ?_; first | refine jg_q rfl (by kernel_rfl) ?_ | refine jg_e (by kernel_rfl) rfl ?_ | refine jg_b (by kernel_rfl) rfl rfl ?_ ?_ | refine jg_done (by kernel_rfl) ?_) | (refine gSQ ?_; first | refine jg_next ?_ | (refine gFE ?_; first | refine jg_next0 ?_ | refine jg_nextE (by first | exact LSub.refl | (repeat (first | exact LSub.refl | refine LSub.cons (by repeat (first | exact Rem.here | apply Rem.there)) ?_ | apply LSub.skip))) ?_) | refine sq_go rfl ?_ | refine sq_mv rfl ?_) | refine j_nil ?_ | ((refine sc_cond rfl ?_ ?_) <;> intro hc <;> (((try simp only [engHC] at hc) <;> first | (exfalso; omega) | skip))))
      all_goals
        refine sq_loop (i1 + 1) ?_ ?_ ?_ ?_
        · show i1 + 1 ≤ nr; omega
        · show nr - (i1 + 1) < nr - i1; omega
        · exact (by (try dsimp only); exact (by repeat (first | exact FSub.nil | refine FSub.cons rfl ?_ | refine FSub.conse rfl (by congr 1; omega) ?_)))
        · dsimp only; rw [← hnx2]; exact (by repeat (first | exact LSub.refl | refine LSub.cons (by repeat (first | exact Rem.here | apply Rem.there)) ?_ | apply LSub.skip))
    · obtain rfl : i1 = nr := by omega
      rw [hnr, stM_all, ← hnr]
      repeat' (first | (refine gJ ?_; first | refine js rfl rfl rfl rfl ?_ | (refine j_qe rfl rfl rfl ?_; refine ⟨_, q_len_slice rfl rfl rfl rfl, ?_⟩)) | (refine gSC ?_; first | refine sc_mv rfl ?_ | refine sc_q rfl ?_ | refine sc_region ?_) | (refine gSQ ?_; first | refine sq_go rfl ?_ | refine sq_mv rfl ?_ | refine sq_ende (by first | exact .inl rfl | exact .inr rfl) rfl rfl ⟨_, (RVs.cons (RV.tmp rfl) (RVs.cons (RV.tmp rfl) (RVs.nil))), ?_⟩) | refine j_nil ?_ | ((refine sc_cond rfl ?_ ?_) <;> intro hc <;> (((try simp only [engHC] at hc) <;> first | (exfalso; omega) | skip))))
      intro w' hS
      exact ⟨_, trivial, rfl, hS.sub (by repeat (first | exact LSub.refl | refine LSub.cons (by repeat (first | exact Rem.here | apply Rem.there)) ?_ | apply LSub.skip))⟩
  · have e : msF (ofB pl) l s now risk = (2, []) := if_neg hbad
    rw [e]
    unfold msOk at hbad
    generalize sdsB l = R at *
    generalize sentB s = S at *
    generalize hn : l.length = n at *
    generalize hm : s.length = m at *
    refine eng_start (n := 101) (args := [.slice A n c, .slice B m bc, .int .i64 now, .int .i64 risk, .bool pl]) tab tab_ok fns fns_ok [.tmp 10, .tmp 11] Tryz.func89 rfl rfl rfl rfl ?_
    cases R <;> cases S <;> by_cases ht : timeI now
    all_goals
      simp only [ht, true_and, false_and, and_true, and_false, not_true_eq_false, not_false_eq_true, Bool.false_eq_true] at hbad
      unfold timeI at ht
      repeat' (first | (refine gJ ?_; first | refine js rfl rfl rfl rfl ?_ | (refine gcall rfl rfl ?_; first | (refine j_qc (f := 81) rfl rfl rfl rfl rfl rfl rfl ?_; refine ⟨_, (fun w' hs => hR w' (h.st hs)), ?_⟩) | (refine j_qc (f := 82) rfl rfl rfl rfl rfl rfl rfl ?_; refine ⟨_, (fun w' hs => hS w' (h2.st hs)), ?_⟩))) | (refine gSC ?_; first | refine sc_mv rfl ?_ | refine sc_q rfl ?_ | refine sc_region ?_) | (refine gSQ ?_; first | refine sq_go rfl ?_ | refine sq_mv rfl ?_ | refine sq_ende (by first | exact .inl rfl | exact .inr rfl) rfl rfl ⟨_, (RVs.cons (RV.tmp rfl) (RVs.cons (RV.tmp rfl) (RVs.nil))), ?_⟩) | refine j_nil ?_ | ((first | refine j_guard rfl rfl rfl rfl rfl ?_ ?_ | refine sc_cond rfl ?_ ?_) <;> intro hc <;> (first | exact absurd hc (by decide) | ((try simp only [engHC] at hc) <;> first | (exfalso; omega) | skip))))
      all_goals first
        | (exfalso; omega)
        | (intro w' hS9
           exact ⟨_, trivial, rfl, hS9.own_nil.sub (by repeat (first | exact LSub.refl | refine LSub.cons (by repeat (first | exact Rem.here | apply Rem.there)) ?_ | apply LSub.skip))⟩)
theorem rMeas_c (A : Option Addr) (c : Nat) (l : List Sd) (B : Option Addr) (bc : Nat) (s : List Sn) (now risk : Int) (w : World) (hl : l.length ≤ 9223372036854775807) (hn5 : s.length ≤ 500) (hcl : ∀ x ∈ l, 0 ≤ x.cl) (hcs : ∀ x ∈ s, 0 ≤ x.cl) (h : RS w 4 sdC A l) (h2 : RS w 6 snC B s) :
    Calls Tryz.prog 62 #[.slice A l.length c, .slice B s.length bc, .int .i64 now, .int .i64 risk] w fun e w' => ∃ v : Value, True ∧ e = .returned (.tuple #[v, .int .i64 (msF ofM l s now risk).1]) ∧ St w Cold [.own v 90 9 (msF ofM l s now risk).2.length ((msF ofM l s now risk).2.flatMap rwC)] w' := by
  have hb := fun w' h h2 => bounded_r A c l B bc s now risk true w' hl hn5 hcl hcs h h2
  rw [ofB_true] at hb
  generalize msF ofM l s now risk = ms at *
  generalize hn : l.length = n at *
  generalize hm : s.length = m at *
  refine eng_start (n := 17) (args := [.slice A n c, .slice B m bc, .int .i64 now, .int .i64 risk]) tab tab_ok fns fns_ok [.tmp 8, .tmp 9] Tryz.func62 rfl rfl rfl rfl ?_
  repeat' (first | (refine gJ ?_; first | refine js rfl rfl rfl rfl ?_ | (refine gcall rfl rfl ?_; refine gF ?_; refine j_callN (f := 89) rfl rfl rfl rfl rfl rfl rfl (fun v : Value => .tuple #[v, .int .i64 ms.1]) (fun _ => True) (fun v => [.own v 90 9 ms.2.length (ms.2.flatMap rwC)]) (fun w' hs => hb w' (h.st hs) (h2.st hs)) (fun _ => trivial) ?_; rintro v1 _)) | (refine gSC ?_; first | refine sc_mv rfl ?_ | refine sc_q rfl ?_ | refine sc_region ?_) | (refine gSQ ?_; first | refine sq_go rfl ?_ | refine sq_ende (by first | exact .inl rfl | exact .inr rfl) rfl rfl ⟨_, (RVs.cons (RV.tmp rfl) (RVs.cons (RV.tmp rfl) (RVs.nil))), ?_⟩) | refine j_nil ?_)
  intro w' hS
  exact ⟨v1, trivial, rfl, hS.sub (by repeat (first | exact LSub.refl | refine LSub.cons (by repeat (first | exact Rem.here | apply Rem.there)) ?_ | apply LSub.skip))⟩
theorem rClas_c (A : Option Addr) (c : Nat) (l : List Sd) (B : Option Addr) (bc : Nat) (s : List Sn) (now risk : Int) (w : World) (hl : l.length ≤ 9223372036854775807) (hn5 : s.length ≤ 500) (hcl : ∀ x ∈ l, 0 ≤ x.cl) (hcs : ∀ x ∈ s, 0 ≤ x.cl) (h : RS w 4 sdC A l) (h2 : RS w 6 snC B s) :
    Calls Tryz.prog 63 #[.slice A l.length c, .slice B s.length bc, .int .i64 now, .int .i64 risk] w fun e w' => ∃ v : Value, True ∧ e = .returned (.tuple #[v, .int .i64 (msF ofC l s now risk).1]) ∧ St w Cold [.own v 90 9 (msF ofC l s now risk).2.length ((msF ofC l s now risk).2.flatMap rwC)] w' := by
  have hb := fun w' h h2 => bounded_r A c l B bc s now risk false w' hl hn5 hcl hcs h h2
  rw [ofB_false] at hb
  generalize msF ofC l s now risk = ms at *
  generalize hn : l.length = n at *
  generalize hm : s.length = m at *
  refine eng_start (n := 17) (args := [.slice A n c, .slice B m bc, .int .i64 now, .int .i64 risk]) tab tab_ok fns fns_ok [.tmp 8, .tmp 9] Tryz.func63 rfl rfl rfl rfl ?_
  repeat' (first | (refine gJ ?_; first | refine js rfl rfl rfl rfl ?_ | (refine gcall rfl rfl ?_; refine gF ?_; refine j_callN (f := 89) rfl rfl rfl rfl rfl rfl rfl (fun v : Value => .tuple #[v, .int .i64 ms.1]) (fun _ => True) (fun v => [.own v 90 9 ms.2.length (ms.2.flatMap rwC)]) (fun w' hs => hb w' (h.st hs) (h2.st hs)) (fun _ => trivial) ?_; rintro v1 _)) | (refine gSC ?_; first | refine sc_mv rfl ?_ | refine sc_q rfl ?_ | refine sc_region ?_) | (refine gSQ ?_; first | refine sq_go rfl ?_ | refine sq_ende (by first | exact .inl rfl | exact .inr rfl) rfl rfl ⟨_, (RVs.cons (RV.tmp rfl) (RVs.cons (RV.tmp rfl) (RVs.nil))), ?_⟩) | refine j_nil ?_)
  intro w' hS
  exact ⟨v1, trivial, rfl, hS.sub (by repeat (first | exact LSub.refl | refine LSub.cons (by repeat (first | exact Rem.here | apply Rem.there)) ?_ | apply LSub.skip))⟩
end Go.Proofs.YtmakokbpadmfbaaGreat

/-
  Ranks in sorted lists, plain.
-/
namespace Go.Proofs.YtmakokbpadmfbaaGreat
set_option linter.unusedVariables false
set_option linter.unusedSimpArgs false
theorem sortI_perm (l : List Int) : (sortI l).Perm l := List.mergeSort_perm l _
theorem sortI_sorted (l : List Int) : (sortI l).Pairwise (fun a b => a ≤ b) := by
  have := List.pairwise_mergeSort (le := fun x y : Int => decide (x ≤ y)) (fun a b c h1 h2 => by simp at *; omega) (fun a b => by simp; omega) l
  exact this.imp (fun h => by simpa using h)
def lessN (l : List Int) (x : Int) : Nat := l.countP fun y => decide (y < x)
def mostN (l : List Int) (x : Int) : Nat := l.countP fun y => decide (y ≤ x)
theorem lessN_cons (a : Int) (l : List Int) (x : Int) : lessN (a :: l) x = lessN l x + if a < x then 1 else 0 := by
  unfold lessN; rw [List.countP_cons]; simp
theorem mostN_cons (a : Int) (l : List Int) (x : Int) : mostN (a :: l) x = mostN l x + if a ≤ x then 1 else 0 := by
  unfold mostN; rw [List.countP_cons]; simp
theorem lessN_none {l : List Int} {x : Int} (h : ∀ y ∈ l, x ≤ y) : lessN l x = 0 := by
  unfold lessN
  rw [List.countP_eq_zero]
  intro y hy
  have := h y hy
  simp; omega
theorem most_less (l : List Int) {x y : Int} (h : y < x) : mostN l y ≤ lessN l x := List.countP_mono_left fun z _ hz => by
  simp at *; omega
theorem sorted_at : ∀ (s : List Int), s.Pairwise (fun a b => a ≤ b) → ∀ (i : Nat) (x : Int), s[i]? = some x → lessN s x ≤ i ∧ i < mostN s x
  | [], _, i, x, h => by simp at h
  | a :: s, hp, i, x, h => by
    rw [List.pairwise_cons] at hp
    rw [lessN_cons, mostN_cons]
    cases i with
    | zero =>
      simp at h
      subst h
      rw [lessN_none hp.1]
      simp
    | succ j =>
      simp at h
      have := sorted_at s hp.2 j x h
      have h3 := hp.1 x (List.mem_of_getElem? h)
      rw [if_pos h3]
      split <;> omega
theorem rank_at {l : List Int} {r : Nat} {x : Int} (h : (sortI l)[r]? = some x) : lessN l x ≤ r ∧ r < mostN l x := by
  have := sorted_at _ (sortI_sorted l) r x h
  have e1 : lessN (sortI l) x = lessN l x := (sortI_perm l).countP_eq _
  have e2 : mostN (sortI l) x = mostN l x := (sortI_perm l).countP_eq _
  omega
theorem rank_facts {l : List Int} {p q : Nat} {x y : Int} (hp : p ≤ q) (hx : (sortI l)[rank l.length p]? = some x) (hy : (sortI l)[rank l.length q]? = some y) :
    x ≤ y ∧ x ∈ l ∧ p * l.length ≤ mostN l x * 10000 ∧ (0 < lessN l x → lessN l x * 10000 < p * l.length) := by
  obtain ⟨h1, h2⟩ := rank_at hx
  obtain ⟨h3, h4⟩ := rank_at hy
  have hm : p * l.length ≤ q * l.length := Nat.mul_le_mul_right _ hp
  refine ⟨?_, (sortI_perm l).mem_iff.1 (List.mem_of_getElem? hx), ?_, ?_⟩
  · rcases Int.lt_or_le y x with h | h
    · have := most_less l h
      unfold rank at *
      omega
    · exact h
  · unfold rank at *; omega
  · intro h; unfold rank at *; omega
theorem mostN_take {l : List Int} {k : Nat} {y : Int} (x : Int) (h : l[k]? = some y) : mostN (l.take (k + 1)) x = mostN (l.take k) x + if y ≤ x then 1 else 0 := by
  rw [take_snoc h]; unfold mostN; rw [List.countP_append]; simp
theorem mostN_le (l : List Int) (x : Int) : mostN l x ≤ l.length := List.countP_le_length
end Go.Proofs.YtmakokbpadmfbaaGreat

/-
  The reference's Quantile.
-/
namespace Go.Proofs.YtmakokbpadmfbaaGreat
open Go.RowKit Eng
set_option linter.unusedVariables false
set_option linter.unusedSimpArgs false
set_option maxHeartbeats 8000000
attribute [local irreducible] SC SQ J Qt Calls Iterates LSub FSub
attribute [local irreducible] sortI
/-- Whether enough numbers are at most as great. -/
def okQ (l : List Int) (q : Nat) (x : Int) : Bool := decide (q * l.length ≤ mostN l x * 10000)
def stQ (l : List Int) (q : Nat) (b : Option Int) (x : Int) : Option Int := if okQ l q x = true ∧ (∀ m, b = some m → x < m) then some x else b
theorem stQ_inv (l : List Int) (q : Nat) : ∀ (t : List Int) (b : Option Int), (∀ m, b = some m → okQ l q m = true) →
    (∀ m, t.foldl (stQ l q) b = some m → okQ l q m = true ∧ (m ∈ t ∨ b = some m) ∧ (∀ y ∈ t, okQ l q y = true → m ≤ y) ∧ (∀ m', b = some m' → m ≤ m')) ∧ (t.foldl (stQ l q) b = none → b = none ∧ ∀ y ∈ t, okQ l q y = false)
  | [], b, hb => ⟨fun m h => ⟨hb m h, .inr h, fun y hy => (by cases hy), fun m' h' => by rw [List.foldl_nil] at h; rw [h] at h'; injection h' with h'; omega⟩, fun h => ⟨h, fun y hy => by cases hy⟩⟩
  | x :: t, b, hb => by
    rw [List.foldl_cons]
    by_cases h : okQ l q x = true ∧ (∀ m, b = some m → x < m)
    · have e : stQ l q b x = some x := by unfold stQ; rw [if_pos h]
      rw [e]
      obtain ⟨h1, h2⟩ := stQ_inv l q t (some x) (fun m hm => by injection hm with hm; rw [← hm]; exact h.1)
      refine ⟨fun m hm => ?_, fun hn => ?_⟩
      · obtain ⟨a1, a2, a3, a4⟩ := h1 m hm
        have := a4 x rfl
        refine ⟨a1, ?_, fun y hy ho => ?_, fun m' hm' => ?_⟩
        · rcases a2 with a2 | a2
          · exact .inl (List.mem_cons_of_mem _ a2)
          · injection a2 with a2; exact .inl (a2 ▸ List.mem_cons_self)
        · rcases List.mem_cons.1 hy with rfl | hy
          · exact this
          · exact a3 y hy ho
        · have := h.2 m' hm'; omega
      · exact absurd (h2 hn).1 (by simp)
    · have e : stQ l q b x = b := by unfold stQ; rw [if_neg h]
      rw [e]
      obtain ⟨h1, h2⟩ := stQ_inv l q t b hb
      have hx : ∀ m, (∀ m', b = some m' → m ≤ m') → okQ l q x = true → (∃ m', b = some m') → m ≤ x := fun m hm ho ⟨m', hm'⟩ => by
        have h3 : ¬ ∀ m, b = some m → x < m := fun h4 => h ⟨ho, h4⟩
        have h5 : ¬ x < m' := fun h6 => h3 fun m'' h7 => by rw [hm'] at h7; injection h7 with h7; omega
        have := hm m' hm'
        omega
      refine ⟨fun m hm => ?_, fun hn => ?_⟩
      · obtain ⟨a1, a2, a3, a4⟩ := h1 m hm
        refine ⟨a1, a2.imp (List.mem_cons_of_mem _) id, fun y hy ho => ?_, a4⟩
        rcases List.mem_cons.1 hy with rfl | hy
        · cases hb' : b with
          | none => exact absurd ⟨ho, fun m h9 => by rw [hb'] at h9; cases h9⟩ h
          | some m' => exact hx m a4 ho ⟨m', hb'⟩
        · exact a3 y hy ho
      · obtain ⟨b1, b2⟩ := h2 hn
        refine ⟨b1, fun y hy => ?_⟩
        rcases List.mem_cons.1 hy with rfl | hy
        · cases hok : okQ l q y with
          | false => rfl
          | true => exact absurd ⟨hok, fun m h9 => by rw [b1] at h9; cases h9⟩ h
        · exact b2 y hy
theorem stQ_quant {l : List Int} {q : Nat} {x : Int} (hx : (sortI l)[rank l.length q]? = some x) : l.foldl (stQ l q) none = some x := by
  obtain ⟨_, hm, h3, h4⟩ := rank_facts (Nat.le_refl q) hx hx
  obtain ⟨h1, h2⟩ := stQ_inv l q l none (fun m h => by cases h)
  have hok : okQ l q x = true := by unfold okQ; rw [decide_eq_true_eq]; exact h3
  cases hf : l.foldl (stQ l q) none with
  | none => rw [(h2 hf).2 x hm] at hok; cases hok
  | some m =>
    obtain ⟨a1, a2, a3, _⟩ := h1 m hf
    have hmx := a3 x hm hok
    have hml : m ∈ l := a2.resolve_right (by simp)
    rcases Int.lt_or_le m x with h | h
    · exfalso
      have h5 := most_less l h
      unfold okQ at a1
      rw [decide_eq_true_eq] at a1
      have h6 : 0 < mostN l m := by
        unfold mostN
        rw [List.countP_pos_iff]
        exact ⟨m, hml, by simp⟩
      have := h4 (by omega)
      omega
    · rw [show m = x by omega]
theorem qmul (q n : Nat) (hq : q ≤ 10000) (hn : n ≤ 10000) : (q : Int) * n ≤ 100000000 ∧ 0 ≤ (q : Int) * n ∧ (q : Int) * n = ((q * n : Nat) : Int) := by
  refine ⟨?_, Int.mul_nonneg (by omega) (by omega), by rw [Int.natCast_mul]⟩
  have := Int.mul_le_mul (by omega : (q : Int) ≤ 10000) (by omega : (n : Int) ≤ 10000) (by omega) (by omega)
  omega
set_option maxHeartbeats 4000000 in
theorem rquant_c (A : Option Addr) (c : Nat) (l : List Int) (q : Nat) (x : Int) (w : World) (hl : l.length ≤ 300) (h0 : 0 < l.length) (hq : q ≤ 10000) (h : RS w 1 intC A l) (hx : (sortI l)[rank l.length q]? = some x) :
    Calls Tryz.prog 92 #[.slice A l.length c, .int .i64 q] w fun e w' => e = .returned (.tuple #[.int .i64 x, .int .i64 0]) ∧ Below w.heap.size w w' := by
  have hfold := stQ_quant hx
  clear hx
  obtain ⟨n, hn⟩ : ∃ n, l.length = n := ⟨_, rfl⟩
  obtain ⟨m1, m2, m3⟩ := qmul q n hq (by omega)
  have hokd : ∀ y, okQ l q y = decide ((q : Int) * n ≤ (mostN l y : Int) * 10000) := fun y => by
    unfold okQ
    rw [hn, decide_eq_decide, m3]
    omega
  have hmle := fun y => mostN_le l y
  rw [hn] at hl h0 hmle ⊢
  refine eng_start (n := 70) (args := [.slice A n c, .int .i64 q]) tab tab_ok fns fns_ok [.tmp 4, .tmp 5] Tryz.func92 rfl rfl rfl rfl ?_
  repeat' (first | (refine gJ ?_; first | refine js rfl rfl rfl rfl ?_ | (refine j_qe rfl rfl rfl ?_; refine ⟨_, q_len_slice rfl rfl rfl rfl, ?_⟩)) | (refine gSC ?_; first | refine sc_mv rfl ?_ | refine sc_q rfl ?_ | refine sc_region ?_) | (refine gSQ ?_; refine sq_go rfl ?_) | refine j_nil ?_ | ((first | refine j_guard rfl rfl rfl rfl rfl ?_ ?_ | refine sc_cond rfl ?_ ?_) <;> intro hc <;> (first | exact absurd hc (by decide) | ((try simp only [engHC] at hc) <;> first | (exfalso; omega) | skip))))
  refine sc_loop (ι := Nat) (fun k => k ≤ n) (fun k => n - k) (fun k => [(0, .slice A n c), (1, .int .i64 q), (6, .int .i64 (((l.take k).foldl (stQ l q) none).getD 0)), (7, .bool ((l.take k).foldl (stQ l q) none).isSome), (8, .int .i64 k)]) (fun _ => []) 0 (Nat.zero_le _) (by repeat (first | exact FSub.nil | refine FSub.cons rfl ?_ | refine FSub.conse rfl (by congr 1; omega) ?_)) (by repeat (first | exact LSub.nil | refine LSub.cons (by repeat (first | exact Rem.here | apply Rem.there)) ?_)) ?_
  intro k hk
  by_cases hlt : k < n
  · obtain ⟨y, hy⟩ : ∃ y, l[k]? = some y := ⟨_, List.getElem?_eq_getElem (by omega)⟩
    obtain ⟨ad, rfl, hX⟩ := h k y hy
    have hnext : (l.take (k + 1)).foldl (stQ l q) none = stQ l q ((l.take k).foldl (stQ l q) none) y := by rw [take_snoc hy, List.foldl_append]; rfl
    generalize (l.take k).foldl (stQ l q) none = b at *
    have hmy := hmle y
    have hoy := hokd y
    repeat' (first | (refine gJ ?_; first | refine js rfl rfl rfl rfl ?_ | (refine j_qe rfl rfl rfl ?_; refine ⟨_, q_len_slice rfl rfl rfl rfl, ?_⟩)) | (refine gSC ?_; first | refine sc_mv rfl ?_ | refine sc_q rfl ?_ | refine sc_region ?_) | (refine gSQ ?_; refine sq_go rfl ?_) | refine j_nil ?_ | ((refine sc_cond rfl ?_ ?_) <;> intro hc <;> (((try simp only [engHC] at hc) <;> first | (exfalso; omega) | skip))))
    refine sc_loop (ι := Nat) (fun j => j ≤ n) (fun j => n - j) (fun j => [(0, .slice (some ad) n c), (1, .int .i64 q), (6, .int .i64 (b.getD 0)), (7, .bool b.isSome), (8, .int .i64 k), (9, .int .i64 (mostN (l.take j) y : Nat)), (10, .int .i64 j)]) (fun _ => []) 0 (Nat.zero_le _) (by repeat (first | exact FSub.nil | refine FSub.cons rfl ?_ | refine FSub.conse rfl (by congr 1; omega) ?_)) (by repeat (first | exact LSub.nil | refine LSub.cons (by repeat (first | exact Rem.here | apply Rem.there)) ?_)) ?_
    intro j hj
    by_cases hjl : j < n
    · obtain ⟨z, hz⟩ : ∃ z, l[j]? = some z := ⟨_, List.getElem?_eq_getElem (by omega)⟩
      obtain ⟨ad', had, hZ⟩ := h j z hz
      obtain rfl : ad = ad' := by injection had
      have g := mostN_take y hz
      have g2 := mostN_le (l.take j) y
      rw [List.length_take] at g2
      by_cases hzy : z ≤ y
      · rw [if_pos hzy] at g
        repeat' (first | (refine gJ ?_; first | refine js rfl rfl rfl rfl ?_ | (refine gload rfl rfl ?_; refine j_qe rfl rfl rfl ?_; refine ⟨_, q_load_ext0 rfl rfl rfl rfl ⟨by assumption, (by first | exact id | assumption)⟩ (by rfl), ?_⟩) | refine jar rfl rfl rfl rfl rfl rfl rfl (by omega) ?_ | (refine j_qe rfl rfl rfl ?_; first | refine ⟨_, q_index_nat rfl rfl rfl rfl rfl (by omega), ?_⟩ | refine ⟨_, q_len_slice rfl rfl rfl rfl, ?_⟩)) | (refine gSC ?_; first | refine sc_mv rfl ?_ | refine sc_q rfl ?_ | refine sc_region ?_ | refine sc_draw rfl mixed (by kernel_rfl) ?_) | (refine gSQ ?_; first | refine sq_go rfl ?_ | refine sq_mv rfl ?_) | refine j_nil ?_ | ((refine sc_cond rfl ?_ ?_) <;> intro hc <;> (((try simp only [engHC] at hc) <;> first | (exfalso; omega) | skip))))
        exact sq_loop (j + 1) (by omega) (by omega) (by repeat (first | exact FSub.nil | refine FSub.cons rfl ?_ | refine FSub.conse rfl (by congr 1; omega) ?_)) (by repeat (first | exact LSub.nil | refine LSub.cons (by repeat (first | exact Rem.here | apply Rem.there)) ?_))
      · rw [if_neg hzy] at g
        repeat' (first | (refine gJ ?_; first | refine js rfl rfl rfl rfl ?_ | (refine gload rfl rfl ?_; refine j_qe rfl rfl rfl ?_; refine ⟨_, q_load_ext0 rfl rfl rfl rfl ⟨by assumption, (by first | exact id | assumption)⟩ (by rfl), ?_⟩) | refine jar rfl rfl rfl rfl rfl rfl rfl (by omega) ?_ | (refine j_qe rfl rfl rfl ?_; first | refine ⟨_, q_index_nat rfl rfl rfl rfl rfl (by omega), ?_⟩ | refine ⟨_, q_len_slice rfl rfl rfl rfl, ?_⟩)) | (refine gSC ?_; first | refine sc_mv rfl ?_ | refine sc_q rfl ?_ | refine sc_region ?_ | refine sc_draw rfl mixed (by kernel_rfl) ?_) | (refine gSQ ?_; first | refine sq_go rfl ?_ | refine sq_mv rfl ?_) | refine j_nil ?_ | ((refine sc_cond rfl ?_ ?_) <;> intro hc <;> (((try simp only [engHC] at hc) <;> first | (exfalso; omega) | skip))))
        exact sq_loop (j + 1) (by omega) (by omega) (by repeat (first | exact FSub.nil | refine FSub.cons rfl ?_ | refine FSub.conse rfl (by congr 1; omega) ?_)) (by repeat (first | exact LSub.nil | refine LSub.cons (by repeat (first | exact Rem.here | apply Rem.there)) ?_))
    · obtain rfl : j = n := by omega
      rw [List.take_of_length_le (by omega)]
      cases hok : okQ l q y with
      | false =>
        rw [hok] at hoy
        have hoy' := of_decide_eq_false hoy.symm
        have e1 : stQ l q b y = b := by unfold stQ; rw [if_neg (by rw [hok]; simp)]
        rw [e1] at hnext
        repeat' (first | (refine gJ ?_; first | refine js rfl rfl rfl rfl ?_ | refine jar rfl rfl rfl rfl rfl rfl rfl (by omega) ?_ | (refine j_qe rfl rfl rfl ?_; refine ⟨_, q_len_slice rfl rfl rfl rfl, ?_⟩) | refine j_guard_undef rfl rfl rfl rfl rfl ?_) | (refine gSC ?_; first | refine sc_mv rfl ?_ | refine sc_q rfl ?_ | refine sc_region ?_) | (refine gSQ ?_; first | refine sq_go rfl ?_ | refine sq_mv rfl ?_) | refine j_nil ?_ | ((first | refine j_guard rfl rfl rfl rfl rfl ?_ ?_ | refine sc_cond rfl ?_ ?_) <;> intro hc <;> (first | exact absurd hc (by decide) | ((try simp only [engHC] at hc) <;> first | (exfalso; omega) | skip))))
        refine sq_loop (k + 1) (by omega) (by omega) ?_ (by repeat (first | exact LSub.nil | refine LSub.cons (by repeat (first | exact Rem.here | apply Rem.there)) ?_))
        rw [hnext]
        exact (by repeat (first | exact FSub.nil | refine FSub.cons rfl ?_ | refine FSub.conse rfl (by congr 1; omega) ?_))
      | true =>
        rw [hok] at hoy
        have hoy' := of_decide_eq_true hoy.symm
        cases b with
        | none =>
          have e1 : stQ l q none y = some y := by unfold stQ; rw [if_pos ⟨hok, fun m h => by cases h⟩]
          rw [e1] at hnext
          simp only [Option.getD_none, Option.isSome_none]
          repeat' (first | (refine gJ ?_; first | refine js rfl rfl rfl rfl ?_ | (refine gload rfl rfl ?_; refine j_qe rfl rfl rfl ?_; refine ⟨_, q_load_ext0 rfl rfl rfl rfl ⟨by assumption, (by first | exact id | assumption)⟩ (by rfl), ?_⟩) | refine jar rfl rfl rfl rfl rfl rfl rfl (by omega) ?_ | (refine j_qe rfl rfl rfl ?_; first | refine ⟨_, q_index_nat rfl rfl rfl rfl rfl (by omega), ?_⟩ | refine ⟨_, q_len_slice rfl rfl rfl rfl, ?_⟩)) | (refine gSC ?_; first | refine sc_mv rfl ?_ | refine sc_q rfl ?_ | refine sc_region ?_) | (refine gSQ ?_; first | refine sq_go rfl ?_ | refine sq_mv rfl ?_) | refine j_nil ?_ | ((first | refine j_guard rfl rfl rfl rfl rfl ?_ ?_ | refine sc_cond rfl ?_ ?_) <;> intro hc <;> (first | exact absurd hc (by decide) | ((try simp only [engHC] at hc) <;> first | (exfalso; omega) | skip))))
          refine sq_loop (k + 1) (by omega) (by omega) ?_ (by repeat (first | exact LSub.nil | refine LSub.cons (by repeat (first | exact Rem.here | apply Rem.there)) ?_))
          rw [hnext]
          exact (by repeat (first | exact FSub.nil | refine FSub.cons rfl ?_ | refine FSub.conse rfl (by congr 1; omega) ?_))
        | some m =>
          simp only [Option.getD_some, Option.isSome_some]
          by_cases hym : y < m
          · have e1 : stQ l q (some m) y = some y := by unfold stQ; rw [if_pos ⟨hok, fun m' h => by injection h with h; omega⟩]
            rw [e1] at hnext
            repeat' (first | (refine gJ ?_; first | refine js rfl rfl rfl rfl ?_ | (refine gload rfl rfl ?_; refine j_qe rfl rfl rfl ?_; refine ⟨_, q_load_ext0 rfl rfl rfl rfl ⟨by assumption, (by first | exact id | assumption)⟩ (by rfl), ?_⟩) | refine jar rfl rfl rfl rfl rfl rfl rfl (by omega) ?_ | (refine j_qe rfl rfl rfl ?_; first | refine ⟨_, q_index_nat rfl rfl rfl rfl rfl (by omega), ?_⟩ | refine ⟨_, q_len_slice rfl rfl rfl rfl, ?_⟩)) | (refine gSC ?_; first | refine sc_mv rfl ?_ | refine sc_q rfl ?_ | refine sc_region ?_) | (refine gSQ ?_; first | refine sq_go rfl ?_ | refine sq_mv rfl ?_) | refine j_nil ?_ | ((first | refine j_guard rfl rfl rfl rfl rfl ?_ ?_ | refine sc_cond rfl ?_ ?_) <;> intro hc <;> (first | exact absurd hc (by decide) | ((try simp only [engHC] at hc) <;> first | (exfalso; omega) | skip))))
            refine sq_loop (k + 1) (by omega) (by omega) ?_ (by repeat (first | exact LSub.nil | refine LSub.cons (by repeat (first | exact Rem.here | apply Rem.there)) ?_))
            rw [hnext]
            exact (by repeat (first | exact FSub.nil | refine FSub.cons rfl ?_ | refine FSub.conse rfl (by congr 1; omega) ?_))
          · have e1 : stQ l q (some m) y = some m := by unfold stQ; rw [if_neg (fun h => hym (h.2 m rfl))]
            rw [e1] at hnext
            repeat' (first | (refine gJ ?_; first | refine js rfl rfl rfl rfl ?_ | (refine gload rfl rfl ?_; refine j_qe rfl rfl rfl ?_; refine ⟨_, q_load_ext0 rfl rfl rfl rfl ⟨by assumption, (by first | exact id | assumption)⟩ (by rfl), ?_⟩) | refine jar rfl rfl rfl rfl rfl rfl rfl (by omega) ?_ | (refine j_qe rfl rfl rfl ?_; first | refine ⟨_, q_index_nat rfl rfl rfl rfl rfl (by omega), ?_⟩ | refine ⟨_, q_len_slice rfl rfl rfl rfl, ?_⟩)) | (refine gSC ?_; first | refine sc_mv rfl ?_ | refine sc_q rfl ?_ | refine sc_region ?_) | (refine gSQ ?_; first | refine sq_go rfl ?_ | refine sq_mv rfl ?_) | refine j_nil ?_ | ((first | refine j_guard rfl rfl rfl rfl rfl ?_ ?_ | refine sc_cond rfl ?_ ?_) <;> intro hc <;> (first | exact absurd hc (by decide) | ((try simp only [engHC] at hc) <;> first | (exfalso; omega) | skip))))
            refine sq_loop (k + 1) (by omega) (by omega) ?_ (by repeat (first | exact LSub.nil | refine LSub.cons (by repeat (first | exact Rem.here | apply Rem.there)) ?_))
            rw [hnext]
            exact (by repeat (first | exact FSub.nil | refine FSub.cons rfl ?_ | refine FSub.conse rfl (by congr 1; omega) ?_))
  · obtain rfl : k = n := by omega
    rw [List.take_of_length_le (by omega), hfold]
    repeat' (first | (refine gJ ?_; first | refine js rfl rfl rfl rfl ?_ | (refine j_qe rfl rfl rfl ?_; refine ⟨_, q_len_slice rfl rfl rfl rfl, ?_⟩)) | (refine gSC ?_; first | refine sc_mv rfl ?_ | refine sc_q rfl ?_ | refine sc_region ?_) | (refine gSQ ?_; first | refine sq_go rfl ?_ | refine sq_mv rfl ?_ | refine sq_ende (by first | exact .inl rfl | exact .inr rfl) rfl rfl ⟨_, (RVs.cons (RV.tmp rfl) (RVs.cons (RV.tmp rfl) (RVs.nil))), ?_⟩) | refine j_nil ?_ | ((refine sc_cond rfl ?_ ?_) <;> intro hc <;> (((try simp only [engHC] at hc) <;> first | (exfalso; omega) | skip))))
    (intro w' hS; refine ⟨?_, hS.below⟩; simp only [pack])
    rfl
theorem rquant_e (A : Option Addr) (c : Nat) (l : List Int) (q : Int) (w : World) (hl : l.length ≤ 9223372036854775807) (hbad : 10000 < l.length ∨ (q < 0 ∨ 10000 < q) ∨ l.length = 0) :
    Calls Tryz.prog 92 #[.slice A l.length c, .int .i64 q] w fun e w' => e = .returned (.tuple #[.int .i64 (quantF l q).1, .int .i64 (quantF l q).2]) ∧ Below w.heap.size w w' := by
  generalize hn : l.length = n at *
  refine eng_start (n := 70) (args := [.slice A n c, .int .i64 q]) tab tab_ok fns fns_ok [.tmp 4, .tmp 5] Tryz.func92 rfl rfl rfl rfl ?_
  repeat' (first | (refine gJ ?_; first | refine js rfl rfl rfl rfl ?_ | (refine j_qe rfl rfl rfl ?_; refine ⟨_, q_len_slice rfl rfl rfl rfl, ?_⟩)) | (refine gSC ?_; first | refine sc_mv rfl ?_ | refine sc_q rfl ?_ | refine sc_region ?_) | (refine gSQ ?_; first | refine sq_go rfl ?_ | refine sq_mv rfl ?_ | refine sq_ende (by first | exact .inl rfl | exact .inr rfl) rfl rfl ⟨_, (RVs.cons (RV.tmp rfl) (RVs.cons (RV.tmp rfl) (RVs.nil))), ?_⟩) | refine j_nil ?_ | ((first | refine j_guard rfl rfl rfl rfl rfl ?_ ?_ | refine sc_cond rfl ?_ ?_) <;> intro hc <;> (first | exact absurd hc (by decide) | ((try simp only [engHC] at hc) <;> first | (exfalso; omega) | skip))))
  all_goals (try (exfalso; omega))
  all_goals ((intro w' hS; refine ⟨?_, hS.below⟩; simp only [pack]); unfold quantF; rw [hn]; (repeat' split) <;> first | rfl | (exfalso; omega))
end Go.Proofs.YtmakokbpadmfbaaGreat

