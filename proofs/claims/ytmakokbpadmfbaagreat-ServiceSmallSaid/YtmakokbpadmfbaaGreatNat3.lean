/-
  nat: Add.
-/
import Derived.Test.YtmakokbpadmfbaaGreatNat2
namespace Go.Proofs.YtmakokbpadmfbaaGreat
open Go.RowKit Eng
set_option linter.unusedVariables false
set_option linter.unusedSimpArgs false
set_option maxHeartbeats 8000000
attribute [local irreducible] SC SQ J Qt Calls Iterates LSub FSub
set_option maxHeartbeats 4000000 in
theorem add_c (A : Option Addr) (c a : Nat) (B : Option Addr) (bc b : Nat) (w : World) (hla : (limbs a).length ≤ 1000) (hlb : (limbs b).length ≤ 1000) (hA : SL w A c (limbs a)) (hB : SL w B bc (limbs b)) :
    Calls Tryz.prog 105 #[.slice A (limbs a).length c, .slice B (limbs b).length bc] w fun e w' => ∃ v : Value, True ∧ e = .returned (.tuple #[v, .int .i64 0]) ∧ St w Cold [haN v (a + b)] w' := by
  have h1 := fun w' hA => right_c A c a w' (by omega) hA
  have h2 := fun w' hB => right_c B bc b w' (by omega) hB
  have ia := limbs_in a
  have ib := limbs_in b
  have hsum : vl (limbs a) + vl (limbs b) = a + b := by rw [limbs_vl, limbs_vl]
  have hsum2 : vl (limbs b) + vl (limbs a) = a + b := by omega
  have hRa := hA.rs
  have hRb := hB.rs
  generalize limbs a = l at *
  generalize limbs b = r at *
  obtain ⟨n, hn⟩ : ∃ n, l.length = n := ⟨_, rfl⟩
  obtain ⟨m, hm⟩ : ∃ m, r.length = m := ⟨_, rfl⟩
  rw [hn] at hla
  rw [hm] at hlb
  simp only [hn, hm] at h1 h2 ⊢
  by_cases hnm : n < m
  · refine eng_start (n := 66) (args := [.slice A n c, .slice B m bc]) tab tab_ok fns fns_ok [.tmp 4, .tmp 5] Tryz.func105 rfl rfl rfl rfl ?_
    have hN : ((m : Int) + 1).toNat = m + 1 := by omega
    repeat' (first | (refine gJ ?_; first | refine js rfl rfl rfl rfl ?_ | refine jar rfl rfl rfl rfl rfl rfl rfl (by omega) ?_ | (refine gcall rfl rfl ?_; first | (refine j_qc (f := 55) rfl rfl rfl rfl rfl rfl rfl ?_; refine ⟨_, (fun w' hs => h1 w' (hA.st hs)), ?_⟩) | (refine j_qc (f := 55) rfl rfl rfl rfl rfl rfl rfl ?_; refine ⟨_, (fun w' hs => h2 w' (hB.st hs)), ?_⟩)) | (refine gF ?_; refine j_make rfl rfl rfl rfl rfl rfl rfl rfl rfl rfl rfl (by omega) ?_; intro bs; rw [hN]) | (refine gcall rfl rfl ?_; refine gF ?_; refine j_callN (f := 131) rfl rfl rfl rfl rfl rfl rfl (fun b => .func (.func 150) #[] #[.pointer (some ⟨b, 0, none⟩)]) (fun _ => True) (fun b => [.cells b 92 [.int .u32 0]]) (fun w' _ => adder_c w') (fun _ => trivial) ?_; rintro bc9 _) | (refine j_qe rfl rfl rfl ?_; refine ⟨_, q_len_slice rfl rfl rfl rfl, ?_⟩)) | (refine gSC ?_; first | refine sc_mv rfl ?_ | refine sc_q rfl ?_ | refine sc_region ?_) | (refine gSQ ?_; refine sq_go rfl ?_) | refine j_nil ?_ | ((first | refine j_guard rfl rfl rfl rfl rfl ?_ ?_ | refine sc_cond rfl ?_ ?_) <;> intro hc <;> (first | exact absurd hc (by decide) | ((try simp only [engHC] at hc) <;> first | (exfalso; omega) | skip))))
    refine sc_own_eq (v := .slice (some ⟨bs, 0, none⟩) (m + 1) (m + 1)) (xs := reps (m + 1) (u32C 0)) (xs' := (List.replicate (m + 1) 0).flatMap u32C) (by repeat (first | exact Rem.here | apply Rem.there)) (reps_flat u32C 0 (m + 1)) ?_
    refine sc_loop (ι := Nat × List Int × Int) (fun i => i.1 ≤ m + 1 ∧ i.2.1.length = m + 1 ∧ inB i.2.1 ∧ (0 ≤ i.2.2 ∧ i.2.2 ≤ 1) ∧ vl (i.2.1.take i.1) + i.2.2 * 4294967296 ^ i.1 = vl (r.take i.1) + vl (l.take i.1)) (fun i => m + 1 - i.1)
      (fun i => [(0, .slice B m bc), (1, .slice A n c), (6, .slice (some ⟨bs, 0, none⟩) (m + 1) (m + 1)), (7, .func (.func 150) #[] #[.pointer (some ⟨bc9, 0, none⟩)]), (32, .int .i64 (m + 1 : Nat)), (33, .int .i64 i.1)])
      (fun i => [.own (.slice (some ⟨bs, 0, none⟩) (m + 1) (m + 1)) 92 1 (m + 1) (i.2.1.flatMap u32C), .cells bc9 92 [.int .u32 i.2.2]]) (0, List.replicate (m + 1) 0, 0) ⟨by omega, by simp, inB_zeros _, by show (0:Int) ≤ 0 ∧ (0:Int) ≤ 1; omega, by simp [vl]⟩ (by repeat (first | exact FSub.nil | refine FSub.cons rfl ?_ | refine FSub.conse rfl (by congr 1; omega) ?_)) (by repeat (first | exact LSub.nil | refine LSub.cons (by repeat (first | exact Rem.here | apply Rem.there)) ?_)) ?_
    rintro ⟨i, T, z⟩ ⟨hi, hT, hTi, hz, hv⟩
    dsimp only at hi hT hTi hz hv ⊢
    by_cases hli : i < m + 1
    · have hst := add_step (by omega) hv
      have hgx := gt_in ib i
      have hgy := gt_in ia i
      obtain ⟨t0, ht0⟩ : ∃ t0, T[i]? = some t0 := ⟨_, List.getElem?_eq_getElem (by omega)⟩
      obtain ⟨x, hxe⟩ : ∃ x, gt r i = x := ⟨_, rfl⟩
      obtain ⟨y, hye⟩ : ∃ y, gt l i = y := ⟨_, rfl⟩
      have fx : i < m → ∃ ad, B = some ad ∧ Ext w (ad.add (i * 1)) (u32C x) := fun h => by
        obtain ⟨x', hx'⟩ : ∃ x', r[i]? = some x' := ⟨_, List.getElem?_eq_getElem (by omega)⟩
        have e : x' = x := by rw [← hxe]; unfold gt; rw [hx']; rfl
        rw [e] at hx'
        exact hRb i x hx'
      have fy : i < n → ∃ ad, A = some ad ∧ Ext w (ad.add (i * 1)) (u32C y) := fun h => by
        obtain ⟨y', hy'⟩ : ∃ y', l[i]? = some y' := ⟨_, List.getElem?_eq_getElem (by omega)⟩
        have e : y' = y := by rw [← hye]; unfold gt; rw [hy']; rfl
        rw [e] at hy'
        exact hRa i y hy'
      have gx : ¬ i < m → x = 0 := fun h => by rw [← hxe]; unfold gt; rw [List.getElem?_eq_none (by omega)]; rfl
      have gy : ¬ i < n → y = 0 := fun h => by rw [← hye]; unfold gt; rw [List.getElem?_eq_none (by omega)]; rfl
      rw [hxe] at hst hgx
      rw [hye] at hst hgy
      by_cases c1 : i < m
      · obtain ⟨ad, rfl, hX⟩ := fx c1
        by_cases c2 : i < n
        · obtain ⟨ad', rfl, hY⟩ := fy c2
          repeat' (first | (refine gJ ?_; first | refine js rfl rfl rfl rfl ?_ | (refine gload rfl rfl ?_; refine j_qe rfl rfl rfl ?_; refine ⟨_, q_load_ext0 rfl rfl rfl rfl ⟨by assumption, (by first | exact id | assumption)⟩ (by rfl), ?_⟩) | refine jar rfl rfl rfl rfl rfl rfl rfl (by omega) ?_ | (refine gcall rfl rfl ?_; refine gF ?_; refine j_call (f := 150) (ξ := Unit) (fun _ => .int .u32 ((x + y + z) % 4294967296)) (fun _ => True) (fun _ => _) rfl rfl rfl rfl rfl rfl rfl (fun w' hs => adder1_c hs hgx hgy hz (by (repeat constructor)) (by (repeat constructor))) ?_; intro _ _) | (refine gF ?_; refine j_store_row (f := u32C) (z := t0) (z' := (x + y + z) % 4294967296) rfl rfl rfl rfl rfl rfl rfl rfl (by (repeat constructor)) (fun _ => rfl) ht0 rfl rfl (by (repeat constructor)) ?_) | (refine j_qe rfl rfl rfl ?_; first | refine ⟨_, q_index_nat rfl rfl rfl rfl rfl (by omega), ?_⟩ | refine ⟨_, q_len_slice rfl rfl rfl rfl, ?_⟩)) | (refine gSC ?_; first | refine sc_mv rfl ?_ | refine sc_q rfl ?_ | refine sc_region ?_) | (refine gSQ ?_; first | refine sq_go rfl ?_ | refine sq_mv rfl ?_) | refine j_nil ?_ | ((refine sc_cond rfl ?_ ?_) <;> intro hc <;> (((try simp only [engHC] at hc) <;> first | (exfalso; omega) | skip))))
          exact sq_loop (i + 1, T.set i ((x + y + z) % 4294967296), (x + y + z) / 4294967296) ⟨by show i + 1 ≤ m + 1; omega, by simp [hT], inB_set hTi (by omega), by show 0 ≤ (x + y + z) / 4294967296 ∧ (x + y + z) / 4294967296 ≤ 1; omega, hst⟩ (by show m + 1 - (i + 1) < m + 1 - i; omega) (by repeat (first | exact FSub.nil | refine FSub.cons rfl ?_ | refine FSub.conse rfl (by congr 1; omega) ?_)) (by repeat (first | exact LSub.nil | refine LSub.cons (by repeat (first | exact Rem.here | apply Rem.there)) ?_))
        · have := gy c2
          subst this
          repeat' (first | (refine gJ ?_; first | refine js rfl rfl rfl rfl ?_ | (refine gload rfl rfl ?_; refine j_qe rfl rfl rfl ?_; refine ⟨_, q_load_ext0 rfl rfl rfl rfl ⟨by assumption, (by first | exact id | assumption)⟩ (by rfl), ?_⟩) | refine jar rfl rfl rfl rfl rfl rfl rfl (by omega) ?_ | (refine gcall rfl rfl ?_; refine gF ?_; refine j_call (f := 150) (ξ := Unit) (fun _ => .int .u32 ((x + 0 + z) % 4294967296)) (fun _ => True) (fun _ => _) rfl rfl rfl rfl rfl rfl rfl (fun w' hs => adder1_c hs hgx hgy hz (by (repeat constructor)) (by (repeat constructor))) ?_; intro _ _) | (refine gF ?_; refine j_store_row (f := u32C) (z := t0) (z' := (x + 0 + z) % 4294967296) rfl rfl rfl rfl rfl rfl rfl rfl (by (repeat constructor)) (fun _ => rfl) ht0 rfl rfl (by (repeat constructor)) ?_) | (refine j_qe rfl rfl rfl ?_; first | refine ⟨_, q_index_nat rfl rfl rfl rfl rfl (by omega), ?_⟩ | refine ⟨_, q_len_slice rfl rfl rfl rfl, ?_⟩)) | (refine gSC ?_; first | refine sc_mv rfl ?_ | refine sc_q rfl ?_ | refine sc_region ?_) | (refine gSQ ?_; first | refine sq_go rfl ?_ | refine sq_mv rfl ?_) | refine j_nil ?_ | ((refine sc_cond rfl ?_ ?_) <;> intro hc <;> (((try simp only [engHC] at hc) <;> first | (exfalso; omega) | skip))))
          exact sq_loop (i + 1, T.set i ((x + 0 + z) % 4294967296), (x + 0 + z) / 4294967296) ⟨by show i + 1 ≤ m + 1; omega, by simp [hT], inB_set hTi (by omega), by show 0 ≤ (x + 0 + z) / 4294967296 ∧ (x + 0 + z) / 4294967296 ≤ 1; omega, hst⟩ (by show m + 1 - (i + 1) < m + 1 - i; omega) (by repeat (first | exact FSub.nil | refine FSub.cons rfl ?_ | refine FSub.conse rfl (by congr 1; omega) ?_)) (by repeat (first | exact LSub.nil | refine LSub.cons (by repeat (first | exact Rem.here | apply Rem.there)) ?_))
      · have c2 : ¬ i < n := by omega
        have := gx c1
        subst this
        have := gy c2
        subst this
        repeat' (first | (refine gJ ?_; first | refine js rfl rfl rfl rfl ?_ | refine jar rfl rfl rfl rfl rfl rfl rfl (by omega) ?_ | (refine gcall rfl rfl ?_; refine gF ?_; refine j_call (f := 150) (ξ := Unit) (fun _ => .int .u32 ((0 + 0 + z) % 4294967296)) (fun _ => True) (fun _ => _) rfl rfl rfl rfl rfl rfl rfl (fun w' hs => adder1_c hs hgx hgy hz (by (repeat constructor)) (by (repeat constructor))) ?_; intro _ _) | (refine gF ?_; refine j_store_row (f := u32C) (z := t0) (z' := (0 + 0 + z) % 4294967296) rfl rfl rfl rfl rfl rfl rfl rfl (by (repeat constructor)) (fun _ => rfl) ht0 rfl rfl (by (repeat constructor)) ?_) | (refine j_qe rfl rfl rfl ?_; first | refine ⟨_, q_index_nat rfl rfl rfl rfl rfl (by omega), ?_⟩ | refine ⟨_, q_len_slice rfl rfl rfl rfl, ?_⟩)) | (refine gSC ?_; first | refine sc_mv rfl ?_ | refine sc_q rfl ?_ | refine sc_region ?_) | (refine gSQ ?_; first | refine sq_go rfl ?_ | refine sq_mv rfl ?_) | refine j_nil ?_ | ((refine sc_cond rfl ?_ ?_) <;> intro hc <;> (((try simp only [engHC] at hc) <;> first | (exfalso; omega) | skip))))
        exact sq_loop (i + 1, T.set i ((0 + 0 + z) % 4294967296), (0 + 0 + z) / 4294967296) ⟨by show i + 1 ≤ m + 1; omega, by simp [hT], inB_set hTi (by omega), by show 0 ≤ (0 + 0 + z) / 4294967296 ∧ (0 + 0 + z) / 4294967296 ≤ 1; omega, hst⟩ (by show m + 1 - (i + 1) < m + 1 - i; omega) (by repeat (first | exact FSub.nil | refine FSub.cons rfl ?_ | refine FSub.conse rfl (by congr 1; omega) ?_)) (by repeat (first | exact LSub.nil | refine LSub.cons (by repeat (first | exact Rem.here | apply Rem.there)) ?_))
    · have hin : i = m + 1 := by omega
      subst hin
      rw [List.take_of_length_le (by omega), List.take_of_length_le (by omega), List.take_of_length_le (by omega), hsum2] at hv
      have hb1 := vl_lt ib
      have hb2 := vl_lt ia
      have hz0 : z = 0 := by
        rw [hm] at hb1
        rw [hn] at hb2
        have h3 : (4294967296 : Int) ^ n ≤ 4294967296 ^ m := B_le (by omega)
        have h4 : (4294967296 : Int) ^ (m + 1) = 4294967296 ^ m * 4294967296 := Int.pow_succ _ _
        have h5 := vl_nonneg hTi
        have h6 : (0 : Int) < 4294967296 ^ m := Int.pow_pos (by omega)
        have : z = 0 ∨ z = 1 := by omega
        rcases this with h | h
        · exact h
        · exfalso
          subst h
          omega
      subst hz0
      have htr := trim_limbs hTi (v := a + b) (by omega)
      have htk := trim_take T
      rw [htr] at htk
      have hll : (limbs (a + b)).length ≤ m + 1 := by omega
      repeat' (first | (refine gJ ?_; first | refine js rfl rfl rfl rfl ?_ | (refine gcall rfl rfl ?_; (refine j_qc (f := 58) rfl rfl rfl rfl rfl rfl rfl ?_; refine ⟨_, (fun w' hs => by have h9 := trimmed_c (some ⟨bs, 0, none⟩) (m + 1) T w' (by omega) (by omega) (sl_of_own hs (by (repeat constructor)) hT.symm rfl).rs; rw [htr, hT] at h9; exact h9), ?_⟩)) | (refine j_qe rfl rfl rfl ?_; refine ⟨_, q_len_slice rfl rfl rfl rfl, ?_⟩)) | (refine gSC ?_; first | refine sc_mv rfl ?_ | refine sc_q rfl ?_ | refine sc_region ?_) | (refine gSQ ?_; first | refine sq_go rfl ?_ | refine sq_mv rfl ?_ | refine sq_ende (by first | exact .inl rfl | exact .inr rfl) rfl rfl ⟨_, (RVs.cons (RV.tmp rfl) (RVs.cons (RV.tmp rfl) (RVs.nil))), ?_⟩) | refine j_nil ?_ | ((refine sc_cond rfl ?_ ?_) <;> intro hc <;> (((try simp only [engHC] at hc) <;> first | (exfalso; omega) | skip))))
      intro w' hS
      refine ⟨_, trivial, rfl, ?_⟩
      have h9 := take_own hS InL.here hll Upd.here
      rw [flat_take, ← htk.1] at h9
      exact h9.sub (by repeat (first | exact LSub.nil | refine LSub.cons (by repeat (first | exact Rem.here | apply Rem.there)) ?_))
  · refine eng_start (n := 66) (args := [.slice A n c, .slice B m bc]) tab tab_ok fns fns_ok [.tmp 4, .tmp 5] Tryz.func105 rfl rfl rfl rfl ?_
    have hN : ((n : Int) + 1).toNat = n + 1 := by omega
    repeat' (first | (refine gJ ?_; first | refine js rfl rfl rfl rfl ?_ | refine jar rfl rfl rfl rfl rfl rfl rfl (by omega) ?_ | (refine gcall rfl rfl ?_; first | (refine j_qc (f := 55) rfl rfl rfl rfl rfl rfl rfl ?_; refine ⟨_, (fun w' hs => h1 w' (hA.st hs)), ?_⟩) | (refine j_qc (f := 55) rfl rfl rfl rfl rfl rfl rfl ?_; refine ⟨_, (fun w' hs => h2 w' (hB.st hs)), ?_⟩)) | (refine gF ?_; refine j_make rfl rfl rfl rfl rfl rfl rfl rfl rfl rfl rfl (by omega) ?_; intro bs; rw [hN]) | (refine gcall rfl rfl ?_; refine gF ?_; refine j_callN (f := 131) rfl rfl rfl rfl rfl rfl rfl (fun b => .func (.func 150) #[] #[.pointer (some ⟨b, 0, none⟩)]) (fun _ => True) (fun b => [.cells b 92 [.int .u32 0]]) (fun w' _ => adder_c w') (fun _ => trivial) ?_; rintro bc9 _) | (refine j_qe rfl rfl rfl ?_; refine ⟨_, q_len_slice rfl rfl rfl rfl, ?_⟩)) | (refine gSC ?_; first | refine sc_mv rfl ?_ | refine sc_q rfl ?_ | refine sc_region ?_) | (refine gSQ ?_; refine sq_go rfl ?_) | refine j_nil ?_ | ((first | refine j_guard rfl rfl rfl rfl rfl ?_ ?_ | refine sc_cond rfl ?_ ?_) <;> intro hc <;> (first | exact absurd hc (by decide) | ((try simp only [engHC] at hc) <;> first | (exfalso; omega) | skip))))
    refine sc_own_eq (v := .slice (some ⟨bs, 0, none⟩) (n + 1) (n + 1)) (xs := reps (n + 1) (u32C 0)) (xs' := (List.replicate (n + 1) 0).flatMap u32C) (by repeat (first | exact Rem.here | apply Rem.there)) (reps_flat u32C 0 (n + 1)) ?_
    refine sc_loop (ι := Nat × List Int × Int) (fun i => i.1 ≤ n + 1 ∧ i.2.1.length = n + 1 ∧ inB i.2.1 ∧ (0 ≤ i.2.2 ∧ i.2.2 ≤ 1) ∧ vl (i.2.1.take i.1) + i.2.2 * 4294967296 ^ i.1 = vl (l.take i.1) + vl (r.take i.1)) (fun i => n + 1 - i.1)
      (fun i => [(0, .slice A n c), (1, .slice B m bc), (6, .slice (some ⟨bs, 0, none⟩) (n + 1) (n + 1)), (7, .func (.func 150) #[] #[.pointer (some ⟨bc9, 0, none⟩)]), (32, .int .i64 (n + 1 : Nat)), (33, .int .i64 i.1)])
      (fun i => [.own (.slice (some ⟨bs, 0, none⟩) (n + 1) (n + 1)) 92 1 (n + 1) (i.2.1.flatMap u32C), .cells bc9 92 [.int .u32 i.2.2]]) (0, List.replicate (n + 1) 0, 0) ⟨by omega, by simp, inB_zeros _, by show (0:Int) ≤ 0 ∧ (0:Int) ≤ 1; omega, by simp [vl]⟩ (by repeat (first | exact FSub.nil | refine FSub.cons rfl ?_ | refine FSub.conse rfl (by congr 1; omega) ?_)) (by repeat (first | exact LSub.nil | refine LSub.cons (by repeat (first | exact Rem.here | apply Rem.there)) ?_)) ?_
    rintro ⟨i, T, z⟩ ⟨hi, hT, hTi, hz, hv⟩
    dsimp only at hi hT hTi hz hv ⊢
    by_cases hli : i < n + 1
    · have hst := add_step (by omega) hv
      have hgx := gt_in ia i
      have hgy := gt_in ib i
      obtain ⟨t0, ht0⟩ : ∃ t0, T[i]? = some t0 := ⟨_, List.getElem?_eq_getElem (by omega)⟩
      obtain ⟨x, hxe⟩ : ∃ x, gt l i = x := ⟨_, rfl⟩
      obtain ⟨y, hye⟩ : ∃ y, gt r i = y := ⟨_, rfl⟩
      have fx : i < n → ∃ ad, A = some ad ∧ Ext w (ad.add (i * 1)) (u32C x) := fun h => by
        obtain ⟨x', hx'⟩ : ∃ x', l[i]? = some x' := ⟨_, List.getElem?_eq_getElem (by omega)⟩
        have e : x' = x := by rw [← hxe]; unfold gt; rw [hx']; rfl
        rw [e] at hx'
        exact hRa i x hx'
      have fy : i < m → ∃ ad, B = some ad ∧ Ext w (ad.add (i * 1)) (u32C y) := fun h => by
        obtain ⟨y', hy'⟩ : ∃ y', r[i]? = some y' := ⟨_, List.getElem?_eq_getElem (by omega)⟩
        have e : y' = y := by rw [← hye]; unfold gt; rw [hy']; rfl
        rw [e] at hy'
        exact hRb i y hy'
      have gx : ¬ i < n → x = 0 := fun h => by rw [← hxe]; unfold gt; rw [List.getElem?_eq_none (by omega)]; rfl
      have gy : ¬ i < m → y = 0 := fun h => by rw [← hye]; unfold gt; rw [List.getElem?_eq_none (by omega)]; rfl
      rw [hxe] at hst hgx
      rw [hye] at hst hgy
      by_cases c1 : i < n
      · obtain ⟨ad, rfl, hX⟩ := fx c1
        by_cases c2 : i < m
        · obtain ⟨ad', rfl, hY⟩ := fy c2
          repeat' (first | (refine gJ ?_; first | refine js rfl rfl rfl rfl ?_ | (refine gload rfl rfl ?_; refine j_qe rfl rfl rfl ?_; refine ⟨_, q_load_ext0 rfl rfl rfl rfl ⟨by assumption, (by first | exact id | assumption)⟩ (by rfl), ?_⟩) | refine jar rfl rfl rfl rfl rfl rfl rfl (by omega) ?_ | (refine gcall rfl rfl ?_; refine gF ?_; refine j_call (f := 150) (ξ := Unit) (fun _ => .int .u32 ((x + y + z) % 4294967296)) (fun _ => True) (fun _ => _) rfl rfl rfl rfl rfl rfl rfl (fun w' hs => adder1_c hs hgx hgy hz (by (repeat constructor)) (by (repeat constructor))) ?_; intro _ _) | (refine gF ?_; refine j_store_row (f := u32C) (z := t0) (z' := (x + y + z) % 4294967296) rfl rfl rfl rfl rfl rfl rfl rfl (by (repeat constructor)) (fun _ => rfl) ht0 rfl rfl (by (repeat constructor)) ?_) | (refine j_qe rfl rfl rfl ?_; first | refine ⟨_, q_index_nat rfl rfl rfl rfl rfl (by omega), ?_⟩ | refine ⟨_, q_len_slice rfl rfl rfl rfl, ?_⟩)) | (refine gSC ?_; first | refine sc_mv rfl ?_ | refine sc_q rfl ?_ | refine sc_region ?_) | (refine gSQ ?_; first | refine sq_go rfl ?_ | refine sq_mv rfl ?_) | refine j_nil ?_ | ((refine sc_cond rfl ?_ ?_) <;> intro hc <;> (((try simp only [engHC] at hc) <;> first | (exfalso; omega) | skip))))
          exact sq_loop (i + 1, T.set i ((x + y + z) % 4294967296), (x + y + z) / 4294967296) ⟨by show i + 1 ≤ n + 1; omega, by simp [hT], inB_set hTi (by omega), by show 0 ≤ (x + y + z) / 4294967296 ∧ (x + y + z) / 4294967296 ≤ 1; omega, hst⟩ (by show n + 1 - (i + 1) < n + 1 - i; omega) (by repeat (first | exact FSub.nil | refine FSub.cons rfl ?_ | refine FSub.conse rfl (by congr 1; omega) ?_)) (by repeat (first | exact LSub.nil | refine LSub.cons (by repeat (first | exact Rem.here | apply Rem.there)) ?_))
        · have := gy c2
          subst this
          repeat' (first | (refine gJ ?_; first | refine js rfl rfl rfl rfl ?_ | (refine gload rfl rfl ?_; refine j_qe rfl rfl rfl ?_; refine ⟨_, q_load_ext0 rfl rfl rfl rfl ⟨by assumption, (by first | exact id | assumption)⟩ (by rfl), ?_⟩) | refine jar rfl rfl rfl rfl rfl rfl rfl (by omega) ?_ | (refine gcall rfl rfl ?_; refine gF ?_; refine j_call (f := 150) (ξ := Unit) (fun _ => .int .u32 ((x + 0 + z) % 4294967296)) (fun _ => True) (fun _ => _) rfl rfl rfl rfl rfl rfl rfl (fun w' hs => adder1_c hs hgx hgy hz (by (repeat constructor)) (by (repeat constructor))) ?_; intro _ _) | (refine gF ?_; refine j_store_row (f := u32C) (z := t0) (z' := (x + 0 + z) % 4294967296) rfl rfl rfl rfl rfl rfl rfl rfl (by (repeat constructor)) (fun _ => rfl) ht0 rfl rfl (by (repeat constructor)) ?_) | (refine j_qe rfl rfl rfl ?_; first | refine ⟨_, q_index_nat rfl rfl rfl rfl rfl (by omega), ?_⟩ | refine ⟨_, q_len_slice rfl rfl rfl rfl, ?_⟩)) | (refine gSC ?_; first | refine sc_mv rfl ?_ | refine sc_q rfl ?_ | refine sc_region ?_) | (refine gSQ ?_; first | refine sq_go rfl ?_ | refine sq_mv rfl ?_) | refine j_nil ?_ | ((refine sc_cond rfl ?_ ?_) <;> intro hc <;> (((try simp only [engHC] at hc) <;> first | (exfalso; omega) | skip))))
          exact sq_loop (i + 1, T.set i ((x + 0 + z) % 4294967296), (x + 0 + z) / 4294967296) ⟨by show i + 1 ≤ n + 1; omega, by simp [hT], inB_set hTi (by omega), by show 0 ≤ (x + 0 + z) / 4294967296 ∧ (x + 0 + z) / 4294967296 ≤ 1; omega, hst⟩ (by show n + 1 - (i + 1) < n + 1 - i; omega) (by repeat (first | exact FSub.nil | refine FSub.cons rfl ?_ | refine FSub.conse rfl (by congr 1; omega) ?_)) (by repeat (first | exact LSub.nil | refine LSub.cons (by repeat (first | exact Rem.here | apply Rem.there)) ?_))
      · have c2 : ¬ i < m := by omega
        have := gx c1
        subst this
        have := gy c2
        subst this
        repeat' (first | (refine gJ ?_; first | refine js rfl rfl rfl rfl ?_ | refine jar rfl rfl rfl rfl rfl rfl rfl (by omega) ?_ | (refine gcall rfl rfl ?_; refine gF ?_; refine j_call (f := 150) (ξ := Unit) (fun _ => .int .u32 ((0 + 0 + z) % 4294967296)) (fun _ => True) (fun _ => _) rfl rfl rfl rfl rfl rfl rfl (fun w' hs => adder1_c hs hgx hgy hz (by (repeat constructor)) (by (repeat constructor))) ?_; intro _ _) | (refine gF ?_; refine j_store_row (f := u32C) (z := t0) (z' := (0 + 0 + z) % 4294967296) rfl rfl rfl rfl rfl rfl rfl rfl (by (repeat constructor)) (fun _ => rfl) ht0 rfl rfl (by (repeat constructor)) ?_) | (refine j_qe rfl rfl rfl ?_; first | refine ⟨_, q_index_nat rfl rfl rfl rfl rfl (by omega), ?_⟩ | refine ⟨_, q_len_slice rfl rfl rfl rfl, ?_⟩)) | (refine gSC ?_; first | refine sc_mv rfl ?_ | refine sc_q rfl ?_ | refine sc_region ?_) | (refine gSQ ?_; first | refine sq_go rfl ?_ | refine sq_mv rfl ?_) | refine j_nil ?_ | ((refine sc_cond rfl ?_ ?_) <;> intro hc <;> (((try simp only [engHC] at hc) <;> first | (exfalso; omega) | skip))))
        exact sq_loop (i + 1, T.set i ((0 + 0 + z) % 4294967296), (0 + 0 + z) / 4294967296) ⟨by show i + 1 ≤ n + 1; omega, by simp [hT], inB_set hTi (by omega), by show 0 ≤ (0 + 0 + z) / 4294967296 ∧ (0 + 0 + z) / 4294967296 ≤ 1; omega, hst⟩ (by show n + 1 - (i + 1) < n + 1 - i; omega) (by repeat (first | exact FSub.nil | refine FSub.cons rfl ?_ | refine FSub.conse rfl (by congr 1; omega) ?_)) (by repeat (first | exact LSub.nil | refine LSub.cons (by repeat (first | exact Rem.here | apply Rem.there)) ?_))
    · have hin : i = n + 1 := by omega
      subst hin
      rw [List.take_of_length_le (by omega), List.take_of_length_le (by omega), List.take_of_length_le (by omega), hsum] at hv
      have hb1 := vl_lt ia
      have hb2 := vl_lt ib
      have hz0 : z = 0 := by
        rw [hn] at hb1
        rw [hm] at hb2
        have h3 : (4294967296 : Int) ^ m ≤ 4294967296 ^ n := B_le (by omega)
        have h4 : (4294967296 : Int) ^ (n + 1) = 4294967296 ^ n * 4294967296 := Int.pow_succ _ _
        have h5 := vl_nonneg hTi
        have h6 : (0 : Int) < 4294967296 ^ n := Int.pow_pos (by omega)
        have : z = 0 ∨ z = 1 := by omega
        rcases this with h | h
        · exact h
        · exfalso
          subst h
          omega
      subst hz0
      have htr := trim_limbs hTi (v := a + b) (by omega)
      have htk := trim_take T
      rw [htr] at htk
      have hll : (limbs (a + b)).length ≤ n + 1 := by omega
      repeat' (first | (refine gJ ?_; first | refine js rfl rfl rfl rfl ?_ | (refine gcall rfl rfl ?_; (refine j_qc (f := 58) rfl rfl rfl rfl rfl rfl rfl ?_; refine ⟨_, (fun w' hs => by have h9 := trimmed_c (some ⟨bs, 0, none⟩) (n + 1) T w' (by omega) (by omega) (sl_of_own hs (by (repeat constructor)) hT.symm rfl).rs; rw [htr, hT] at h9; exact h9), ?_⟩)) | (refine j_qe rfl rfl rfl ?_; refine ⟨_, q_len_slice rfl rfl rfl rfl, ?_⟩)) | (refine gSC ?_; first | refine sc_mv rfl ?_ | refine sc_q rfl ?_ | refine sc_region ?_) | (refine gSQ ?_; first | refine sq_go rfl ?_ | refine sq_mv rfl ?_ | refine sq_ende (by first | exact .inl rfl | exact .inr rfl) rfl rfl ⟨_, (RVs.cons (RV.tmp rfl) (RVs.cons (RV.tmp rfl) (RVs.nil))), ?_⟩) | refine j_nil ?_ | ((refine sc_cond rfl ?_ ?_) <;> intro hc <;> (((try simp only [engHC] at hc) <;> first | (exfalso; omega) | skip))))
      intro w' hS
      refine ⟨_, trivial, rfl, ?_⟩
      have h9 := take_own hS InL.here hll Upd.here
      rw [flat_take, ← htk.1] at h9
      exact h9.sub (by repeat (first | exact LSub.nil | refine LSub.cons (by repeat (first | exact Rem.here | apply Rem.there)) ?_))
end Go.Proofs.YtmakokbpadmfbaaGreat

