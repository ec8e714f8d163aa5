/-
  In one text: Nat4, Nat5.
-/
import Derived.Test.YtmakokbpadmfbaaGreatNat3
import Derived.Test.YtmakokbpadmfbaaGreatEngCoreB
/-
  nat: Mul.
-/
namespace Go.Proofs.YtmakokbpadmfbaaGreat
open Go.RowKit Eng
set_option linter.unusedVariables false
set_option linter.unusedSimpArgs false
set_option maxHeartbeats 8000000
attribute [local irreducible] SC SQ J Qt Calls Iterates LSub FSub
set_option maxHeartbeats 4000000 in
theorem mul_c (A : Option Addr) (c a : Nat) (B : Option Addr) (bc b : Nat) (w : World) (hle : (limbs a).length + (limbs b).length ≤ 1024) (hA : SL w A c (limbs a)) (hB : SL w B bc (limbs b)) :
    Calls Tryz.prog 28 #[.slice A (limbs a).length c, .slice B (limbs b).length bc] w fun e w' => ∃ v : Value, True ∧ e = .returned (.tuple #[v, .int .i64 0]) ∧ St w Cold [haN v (a * b)] w' := by
  have h1 := fun w' hA => right_c A c a w' (by omega) hA
  have h2 := fun w' hB => right_c B bc b w' (by omega) hB
  have ia := limbs_in a
  have ib := limbs_in b
  have va := limbs_vl a
  have vb := limbs_vl b
  have hRa := hA.rs
  have hRb := hB.rs
  generalize limbs a = l at *
  generalize limbs b = r at *
  obtain ⟨n, hn⟩ : ∃ n, l.length = n := ⟨_, rfl⟩
  obtain ⟨m, hm⟩ : ∃ m, r.length = m := ⟨_, rfl⟩
  rw [hn, hm] at hle
  simp only [hn, hm] at h1 h2 ⊢
  by_cases h0 : n = 0 ∨ m = 0
  · have hab : a * b = 0 := by
      rcases h0 with h | h
      · rw [h] at hn
        rw [List.length_eq_zero_iff.1 hn] at va
        have : a = 0 := by simpa [vl] using va.symm
        rw [this, Nat.zero_mul]
      · rw [h] at hm
        rw [List.length_eq_zero_iff.1 hm] at vb
        have : b = 0 := by simpa [vl] using vb.symm
        rw [this, Nat.mul_zero]
    rw [hab]
    refine eng_start (n := 96) (args := [.slice A n c, .slice B m bc]) tab tab_ok fns fns_ok [.tmp 4, .tmp 5] Tryz.func28 rfl rfl rfl rfl ?_
    repeat' (first | (refine gJ ?_; first | refine js rfl rfl rfl rfl ?_ | (refine gcall rfl rfl ?_; first | (refine j_qc (f := 55) rfl rfl rfl rfl rfl rfl rfl ?_; refine ⟨_, (fun w' hs => h1 w' (hA.st hs)), ?_⟩) | (refine j_qc (f := 55) rfl rfl rfl rfl rfl rfl rfl ?_; refine ⟨_, (fun w' hs => h2 w' (hB.st hs)), ?_⟩)) | (refine j_qe rfl rfl rfl ?_; refine ⟨_, q_len_slice rfl rfl rfl rfl, ?_⟩)) | (refine gSC ?_; first | refine sc_mv rfl ?_ | refine sc_q rfl ?_ | refine sc_region ?_) | (refine gSQ ?_; first | refine sq_go rfl ?_ | refine sq_mv rfl ?_ | refine sq_ende (by first | exact .inl rfl | exact .inr rfl) rfl rfl ⟨_, (RVs.cons (RV.tmp rfl) (RVs.cons (RV.tmp rfl) (RVs.nil))), ?_⟩) | refine j_nil ?_ | ((first | refine j_guard rfl rfl rfl rfl rfl ?_ ?_ | refine sc_cond rfl ?_ ?_) <;> intro hc <;> (first | exact absurd hc (by decide) | ((try simp only [engHC] at hc) <;> first | (exfalso; omega) | skip))))
    all_goals (intro w' hS; exact ⟨_, trivial, rfl, hS.own_nil (e := 92) (sz := 1)⟩)
  · have hN : ((n : Int) + m).toNat = n + m := by omega
    refine eng_start (n := 96) (args := [.slice A n c, .slice B m bc]) tab tab_ok fns fns_ok [.tmp 4, .tmp 5] Tryz.func28 rfl rfl rfl rfl ?_
    repeat' (first | (refine gJ ?_; first | refine js rfl rfl rfl rfl ?_ | refine jar rfl rfl rfl rfl rfl rfl rfl (by omega) ?_ | (refine gcall rfl rfl ?_; first | (refine j_qc (f := 55) rfl rfl rfl rfl rfl rfl rfl ?_; refine ⟨_, (fun w' hs => h1 w' (hA.st hs)), ?_⟩) | (refine j_qc (f := 55) rfl rfl rfl rfl rfl rfl rfl ?_; refine ⟨_, (fun w' hs => h2 w' (hB.st hs)), ?_⟩)) | (refine gF ?_; refine j_make rfl rfl rfl rfl rfl rfl rfl rfl rfl rfl rfl (by omega) ?_; intro bs; rw [hN]) | (refine j_qe rfl rfl rfl ?_; refine ⟨_, q_len_slice rfl rfl rfl rfl, ?_⟩)) | (refine gSC ?_; first | refine sc_mv rfl ?_ | refine sc_q rfl ?_ | refine sc_region ?_) | (refine gSQ ?_; refine sq_go rfl ?_) | refine j_nil ?_ | ((first | refine j_guard rfl rfl rfl rfl rfl ?_ ?_ | refine sc_cond rfl ?_ ?_) <;> intro hc <;> (first | exact absurd hc (by decide) | ((try simp only [engHC] at hc) <;> first | (exfalso; omega) | skip))))
    refine sc_own_eq (v := .slice (some ⟨bs, 0, none⟩) (n + m) (n + m)) (xs := reps (n + m) (u32C 0)) (xs' := (List.replicate (n + m) 0).flatMap u32C) (by repeat (first | exact Rem.here | apply Rem.there)) (reps_flat u32C 0 (n + m)) ?_
    refine sc_loop (ι := Nat × List Int) (fun i => i.1 ≤ n ∧ i.2.length = n + m ∧ inB i.2 ∧ vl (i.2.take (i.1 + m)) = vl (l.take i.1) * vl r) (fun i => n - i.1)
      (fun i => [(0, .slice A n c), (1, .slice B m bc), (6, .slice (some ⟨bs, 0, none⟩) (n + m) (n + m)), (42, .slice A n c), (43, .int .i64 n), (44, .int .i64 i.1)])
      (fun i => [.own (.slice (some ⟨bs, 0, none⟩) (n + m) (n + m)) 92 1 (n + m) (i.2.flatMap u32C)]) (0, List.replicate (n + m) 0) ⟨by omega, by simp, inB_zeros _, by rw [Nat.zero_add, List.take_replicate, Nat.min_eq_left (by omega), vl_zeros]; simp [vl]⟩ (by repeat (first | exact FSub.nil | refine FSub.cons rfl ?_ | refine FSub.conse rfl (by congr 1; omega) ?_)) (by repeat (first | exact LSub.nil | refine LSub.cons (by repeat (first | exact Rem.here | apply Rem.there)) ?_)) ?_
    rintro ⟨i, T⟩ ⟨hi, hT, hTi, hv⟩
    dsimp only at hi hT hTi hv ⊢
    by_cases hli : i < n
    · obtain ⟨x, hx⟩ : ∃ x, l[i]? = some x := ⟨_, List.getElem?_eq_getElem (by omega)⟩
      obtain ⟨ad, rfl, hX⟩ := hRa i x hx
      have hxb := inB_get ia hx
      have hgx : gt l i = x := by unfold gt; rw [hx]; rfl
      repeat' (first | (refine gJ ?_; first | refine js rfl rfl rfl rfl ?_ | (refine gload rfl rfl ?_; refine j_qe rfl rfl rfl ?_; refine ⟨_, q_load_ext0 rfl rfl rfl rfl ⟨by assumption, (by first | exact id | assumption)⟩ (by rfl), ?_⟩) | (refine j_qe rfl rfl rfl ?_; first | refine ⟨_, q_index_nat rfl rfl rfl rfl rfl (by omega), ?_⟩ | refine ⟨_, q_len_slice rfl rfl rfl rfl, ?_⟩)) | (refine gSC ?_; first | refine sc_mv rfl ?_ | refine sc_q rfl ?_ | refine sc_region ?_) | (refine gSQ ?_; refine sq_go rfl ?_) | refine j_nil ?_ | ((refine sc_cond rfl ?_ ?_) <;> intro hc <;> (((try simp only [engHC] at hc) <;> first | (exfalso; omega) | skip))))
      refine sc_loop (ι := Nat × List Int × Int) (fun j => j.1 ≤ m ∧ j.2.1.length = n + m ∧ inB j.2.1 ∧ (0 ≤ j.2.2 ∧ j.2.2 < 4294967296) ∧ vl (j.2.1.take (i + m)) + j.2.2 * 4294967296 ^ (i + j.1) = vl (l.take i) * vl r + x * 4294967296 ^ i * vl (r.take j.1)) (fun j => m - j.1)
        (fun j => [(0, .slice (some ad) n c), (1, .slice B m bc), (6, .slice (some ⟨bs, 0, none⟩) (n + m) (n + m)), (7, .int .i64 i), (8, .int .u32 x), (9, .int .u64 j.2.2), (42, .slice (some ad) n c), (43, .int .i64 n), (44, .int .i64 i), (49, .slice B m bc), (50, .int .i64 m), (51, .int .i64 j.1)])
        (fun j => [.own (.slice (some ⟨bs, 0, none⟩) (n + m) (n + m)) 92 1 (n + m) (j.2.1.flatMap u32C)]) (0, T, 0) ⟨by omega, hT, hTi, by show (0:Int) ≤ 0 ∧ (0:Int) < 4294967296; omega, by simp [vl, hv]⟩ (by repeat (first | exact FSub.nil | refine FSub.cons rfl ?_ | refine FSub.conse rfl (by congr 1; omega) ?_)) (by repeat (first | exact LSub.nil | refine LSub.cons (by repeat (first | exact Rem.here | apply Rem.there)) ?_)) ?_
      clear hv hTi hT T
      rintro ⟨j, T, z⟩ ⟨hj, hT, hTi, hz, hv⟩
      dsimp only at hj hT hTi hz hv ⊢
      by_cases hlj : j < m
      · obtain ⟨y, hy⟩ : ∃ y, r[j]? = some y := ⟨_, List.getElem?_eq_getElem (by omega)⟩
        obtain ⟨ad', rfl, hY⟩ := hRb j y hy
        have hyb := inB_get ib hy
        have hgy : gt r j = y := by unfold gt; rw [hy]; rfl
        obtain ⟨t, ht⟩ : ∃ t, T[i + j]? = some t := ⟨_, List.getElem?_eq_getElem (by omega)⟩
        have htb := inB_get hTi ht
        have hxy := mul_in hxb hyb
        have e1 : i + j = ((i : Int) + (j : Int)).toNat := by omega
        have ht' := ht
        rw [e1] at ht'
        have hst := mul_step ht (by omega : i + j < i + m) hv
        rw [hgy] at hst
        repeat' (first | (refine gJ ?_; first | refine js rfl rfl rfl rfl ?_ | (refine gload rfl rfl ?_; refine j_qe rfl rfl rfl ?_; refine ⟨_, q_load_ext0 rfl rfl rfl rfl ⟨by assumption, (by first | exact id | assumption)⟩ (by rfl), ?_⟩) | refine jar rfl rfl rfl rfl rfl rfl rfl (by omega) ?_ | (refine j_qe rfl rfl rfl ?_; refine ⟨_, q_row1 (f := u32C) rfl rfl rfl rfl (by (repeat constructor)) (fun _ => rfl) ht' rfl, ?_⟩) | (refine j_qe rfl rfl rfl ?_; refine ⟨_, q_convw (k := .u64) rfl rfl rfl rfl rfl rfl (u64_wrap (by omega) (by omega)), ?_⟩) | (refine j_qe rfl rfl rfl ?_; refine ⟨_, q_convw (k := .u32) rfl rfl rfl rfl rfl rfl u32_wrap, ?_⟩) | (refine j_qe rfl rfl rfl ?_; refine ⟨_, q_shr32 rfl rfl rfl rfl, ?_⟩) | (refine j_qe rfl rfl rfl ?_; refine ⟨_, q_ark (k := .u64) rfl rfl rfl rfl (u64_wrap (by omega) (by omega)), ?_⟩) | (refine gF ?_; refine j_store_row (f := u32C) (z := t) (z' := (x * y + t + z) % 4294967296) rfl rfl rfl rfl rfl rfl rfl rfl (by (repeat constructor)) (fun _ => rfl) ht' rfl rfl (by (repeat constructor)) ?_) | (refine j_qe rfl rfl rfl ?_; refine ⟨_, q_index_nat rfl rfl rfl rfl rfl (by omega), ?_⟩)) | (refine gSC ?_; first | refine sc_mv rfl ?_ | refine sc_q rfl ?_ | refine sc_region ?_) | (refine gSQ ?_; first | refine sq_go rfl ?_ | refine sq_mv rfl ?_) | refine j_nil ?_ | ((refine sc_cond rfl ?_ ?_) <;> intro hc <;> (((try simp only [engHC] at hc) <;> first | (exfalso; omega) | skip))))
        refine sq_loop (j + 1, T.set (i + j) ((x * y + t + z) % 4294967296), (x * y + t + z) / 4294967296) ⟨by show j + 1 ≤ m; omega, by simp [hT], inB_set hTi (by omega), by show 0 ≤ (x * y + t + z) / 4294967296 ∧ (x * y + t + z) / 4294967296 < 4294967296; omega, hst⟩ (by show m - (j + 1) < m - j; omega) (by repeat (first | exact FSub.nil | refine FSub.cons rfl ?_ | refine FSub.conse rfl (by congr 1; omega) ?_)) ?_
        dsimp only
        rw [e1]
        exact (by repeat (first | exact LSub.nil | refine LSub.cons (by repeat (first | exact Rem.here | apply Rem.there)) ?_))
      · have hjm : j = m := by omega
        subst hjm
        rw [List.take_of_length_le (l := r) (by omega), ← hgx] at hv
        obtain ⟨t, ht⟩ : ∃ t, T[i + j]? = some t := ⟨_, List.getElem?_eq_getElem (by omega)⟩
        have e1 : i + j = ((i : Int) + (j : Int)).toNat := by omega
        have ht' := ht
        rw [e1] at ht'
        have hst := mul_row (by omega) hv
        repeat' (first | (refine gJ ?_; first | refine js rfl rfl rfl rfl ?_ | refine jar rfl rfl rfl rfl rfl rfl rfl (by omega) ?_ | (refine j_qe rfl rfl rfl ?_; refine ⟨_, q_convw (k := .u32) (b := z) rfl rfl rfl rfl rfl rfl (u32_small (by omega) (by omega)), ?_⟩) | (refine gF ?_; refine j_store_row (f := u32C) (z := t) (z' := z) rfl rfl rfl rfl rfl rfl rfl rfl (by (repeat constructor)) (fun _ => rfl) ht' rfl rfl (by (repeat constructor)) ?_) | (refine j_qe rfl rfl rfl ?_; first | refine ⟨_, q_index_nat rfl rfl rfl rfl rfl (by omega), ?_⟩ | refine ⟨_, q_len_slice rfl rfl rfl rfl, ?_⟩)) | (refine gSC ?_; first | refine sc_mv rfl ?_ | refine sc_q rfl ?_ | refine sc_region ?_) | (refine gSQ ?_; first | refine sq_go rfl ?_ | refine sq_mv rfl ?_) | refine j_nil ?_ | ((refine sc_cond rfl ?_ ?_) <;> intro hc <;> (((try simp only [engHC] at hc) <;> first | (exfalso; omega) | skip))))
        refine sq_loop (i + 1, T.set (i + j) z) ⟨by show i + 1 ≤ n; omega, by simp [hT], inB_set hTi (by omega), hst⟩ (by show n - (i + 1) < n - i; omega) (by repeat (first | exact FSub.nil | refine FSub.cons rfl ?_ | refine FSub.conse rfl (by congr 1; omega) ?_)) ?_
        dsimp only
        rw [e1]
        exact (by repeat (first | exact LSub.nil | refine LSub.cons (by repeat (first | exact Rem.here | apply Rem.there)) ?_))
    · have hin : i = n := by omega
      subst hin
      rw [List.take_of_length_le (by omega), List.take_of_length_le (by omega), va, vb] at hv
      have htr := trim_limbs hTi (v := a * b) (by rw [hv]; push_cast; rfl)
      have htk := trim_take T
      rw [htr] at htk
      have hll : (limbs (a * b)).length ≤ i + m := by omega
      repeat' (first | (refine gJ ?_; first | refine js rfl rfl rfl rfl ?_ | (refine gcall rfl rfl ?_; (refine j_qc (f := 58) rfl rfl rfl rfl rfl rfl rfl ?_; refine ⟨_, (fun w' hs => by have h9 := trimmed_c (some ⟨bs, 0, none⟩) (i + m) T w' (by omega) (by omega) (sl_of_own hs (by (repeat constructor)) hT.symm rfl).rs; rw [htr, hT] at h9; exact h9), ?_⟩)) | (refine j_qe rfl rfl rfl ?_; refine ⟨_, q_len_slice rfl rfl rfl rfl, ?_⟩)) | (refine gSC ?_; first | refine sc_mv rfl ?_ | refine sc_q rfl ?_ | refine sc_region ?_) | (refine gSQ ?_; first | refine sq_go rfl ?_ | refine sq_mv rfl ?_ | refine sq_ende (by first | exact .inl rfl | exact .inr rfl) rfl rfl ⟨_, (RVs.cons (RV.tmp rfl) (RVs.cons (RV.tmp rfl) (RVs.nil))), ?_⟩) | refine j_nil ?_ | ((refine sc_cond rfl ?_ ?_) <;> intro hc <;> (((try simp only [engHC] at hc) <;> first | (exfalso; omega) | skip))))
      intro w' hS
      refine ⟨_, trivial, rfl, ?_⟩
      have h9 := take_own hS InL.here hll Upd.here
      rw [flat_take, ← htk.1] at h9
      exact h9.sub (by repeat (first | exact LSub.nil | refine LSub.cons (by repeat (first | exact Rem.here | apply Rem.there)) ?_))
end Go.Proofs.YtmakokbpadmfbaaGreat


/-
  bits: Len, Len64, Div32; nat: divided, DivMod.
-/
namespace Go.Proofs.YtmakokbpadmfbaaGreat
open Go.RowKit Eng
set_option linter.unusedVariables false
set_option linter.unusedSimpArgs false
set_option maxHeartbeats 8000000
attribute [local irreducible] SC SQ J Qt Calls Iterates LSub FSub
open Go.RowKit in
theorem blen_lt : ∀ n : Fin 256, n.val < 2 ^ Lib.bitLen n.val := by decide +kernel
set_option maxRecDepth 100000 in
theorem len64_c (n : Nat) (w : World) (h : n ≤ 65535) :
    Calls Tryz.prog 85 #[.int .u64 n] w fun e w' => e = .returned (.int .i64 (Lib.bitLen n : Nat)) ∧ Below w.heap.size w w' := by
  by_cases h8 : 256 ≤ n
  · have hl := Lib.bitLen_le8' (n / 256) (by omega) (by omega)
    have e1 : ((n : Int) / 256).toNat = n / 256 := by omega
    have e2 := Lib.bitLen_shift8 n h8 (by omega)
    have hl2 : Lib.bitLen ((n : Int) / 256).toNat ≤ 8 := by rw [e1]; exact hl
    refine eng_start (n := 25) (args := [.int .u64 n]) tab tab_ok fns fns_ok [.tmp 2] Tryz.func85 rfl rfl rfl rfl ?_
    repeat' (first | (refine gJ ?_; first | refine js rfl rfl rfl rfl ?_ | refine jar rfl rfl rfl rfl rfl rfl rfl (by omega) ?_ | (refine j_qe rfl rfl rfl ?_; refine ⟨_, q_convw (k := .u8) (b := (n : Int) / 256) rfl rfl rfl rfl rfl rfl (by rw [show IntKind.u8.wrap ((n : Int) / (2 ^ (8 : Int).toNat : Nat)) = ((n : Int) / (2 ^ (8 : Int).toNat : Nat)) % 256 by simp [IntKind.wrap, IntKind.signed, IntKind.bits]]; show ((n : Int) / 256) % 256 = n / 256; omega), ?_⟩) | (refine j_qe rfl rfl rfl ?_; refine ⟨_, q_index_len8 rfl rfl rfl (by kernel_rfl) rfl (by omega), ?_⟩) | (refine j_qe rfl rfl rfl ?_; first | refine ⟨_, q_shr rfl rfl rfl ⟨by omega, by decide⟩, ?_⟩ | refine ⟨_, q_conv rfl rfl rfl rfl rfl rfl (by first | rfl | (exact i64_wrap (by omega) (by omega)) | (exact u8_wrap (by omega) (by omega)) | (exact u64_wrap (by omega) (by omega)) | (exact u16_wrap (by omega) (by omega))), ?_⟩)) | (refine gSC ?_; first | refine sc_mv rfl ?_ | refine sc_q rfl ?_ | refine sc_region ?_) | (refine gSQ ?_; first | refine sq_go rfl ?_ | refine sq_ende (by first | exact .inl rfl | exact .inr rfl) rfl rfl ⟨_, (RVs.cons (RV.tmp rfl) (RVs.nil)), ?_⟩) | refine j_nil ?_ | ((refine sc_cond rfl ?_ ?_) <;> intro hc <;> (((try simp only [engHC] at hc) <;> first | (exfalso; omega) | skip))))
    (intro w' hS; refine ⟨?_, hS.below⟩; simp only [pack])
    rw [e2]
    all_goals (congr 2 <;> omega)
  · have hl2 : Lib.bitLen ((n : Int)).toNat ≤ 8 := Lib.bitLen_le8' n (by omega) (by omega)
    refine eng_start (n := 25) (args := [.int .u64 n]) tab tab_ok fns fns_ok [.tmp 2] Tryz.func85 rfl rfl rfl rfl ?_
    repeat' (first | (refine gJ ?_; first | refine js rfl rfl rfl rfl ?_ | refine jar rfl rfl rfl rfl rfl rfl rfl (by omega) ?_ | (refine j_qe rfl rfl rfl ?_; refine ⟨_, q_convw (k := .u8) (b := (n : Int)) rfl rfl rfl rfl rfl rfl (by rw [show IntKind.u8.wrap (n : Int) = (n : Int) % 256 by simp [IntKind.wrap, IntKind.signed, IntKind.bits]]; omega), ?_⟩) | (refine j_qe rfl rfl rfl ?_; refine ⟨_, q_index_len8 rfl rfl rfl (by kernel_rfl) rfl (by omega), ?_⟩) | (refine j_qe rfl rfl rfl ?_; refine ⟨_, q_conv rfl rfl rfl rfl rfl rfl (by first | rfl | (exact i64_wrap (by omega) (by omega)) | (exact u8_wrap (by omega) (by omega)) | (exact u64_wrap (by omega) (by omega)) | (exact u16_wrap (by omega) (by omega))), ?_⟩)) | (refine gSC ?_; first | refine sc_mv rfl ?_ | refine sc_q rfl ?_ | refine sc_region ?_) | (refine gSQ ?_; first | refine sq_go rfl ?_ | refine sq_ende (by first | exact .inl rfl | exact .inr rfl) rfl rfl ⟨_, (RVs.cons (RV.tmp rfl) (RVs.nil)), ?_⟩) | refine j_nil ?_ | ((refine sc_cond rfl ?_ ?_) <;> intro hc <;> (((try simp only [engHC] at hc) <;> first | (exfalso; omega) | skip))))
    (intro w' hS; refine ⟨?_, hS.below⟩; simp only [pack])
    all_goals (congr 2 <;> simp)
theorem len_c (n : Nat) (w : World) (h : n ≤ 65535) :
    Calls Tryz.prog 57 #[.int .u64 n] w fun e w' => e = .returned (.int .i64 (Lib.bitLen n : Nat)) ∧ Below w.heap.size w w' := by
  refine eng_start (n := 8) (args := [.int .u64 n]) tab tab_ok fns fns_ok [.tmp 2] Tryz.func57 rfl rfl rfl rfl ?_
  repeat' (first | (refine gJ ?_; first | refine js rfl rfl rfl rfl ?_ | (refine gcall rfl rfl ?_; (refine j_qc (f := 85) rfl rfl rfl rfl rfl rfl rfl ?_; refine ⟨_, (fun w' _ => len64_c n w' h), ?_⟩))) | (refine gSC ?_; first | refine sc_mv rfl ?_ | refine sc_q rfl ?_ | refine sc_region ?_) | (refine gSQ ?_; first | refine sq_go rfl ?_ | refine sq_ende (by first | exact .inl rfl | exact .inr rfl) rfl rfl ⟨_, (RVs.cons (RV.tmp rfl) (RVs.nil)), ?_⟩) | refine j_nil ?_ | ((refine sc_cond rfl ?_ ?_) <;> intro hc <;> (first | exact absurd hc (by decide) | ((try simp only [engHC] at hc) <;> skip))))
  (intro w' hS; refine ⟨?_, hS.below⟩; simp only [pack])
theorem div32_c (hi lo y : Int) (w : World) (h0 : 0 ≤ hi) (h1 : hi < y) (hy : y < 4294967296) (hl : 0 ≤ lo ∧ lo < 4294967296) :
    Calls Tryz.prog 157 #[.int .u32 hi, .int .u32 lo, .int .u32 y] w fun e w' => e = .returned (.tuple #[.int .u32 ((hi * 4294967296 + lo) / y), .int .u32 ((hi * 4294967296 + lo) % y)]) ∧ Below w.heap.size w w' := by
  have q1 : (hi * 4294967296 + lo) / y < 4294967296 := Int.ediv_lt_of_lt_mul (by omega) (by
    have : (hi + 1) * 4294967296 ≤ y * 4294967296 := Int.mul_le_mul_of_nonneg_right (by omega) (by omega)
    omega)
  have q0 : 0 ≤ (hi * 4294967296 + lo) / y := Int.ediv_nonneg (by omega) (by omega)
  have r0 := Int.emod_nonneg (hi * 4294967296 + lo) (by omega : y ≠ 0)
  have r1 := Int.emod_lt_of_pos (hi * 4294967296 + lo) (by omega : 0 < y)
  refine eng_start (n := 33) (args := [.int .u32 hi, .int .u32 lo, .int .u32 y]) tab tab_ok fns fns_ok [.tmp 6, .tmp 7] Tryz.func157 rfl rfl rfl rfl ?_
  repeat' (first | (refine gJ ?_; first | refine js rfl rfl rfl rfl ?_ | (refine j_qe rfl rfl rfl ?_; refine ⟨_, q_convw (k := .u64) rfl rfl rfl rfl rfl rfl (u64_wrap (by omega) (by omega)), ?_⟩) | (refine j_qe rfl rfl rfl ?_; refine ⟨_, q_convw (k := .u32) rfl rfl rfl rfl rfl rfl (u32_small (by omega) (by omega)), ?_⟩) | (refine j_qe rfl rfl rfl ?_; refine ⟨_, q_shl32 rfl rfl rfl (by omega), ?_⟩) | (refine j_qe rfl rfl rfl ?_; refine ⟨_, q_orsh 32 (c := hi) rfl rfl rfl (by omega) ⟨by omega, by omega, by omega, by show hi * 2 ^ 32 < 2 ^ 64; omega, by decide⟩ (u64_wrap (by omega) (by omega)), ?_⟩) | (refine j_qe rfl rfl rfl ?_; refine ⟨_, q_quok rfl rfl rfl (by omega) (u64_wrap (by omega) (by omega)), ?_⟩) | (refine j_qe rfl rfl rfl ?_; refine ⟨_, q_remk rfl rfl rfl (by omega) (u64_wrap (by omega) (by omega)), ?_⟩)) | (refine gSC ?_; first | refine sc_mv rfl ?_ | refine sc_q rfl ?_ | refine sc_region ?_ | refine sc_draw rfl mixed (by kernel_rfl) ?_) | (refine gSQ ?_; first | refine sq_go rfl ?_ | refine sq_ende (by first | exact .inl rfl | exact .inr rfl) rfl rfl ⟨_, (RVs.cons (RV.tmp rfl) (RVs.cons (RV.tmp rfl) (RVs.nil))), ?_⟩) | refine j_nil ?_ | ((first | refine j_guard rfl rfl rfl rfl rfl ?_ ?_ | refine sc_cond rfl ?_ ?_) <;> intro hc <;> (first | exact absurd hc (by decide) | ((try simp only [engHC] at hc) <;> first | (exfalso; omega) | skip))))
  (intro w' hS; refine ⟨?_, hS.below⟩; simp only [pack])
/-- Quotients, a limb at a time: the row is lent. -/
theorem divided_c {w0 w : World} {hot : Nat → Prop} {L : List HA} {L' : List Int → List HA} {ad : Addr} {n c : Nat} {p : List Int} {y : Nat} (hs : St w0 hot L w) (hin : InL L (.own (.slice (some ad) n c) 92 1 n (p.flatMap u32C)))
    (hup : ∀ T, Upd L (.own (.slice (some ad) n c) 92 1 n (p.flatMap u32C)) (.own (.slice (some ad) n c) 92 1 n (T.flatMap u32C)) (L' T)) (hn : p.length = n) (hn2 : n ≤ 1000000) (hp : inB p) (h0 : 0 < y) (hy : y < 4294967296) :
    Calls Tryz.prog 144 #[.slice (some ad) n c, .int .u32 y] w fun e w' => ∃ x : List Int × Int, (x.1.length = n ∧ inB x.1 ∧ (0 ≤ x.2 ∧ x.2 < y) ∧ vl x.1 * y + x.2 = vl p) ∧ e = .returned (.int .u32 x.2) ∧ St w0 hot (L' x.1) w' := by
  have hl := hs.lent hin trivial
  refine eng_start_lent (n := 28) (args := [.slice (some ad) n c, .int .u32 y]) tab tab_ok fns fns_ok [.tmp 4] _ _ Tryz.func144 rfl rfl rfl rfl (hl) ?_
  repeat' (first | (refine gJ ?_; first | refine js rfl rfl rfl rfl ?_ | refine jar rfl rfl rfl rfl rfl rfl rfl (by omega) ?_ | (refine j_qe rfl rfl rfl ?_; refine ⟨_, q_len_slice rfl rfl rfl rfl, ?_⟩)) | (refine gSC ?_; first | refine sc_mv rfl ?_ | refine sc_region ?_) | (refine gSQ ?_; refine sq_go rfl ?_) | refine j_nil ?_)
  refine sc_loop (ι := Nat × List Int × Int) (fun k => k.1 ≤ n ∧ k.2.1.length = n ∧ inB k.2.1 ∧ (0 ≤ k.2.2 ∧ k.2.2 < y) ∧ k.2.1.take k.1 = p.take k.1 ∧ vl (k.2.1.drop k.1) * y + k.2.2 = vl (p.drop k.1)) (fun k => k.1)
    (fun k => [(0, .slice (some ad) n c), (1, .int .u32 y), (5, .int .u32 k.2.2), (6, .int .i64 ((k.1 : Int) - 1))]) (fun k => [.own (.slice (some ad) n c) 92 1 n (k.2.1.flatMap u32C)]) (n, p, 0)
    ⟨Nat.le_refl _, hn, hp, by show (0:Int) ≤ 0 ∧ (0:Int) < y; omega, rfl, by show vl (p.drop n) * y + 0 = vl (p.drop n); rw [List.drop_of_length_le (by omega)]; simp [vl]⟩ (by repeat (first | exact FSub.nil | refine FSub.cons rfl ?_ | refine FSub.conse rfl (by congr 1; omega) ?_)) (by repeat (first | exact LSub.nil | refine LSub.cons (by repeat (first | exact Rem.here | apply Rem.there)) ?_)) ?_
  rintro ⟨k, T, r⟩ ⟨hk, hT, hTi, hr, htk, hv⟩
  dsimp only at hk hT hTi hr htk hv ⊢
  cases k with
  | zero =>
    repeat' (first | (refine gJ ?_; refine js rfl rfl rfl rfl ?_) | (refine gSC ?_; first | refine sc_mv rfl ?_ | refine sc_q rfl ?_ | refine sc_region ?_) | (refine gSQ ?_; first | refine sq_go rfl ?_ | refine sq_mv rfl ?_ | refine sq_ende (by first | exact .inl rfl | exact .inr rfl) rfl rfl ⟨_, (RVs.cons (RV.tmp rfl) (RVs.nil)), ?_⟩) | refine j_nil ?_ | ((refine sc_cond rfl ?_ ?_) <;> intro hc <;> (first | exact absurd hc (by decide) | ((try simp only [engHC] at hc) <;> skip))))
    intro w' hS
    refine ⟨(T, r), ⟨hT, hTi, hr, ?_⟩, rfl, hs.back (hup T) (hS.sub (by repeat (first | exact LSub.nil | refine LSub.cons (by repeat (first | exact Rem.here | apply Rem.there)) ?_))) trivial⟩
    simpa using hv
  | succ j =>
    obtain ⟨x, hx⟩ : ∃ x, T[j]? = some x := ⟨_, List.getElem?_eq_getElem (by omega)⟩
    have hxb := inB_get hTi hx
    have e1 : j = (((j + 1 : Nat) : Int) - 1).toNat := by omega
    have hx' := hx
    rw [e1] at hx'
    obtain ⟨q1, q2, q3⟩ := div_step (y := y) hT hn hx (by omega) hr htk hv hxb
    repeat' (first | (refine gJ ?_; first | refine js rfl rfl rfl rfl ?_ | refine jar rfl rfl rfl rfl rfl rfl rfl (by omega) ?_ | (refine gcall rfl rfl ?_; (refine j_qc (f := 157) rfl rfl rfl rfl rfl rfl rfl ?_; refine ⟨_, (fun w' _ => div32_c r x y w' hr.1 hr.2 (by omega) hxb), ?_⟩)) | (refine j_qe rfl rfl rfl ?_; refine ⟨_, q_row1 (f := u32C) rfl rfl rfl rfl (by (repeat constructor)) (fun _ => rfl) hx' rfl, ?_⟩) | (refine gF ?_; refine j_store_row (f := u32C) (z := x) (z' := (r * 4294967296 + x) / y) rfl rfl rfl rfl rfl rfl rfl rfl (by (repeat constructor)) (fun _ => rfl) hx' rfl rfl (by (repeat constructor)) ?_) | (refine j_qe rfl rfl rfl ?_; refine ⟨_, q_index_slice rfl rfl rfl rfl rfl (by omega), ?_⟩)) | (refine gSC ?_; first | refine sc_mv rfl ?_ | refine sc_q rfl ?_ | refine sc_region ?_) | (refine gSQ ?_; first | refine sq_go rfl ?_ | refine sq_mv rfl ?_) | refine j_nil ?_ | ((refine sc_cond rfl ?_ ?_) <;> intro hc <;> (((try simp only [engHC] at hc) <;> first | (exfalso; omega) | skip))))
    refine sq_loop (j, T.set j ((r * 4294967296 + x) / y), (r * 4294967296 + x) % y) ⟨by show j ≤ n; omega, by simp [hT], inB_set hTi q1, q2, ?_, ?_⟩ (by show j < j + 1; omega) (by repeat (first | exact FSub.nil | refine FSub.cons rfl ?_ | refine FSub.conse rfl (by congr 1; omega) ?_)) ?_
    · show (T.set j ((r * 4294967296 + x) / y)).take j = p.take j
      rw [List.take_set_of_le (Nat.le_refl _)]
      have := congrArg (List.take j) htk
      rwa [List.take_take, List.take_take, Nat.min_eq_left (by omega)] at this
    · exact q3
    · dsimp only
      rw [← e1]
      exact (by repeat (first | exact LSub.nil | refine LSub.cons (by repeat (first | exact Rem.here | apply Rem.there)) ?_))
end Go.Proofs.YtmakokbpadmfbaaGreat

