/-
  letterbagref41.rows.
-/
import Derived.Test.YtmakokbpadmfbaaGreatRwp
import Derived.Test.YtmakokbpadmfbaaGreatEngCoreB
namespace Go.Proofs.YtmakokbpadmfbaaGreat
open Go.RowKit Eng
set_option linter.unusedVariables false
set_option linter.unusedSimpArgs false
set_option maxHeartbeats 8000000
attribute [local irreducible] SC SQ J Qt Calls Iterates LSub FSub
theorem ahead2_c (x : Sn) (r : Rw) (w : World) : Calls Tryz.prog 132 #[snV x, rwV r] w fun e w' => e = .returned (.bool (decide (lnLt ⟨x.cl, x.fr, x.to⟩ ⟨r.cl, r.fr, r.to⟩))) ∧ Below w.heap.size w w' := by
  have h : lnLt ⟨x.cl, x.fr, x.to⟩ ⟨r.cl, r.fr, r.to⟩ ↔ x.cl < r.cl ∨ (x.cl = r.cl ∧ (x.fr < r.fr ∨ (x.fr = r.fr ∧ x.to < r.to))) := Iff.rfl
  rw [show decide (lnLt ⟨x.cl, x.fr, x.to⟩ ⟨r.cl, r.fr, r.to⟩) = decide (x.cl < r.cl ∨ (x.cl = r.cl ∧ (x.fr < r.fr ∨ (x.fr = r.fr ∧ x.to < r.to)))) from decide_eq_decide.2 h]
  refine eng_start (n := 30) (args := [snV x, rwV r]) tab tab_ok fns fns_ok [.tmp 4] Tryz.func132 rfl rfl rfl rfl ?_
  repeat' (first | (refine gJ ?_; first | refine js rfl rfl rfl rfl ?_ | (refine gload rfl rfl ?_; refine j_qe rfl rfl rfl ?_; refine ⟨_, q_load_own rfl rfl rfl rfl (by (repeat constructor)) (by first | rfl | assumption), ?_⟩) | refine jfield rfl rfl rfl rfl rfl rfl rfl rfl ?_ | (refine gF ?_; (refine j_box rfl rfl rfl rfl rfl ?_; intro b))) | (refine gSC ?_; first | refine sc_mv rfl ?_ | refine sc_q rfl ?_ | refine sc_region ?_) | (refine gSQ ?_; first | refine sq_go rfl ?_ | refine sq_mv rfl ?_ | refine sq_ende (by first | exact .inl rfl | exact .inr rfl) rfl rfl ⟨_, (RVs.cons (RV.tmp rfl) (RVs.nil)), ?_⟩) | refine j_nil ?_ | ((refine sc_cond rfl ?_ ?_) <;> intro hc <;> (((try simp only [engHC] at hc) <;> skip))))
  all_goals ((intro w' hS; refine ⟨?_, hS.below⟩; simp only [pack]); exact rb (by symm; first | (rw [decide_eq_true_eq]; omega) | (rw [decide_eq_false_iff_not]; omega) | (rw [decide_eq_decide]; omega)))
set_option maxRecDepth 8000 in
set_option maxHeartbeats 16000000 in
theorem rows_r (A : Option Addr) (c : Nat) (l : List Sd) (B : Option Addr) (bc : Nat) (s : List Sn) (now : Int) (pl : Bool) (w : World) (hl : l.length ≤ 9223372036854775807) (hn5 : s.length ≤ 500) (hcl : ∀ x ∈ l, 0 ≤ x.cl) (hok : ∀ x ∈ s, okSn x) (h : RS w 4 sdC A l) (h2 : RS w 6 snC B s) :
    Calls Tryz.prog 106 #[.slice A l.length c, .slice B s.length bc, .int .i64 now, .bool pl] w fun e w' => ∃ v : Value, True ∧ e = .returned v ∧ St w Cold [.own v 90 9 (rowsR pl l s now).length ((rowsR pl l s now).flatMap rwC)] w' := by
  have hout := fun x w' ha h' => outc_c A c l x now w' hl hcl ha h'
  obtain ⟨T, hT⟩ : ∃ T, T = s.map (trS pl) := ⟨_, rfl⟩
  obtain ⟨K, hK⟩ : ∃ K, K = sortL (lanesO (of := ofB pl) s) := ⟨_, rfl⟩
  obtain ⟨R, hR⟩ : ∃ R, R = rowsR pl l s now := ⟨_, rfl⟩
  have hRK : ∀ i k, K[i]? = some k → R[i]? = some (rowAt (ofB pl) (fun x => outF l x now) s k) := fun i k h => by rw [hR]; unfold rowsR; rw [← hK, List.getElem?_map, h]; rfl
  have hRl : R.length = K.length := by rw [hR]; unfold rowsR; rw [← hK, List.length_map]
  rw [← hR]
  clear hR
  obtain ⟨Lx, hLx⟩ : ∃ L : List Lane, L = T.map ofM := ⟨_, rfl⟩
  have hnext := fun k hk => next_lane (K := K) (L := Lx) (k := k) (by rw [hK]; exact sortL_lt (lanesO_nodup s)) (fun x => by
    rw [hK, sortL_memO, hLx, hT, List.map_map, List.mem_map]
    exact Iff.rfl) hk
  have hTl : T.length = s.length := by rw [hT, List.length_map]
  have hLl : Lx.length = s.length := by rw [hLx, List.length_map, hTl]
  have hKl : K.length ≤ s.length := by rw [hK, (sortL_perm _).length_eq]; exact lanesO_len s
  have hTx : ∀ i x, s[i]? = some x → T[i]? = some (trS pl x) := fun i x hx => by rw [hT, List.getElem?_map, hx]; rfl
  have hLxx : ∀ i x, s[i]? = some x → Lx[i]? = some (ofB pl x) := fun i x hx => by rw [hLx, List.getElem?_map, hTx i x hx]; rfl
  obtain ⟨n, hn⟩ : ∃ n, n = s.length := ⟨_, rfl⟩
  obtain ⟨nk, hnk⟩ : ∃ n, n = K.length := ⟨_, rfl⟩
  obtain ⟨nl, hnl⟩ : ∃ n, n = l.length := ⟨_, rfl⟩
  rw [← hn] at hTl hLl hKl hn5
  rw [← hnk] at hKl hRl hnext
  rw [← hnl] at hout ⊢
  rw [hRl, ← hn]
  refine eng_start (n := 177) (args := [.slice A nl c, .slice B n bc, .int .i64 now, .bool pl]) tab tab_ok fns fns_ok [.tmp 8] Tryz.func106 rfl rfl rfl rfl ?_
  repeat' (first | (refine gJ ?_; refine js rfl rfl rfl rfl ?_) | (refine gSC ?_; first | refine sc_mv rfl ?_ | refine sc_region ?_) | (refine gSQ ?_; refine sq_go rfl ?_) | refine j_nil ?_)
  refine sc_own_nil_at 45 6 ?_
  refine sc_loop (ι := Nat × Value) (fun i => i.1 ≤ n) (fun i => n - i.1) (fun i => [(0, .slice A nl c), (1, .slice B n bc), (2, .int .i64 now), (3, .bool pl), (9, i.2), (10, .int .i64 i.1)]) (fun i => [.own i.2 45 6 i.1 ((T.take i.1).flatMap snC)]) (0, .slice none 0 0) (Nat.zero_le _) (by (try dsimp only); exact (by repeat (first | exact FSub.nil | refine FSub.cons rfl ?_ | refine FSub.conse rfl (by congr 1; omega) ?_))) (by repeat (first | exact LSub.refl | refine LSub.cons (by repeat (first | exact Rem.here | apply Rem.there)) ?_ | apply LSub.skip)) ?_
  rintro ⟨i, v1⟩ hi
  dsimp only at hi ⊢
  by_cases hlt : i < n
  · obtain ⟨x, hx⟩ : ∃ x, s[i]? = some x := ⟨_, List.getElem?_eq_getElem (by omega)⟩
    obtain ⟨ad, rfl, hX⟩ := h2 i x hx
    have e1 : (T.take (i + 1)).flatMap snC = (T.take i).flatMap snC ++ snC (trS pl x) := by rw [take_snocS (hTx i x hx), List.flatMap_append]; simp
    refine sc_owns (v := v1) (by (repeat constructor)) ?_
    rintro A1 c1 rfl hs1
    clear hnext hRK hout
    cases pl
    all_goals
      repeat' (first | (refine gJ ?_; first | refine js rfl rfl rfl rfl ?_ | (refine gload rfl rfl ?_; refine j_qe rfl rfl rfl ?_; first | refine ⟨_, q_loadA_own rfl rfl rfl rfl (by (repeat constructor)) (by rfl), ?_⟩ | refine ⟨_, q_loadA_ext rfl rfl rfl rfl ⟨by assumption, (by first | exact id | assumption)⟩ (by rfl), ?_⟩) | refine jfield rfl rfl rfl rfl rfl rfl rfl rfl ?_ | refine jar rfl rfl rfl rfl rfl rfl rfl (by omega) ?_ | (refine gF ?_; refine j_alloc (t := 45) rfl rfl rfl rfl rfl ?_; intro b6) | (refine gF ?_; refine j_append (xs := (T.take i).flatMap snC) rfl rfl rfl rfl rfl rfl rfl rfl rfl rfl rfl (by (repeat constructor)) (by (repeat constructor)) (by rfl) (by rfl) (by omega) (fun _ => by (repeat constructor)) ?_; intro v) | (refine gF ?_; first | refine j_store rfl rfl rfl rfl rfl rfl rfl rfl (by (repeat constructor)) (by rfl) ?_ | (refine j_buildSlice rfl rfl rfl rfl rfl rfl rfl rfl rfl rfl rfl rfl ?_; intro b)) | (refine j_qe rfl rfl rfl ?_; first | refine ⟨_, q_index_nat rfl rfl rfl rfl rfl (by omega), ?_⟩ | refine ⟨_, q_len_slice rfl rfl rfl rfl, ?_⟩)) | (refine gSC ?_; first | refine sc_mv rfl ?_ | refine sc_q rfl ?_ | refine sc_region ?_) | (refine gSQ ?_; first | refine sq_go rfl ?_ | refine sq_mv rfl ?_) | refine j_nil ?_ | ((refine sc_cond rfl ?_ ?_) <;> intro hc <;> (first | exact absurd hc (by decide) | ((try simp only [engHC] at hc) <;> first | (exfalso; omega) | skip))))
      refine sq_loop (i + 1, v) (by show i + 1 ≤ n; omega) (by show n - (i + 1) < n - i; omega) (by (try dsimp only); exact (by repeat (first | exact FSub.nil | refine FSub.cons rfl ?_ | refine FSub.conse rfl (by congr 1; omega) ?_))) ?_
      dsimp only
      rw [e1]
      exact (by repeat (first | exact LSub.refl | refine LSub.cons (by repeat (first | exact Rem.here | apply Rem.there)) ?_ | apply LSub.skip))
  rw [List.take_of_length_le (by omega)]
  refine sc_owns (v := v1) (by (repeat constructor)) ?_
  rintro AT cT rfl hsT
  obtain rfl : i = n := by omega
  try simp only [Option.isSome_none, Option.isSome_some]
  repeat' (first | (refine gJ ?_; first | refine js rfl rfl rfl rfl ?_ | (refine j_qe rfl rfl rfl ?_; refine ⟨_, q_len_slice rfl rfl rfl rfl, ?_⟩)) | (refine gSC ?_; first | refine sc_mv rfl ?_ | refine sc_q rfl ?_ | refine sc_region ?_) | (refine gSQ ?_; first | refine sq_go rfl ?_ | refine sq_mv rfl ?_) | refine j_nil ?_ | ((refine sc_cond rfl ?_ ?_) <;> intro hc <;> (((try simp only [engHC] at hc) <;> first | (exfalso; omega) | skip))))
  refine sc_own_nil_at 90 9 ?_
  refine sc_loop (ι := Nat × Value) (fun k => k.1 ≤ nk) (fun k => nk - k.1) (fun k => [(0, .slice A nl c), (1, .slice B i bc), (2, .int .i64 now), (3, .bool pl), (9, .slice AT i cT), (12, k.2)]) (fun k => [.own k.2 90 9 k.1 ((R.take k.1).flatMap rwC), .own (.slice AT i cT) 45 6 i (T.flatMap snC)]) (0, .slice none 0 0) (Nat.zero_le _) (by (try dsimp only); exact (by repeat (first | exact FSub.nil | refine FSub.cons rfl ?_ | refine FSub.conse rfl (by congr 1; omega) ?_))) (by repeat (first | exact LSub.refl | refine LSub.cons (by repeat (first | exact Rem.here | apply Rem.there)) ?_ | apply LSub.skip)) ?_
  rintro ⟨k, v2⟩ hk
  dsimp only at hk ⊢
  refine sc_owns (v := v2) (by (repeat constructor)) ?_
  rintro AR cR rfl hsR
  try simp only [Option.isSome_none, Option.isSome_some]
  repeat' (first | (refine gJ ?_; first | refine js rfl rfl rfl rfl ?_ | (refine gF ?_; refine j_alloc (t := 90) rfl rfl rfl rfl rfl ?_; intro b1) | (refine gF ?_; refine j_store rfl rfl rfl rfl rfl rfl rfl rfl (by (repeat constructor)) (by rfl) ?_) | (refine j_qe rfl rfl rfl ?_; refine ⟨_, q_build_struct rfl rfl rfl rfl rfl, ?_⟩)) | (refine gSC ?_; first | refine sc_mv rfl ?_ | refine sc_region ?_) | (refine gSQ ?_; refine sq_go rfl ?_) | refine j_nil ?_)
  have hnx9 := hnext k hk
  refine sc_loop (ι := Nat) (fun j => j ≤ i) (fun j => i - j) (fun j => [(0, .slice A nl c), (1, .slice B i bc), (2, .int .i64 now), (3, .bool pl), (9, .slice AT i cT), (12, .slice AR k cR), (13, .pointer (some ⟨b1, 0, none⟩)), (14, .bool ((Lx.take j).foldl (stB (loOf K k)) none).isSome), (15, .int .i64 j)]) (fun j => [.cells b1 90 (rwC (accR ((Lx.take j).foldl (stB (loOf K k)) none))), .own (.slice AR k cR) 90 9 k ((R.take k).flatMap rwC), .own (.slice AT i cT) 45 6 i (T.flatMap snC)]) 0 (Nat.zero_le _) (by (try dsimp only); exact (by repeat (first | exact FSub.nil | refine FSub.cons rfl ?_ | refine FSub.conse rfl (by congr 1; omega) ?_))) (by repeat (first | exact LSub.refl | refine LSub.cons (by repeat (first | exact Rem.here | apply Rem.there)) ?_ | apply LSub.skip)) ?_
  intro j hj
  dsimp only at hj ⊢
  by_cases hlt3 : j < i
  · obtain ⟨x, hx⟩ : ∃ x, s[j]? = some x := ⟨_, List.getElem?_eq_getElem (by omega)⟩
    have hy := hTx j x hx
    have hq := hLxx j x hx
    obtain ⟨y, hy9⟩ : ∃ y, y = trS pl x := ⟨_, rfl⟩
    obtain ⟨q, hq9⟩ : ∃ q : Lane, q = ⟨y.cl, y.fr, y.to⟩ := ⟨_, rfl⟩
    rw [← hy9] at hy
    rw [show ofB pl x = q from by rw [hq9, hy9]; rfl] at hq
    have hnx : (Lx.take (j + 1)).foldl (stB (loOf K k)) none = stB (loOf K k) ((Lx.take j).foldl (stB (loOf K k)) none) q := by rw [take_snocS hq, List.foldl_append]; rfl
    generalize (Lx.take j).foldl (stB (loOf K k)) none = acc at *
    obtain ⟨AT, rfl⟩ : ∃ ad, AT = some ad := by
      cases AT with
      | none => have := hsT.nil rfl; omega
      | some ad => exact ⟨ad, rfl⟩
    have hqv : ∀ m : Lane, decide (lnLt (⟨y.cl, y.fr, y.to⟩ : Lane) ⟨(row0 m).cl, (row0 m).fr, (row0 m).to⟩) = decide (lnLt q m) := fun m => by rw [hq9]; rfl
    by_cases hk0 : k = 0
    · subst hk0
      have hst0 : stB (loOf K 0) acc q = if ltO q acc = true then some q else acc := rfl
      cases acc with
      | none =>
        have hst : stB (loOf K 0) none q = some q := rfl
        try simp only [Option.isSome_none, Option.isSome_some]
        repeat' (first | (refine gJ ?_; first | refine js rfl rfl rfl rfl ?_ | (refine gload rfl rfl ?_; refine j_qe rfl rfl rfl ?_; refine ⟨_, q_loadA_own rfl rfl rfl rfl (by (repeat constructor)) (by rfl), ?_⟩) | refine jar rfl rfl rfl rfl rfl rfl rfl (by omega) ?_ | (refine gF ?_; refine j_alloc (t := 90) rfl rfl rfl rfl rfl ?_; intro b6) | (refine j_qe rfl rfl rfl ?_; refine ⟨_, q_index_at j rfl rfl rfl rfl rfl (by omega), ?_⟩) | (refine j_qe rfl rfl rfl ?_; refine ⟨_, q_rowF (f := snC) (l := T) (i := j) (off := 1) rfl rfl rfl rfl (by (repeat constructor)) (fun _ => rfl) hy rfl, ?_⟩) | (refine j_qe rfl rfl rfl ?_; refine ⟨_, q_rowF (f := snC) (l := T) (i := j) (off := 2) rfl rfl rfl rfl (by (repeat constructor)) (fun _ => rfl) hy rfl, ?_⟩) | (refine j_qe rfl rfl rfl ?_; refine ⟨_, q_rowF (f := snC) (l := T) (i := j) (off := 3) rfl rfl rfl rfl (by (repeat constructor)) (fun _ => rfl) hy rfl, ?_⟩) | (refine gF ?_; refine j_store rfl rfl rfl rfl rfl rfl rfl rfl (by (repeat constructor)) (by rfl) ?_) | (refine j_qe rfl rfl rfl ?_; first | refine ⟨_, q_len_slice rfl rfl rfl rfl, ?_⟩ | refine ⟨_, q_build_struct rfl rfl rfl rfl rfl, ?_⟩ | refine ⟨_, q_field_ext rfl rfl rfl rfl rfl, ?_⟩)) | (refine gSC ?_; first | refine sc_mv rfl ?_ | refine sc_q rfl ?_ | refine sc_region ?_ | refine sc_auto 14 (.q 0 (.q 1 (.q 2 (.q 3 (.q 4 (.q 5 (.q 6 (.q 7 (.q 8 (.q 9 (.q 10 (.q 11 (.q 12 (.q 13 (.q 14 (.q 15 (.e 16 (.e 17 (.z))))))))))))))))))) mixed ?_ | refine sc_draw rfl mixed (by kernel_rfl) ?_) | (refine gJG ?_; first | refine jg_q rfl (by kernel_rfl) ?_ | refine jg_e (by kernel_rfl) rfl ?_ | refine jg_done (by kernel_rfl) ?_) | (refine gSQ ?_; first | refine jg_next ?_ | (refine gFE ?_; first | refine jg_next1 ?_ | refine jg_nextE (by first | exact LSub.refl | (repeat (first | exact LSub.refl | refine LSub.cons (by repeat (first | exact Rem.here | apply Rem.there)) ?_ | apply LSub.skip))) ?_) | refine sq_go rfl ?_ | refine sq_mv rfl ?_) | refine j_nil ?_ | ((first | refine j_guard rfl rfl rfl rfl rfl ?_ ?_ | refine sc_cond rfl ?_ ?_) <;> intro hc <;> (first | exact absurd hc (by decide) | ((try simp only [engHC] at hc) <;> first | (exfalso; omega) | skip))))
        all_goals
          refine sq_loop (j + 1) ?_ ?_ ?_ ?_
          · show j + 1 ≤ i; omega
          · show i - (j + 1) < i - j; omega
          · rw [hnx, hst]; try simp only [Option.isSome_none, Option.isSome_some]
            exact (by (try dsimp only); exact (by repeat (first | exact FSub.nil | refine FSub.cons rfl ?_ | refine FSub.conse rfl (by congr 1; omega) ?_)))
          · rw [hnx, hst]; subst hq9; exact (by repeat (first | exact LSub.refl | refine LSub.cons (by repeat (first | exact Rem.here | apply Rem.there)) ?_ | apply LSub.skip))
      | some m =>
        have h2 := fun w' => ahead2_c y (row0 m) w'
        rw [hqv] at h2
        have hlt9 : ltO q (some m) = decide (lnLt q m) := rfl
        rw [hlt9] at hst0
        cases hc : decide (lnLt q m)
        all_goals
          rw [hc] at h2 hst0
          first
            | have hst : stB (loOf K 0) (some m) q = some q := hst0
            | have hst : stB (loOf K 0) (some m) q = some m := hst0
          try simp only [Option.isSome_none, Option.isSome_some]
          repeat' (first | (refine gJ ?_; first | refine js rfl rfl rfl rfl ?_ | (refine gload rfl rfl ?_; refine j_qe rfl rfl rfl ?_; refine ⟨_, q_loadA_own rfl rfl rfl rfl (by (repeat constructor)) (by rfl), ?_⟩) | refine jar rfl rfl rfl rfl rfl rfl rfl (by omega) ?_ | (refine gcall rfl rfl ?_; (refine j_qc (f := 132) rfl rfl rfl rfl rfl rfl rfl ?_; refine ⟨_, (fun w' _ => h2 w'), ?_⟩)) | (refine gF ?_; refine j_alloc (t := 90) rfl rfl rfl rfl rfl ?_; intro b6) | (refine j_qe rfl rfl rfl ?_; refine ⟨_, q_index_at j rfl rfl rfl rfl rfl (by omega), ?_⟩) | (refine j_qe rfl rfl rfl ?_; refine ⟨_, q_rowF (f := snC) (l := T) (i := j) (off := 1) rfl rfl rfl rfl (by (repeat constructor)) (fun _ => rfl) hy rfl, ?_⟩) | (refine j_qe rfl rfl rfl ?_; refine ⟨_, q_rowF (f := snC) (l := T) (i := j) (off := 2) rfl rfl rfl rfl (by (repeat constructor)) (fun _ => rfl) hy rfl, ?_⟩) | (refine j_qe rfl rfl rfl ?_; refine ⟨_, q_rowF (f := snC) (l := T) (i := j) (off := 3) rfl rfl rfl rfl (by (repeat constructor)) (fun _ => rfl) hy rfl, ?_⟩) | (refine j_qe rfl rfl rfl ?_; refine ⟨_, q_rowA (f := snC) (l := T) (i := j) rfl rfl rfl rfl (by (repeat constructor)) (fun _ => rfl) hy rfl, ?_⟩) | (refine gF ?_; refine j_store rfl rfl rfl rfl rfl rfl rfl rfl (by (repeat constructor)) (by rfl) ?_) | (refine j_qe rfl rfl rfl ?_; first | refine ⟨_, q_len_slice rfl rfl rfl rfl, ?_⟩ | refine ⟨_, q_build_struct rfl rfl rfl rfl rfl, ?_⟩ | refine ⟨_, q_field_ext rfl rfl rfl rfl rfl, ?_⟩)) | (refine gSC ?_; first | refine sc_mv rfl ?_ | refine sc_q rfl ?_ | refine sc_region ?_ | refine sc_auto 14 (.q 0 (.q 1 (.q 2 (.q 3 (.q 4 (.q 5 (.q 6 (.q 7 (.q 8 (.q 9 (.q 10 (.q 11 (.q 12 (.q 13 (.q 14 (.q 15 (.e 16 (.e 17 (.z))))))))))))))))))) mixed ?_ | refine sc_draw rfl mixed (by kernel_rfl) ?_) | (refine gJG ?_; first | refine jg_q rfl (by kernel_rfl) ?_ | refine jg_e (by kernel_rfl) rfl ?_ | refine jg_done (by kernel_rfl) ?_) | (refine gSQ ?_; first | refine jg_next ?_ | (refine gFE ?_; first | refine jg_next1 ?_ | refine jg_nextE (by first | exact LSub.refl | (repeat (first | exact LSub.refl | refine LSub.cons (by repeat (first | exact Rem.here | apply Rem.there)) ?_ | apply LSub.skip))) ?_) | refine sq_go rfl ?_ | refine sq_mv rfl ?_) | refine j_nil ?_ | ((first | refine j_guard rfl rfl rfl rfl rfl ?_ ?_ | refine sc_cond rfl ?_ ?_) <;> intro hc <;> (first | exact absurd hc (by decide) | ((try simp only [engHC] at hc) <;> first | (exfalso; omega) | skip))))
          all_goals
            refine sq_loop (j + 1) ?_ ?_ ?_ ?_
            · show j + 1 ≤ i; omega
            · show i - (j + 1) < i - j; omega
            · rw [hnx, hst]; try simp only [Option.isSome_none, Option.isSome_some]
              exact (by (try dsimp only); exact (by repeat (first | exact FSub.nil | refine FSub.cons rfl ?_ | refine FSub.conse rfl (by congr 1; omega) ?_)))
            · rw [hnx, hst]; subst hq9; exact (by repeat (first | exact LSub.refl | refine LSub.cons (by repeat (first | exact Rem.here | apply Rem.there)) ?_ | apply LSub.skip))
    · obtain ⟨p, hp⟩ : ∃ p, K[k - 1]? = some p := ⟨_, List.getElem?_eq_getElem (by omega)⟩
      obtain ⟨r, hr9⟩ : ∃ r, r = rowAt (ofB pl) (fun x => outF l x now) s p := ⟨_, rfl⟩
      have hr0 := hRK (k - 1) p hp
      rw [← hr9] at hr0
      have hrl := rowAt_lane (of := ofB pl) (out := fun x => outF l x now) s p
      rw [← hr9] at hrl
      have hr : (R.take k)[k - 1]? = some r := by rw [List.getElem?_take, if_pos (by omega)]; exact hr0
      obtain ⟨AR, rfl⟩ : ∃ ad, AR = some ad := by
        cases AR with
        | none => have := hsR.nil rfl; omega
        | some ad => exact ⟨ad, rfl⟩
      have hbe : behB (loOf K k) q = decide (lnLt p q) := by unfold loOf; rw [if_neg hk0, hp]; rfl
      have h1 := fun w' => ahead2_c ⟨0, r.cl, r.fr, r.to, 0, 0⟩ (row0 ⟨y.cl, y.fr, y.to⟩) w'
      rw [show decide (lnLt (⟨(⟨0, r.cl, r.fr, r.to, 0, 0⟩ : Sn).cl, (⟨0, r.cl, r.fr, r.to, 0, 0⟩ : Sn).fr, (⟨0, r.cl, r.fr, r.to, 0, 0⟩ : Sn).to⟩ : Lane) ⟨(row0 ⟨y.cl, y.fr, y.to⟩).cl, (row0 ⟨y.cl, y.fr, y.to⟩).fr, (row0 ⟨y.cl, y.fr, y.to⟩).to⟩) = behB (loOf K k) q from by rw [hbe, hq9]; obtain ⟨e1, e2, e3⟩ := hrl; dsimp only [row0]; rw [e1, e2, e3]; rfl] at h1
      have hst0 : stB (loOf K k) acc q = if (behB (loOf K k) q && ltO q acc) = true then some q else acc := rfl
      generalize behB (loOf K k) q = be at *
      clear hbe
      cases acc with
      | none =>
        cases be
        all_goals
          first
            | have hst : stB (loOf K k) none q = some q := hst0
            | have hst : stB (loOf K k) none q = none := hst0
          try simp only [Option.isSome_none, Option.isSome_some]
          repeat' (first | (refine gJ ?_; first | refine js rfl rfl rfl rfl ?_ | (refine gload rfl rfl ?_; refine j_qe rfl rfl rfl ?_; refine ⟨_, q_loadA_own rfl rfl rfl rfl (by (repeat constructor)) (by rfl), ?_⟩) | refine jar rfl rfl rfl rfl rfl rfl rfl (by omega) ?_ | (refine gcall rfl rfl ?_; (refine j_qc (f := 132) rfl rfl rfl rfl rfl rfl rfl ?_; refine ⟨_, (fun w' _ => h1 w'), ?_⟩)) | (refine gF ?_; refine j_alloc (t := 90) rfl rfl rfl rfl rfl ?_; intro b6) | (refine j_qe rfl rfl rfl ?_; refine ⟨_, q_index_at j rfl rfl rfl rfl rfl (by omega), ?_⟩) | (refine j_qe rfl rfl rfl ?_; refine ⟨_, q_index_at (k - 1) rfl rfl rfl rfl rfl (by omega), ?_⟩) | (refine j_qe rfl rfl rfl ?_; refine ⟨_, q_rowF (f := snC) (l := T) (i := j) (off := 1) rfl rfl rfl rfl (by (repeat constructor)) (fun _ => rfl) hy rfl, ?_⟩) | (refine j_qe rfl rfl rfl ?_; refine ⟨_, q_rowF (f := snC) (l := T) (i := j) (off := 2) rfl rfl rfl rfl (by (repeat constructor)) (fun _ => rfl) hy rfl, ?_⟩) | (refine j_qe rfl rfl rfl ?_; refine ⟨_, q_rowF (f := snC) (l := T) (i := j) (off := 3) rfl rfl rfl rfl (by (repeat constructor)) (fun _ => rfl) hy rfl, ?_⟩) | (refine j_qe rfl rfl rfl ?_; refine ⟨_, q_rowF (f := rwC) (l := R.take k) (i := k - 1) (off := 0) rfl rfl rfl rfl (by (repeat constructor)) (fun _ => rfl) hr rfl, ?_⟩) | (refine j_qe rfl rfl rfl ?_; refine ⟨_, q_rowF (f := rwC) (l := R.take k) (i := k - 1) (off := 1) rfl rfl rfl rfl (by (repeat constructor)) (fun _ => rfl) hr rfl, ?_⟩) | (refine j_qe rfl rfl rfl ?_; refine ⟨_, q_rowF (f := rwC) (l := R.take k) (i := k - 1) (off := 2) rfl rfl rfl rfl (by (repeat constructor)) (fun _ => rfl) hr rfl, ?_⟩) | (refine gF ?_; refine j_store rfl rfl rfl rfl rfl rfl rfl rfl (by (repeat constructor)) (by rfl) ?_) | (refine j_qe rfl rfl rfl ?_; first | refine ⟨_, q_len_slice rfl rfl rfl rfl, ?_⟩ | refine ⟨_, q_build_struct rfl rfl rfl rfl rfl, ?_⟩ | refine ⟨_, q_field_ext rfl rfl rfl rfl rfl, ?_⟩) | refine j_guard_undef rfl rfl rfl rfl rfl ?_) | (refine gSC ?_; first | refine sc_mv rfl ?_ | refine sc_q rfl ?_ | refine sc_region ?_ | refine sc_auto 14 (.q 0 (.q 1 (.q 2 (.q 3 (.q 4 (.q 5 (.q 6 (.q 7 (.q 8 (.q 9 (.q 10 (.q 11 (.q 12 (.q 13 (.q 14 (.q 15 (.e 16 (.e 17 (.z))))))))))))))))))) mixed ?_ | refine sc_draw rfl mixed (by kernel_rfl) ?_) | (refine gJG ?_; first | refine jg_q rfl (by kernel_rfl) ?_ | refine jg_e (by kernel_rfl) rfl ?_ | refine jg_done (by kernel_rfl) ?_) | (refine gSQ ?_; first | refine jg_next ?_ | (refine gFE ?_; first | refine jg_next1 ?_ | refine jg_nextE (by first | exact LSub.refl | (repeat (first | exact LSub.refl | refine LSub.cons (by repeat (first | exact Rem.here | apply Rem.there)) ?_ | apply LSub.skip))) ?_) | refine sq_go rfl ?_ | refine sq_mv rfl ?_) | refine j_nil ?_ | ((first | refine j_guard rfl rfl rfl rfl rfl ?_ ?_ | refine sc_cond rfl ?_ ?_) <;> intro hc <;> (first | exact absurd hc (by decide) | ((try simp only [engHC] at hc) <;> first | (exfalso; omega) | skip))))
          all_goals
            refine sq_loop (j + 1) ?_ ?_ ?_ ?_
            · show j + 1 ≤ i; omega
            · show i - (j + 1) < i - j; omega
            · rw [hnx, hst]; try simp only [Option.isSome_none, Option.isSome_some]
              exact (by (try dsimp only); exact (by repeat (first | exact FSub.nil | refine FSub.cons rfl ?_ | refine FSub.conse rfl (by congr 1; omega) ?_)))
            · rw [hnx, hst]; subst hq9; exact (by repeat (first | exact LSub.refl | refine LSub.cons (by repeat (first | exact Rem.here | apply Rem.there)) ?_ | apply LSub.skip))
      | some m =>
        have h2 := fun w' => ahead2_c y (row0 m) w'
        rw [hqv] at h2
        have hlt9 : ltO q (some m) = decide (lnLt q m) := rfl
        rw [hlt9] at hst0
        cases be
        · have hst : stB (loOf K k) (some m) q = some m := hst0
          try simp only [Option.isSome_none, Option.isSome_some]
          repeat' (first | (refine gJ ?_; first | refine js rfl rfl rfl rfl ?_ | (refine gload rfl rfl ?_; refine j_qe rfl rfl rfl ?_; refine ⟨_, q_loadA_own rfl rfl rfl rfl (by (repeat constructor)) (by rfl), ?_⟩) | refine jar rfl rfl rfl rfl rfl rfl rfl (by omega) ?_ | (refine gcall rfl rfl ?_; (refine j_qc (f := 132) rfl rfl rfl rfl rfl rfl rfl ?_; refine ⟨_, (fun w' _ => h1 w'), ?_⟩)) | (refine gF ?_; refine j_alloc (t := 90) rfl rfl rfl rfl rfl ?_; intro b6) | (refine j_qe rfl rfl rfl ?_; refine ⟨_, q_index_at j rfl rfl rfl rfl rfl (by omega), ?_⟩) | (refine j_qe rfl rfl rfl ?_; refine ⟨_, q_index_at (k - 1) rfl rfl rfl rfl rfl (by omega), ?_⟩) | (refine j_qe rfl rfl rfl ?_; refine ⟨_, q_rowF (f := snC) (l := T) (i := j) (off := 1) rfl rfl rfl rfl (by (repeat constructor)) (fun _ => rfl) hy rfl, ?_⟩) | (refine j_qe rfl rfl rfl ?_; refine ⟨_, q_rowF (f := snC) (l := T) (i := j) (off := 2) rfl rfl rfl rfl (by (repeat constructor)) (fun _ => rfl) hy rfl, ?_⟩) | (refine j_qe rfl rfl rfl ?_; refine ⟨_, q_rowF (f := snC) (l := T) (i := j) (off := 3) rfl rfl rfl rfl (by (repeat constructor)) (fun _ => rfl) hy rfl, ?_⟩) | (refine j_qe rfl rfl rfl ?_; refine ⟨_, q_rowF (f := rwC) (l := R.take k) (i := k - 1) (off := 0) rfl rfl rfl rfl (by (repeat constructor)) (fun _ => rfl) hr rfl, ?_⟩) | (refine j_qe rfl rfl rfl ?_; refine ⟨_, q_rowF (f := rwC) (l := R.take k) (i := k - 1) (off := 1) rfl rfl rfl rfl (by (repeat constructor)) (fun _ => rfl) hr rfl, ?_⟩) | (refine j_qe rfl rfl rfl ?_; refine ⟨_, q_rowF (f := rwC) (l := R.take k) (i := k - 1) (off := 2) rfl rfl rfl rfl (by (repeat constructor)) (fun _ => rfl) hr rfl, ?_⟩) | (refine gF ?_; refine j_store rfl rfl rfl rfl rfl rfl rfl rfl (by (repeat constructor)) (by rfl) ?_) | (refine j_qe rfl rfl rfl ?_; first | refine ⟨_, q_len_slice rfl rfl rfl rfl, ?_⟩ | refine ⟨_, q_build_struct rfl rfl rfl rfl rfl, ?_⟩ | refine ⟨_, q_field_ext rfl rfl rfl rfl rfl, ?_⟩) | refine j_guard_undef rfl rfl rfl rfl rfl ?_) | (refine gSC ?_; first | refine sc_mv rfl ?_ | refine sc_q rfl ?_ | refine sc_region ?_ | refine sc_auto 14 (.q 0 (.q 1 (.q 2 (.q 3 (.q 4 (.q 5 (.q 6 (.q 7 (.q 8 (.q 9 (.q 10 (.q 11 (.q 12 (.q 13 (.q 14 (.q 15 (.e 16 (.e 17 (.z))))))))))))))))))) mixed ?_ | refine sc_draw rfl mixed (by kernel_rfl) ?_) | (refine gJG ?_; first | refine jg_q rfl (by kernel_rfl) ?_ | refine jg_e (by kernel_rfl) rfl ?_ | refine jg_done (by kernel_rfl) ?_) | (refine gSQ ?_; first | refine jg_next ?_ | (refine gFE ?_; first | refine jg_next1 ?_ | refine jg_nextE (by first | exact LSub.refl | (repeat (first | exact LSub.refl | refine LSub.cons (by repeat (first | exact Rem.here | apply Rem.there)) ?_ | apply LSub.skip))) ?_) | refine sq_go rfl ?_ | refine sq_mv rfl ?_) | refine j_nil ?_ | ((first | refine j_guard rfl rfl rfl rfl rfl ?_ ?_ | refine sc_cond rfl ?_ ?_) <;> intro hc <;> (first | exact absurd hc (by decide) | ((try simp only [engHC] at hc) <;> first | (exfalso; omega) | skip))))
          all_goals
            refine sq_loop (j + 1) ?_ ?_ ?_ ?_
            · show j + 1 ≤ i; omega
            · show i - (j + 1) < i - j; omega
            · rw [hnx, hst]; try simp only [Option.isSome_none, Option.isSome_some]
              exact (by (try dsimp only); exact (by repeat (first | exact FSub.nil | refine FSub.cons rfl ?_ | refine FSub.conse rfl (by congr 1; omega) ?_)))
            · rw [hnx, hst]; subst hq9; exact (by repeat (first | exact LSub.refl | refine LSub.cons (by repeat (first | exact Rem.here | apply Rem.there)) ?_ | apply LSub.skip))
        · cases hc : decide (lnLt q m)
          all_goals
            rw [hc] at h2 hst0
            first
              | have hst : stB (loOf K k) (some m) q = some q := hst0
              | have hst : stB (loOf K k) (some m) q = some m := hst0
            try simp only [Option.isSome_none, Option.isSome_some]
            repeat' (first | (refine gJ ?_; first | refine js rfl rfl rfl rfl ?_ | (refine gload rfl rfl ?_; refine j_qe rfl rfl rfl ?_; refine ⟨_, q_loadA_own rfl rfl rfl rfl (by (repeat constructor)) (by rfl), ?_⟩) | refine jar rfl rfl rfl rfl rfl rfl rfl (by omega) ?_ | (refine gcall rfl rfl ?_; first | (refine j_qc (f := 132) rfl rfl rfl rfl rfl rfl rfl ?_; refine ⟨_, (fun w' _ => h1 w'), ?_⟩) | (refine j_qc (f := 132) rfl rfl rfl rfl rfl rfl rfl ?_; refine ⟨_, (fun w' _ => h2 w'), ?_⟩)) | (refine gF ?_; refine j_alloc (t := 90) rfl rfl rfl rfl rfl ?_; intro b6) | (refine j_qe rfl rfl rfl ?_; refine ⟨_, q_index_at j rfl rfl rfl rfl rfl (by omega), ?_⟩) | (refine j_qe rfl rfl rfl ?_; refine ⟨_, q_index_at (k - 1) rfl rfl rfl rfl rfl (by omega), ?_⟩) | (refine j_qe rfl rfl rfl ?_; refine ⟨_, q_rowF (f := snC) (l := T) (i := j) (off := 1) rfl rfl rfl rfl (by (repeat constructor)) (fun _ => rfl) hy rfl, ?_⟩) | (refine j_qe rfl rfl rfl ?_; refine ⟨_, q_rowF (f := snC) (l := T) (i := j) (off := 2) rfl rfl rfl rfl (by (repeat constructor)) (fun _ => rfl) hy rfl, ?_⟩) | (refine j_qe rfl rfl rfl ?_; refine ⟨_, q_rowF (f := snC) (l := T) (i := j) (off := 3) rfl rfl rfl rfl (by (repeat constructor)) (fun _ => rfl) hy rfl, ?_⟩) | (refine j_qe rfl rfl rfl ?_; refine ⟨_, q_rowA (f := snC) (l := T) (i := j) rfl rfl rfl rfl (by (repeat constructor)) (fun _ => rfl) hy rfl, ?_⟩) | (refine j_qe rfl rfl rfl ?_; refine ⟨_, q_rowF (f := rwC) (l := R.take k) (i := k - 1) (off := 0) rfl rfl rfl rfl (by (repeat constructor)) (fun _ => rfl) hr rfl, ?_⟩) | (refine j_qe rfl rfl rfl ?_; refine ⟨_, q_rowF (f := rwC) (l := R.take k) (i := k - 1) (off := 1) rfl rfl rfl rfl (by (repeat constructor)) (fun _ => rfl) hr rfl, ?_⟩) | (refine j_qe rfl rfl rfl ?_; refine ⟨_, q_rowF (f := rwC) (l := R.take k) (i := k - 1) (off := 2) rfl rfl rfl rfl (by (repeat constructor)) (fun _ => rfl) hr rfl, ?_⟩) | (refine gF ?_; refine j_store rfl rfl rfl rfl rfl rfl rfl rfl (by (repeat constructor)) (by rfl) ?_) | (refine j_qe rfl rfl rfl ?_; first | refine ⟨_, q_len_slice rfl rfl rfl rfl, ?_⟩ | refine ⟨_, q_build_struct rfl rfl rfl rfl rfl, ?_⟩ | refine ⟨_, q_field_ext rfl rfl rfl rfl rfl, ?_⟩)) | (refine gSC ?_; first | refine sc_mv rfl ?_ | refine sc_q rfl ?_ | refine sc_region ?_ | refine sc_auto 14 (.q 0 (.q 1 (.q 2 (.q 3 (.q 4 (.q 5 (.q 6 (.q 7 (.q 8 (.q 9 (.q 10 (.q 11 (.q 12 (.q 13 (.q 14 (.q 15 (.e 16 (.e 17 (.z))))))))))))))))))) mixed ?_ | refine sc_draw rfl mixed (by kernel_rfl) ?_) | (refine gJG ?_; first | refine jg_q rfl (by kernel_rfl) ?_ | refine jg_e (by kernel_rfl) rfl ?_ | refine jg_done (by kernel_rfl) ?_) | (refine gSQ ?_; first | refine jg_next ?_ | (refine gFE ?_; first | refine jg_next1 ?_ | refine jg_nextE (by first | exact LSub.refl | (repeat (first | exact LSub.refl | refine LSub.cons (by repeat (first | exact Rem.here | apply Rem.there)) ?_ | apply LSub.skip))) ?_) | refine sq_go rfl ?_ | refine sq_mv rfl ?_) | refine j_nil ?_ | ((first | refine j_guard rfl rfl rfl rfl rfl ?_ ?_ | refine sc_cond rfl ?_ ?_) <;> intro hc <;> (first | exact absurd hc (by decide) | ((try simp only [engHC] at hc) <;> first | (exfalso; omega) | skip))))
            all_goals
              refine sq_loop (j + 1) ?_ ?_ ?_ ?_
              · show j + 1 ≤ i; omega
              · show i - (j + 1) < i - j; omega
              · rw [hnx, hst]; try simp only [Option.isSome_none, Option.isSome_some]
                exact (by (try dsimp only); exact (by repeat (first | exact FSub.nil | refine FSub.cons rfl ?_ | refine FSub.conse rfl (by congr 1; omega) ?_)))
              · rw [hnx, hst]; subst hq9; exact (by repeat (first | exact LSub.refl | refine LSub.cons (by repeat (first | exact Rem.here | apply Rem.there)) ?_ | apply LSub.skip))
  · obtain rfl : j = i := by omega
    rw [show Lx.take j = Lx from List.take_of_length_le (by omega), hnx9]
    clear hnx9 hnext
    by_cases hkk : k < nk
    · obtain ⟨p, hp⟩ : ∃ p, K[k]? = some p := ⟨_, List.getElem?_eq_getElem (by omega)⟩
      rw [hp]
      have hRp := hRK k p hp
      simp only [Option.isSome_some]
      repeat' (first | (refine gJ ?_; first | refine js rfl rfl rfl rfl ?_ | (refine j_qe rfl rfl rfl ?_; refine ⟨_, q_len_slice rfl rfl rfl rfl, ?_⟩)) | (refine gSC ?_; first | refine sc_mv rfl ?_ | refine sc_q rfl ?_ | refine sc_region ?_) | (refine gSQ ?_; first | refine sq_go rfl ?_ | refine sq_mv rfl ?_) | refine j_nil ?_ | ((refine sc_cond rfl ?_ ?_) <;> intro hc <;> (first | exact absurd hc (by decide) | ((try simp only [engHC] at hc) <;> first | (exfalso; omega) | skip))))
      refine sc_loop (ι := Nat) (fun u => u ≤ j) (fun u => j - u) (fun u => [(0, .slice A nl c), (1, .slice B j bc), (2, .int .i64 now), (3, .bool pl), (9, .slice AT j cT), (12, .slice AR k cR), (13, .pointer (some ⟨b1, 0, none⟩)), (18, .int .i64 u)]) (fun u => [.cells b1 90 (rwC (rowAt (ofB pl) (fun x => outF l x now) (s.take u) p)), .own (.slice AR k cR) 90 9 k ((R.take k).flatMap rwC), .own (.slice AT j cT) 45 6 j (T.flatMap snC)]) 0 (Nat.zero_le _) (by (try dsimp only); exact (by repeat (first | exact FSub.nil | refine FSub.cons rfl ?_ | refine FSub.conse rfl (by congr 1; omega) ?_))) (by repeat (first | exact LSub.refl | refine LSub.cons (by repeat (first | exact Rem.here | apply Rem.there)) ?_ | apply LSub.skip)) ?_
      intro u hu
      dsimp only at hu ⊢
      by_cases hlt4 : u < j
      · obtain ⟨x, hx⟩ : ∃ x, s[u]? = some x := ⟨_, List.getElem?_eq_getElem (by omega)⟩
        obtain ⟨adx, rfl, hX⟩ := h2 u x hx
        have hy := hTx u x hx
        have hxo := hok x (List.mem_of_getElem? hx)
        unfold okSn at hxo
        have ho := fun w' h => hout x w' (by omega) h
        have hor := outF_range l x now
        have hsm := rowAt_small (of := ofB pl) (out := fun x => outF l x now) (s.take u) p
        rw [List.length_take] at hsm
        have hrl := rowAt_lane (of := ofB pl) (out := fun x => outF l x now) (s.take u) p
        have hnx : rowAt (ofB pl) (fun x => outF l x now) (s.take (u + 1)) p = if ofB pl x = p then cntR (rowAt (ofB pl) (fun x => outF l x now) (s.take u) p) (outF l x now) else rowAt (ofB pl) (fun x => outF l x now) (s.take u) p := by rw [take_snocS hx, rowAt_snoc]
        have hlk : ofB pl x = p ↔ (trS pl x).cl = p.cl ∧ (trS pl x).fr = p.fr ∧ (trS pl x).to = p.to := lane_eq _ _
        generalize rowAt (ofB pl) (fun x => outF l x now) (s.take u) p = r0 at *
        generalize outF l x now = o at *
        generalize trS pl x = y at *
        obtain ⟨AT, rfl⟩ : ∃ ad, AT = some ad := by
          cases AT with
          | none => have := hsT.nil rfl; omega
          | some ad => exact ⟨ad, rfl⟩
        obtain ⟨e1, e2, e3⟩ := hrl
        clear hout hTx hLxx hRK hok hxo
        by_cases hpk : ofB pl x = p
        · rw [if_pos hpk] at hnx
          obtain ⟨f1, f2, f3⟩ := hlk.1 hpk
          rcases hor with g | g | g | g
          all_goals
            subst g
            have hnx' := hnx
            simp only [cntR, if_true, if_false, show ¬ (2 : Int) = 1 by decide, show ¬ (3 : Int) = 1 by decide, show ¬ (4 : Int) = 1 by decide, show ¬ (2 : Int) = 4 by decide, show ¬ (3 : Int) = 4 by decide, show ¬ (3 : Int) = 2 by decide] at hnx'
            repeat' (first | (refine gJ ?_; first | refine js rfl rfl rfl rfl ?_ | (refine gload rfl rfl ?_; refine j_qe rfl rfl rfl ?_; first | refine ⟨_, q_load_own rfl rfl rfl rfl (by (repeat constructor)) (by first | rfl | assumption), ?_⟩ | refine ⟨_, q_loadA_ext rfl rfl rfl rfl ⟨by assumption, (by first | exact id | assumption)⟩ (by rfl), ?_⟩) | refine jfield rfl rfl rfl rfl rfl rfl rfl rfl ?_ | refine jar rfl rfl rfl rfl rfl rfl rfl (by omega) ?_ | (refine gcall rfl rfl ?_; (refine j_qc (f := 83) rfl rfl rfl rfl rfl rfl rfl ?_; refine ⟨_, (fun w' hs => ho w' (h.st hs)), ?_⟩)) | (refine j_qe rfl rfl rfl ?_; refine ⟨_, q_index_at u rfl rfl rfl rfl rfl (by omega), ?_⟩) | (refine j_qe rfl rfl rfl ?_; refine ⟨_, q_rowF (f := snC) (l := T) (i := u) (off := 1) rfl rfl rfl rfl (by (repeat constructor)) (fun _ => rfl) hy rfl, ?_⟩) | (refine j_qe rfl rfl rfl ?_; refine ⟨_, q_rowF (f := snC) (l := T) (i := u) (off := 2) rfl rfl rfl rfl (by (repeat constructor)) (fun _ => rfl) hy rfl, ?_⟩) | (refine j_qe rfl rfl rfl ?_; refine ⟨_, q_rowF (f := snC) (l := T) (i := u) (off := 3) rfl rfl rfl rfl (by (repeat constructor)) (fun _ => rfl) hy rfl, ?_⟩) | (refine gF ?_; refine j_store rfl rfl rfl rfl rfl rfl rfl rfl (by (repeat constructor)) (by rfl) ?_) | (refine j_qe rfl rfl rfl ?_; first | refine ⟨_, q_len_slice rfl rfl rfl rfl, ?_⟩ | refine ⟨_, q_field_ext rfl rfl rfl rfl rfl, ?_⟩)) | (refine gSC ?_; first | refine sc_mv rfl ?_ | refine sc_q rfl ?_ | refine sc_region ?_ | refine sc_draw rfl mixed (by kernel_rfl) ?_) | (refine gSQ ?_; first | refine sq_go rfl ?_ | refine sq_mv rfl ?_) | refine j_nil ?_ | ((first | refine j_guard rfl rfl rfl rfl rfl ?_ ?_ | refine sc_cond rfl ?_ ?_) <;> intro hc <;> (first | exact absurd hc (by decide) | ((try simp only [engHC] at hc) <;> first | (exfalso; omega) | skip))))
            all_goals
              refine sq_loop (u + 1) ?_ ?_ ?_ ?_
              · show u + 1 ≤ j; omega
              · show j - (u + 1) < j - u; omega
              · exact (by (try dsimp only); exact (by repeat (first | exact FSub.nil | refine FSub.cons rfl ?_ | refine FSub.conse rfl (by congr 1; omega) ?_)))
              · rw [hnx']; exact (by repeat (first | exact LSub.refl | refine LSub.cons (by repeat (first | exact Rem.here | apply Rem.there)) ?_ | apply LSub.skip))
        · rw [if_neg hpk] at hnx
          rw [hlk] at hpk
          repeat' (first | (refine gJ ?_; first | refine js rfl rfl rfl rfl ?_ | (refine gload rfl rfl ?_; refine j_qe rfl rfl rfl ?_; refine ⟨_, q_load_own rfl rfl rfl rfl (by (repeat constructor)) (by first | rfl | assumption), ?_⟩) | refine jfield rfl rfl rfl rfl rfl rfl rfl rfl ?_ | refine jar rfl rfl rfl rfl rfl rfl rfl (by omega) ?_ | (refine j_qe rfl rfl rfl ?_; refine ⟨_, q_index_at u rfl rfl rfl rfl rfl (by omega), ?_⟩) | (refine j_qe rfl rfl rfl ?_; refine ⟨_, q_rowF (f := snC) (l := T) (i := u) (off := 1) rfl rfl rfl rfl (by (repeat constructor)) (fun _ => rfl) hy rfl, ?_⟩) | (refine j_qe rfl rfl rfl ?_; refine ⟨_, q_rowF (f := snC) (l := T) (i := u) (off := 2) rfl rfl rfl rfl (by (repeat constructor)) (fun _ => rfl) hy rfl, ?_⟩) | (refine j_qe rfl rfl rfl ?_; refine ⟨_, q_rowF (f := snC) (l := T) (i := u) (off := 3) rfl rfl rfl rfl (by (repeat constructor)) (fun _ => rfl) hy rfl, ?_⟩) | (refine j_qe rfl rfl rfl ?_; first | refine ⟨_, q_len_slice rfl rfl rfl rfl, ?_⟩ | refine ⟨_, q_field_ext rfl rfl rfl rfl rfl, ?_⟩)) | (refine gSC ?_; first | refine sc_mv rfl ?_ | refine sc_q rfl ?_ | refine sc_region ?_ | refine sc_draw rfl mixed (by kernel_rfl) ?_) | (refine gSQ ?_; first | refine sq_go rfl ?_ | refine sq_mv rfl ?_) | refine j_nil ?_ | ((first | refine j_guard rfl rfl rfl rfl rfl ?_ ?_ | refine sc_cond rfl ?_ ?_) <;> intro hc <;> (first | exact absurd hc (by decide) | ((try simp only [engHC] at hc) <;> first | (exfalso; omega) | skip))))
          all_goals
            refine sq_loop (u + 1) ?_ ?_ ?_ ?_
            · show u + 1 ≤ j; omega
            · show j - (u + 1) < j - u; omega
            · exact (by (try dsimp only); exact (by repeat (first | exact FSub.nil | refine FSub.cons rfl ?_ | refine FSub.conse rfl (by congr 1; omega) ?_)))
            · rw [hnx]; exact (by repeat (first | exact LSub.refl | refine LSub.cons (by repeat (first | exact Rem.here | apply Rem.there)) ?_ | apply LSub.skip))
      · obtain rfl : u = j := by omega
        rw [show s.take u = s from List.take_of_length_le (by omega)]
        have e1 : (R.take (k + 1)).flatMap rwC = (R.take k).flatMap rwC ++ rwC (rowAt (ofB pl) (fun x => outF l x now) s p) := by rw [take_snocS hRp, List.flatMap_append]; simp
        repeat' (first | (refine gJ ?_; first | refine js rfl rfl rfl rfl ?_ | (refine gload rfl rfl ?_; refine j_qe rfl rfl rfl ?_; refine ⟨_, q_loadA_own rfl rfl rfl rfl (by (repeat constructor)) (by rfl), ?_⟩) | (refine gF ?_; refine j_append (xs := (R.take k).flatMap rwC) rfl rfl rfl rfl rfl rfl rfl rfl rfl rfl rfl (by (repeat constructor)) (by (repeat constructor)) (by rfl) (by rfl) (by omega) (fun _ => by (repeat constructor)) ?_; intro v) | (refine gF ?_; (refine j_buildSlice rfl rfl rfl rfl rfl rfl rfl rfl rfl rfl rfl rfl ?_; intro b)) | (refine j_qe rfl rfl rfl ?_; refine ⟨_, q_len_slice rfl rfl rfl rfl, ?_⟩)) | (refine gSC ?_; first | refine sc_mv rfl ?_ | refine sc_q rfl ?_ | refine sc_region ?_) | (refine gSQ ?_; first | refine sq_go rfl ?_ | refine sq_mv rfl ?_) | refine j_nil ?_ | ((refine sc_cond rfl ?_ ?_) <;> intro hc <;> (((try simp only [engHC] at hc) <;> first | (exfalso; omega) | skip))))
        refine sq_loop (k + 1, v) (by show k + 1 ≤ nk; omega) (by show nk - (k + 1) < nk - k; omega) (by (try dsimp only); exact (by repeat (first | exact FSub.nil | refine FSub.cons rfl ?_ | refine FSub.conse rfl (by congr 1; omega) ?_))) ?_
        dsimp only
        rw [e1]
        exact (by repeat (first | exact LSub.refl | refine LSub.cons (by repeat (first | exact Rem.here | apply Rem.there)) ?_ | apply LSub.skip))
    · rw [List.getElem?_eq_none (by omega), List.take_of_length_le (by omega)]
      obtain rfl : k = nk := by omega
      simp only [Option.isSome_none]
      repeat' (first | (refine gJ ?_; first | refine js rfl rfl rfl rfl ?_ | (refine j_qe rfl rfl rfl ?_; refine ⟨_, q_len_slice rfl rfl rfl rfl, ?_⟩)) | (refine gSC ?_; first | refine sc_mv rfl ?_ | refine sc_q rfl ?_ | refine sc_region ?_) | (refine gSQ ?_; first | refine sq_go rfl ?_ | refine sq_mv rfl ?_ | refine sq_ende (by first | exact .inl rfl | exact .inr rfl) rfl rfl ⟨_, (RVs.cons (RV.tmp rfl) (RVs.nil)), ?_⟩) | refine j_nil ?_ | ((refine sc_cond rfl ?_ ?_) <;> intro hc <;> (first | exact absurd hc (by decide) | ((try simp only [engHC] at hc) <;> first | (exfalso; omega) | skip))))
      intro w' hS
      exact ⟨.slice AR k cR, trivial, rfl, hS.sub (by repeat (first | exact LSub.refl | refine LSub.cons (by repeat (first | exact Rem.here | apply Rem.there)) ?_ | apply LSub.skip))⟩
end Go.Proofs.YtmakokbpadmfbaaGreat
