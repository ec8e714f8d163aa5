/-
  In one text: Rsu, Lns, Tls.
-/
import Derived.Test.YtmakokbpadmfbaaGreatRst
import Derived.Test.YtmakokbpadmfbaaGreatCl2
import Derived.Test.YtmakokbpadmfbaaGreatEngCoreB
import Derived.Test.YtmakokbpadmfbaaGreatDec6
import Derived.Test.YtmakokbpadmfbaaGreatMds
/-
  letterbagref40, letterbagref41: Promise, outcome, Judge, Verdict.
-/
namespace Go.Proofs.YtmakokbpadmfbaaGreat
open Go.RowKit Eng
set_option linter.unusedVariables false
set_option linter.unusedSimpArgs false
set_option maxHeartbeats 8000000
attribute [local irreducible] SC SQ J Qt Calls Iterates LSub FSub
theorem rProm_c (A : Option Addr) (c : Nat) (l : List Sd) (cl fr to ac : Int) (w : World) (hl : l.length ≤ 9223372036854775807) (hcl : ∀ x ∈ l, 0 ≤ x.cl) (ha : -9223372036854775808 ≤ ac ∧ ac ≤ 9223372036854775807) (h : RS w 4 sdC A l) :
    Calls Tryz.prog 102 #[.slice A l.length c, .int .u8 cl, .int .i64 fr, .int .i64 to, .int .i64 ac] w fun e w' => e = .returned (.tuple #[.int .i64 (promF l cl fr to ac).1, .int .i64 (promF l cl fr to ac).2]) ∧ Below w.heap.size w w' := by
  have hR := fun w' h' => rRight_c A c l w' hl hcl h'
  have hok := fun h => (sdsB_ok (l := l) h).2
  unfold promF
  generalize sdsB l = R at *
  have hm : R = true → ∀ x ∈ l, 0 ≤ x.mi ∧ x.mi ≤ 100000 := fun h1 x hx => by have := hok h1 x hx; unfold okSd at this; omega
  clear hok
  generalize hn : l.length = n at *
  cases R
  · refine eng_start (n := 75) (args := [.slice A n c, .int .u8 cl, .int .i64 fr, .int .i64 to, .int .i64 ac]) tab tab_ok fns fns_ok [.tmp 10, .tmp 11] Tryz.func102 rfl rfl rfl rfl ?_
    repeat' (first | (refine gJ ?_; first | refine js rfl rfl rfl rfl ?_ | (refine gcall rfl rfl ?_; (refine j_qc (f := 81) rfl rfl rfl rfl rfl rfl rfl ?_; refine ⟨_, (fun w' hs => hR w' (h.st hs)), ?_⟩))) | (refine gSC ?_; first | refine sc_mv rfl ?_ | refine sc_q rfl ?_ | refine sc_region ?_) | (refine gSQ ?_; first | refine sq_go rfl ?_ | refine sq_mv rfl ?_ | refine sq_ende (by first | exact .inl rfl | exact .inr rfl) rfl rfl ⟨_, (RVs.cons (RV.tmp rfl) (RVs.cons (RV.tmp rfl) (RVs.nil))), ?_⟩) | refine j_nil ?_ | ((first | refine j_guard rfl rfl rfl rfl rfl ?_ ?_ | refine sc_cond rfl ?_ ?_) <;> intro hc <;> (first | exact absurd hc (by decide) | ((try simp only [engHC] at hc) <;> skip))))
    all_goals ((intro w' hS; refine ⟨?_, hS.below⟩; simp only [pack]); rfl)
  by_cases ha0 : 0 ≤ ac
  · rw [if_pos ⟨rfl, ha0⟩]
    obtain ⟨fd, hfd⟩ : ∃ fd, fd = l.find? (sdIs cl fr to) := ⟨_, rfl⟩
    rw [← hfd]
    refine eng_start (n := 75) (args := [.slice A n c, .int .u8 cl, .int .i64 fr, .int .i64 to, .int .i64 ac]) tab tab_ok fns fns_ok [.tmp 10, .tmp 11] Tryz.func102 rfl rfl rfl rfl ?_
    repeat' (first | (refine gJ ?_; first | refine js rfl rfl rfl rfl ?_ | (refine gcall rfl rfl ?_; (refine j_qc (f := 81) rfl rfl rfl rfl rfl rfl rfl ?_; refine ⟨_, (fun w' hs => hR w' (h.st hs)), ?_⟩))) | (refine gSC ?_; first | refine sc_mv rfl ?_ | refine sc_q rfl ?_ | refine sc_region ?_) | (refine gSQ ?_; refine sq_go rfl ?_) | refine j_nil ?_ | ((first | refine j_guard rfl rfl rfl rfl rfl ?_ ?_ | refine sc_cond rfl ?_ ?_) <;> intro hc <;> (first | exact absurd hc (by decide) | ((try simp only [engHC] at hc) <;> first | (exfalso; omega) | skip))))
    refine sc_loop (ι := Nat) (fun i => i ≤ n ∧ fd = (l.drop i).find? (sdIs cl fr to)) (fun i => n - i) (fun i => [(0, .slice A n c), (1, .int .u8 cl), (2, .int .i64 fr), (3, .int .i64 to), (4, .int .i64 ac), (12, .int .i64 i)]) (fun _ => []) 0 ⟨by omega, hfd⟩ (by (try dsimp only); exact (by repeat (first | exact FSub.nil | refine FSub.cons rfl ?_ | refine FSub.conse rfl (by congr 1; omega) ?_))) (by repeat (first | exact LSub.refl | refine LSub.cons (by repeat (first | exact Rem.here | apply Rem.there)) ?_ | apply LSub.skip)) ?_
    rintro i ⟨hi, hr⟩
    dsimp only at hi hr ⊢
    by_cases hlt : i < n
    · obtain ⟨x, hx⟩ : ∃ x, l[i]? = some x := ⟨_, List.getElem?_eq_getElem (by omega)⟩
      obtain ⟨ad, rfl, hX⟩ := h i x hx
      have hmi := hm rfl x (List.mem_of_getElem? hx)
      rw [drop_cons hx, List.find?_cons] at hr
      by_cases hk : x.cl = cl ∧ x.fr = fr ∧ x.to = to
      · rw [show sdIs cl fr to x = true from decide_eq_true hk] at hr
        dsimp only at hr
        rw [hr]
        dsimp only
        obtain ⟨k1, k2, k3⟩ := hk
        obtain ⟨p, hp⟩ : ∃ p, p = prT x ac := ⟨_, rfl⟩
        rw [← hp]
        unfold prT at hp
        repeat' (first | (refine gJ ?_; first | refine js rfl rfl rfl rfl ?_ | (refine gload rfl rfl ?_; refine j_qe rfl rfl rfl ?_; refine ⟨_, q_load_ext rfl rfl rfl rfl ⟨by assumption, (by first | exact id | assumption)⟩ (by first | rfl | assumption), ?_⟩) | refine jar rfl rfl rfl rfl rfl rfl rfl (by omega) ?_ | (refine j_qe rfl rfl rfl ?_; first | refine ⟨_, q_index_nat rfl rfl rfl rfl rfl (by omega), ?_⟩ | refine ⟨_, q_len_slice rfl rfl rfl rfl, ?_⟩ | refine ⟨_, q_field_ext rfl rfl rfl rfl rfl, ?_⟩ | refine ⟨_, q_quo rfl rfl rfl (by omega), ?_⟩)) | (refine gSC ?_; first | refine sc_mv rfl ?_ | refine sc_q rfl ?_ | refine sc_region ?_) | (refine gSQ ?_; first | refine sq_go rfl ?_ | refine sq_mv rfl ?_ | refine sq_ende (by first | exact .inl rfl | exact .inr rfl) rfl rfl ⟨_, (RVs.cons (RV.tmp rfl) (RVs.cons (RV.tmp rfl) (RVs.nil))), ?_⟩) | refine j_nil ?_ | ((first | refine j_guard rfl rfl rfl rfl rfl ?_ ?_ | refine sc_cond rfl ?_ ?_) <;> intro hc <;> (first | exact absurd hc (by decide) | ((try simp only [engHC] at hc) <;> first | (exfalso; omega) | skip))))
        all_goals
          (intro w' hS; refine ⟨?_, hS.below⟩; simp only [pack])
          first
            | rw [if_pos (by omega)]
            | rw [if_neg (by omega), if_pos (by omega)]
            | (rw [if_neg (by omega), if_neg (by omega)]; congr; omega)
      · rw [show sdIs cl fr to x = false from decide_eq_false hk] at hr
        dsimp only at hr
        repeat' (first | (refine gJ ?_; first | refine js rfl rfl rfl rfl ?_ | (refine gload rfl rfl ?_; refine j_qe rfl rfl rfl ?_; refine ⟨_, q_load_ext rfl rfl rfl rfl ⟨by assumption, (by first | exact id | assumption)⟩ (by first | rfl | assumption), ?_⟩) | refine jar rfl rfl rfl rfl rfl rfl rfl (by omega) ?_ | (refine j_qe rfl rfl rfl ?_; first | refine ⟨_, q_index_nat rfl rfl rfl rfl rfl (by omega), ?_⟩ | refine ⟨_, q_len_slice rfl rfl rfl rfl, ?_⟩ | refine ⟨_, q_field_ext rfl rfl rfl rfl rfl, ?_⟩)) | (refine gSC ?_; first | refine sc_mv rfl ?_ | refine sc_q rfl ?_ | refine sc_region ?_) | (refine gSQ ?_; first | refine sq_go rfl ?_ | refine sq_mv rfl ?_) | refine j_nil ?_ | ((first | refine j_guard rfl rfl rfl rfl rfl ?_ ?_ | refine sc_cond rfl ?_ ?_) <;> intro hc <;> (first | exact absurd hc (by decide) | ((try simp only [engHC] at hc) <;> first | (exfalso; omega) | skip))))
        all_goals first
          | exact sq_loop (i + 1) ⟨by show i + 1 ≤ n; omega, hr⟩ (by show n - (i + 1) < n - i; omega) (by (try dsimp only); exact (by repeat (first | exact FSub.nil | refine FSub.cons rfl ?_ | refine FSub.conse rfl (by congr 1; omega) ?_))) (by repeat (first | exact LSub.refl | refine LSub.cons (by repeat (first | exact Rem.here | apply Rem.there)) ?_ | apply LSub.skip))
          | (exfalso; omega)
    · rw [List.drop_of_length_le (by omega)] at hr
      repeat' (first | (refine gJ ?_; first | refine js rfl rfl rfl rfl ?_ | (refine j_qe rfl rfl rfl ?_; refine ⟨_, q_len_slice rfl rfl rfl rfl, ?_⟩)) | (refine gSC ?_; first | refine sc_mv rfl ?_ | refine sc_q rfl ?_ | refine sc_region ?_) | (refine gSQ ?_; first | refine sq_go rfl ?_ | refine sq_mv rfl ?_ | refine sq_ende (by first | exact .inl rfl | exact .inr rfl) rfl rfl ⟨_, (RVs.cons (RV.tmp rfl) (RVs.cons (RV.tmp rfl) (RVs.nil))), ?_⟩) | refine j_nil ?_ | ((refine sc_cond rfl ?_ ?_) <;> intro hc <;> (((try simp only [engHC] at hc) <;> first | (exfalso; omega) | skip))))
      (intro w' hS; refine ⟨?_, hS.below⟩; simp only [pack])
      rw [hr]
      rfl
  · rw [if_neg (fun g => ha0 g.2)]
    refine eng_start (n := 75) (args := [.slice A n c, .int .u8 cl, .int .i64 fr, .int .i64 to, .int .i64 ac]) tab tab_ok fns fns_ok [.tmp 10, .tmp 11] Tryz.func102 rfl rfl rfl rfl ?_
    repeat' (first | (refine gJ ?_; first | refine js rfl rfl rfl rfl ?_ | (refine gcall rfl rfl ?_; (refine j_qc (f := 81) rfl rfl rfl rfl rfl rfl rfl ?_; refine ⟨_, (fun w' hs => hR w' (h.st hs)), ?_⟩))) | (refine gSC ?_; first | refine sc_mv rfl ?_ | refine sc_q rfl ?_ | refine sc_region ?_) | (refine gSQ ?_; first | refine sq_go rfl ?_ | refine sq_mv rfl ?_ | refine sq_ende (by first | exact .inl rfl | exact .inr rfl) rfl rfl ⟨_, (RVs.cons (RV.tmp rfl) (RVs.cons (RV.tmp rfl) (RVs.nil))), ?_⟩) | refine j_nil ?_ | ((first | refine j_guard rfl rfl rfl rfl rfl ?_ ?_ | refine sc_cond rfl ?_ ?_) <;> intro hc <;> (first | exact absurd hc (by decide) | ((try simp only [engHC] at hc) <;> first | (exfalso; omega) | skip))))
    all_goals (intro w' hS; refine ⟨?_, hS.below⟩; simp only [pack])
theorem by_c (x : Sn) (now : Int) (w : World) : Calls Tryz.prog 91 #[snV x, .int .i64 now] w fun e w' => e = .returned (.bool (delB x now)) ∧ Below w.heap.size w w' := by
  refine eng_start (n := 14) (args := [snV x, .int .i64 now]) tab tab_ok fns fns_ok [.tmp 4] Tryz.func91 rfl rfl rfl rfl ?_
  repeat' (first | (refine gJ ?_; first | refine js rfl rfl rfl rfl ?_ | (refine gload rfl rfl ?_; refine j_qe rfl rfl rfl ?_; refine ⟨_, q_load_own rfl rfl rfl rfl (by (repeat constructor)) (by first | rfl | assumption), ?_⟩) | refine jfield rfl rfl rfl rfl rfl rfl rfl rfl ?_ | (refine gF ?_; (refine j_box rfl rfl rfl rfl rfl ?_; intro b))) | (refine gSC ?_; first | refine sc_mv rfl ?_ | refine sc_q rfl ?_ | refine sc_region ?_) | (refine gSQ ?_; first | refine sq_go rfl ?_ | refine sq_ende (by first | exact .inl rfl | exact .inr rfl) rfl rfl ⟨_, (RVs.cons (RV.tmp rfl) (RVs.nil)), ?_⟩) | refine j_nil ?_ | ((refine j_guard rfl rfl rfl rfl rfl ?_ ?_) <;> intro hc <;> (first | exact absurd hc (by decide) | ((try simp only [engHC] at hc) <;> skip))))
  all_goals ((intro w' hS; refine ⟨?_, hS.below⟩; simp only [pack]); exact rb (by unfold delB; symm; first | (rw [decide_eq_true_eq]; omega) | (rw [decide_eq_false_iff_not]; omega) | (rw [decide_eq_decide]; omega)))
theorem outc_c (A : Option Addr) (c : Nat) (l : List Sd) (x : Sn) (now : Int) (w : World) (hl : l.length ≤ 9223372036854775807) (hcl : ∀ x ∈ l, 0 ≤ x.cl) (ha : -9223372036854775808 ≤ x.ac ∧ x.ac ≤ 9223372036854775807) (h : RS w 4 sdC A l) :
    Calls Tryz.prog 83 #[.slice A l.length c, snV x, .int .i64 now] w fun e w' => e = .returned (.int .u8 (outF l x now)) ∧ Below w.heap.size w w' := by
  have hP := fun w' h' => rProm_c A c l x.cl x.fr x.to x.ac w' hl hcl ha h'
  unfold outF
  generalize (promF l x.cl x.fr x.to x.ac).1 = p at *
  generalize (promF l x.cl x.fr x.to x.ac).2 = e at *
  have hD := fun w' => by_c x now w'
  generalize delB x now = D at *
  generalize hn : l.length = n at *
  refine eng_start (n := 42) (args := [.slice A n c, snV x, .int .i64 now]) tab tab_ok fns fns_ok [.tmp 6] Tryz.func83 rfl rfl rfl rfl ?_
  cases D
  all_goals
    repeat' (first | (refine gJ ?_; first | refine js rfl rfl rfl rfl ?_ | (refine gload rfl rfl ?_; refine j_qe rfl rfl rfl ?_; first | refine ⟨_, q_load_own rfl rfl rfl rfl (by (repeat constructor)) (by first | rfl | assumption), ?_⟩ | refine ⟨_, q_loadA_own rfl rfl rfl rfl (by (repeat constructor)) (by rfl), ?_⟩) | refine jfield rfl rfl rfl rfl rfl rfl rfl rfl ?_ | (refine gcall rfl rfl ?_; first | (refine j_qc (f := 102) rfl rfl rfl rfl rfl rfl rfl ?_; refine ⟨_, (fun w' hs => hP w' (h.st hs)), ?_⟩) | (refine j_qc (f := 91) rfl rfl rfl rfl rfl rfl rfl ?_; refine ⟨_, (fun w' _ => hD w'), ?_⟩)) | (refine gF ?_; (refine j_box rfl rfl rfl rfl rfl ?_; intro b))) | (refine gSC ?_; first | refine sc_mv rfl ?_ | refine sc_q rfl ?_ | refine sc_region ?_) | (refine gSQ ?_; first | refine sq_go rfl ?_ | refine sq_mv rfl ?_ | refine sq_ende (by first | exact .inl rfl | exact .inr rfl) rfl rfl ⟨_, (RVs.cons (RV.tmp rfl) (RVs.nil)), ?_⟩) | refine j_nil ?_ | ((first | refine j_guard rfl rfl rfl rfl rfl ?_ ?_ | refine sc_cond rfl ?_ ?_) <;> intro hc <;> (first | exact absurd hc (by decide) | ((try simp only [engHC] at hc) <;> skip))))
    all_goals
      (intro w' hS; refine ⟨?_, hS.below⟩; simp only [pack])
      (repeat' split) <;> first | rfl | (exfalso; omega) | (exfalso; simp_all; done) | (exfalso; simp_all; omega)
theorem rJudge_c (A : Option Addr) (c : Nat) (l : List Sd) (x : Sn) (now : Int) (w : World) (hl : l.length ≤ 9223372036854775807) (hcl : ∀ x ∈ l, 0 ≤ x.cl) (hxc : 0 ≤ x.cl) (ha : -9223372036854775808 ≤ x.ac ∧ x.ac ≤ 9223372036854775807) (h : RS w 4 sdC A l) :
    Calls Tryz.prog 52 #[.slice A l.length c, snV x, .int .i64 now] w fun e w' => e = .returned (.tuple #[.int .u8 (judF l x now).1, .int .i64 (judF l x now).2]) ∧ Below w.heap.size w w' := by
  have hR := fun w' h' => rRight_c A c l w' hl hcl h'
  have hS := fun A1 w' h' => rSent_c A1 1 [x] w' (by simp) (fun y hy => by rw [List.mem_singleton] at hy; subst hy; exact hxc) h'
  have hJ := fun w' h' => outc_c A c l x now w' hl hcl ha h'
  unfold judF
  generalize outF l x now = O at *
  generalize sdsB l = R at *
  generalize sentB [x] = S at *
  generalize hn : l.length = n at *
  refine eng_start (n := 29) (args := [.slice A n c, snV x, .int .i64 now]) tab tab_ok fns fns_ok [.tmp 6, .tmp 7] Tryz.func52 rfl rfl rfl rfl ?_
  cases R <;> cases S <;> by_cases ht : timeI now
  all_goals
    have ht' := ht
    unfold timeI at ht'
    repeat' (first | (refine gJ ?_; first | refine js rfl rfl rfl rfl ?_ | (refine gload rfl rfl ?_; refine j_qe rfl rfl rfl ?_; refine ⟨_, q_loadA_own rfl rfl rfl rfl (by (repeat constructor)) (by rfl), ?_⟩) | (refine gcall rfl rfl ?_; first | (refine j_qc (f := 81) rfl rfl rfl rfl rfl rfl rfl ?_; refine ⟨_, (fun w' hs => hR w' (h.st hs)), ?_⟩) | (refine j_qc (f := 82) rfl rfl rfl rfl rfl rfl rfl ?_; refine ⟨_, (fun w' hs => hS (some ⟨b, 0, none⟩) w' (rs_lit (f := snC) _ (fun _ => rfl) hs (by (repeat constructor)) rfl)), ?_⟩) | (refine j_qc (f := 83) rfl rfl rfl rfl rfl rfl rfl ?_; refine ⟨_, (fun w' hs => hJ w' (h.st hs)), ?_⟩)) | (refine gF ?_; first | (refine j_box rfl rfl rfl rfl rfl ?_; intro b) | (refine j_buildSlice rfl rfl rfl rfl rfl rfl rfl rfl rfl rfl rfl rfl ?_; intro b))) | (refine gSC ?_; first | refine sc_mv rfl ?_ | refine sc_q rfl ?_ | refine sc_region ?_) | (refine gSQ ?_; first | refine sq_go rfl ?_ | refine sq_mv rfl ?_ | refine sq_ende (by first | exact .inl rfl | exact .inr rfl) rfl rfl ⟨_, (RVs.cons (RV.tmp rfl) (RVs.cons (RV.tmp rfl) (RVs.nil))), ?_⟩) | refine j_nil ?_ | ((first | refine j_guard rfl rfl rfl rfl rfl ?_ ?_ | refine sc_cond rfl ?_ ?_) <;> intro hc <;> (first | exact absurd hc (by decide) | ((try simp only [engHC] at hc) <;> first | (exfalso; omega) | skip))))
    all_goals first
      | (exfalso; omega)
      | ((intro w' hS; refine ⟨?_, hS.below⟩; simp only [pack])
         simp [ht])
theorem rVerd_c (r : Rw) (t : Int) (w : World) : Calls Tryz.prog 53 #[rwV r, .int .i64 t] w fun e w' => e = .returned (.tuple #[.int .u8 (verF r t).1, .int .i64 (verF r t).2]) ∧ Below w.heap.size w w' := by
  unfold verF
  refine eng_start (n := 20) (args := [rwV r, .int .i64 t]) tab tab_ok fns fns_ok [.tmp 4, .tmp 5] Tryz.func53 rfl rfl rfl rfl ?_
  repeat' (first | (refine gJ ?_; first | refine js rfl rfl rfl rfl ?_ | (refine gload rfl rfl ?_; refine j_qe rfl rfl rfl ?_; refine ⟨_, q_load_own rfl rfl rfl rfl (by (repeat constructor)) (by first | rfl | assumption), ?_⟩) | refine jfield rfl rfl rfl rfl rfl rfl rfl rfl ?_ | (refine gF ?_; (refine j_box rfl rfl rfl rfl rfl ?_; intro b))) | (refine gSC ?_; first | refine sc_mv rfl ?_ | refine sc_q rfl ?_ | refine sc_region ?_) | (refine gSQ ?_; first | refine sq_go rfl ?_ | refine sq_mv rfl ?_ | refine sq_ende (by first | exact .inl rfl | exact .inr rfl) rfl rfl ⟨_, (RVs.cons (RV.tmp rfl) (RVs.cons (RV.tmp rfl) (RVs.nil))), ?_⟩) | refine j_nil ?_ | ((first | refine j_guard rfl rfl rfl rfl rfl ?_ ?_ | refine sc_cond rfl ?_ ?_) <;> intro hc <;> (first | exact absurd hc (by decide) | ((try simp only [engHC] at hc) <;> skip))))
  all_goals
    (intro w' hS; refine ⟨?_, hS.below⟩; simp only [pack])
    first
      | rw [if_neg (by omega)]
      | rw [if_pos (by omega), if_pos (by omega)]
      | rw [if_pos (by omega), if_neg (by omega), if_pos (by omega)]
      | rw [if_pos (by omega), if_neg (by omega), if_neg (by omega)]
end Go.Proofs.YtmakokbpadmfbaaGreat

/-
  letterbagkit: memory lent of a type, and whether it was kept (Lent.., Kept.. of type 43).
-/
namespace Go.Proofs.YtmakokbpadmfbaaGreat
open Go.RowKit Eng
set_option linter.unusedVariables false
set_option linter.unusedSimpArgs false
set_option maxHeartbeats 8000000
attribute [local irreducible] SC SQ J Qt Calls Iterates LSub FSub
theorem mark_c (k i : Int) (w : World) (hk : 0 ≤ k ∧ k ≤ 2) (hi : 0 ≤ i ∧ i ≤ 100000) : Calls Tryz.prog 99 #[.int .i64 k, .int .i64 i] w fun e w' => e = .returned (.int .i64 (1000003 * (k + 7) + i)) ∧ Below w.heap.size w w' := by
  refine eng_start (n := 10) (args := [.int .i64 k, .int .i64 i]) tab tab_ok fns fns_ok [.tmp 4] Tryz.func99 rfl rfl rfl rfl ?_
  repeat' (first | (refine gJ ?_; first | refine js rfl rfl rfl rfl ?_ | refine jar rfl rfl rfl rfl rfl rfl rfl (by omega) ?_) | (refine gSC ?_; first | refine sc_mv rfl ?_ | refine sc_q rfl ?_ | refine sc_region ?_) | (refine gSQ ?_; first | refine sq_go rfl ?_ | refine sq_ende (by first | exact .inl rfl | exact .inr rfl) rfl rfl ⟨_, (RVs.cons (RV.tmp rfl) (RVs.nil)), ?_⟩) | refine j_nil ?_)
  (intro w' hS; refine ⟨?_, hS.below⟩; simp only [pack])
theorem T_eq (a b : Sd) : a = b ↔ a.cl = b.cl ∧ a.fr = b.fr ∧ a.to = b.to ∧ a.mi = b.mi := by
  cases a; cases b; simp
instance : DecidableEq Sd := fun a b => decidable_of_iff _ (T_eq a b).symm
theorem eqm43 : Tryz.prog.eqGuardType Tryz.prog.depth 43 = false := by kernel_rfl
theorem eq43 (a b : Sd) (w : World) : (Op.equalIn 10000 43 (sdV a) (sdV b)).run Tryz.prog w = .ok (decide (a = b)) w := by
  have u3 := Tryz.underlying3
  have a3 := Tryz.isAgg3
  have z3 := Tryz.sizeOf3
  have u5 := Tryz.underlying5
  have a5 := Tryz.isAgg5
  have z5 := Tryz.sizeOf5
  rw [run_equalIn_agg w 9999 43 _ _ (by kernel_rfl) (by kernel_rfl)]
  simp only [Program.fieldsOf, Tryz.underlying43]
  go_simp
  have e : decide (a = b) = decide (a.cl = b.cl ∧ a.fr = b.fr ∧ a.to = b.to ∧ a.mi = b.mi) := decide_eq_decide.2 (T_eq a b)
  rw [e]
  by_cases h0 : a.cl = b.cl <;> by_cases h1 : a.fr = b.fr <;> by_cases h2 : a.to = b.to <;> by_cases h3 : a.mi = b.mi <;> simp [h0, h1, h2, h3]
theorem eq43r (a : Sd) (w : World) : (Op.equalIn 10000 43 (sdV a) (sdV a)).run Tryz.prog w = .ok true w := by rw [eq43, decide_eq_true rfl]
def mkT (k i : Int) : Sd := ⟨0, 0, 0, 1000003 * (k + 7) + i⟩
def mksT (k : Int) : Nat → List Sd
  | 0 => []
  | n + 1 => mksT k n ++ [mkT k n]
theorem mksT_len (k : Int) : ∀ n, (mksT k n).length = n
  | 0 => rfl
  | n + 1 => by simp [mksT, mksT_len k n]
theorem mksT_get (k : Int) : ∀ n i, i < n → (mksT k n)[i]? = some (mkT k i)
  | 0, i, h => by omega
  | n + 1, i, h => by
    simp only [mksT]
    by_cases hi : i < n
    · rw [List.getElem?_append_left (by rw [mksT_len]; exact hi), mksT_get k n i hi]
    · have : i = n := by omega
      subst this
      rw [List.getElem?_append_right (by rw [mksT_len]; omega), mksT_len, Nat.sub_self]
      rfl
theorem markT_c (k i : Int) (w : World) (hk : 0 ≤ k ∧ k ≤ 2) (hi : 0 ≤ i ∧ i ≤ 100000) : Calls Tryz.prog 80 #[.int .i64 k, .int .i64 i] w fun e w' => e = .returned (sdV (mkT k i)) ∧ Below w.heap.size w w' := by
  refine eng_start (n := 9) (args := [.int .i64 k, .int .i64 i]) tab tab_ok fns fns_ok [.cell 4 43] Tryz.func80 rfl rfl rfl rfl ?_
  repeat' (first | (refine gJ ?_; first | refine js rfl rfl rfl rfl ?_ | (refine gcall rfl rfl ?_; (refine j_qc (f := 99) rfl rfl rfl rfl rfl rfl rfl ?_; refine ⟨_, (fun w' _ => mark_c k i w' hk hi), ?_⟩)) | (refine gF ?_; first | refine j_store rfl rfl rfl rfl rfl rfl rfl rfl (by (repeat constructor)) (by rfl) ?_ | (refine j_alloc rfl rfl rfl rfl rfl ?_; intro b)) | (refine j_qe rfl rfl rfl ?_; refine ⟨_, q_build_struct rfl rfl rfl rfl rfl, ?_⟩)) | (refine gSC ?_; first | refine sc_mv rfl ?_ | refine sc_q rfl ?_ | refine sc_region ?_) | (refine gSQ ?_; first | refine sq_go rfl ?_ | refine sq_ende (by first | exact .inl rfl | exact .inr rfl) rfl rfl ⟨_, (RVs.cons (by first | exact RV.cell rfl rfl rfl (by (repeat constructor)) (by rfl) | exact RV.cellA rfl rfl rfl (by (repeat constructor)) (by rfl)) (RVs.nil)), ?_⟩) | refine j_nil ?_)
  (intro w' hS; refine ⟨?_, hS.below⟩; simp only [pack])
  rfl
theorem lentT_c (A : Option Addr) (c : Nat) (l : List Sd) (w : World) (hl : l.length ≤ 2000) (hs : Sl A l.length c) (h : RS w 4 sdC A l) :
    Calls Tryz.prog 51 #[.slice A l.length c] w fun e w' => ∃ x : Addr × Nat, l.length + 12 ≤ x.2 ∧ e = .returned (.slice (some x.1) l.length x.2) ∧ St w Cold [.own (.slice (some x.1) (l.length + 12) x.2) 43 4 (l.length + 12) ((l ++ mksT 1 12).flatMap sdC)] w' := by
  have hre := fun w' (h : RS w' 4 sdC A l) => reads_ext (f := sdC) (sz := 4) (fun _ => rfl) (fun _ => rfl) h (fun e => ⟨List.length_eq_zero_iff.1 (hs.nil e).1, (hs.nil e).2⟩)
  obtain ⟨n, hn⟩ : ∃ n, l.length = n := ⟨_, rfl⟩
  rw [hn] at hre hl ⊢
  refine eng_start (n := 25) (args := [.slice A n c]) tab tab_ok fns fns_ok [.tmp 2] Tryz.func51 rfl rfl rfl rfl ?_
  repeat' (first | (refine gJ ?_; first | refine js rfl rfl rfl rfl ?_ | refine jar rfl rfl rfl rfl rfl rfl rfl (by omega) ?_ | (refine gF ?_; refine j_make0 rfl rfl rfl rfl rfl rfl rfl rfl rfl ⟨by omega, by omega⟩ ?_; intro b1) | (refine gF ?_; refine j_appendS (cs := l.flatMap sdC) (n := 0) (A := A) (k := n) (c := c) rfl rfl rfl rfl rfl rfl rfl rfl rfl rfl rfl (fun w' hs => hre w' (h.st hs)) (by (repeat constructor)) (by omega) (fun _ => by (repeat constructor)) ?_; intro v9) | (refine j_qe rfl rfl rfl ?_; refine ⟨_, q_len_slice rfl rfl rfl rfl, ?_⟩)) | (refine gSC ?_; first | refine sc_mv rfl ?_ | refine sc_region ?_) | (refine gSQ ?_; refine sq_go rfl ?_) | refine j_nil ?_)
  refine sc_loop (ι := Nat × Value) (fun i => i.1 ≤ 12) (fun i => 12 - i.1) (fun i => [(0, .slice A n c), (3, i.2), (4, .int .i64 i.1)]) (fun i => [.own i.2 43 4 (n + i.1) ((l ++ mksT 1 i.1).flatMap sdC)]) (0, v9) (Nat.zero_le _) (by repeat (first | exact FSub.nil | refine FSub.cons rfl ?_ | refine FSub.conse rfl (by congr 1; omega) ?_)) ?_ ?_
  · dsimp only
    rw [show mksT 1 0 = [] from rfl, List.append_nil, Nat.add_zero]
    have e1 : HA.own v9 43 4 (0 + n) ([] ++ l.flatMap sdC) = .own v9 43 4 n (l.flatMap sdC) := by rw [Nat.zero_add, List.nil_append]
    rw [← e1]
    exact (by repeat (first | exact LSub.nil | refine LSub.cons (by repeat (first | exact Rem.here | apply Rem.there)) ?_))
  rintro ⟨i, v0⟩ hi
  dsimp only at hi ⊢
  by_cases hlt : i < 12
  · have e1 : (l ++ mksT 1 i).flatMap sdC ++ sdC (mkT 1 i) = (l ++ mksT 1 (i + 1)).flatMap sdC := by
      simp only [mksT]
      rw [← List.append_assoc, List.flatMap_append (xs := l ++ mksT 1 i)]
      simp
    repeat' (first | (refine gJ ?_; first | refine js rfl rfl rfl rfl ?_ | refine jar rfl rfl rfl rfl rfl rfl rfl (by omega) ?_ | (refine gcall rfl rfl ?_; (refine j_qc (f := 80) rfl rfl rfl rfl rfl rfl rfl ?_; refine ⟨_, (fun w' _ => markT_c 1 i w' (by omega) (by omega)), ?_⟩)) | (refine gF ?_; refine j_append (xs := (l ++ mksT 1 i).flatMap sdC) rfl rfl rfl rfl rfl rfl rfl rfl rfl rfl rfl (by (repeat constructor)) (by (repeat constructor)) (by rfl) (by rfl) (by omega) (fun _ => by (repeat constructor)) ?_; intro v) | (refine gF ?_; (refine j_buildSlice rfl rfl rfl rfl rfl rfl rfl rfl rfl rfl rfl rfl ?_; intro b))) | (refine gSC ?_; first | refine sc_mv rfl ?_ | refine sc_q rfl ?_ | refine sc_region ?_) | (refine gSQ ?_; first | refine sq_go rfl ?_ | refine sq_mv rfl ?_) | refine j_nil ?_ | ((refine sc_cond rfl ?_ ?_) <;> intro hc <;> (((try simp only [engHC] at hc) <;> first | (exfalso; omega) | skip))))
    refine sq_loop (i + 1, v) (by show i + 1 ≤ 12; omega) (by show 12 - (i + 1) < 12 - i; omega) (by repeat (first | exact FSub.nil | refine FSub.cons rfl ?_ | refine FSub.conse rfl (by congr 1; omega) ?_)) ?_
    dsimp only
    rw [← e1]
    exact (by repeat (first | exact LSub.refl | refine LSub.cons (by repeat (first | exact Rem.here | apply Rem.there)) ?_ | apply LSub.skip))
  · obtain rfl : i = 12 := by omega
    refine sc_ownq (v := v0) (by (repeat constructor)) (by omega) ?_
    rintro ad c2 rfl hc2
    repeat' (first | (refine gJ ?_; first | refine js rfl rfl rfl rfl ?_ | (refine j_qe rfl rfl rfl ?_; refine ⟨_, q_sliceHi n rfl rfl rfl rfl rfl (by omega), ?_⟩) | (refine j_qe rfl rfl rfl ?_; refine ⟨_, q_len_slice rfl rfl rfl rfl, ?_⟩)) | (refine gSC ?_; first | refine sc_mv rfl ?_ | refine sc_q rfl ?_ | refine sc_region ?_) | (refine gSQ ?_; first | refine sq_go rfl ?_ | refine sq_mv rfl ?_ | refine sq_ende (by first | exact .inl rfl | exact .inr rfl) rfl rfl ⟨_, (RVs.cons (RV.tmp rfl) (RVs.nil)), ?_⟩) | refine j_nil ?_ | ((refine sc_cond rfl ?_ ?_) <;> intro hc <;> (first | exact absurd hc (by decide) | ((try simp only [engHC] at hc) <;> skip))))
    intro w' hS
    exact ⟨(ad, c2), hc2, rfl, hS⟩
theorem keptT_c (ad : Addr) (c2 : Nat) (A : Option Addr) (c : Nat) (l : List Sd) (w : World) (hl : l.length ≤ 2000) (hc : l.length + 12 ≤ c2) (hL : RS w 4 sdC (some ad) (l ++ mksT 1 12)) (h : RS w 4 sdC A l) :
    Calls Tryz.prog 54 #[.slice (some ad) l.length c2, .slice A l.length c] w fun e w' => e = .returned (.bool true) ∧ Below w.heap.size w w' := by
  have hg : ∀ k, k < l.length → (l ++ mksT 1 12)[k]? = l[k]? := fun k hk => List.getElem?_append_left hk
  have hm : ∀ k, l.length ≤ k → k < l.length + 12 → (l ++ mksT 1 12)[k]? = some (mkT 1 ((k - l.length : Nat) : Int)) := fun k h1 h2 => by rw [List.getElem?_append_right h1]; exact mksT_get _ _ _ (by omega)
  obtain ⟨n, hn⟩ : ∃ n, l.length = n := ⟨_, rfl⟩
  rw [hn] at hl hc hg hm ⊢
  refine eng_start (n := 58) (args := [.slice (some ad) n c2, .slice A n c]) tab tab_ok fns fns_ok [.tmp 4] Tryz.func54 rfl rfl rfl rfl ?_
  repeat' (first | (refine gJ ?_; first | refine js rfl rfl rfl rfl ?_ | refine jar rfl rfl rfl rfl rfl rfl rfl (by omega) ?_ | (refine j_qe rfl rfl rfl ?_; refine ⟨_, q_sliceHi (n + 12) rfl rfl rfl rfl rfl (by omega), ?_⟩) | (refine j_qe rfl rfl rfl ?_; refine ⟨_, q_len_slice rfl rfl rfl rfl, ?_⟩)) | (refine gSC ?_; first | refine sc_mv rfl ?_ | refine sc_q rfl ?_ | refine sc_region ?_) | (refine gSQ ?_; refine sq_go rfl ?_) | refine j_nil ?_ | ((refine sc_cond rfl ?_ ?_) <;> intro hc <;> (((try simp only [engHC] at hc) <;> first | exact absurd trivial hc | skip))))
  refine sc_loop (ι := Nat) (fun k => k ≤ n + 12) (fun k => n + 12 - k) (fun k => [(1, .slice A n c), (5, .slice (some ad) (n + 12) c2), (6, .int .i64 k)]) (fun _ => []) 0 (Nat.zero_le _) (by repeat (first | exact FSub.nil | refine FSub.cons rfl ?_ | refine FSub.conse rfl (by congr 1; omega) ?_)) (by repeat (first | exact LSub.nil | refine LSub.cons (by repeat (first | exact Rem.here | apply Rem.there)) ?_)) ?_
  intro k hk
  by_cases hlt : k < n
  · obtain ⟨x, hx⟩ : ∃ x, l[k]? = some x := ⟨_, List.getElem?_eq_getElem (by omega)⟩
    obtain ⟨ad1, e1, hX⟩ := hL k x (by rw [hg k hlt]; exact hx)
    obtain rfl : ad = ad1 := by injection e1
    obtain ⟨ad2, rfl, hY⟩ := h k x hx
    repeat' (first | (refine gJ ?_; first | refine js rfl rfl rfl rfl ?_ | (refine gload rfl rfl ?_; refine j_qe rfl rfl rfl ?_; refine ⟨_, q_loadA_ext rfl rfl rfl rfl ⟨by assumption, (by first | exact id | assumption)⟩ (by rfl), ?_⟩) | refine jar rfl rfl rfl rfl rfl rfl rfl (by omega) ?_ | (refine j_qe rfl rfl rfl ?_; refine ⟨_, q_eqS rfl eqm43 rfl rfl (eq43r x), ?_⟩) | (refine j_qe rfl rfl rfl ?_; first | refine ⟨_, q_index_nat rfl rfl rfl rfl rfl (by omega), ?_⟩ | refine ⟨_, q_len_slice rfl rfl rfl rfl, ?_⟩)) | (refine gSC ?_; first | refine sc_mv rfl ?_ | refine sc_q rfl ?_ | refine sc_region ?_ | refine sc_draw rfl mixed (by kernel_rfl) ?_) | (refine gSQ ?_; first | refine sq_go rfl ?_ | refine sq_mv rfl ?_) | refine j_nil ?_ | ((first | refine j_guard rfl rfl rfl rfl rfl ?_ ?_ | refine sc_cond rfl ?_ ?_) <;> intro hc <;> (first | exact absurd hc (by decide) | ((try simp only [engHC] at hc) <;> first | (exfalso; omega) | skip))))
    exact sq_loop (k + 1) (by omega) (by omega) (by repeat (first | exact FSub.nil | refine FSub.cons rfl ?_ | refine FSub.conse rfl (by congr 1; omega) ?_)) (by repeat (first | exact LSub.nil | refine LSub.cons (by repeat (first | exact Rem.here | apply Rem.there)) ?_))
  · by_cases hlt2 : k < n + 12
    · obtain ⟨j, rfl⟩ : ∃ j, k = n + j := ⟨k - n, by omega⟩
      have hmk := hm (n + j) (by omega) hlt2
      rw [Nat.add_sub_cancel_left] at hmk
      obtain ⟨ad1, e1, hX⟩ := hL (n + j) _ hmk
      obtain rfl : ad = ad1 := by injection e1
      have hmc := fun w' => markT_c 1 j w' (by omega) (by omega)
      have ej : (((n + j : Nat) : Int) - (n : Int)) = (j : Int) := by omega
      rw [← ej] at hmc
      rw [← ej] at hX
      repeat' (first | (refine gJ ?_; first | refine js rfl rfl rfl rfl ?_ | (refine gload rfl rfl ?_; refine j_qe rfl rfl rfl ?_; refine ⟨_, q_loadA_ext rfl rfl rfl rfl ⟨by assumption, (by first | exact id | assumption)⟩ (by rfl), ?_⟩) | refine jar rfl rfl rfl rfl rfl rfl rfl (by omega) ?_ | (refine gcall rfl rfl ?_; (refine j_qc (f := 80) rfl rfl rfl rfl rfl rfl rfl ?_; refine ⟨_, (fun w' _ => hmc w'), ?_⟩)) | (refine j_qe rfl rfl rfl ?_; refine ⟨_, q_eqS rfl eqm43 rfl rfl (eq43r (mkT 1 (((n + j : Nat) : Int) - (n : Int)))), ?_⟩) | (refine j_qe rfl rfl rfl ?_; first | refine ⟨_, q_index_nat rfl rfl rfl rfl rfl (by omega), ?_⟩ | refine ⟨_, q_len_slice rfl rfl rfl rfl, ?_⟩)) | (refine gSC ?_; first | refine sc_mv rfl ?_ | refine sc_q rfl ?_ | refine sc_region ?_ | refine sc_draw rfl mixed (by kernel_rfl) ?_) | (refine gSQ ?_; first | refine sq_go rfl ?_ | refine sq_mv rfl ?_) | refine j_nil ?_ | ((first | refine j_guard rfl rfl rfl rfl rfl ?_ ?_ | refine sc_cond rfl ?_ ?_) <;> intro hc <;> (first | exact absurd hc (by decide) | ((try simp only [engHC] at hc) <;> first | (exfalso; omega) | skip))))
      exact sq_loop (n + j + 1) (by omega) (by omega) (by repeat (first | exact FSub.nil | refine FSub.cons rfl ?_ | refine FSub.conse rfl (by congr 1; omega) ?_)) (by repeat (first | exact LSub.nil | refine LSub.cons (by repeat (first | exact Rem.here | apply Rem.there)) ?_))
    · repeat' (first | (refine gJ ?_; first | refine js rfl rfl rfl rfl ?_ | (refine j_qe rfl rfl rfl ?_; refine ⟨_, q_len_slice rfl rfl rfl rfl, ?_⟩)) | (refine gSC ?_; first | refine sc_mv rfl ?_ | refine sc_q rfl ?_ | refine sc_region ?_) | (refine gSQ ?_; first | refine sq_go rfl ?_ | refine sq_mv rfl ?_ | refine sq_ende (by first | exact .inl rfl | exact .inr rfl) rfl rfl ⟨_, (RVs.cons (RV.tmp rfl) (RVs.nil)), ?_⟩) | refine j_nil ?_ | ((refine sc_cond rfl ?_ ?_) <;> intro hc <;> (((try simp only [engHC] at hc) <;> first | (exfalso; omega) | skip))))
      (intro w' hS; refine ⟨?_, hS.below⟩; simp only [pack])
end Go.Proofs.YtmakokbpadmfbaaGreat

/-
  ServiceTells.
-/
namespace Go.Proofs.YtmakokbpadmfbaaGreat
open Go.RowKit Eng
set_option linter.unusedVariables false
set_option linter.unusedSimpArgs false
set_option maxHeartbeats 8000000
attribute [local irreducible] SC SQ J Qt Calls Iterates LSub FSub
theorem few_c (A : Option Addr) (n c : Nat) (B : Option Addr) (m bc : Nat) (w : World) : Calls Tryz.prog 50 #[.slice A n c, .slice B m bc] w fun e w' => e = .returned (.bool (decide (n ≤ 510 ∧ m ≤ 25))) ∧ Below w.heap.size w w' := by
  refine eng_start (n := 13) (args := [.slice A n c, .slice B m bc]) tab tab_ok fns fns_ok [.tmp 4] Tryz.func50 rfl rfl rfl rfl ?_
  repeat' (first | (refine gJ ?_; first | refine js rfl rfl rfl rfl ?_ | (refine j_qe rfl rfl rfl ?_; refine ⟨_, q_len_slice rfl rfl rfl rfl, ?_⟩)) | (refine gSC ?_; first | refine sc_mv rfl ?_ | refine sc_q rfl ?_ | refine sc_region ?_) | (refine gSQ ?_; first | refine sq_go rfl ?_ | refine sq_ende (by first | exact .inl rfl | exact .inr rfl) rfl rfl ⟨_, (RVs.cons (RV.tmp rfl) (RVs.nil)), ?_⟩) | refine j_nil ?_ | ((refine j_guard rfl rfl rfl rfl rfl ?_ ?_) <;> intro hc <;> (first | exact absurd hc (by decide) | ((try simp only [engHC] at hc) <;> skip))))
  all_goals ((intro w' hS; refine ⟨?_, hS.below⟩; simp only [pack]); exact rb (by symm; first | (rw [decide_eq_true_eq]; omega) | (rw [decide_eq_false_iff_not]; omega) | (rw [decide_eq_decide]; omega)))
theorem tells_c (A : Option Addr) (c : Nat) (l : List Sd) (x : Sn) (now le gr t : Int) (w : World) (hl : l.length ≤ 9223372036854775807) (hsl : Sl A l.length c) (hR : RS w 4 sdC A l) (hok : ∀ y ∈ l, sdOk y) (hx : snOk x) :
    Calls Tryz.prog 24 #[.slice A l.length c, snV x, .int .i64 now, .int .i64 le, .int .i64 gr, .int .i64 t] w fun e w' => e = .returned (.bool true) ∧ Below w.heap.size w w' := by
  have hfew := fun w' => few_c A l.length c none 0 0 w'
  have hcl : ∀ y ∈ l, 0 ≤ y.cl := fun y hy => (hok y hy).1.1
  have hxc : 0 ≤ x.cl := hx.2.1.1
  have hac : -9223372036854775808 ≤ x.ac ∧ x.ac ≤ 9223372036854775807 := hx.2.2.2.2.1
  obtain ⟨n, hn⟩ : ∃ n, n = l.length := ⟨_, rfl⟩
  by_cases hb : l.length ≤ 510
  · rw [decide_eq_true ⟨hb, by omega⟩] at hfew
    have hlent := fun w' h => lentT_c A c l w' (by omega) hsl h
    have hkept := fun ad c2 w' hc hL h => keptT_c ad c2 A c l w' (by omega) hc hL h
    have hJ := fun A1 c1 w' h => Judge_c A1 c1 l x now w' hl hac h
    have hJr := fun w' h => rJudge_c A c l x now w' hl hcl hxc hac h
    have hV := fun w' => Verdict_c ⟨0, 0, 0, 0, 0, 0, 0, le, gr⟩ t w'
    have hVr := fun w' => rVerd_c ⟨0, 0, 0, 0, 0, 0, 0, le, gr⟩ t w'
    generalize judF l x now = j at *
    generalize verF ⟨0, 0, 0, 0, 0, 0, 0, le, gr⟩ t = v9 at *
    have htk : (l ++ mksT 1 12).take n = l := by rw [hn]; simp
    have hln : (l ++ mksT 1 12).length = n + 12 := by rw [List.length_append, mksT_len, hn]
    generalize hL : l ++ mksT 1 12 = lx at *
    rw [← hn] at hfew hlent hkept hJ hJr ⊢
    refine eng_start (n := 80) (args := [.slice A n c, snV x, .int .i64 now, .int .i64 le, .int .i64 gr, .int .i64 t]) tab tab_ok fns fns_ok [.tmp 12] Tryz.func24 rfl rfl rfl rfl ?_
    repeat' (first | (refine gJ ?_; first | refine js rfl rfl rfl rfl ?_ | (refine gload rfl rfl ?_; refine j_qe rfl rfl rfl ?_; refine ⟨_, q_loadA_own rfl rfl rfl rfl (by (repeat constructor)) (by rfl), ?_⟩) | (refine gcall rfl rfl ?_; first | (refine j_qc (f := 50) rfl rfl rfl rfl rfl rfl rfl ?_; refine ⟨_, (fun w' _ => hfew w'), ?_⟩) | (refine j_qc (f := 21) rfl rfl rfl rfl rfl rfl rfl ?_; refine ⟨_, (fun w' hs => hJ (some a1) c1 w' (htk ▸ RS.take (rs_own (f := sdC) (l := lx) (fun _ => rfl) hs (by (repeat constructor)) hln.symm rfl) n)), ?_⟩) | (refine j_qc (f := 52) rfl rfl rfl rfl rfl rfl rfl ?_; refine ⟨_, (fun w' hs => hJr w' (hR.st hs)), ?_⟩) | (refine j_qc (f := 23) rfl rfl rfl rfl rfl rfl rfl ?_; refine ⟨_, (fun w' _ => hV w'), ?_⟩) | (refine j_qc (f := 53) rfl rfl rfl rfl rfl rfl rfl ?_; refine ⟨_, (fun w' _ => hVr w'), ?_⟩) | (refine j_qc (f := 54) rfl rfl rfl rfl rfl rfl rfl ?_; refine ⟨_, (fun w' hs => hkept a1 c1 w' hc1 (rs_own (f := sdC) (l := lx) (fun _ => rfl) hs (by (repeat constructor)) hln.symm rfl) (hR.st hs)), ?_⟩)) | (refine gcall rfl rfl ?_; refine gF ?_; refine j_callN (f := 51) rfl rfl rfl rfl rfl rfl rfl (fun p : Addr × Nat => .slice (some p.1) n p.2) (fun p => n + 12 ≤ p.2) (fun p => [.own (.slice (some p.1) (n + 12) p.2) 43 4 (n + 12) (lx.flatMap sdC)]) (fun w' hs => hlent w' (hR.st hs)) (fun _ => trivial) ?_; rintro ⟨a1, c1⟩ hc1) | (refine gF ?_; (refine j_box rfl rfl rfl rfl rfl ?_; intro b)) | (refine j_qe rfl rfl rfl ?_; refine ⟨_, q_build_struct rfl rfl rfl rfl rfl, ?_⟩)) | (refine gSC ?_; first | refine sc_mv rfl ?_ | refine sc_q rfl ?_ | refine sc_region ?_) | (refine gSQ ?_; first | refine sq_go rfl ?_ | refine sq_ende (by first | exact .inl rfl | exact .inr rfl) rfl rfl ⟨_, (RVs.cons (RV.tmp rfl) (RVs.nil)), ?_⟩) | refine j_nil ?_ | ((first | refine j_guard rfl rfl rfl rfl rfl ?_ ?_ | refine sc_cond rfl ?_ ?_) <;> intro hc <;> (first | exact absurd hc (by decide) | ((try simp only [engHC] at hc) <;> first | exact absurd trivial hc | skip))))
    all_goals (intro w' hS; refine ⟨?_, hS.below⟩; simp only [pack])
  · rw [decide_eq_false (fun h => hb h.1)] at hfew
    rw [← hn] at hfew ⊢
    refine eng_start (n := 80) (args := [.slice A n c, snV x, .int .i64 now, .int .i64 le, .int .i64 gr, .int .i64 t]) tab tab_ok fns fns_ok [.tmp 12] Tryz.func24 rfl rfl rfl rfl ?_
    repeat' (first | (refine gJ ?_; first | refine js rfl rfl rfl rfl ?_ | (refine gcall rfl rfl ?_; (refine j_qc (f := 50) rfl rfl rfl rfl rfl rfl rfl ?_; refine ⟨_, (fun w' _ => hfew w'), ?_⟩)) | (refine gF ?_; (refine j_box rfl rfl rfl rfl rfl ?_; intro b))) | (refine gSC ?_; first | refine sc_mv rfl ?_ | refine sc_q rfl ?_ | refine sc_region ?_) | (refine gSQ ?_; first | refine sq_go rfl ?_ | refine sq_mv rfl ?_ | refine sq_ende (by first | exact .inl rfl | exact .inr rfl) rfl rfl ⟨_, (RVs.cons (RV.tmp rfl) (RVs.nil)), ?_⟩) | refine j_nil ?_ | ((refine sc_cond rfl ?_ ?_) <;> intro hc <;> (first | exact absurd hc (by decide) | ((try simp only [engHC] at hc) <;> skip))))
    (intro w' hS; refine ⟨?_, hS.below⟩; simp only [pack])
theorem Tells_c (A : Option Addr) (c : Nat) (l : List Sd) (x : Sn) (now le gr t : Int) (w : World) (hsl : Sl A l.length c) (hR : RS w 4 sdC A l) (hok : ∀ y ∈ l, sdOk y) (hx : snOk x) :
    Calls Tryz.prog 5 #[.slice A l.length c, snV x, .int .i64 now, .int .i64 le, .int .i64 gr, .int .i64 t] w fun e w' => e = .returned (.bool true) ∧ Below w.heap.size w w' := by
  have h := fun w' h => tells_c A c l x now le gr t w' (by have := hsl.le; have := hsl.top; omega) hsl h hok hx
  generalize l.length = n at *
  refine eng_start (n := 23) (args := [.slice A n c, snV x, .int .i64 now, .int .i64 le, .int .i64 gr, .int .i64 t]) tab tab_ok fns fns_ok [.tmp 12] Tryz.func5 rfl rfl rfl rfl ?_
  repeat' (first | (refine gJ ?_; first | refine js rfl rfl rfl rfl ?_ | (refine gload rfl rfl ?_; refine j_qe rfl rfl rfl ?_; refine ⟨_, q_loadA_own rfl rfl rfl rfl (by (repeat constructor)) (by rfl), ?_⟩) | (refine gcall rfl rfl ?_; first | (refine j_qc (f := 13) rfl rfl rfl rfl rfl rfl rfl ?_; refine ⟨_, (fun w' _ => awake_c w'), ?_⟩) | (refine j_qc (f := 24) rfl rfl rfl rfl rfl rfl rfl ?_; refine ⟨_, (fun w' hs => h w' (hR.st hs)), ?_⟩)) | (refine gF ?_; (refine j_box rfl rfl rfl rfl rfl ?_; intro b))) | (refine gSC ?_; first | refine sc_mv rfl ?_ | refine sc_q rfl ?_ | refine sc_region ?_) | (refine gSQ ?_; first | refine sq_go rfl ?_ | refine sq_ende (by first | exact .inl rfl | exact .inr rfl) rfl rfl ⟨_, (RVs.cons (RV.tmp rfl) (RVs.nil)), ?_⟩) | refine j_nil ?_ | ((refine j_guard rfl rfl rfl rfl rfl ?_ ?_) <;> intro hc <;> (first | exact absurd hc (by decide) | ((try simp only [engHC] at hc) <;> skip))))
  all_goals (intro w' hS; refine ⟨?_, hS.below⟩; simp only [pack])
end Go.Proofs.YtmakokbpadmfbaaGreat
