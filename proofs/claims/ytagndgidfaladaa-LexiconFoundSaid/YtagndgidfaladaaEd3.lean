/-
  edit: Distance, Within.
-/
import Derived.Test.YtagndgidfaladaaEd2
namespace Go.Proofs.Ytagndgidfaladaa
open Go.RowKit Eng
set_option linter.unusedVariables false
set_option linter.unusedSimpArgs false
set_option maxHeartbeats 8000000
attribute [local irreducible] SC SQ J Qt Calls Iterates LSub FSub
def dsE (a b : List UInt8) (c : Cs) : Int := if ckE a b c = 0 then dist c a b else 0
set_option maxRecDepth 4000 in
theorem Distance_c (a t : List UInt8) (c : Cs) (w : World) : Calls Try.prog 13 #[strV a, strV t, csV c] w fun e w' => e = .returned (.tuple #[.int .i64 (dsE a t c), .int .i64 (ckE a t c)]) ∧ Below w.heap.size w w' := by
  have hk := fun w' => checked_c a t c w'
  by_cases h0 : ckE a t c = 0
  · have hc9 : csOk c := by
      unfold ckE at h0
      split at h0
      · assumption
      · omega
    have hl : a.length ≤ 60 ∧ t.length ≤ 60 := by
      unfold ckE at h0
      rw [if_pos hc9] at h0
      split at h0
      · omega
      · omega
    have hd : dsE a t c = dist c a t := if_pos h0
    rw [hd]
    rw [h0] at hk ⊢
    refine eng_start (n := 23) (args := [strV a, strV t, csV c]) tab tab_ok fns fns_ok [.tmp 6, .tmp 7] Try.func13 rfl rfl rfl rfl ?_
    repeat' (first | (refine gJ ?_; first | refine js rfl rfl rfl rfl ?_ | (refine gload rfl rfl ?_; refine j_qe rfl rfl rfl ?_; first | refine ⟨_, q_load_own rfl rfl rfl rfl (by (repeat constructor)) (by first | rfl | assumption), ?_⟩ | refine ⟨_, q_loadA_own rfl rfl rfl rfl (by (repeat constructor)) (by rfl), ?_⟩ | refine ⟨_, q_loadA_ext rfl rfl rfl rfl ⟨by assumption, (by first | exact id | assumption)⟩ (by rfl), ?_⟩ | refine ⟨_, q_load_ext rfl rfl rfl rfl ⟨by assumption, (by first | exact id | assumption)⟩ (by first | rfl | assumption), ?_⟩ | refine ⟨_, q_load_extb rfl rfl rfl rfl ⟨by assumption, (by first | exact id | assumption)⟩ (by rfl), ?_⟩ | refine ⟨_, q_loadA_extb rfl rfl rfl rfl ⟨by assumption, (by first | exact id | assumption)⟩ (by rfl), ?_⟩ | refine ⟨_, q_load_ext0 rfl rfl rfl rfl ⟨by assumption, (by first | exact id | assumption)⟩ (by rfl), ?_⟩) | (refine gcall rfl rfl ?_; first | (refine j_qc (f := 31) rfl rfl rfl rfl rfl rfl rfl ?_; refine ⟨_, (fun w' _ => hk w'), ?_⟩)) | (refine gF ?_; refine j_alloc (t := 3) rfl rfl rfl rfl rfl ?_; intro b9) | (refine gcall rfl rfl ?_; refine gF ?_; refine j_call (f := 32) (ξ := Unit) (fun _ => .tuple #[]) (fun _ => True) _ rfl rfl rfl rfl rfl rfl rfl (fun w' hs => eachRow_c a t c hc9 hl.1 hl.2 b9 0 hs (by (repeat constructor)) (by (repeat constructor))) ?_; intro _ _) | (refine gF ?_; first | refine j_store rfl rfl rfl rfl rfl rfl rfl rfl (by (repeat constructor)) (by rfl) ?_ | (refine j_alloc rfl rfl rfl rfl rfl ?_; intro b) | (refine j_box rfl rfl rfl rfl rfl ?_; intro b)) | (refine j_qe rfl rfl rfl ?_; first | refine ⟨_, q_makeFunc rfl rfl, ?_⟩)) | (refine gSC ?_; first | refine sc_mv rfl ?_ | refine sc_q rfl ?_ | refine sc_region ?_) | (refine gSQ ?_; first | refine sq_go rfl ?_ | refine sq_mv rfl ?_ | refine sq_ende (by first | exact .inl rfl | exact .inr rfl) rfl rfl ⟨_, (RVs.cons (RV.tmp rfl) (RVs.cons (RV.tmp rfl) (RVs.nil))), ?_⟩) | refine j_nil ?_ | ((refine sc_cond rfl ?_ ?_) <;> intro hc <;> (first | exact absurd hc (by decide) | ((try simp only [engHC] at hc) <;> first | (exfalso; omega) | exact absurd trivial hc | skip))))
    all_goals first
      | (exfalso; omega)
      | (intro w' hS; refine ⟨?_, hS.below⟩; simp only [pack])
  · have hd : dsE a t c = 0 := if_neg h0
    rw [hd]
    refine eng_start (n := 23) (args := [strV a, strV t, csV c]) tab tab_ok fns fns_ok [.tmp 6, .tmp 7] Try.func13 rfl rfl rfl rfl ?_
    repeat' (first | (refine gJ ?_; first | refine js rfl rfl rfl rfl ?_ | (refine gload rfl rfl ?_; refine j_qe rfl rfl rfl ?_; first | refine ⟨_, q_load_own rfl rfl rfl rfl (by (repeat constructor)) (by first | rfl | assumption), ?_⟩ | refine ⟨_, q_loadA_own rfl rfl rfl rfl (by (repeat constructor)) (by rfl), ?_⟩ | refine ⟨_, q_loadA_ext rfl rfl rfl rfl ⟨by assumption, (by first | exact id | assumption)⟩ (by rfl), ?_⟩ | refine ⟨_, q_load_ext rfl rfl rfl rfl ⟨by assumption, (by first | exact id | assumption)⟩ (by first | rfl | assumption), ?_⟩ | refine ⟨_, q_load_extb rfl rfl rfl rfl ⟨by assumption, (by first | exact id | assumption)⟩ (by rfl), ?_⟩ | refine ⟨_, q_loadA_extb rfl rfl rfl rfl ⟨by assumption, (by first | exact id | assumption)⟩ (by rfl), ?_⟩ | refine ⟨_, q_load_ext0 rfl rfl rfl rfl ⟨by assumption, (by first | exact id | assumption)⟩ (by rfl), ?_⟩) | (refine gcall rfl rfl ?_; first | (refine j_qc (f := 31) rfl rfl rfl rfl rfl rfl rfl ?_; refine ⟨_, (fun w' _ => hk w'), ?_⟩)) | (refine gF ?_; first | refine j_store rfl rfl rfl rfl rfl rfl rfl rfl (by (repeat constructor)) (by rfl) ?_ | (refine j_alloc rfl rfl rfl rfl rfl ?_; intro b) | (refine j_box rfl rfl rfl rfl rfl ?_; intro b)) | (refine j_qe rfl rfl rfl ?_; first | refine ⟨_, q_makeFunc rfl rfl, ?_⟩)) | (refine gSC ?_; first | refine sc_mv rfl ?_ | refine sc_q rfl ?_ | refine sc_region ?_) | (refine gSQ ?_; first | refine sq_go rfl ?_ | refine sq_mv rfl ?_ | refine sq_ende (by first | exact .inl rfl | exact .inr rfl) rfl rfl ⟨_, (RVs.cons (RV.tmp rfl) (RVs.cons (RV.tmp rfl) (RVs.nil))), ?_⟩) | refine j_nil ?_ | ((refine sc_cond rfl ?_ ?_) <;> intro hc <;> (first | exact absurd hc (by decide) | ((try simp only [engHC] at hc) <;> first | (exfalso; omega) | exact absurd trivial hc | skip))))
    all_goals first
      | (exfalso; omega)
      | (intro w' hS; refine ⟨?_, hS.below⟩; simp only [pack])
def wiB (a t : List UInt8) (c : Cs) (m : Int) : Bool := decide (ckE a t c = 0 ∧ dist c a t ≤ m)
set_option maxRecDepth 4000 in
theorem Within_c (a t : List UInt8) (c : Cs) (m : Int) (w : World) : Calls Try.prog 42 #[strV a, strV t, csV c, .int .i64 m] w fun e w' => e = .returned (.tuple #[.int .i64 (if wiB a t c m = true then dist c a t else 0), .bool (wiB a t c m), .int .i64 (ckE a t c)]) ∧ Below w.heap.size w w' := by
  have hk := fun w' => Distance_c a t c w'
  by_cases h0 : ckE a t c = 0
  · have hd : dsE a t c = dist c a t := if_pos h0
    have hb : wiB a t c m = decide (dist c a t ≤ m) := by unfold wiB; rw [decide_eq_decide]; omega
    rw [hb]
    rw [hd, h0] at hk
    rw [h0]
    generalize dist c a t = d at *
    by_cases hm : d ≤ m
    · rw [decide_eq_true hm]
      refine eng_start (n := 29) (args := [strV a, strV t, csV c, .int .i64 m]) tab tab_ok fns fns_ok [.tmp 8, .tmp 9, .tmp 10] Try.func42 rfl rfl rfl rfl ?_
      repeat' (first | (refine gJ ?_; first | refine js rfl rfl rfl rfl ?_ | (refine gload rfl rfl ?_; refine j_qe rfl rfl rfl ?_; first | refine ⟨_, q_load_own rfl rfl rfl rfl (by (repeat constructor)) (by first | rfl | assumption), ?_⟩ | refine ⟨_, q_loadA_own rfl rfl rfl rfl (by (repeat constructor)) (by rfl), ?_⟩ | refine ⟨_, q_loadA_ext rfl rfl rfl rfl ⟨by assumption, (by first | exact id | assumption)⟩ (by rfl), ?_⟩ | refine ⟨_, q_load_ext rfl rfl rfl rfl ⟨by assumption, (by first | exact id | assumption)⟩ (by first | rfl | assumption), ?_⟩ | refine ⟨_, q_load_extb rfl rfl rfl rfl ⟨by assumption, (by first | exact id | assumption)⟩ (by rfl), ?_⟩ | refine ⟨_, q_loadA_extb rfl rfl rfl rfl ⟨by assumption, (by first | exact id | assumption)⟩ (by rfl), ?_⟩ | refine ⟨_, q_load_ext0 rfl rfl rfl rfl ⟨by assumption, (by first | exact id | assumption)⟩ (by rfl), ?_⟩) | (refine gcall rfl rfl ?_; first | (refine j_qc (f := 13) rfl rfl rfl rfl rfl rfl rfl ?_; refine ⟨_, (fun w' _ => hk w'), ?_⟩)) | (refine gF ?_; first | (refine j_box rfl rfl rfl rfl rfl ?_; intro b)) | refine j_guard_undef rfl rfl rfl rfl rfl ?_) | (refine gSC ?_; first | refine sc_mv rfl ?_ | refine sc_q rfl ?_ | refine sc_region ?_) | (refine gSQ ?_; first | refine sq_go rfl ?_ | refine sq_mv rfl ?_ | refine sq_ende (by first | exact .inl rfl | exact .inr rfl) rfl rfl ⟨_, (RVs.cons (RV.tmp rfl) (RVs.cons (RV.tmp rfl) (RVs.cons (RV.tmp rfl) (RVs.nil)))), ?_⟩) | refine j_nil ?_ | ((first | refine j_guard rfl rfl rfl rfl rfl ?_ ?_ | refine sc_cond rfl ?_ ?_) <;> intro hc <;> (first | exact absurd hc (by decide) | ((try simp only [engHC] at hc) <;> first | (exfalso; omega) | exact absurd trivial hc | skip))))
      all_goals first
        | (exfalso; omega)
        | ((intro w' hS; refine ⟨?_, hS.below⟩; simp only [pack]); simp)
    · rw [decide_eq_false hm]
      refine eng_start (n := 29) (args := [strV a, strV t, csV c, .int .i64 m]) tab tab_ok fns fns_ok [.tmp 8, .tmp 9, .tmp 10] Try.func42 rfl rfl rfl rfl ?_
      repeat' (first | (refine gJ ?_; first | refine js rfl rfl rfl rfl ?_ | (refine gload rfl rfl ?_; refine j_qe rfl rfl rfl ?_; first | refine ⟨_, q_load_own rfl rfl rfl rfl (by (repeat constructor)) (by first | rfl | assumption), ?_⟩ | refine ⟨_, q_loadA_own rfl rfl rfl rfl (by (repeat constructor)) (by rfl), ?_⟩ | refine ⟨_, q_loadA_ext rfl rfl rfl rfl ⟨by assumption, (by first | exact id | assumption)⟩ (by rfl), ?_⟩ | refine ⟨_, q_load_ext rfl rfl rfl rfl ⟨by assumption, (by first | exact id | assumption)⟩ (by first | rfl | assumption), ?_⟩ | refine ⟨_, q_load_extb rfl rfl rfl rfl ⟨by assumption, (by first | exact id | assumption)⟩ (by rfl), ?_⟩ | refine ⟨_, q_loadA_extb rfl rfl rfl rfl ⟨by assumption, (by first | exact id | assumption)⟩ (by rfl), ?_⟩ | refine ⟨_, q_load_ext0 rfl rfl rfl rfl ⟨by assumption, (by first | exact id | assumption)⟩ (by rfl), ?_⟩) | (refine gcall rfl rfl ?_; first | (refine j_qc (f := 13) rfl rfl rfl rfl rfl rfl rfl ?_; refine ⟨_, (fun w' _ => hk w'), ?_⟩)) | (refine gF ?_; first | (refine j_box rfl rfl rfl rfl rfl ?_; intro b)) | refine j_guard_undef rfl rfl rfl rfl rfl ?_) | (refine gSC ?_; first | refine sc_mv rfl ?_ | refine sc_q rfl ?_ | refine sc_region ?_) | (refine gSQ ?_; first | refine sq_go rfl ?_ | refine sq_mv rfl ?_ | refine sq_ende (by first | exact .inl rfl | exact .inr rfl) rfl rfl ⟨_, (RVs.cons (RV.tmp rfl) (RVs.cons (RV.tmp rfl) (RVs.cons (RV.tmp rfl) (RVs.nil)))), ?_⟩) | refine j_nil ?_ | ((first | refine j_guard rfl rfl rfl rfl rfl ?_ ?_ | refine sc_cond rfl ?_ ?_) <;> intro hc <;> (first | exact absurd hc (by decide) | ((try simp only [engHC] at hc) <;> first | (exfalso; omega) | exact absurd trivial hc | skip))))
      all_goals first
        | (exfalso; omega)
        | ((intro w' hS; refine ⟨?_, hS.below⟩; simp only [pack]); simp)
  · have hb : wiB a t c m = false := decide_eq_false (fun h => h0 h.1)
    rw [hb]
    refine eng_start (n := 29) (args := [strV a, strV t, csV c, .int .i64 m]) tab tab_ok fns fns_ok [.tmp 8, .tmp 9, .tmp 10] Try.func42 rfl rfl rfl rfl ?_
    repeat' (first | (refine gJ ?_; first | refine js rfl rfl rfl rfl ?_ | (refine gload rfl rfl ?_; refine j_qe rfl rfl rfl ?_; first | refine ⟨_, q_load_own rfl rfl rfl rfl (by (repeat constructor)) (by first | rfl | assumption), ?_⟩ | refine ⟨_, q_loadA_own rfl rfl rfl rfl (by (repeat constructor)) (by rfl), ?_⟩ | refine ⟨_, q_loadA_ext rfl rfl rfl rfl ⟨by assumption, (by first | exact id | assumption)⟩ (by rfl), ?_⟩ | refine ⟨_, q_load_ext rfl rfl rfl rfl ⟨by assumption, (by first | exact id | assumption)⟩ (by first | rfl | assumption), ?_⟩ | refine ⟨_, q_load_extb rfl rfl rfl rfl ⟨by assumption, (by first | exact id | assumption)⟩ (by rfl), ?_⟩ | refine ⟨_, q_loadA_extb rfl rfl rfl rfl ⟨by assumption, (by first | exact id | assumption)⟩ (by rfl), ?_⟩ | refine ⟨_, q_load_ext0 rfl rfl rfl rfl ⟨by assumption, (by first | exact id | assumption)⟩ (by rfl), ?_⟩) | (refine gcall rfl rfl ?_; first | (refine j_qc (f := 13) rfl rfl rfl rfl rfl rfl rfl ?_; refine ⟨_, (fun w' _ => hk w'), ?_⟩)) | (refine gF ?_; first | (refine j_box rfl rfl rfl rfl rfl ?_; intro b)) | refine j_guard_undef rfl rfl rfl rfl rfl ?_) | (refine gSC ?_; first | refine sc_mv rfl ?_ | refine sc_q rfl ?_ | refine sc_region ?_) | (refine gSQ ?_; first | refine sq_go rfl ?_ | refine sq_mv rfl ?_ | refine sq_ende (by first | exact .inl rfl | exact .inr rfl) rfl rfl ⟨_, (RVs.cons (RV.tmp rfl) (RVs.cons (RV.tmp rfl) (RVs.cons (RV.tmp rfl) (RVs.nil)))), ?_⟩) | refine j_nil ?_ | ((first | refine j_guard rfl rfl rfl rfl rfl ?_ ?_ | refine sc_cond rfl ?_ ?_) <;> intro hc <;> (first | exact absurd hc (by decide) | ((try simp only [engHC] at hc) <;> first | (exfalso; omega) | exact absurd trivial hc | skip))))
    all_goals first
      | (exfalso; omega)
      | ((intro w' hS; refine ⟨?_, hS.below⟩; simp only [pack]); simp)
end Go.Proofs.Ytagndgidfaladaa
