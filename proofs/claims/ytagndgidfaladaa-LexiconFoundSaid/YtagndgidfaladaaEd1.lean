/-
  edit: Right, checked, swapped, least.
-/
import Derived.Test.YtagndgidfaladaaTab
import Derived.Test.YtagndgidfaladaaNw0
import Derived.Test.YtagndgidfaladaaEngCoreB
namespace Go.Proofs.Ytagndgidfaladaa
open Go.RowKit Eng
set_option linter.unusedVariables false
set_option linter.unusedSimpArgs false
set_option maxHeartbeats 8000000
attribute [local irreducible] SC SQ J Qt Calls Iterates LSub FSub
theorem rb {a b : Bool} (h : a = b) : Ending.returned (.bool a) = .returned (.bool b) := by rw [h]
abbrev csC (c : Cs) : List Value := [.int .i64 c.ins, .int .i64 c.del, .int .i64 c.chg, .int .i64 c.swp]
abbrev csV (c : Cs) : Value := .agg (csC c).toArray
abbrev intC (x : Int) : List Value := [.int .i64 x]
theorem right_c (c : Cs) (w : World) : Calls Try.prog 9 #[csV c] w fun e w' => e = .returned (.bool (decide (csOk c))) ∧ Below w.heap.size w w' := by
  have hk : csOk c ↔ (1 ≤ c.ins ∧ c.ins ≤ 1000) ∧ (1 ≤ c.del ∧ c.del ≤ 1000) ∧ (1 ≤ c.chg ∧ c.chg ≤ 1000) ∧ (1 ≤ c.swp ∧ c.swp ≤ 1000) := Iff.rfl
  refine eng_start (n := 24) (args := [csV c]) tab tab_ok fns fns_ok [.tmp 2] Try.func9 rfl rfl rfl rfl ?_
  repeat' (first | (refine gJ ?_; first | refine js rfl rfl rfl rfl ?_ | (refine gload rfl rfl ?_; refine j_qe rfl rfl rfl ?_; first | refine ⟨_, q_load_own rfl rfl rfl rfl (by (repeat constructor)) (by first | rfl | assumption), ?_⟩ | refine ⟨_, q_loadA_own rfl rfl rfl rfl (by (repeat constructor)) (by rfl), ?_⟩ | refine ⟨_, q_loadA_ext rfl rfl rfl rfl ⟨by assumption, (by first | exact id | assumption)⟩ (by rfl), ?_⟩ | refine ⟨_, q_load_ext rfl rfl rfl rfl ⟨by assumption, (by first | exact id | assumption)⟩ (by first | rfl | assumption), ?_⟩ | refine ⟨_, q_load_extb rfl rfl rfl rfl ⟨by assumption, (by first | exact id | assumption)⟩ (by rfl), ?_⟩ | refine ⟨_, q_loadA_extb rfl rfl rfl rfl ⟨by assumption, (by first | exact id | assumption)⟩ (by rfl), ?_⟩ | refine ⟨_, q_load_ext0 rfl rfl rfl rfl ⟨by assumption, (by first | exact id | assumption)⟩ (by rfl), ?_⟩) | refine jfield rfl rfl rfl rfl rfl rfl rfl rfl ?_ | refine jar rfl rfl rfl rfl rfl rfl rfl (by omega) ?_ | (refine gF ?_; first | (refine j_box rfl rfl rfl rfl rfl ?_; intro b)) | (refine j_qe rfl rfl rfl ?_; first | refine ⟨_, q_build_struct rfl rfl rfl rfl rfl, ?_⟩ | refine ⟨_, q_build_arr rfl rfl rfl rfl rfl, ?_⟩ | refine ⟨_, q_field_ext rfl rfl rfl rfl rfl, ?_⟩ | refine ⟨_, q_addu8 rfl rfl rfl (by omega), ?_⟩) | refine j_guard_undef rfl rfl rfl rfl rfl ?_) | (refine gSC ?_; first | refine sc_mv rfl ?_ | refine sc_q rfl ?_ | refine sc_region ?_) | (refine gSQ ?_; first | refine sq_go rfl ?_ | refine sq_mv rfl ?_ | refine sq_ende (by first | exact .inl rfl | exact .inr rfl) rfl rfl ⟨_, (RVs.cons (RV.tmp rfl) (RVs.nil)), ?_⟩) | refine j_nil ?_ | ((first | refine j_guard rfl rfl rfl rfl rfl ?_ ?_ | refine sc_cond rfl ?_ ?_) <;> intro hc <;> (first | exact absurd hc (by decide) | ((try simp only [engHC] at hc) <;> first | (exfalso; omega) | exact absurd trivial hc | skip))))
  refine sc_loop (ι := Nat) (fun i => i ≤ 4 ∧ (0 < i → 1 ≤ c.ins ∧ c.ins ≤ 1000) ∧ (1 < i → 1 ≤ c.del ∧ c.del ≤ 1000) ∧ (2 < i → 1 ≤ c.chg ∧ c.chg ≤ 1000) ∧ (3 < i → 1 ≤ c.swp ∧ c.swp ≤ 1000)) (fun i => 4 - i) (fun i => [(13, .agg (csC c).toArray), (14, .int .i64 i)]) (fun _ => []) 0 ⟨by omega, by omega, by omega, by omega, by omega⟩ (by (try dsimp only); exact (by repeat (first | exact FSub.nil | refine FSub.cons rfl ?_ | refine FSub.conse rfl (by congr 1; omega) ?_))) (by repeat (first | exact LSub.refl | refine LSub.cons (by repeat (first | exact Rem.here | apply Rem.there)) ?_ | apply LSub.skip)) ?_
  rintro i ⟨hi, h1, h2, h3, h4⟩
  by_cases hlt : i < 4
  · obtain ⟨x, hx, hxv⟩ : ∃ x, (csC c)[i]? = some (.int .i64 x) ∧ ((i = 0 ∧ x = c.ins) ∨ (i = 1 ∧ x = c.del) ∨ (i = 2 ∧ x = c.chg) ∨ (i = 3 ∧ x = c.swp)) := by
      have hc4 : i = 0 ∨ i = 1 ∨ i = 2 ∨ i = 3 := by omega
      rcases hc4 with rfl | rfl | rfl | rfl
      · exact ⟨c.ins, rfl, .inl ⟨rfl, rfl⟩⟩
      · exact ⟨c.del, rfl, .inr (.inl ⟨rfl, rfl⟩)⟩
      · exact ⟨c.chg, rfl, .inr (.inr (.inl ⟨rfl, rfl⟩))⟩
      · exact ⟨c.swp, rfl, .inr (.inr (.inr ⟨rfl, rfl⟩))⟩
    by_cases hok : 1 ≤ x ∧ x ≤ 1000
    · repeat' (first | (refine gJ ?_; first | refine js rfl rfl rfl rfl ?_ | (refine gload rfl rfl ?_; refine j_qe rfl rfl rfl ?_; first | refine ⟨_, q_load_own rfl rfl rfl rfl (by (repeat constructor)) (by first | rfl | assumption), ?_⟩ | refine ⟨_, q_loadA_own rfl rfl rfl rfl (by (repeat constructor)) (by rfl), ?_⟩ | refine ⟨_, q_loadA_ext rfl rfl rfl rfl ⟨by assumption, (by first | exact id | assumption)⟩ (by rfl), ?_⟩ | refine ⟨_, q_load_ext rfl rfl rfl rfl ⟨by assumption, (by first | exact id | assumption)⟩ (by first | rfl | assumption), ?_⟩ | refine ⟨_, q_load_extb rfl rfl rfl rfl ⟨by assumption, (by first | exact id | assumption)⟩ (by rfl), ?_⟩ | refine ⟨_, q_loadA_extb rfl rfl rfl rfl ⟨by assumption, (by first | exact id | assumption)⟩ (by rfl), ?_⟩ | refine ⟨_, q_load_ext0 rfl rfl rfl rfl ⟨by assumption, (by first | exact id | assumption)⟩ (by rfl), ?_⟩) | refine jfield rfl rfl rfl rfl rfl rfl rfl rfl ?_ | refine jar rfl rfl rfl rfl rfl rfl rfl (by omega) ?_ | (refine j_qe rfl rfl rfl ?_; refine ⟨_, q_index_aggV i rfl rfl rfl rfl rfl rfl rfl ⟨rfl, hlt⟩ hx, ?_⟩) | (refine gF ?_; first | (refine j_box rfl rfl rfl rfl rfl ?_; intro b)) | (refine j_qe rfl rfl rfl ?_; first | refine ⟨_, q_build_struct rfl rfl rfl rfl rfl, ?_⟩ | refine ⟨_, q_build_arr rfl rfl rfl rfl rfl, ?_⟩ | refine ⟨_, q_field_ext rfl rfl rfl rfl rfl, ?_⟩ | refine ⟨_, q_addu8 rfl rfl rfl (by omega), ?_⟩) | refine j_guard_undef rfl rfl rfl rfl rfl ?_) | (refine gSC ?_; first | refine sc_mv rfl ?_ | refine sc_q rfl ?_ | refine sc_region ?_) | (refine gSQ ?_; first | refine sq_go rfl ?_ | refine sq_mv rfl ?_ | refine sq_ende (by first | exact .inl rfl | exact .inr rfl) rfl rfl ⟨_, (RVs.cons (RV.tmp rfl) (RVs.nil)), ?_⟩) | refine j_nil ?_ | ((first | refine j_guard rfl rfl rfl rfl rfl ?_ ?_ | refine sc_cond rfl ?_ ?_) <;> intro hc <;> (first | exact absurd hc (by decide) | ((try simp only [engHC] at hc) <;> first | (exfalso; omega) | exact absurd trivial hc | skip))))
      all_goals first
        | (exfalso; omega)
        | (refine sq_loop (i + 1) ⟨by omega, by omega, by omega, by omega, by omega⟩ (by show 4 - (i + 1) < 4 - i; omega) (by (try dsimp only); exact (by repeat (first | exact FSub.nil | refine FSub.cons rfl ?_ | refine FSub.conse rfl (by congr 1; omega) ?_))) (by repeat (first | exact LSub.refl | refine LSub.cons (by repeat (first | exact Rem.here | apply Rem.there)) ?_ | apply LSub.skip)))
    · have hno : ¬ csOk c := by rw [hk]; omega
      rw [decide_eq_false hno]
      repeat' (first | (refine gJ ?_; first | refine js rfl rfl rfl rfl ?_ | (refine gload rfl rfl ?_; refine j_qe rfl rfl rfl ?_; first | refine ⟨_, q_load_own rfl rfl rfl rfl (by (repeat constructor)) (by first | rfl | assumption), ?_⟩ | refine ⟨_, q_loadA_own rfl rfl rfl rfl (by (repeat constructor)) (by rfl), ?_⟩ | refine ⟨_, q_loadA_ext rfl rfl rfl rfl ⟨by assumption, (by first | exact id | assumption)⟩ (by rfl), ?_⟩ | refine ⟨_, q_load_ext rfl rfl rfl rfl ⟨by assumption, (by first | exact id | assumption)⟩ (by first | rfl | assumption), ?_⟩ | refine ⟨_, q_load_extb rfl rfl rfl rfl ⟨by assumption, (by first | exact id | assumption)⟩ (by rfl), ?_⟩ | refine ⟨_, q_loadA_extb rfl rfl rfl rfl ⟨by assumption, (by first | exact id | assumption)⟩ (by rfl), ?_⟩ | refine ⟨_, q_load_ext0 rfl rfl rfl rfl ⟨by assumption, (by first | exact id | assumption)⟩ (by rfl), ?_⟩) | refine jfield rfl rfl rfl rfl rfl rfl rfl rfl ?_ | refine jar rfl rfl rfl rfl rfl rfl rfl (by omega) ?_ | (refine j_qe rfl rfl rfl ?_; refine ⟨_, q_index_aggV i rfl rfl rfl rfl rfl rfl rfl ⟨rfl, hlt⟩ hx, ?_⟩) | (refine gF ?_; first | (refine j_box rfl rfl rfl rfl rfl ?_; intro b)) | (refine j_qe rfl rfl rfl ?_; first | refine ⟨_, q_build_struct rfl rfl rfl rfl rfl, ?_⟩ | refine ⟨_, q_build_arr rfl rfl rfl rfl rfl, ?_⟩ | refine ⟨_, q_field_ext rfl rfl rfl rfl rfl, ?_⟩ | refine ⟨_, q_addu8 rfl rfl rfl (by omega), ?_⟩) | refine j_guard_undef rfl rfl rfl rfl rfl ?_) | (refine gSC ?_; first | refine sc_mv rfl ?_ | refine sc_q rfl ?_ | refine sc_region ?_) | (refine gSQ ?_; first | refine sq_go rfl ?_ | refine sq_mv rfl ?_ | refine sq_ende (by first | exact .inl rfl | exact .inr rfl) rfl rfl ⟨_, (RVs.cons (RV.tmp rfl) (RVs.nil)), ?_⟩) | refine j_nil ?_ | ((first | refine j_guard rfl rfl rfl rfl rfl ?_ ?_ | refine sc_cond rfl ?_ ?_) <;> intro hc <;> (first | exact absurd hc (by decide) | ((try simp only [engHC] at hc) <;> first | (exfalso; omega) | exact absurd trivial hc | skip))))
      all_goals first
        | (exfalso; omega)
        | (intro w' hS; refine ⟨?_, hS.below⟩; simp only [pack])
  · have hyes : csOk c := by rw [hk]; omega
    rw [decide_eq_true hyes]
    repeat' (first | (refine gJ ?_; first | refine js rfl rfl rfl rfl ?_ | (refine gload rfl rfl ?_; refine j_qe rfl rfl rfl ?_; first | refine ⟨_, q_load_own rfl rfl rfl rfl (by (repeat constructor)) (by first | rfl | assumption), ?_⟩ | refine ⟨_, q_loadA_own rfl rfl rfl rfl (by (repeat constructor)) (by rfl), ?_⟩ | refine ⟨_, q_loadA_ext rfl rfl rfl rfl ⟨by assumption, (by first | exact id | assumption)⟩ (by rfl), ?_⟩ | refine ⟨_, q_load_ext rfl rfl rfl rfl ⟨by assumption, (by first | exact id | assumption)⟩ (by first | rfl | assumption), ?_⟩ | refine ⟨_, q_load_extb rfl rfl rfl rfl ⟨by assumption, (by first | exact id | assumption)⟩ (by rfl), ?_⟩ | refine ⟨_, q_loadA_extb rfl rfl rfl rfl ⟨by assumption, (by first | exact id | assumption)⟩ (by rfl), ?_⟩ | refine ⟨_, q_load_ext0 rfl rfl rfl rfl ⟨by assumption, (by first | exact id | assumption)⟩ (by rfl), ?_⟩) | refine jfield rfl rfl rfl rfl rfl rfl rfl rfl ?_ | refine jar rfl rfl rfl rfl rfl rfl rfl (by omega) ?_ | (refine gF ?_; first | (refine j_box rfl rfl rfl rfl rfl ?_; intro b)) | (refine j_qe rfl rfl rfl ?_; first | refine ⟨_, q_build_struct rfl rfl rfl rfl rfl, ?_⟩ | refine ⟨_, q_build_arr rfl rfl rfl rfl rfl, ?_⟩ | refine ⟨_, q_field_ext rfl rfl rfl rfl rfl, ?_⟩ | refine ⟨_, q_addu8 rfl rfl rfl (by omega), ?_⟩) | refine j_guard_undef rfl rfl rfl rfl rfl ?_) | (refine gSC ?_; first | refine sc_mv rfl ?_ | refine sc_q rfl ?_ | refine sc_region ?_) | (refine gSQ ?_; first | refine sq_go rfl ?_ | refine sq_mv rfl ?_ | refine sq_ende (by first | exact .inl rfl | exact .inr rfl) rfl rfl ⟨_, (RVs.cons (RV.tmp rfl) (RVs.nil)), ?_⟩) | refine j_nil ?_ | ((first | refine j_guard rfl rfl rfl rfl rfl ?_ ?_ | refine sc_cond rfl ?_ ?_) <;> intro hc <;> (first | exact absurd hc (by decide) | ((try simp only [engHC] at hc) <;> first | (exfalso; omega) | exact absurd trivial hc | skip))))
    all_goals (intro w' hS; refine ⟨?_, hS.below⟩; simp only [pack])
def ckE (a b : List UInt8) (c : Cs) : Int := if csOk c then (if 60 < a.length ∨ 60 < b.length then 3 else 0) else 2
theorem checked_c (a b : List UInt8) (c : Cs) (w : World) : Calls Try.prog 31 #[strV a, strV b, csV c] w fun e w' => e = .returned (.int .i64 (ckE a b c)) ∧ Below w.heap.size w w' := by
  have hr := fun w' => right_c c w'
  unfold ckE
  by_cases hok : csOk c
  · rw [decide_eq_true hok] at hr
    rw [if_pos hok]
    by_cases hb : 60 < a.length ∨ 60 < b.length
    · rw [if_pos hb]
      refine eng_start (n := 18) (args := [strV a, strV b, csV c]) tab tab_ok fns fns_ok [.tmp 6] Try.func31 rfl rfl rfl rfl ?_
      repeat' (first | (refine gJ ?_; first | refine js rfl rfl rfl rfl ?_ | (refine gload rfl rfl ?_; refine j_qe rfl rfl rfl ?_; first | refine ⟨_, q_load_own rfl rfl rfl rfl (by (repeat constructor)) (by first | rfl | assumption), ?_⟩ | refine ⟨_, q_loadA_own rfl rfl rfl rfl (by (repeat constructor)) (by rfl), ?_⟩ | refine ⟨_, q_loadA_ext rfl rfl rfl rfl ⟨by assumption, (by first | exact id | assumption)⟩ (by rfl), ?_⟩ | refine ⟨_, q_load_ext rfl rfl rfl rfl ⟨by assumption, (by first | exact id | assumption)⟩ (by first | rfl | assumption), ?_⟩ | refine ⟨_, q_load_extb rfl rfl rfl rfl ⟨by assumption, (by first | exact id | assumption)⟩ (by rfl), ?_⟩ | refine ⟨_, q_loadA_extb rfl rfl rfl rfl ⟨by assumption, (by first | exact id | assumption)⟩ (by rfl), ?_⟩ | refine ⟨_, q_load_ext0 rfl rfl rfl rfl ⟨by assumption, (by first | exact id | assumption)⟩ (by rfl), ?_⟩) | (refine gcall rfl rfl ?_; first | (refine j_qc (f := 9) rfl rfl rfl rfl rfl rfl rfl ?_; refine ⟨_, (fun w' _ => hr w'), ?_⟩)) | (refine j_qe rfl rfl rfl ?_; refine ⟨_, q_len_str rfl Try.underlying9 rfl, ?_⟩) | (refine gF ?_; first | (refine j_box rfl rfl rfl rfl rfl ?_; intro b)) | (refine j_qe rfl rfl rfl ?_; first | refine ⟨_, q_len_slice rfl rfl rfl rfl, ?_⟩) | refine j_guard_undef rfl rfl rfl rfl rfl ?_) | (refine gSC ?_; first | refine sc_mv rfl ?_ | refine sc_q rfl ?_ | refine sc_region ?_) | (refine gSQ ?_; first | refine sq_go rfl ?_ | refine sq_mv rfl ?_ | refine sq_ende (by first | exact .inl rfl | exact .inr rfl) rfl rfl ⟨_, (RVs.cons (RV.tmp rfl) (RVs.nil)), ?_⟩) | refine j_nil ?_ | ((first | refine j_guard rfl rfl rfl rfl rfl ?_ ?_ | refine sc_cond rfl ?_ ?_) <;> intro hc <;> (first | exact absurd hc (by decide) | ((try simp only [engHC] at hc) <;> first | (exfalso; omega) | exact absurd trivial hc | skip))))
      all_goals first
        | (exfalso; omega)
        | (intro w' hS; refine ⟨?_, hS.below⟩; simp only [pack])
    · rw [if_neg hb]
      refine eng_start (n := 18) (args := [strV a, strV b, csV c]) tab tab_ok fns fns_ok [.tmp 6] Try.func31 rfl rfl rfl rfl ?_
      repeat' (first | (refine gJ ?_; first | refine js rfl rfl rfl rfl ?_ | (refine gload rfl rfl ?_; refine j_qe rfl rfl rfl ?_; first | refine ⟨_, q_load_own rfl rfl rfl rfl (by (repeat constructor)) (by first | rfl | assumption), ?_⟩ | refine ⟨_, q_loadA_own rfl rfl rfl rfl (by (repeat constructor)) (by rfl), ?_⟩ | refine ⟨_, q_loadA_ext rfl rfl rfl rfl ⟨by assumption, (by first | exact id | assumption)⟩ (by rfl), ?_⟩ | refine ⟨_, q_load_ext rfl rfl rfl rfl ⟨by assumption, (by first | exact id | assumption)⟩ (by first | rfl | assumption), ?_⟩ | refine ⟨_, q_load_extb rfl rfl rfl rfl ⟨by assumption, (by first | exact id | assumption)⟩ (by rfl), ?_⟩ | refine ⟨_, q_loadA_extb rfl rfl rfl rfl ⟨by assumption, (by first | exact id | assumption)⟩ (by rfl), ?_⟩ | refine ⟨_, q_load_ext0 rfl rfl rfl rfl ⟨by assumption, (by first | exact id | assumption)⟩ (by rfl), ?_⟩) | (refine gcall rfl rfl ?_; first | (refine j_qc (f := 9) rfl rfl rfl rfl rfl rfl rfl ?_; refine ⟨_, (fun w' _ => hr w'), ?_⟩)) | (refine j_qe rfl rfl rfl ?_; refine ⟨_, q_len_str rfl Try.underlying9 rfl, ?_⟩) | (refine gF ?_; first | (refine j_box rfl rfl rfl rfl rfl ?_; intro b)) | (refine j_qe rfl rfl rfl ?_; first | refine ⟨_, q_len_slice rfl rfl rfl rfl, ?_⟩) | refine j_guard_undef rfl rfl rfl rfl rfl ?_) | (refine gSC ?_; first | refine sc_mv rfl ?_ | refine sc_q rfl ?_ | refine sc_region ?_) | (refine gSQ ?_; first | refine sq_go rfl ?_ | refine sq_mv rfl ?_ | refine sq_ende (by first | exact .inl rfl | exact .inr rfl) rfl rfl ⟨_, (RVs.cons (RV.tmp rfl) (RVs.nil)), ?_⟩) | refine j_nil ?_ | ((first | refine j_guard rfl rfl rfl rfl rfl ?_ ?_ | refine sc_cond rfl ?_ ?_) <;> intro hc <;> (first | exact absurd hc (by decide) | ((try simp only [engHC] at hc) <;> first | (exfalso; omega) | exact absurd trivial hc | skip))))
      all_goals first
        | (exfalso; omega)
        | (intro w' hS; refine ⟨?_, hS.below⟩; simp only [pack])
  · rw [decide_eq_false hok] at hr
    rw [if_neg hok]
    refine eng_start (n := 18) (args := [strV a, strV b, csV c]) tab tab_ok fns fns_ok [.tmp 6] Try.func31 rfl rfl rfl rfl ?_
    repeat' (first | (refine gJ ?_; first | refine js rfl rfl rfl rfl ?_ | (refine gload rfl rfl ?_; refine j_qe rfl rfl rfl ?_; first | refine ⟨_, q_load_own rfl rfl rfl rfl (by (repeat constructor)) (by first | rfl | assumption), ?_⟩ | refine ⟨_, q_loadA_own rfl rfl rfl rfl (by (repeat constructor)) (by rfl), ?_⟩ | refine ⟨_, q_loadA_ext rfl rfl rfl rfl ⟨by assumption, (by first | exact id | assumption)⟩ (by rfl), ?_⟩ | refine ⟨_, q_load_ext rfl rfl rfl rfl ⟨by assumption, (by first | exact id | assumption)⟩ (by first | rfl | assumption), ?_⟩ | refine ⟨_, q_load_extb rfl rfl rfl rfl ⟨by assumption, (by first | exact id | assumption)⟩ (by rfl), ?_⟩ | refine ⟨_, q_loadA_extb rfl rfl rfl rfl ⟨by assumption, (by first | exact id | assumption)⟩ (by rfl), ?_⟩ | refine ⟨_, q_load_ext0 rfl rfl rfl rfl ⟨by assumption, (by first | exact id | assumption)⟩ (by rfl), ?_⟩) | (refine gcall rfl rfl ?_; first | (refine j_qc (f := 9) rfl rfl rfl rfl rfl rfl rfl ?_; refine ⟨_, (fun w' _ => hr w'), ?_⟩)) | (refine gF ?_; first | (refine j_box rfl rfl rfl rfl rfl ?_; intro b)) | (refine j_qe rfl rfl rfl ?_; first | refine ⟨_, q_len_slice rfl rfl rfl rfl, ?_⟩) | refine j_guard_undef rfl rfl rfl rfl rfl ?_) | (refine gSC ?_; first | refine sc_mv rfl ?_ | refine sc_q rfl ?_ | refine sc_region ?_) | (refine gSQ ?_; first | refine sq_go rfl ?_ | refine sq_mv rfl ?_ | refine sq_ende (by first | exact .inl rfl | exact .inr rfl) rfl rfl ⟨_, (RVs.cons (RV.tmp rfl) (RVs.nil)), ?_⟩) | refine j_nil ?_ | ((first | refine j_guard rfl rfl rfl rfl rfl ?_ ?_ | refine sc_cond rfl ?_ ?_) <;> intro hc <;> (first | exact absurd hc (by decide) | ((try simp only [engHC] at hc) <;> first | (exfalso; omega) | exact absurd trivial hc | skip))))
    all_goals (intro w' hS; refine ⟨?_, hS.below⟩; simp only [pack])
theorem byte_ne {a b : UInt8} (h : a ≠ b) : (a.toNat : Int) ≠ b.toNat := fun e => h (UInt8.toNat_inj.1 (by omega))
/-- Whether a swap can be the first step. -/
def swB : List UInt8 → List UInt8 → Bool
  | x :: x2 :: _, y :: y2 :: _ => decide (x = y2 ∧ x2 = y ∧ x ≠ x2)
  | _, _ => false
set_option maxRecDepth 4000 in
theorem swapped_c (a b : List UInt8) (w : World) : Calls Try.prog 52 #[strV a, strV b] w fun e w' => e = .returned (.bool (swB a b)) ∧ Below w.heap.size w w' := by
  by_cases hl : 1 < a.length ∧ 1 < b.length
  · obtain ⟨x, x2, a2, rfl⟩ : ∃ x x2 a2, a = x :: x2 :: a2 := by
      match a, hl.1 with
      | x :: x2 :: a2, _ => exact ⟨x, x2, a2, rfl⟩
    obtain ⟨y, y2, b2, rfl⟩ : ∃ y y2 b2, b = y :: y2 :: b2 := by
      match b, hl.2 with
      | y :: y2 :: b2, _ => exact ⟨y, y2, b2, rfl⟩
    have e1 : (x = y2) ↔ ((x.toNat : Int) = y2.toNat) := ⟨fun e => by rw [e], fun e => UInt8.toNat_inj.1 (by omega)⟩
    have e2 : (x2 = y) ↔ ((x2.toNat : Int) = y.toNat) := ⟨fun e => by rw [e], fun e => UInt8.toNat_inj.1 (by omega)⟩
    have e3 : (x = x2) ↔ ((x.toNat : Int) = x2.toNat) := ⟨fun e => by rw [e], fun e => UInt8.toNat_inj.1 (by omega)⟩
    have e : swB (x :: x2 :: a2) (y :: y2 :: b2) = decide (((x.toNat : Int) = y2.toNat) ∧ ((x2.toNat : Int) = y.toNat) ∧ ¬ ((x.toNat : Int) = x2.toNat)) := by
      show decide _ = decide _
      rw [decide_eq_decide, e1, e2, Ne, e3]
    rw [e]
    refine eng_start (n := 34) (args := [strV (x :: x2 :: a2), strV (y :: y2 :: b2)]) tab tab_ok fns fns_ok [.tmp 4] Try.func52 rfl rfl rfl rfl ?_
    repeat' (first | (refine gJ ?_; first | refine js rfl rfl rfl rfl ?_ | (refine j_qe rfl rfl rfl ?_; refine ⟨_, q_len_str rfl Try.underlying9 rfl, ?_⟩) | (refine j_qe rfl rfl rfl ?_; first | refine ⟨_, q_index_str (b := x) 0 rfl Try.underlying9 rfl rfl rfl rfl, ?_⟩ | refine ⟨_, q_index_str (b := x2) 1 rfl Try.underlying9 rfl rfl rfl rfl, ?_⟩ | refine ⟨_, q_index_str (b := y) 0 rfl Try.underlying9 rfl rfl rfl rfl, ?_⟩ | refine ⟨_, q_index_str (b := y2) 1 rfl Try.underlying9 rfl rfl rfl rfl, ?_⟩) | (refine j_qe rfl rfl rfl ?_; first | refine ⟨_, q_len_slice rfl rfl rfl rfl, ?_⟩) | refine j_guard_undef rfl rfl rfl rfl rfl ?_) | (refine gSC ?_; first | refine sc_mv rfl ?_ | refine sc_q rfl ?_ | refine sc_region ?_ | refine sc_draw rfl mixed (by kernel_rfl) ?_) | (refine gSQ ?_; first | refine sq_go rfl ?_ | refine sq_mv rfl ?_ | refine sq_ende (by first | exact .inl rfl | exact .inr rfl) rfl rfl ⟨_, (RVs.cons (RV.tmp rfl) (RVs.nil)), ?_⟩) | refine j_nil ?_ | ((first | refine j_guard rfl rfl rfl rfl rfl ?_ ?_ | refine sc_cond rfl ?_ ?_) <;> intro hc <;> (first | exact absurd hc (by decide) | ((try simp only [engHC] at hc) <;> first | (exfalso; omega) | exact absurd trivial hc | skip))))
    all_goals ((intro w' hS; refine ⟨?_, hS.below⟩; simp only [pack]); exact rb (by symm; first | (rw [decide_eq_true_eq]; omega) | (rw [decide_eq_false_iff_not]; omega) | (rw [decide_eq_decide]; omega)))
  · have e : swB a b = false := by
      unfold swB
      split
      · simp at hl
      · rfl
    rw [e]
    refine eng_start (n := 34) (args := [strV a, strV b]) tab tab_ok fns fns_ok [.tmp 4] Try.func52 rfl rfl rfl rfl ?_
    repeat' (first | (refine gJ ?_; first | refine js rfl rfl rfl rfl ?_ | (refine j_qe rfl rfl rfl ?_; refine ⟨_, q_len_str rfl Try.underlying9 rfl, ?_⟩) | (refine j_qe rfl rfl rfl ?_; first | refine ⟨_, q_len_slice rfl rfl rfl rfl, ?_⟩) | refine j_guard_undef rfl rfl rfl rfl rfl ?_) | (refine gSC ?_; first | refine sc_mv rfl ?_ | refine sc_q rfl ?_ | refine sc_region ?_ | refine sc_draw rfl mixed (by kernel_rfl) ?_) | (refine gSQ ?_; first | refine sq_go rfl ?_ | refine sq_mv rfl ?_ | refine sq_ende (by first | exact .inl rfl | exact .inr rfl) rfl rfl ⟨_, (RVs.cons (RV.tmp rfl) (RVs.nil)), ?_⟩) | refine j_nil ?_ | ((first | refine j_guard rfl rfl rfl rfl rfl ?_ ?_ | refine sc_cond rfl ?_ ?_) <;> intro hc <;> (first | exact absurd hc (by decide) | ((try simp only [engHC] at hc) <;> first | (exfalso; omega) | exact absurd trivial hc | skip))))
    all_goals first
      | (exfalso; omega)
      | (intro w' hS; refine ⟨?_, hS.below⟩; simp only [pack])
theorem swB_true {a b : List UInt8} (h : swB a b = true) : ∃ x x2 a2 b2, a = x :: x2 :: a2 ∧ b = x2 :: x :: b2 ∧ x ≠ x2 := by
  unfold swB at h
  split at h
  · obtain ⟨h1, h2, h3⟩ := of_decide_eq_true h
    subst h1; subst h2
    exact ⟨_, _, _, _, rfl, rfl, h3⟩
  · cases h
theorem swB_false {x y : UInt8} {a b : List UInt8} (h : swB (x :: a) (y :: b) = false) (c : Cs) : dist c (x :: a) (y :: b) = base c x a y b := dist_step c x a y b fun x2 a2 y2 b2 h1 h2 h3 => by
  subst h1; subst h2
  unfold swB at h
  exact absurd h3 (of_decide_eq_false h)
theorem rs_at {w : World} {x : Addr} {R : List Int} (h : RS w 1 intC (some x) R) {i : Nat} {v : Int} (hv : R[i]? = some v) : Ext w (x.add (i * 1)) (intC v) := by
  obtain ⟨ad, e, hX⟩ := h i v hv
  cases e
  exact hX
set_option maxRecDepth 4000 in
theorem least_c (a t : List UInt8) (c : Cs) (hc : csOk c) (ha : a.length ≤ 60) (hb : t.length ≤ 60) (ad x0 x1 x2 : Addr) (m : Nat) (R0 R1 R2 : List Int) (j : Nat) (w : World) (hT : Ext w ad [.slice (some x0) m m, .slice (some x1) m m, .slice (some x2) m m]) (h0 : RS w 1 intC (some x0) R0) (h1 : RS w 1 intC (some x1) R1) (h2 : RS w 1 intC (some x2) R2)
    (hm : j + t.length + 1 ≤ m) (hm61 : m ≤ 61) (d1 : ∀ x a2 y b2, a = x :: a2 → t = y :: b2 → R1[j + 1]? = some (dist c a2 b2) ∧ R1[j]? = some (dist c a2 t) ∧ R0[j + 1]? = some (dist c a b2)) (d2 : ∀ x x2 a2 y y2 b2, a = x :: x2 :: a2 → t = y :: y2 :: b2 → R2[j + 2]? = some (dist c a2 b2)) :
    Calls Try.prog 44 #[strV a, strV t, csV c, .pointer (some ad), .int .i64 j] w fun e w' => e = .returned (.int .i64 (dist c a t)) ∧ Below w.heap.size w w' := by
  have hbig := fun a b => dist_big hc _ a b (Nat.le_refl _)
  have hnn := fun a b => dist_nn hc _ a b (Nat.le_refl _)
  have hk := hc
  unfold csOk at hk
  cases a with
  | nil =>
    have g1 := hbig [] t
    have g2 := hnn [] t
    rw [dist_nil] at g1 g2 ⊢
    simp only [List.length_nil] at g1
    refine eng_start (n := 86) (args := [strV [], strV t, csV c, .pointer (some ad), .int .i64 j]) tab tab_ok fns fns_ok [.tmp 10] Try.func44 rfl rfl rfl rfl ?_
    repeat' (first | (refine gJ ?_; first | refine js rfl rfl rfl rfl ?_ | (refine gload rfl rfl ?_; refine j_qe rfl rfl rfl ?_; first | refine ⟨_, q_load_own rfl rfl rfl rfl (by (repeat constructor)) (by first | rfl | assumption), ?_⟩ | refine ⟨_, q_loadA_own rfl rfl rfl rfl (by (repeat constructor)) (by rfl), ?_⟩ | refine ⟨_, q_loadA_ext rfl rfl rfl rfl ⟨by assumption, (by first | exact id | assumption)⟩ (by rfl), ?_⟩ | refine ⟨_, q_load_ext rfl rfl rfl rfl ⟨by assumption, (by first | exact id | assumption)⟩ (by first | rfl | assumption), ?_⟩ | refine ⟨_, q_load_extb rfl rfl rfl rfl ⟨by assumption, (by first | exact id | assumption)⟩ (by rfl), ?_⟩ | refine ⟨_, q_loadA_extb rfl rfl rfl rfl ⟨by assumption, (by first | exact id | assumption)⟩ (by rfl), ?_⟩ | refine ⟨_, q_load_ext0 rfl rfl rfl rfl ⟨by assumption, (by first | exact id | assumption)⟩ (by rfl), ?_⟩) | refine jfield rfl rfl rfl rfl rfl rfl rfl rfl ?_ | refine jar rfl rfl rfl rfl rfl rfl rfl (by omega) ?_ | (refine j_qe rfl rfl rfl ?_; refine ⟨_, q_len_str rfl Try.underlying9 rfl, ?_⟩) | (refine j_qe rfl rfl rfl ?_; refine ⟨_, q_eql_str (u := []) (v := []) rfl rfl rfl, ?_⟩) | (refine gF ?_; first | (refine j_box rfl rfl rfl rfl rfl ?_; intro b)) | (refine j_qe rfl rfl rfl ?_; first | refine ⟨_, q_index_nat rfl rfl rfl rfl rfl (by omega), ?_⟩ | refine ⟨_, q_index_slice rfl rfl rfl rfl rfl (by omega), ?_⟩ | refine ⟨_, q_index_arr rfl rfl rfl rfl rfl (by omega), ?_⟩ | refine ⟨_, q_index_arr_ext rfl rfl rfl rfl rfl (by omega), ?_⟩ | refine ⟨_, q_len_slice rfl rfl rfl rfl, ?_⟩ | refine ⟨_, q_field_ext rfl rfl rfl rfl rfl, ?_⟩ | refine ⟨_, q_addu8 rfl rfl rfl (by omega), ?_⟩)) | (refine gSC ?_; first | refine sc_mv rfl ?_ | refine sc_q rfl ?_ | refine sc_region ?_ | refine sc_draw rfl mixed (by kernel_rfl) ?_) | (refine gSQ ?_; first | refine sq_go rfl ?_ | refine sq_mv rfl ?_ | refine sq_ende (by first | exact .inl rfl | exact .inr rfl) rfl rfl ⟨_, (RVs.cons (RV.tmp rfl) (RVs.nil)), ?_⟩) | refine j_nil ?_ | ((refine sc_cond rfl ?_ ?_) <;> intro hc <;> (first | exact absurd hc (by decide) | ((try simp only [engHC] at hc) <;> first | (exfalso; omega) | exact absurd trivial hc | skip))))
    all_goals first
      | (exfalso; simp_all; done)
      | (intro w' hS; refine ⟨?_, hS.below⟩; simp only [pack])
  | cons x a =>
    cases t with
    | nil =>
      have g1 := hbig (x :: a) []
      have g2 := hnn (x :: a) []
      rw [dist_end] at g1 g2 ⊢
      simp only [List.length_cons, List.length_nil] at g1 ha
      have e9 : ((x :: a).length : Int) = (a.length : Int) + 1 := by simp
      refine eng_start (n := 86) (args := [strV (x :: a), strV [], csV c, .pointer (some ad), .int .i64 j]) tab tab_ok fns fns_ok [.tmp 10] Try.func44 rfl rfl rfl rfl ?_
      repeat' (first | (refine gJ ?_; first | refine js rfl rfl rfl rfl ?_ | (refine gload rfl rfl ?_; refine j_qe rfl rfl rfl ?_; first | refine ⟨_, q_load_own rfl rfl rfl rfl (by (repeat constructor)) (by first | rfl | assumption), ?_⟩ | refine ⟨_, q_loadA_own rfl rfl rfl rfl (by (repeat constructor)) (by rfl), ?_⟩ | refine ⟨_, q_loadA_ext rfl rfl rfl rfl ⟨by assumption, (by first | exact id | assumption)⟩ (by rfl), ?_⟩ | refine ⟨_, q_load_ext rfl rfl rfl rfl ⟨by assumption, (by first | exact id | assumption)⟩ (by first | rfl | assumption), ?_⟩ | refine ⟨_, q_load_extb rfl rfl rfl rfl ⟨by assumption, (by first | exact id | assumption)⟩ (by rfl), ?_⟩ | refine ⟨_, q_loadA_extb rfl rfl rfl rfl ⟨by assumption, (by first | exact id | assumption)⟩ (by rfl), ?_⟩ | refine ⟨_, q_load_ext0 rfl rfl rfl rfl ⟨by assumption, (by first | exact id | assumption)⟩ (by rfl), ?_⟩) | refine jfield rfl rfl rfl rfl rfl rfl rfl rfl ?_ | refine jar rfl rfl rfl rfl rfl rfl rfl (by omega) ?_ | (refine j_qe rfl rfl rfl ?_; refine ⟨_, e9 ▸ q_len_str rfl Try.underlying9 rfl, ?_⟩) | (refine j_qe rfl rfl rfl ?_; refine ⟨_, q_eql_str (u := x :: a) (v := []) rfl rfl rfl, ?_⟩) | (refine j_qe rfl rfl rfl ?_; refine ⟨_, q_eql_str (u := []) (v := []) rfl rfl rfl, ?_⟩) | (refine gF ?_; first | (refine j_box rfl rfl rfl rfl rfl ?_; intro b)) | (refine j_qe rfl rfl rfl ?_; first | refine ⟨_, q_index_nat rfl rfl rfl rfl rfl (by omega), ?_⟩ | refine ⟨_, q_index_slice rfl rfl rfl rfl rfl (by omega), ?_⟩ | refine ⟨_, q_index_arr rfl rfl rfl rfl rfl (by omega), ?_⟩ | refine ⟨_, q_index_arr_ext rfl rfl rfl rfl rfl (by omega), ?_⟩ | refine ⟨_, q_len_slice rfl rfl rfl rfl, ?_⟩ | refine ⟨_, q_field_ext rfl rfl rfl rfl rfl, ?_⟩ | refine ⟨_, q_addu8 rfl rfl rfl (by omega), ?_⟩)) | (refine gSC ?_; first | refine sc_mv rfl ?_ | refine sc_q rfl ?_ | refine sc_region ?_ | refine sc_draw rfl mixed (by kernel_rfl) ?_) | (refine gSQ ?_; first | refine sq_go rfl ?_ | refine sq_mv rfl ?_ | refine sq_ende (by first | exact .inl rfl | exact .inr rfl) rfl rfl ⟨_, (RVs.cons (RV.tmp rfl) (RVs.nil)), ?_⟩) | refine j_nil ?_ | ((refine sc_cond rfl ?_ ?_) <;> intro hc <;> (first | exact absurd hc (by decide) | ((try simp only [engHC] at hc) <;> first | (exfalso; omega) | exact absurd trivial hc | skip))))
      all_goals first
        | (exfalso; simp_all; done)
        | (intro w' hS; refine ⟨?_, hS.below⟩; simp only [pack])
    | cons y t =>
      obtain ⟨r1, r2, r3⟩ := d1 x a y t rfl rfl
      have X1 := rs_at h1 r1
      have X2 := rs_at h1 r2
      have X3 := rs_at h0 r3
      have g1 := hbig a t
      have g2 := hbig a (y :: t)
      have g3 := hbig (x :: a) t
      have f1 := hnn a t
      have f2 := hnn a (y :: t)
      have f3 := hnn (x :: a) t
      have hsw := fun w' => swapped_c (x :: a) (y :: t) w'
      simp only [List.length_cons] at g1 g2 g3 ha hb hm
      push_cast at g1 g2 g3
      have hbs : base c x a y t = min (min (dist c a t + if x ≠ y then c.chg else 0) (dist c a (y :: t) + c.del)) (dist c (x :: a) t + c.ins) := rfl
      have hbs := hbs.symm
      clear hbig hnn
      cases hS : swB (x :: a) (y :: t) with
      | false =>
        rw [hS] at hsw
        rw [swB_false hS]
        by_cases hxy : x = y
        · rw [if_neg (fun e => e hxy), Int.add_zero] at hbs
          have hxi : (x.toNat : Int) = y.toNat := by rw [hxy]
          refine eng_start (n := 86) (args := [strV (x :: a), strV (y :: t), csV c, .pointer (some ad), .int .i64 j]) tab tab_ok fns fns_ok [.tmp 10] Try.func44 rfl rfl rfl rfl ?_
          repeat' (first | (refine gJ ?_; first | refine js rfl rfl rfl rfl ?_ | (refine gload rfl rfl ?_; refine j_qe rfl rfl rfl ?_; first | refine ⟨_, q_load_own rfl rfl rfl rfl (by (repeat constructor)) (by first | rfl | assumption), ?_⟩ | refine ⟨_, q_loadA_own rfl rfl rfl rfl (by (repeat constructor)) (by rfl), ?_⟩ | refine ⟨_, q_loadA_ext rfl rfl rfl rfl ⟨by assumption, (by first | exact id | assumption)⟩ (by rfl), ?_⟩ | refine ⟨_, q_load_ext rfl rfl rfl rfl ⟨by assumption, (by first | exact id | assumption)⟩ (by first | rfl | assumption), ?_⟩ | refine ⟨_, q_load_extb rfl rfl rfl rfl ⟨by assumption, (by first | exact id | assumption)⟩ (by rfl), ?_⟩ | refine ⟨_, q_loadA_extb rfl rfl rfl rfl ⟨by assumption, (by first | exact id | assumption)⟩ (by rfl), ?_⟩ | refine ⟨_, q_load_ext0 rfl rfl rfl rfl ⟨by assumption, (by first | exact id | assumption)⟩ (by rfl), ?_⟩) | refine jfield rfl rfl rfl rfl rfl rfl rfl rfl ?_ | refine jar rfl rfl rfl rfl rfl rfl rfl (by omega) ?_ | (refine gcall rfl rfl ?_; first | (refine j_qc (f := 52) rfl rfl rfl rfl rfl rfl rfl ?_; refine ⟨_, (fun w' _ => hsw w'), ?_⟩)) | (refine j_qe rfl rfl rfl ?_; refine ⟨_, q_eql_str (u := x :: a) (v := []) rfl rfl rfl, ?_⟩) | (refine j_qe rfl rfl rfl ?_; refine ⟨_, q_eql_str (u := y :: t) (v := []) rfl rfl rfl, ?_⟩) | (refine j_qe rfl rfl rfl ?_; first | refine ⟨_, q_index_str (b := x) 0 rfl Try.underlying9 rfl rfl rfl rfl, ?_⟩ | refine ⟨_, q_index_str (b := y) 0 rfl Try.underlying9 rfl rfl rfl rfl, ?_⟩) | (refine j_qe rfl rfl rfl ?_; first | refine ⟨_, q_index_at (j + 1) rfl rfl rfl rfl rfl (by omega), ?_⟩ | refine ⟨_, q_index_at j rfl rfl rfl rfl rfl (by omega), ?_⟩ | refine ⟨_, q_index_at (j + 2) rfl rfl rfl rfl rfl (by omega), ?_⟩) | (refine j_qe rfl rfl rfl ?_; refine ⟨_, q_min3 rfl rfl rfl rfl hbs, ?_⟩) | (refine j_qe rfl rfl rfl ?_; refine ⟨_, q_min2 rfl rfl rfl rfl, ?_⟩) | (refine gF ?_; first | (refine j_box rfl rfl rfl rfl rfl ?_; intro b)) | (refine j_qe rfl rfl rfl ?_; first | refine ⟨_, q_index_nat rfl rfl rfl rfl rfl (by omega), ?_⟩ | refine ⟨_, q_index_slice rfl rfl rfl rfl rfl (by omega), ?_⟩ | refine ⟨_, q_index_arr rfl rfl rfl rfl rfl (by omega), ?_⟩ | refine ⟨_, q_index_arr_ext rfl rfl rfl rfl rfl (by omega), ?_⟩ | refine ⟨_, q_len_slice rfl rfl rfl rfl, ?_⟩ | refine ⟨_, q_field_ext rfl rfl rfl rfl rfl, ?_⟩ | refine ⟨_, q_addu8 rfl rfl rfl (by omega), ?_⟩)) | (refine gSC ?_; first | refine sc_mv rfl ?_ | refine sc_q rfl ?_ | refine sc_region ?_ | refine sc_draw rfl mixed (by kernel_rfl) ?_) | (refine gSQ ?_; first | refine sq_go rfl ?_ | refine sq_mv rfl ?_ | refine sq_ende (by first | exact .inl rfl | exact .inr rfl) rfl rfl ⟨_, (RVs.cons (RV.tmp rfl) (RVs.nil)), ?_⟩) | refine j_nil ?_ | ((refine sc_cond rfl ?_ ?_) <;> intro hc <;> (first | exact absurd hc (by decide) | ((try simp only [engHC] at hc) <;> first | (exfalso; omega) | exact absurd trivial hc | skip))))
          all_goals first
            | (exfalso; omega)
            | (exfalso; simp_all; done)
            | (intro w' hS; refine ⟨?_, hS.below⟩; simp only [pack])
        · rw [if_pos hxy] at hbs
          have hxi := byte_ne hxy
          refine eng_start (n := 86) (args := [strV (x :: a), strV (y :: t), csV c, .pointer (some ad), .int .i64 j]) tab tab_ok fns fns_ok [.tmp 10] Try.func44 rfl rfl rfl rfl ?_
          repeat' (first | (refine gJ ?_; first | refine js rfl rfl rfl rfl ?_ | (refine gload rfl rfl ?_; refine j_qe rfl rfl rfl ?_; first | refine ⟨_, q_load_own rfl rfl rfl rfl (by (repeat constructor)) (by first | rfl | assumption), ?_⟩ | refine ⟨_, q_loadA_own rfl rfl rfl rfl (by (repeat constructor)) (by rfl), ?_⟩ | refine ⟨_, q_loadA_ext rfl rfl rfl rfl ⟨by assumption, (by first | exact id | assumption)⟩ (by rfl), ?_⟩ | refine ⟨_, q_load_ext rfl rfl rfl rfl ⟨by assumption, (by first | exact id | assumption)⟩ (by first | rfl | assumption), ?_⟩ | refine ⟨_, q_load_extb rfl rfl rfl rfl ⟨by assumption, (by first | exact id | assumption)⟩ (by rfl), ?_⟩ | refine ⟨_, q_loadA_extb rfl rfl rfl rfl ⟨by assumption, (by first | exact id | assumption)⟩ (by rfl), ?_⟩ | refine ⟨_, q_load_ext0 rfl rfl rfl rfl ⟨by assumption, (by first | exact id | assumption)⟩ (by rfl), ?_⟩) | refine jfield rfl rfl rfl rfl rfl rfl rfl rfl ?_ | refine jar rfl rfl rfl rfl rfl rfl rfl (by omega) ?_ | (refine gcall rfl rfl ?_; first | (refine j_qc (f := 52) rfl rfl rfl rfl rfl rfl rfl ?_; refine ⟨_, (fun w' _ => hsw w'), ?_⟩)) | (refine j_qe rfl rfl rfl ?_; refine ⟨_, q_eql_str (u := x :: a) (v := []) rfl rfl rfl, ?_⟩) | (refine j_qe rfl rfl rfl ?_; refine ⟨_, q_eql_str (u := y :: t) (v := []) rfl rfl rfl, ?_⟩) | (refine j_qe rfl rfl rfl ?_; first | refine ⟨_, q_index_str (b := x) 0 rfl Try.underlying9 rfl rfl rfl rfl, ?_⟩ | refine ⟨_, q_index_str (b := y) 0 rfl Try.underlying9 rfl rfl rfl rfl, ?_⟩) | (refine j_qe rfl rfl rfl ?_; first | refine ⟨_, q_index_at (j + 1) rfl rfl rfl rfl rfl (by omega), ?_⟩ | refine ⟨_, q_index_at j rfl rfl rfl rfl rfl (by omega), ?_⟩ | refine ⟨_, q_index_at (j + 2) rfl rfl rfl rfl rfl (by omega), ?_⟩) | (refine j_qe rfl rfl rfl ?_; refine ⟨_, q_min3 rfl rfl rfl rfl hbs, ?_⟩) | (refine j_qe rfl rfl rfl ?_; refine ⟨_, q_min2 rfl rfl rfl rfl, ?_⟩) | (refine gF ?_; first | (refine j_box rfl rfl rfl rfl rfl ?_; intro b)) | (refine j_qe rfl rfl rfl ?_; first | refine ⟨_, q_index_nat rfl rfl rfl rfl rfl (by omega), ?_⟩ | refine ⟨_, q_index_slice rfl rfl rfl rfl rfl (by omega), ?_⟩ | refine ⟨_, q_index_arr rfl rfl rfl rfl rfl (by omega), ?_⟩ | refine ⟨_, q_index_arr_ext rfl rfl rfl rfl rfl (by omega), ?_⟩ | refine ⟨_, q_len_slice rfl rfl rfl rfl, ?_⟩ | refine ⟨_, q_field_ext rfl rfl rfl rfl rfl, ?_⟩ | refine ⟨_, q_addu8 rfl rfl rfl (by omega), ?_⟩)) | (refine gSC ?_; first | refine sc_mv rfl ?_ | refine sc_q rfl ?_ | refine sc_region ?_ | refine sc_draw rfl mixed (by kernel_rfl) ?_) | (refine gSQ ?_; first | refine sq_go rfl ?_ | refine sq_mv rfl ?_ | refine sq_ende (by first | exact .inl rfl | exact .inr rfl) rfl rfl ⟨_, (RVs.cons (RV.tmp rfl) (RVs.nil)), ?_⟩) | refine j_nil ?_ | ((refine sc_cond rfl ?_ ?_) <;> intro hc <;> (first | exact absurd hc (by decide) | ((try simp only [engHC] at hc) <;> first | (exfalso; omega) | exact absurd trivial hc | skip))))
          all_goals first
            | (exfalso; omega)
            | (exfalso; simp_all; done)
            | (intro w' hS; refine ⟨?_, hS.below⟩; simp only [pack])
      | true =>
        rw [hS] at hsw
        obtain ⟨z, z2, a2, b2, ez, ez2, hne⟩ := swB_true hS
        injection ez with ez ez3
        injection ez2 with ez2 ez4
        subst ez; subst ez2; subst ez3; subst ez4
        have r4 := d2 x y a2 y x b2 rfl rfl
        have X4 := rs_at h2 r4
        have g4 := dist_big hc _ a2 b2 (Nat.le_refl _)
        have f4 := dist_nn hc _ a2 b2 (Nat.le_refl _)
        have l1 : (y :: a2).length = a2.length + 1 := rfl
        have l2 : (x :: b2).length = b2.length + 1 := rfl
        rw [dist_swap c x y a2 b2 hne]
        rw [if_pos hne] at hbs
        have hxi := byte_ne hne
        refine eng_start (n := 86) (args := [strV (x :: y :: a2), strV (y :: x :: b2), csV c, .pointer (some ad), .int .i64 j]) tab tab_ok fns fns_ok [.tmp 10] Try.func44 rfl rfl rfl rfl ?_
        repeat' (first | (refine gJ ?_; first | refine js rfl rfl rfl rfl ?_ | (refine gload rfl rfl ?_; refine j_qe rfl rfl rfl ?_; first | refine ⟨_, q_load_own rfl rfl rfl rfl (by (repeat constructor)) (by first | rfl | assumption), ?_⟩ | refine ⟨_, q_loadA_own rfl rfl rfl rfl (by (repeat constructor)) (by rfl), ?_⟩ | refine ⟨_, q_loadA_ext rfl rfl rfl rfl ⟨by assumption, (by first | exact id | assumption)⟩ (by rfl), ?_⟩ | refine ⟨_, q_load_ext rfl rfl rfl rfl ⟨by assumption, (by first | exact id | assumption)⟩ (by first | rfl | assumption), ?_⟩ | refine ⟨_, q_load_extb rfl rfl rfl rfl ⟨by assumption, (by first | exact id | assumption)⟩ (by rfl), ?_⟩ | refine ⟨_, q_loadA_extb rfl rfl rfl rfl ⟨by assumption, (by first | exact id | assumption)⟩ (by rfl), ?_⟩ | refine ⟨_, q_load_ext0 rfl rfl rfl rfl ⟨by assumption, (by first | exact id | assumption)⟩ (by rfl), ?_⟩) | refine jfield rfl rfl rfl rfl rfl rfl rfl rfl ?_ | refine jar rfl rfl rfl rfl rfl rfl rfl (by omega) ?_ | (refine gcall rfl rfl ?_; first | (refine j_qc (f := 52) rfl rfl rfl rfl rfl rfl rfl ?_; refine ⟨_, (fun w' _ => hsw w'), ?_⟩)) | (refine j_qe rfl rfl rfl ?_; refine ⟨_, q_eql_str (u := x :: y :: a2) (v := []) rfl rfl rfl, ?_⟩) | (refine j_qe rfl rfl rfl ?_; refine ⟨_, q_eql_str (u := y :: x :: b2) (v := []) rfl rfl rfl, ?_⟩) | (refine j_qe rfl rfl rfl ?_; first | refine ⟨_, q_index_str (b := x) 0 rfl Try.underlying9 rfl rfl rfl rfl, ?_⟩ | refine ⟨_, q_index_str (b := y) 0 rfl Try.underlying9 rfl rfl rfl rfl, ?_⟩) | (refine j_qe rfl rfl rfl ?_; first | refine ⟨_, q_index_at (j + 1) rfl rfl rfl rfl rfl (by omega), ?_⟩ | refine ⟨_, q_index_at j rfl rfl rfl rfl rfl (by omega), ?_⟩ | refine ⟨_, q_index_at (j + 2) rfl rfl rfl rfl rfl (by omega), ?_⟩) | (refine j_qe rfl rfl rfl ?_; refine ⟨_, q_min3 rfl rfl rfl rfl hbs, ?_⟩) | (refine j_qe rfl rfl rfl ?_; refine ⟨_, q_min2 rfl rfl rfl rfl, ?_⟩) | (refine gF ?_; first | (refine j_box rfl rfl rfl rfl rfl ?_; intro b)) | (refine j_qe rfl rfl rfl ?_; first | refine ⟨_, q_index_nat rfl rfl rfl rfl rfl (by omega), ?_⟩ | refine ⟨_, q_index_slice rfl rfl rfl rfl rfl (by omega), ?_⟩ | refine ⟨_, q_index_arr rfl rfl rfl rfl rfl (by omega), ?_⟩ | refine ⟨_, q_index_arr_ext rfl rfl rfl rfl rfl (by omega), ?_⟩ | refine ⟨_, q_len_slice rfl rfl rfl rfl, ?_⟩ | refine ⟨_, q_field_ext rfl rfl rfl rfl rfl, ?_⟩ | refine ⟨_, q_addu8 rfl rfl rfl (by omega), ?_⟩)) | (refine gSC ?_; first | refine sc_mv rfl ?_ | refine sc_q rfl ?_ | refine sc_region ?_ | refine sc_draw rfl mixed (by kernel_rfl) ?_) | (refine gSQ ?_; first | refine sq_go rfl ?_ | refine sq_mv rfl ?_ | refine sq_ende (by first | exact .inl rfl | exact .inr rfl) rfl rfl ⟨_, (RVs.cons (RV.tmp rfl) (RVs.nil)), ?_⟩) | refine j_nil ?_ | ((refine sc_cond rfl ?_ ?_) <;> intro hc <;> (first | exact absurd hc (by decide) | ((try simp only [engHC] at hc) <;> first | (exfalso; omega) | exact absurd trivial hc | skip))))
        all_goals first
          | (exfalso; omega)
          | (exfalso; simp_all; done)
          | (intro w' hS; refine ⟨?_, hS.below⟩; simp only [pack])
end Go.Proofs.Ytagndgidfaladaa
