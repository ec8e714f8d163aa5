/-
  The law's examples.
-/
import Derived.Test.YtbejfbekamikpaaLaw
namespace Go.Proofs.Ytbejfbekamikpaa
open Go.RowKit Eng
set_option linter.unusedVariables false
set_option linter.unusedSimpArgs false
set_option maxHeartbeats 8000000
attribute [local irreducible] SC SQ J Qt Calls Iterates
def sumR : Ru := ⟨11, 1, 401, 930, 0⟩
def winR : Ru := ⟨11, 1, 1215, 115, 0⟩
def empR : Ru := ⟨12, 2, 0, 9, 0⟩
def wkR : Ru := ⟨12, 3, 0, 0, 31⟩
theorem nx1 : nextF exPts [sumR] [] 11 0 = (90, true, 0) := by kernel_rfl
theorem ip1 : openIds [] [0] 0 (firstsF exPts) = [11, 12] := by kernel_rfl
theorem ip2 : openIds [] [0] 1 (firstsF exPts) = [11, 12, 13] := by kernel_rfl
theorem ck0 : checkF [0] 0 = 0 := by kernel_rfl
theorem ck1 : checkF [0] 1 = 0 := by kernel_rfl
theorem op1 : openF exPts [] [0] 0 = [11, 12] := by
  simp only [openF, ck0, ip1, ne_eq, not_true, if_false]
  exact List.mergeSort_of_pairwise (by decide)
theorem op2 : openF exPts [] [0] 1 = [11, 12, 13] := by
  simp only [openF, ck1, ip2, ne_eq, not_true, if_false]
  exact List.mergeSort_of_pairwise (by decide)
theorem ok1 : ∀ x ∈ [sumR], ruOk x := by unfold ruOk; decide
theorem ok2 : ∀ x ∈ [sumR, winR], ruOk x := by unfold ruOk; decide
theorem ok3 : ∀ x ∈ [empR], ruOk x := by unfold ruOk; decide
theorem ok4 : ∀ x ∈ [wkR], ruOk x := by unfold ruOk; decide
theorem ok0 : ∀ x ∈ ([] : List Ru), ruOk x := fun x hx => by cases hx
theorem i1 : (decide ((statF exPts [sumR] [] 11 0).1 = 2) && decide ((statF exPts [sumR] [] 11 0).2 = 0)) = true := by kernel_rfl
theorem i2 : (decide ((statF exPts [sumR, winR] [] 11 0).1 = 1) && decide ((statF exPts [sumR, winR] [] 11 0).2 = 0)) = true := by kernel_rfl
theorem i3 : (decide ((statF exPts [empR] [] 12 0).1 = 3) && decide ((statF exPts [empR] [] 12 0).2 = 0)) = true := by kernel_rfl
theorem i4 : (decide ((statF exPts [empR] [] 12 9).1 = 3) && decide ((statF exPts [empR] [] 12 9).2 = 0)) = true := by kernel_rfl
theorem i5 : (decide ((statF exPts [empR] [] 12 10).1 = 1) && decide ((statF exPts [empR] [] 12 10).2 = 0)) = true := by kernel_rfl
theorem i6 : (decide ((statF exPts [wkR] [] 12 4).1 = 1) && decide ((statF exPts [wkR] [] 12 4).2 = 0)) = true := by kernel_rfl
theorem i7 : (decide ((statF exPts [wkR] [] 12 5).1 = 2) && decide ((statF exPts [wkR] [] 12 5).2 = 0)) = true := by kernel_rfl
theorem i8 : (decide ((statF exPts [wkR] [] 12 6).1 = 2) && decide ((statF exPts [wkR] [] 12 6).2 = 0)) = true := by kernel_rfl
theorem i9 : (decide ((statF exPts [] [0] 13 0).1 = 2) && decide ((statF exPts [] [0] 13 0).2 = 0)) = true := by kernel_rfl
theorem i10 : (decide ((statF exPts [] [0] 13 1).1 = 1) && decide ((statF exPts [] [0] 13 1).2 = 0)) = true := by kernel_rfl
theorem i11 : (decide ((statF exPts [] [] 99 0).1 = 0) && decide ((statF exPts [] [] 99 0).2 = 0)) = true := by kernel_rfl
abbrev opV (k : Int) (v : Value) : Value := .tuple #[v, .int .i64 k]
abbrev opL (l : List Int) (v : Value) : List HA := [.own v 3 1 l.length (l.map (Value.int .i64))]
theorem awake_c (w : World) : Calls Try.prog 15 #[] w fun e w' => e = .returned (.bool true) ∧ Below w.heap.size w w' := by
  refine eng_start (n := 115) (args := []) tab tab_ok fns fns_ok [.tmp 0] Try.func15 rfl rfl rfl rfl ?_
  repeat' (first
   | (refine gJ ?_
      first
      | refine jmv rfl rfl rfl rfl rfl ?_
      | (refine gload rfl rfl ?_
         refine j_qe rfl rfl rfl ?_
         first
         | refine ⟨_, q_load_own rfl rfl rfl rfl (by (repeat (first | exact InL.here | apply InL.there))) (by first | rfl | assumption), ?_⟩
         | refine ⟨_, q_loadA_own rfl rfl rfl rfl (by (repeat (first | exact InL.here | apply InL.there))) (by rfl), ?_⟩
         | refine ⟨_, q_loadA_ext rfl rfl rfl rfl ⟨by assumption, (by first | exact id | assumption)⟩ (by rfl), ?_⟩
         | refine ⟨_, q_load_ext rfl rfl rfl rfl ⟨by assumption, (by first | exact id | assumption)⟩ (by first | rfl | assumption), ?_⟩
         | refine ⟨_, q_load_extb rfl rfl rfl rfl ⟨by assumption, (by first | exact id | assumption)⟩ (by rfl), ?_⟩
         | refine ⟨_, q_loadA_extb rfl rfl rfl rfl ⟨by assumption, (by first | exact id | assumption)⟩ (by rfl), ?_⟩
         | refine ⟨_, q_load_ext0 rfl rfl rfl rfl ⟨by assumption, (by first | exact id | assumption)⟩ (by rfl), ?_⟩)
      | refine jfield rfl rfl rfl rfl rfl rfl rfl rfl ?_
      | refine jcmp rfl rfl rfl rfl rfl rfl rfl ?_
      | refine jar rfl rfl rfl rfl rfl rfl rfl (by omega) ?_
      | refine jextract rfl rfl rfl rfl rfl rfl ?_
      | (refine gcall rfl rfl ?_
         first
         | (refine j_qc (f := 17) rfl rfl rfl rfl rfl rfl rfl ?_; refine ⟨_, (fun w' hs => by have h9 := Next_c (.slice none 0 0) (.slice none 0 0) (.slice none 0 0) (some ⟨bp, 0, none⟩) 3 exPts _ 1 [sumR] none 0 [] 11 0 w' rfl rfl rfl (by decide) (rs_of_cells hs (fun _ => rfl) (by (repeat (first | exact InL.here | apply InL.there)))) (by decide) ok1 (rs_of_cells (l := [sumR]) (b := b) hs (fun _ => rfl) (by (repeat (first | exact InL.here | apply InL.there)))) (by decide) RS.nil; rw [nx1] at h9; exact h9), ?_⟩)
         | (refine j_qc (f := 32) rfl rfl rfl rfl rfl rfl rfl ?_; refine ⟨_, (fun w' hs => is_c _ _ ([sumR] : List Ru) _ _ ([] : List Int) 11 0 2 w' (by decide) ok1 (rs_of_cells (l := [sumR]) hs (fun _ => rfl) (by (repeat (first | exact InL.here | apply InL.there)))) (by decide) RS.nil i1), ?_⟩)
         | (refine j_qc (f := 32) rfl rfl rfl rfl rfl rfl rfl ?_; refine ⟨_, (fun w' hs => is_c _ _ ([sumR, winR] : List Ru) _ _ ([] : List Int) 11 0 1 w' (by decide) ok2 (rs_of_cells (l := [sumR, winR]) hs (fun _ => rfl) (by (repeat (first | exact InL.here | apply InL.there)))) (by decide) RS.nil i2), ?_⟩)
         | (refine j_qc (f := 32) rfl rfl rfl rfl rfl rfl rfl ?_; refine ⟨_, (fun w' hs => is_c _ _ ([empR] : List Ru) _ _ ([] : List Int) 12 0 3 w' (by decide) ok3 (rs_of_cells (l := [empR]) hs (fun _ => rfl) (by (repeat (first | exact InL.here | apply InL.there)))) (by decide) RS.nil i3), ?_⟩)
         | (refine j_qc (f := 32) rfl rfl rfl rfl rfl rfl rfl ?_; refine ⟨_, (fun w' hs => is_c _ _ ([empR] : List Ru) _ _ ([] : List Int) 12 9 3 w' (by decide) ok3 (rs_of_cells (l := [empR]) hs (fun _ => rfl) (by (repeat (first | exact InL.here | apply InL.there)))) (by decide) RS.nil i4), ?_⟩)
         | (refine j_qc (f := 32) rfl rfl rfl rfl rfl rfl rfl ?_; refine ⟨_, (fun w' hs => is_c _ _ ([empR] : List Ru) _ _ ([] : List Int) 12 10 1 w' (by decide) ok3 (rs_of_cells (l := [empR]) hs (fun _ => rfl) (by (repeat (first | exact InL.here | apply InL.there)))) (by decide) RS.nil i5), ?_⟩)
         | (refine j_qc (f := 32) rfl rfl rfl rfl rfl rfl rfl ?_; refine ⟨_, (fun w' hs => is_c _ _ ([wkR] : List Ru) _ _ ([] : List Int) 12 4 1 w' (by decide) ok4 (rs_of_cells (l := [wkR]) hs (fun _ => rfl) (by (repeat (first | exact InL.here | apply InL.there)))) (by decide) RS.nil i6), ?_⟩)
         | (refine j_qc (f := 32) rfl rfl rfl rfl rfl rfl rfl ?_; refine ⟨_, (fun w' hs => is_c _ _ ([wkR] : List Ru) _ _ ([] : List Int) 12 5 2 w' (by decide) ok4 (rs_of_cells (l := [wkR]) hs (fun _ => rfl) (by (repeat (first | exact InL.here | apply InL.there)))) (by decide) RS.nil i7), ?_⟩)
         | (refine j_qc (f := 32) rfl rfl rfl rfl rfl rfl rfl ?_; refine ⟨_, (fun w' hs => is_c _ _ ([wkR] : List Ru) _ _ ([] : List Int) 12 6 2 w' (by decide) ok4 (rs_of_cells (l := [wkR]) hs (fun _ => rfl) (by (repeat (first | exact InL.here | apply InL.there)))) (by decide) RS.nil i8), ?_⟩)
         | (refine j_qc (f := 32) rfl rfl rfl rfl rfl rfl rfl ?_; refine ⟨_, (fun w' hs => is_c _ _ ([] : List Ru) _ _ ([0] : List Int) 13 0 2 w' (by decide) ok0 RS.nil (by decide) (rs_of_cells (l := ([0] : List Int)) hs (fun _ => rfl) (by (repeat (first | exact InL.here | apply InL.there)))) i9), ?_⟩)
         | (refine j_qc (f := 32) rfl rfl rfl rfl rfl rfl rfl ?_; refine ⟨_, (fun w' hs => is_c _ _ ([] : List Ru) _ _ ([0] : List Int) 13 1 1 w' (by decide) ok0 RS.nil (by decide) (rs_of_cells (l := ([0] : List Int)) hs (fun _ => rfl) (by (repeat (first | exact InL.here | apply InL.there)))) i10), ?_⟩)
         | (refine j_qc (f := 32) rfl rfl rfl rfl rfl rfl rfl ?_; refine ⟨_, (fun w' hs => is_c _ _ ([] : List Ru) _ _ ([] : List Int) 99 0 0 w' (by decide) ok0 RS.nil (by decide) RS.nil i11), ?_⟩)
         | (refine j_qc (f := 19) rfl rfl rfl rfl rfl rfl rfl ?_; refine ⟨_, (fun w' hs => same_c A1 c1 [11, 12] (some ⟨b, 0, none⟩) 2 [11, 12] w' (by decide) (rs_of_own (l := [11, 12]) hs (fun _ => rfl) (by (repeat (first | exact InL.here | apply InL.there)))) (by decide) (rs_of_cells hs (fun _ => rfl) (by (repeat (first | exact InL.here | apply InL.there))))), ?_⟩)
         | (refine j_qc (f := 19) rfl rfl rfl rfl rfl rfl rfl ?_; refine ⟨_, (fun w' hs => same_c A2 c2 [11, 12, 13] (some ⟨b, 0, none⟩) 3 [11, 12, 13] w' (by decide) (rs_of_own (l := [11, 12, 13]) hs (fun _ => rfl) (by (repeat (first | exact InL.here | apply InL.there)))) (by decide) (rs_of_cells hs (fun _ => rfl) (by (repeat (first | exact InL.here | apply InL.there))))), ?_⟩))
      | (refine gcall rfl rfl ?_; refine gF ?_; refine j_callN (f := 29) rfl rfl rfl rfl rfl rfl rfl exV (fun _ => True) exL (fun w' hs => example_c w') (fun _ => trivial) ?_; rintro bp _)
      | (refine gcall rfl rfl ?_; refine gF ?_; refine j_callN (f := 18) rfl rfl rfl rfl rfl rfl rfl (opV 0) (fun _ => True) (opL [11, 12]) (fun w' hs => by have h9 := Open_c (.slice none 0 0) (.slice none 0 0) (.slice none 0 0) (some ⟨bp, 0, none⟩) 3 exPts none 0 [] (some ⟨b, 0, none⟩) 1 [0] 0 w' rfl rfl rfl (by decide) (rs_of_cells hs (fun _ => rfl) (by (repeat (first | exact InL.here | apply InL.there)))) (by decide) ok0 RS.nil (by decide) (rs_of_cells hs (fun _ => rfl) (by (repeat (first | exact InL.here | apply InL.there)))); rw [op1, ck0] at h9; exact h9) (fun _ => trivial) ?_; rintro vo _; refine j_own (by exact InL.here) ?_; rintro A1 c1 rfl)
      | (refine gcall rfl rfl ?_; refine gF ?_; refine j_callN (f := 18) rfl rfl rfl rfl rfl rfl rfl (opV 0) (fun _ => True) (opL [11, 12, 13]) (fun w' hs => by have h9 := Open_c (.slice none 0 0) (.slice none 0 0) (.slice none 0 0) (some ⟨bp, 0, none⟩) 3 exPts none 0 [] (some ⟨b, 0, none⟩) 1 [0] 1 w' rfl rfl rfl (by decide) (rs_of_cells hs (fun _ => rfl) (by (repeat (first | exact InL.here | apply InL.there)))) (by decide) ok0 RS.nil (by decide) (rs_of_cells hs (fun _ => rfl) (by (repeat (first | exact InL.here | apply InL.there)))); rw [op2, ck1] at h9; exact h9) (fun _ => trivial) ?_; rintro vo _; refine j_own (by exact InL.here) ?_; rintro A2 c2 rfl)
      | (refine gF ?_
         first
         | refine j_store rfl rfl rfl rfl rfl rfl rfl rfl (by (repeat (first | exact Upd.here | apply Upd.there))) (by rfl) ?_
         | (refine j_alloc rfl rfl rfl rfl rfl ?_; intro b)
         | (refine j_box rfl rfl rfl rfl rfl ?_; intro b)
         | (refine j_buildSlice rfl rfl rfl rfl rfl rfl rfl rfl rfl rfl rfl rfl ?_; intro b)
         | (refine j_append rfl rfl rfl rfl rfl rfl rfl rfl rfl rfl rfl (by (repeat (first | exact InL.here | apply InL.there))) (by (repeat (first | exact InL.here | apply InL.there))) (by rfl) (by rfl) (by omega) (fun _ => by (repeat (first | exact Upd.here | apply Upd.there))) ?_; intro v))
      | (refine j_qe rfl rfl rfl ?_
         first
         | refine ⟨_, q_pick_t rfl rfl rfl, ?_⟩
         | refine ⟨_, q_pick_f rfl rfl rfl, ?_⟩
         | refine ⟨_, q_not rfl rfl, ?_⟩
         | refine ⟨_, q_index_nat rfl rfl rfl rfl rfl (by omega), ?_⟩
         | refine ⟨_, q_index_slice rfl rfl rfl rfl rfl (by omega), ?_⟩
         | refine ⟨_, q_index_arr rfl rfl rfl rfl rfl (by omega), ?_⟩
         | refine ⟨_, q_index_arr_ext rfl rfl rfl rfl rfl (by omega), ?_⟩
         | refine ⟨_, q_len_slice rfl rfl rfl rfl, ?_⟩
         | refine ⟨_, q_makeFunc rfl rfl, ?_⟩
         | refine ⟨_, q_build_struct rfl rfl rfl rfl rfl, ?_⟩
         | refine ⟨_, q_build_arr rfl rfl rfl rfl rfl, ?_⟩
         | refine ⟨_, q_nilCheck rfl rfl, ?_⟩
         | refine ⟨_, q_field_ext rfl rfl rfl rfl rfl, ?_⟩
         | refine ⟨_, q_quo rfl rfl rfl (by omega), ?_⟩
         | refine ⟨_, q_rem rfl rfl rfl (by omega), ?_⟩
         | refine ⟨_, q_quot rfl rfl rfl (by omega), ?_⟩
         | refine ⟨_, q_remt rfl rfl rfl (by omega), ?_⟩
         | refine ⟨_, q_addu8 rfl rfl rfl (by omega), ?_⟩
         | refine ⟨_, q_quou8 rfl rfl rfl (by omega), ?_⟩
         | refine ⟨_, q_shr1 rfl rfl rfl, ?_⟩
         | refine ⟨_, q_shr rfl rfl rfl ⟨by omega, by decide⟩, ?_⟩
         | refine ⟨_, q_shr rfl rfl rfl ⟨by omega, by show Int.toNat _ ≤ (8:Nat); omega⟩, ?_⟩
         | refine ⟨_, q_and1 rfl rfl rfl (by first | assumption | omega), ?_⟩
         | refine ⟨_, q_conv rfl rfl rfl rfl rfl rfl (by first | rfl | (exact i64_wrap (by omega) (by omega)) | (exact u8_wrap (by omega) (by omega)) | (exact u64_wrap (by omega) (by omega)) | (exact u16_wrap (by omega) (by omega))), ?_⟩)
      | refine j_guard_undef rfl rfl rfl rfl rfl ?_
      | (refine j_guard rfl rfl rfl rfl rfl ?_ ?_ <;> intro hc <;> (first | (exact absurd hc (by decide)) | ((try simp only [decide_eq_true_eq, decide_eq_false_iff_not, Bool.not_eq_true', Bool.not_eq_false', Bool.not_true, Bool.not_false, ne_eq, Decidable.not_not] at hc) <;> first | (exfalso; omega) | (exact absurd trivial hc) | skip))))
   | (refine gSC ?_
      first
      | refine sc_seq ?_
      | refine sc_region ?_
      | (refine sc_cond rfl ?_ ?_ <;> intro hc <;> (first | (exact absurd hc (by decide)) | ((try simp only [decide_eq_true_eq, decide_eq_false_iff_not, Bool.not_eq_true', Bool.not_eq_false', Bool.not_true, Bool.not_false, ne_eq, Decidable.not_not] at hc) <;> first | (exfalso; omega) | (exact absurd trivial hc) | skip)))
      | refine sc_block ?_
      | refine sc_ret ?_
      | refine sc_exit ?_
      | refine sc_skip ?_
      | refine sc_draw rfl mixed (by kernel_rfl) ?_)
   | (refine gSQ ?_
      first
      | refine sq_seq ?_
      | refine sq_blk ?_
      | refine sq_seq_ret ?_
      | refine sq_blk_ret ?_
      | refine sq_loop_ret ?_
      | refine sq_seq_exit ?_
      | refine sq_blk_hit ?_
      | refine sq_blk_miss rfl ?_
      | refine sq_loop_exit ?_
      | refine sq_ende (.inl rfl) rfl rfl ⟨_, (RVs.cons (RV.tmp rfl) (RVs.nil)), ?_⟩
      | refine sq_ende (.inr rfl) rfl rfl ⟨_, (RVs.cons (RV.tmp rfl) (RVs.nil)), ?_⟩)
   | refine j_nil ?_
   )
  (intro w' hS; refine ⟨?_, hS.below⟩; simp only [pack])
  first | rfl | exact rb (by decide) | exact rb (by simp)
end Go.Proofs.Ytbejfbekamikpaa
