/-
  letterbagref36.Release.
-/
import Derived.Test.YtmcmmmaffdenjaaRfr
namespace Go.Proofs.Ytmcmmmaffdenjaa
open Go.RowKit Eng
set_option linter.unusedVariables false
set_option linter.unusedSimpArgs false
set_option maxHeartbeats 8000000
attribute [local irreducible] SC SQ J Qt Calls Iterates
theorem cnd_step (l : List Od) (p d b x : Int) (D : List Int) : minC l p d b (x :: D) = minC l p d (if d < x ∧ x < b ∧ (wayF l p x).kd ≠ 2 then x else b) D := rfl
theorem Release2_c (A : Option Addr) (c : Nat) (l : List Od) (p d : Int) (w : World) (hl : rightL l) (h : RS w 6 odC A l) :
    Calls Try.prog 42 #[.slice A l.length c, .int .i64 p, .int .i64 d] w fun e w' => e = .returned (.tuple #[.int .i64 (rel2F l p d).1, .int .i64 (rel2F l p d).2]) ∧ Below w.heap.size w w' := by
  have hR : ∀ x w', RS w' 6 odC A l → Calls Try.prog 41 #[.slice A l.length c, .int .i64 p, .int .i64 x] w' _ := fun x w' h' => Resolve2_c A c l p x w' hl h'
  have hl5 := hl.1
  have e1 : (wayF l p d).kd ≠ 2 → rel2F l p d = (d, 0) := fun g => by unfold rel2F; rw [if_pos g]
  have e2 : (wayF l p d).kd = 2 → minC l p d 730485 (cndL l) = 730485 → rel2F l p d = (0, 6) := fun g g2 => by unfold rel2F; rw [if_neg (fun k => k g), if_pos g2]
  have e3 : (wayF l p d).kd = 2 → minC l p d 730485 (cndL l) ≠ 730485 → rel2F l p d = (minC l p d 730485 (cndL l), 0) := fun g g2 => by unfold rel2F; rw [if_neg (fun k => k g), if_neg g2]
  have hcl := cnd_len l
  have hst := cnd_step l p d
  have hat := fun i o ho => cnd_at (l := l) (i := i) (o := o) ho
  have hbd : ∀ o ∈ l, 0 ≤ o.st ∧ o.st ≤ 730484 ∧ 0 ≤ o.en ∧ o.en ≤ 730484 := fun o ho => by
    obtain ⟨⟨_, _, h1⟩, h2⟩ := okL_ok hl.2 o ho
    unfold dayI at h1
    rcases h2 with ⟨_, _, h2⟩ | ⟨_, _, h2⟩ | ⟨_, _, h2⟩ <;> omega
  generalize cndL l = D at *
  generalize hM : minC l p d 730485 D = M at *
  generalize rel2F l p d = Z at *
  generalize hn : l.length = n at *
  refine eng_start (n := 63) (args := [.slice A n c, .int .i64 p, .int .i64 d]) tab tab_ok fns fns_ok [.tmp 6, .tmp 7] Try.func42 rfl rfl rfl rfl ?_
  repeat' (first
   | (refine gJ ?_
      first
      | refine jmv rfl rfl rfl rfl rfl ?_
      | (refine gload rfl rfl ?_
         refine j_qe rfl rfl rfl ?_
         first
         | refine ⟨_, q_load_own rfl rfl rfl rfl (by (repeat (first | exact InL.here | apply InL.there))) (by first | rfl | assumption), ?_⟩
         | refine ⟨_, q_loadA_own rfl rfl rfl rfl (by (repeat (first | exact InL.here | apply InL.there))) (by rfl), ?_⟩
         | refine ⟨_, q_loadA_ext rfl rfl rfl rfl ⟨by assumption, (by first | exact id | assumption)⟩ (by rfl), ?_⟩
         | refine ⟨_, q_load_ext rfl rfl rfl rfl ⟨by assumption, (by first | exact id | assumption)⟩ (by first | rfl | assumption), ?_⟩
         | refine ⟨_, q_load_extb rfl rfl rfl rfl ⟨by assumption, (by first | exact id | assumption)⟩ (by rfl), ?_⟩
         | refine ⟨_, q_loadA_extb rfl rfl rfl rfl ⟨by assumption, (by first | exact id | assumption)⟩ (by rfl), ?_⟩
         | refine ⟨_, q_load_ext0 rfl rfl rfl rfl ⟨by assumption, (by first | exact id | assumption)⟩ (by rfl), ?_⟩)
      | refine jfield rfl rfl rfl rfl rfl rfl rfl rfl ?_
      | refine jcmp rfl rfl rfl rfl rfl rfl rfl ?_
      | refine jar rfl rfl rfl rfl rfl rfl rfl (by omega) ?_
      | (refine gcall rfl rfl ?_; refine gF ?_; refine j_callN (f := 41) rfl rfl rfl rfl rfl rfl rfl (fun x => wy2V x (wayF l p d)) (fun _ => True) (wyL (wayF l p d)) (fun w' hs => hR d w' (h.st hs)) (fun _ => trivial) ?_; rintro ⟨v1, v2⟩ _)
      | (refine j_qe rfl rfl rfl ?_; refine ⟨_, q_fieldv rfl Try.underlying68 rfl rfl rfl rfl rfl, ?_⟩)
      | (refine gF ?_
         first
         | (refine j_buildSlice rfl rfl rfl rfl rfl rfl rfl rfl rfl rfl rfl rfl ?_; intro b))
      | (refine j_qe rfl rfl rfl ?_
         first
         | refine ⟨_, q_pick_t rfl rfl rfl, ?_⟩
         | refine ⟨_, q_pick_f rfl rfl rfl, ?_⟩
         | refine ⟨_, q_index_nat rfl rfl rfl rfl rfl (by omega), ?_⟩
         | refine ⟨_, q_index_slice rfl rfl rfl rfl rfl (by omega), ?_⟩
         | refine ⟨_, q_index_arr rfl rfl rfl rfl rfl (by omega), ?_⟩
         | refine ⟨_, q_index_arr_ext rfl rfl rfl rfl rfl (by omega), ?_⟩
         | refine ⟨_, q_len_slice rfl rfl rfl rfl, ?_⟩
         | refine ⟨_, q_field_ext rfl rfl rfl rfl rfl, ?_⟩
         | refine ⟨_, q_addu8 rfl rfl rfl (by omega), ?_⟩)
      | refine j_guard_undef rfl rfl rfl rfl rfl ?_
      | (refine j_guard rfl rfl rfl rfl rfl ?_ ?_ <;> intro hc <;> (first | (exact absurd hc (by decide)) | ((try simp only [decide_eq_true_eq, decide_eq_false_iff_not, Bool.not_eq_true', Bool.not_eq_false', Bool.not_true, Bool.not_false, ne_eq, Decidable.not_not] at hc) <;> first | (exfalso; omega) | (exact absurd trivial hc) | skip))))
   | (refine gSC ?_
      first
      | refine sc_seq ?_
      | refine sc_region ?_
      | (refine sc_cond rfl ?_ ?_ <;> intro hc <;> (first | (exact absurd hc (by decide)) | ((try simp only [decide_eq_true_eq, decide_eq_false_iff_not, Bool.not_eq_true', Bool.not_eq_false', Bool.not_true, Bool.not_false, ne_eq, Decidable.not_not] at hc) <;> first | (exfalso; omega) | (exact absurd trivial hc) | skip)))
      | refine sc_block ?_
      | refine sc_ret ?_
      | refine sc_exit ?_
      | refine sc_skip ?_
      | refine sc_draw rfl mixed (by kernel_rfl) ?_)
   | (refine gSQ ?_
      first
      | refine sq_seq ?_
      | refine sq_blk ?_
      | refine sq_seq_ret ?_
      | refine sq_blk_ret ?_
      | refine sq_loop_ret ?_
      | refine sq_seq_exit ?_
      | refine sq_blk_hit ?_
      | refine sq_blk_miss rfl ?_
      | refine sq_loop_exit ?_
      | refine sq_ende (.inl rfl) rfl rfl ⟨_, (RVs.cons (RV.tmp rfl) (RVs.cons (RV.tmp rfl) (RVs.nil))), ?_⟩
      | refine sq_ende (.inr rfl) rfl rfl ⟨_, (RVs.cons (RV.tmp rfl) (RVs.cons (RV.tmp rfl) (RVs.nil))), ?_⟩)
   | refine j_nil ?_
   )
  · (intro w' hS; refine ⟨?_, hS.below⟩; simp only [pack])
    rw [e1 (by omega)]
  · have hk2 : (wayF l p d).kd = 2 := by omega
    refine sc_loop (ι := Nat × Int) (fun i => i.1 ≤ n ∧ i.2 ≤ 730485 ∧ M = minC l p d i.2 (D.drop (2 * i.1))) (fun i => n - i.1) (fun i => [(0, .slice A n c), (1, .int .i64 p), (2, .int .i64 d), (8, .int .i64 i.2), (9, .int .i64 i.1)]) (fun _ => []) (0, 730485) ⟨by omega, by omega, by rw [hM.symm]; rfl⟩ (by repeat (first | exact FSub.nil | refine FSub.cons rfl ?_ | refine FSub.conse rfl (by congr 1; omega) ?_)) (by repeat (first | exact LSub.refl | refine LSub.cons (by repeat (first | exact Rem.here | apply Rem.there)) ?_ | apply LSub.skip)) ?_
    rintro ⟨i, b0⟩ ⟨hi, hb5, hr⟩
    dsimp only at hi hb5 hr ⊢
    by_cases hlt : i < n
    · obtain ⟨o, ho⟩ : ∃ o, l[i]? = some o := ⟨_, List.getElem?_eq_getElem (by omega)⟩
      obtain ⟨ad, rfl, hX⟩ := h i o ho
      rw [hat i o ho] at hr
      have hbo := hbd o (List.mem_of_getElem? ho)
      repeat' (first
       | (refine gJ ?_
          first
          | refine jmv rfl rfl rfl rfl rfl ?_
          | (refine gload rfl rfl ?_
             refine j_qe rfl rfl rfl ?_
             first
             | refine ⟨_, q_load_own rfl rfl rfl rfl (by (repeat (first | exact InL.here | apply InL.there))) (by first | rfl | assumption), ?_⟩
             | refine ⟨_, q_loadA_own rfl rfl rfl rfl (by (repeat (first | exact InL.here | apply InL.there))) (by rfl), ?_⟩
             | refine ⟨_, q_loadA_ext rfl rfl rfl rfl ⟨by assumption, (by first | exact id | assumption)⟩ (by rfl), ?_⟩
             | refine ⟨_, q_load_ext rfl rfl rfl rfl ⟨by assumption, (by first | exact id | assumption)⟩ (by first | rfl | assumption), ?_⟩
             | refine ⟨_, q_load_extb rfl rfl rfl rfl ⟨by assumption, (by first | exact id | assumption)⟩ (by rfl), ?_⟩
             | refine ⟨_, q_loadA_extb rfl rfl rfl rfl ⟨by assumption, (by first | exact id | assumption)⟩ (by rfl), ?_⟩
             | refine ⟨_, q_load_ext0 rfl rfl rfl rfl ⟨by assumption, (by first | exact id | assumption)⟩ (by rfl), ?_⟩)
          | refine jfield rfl rfl rfl rfl rfl rfl rfl rfl ?_
          | refine jcmp rfl rfl rfl rfl rfl rfl rfl ?_
          | refine jar rfl rfl rfl rfl rfl rfl rfl (by omega) ?_
          | (refine gF ?_
             first
             | (refine j_buildSlice rfl rfl rfl rfl rfl rfl rfl rfl rfl rfl rfl rfl ?_; intro b))
          | (refine j_qe rfl rfl rfl ?_
             first
             | refine ⟨_, q_pick_t rfl rfl rfl, ?_⟩
             | refine ⟨_, q_pick_f rfl rfl rfl, ?_⟩
             | refine ⟨_, q_index_nat rfl rfl rfl rfl rfl (by omega), ?_⟩
             | refine ⟨_, q_index_slice rfl rfl rfl rfl rfl (by omega), ?_⟩
             | refine ⟨_, q_index_arr rfl rfl rfl rfl rfl (by omega), ?_⟩
             | refine ⟨_, q_index_arr_ext rfl rfl rfl rfl rfl (by omega), ?_⟩
             | refine ⟨_, q_len_slice rfl rfl rfl rfl, ?_⟩
             | refine ⟨_, q_field_ext rfl rfl rfl rfl rfl, ?_⟩
             | refine ⟨_, q_addu8 rfl rfl rfl (by omega), ?_⟩)
          | refine j_guard_undef rfl rfl rfl rfl rfl ?_
          | (refine j_guard rfl rfl rfl rfl rfl ?_ ?_ <;> intro hc <;> (first | (exact absurd hc (by decide)) | ((try simp only [decide_eq_true_eq, decide_eq_false_iff_not, Bool.not_eq_true', Bool.not_eq_false', Bool.not_true, Bool.not_false, ne_eq, Decidable.not_not] at hc) <;> first | (exfalso; omega) | (exact absurd trivial hc) | skip))))
       | (refine gSC ?_
          first
          | refine sc_seq ?_
          | refine sc_region ?_
          | (refine sc_cond rfl ?_ ?_ <;> intro hc <;> (first | (exact absurd hc (by decide)) | ((try simp only [decide_eq_true_eq, decide_eq_false_iff_not, Bool.not_eq_true', Bool.not_eq_false', Bool.not_true, Bool.not_false, ne_eq, Decidable.not_not] at hc) <;> first | (exfalso; omega) | (exact absurd trivial hc) | skip)))
          | refine sc_block ?_
          | refine sc_ret ?_
          | refine sc_exit ?_
          | refine sc_skip ?_)
       | (refine gSQ ?_
          first
          | refine sq_seq ?_
          | refine sq_blk ?_
          | refine sq_seq_ret ?_
          | refine sq_blk_ret ?_
          | refine sq_loop_ret ?_
          | refine sq_seq_exit ?_
          | refine sq_blk_hit ?_
          | refine sq_blk_miss rfl ?_
          | refine sq_loop_exit ?_
          | refine sq_ende (.inl rfl) rfl rfl ⟨_, (RVs.cons (RV.tmp rfl) (RVs.cons (RV.tmp rfl) (RVs.nil))), ?_⟩
          | refine sq_ende (.inr rfl) rfl rfl ⟨_, (RVs.cons (RV.tmp rfl) (RVs.cons (RV.tmp rfl) (RVs.nil))), ?_⟩)
       | refine j_nil ?_
       )
      refine sc_mixed [] rfl mixed ?_
      (refine ja_take 0 rfl (by kernel_rfl) rfl rfl rfl (by repeat (first | exact LSub.nil | refine LSub.cons (by repeat (first | exact Rem.here | apply Rem.there)) ?_)) ?_; first | refine ⟨_, q_move rfl rfl, ?_⟩ | refine ⟨_, q_assign rfl rfl, ?_⟩ | refine ⟨_, q_field_own rfl rfl rfl rfl rfl, ?_⟩ | refine ⟨_, q_extract rfl rfl rfl, ?_⟩ | refine ⟨_, q_add rfl rfl rfl (by omega), ?_⟩ | refine ⟨_, q_sub rfl rfl rfl (by omega), ?_⟩ | refine ⟨_, q_mul rfl rfl rfl (by omega), ?_⟩ | refine ⟨_, q_lss rfl rfl rfl, ?_⟩ | refine ⟨_, q_leq rfl rfl rfl, ?_⟩ | refine ⟨_, q_gtr rfl rfl rfl, ?_⟩ | refine ⟨_, q_geq rfl rfl rfl, ?_⟩ | refine ⟨_, q_eql rfl rfl rfl, ?_⟩ | refine ⟨_, q_neq rfl rfl rfl, ?_⟩ | refine ⟨_, q_pick_t rfl rfl rfl, ?_⟩ | refine ⟨_, q_pick_f rfl rfl rfl, ?_⟩ | refine ⟨_, q_not rfl rfl, ?_⟩ | refine ⟨_, q_index_nat rfl rfl rfl rfl rfl (by omega), ?_⟩ | refine ⟨_, q_index_slice rfl rfl rfl rfl rfl (by omega), ?_⟩ | refine ⟨_, q_index_arr rfl rfl rfl rfl rfl (by omega), ?_⟩ | refine ⟨_, q_index_arr_ext rfl rfl rfl rfl rfl (by omega), ?_⟩ | refine ⟨_, q_len_slice rfl rfl rfl rfl, ?_⟩ | refine ⟨_, q_makeFunc rfl rfl, ?_⟩ | refine ⟨_, q_build_struct rfl rfl rfl rfl rfl, ?_⟩ | refine ⟨_, q_build_arr rfl rfl rfl rfl rfl, ?_⟩ | refine ⟨_, q_nilCheck rfl rfl, ?_⟩ | refine ⟨_, q_field_ext rfl rfl rfl rfl rfl, ?_⟩ | refine ⟨_, q_quo rfl rfl rfl (by omega), ?_⟩ | refine ⟨_, q_rem rfl rfl rfl (by omega), ?_⟩ | refine ⟨_, q_quot rfl rfl rfl (by omega), ?_⟩ | refine ⟨_, q_remt rfl rfl rfl (by omega), ?_⟩ | refine ⟨_, q_addu8 rfl rfl rfl (by omega), ?_⟩ | refine ⟨_, q_quou8 rfl rfl rfl (by omega), ?_⟩ | refine ⟨_, q_shr1 rfl rfl rfl, ?_⟩ | refine ⟨_, q_shr rfl rfl rfl ⟨by omega, by decide⟩, ?_⟩ | refine ⟨_, q_shr rfl rfl rfl ⟨by omega, by show Int.toNat _ ≤ (8:Nat); omega⟩, ?_⟩ | refine ⟨_, q_and1 rfl rfl rfl (by first | assumption | omega), ?_⟩ | refine ⟨_, q_conv rfl rfl rfl rfl rfl rfl (by first | rfl | (exact i64_wrap (by omega) (by omega)) | (exact u8_wrap (by omega) (by omega)) | (exact u64_wrap (by omega) (by omega)) | (exact u16_wrap (by omega) (by omega))), ?_⟩ | refine ⟨_, q_load_own rfl rfl rfl rfl (by (repeat (first | exact InL.here | apply InL.there))) (by first | rfl | assumption), ?_⟩ | refine ⟨_, q_loadA_own rfl rfl rfl rfl (by (repeat (first | exact InL.here | apply InL.there))) (by rfl), ?_⟩ | refine ⟨_, q_loadA_ext rfl rfl rfl rfl ⟨by assumption, (by first | exact id | assumption)⟩ (by rfl), ?_⟩ | refine ⟨_, q_load_ext rfl rfl rfl rfl ⟨by assumption, (by first | exact id | assumption)⟩ (by first | rfl | assumption), ?_⟩ | refine ⟨_, q_load_extb rfl rfl rfl rfl ⟨by assumption, (by first | exact id | assumption)⟩ (by rfl), ?_⟩ | refine ⟨_, q_loadA_extb rfl rfl rfl rfl ⟨by assumption, (by first | exact id | assumption)⟩ (by rfl), ?_⟩ | refine ⟨_, q_load_ext0 rfl rfl rfl rfl ⟨by assumption, (by first | exact id | assumption)⟩ (by rfl), ?_⟩)
      (refine ja_take 1 rfl (by kernel_rfl) rfl rfl rfl (by repeat (first | exact LSub.nil | refine LSub.cons (by repeat (first | exact Rem.here | apply Rem.there)) ?_)) ?_; first | refine ⟨_, q_move rfl rfl, ?_⟩ | refine ⟨_, q_assign rfl rfl, ?_⟩ | refine ⟨_, q_field_own rfl rfl rfl rfl rfl, ?_⟩ | refine ⟨_, q_extract rfl rfl rfl, ?_⟩ | refine ⟨_, q_add rfl rfl rfl (by omega), ?_⟩ | refine ⟨_, q_sub rfl rfl rfl (by omega), ?_⟩ | refine ⟨_, q_mul rfl rfl rfl (by omega), ?_⟩ | refine ⟨_, q_lss rfl rfl rfl, ?_⟩ | refine ⟨_, q_leq rfl rfl rfl, ?_⟩ | refine ⟨_, q_gtr rfl rfl rfl, ?_⟩ | refine ⟨_, q_geq rfl rfl rfl, ?_⟩ | refine ⟨_, q_eql rfl rfl rfl, ?_⟩ | refine ⟨_, q_neq rfl rfl rfl, ?_⟩ | refine ⟨_, q_pick_t rfl rfl rfl, ?_⟩ | refine ⟨_, q_pick_f rfl rfl rfl, ?_⟩ | refine ⟨_, q_not rfl rfl, ?_⟩ | refine ⟨_, q_index_nat rfl rfl rfl rfl rfl (by omega), ?_⟩ | refine ⟨_, q_index_slice rfl rfl rfl rfl rfl (by omega), ?_⟩ | refine ⟨_, q_index_arr rfl rfl rfl rfl rfl (by omega), ?_⟩ | refine ⟨_, q_index_arr_ext rfl rfl rfl rfl rfl (by omega), ?_⟩ | refine ⟨_, q_len_slice rfl rfl rfl rfl, ?_⟩ | refine ⟨_, q_makeFunc rfl rfl, ?_⟩ | refine ⟨_, q_build_struct rfl rfl rfl rfl rfl, ?_⟩ | refine ⟨_, q_build_arr rfl rfl rfl rfl rfl, ?_⟩ | refine ⟨_, q_nilCheck rfl rfl, ?_⟩ | refine ⟨_, q_field_ext rfl rfl rfl rfl rfl, ?_⟩ | refine ⟨_, q_quo rfl rfl rfl (by omega), ?_⟩ | refine ⟨_, q_rem rfl rfl rfl (by omega), ?_⟩ | refine ⟨_, q_quot rfl rfl rfl (by omega), ?_⟩ | refine ⟨_, q_remt rfl rfl rfl (by omega), ?_⟩ | refine ⟨_, q_addu8 rfl rfl rfl (by omega), ?_⟩ | refine ⟨_, q_quou8 rfl rfl rfl (by omega), ?_⟩ | refine ⟨_, q_shr1 rfl rfl rfl, ?_⟩ | refine ⟨_, q_shr rfl rfl rfl ⟨by omega, by decide⟩, ?_⟩ | refine ⟨_, q_shr rfl rfl rfl ⟨by omega, by show Int.toNat _ ≤ (8:Nat); omega⟩, ?_⟩ | refine ⟨_, q_and1 rfl rfl rfl (by first | assumption | omega), ?_⟩ | refine ⟨_, q_conv rfl rfl rfl rfl rfl rfl (by first | rfl | (exact i64_wrap (by omega) (by omega)) | (exact u8_wrap (by omega) (by omega)) | (exact u64_wrap (by omega) (by omega)) | (exact u16_wrap (by omega) (by omega))), ?_⟩ | refine ⟨_, q_load_own rfl rfl rfl rfl (by (repeat (first | exact InL.here | apply InL.there))) (by first | rfl | assumption), ?_⟩ | refine ⟨_, q_loadA_own rfl rfl rfl rfl (by (repeat (first | exact InL.here | apply InL.there))) (by rfl), ?_⟩ | refine ⟨_, q_loadA_ext rfl rfl rfl rfl ⟨by assumption, (by first | exact id | assumption)⟩ (by rfl), ?_⟩ | refine ⟨_, q_load_ext rfl rfl rfl rfl ⟨by assumption, (by first | exact id | assumption)⟩ (by first | rfl | assumption), ?_⟩ | refine ⟨_, q_load_extb rfl rfl rfl rfl ⟨by assumption, (by first | exact id | assumption)⟩ (by rfl), ?_⟩ | refine ⟨_, q_loadA_extb rfl rfl rfl rfl ⟨by assumption, (by first | exact id | assumption)⟩ (by rfl), ?_⟩ | refine ⟨_, q_load_ext0 rfl rfl rfl rfl ⟨by assumption, (by first | exact id | assumption)⟩ (by rfl), ?_⟩)
      (refine ja_take 2 rfl (by kernel_rfl) rfl rfl rfl (by repeat (first | exact LSub.nil | refine LSub.cons (by repeat (first | exact Rem.here | apply Rem.there)) ?_)) ?_; first | refine ⟨_, q_move rfl rfl, ?_⟩ | refine ⟨_, q_assign rfl rfl, ?_⟩ | refine ⟨_, q_field_own rfl rfl rfl rfl rfl, ?_⟩ | refine ⟨_, q_extract rfl rfl rfl, ?_⟩ | refine ⟨_, q_add rfl rfl rfl (by omega), ?_⟩ | refine ⟨_, q_sub rfl rfl rfl (by omega), ?_⟩ | refine ⟨_, q_mul rfl rfl rfl (by omega), ?_⟩ | refine ⟨_, q_lss rfl rfl rfl, ?_⟩ | refine ⟨_, q_leq rfl rfl rfl, ?_⟩ | refine ⟨_, q_gtr rfl rfl rfl, ?_⟩ | refine ⟨_, q_geq rfl rfl rfl, ?_⟩ | refine ⟨_, q_eql rfl rfl rfl, ?_⟩ | refine ⟨_, q_neq rfl rfl rfl, ?_⟩ | refine ⟨_, q_pick_t rfl rfl rfl, ?_⟩ | refine ⟨_, q_pick_f rfl rfl rfl, ?_⟩ | refine ⟨_, q_not rfl rfl, ?_⟩ | refine ⟨_, q_index_nat rfl rfl rfl rfl rfl (by omega), ?_⟩ | refine ⟨_, q_index_slice rfl rfl rfl rfl rfl (by omega), ?_⟩ | refine ⟨_, q_index_arr rfl rfl rfl rfl rfl (by omega), ?_⟩ | refine ⟨_, q_index_arr_ext rfl rfl rfl rfl rfl (by omega), ?_⟩ | refine ⟨_, q_len_slice rfl rfl rfl rfl, ?_⟩ | refine ⟨_, q_makeFunc rfl rfl, ?_⟩ | refine ⟨_, q_build_struct rfl rfl rfl rfl rfl, ?_⟩ | refine ⟨_, q_build_arr rfl rfl rfl rfl rfl, ?_⟩ | refine ⟨_, q_nilCheck rfl rfl, ?_⟩ | refine ⟨_, q_field_ext rfl rfl rfl rfl rfl, ?_⟩ | refine ⟨_, q_quo rfl rfl rfl (by omega), ?_⟩ | refine ⟨_, q_rem rfl rfl rfl (by omega), ?_⟩ | refine ⟨_, q_quot rfl rfl rfl (by omega), ?_⟩ | refine ⟨_, q_remt rfl rfl rfl (by omega), ?_⟩ | refine ⟨_, q_addu8 rfl rfl rfl (by omega), ?_⟩ | refine ⟨_, q_quou8 rfl rfl rfl (by omega), ?_⟩ | refine ⟨_, q_shr1 rfl rfl rfl, ?_⟩ | refine ⟨_, q_shr rfl rfl rfl ⟨by omega, by decide⟩, ?_⟩ | refine ⟨_, q_shr rfl rfl rfl ⟨by omega, by show Int.toNat _ ≤ (8:Nat); omega⟩, ?_⟩ | refine ⟨_, q_and1 rfl rfl rfl (by first | assumption | omega), ?_⟩ | refine ⟨_, q_conv rfl rfl rfl rfl rfl rfl (by first | rfl | (exact i64_wrap (by omega) (by omega)) | (exact u8_wrap (by omega) (by omega)) | (exact u64_wrap (by omega) (by omega)) | (exact u16_wrap (by omega) (by omega))), ?_⟩ | refine ⟨_, q_load_own rfl rfl rfl rfl (by (repeat (first | exact InL.here | apply InL.there))) (by first | rfl | assumption), ?_⟩ | refine ⟨_, q_loadA_own rfl rfl rfl rfl (by (repeat (first | exact InL.here | apply InL.there))) (by rfl), ?_⟩ | refine ⟨_, q_loadA_ext rfl rfl rfl rfl ⟨by assumption, (by first | exact id | assumption)⟩ (by rfl), ?_⟩ | refine ⟨_, q_load_ext rfl rfl rfl rfl ⟨by assumption, (by first | exact id | assumption)⟩ (by first | rfl | assumption), ?_⟩ | refine ⟨_, q_load_extb rfl rfl rfl rfl ⟨by assumption, (by first | exact id | assumption)⟩ (by rfl), ?_⟩ | refine ⟨_, q_loadA_extb rfl rfl rfl rfl ⟨by assumption, (by first | exact id | assumption)⟩ (by rfl), ?_⟩ | refine ⟨_, q_load_ext0 rfl rfl rfl rfl ⟨by assumption, (by first | exact id | assumption)⟩ (by rfl), ?_⟩)
      (refine ja_take 3 rfl (by kernel_rfl) rfl rfl rfl (by repeat (first | exact LSub.nil | refine LSub.cons (by repeat (first | exact Rem.here | apply Rem.there)) ?_)) ?_; first | refine ⟨_, q_move rfl rfl, ?_⟩ | refine ⟨_, q_assign rfl rfl, ?_⟩ | refine ⟨_, q_field_own rfl rfl rfl rfl rfl, ?_⟩ | refine ⟨_, q_extract rfl rfl rfl, ?_⟩ | refine ⟨_, q_add rfl rfl rfl (by omega), ?_⟩ | refine ⟨_, q_sub rfl rfl rfl (by omega), ?_⟩ | refine ⟨_, q_mul rfl rfl rfl (by omega), ?_⟩ | refine ⟨_, q_lss rfl rfl rfl, ?_⟩ | refine ⟨_, q_leq rfl rfl rfl, ?_⟩ | refine ⟨_, q_gtr rfl rfl rfl, ?_⟩ | refine ⟨_, q_geq rfl rfl rfl, ?_⟩ | refine ⟨_, q_eql rfl rfl rfl, ?_⟩ | refine ⟨_, q_neq rfl rfl rfl, ?_⟩ | refine ⟨_, q_pick_t rfl rfl rfl, ?_⟩ | refine ⟨_, q_pick_f rfl rfl rfl, ?_⟩ | refine ⟨_, q_not rfl rfl, ?_⟩ | refine ⟨_, q_index_nat rfl rfl rfl rfl rfl (by omega), ?_⟩ | refine ⟨_, q_index_slice rfl rfl rfl rfl rfl (by omega), ?_⟩ | refine ⟨_, q_index_arr rfl rfl rfl rfl rfl (by omega), ?_⟩ | refine ⟨_, q_index_arr_ext rfl rfl rfl rfl rfl (by omega), ?_⟩ | refine ⟨_, q_len_slice rfl rfl rfl rfl, ?_⟩ | refine ⟨_, q_makeFunc rfl rfl, ?_⟩ | refine ⟨_, q_build_struct rfl rfl rfl rfl rfl, ?_⟩ | refine ⟨_, q_build_arr rfl rfl rfl rfl rfl, ?_⟩ | refine ⟨_, q_nilCheck rfl rfl, ?_⟩ | refine ⟨_, q_field_ext rfl rfl rfl rfl rfl, ?_⟩ | refine ⟨_, q_quo rfl rfl rfl (by omega), ?_⟩ | refine ⟨_, q_rem rfl rfl rfl (by omega), ?_⟩ | refine ⟨_, q_quot rfl rfl rfl (by omega), ?_⟩ | refine ⟨_, q_remt rfl rfl rfl (by omega), ?_⟩ | refine ⟨_, q_addu8 rfl rfl rfl (by omega), ?_⟩ | refine ⟨_, q_quou8 rfl rfl rfl (by omega), ?_⟩ | refine ⟨_, q_shr1 rfl rfl rfl, ?_⟩ | refine ⟨_, q_shr rfl rfl rfl ⟨by omega, by decide⟩, ?_⟩ | refine ⟨_, q_shr rfl rfl rfl ⟨by omega, by show Int.toNat _ ≤ (8:Nat); omega⟩, ?_⟩ | refine ⟨_, q_and1 rfl rfl rfl (by first | assumption | omega), ?_⟩ | refine ⟨_, q_conv rfl rfl rfl rfl rfl rfl (by first | rfl | (exact i64_wrap (by omega) (by omega)) | (exact u8_wrap (by omega) (by omega)) | (exact u64_wrap (by omega) (by omega)) | (exact u16_wrap (by omega) (by omega))), ?_⟩ | refine ⟨_, q_load_own rfl rfl rfl rfl (by (repeat (first | exact InL.here | apply InL.there))) (by first | rfl | assumption), ?_⟩ | refine ⟨_, q_loadA_own rfl rfl rfl rfl (by (repeat (first | exact InL.here | apply InL.there))) (by rfl), ?_⟩ | refine ⟨_, q_loadA_ext rfl rfl rfl rfl ⟨by assumption, (by first | exact id | assumption)⟩ (by rfl), ?_⟩ | refine ⟨_, q_load_ext rfl rfl rfl rfl ⟨by assumption, (by first | exact id | assumption)⟩ (by first | rfl | assumption), ?_⟩ | refine ⟨_, q_load_extb rfl rfl rfl rfl ⟨by assumption, (by first | exact id | assumption)⟩ (by rfl), ?_⟩ | refine ⟨_, q_loadA_extb rfl rfl rfl rfl ⟨by assumption, (by first | exact id | assumption)⟩ (by rfl), ?_⟩ | refine ⟨_, q_load_ext0 rfl rfl rfl rfl ⟨by assumption, (by first | exact id | assumption)⟩ (by rfl), ?_⟩)
      (refine ja_take 4 rfl (by kernel_rfl) rfl rfl rfl (by repeat (first | exact LSub.nil | refine LSub.cons (by repeat (first | exact Rem.here | apply Rem.there)) ?_)) ?_; first | refine ⟨_, q_move rfl rfl, ?_⟩ | refine ⟨_, q_assign rfl rfl, ?_⟩ | refine ⟨_, q_field_own rfl rfl rfl rfl rfl, ?_⟩ | refine ⟨_, q_extract rfl rfl rfl, ?_⟩ | refine ⟨_, q_add rfl rfl rfl (by omega), ?_⟩ | refine ⟨_, q_sub rfl rfl rfl (by omega), ?_⟩ | refine ⟨_, q_mul rfl rfl rfl (by omega), ?_⟩ | refine ⟨_, q_lss rfl rfl rfl, ?_⟩ | refine ⟨_, q_leq rfl rfl rfl, ?_⟩ | refine ⟨_, q_gtr rfl rfl rfl, ?_⟩ | refine ⟨_, q_geq rfl rfl rfl, ?_⟩ | refine ⟨_, q_eql rfl rfl rfl, ?_⟩ | refine ⟨_, q_neq rfl rfl rfl, ?_⟩ | refine ⟨_, q_pick_t rfl rfl rfl, ?_⟩ | refine ⟨_, q_pick_f rfl rfl rfl, ?_⟩ | refine ⟨_, q_not rfl rfl, ?_⟩ | refine ⟨_, q_index_nat rfl rfl rfl rfl rfl (by omega), ?_⟩ | refine ⟨_, q_index_slice rfl rfl rfl rfl rfl (by omega), ?_⟩ | refine ⟨_, q_index_arr rfl rfl rfl rfl rfl (by omega), ?_⟩ | refine ⟨_, q_index_arr_ext rfl rfl rfl rfl rfl (by omega), ?_⟩ | refine ⟨_, q_len_slice rfl rfl rfl rfl, ?_⟩ | refine ⟨_, q_makeFunc rfl rfl, ?_⟩ | refine ⟨_, q_build_struct rfl rfl rfl rfl rfl, ?_⟩ | refine ⟨_, q_build_arr rfl rfl rfl rfl rfl, ?_⟩ | refine ⟨_, q_nilCheck rfl rfl, ?_⟩ | refine ⟨_, q_field_ext rfl rfl rfl rfl rfl, ?_⟩ | refine ⟨_, q_quo rfl rfl rfl (by omega), ?_⟩ | refine ⟨_, q_rem rfl rfl rfl (by omega), ?_⟩ | refine ⟨_, q_quot rfl rfl rfl (by omega), ?_⟩ | refine ⟨_, q_remt rfl rfl rfl (by omega), ?_⟩ | refine ⟨_, q_addu8 rfl rfl rfl (by omega), ?_⟩ | refine ⟨_, q_quou8 rfl rfl rfl (by omega), ?_⟩ | refine ⟨_, q_shr1 rfl rfl rfl, ?_⟩ | refine ⟨_, q_shr rfl rfl rfl ⟨by omega, by decide⟩, ?_⟩ | refine ⟨_, q_shr rfl rfl rfl ⟨by omega, by show Int.toNat _ ≤ (8:Nat); omega⟩, ?_⟩ | refine ⟨_, q_and1 rfl rfl rfl (by first | assumption | omega), ?_⟩ | refine ⟨_, q_conv rfl rfl rfl rfl rfl rfl (by first | rfl | (exact i64_wrap (by omega) (by omega)) | (exact u8_wrap (by omega) (by omega)) | (exact u64_wrap (by omega) (by omega)) | (exact u16_wrap (by omega) (by omega))), ?_⟩ | refine ⟨_, q_load_own rfl rfl rfl rfl (by (repeat (first | exact InL.here | apply InL.there))) (by first | rfl | assumption), ?_⟩ | refine ⟨_, q_loadA_own rfl rfl rfl rfl (by (repeat (first | exact InL.here | apply InL.there))) (by rfl), ?_⟩ | refine ⟨_, q_loadA_ext rfl rfl rfl rfl ⟨by assumption, (by first | exact id | assumption)⟩ (by rfl), ?_⟩ | refine ⟨_, q_load_ext rfl rfl rfl rfl ⟨by assumption, (by first | exact id | assumption)⟩ (by first | rfl | assumption), ?_⟩ | refine ⟨_, q_load_extb rfl rfl rfl rfl ⟨by assumption, (by first | exact id | assumption)⟩ (by rfl), ?_⟩ | refine ⟨_, q_loadA_extb rfl rfl rfl rfl ⟨by assumption, (by first | exact id | assumption)⟩ (by rfl), ?_⟩ | refine ⟨_, q_load_ext0 rfl rfl rfl rfl ⟨by assumption, (by first | exact id | assumption)⟩ (by rfl), ?_⟩)
      (refine ja_take 5 rfl (by kernel_rfl) rfl rfl rfl (by repeat (first | exact LSub.nil | refine LSub.cons (by repeat (first | exact Rem.here | apply Rem.there)) ?_)) ?_; first | refine ⟨_, q_move rfl rfl, ?_⟩ | refine ⟨_, q_assign rfl rfl, ?_⟩ | refine ⟨_, q_field_own rfl rfl rfl rfl rfl, ?_⟩ | refine ⟨_, q_extract rfl rfl rfl, ?_⟩ | refine ⟨_, q_add rfl rfl rfl (by omega), ?_⟩ | refine ⟨_, q_sub rfl rfl rfl (by omega), ?_⟩ | refine ⟨_, q_mul rfl rfl rfl (by omega), ?_⟩ | refine ⟨_, q_lss rfl rfl rfl, ?_⟩ | refine ⟨_, q_leq rfl rfl rfl, ?_⟩ | refine ⟨_, q_gtr rfl rfl rfl, ?_⟩ | refine ⟨_, q_geq rfl rfl rfl, ?_⟩ | refine ⟨_, q_eql rfl rfl rfl, ?_⟩ | refine ⟨_, q_neq rfl rfl rfl, ?_⟩ | refine ⟨_, q_pick_t rfl rfl rfl, ?_⟩ | refine ⟨_, q_pick_f rfl rfl rfl, ?_⟩ | refine ⟨_, q_not rfl rfl, ?_⟩ | refine ⟨_, q_index_nat rfl rfl rfl rfl rfl (by omega), ?_⟩ | refine ⟨_, q_index_slice rfl rfl rfl rfl rfl (by omega), ?_⟩ | refine ⟨_, q_index_arr rfl rfl rfl rfl rfl (by omega), ?_⟩ | refine ⟨_, q_index_arr_ext rfl rfl rfl rfl rfl (by omega), ?_⟩ | refine ⟨_, q_len_slice rfl rfl rfl rfl, ?_⟩ | refine ⟨_, q_makeFunc rfl rfl, ?_⟩ | refine ⟨_, q_build_struct rfl rfl rfl rfl rfl, ?_⟩ | refine ⟨_, q_build_arr rfl rfl rfl rfl rfl, ?_⟩ | refine ⟨_, q_nilCheck rfl rfl, ?_⟩ | refine ⟨_, q_field_ext rfl rfl rfl rfl rfl, ?_⟩ | refine ⟨_, q_quo rfl rfl rfl (by omega), ?_⟩ | refine ⟨_, q_rem rfl rfl rfl (by omega), ?_⟩ | refine ⟨_, q_quot rfl rfl rfl (by omega), ?_⟩ | refine ⟨_, q_remt rfl rfl rfl (by omega), ?_⟩ | refine ⟨_, q_addu8 rfl rfl rfl (by omega), ?_⟩ | refine ⟨_, q_quou8 rfl rfl rfl (by omega), ?_⟩ | refine ⟨_, q_shr1 rfl rfl rfl, ?_⟩ | refine ⟨_, q_shr rfl rfl rfl ⟨by omega, by decide⟩, ?_⟩ | refine ⟨_, q_shr rfl rfl rfl ⟨by omega, by show Int.toNat _ ≤ (8:Nat); omega⟩, ?_⟩ | refine ⟨_, q_and1 rfl rfl rfl (by first | assumption | omega), ?_⟩ | refine ⟨_, q_conv rfl rfl rfl rfl rfl rfl (by first | rfl | (exact i64_wrap (by omega) (by omega)) | (exact u8_wrap (by omega) (by omega)) | (exact u64_wrap (by omega) (by omega)) | (exact u16_wrap (by omega) (by omega))), ?_⟩ | refine ⟨_, q_load_own rfl rfl rfl rfl (by (repeat (first | exact InL.here | apply InL.there))) (by first | rfl | assumption), ?_⟩ | refine ⟨_, q_loadA_own rfl rfl rfl rfl (by (repeat (first | exact InL.here | apply InL.there))) (by rfl), ?_⟩ | refine ⟨_, q_loadA_ext rfl rfl rfl rfl ⟨by assumption, (by first | exact id | assumption)⟩ (by rfl), ?_⟩ | refine ⟨_, q_load_ext rfl rfl rfl rfl ⟨by assumption, (by first | exact id | assumption)⟩ (by first | rfl | assumption), ?_⟩ | refine ⟨_, q_load_extb rfl rfl rfl rfl ⟨by assumption, (by first | exact id | assumption)⟩ (by rfl), ?_⟩ | refine ⟨_, q_loadA_extb rfl rfl rfl rfl ⟨by assumption, (by first | exact id | assumption)⟩ (by rfl), ?_⟩ | refine ⟨_, q_load_ext0 rfl rfl rfl rfl ⟨by assumption, (by first | exact id | assumption)⟩ (by rfl), ?_⟩)
      (refine ja_take 6 rfl (by kernel_rfl) rfl rfl rfl (by repeat (first | exact LSub.nil | refine LSub.cons (by repeat (first | exact Rem.here | apply Rem.there)) ?_)) ?_; first | refine ⟨_, q_move rfl rfl, ?_⟩ | refine ⟨_, q_assign rfl rfl, ?_⟩ | refine ⟨_, q_field_own rfl rfl rfl rfl rfl, ?_⟩ | refine ⟨_, q_extract rfl rfl rfl, ?_⟩ | refine ⟨_, q_add rfl rfl rfl (by omega), ?_⟩ | refine ⟨_, q_sub rfl rfl rfl (by omega), ?_⟩ | refine ⟨_, q_mul rfl rfl rfl (by omega), ?_⟩ | refine ⟨_, q_lss rfl rfl rfl, ?_⟩ | refine ⟨_, q_leq rfl rfl rfl, ?_⟩ | refine ⟨_, q_gtr rfl rfl rfl, ?_⟩ | refine ⟨_, q_geq rfl rfl rfl, ?_⟩ | refine ⟨_, q_eql rfl rfl rfl, ?_⟩ | refine ⟨_, q_neq rfl rfl rfl, ?_⟩ | refine ⟨_, q_pick_t rfl rfl rfl, ?_⟩ | refine ⟨_, q_pick_f rfl rfl rfl, ?_⟩ | refine ⟨_, q_not rfl rfl, ?_⟩ | refine ⟨_, q_index_nat rfl rfl rfl rfl rfl (by omega), ?_⟩ | refine ⟨_, q_index_slice rfl rfl rfl rfl rfl (by omega), ?_⟩ | refine ⟨_, q_index_arr rfl rfl rfl rfl rfl (by omega), ?_⟩ | refine ⟨_, q_index_arr_ext rfl rfl rfl rfl rfl (by omega), ?_⟩ | refine ⟨_, q_len_slice rfl rfl rfl rfl, ?_⟩ | refine ⟨_, q_makeFunc rfl rfl, ?_⟩ | refine ⟨_, q_build_struct rfl rfl rfl rfl rfl, ?_⟩ | refine ⟨_, q_build_arr rfl rfl rfl rfl rfl, ?_⟩ | refine ⟨_, q_nilCheck rfl rfl, ?_⟩ | refine ⟨_, q_field_ext rfl rfl rfl rfl rfl, ?_⟩ | refine ⟨_, q_quo rfl rfl rfl (by omega), ?_⟩ | refine ⟨_, q_rem rfl rfl rfl (by omega), ?_⟩ | refine ⟨_, q_quot rfl rfl rfl (by omega), ?_⟩ | refine ⟨_, q_remt rfl rfl rfl (by omega), ?_⟩ | refine ⟨_, q_addu8 rfl rfl rfl (by omega), ?_⟩ | refine ⟨_, q_quou8 rfl rfl rfl (by omega), ?_⟩ | refine ⟨_, q_shr1 rfl rfl rfl, ?_⟩ | refine ⟨_, q_shr rfl rfl rfl ⟨by omega, by decide⟩, ?_⟩ | refine ⟨_, q_shr rfl rfl rfl ⟨by omega, by show Int.toNat _ ≤ (8:Nat); omega⟩, ?_⟩ | refine ⟨_, q_and1 rfl rfl rfl (by first | assumption | omega), ?_⟩ | refine ⟨_, q_conv rfl rfl rfl rfl rfl rfl (by first | rfl | (exact i64_wrap (by omega) (by omega)) | (exact u8_wrap (by omega) (by omega)) | (exact u64_wrap (by omega) (by omega)) | (exact u16_wrap (by omega) (by omega))), ?_⟩ | refine ⟨_, q_load_own rfl rfl rfl rfl (by (repeat (first | exact InL.here | apply InL.there))) (by first | rfl | assumption), ?_⟩ | refine ⟨_, q_loadA_own rfl rfl rfl rfl (by (repeat (first | exact InL.here | apply InL.there))) (by rfl), ?_⟩ | refine ⟨_, q_loadA_ext rfl rfl rfl rfl ⟨by assumption, (by first | exact id | assumption)⟩ (by rfl), ?_⟩ | refine ⟨_, q_load_ext rfl rfl rfl rfl ⟨by assumption, (by first | exact id | assumption)⟩ (by first | rfl | assumption), ?_⟩ | refine ⟨_, q_load_extb rfl rfl rfl rfl ⟨by assumption, (by first | exact id | assumption)⟩ (by rfl), ?_⟩ | refine ⟨_, q_loadA_extb rfl rfl rfl rfl ⟨by assumption, (by first | exact id | assumption)⟩ (by rfl), ?_⟩ | refine ⟨_, q_load_ext0 rfl rfl rfl rfl ⟨by assumption, (by first | exact id | assumption)⟩ (by rfl), ?_⟩)
      (refine ja_take 7 rfl (by kernel_rfl) rfl rfl rfl (by repeat (first | exact LSub.nil | refine LSub.cons (by repeat (first | exact Rem.here | apply Rem.there)) ?_)) ?_; first | refine ⟨_, q_move rfl rfl, ?_⟩ | refine ⟨_, q_assign rfl rfl, ?_⟩ | refine ⟨_, q_field_own rfl rfl rfl rfl rfl, ?_⟩ | refine ⟨_, q_extract rfl rfl rfl, ?_⟩ | refine ⟨_, q_add rfl rfl rfl (by omega), ?_⟩ | refine ⟨_, q_sub rfl rfl rfl (by omega), ?_⟩ | refine ⟨_, q_mul rfl rfl rfl (by omega), ?_⟩ | refine ⟨_, q_lss rfl rfl rfl, ?_⟩ | refine ⟨_, q_leq rfl rfl rfl, ?_⟩ | refine ⟨_, q_gtr rfl rfl rfl, ?_⟩ | refine ⟨_, q_geq rfl rfl rfl, ?_⟩ | refine ⟨_, q_eql rfl rfl rfl, ?_⟩ | refine ⟨_, q_neq rfl rfl rfl, ?_⟩ | refine ⟨_, q_pick_t rfl rfl rfl, ?_⟩ | refine ⟨_, q_pick_f rfl rfl rfl, ?_⟩ | refine ⟨_, q_not rfl rfl, ?_⟩ | refine ⟨_, q_index_nat rfl rfl rfl rfl rfl (by omega), ?_⟩ | refine ⟨_, q_index_slice rfl rfl rfl rfl rfl (by omega), ?_⟩ | refine ⟨_, q_index_arr rfl rfl rfl rfl rfl (by omega), ?_⟩ | refine ⟨_, q_index_arr_ext rfl rfl rfl rfl rfl (by omega), ?_⟩ | refine ⟨_, q_len_slice rfl rfl rfl rfl, ?_⟩ | refine ⟨_, q_makeFunc rfl rfl, ?_⟩ | refine ⟨_, q_build_struct rfl rfl rfl rfl rfl, ?_⟩ | refine ⟨_, q_build_arr rfl rfl rfl rfl rfl, ?_⟩ | refine ⟨_, q_nilCheck rfl rfl, ?_⟩ | refine ⟨_, q_field_ext rfl rfl rfl rfl rfl, ?_⟩ | refine ⟨_, q_quo rfl rfl rfl (by omega), ?_⟩ | refine ⟨_, q_rem rfl rfl rfl (by omega), ?_⟩ | refine ⟨_, q_quot rfl rfl rfl (by omega), ?_⟩ | refine ⟨_, q_remt rfl rfl rfl (by omega), ?_⟩ | refine ⟨_, q_addu8 rfl rfl rfl (by omega), ?_⟩ | refine ⟨_, q_quou8 rfl rfl rfl (by omega), ?_⟩ | refine ⟨_, q_shr1 rfl rfl rfl, ?_⟩ | refine ⟨_, q_shr rfl rfl rfl ⟨by omega, by decide⟩, ?_⟩ | refine ⟨_, q_shr rfl rfl rfl ⟨by omega, by show Int.toNat _ ≤ (8:Nat); omega⟩, ?_⟩ | refine ⟨_, q_and1 rfl rfl rfl (by first | assumption | omega), ?_⟩ | refine ⟨_, q_conv rfl rfl rfl rfl rfl rfl (by first | rfl | (exact i64_wrap (by omega) (by omega)) | (exact u8_wrap (by omega) (by omega)) | (exact u64_wrap (by omega) (by omega)) | (exact u16_wrap (by omega) (by omega))), ?_⟩ | refine ⟨_, q_load_own rfl rfl rfl rfl (by (repeat (first | exact InL.here | apply InL.there))) (by first | rfl | assumption), ?_⟩ | refine ⟨_, q_loadA_own rfl rfl rfl rfl (by (repeat (first | exact InL.here | apply InL.there))) (by rfl), ?_⟩ | refine ⟨_, q_loadA_ext rfl rfl rfl rfl ⟨by assumption, (by first | exact id | assumption)⟩ (by rfl), ?_⟩ | refine ⟨_, q_load_ext rfl rfl rfl rfl ⟨by assumption, (by first | exact id | assumption)⟩ (by first | rfl | assumption), ?_⟩ | refine ⟨_, q_load_extb rfl rfl rfl rfl ⟨by assumption, (by first | exact id | assumption)⟩ (by rfl), ?_⟩ | refine ⟨_, q_loadA_extb rfl rfl rfl rfl ⟨by assumption, (by first | exact id | assumption)⟩ (by rfl), ?_⟩ | refine ⟨_, q_load_ext0 rfl rfl rfl rfl ⟨by assumption, (by first | exact id | assumption)⟩ (by rfl), ?_⟩)
      (refine ja_take 8 rfl (by kernel_rfl) rfl rfl rfl (by repeat (first | exact LSub.nil | refine LSub.cons (by repeat (first | exact Rem.here | apply Rem.there)) ?_)) ?_; first | refine ⟨_, q_move rfl rfl, ?_⟩ | refine ⟨_, q_assign rfl rfl, ?_⟩ | refine ⟨_, q_field_own rfl rfl rfl rfl rfl, ?_⟩ | refine ⟨_, q_extract rfl rfl rfl, ?_⟩ | refine ⟨_, q_add rfl rfl rfl (by omega), ?_⟩ | refine ⟨_, q_sub rfl rfl rfl (by omega), ?_⟩ | refine ⟨_, q_mul rfl rfl rfl (by omega), ?_⟩ | refine ⟨_, q_lss rfl rfl rfl, ?_⟩ | refine ⟨_, q_leq rfl rfl rfl, ?_⟩ | refine ⟨_, q_gtr rfl rfl rfl, ?_⟩ | refine ⟨_, q_geq rfl rfl rfl, ?_⟩ | refine ⟨_, q_eql rfl rfl rfl, ?_⟩ | refine ⟨_, q_neq rfl rfl rfl, ?_⟩ | refine ⟨_, q_pick_t rfl rfl rfl, ?_⟩ | refine ⟨_, q_pick_f rfl rfl rfl, ?_⟩ | refine ⟨_, q_not rfl rfl, ?_⟩ | refine ⟨_, q_index_nat rfl rfl rfl rfl rfl (by omega), ?_⟩ | refine ⟨_, q_index_slice rfl rfl rfl rfl rfl (by omega), ?_⟩ | refine ⟨_, q_index_arr rfl rfl rfl rfl rfl (by omega), ?_⟩ | refine ⟨_, q_index_arr_ext rfl rfl rfl rfl rfl (by omega), ?_⟩ | refine ⟨_, q_len_slice rfl rfl rfl rfl, ?_⟩ | refine ⟨_, q_makeFunc rfl rfl, ?_⟩ | refine ⟨_, q_build_struct rfl rfl rfl rfl rfl, ?_⟩ | refine ⟨_, q_build_arr rfl rfl rfl rfl rfl, ?_⟩ | refine ⟨_, q_nilCheck rfl rfl, ?_⟩ | refine ⟨_, q_field_ext rfl rfl rfl rfl rfl, ?_⟩ | refine ⟨_, q_quo rfl rfl rfl (by omega), ?_⟩ | refine ⟨_, q_rem rfl rfl rfl (by omega), ?_⟩ | refine ⟨_, q_quot rfl rfl rfl (by omega), ?_⟩ | refine ⟨_, q_remt rfl rfl rfl (by omega), ?_⟩ | refine ⟨_, q_addu8 rfl rfl rfl (by omega), ?_⟩ | refine ⟨_, q_quou8 rfl rfl rfl (by omega), ?_⟩ | refine ⟨_, q_shr1 rfl rfl rfl, ?_⟩ | refine ⟨_, q_shr rfl rfl rfl ⟨by omega, by decide⟩, ?_⟩ | refine ⟨_, q_shr rfl rfl rfl ⟨by omega, by show Int.toNat _ ≤ (8:Nat); omega⟩, ?_⟩ | refine ⟨_, q_and1 rfl rfl rfl (by first | assumption | omega), ?_⟩ | refine ⟨_, q_conv rfl rfl rfl rfl rfl rfl (by first | rfl | (exact i64_wrap (by omega) (by omega)) | (exact u8_wrap (by omega) (by omega)) | (exact u64_wrap (by omega) (by omega)) | (exact u16_wrap (by omega) (by omega))), ?_⟩ | refine ⟨_, q_load_own rfl rfl rfl rfl (by (repeat (first | exact InL.here | apply InL.there))) (by first | rfl | assumption), ?_⟩ | refine ⟨_, q_loadA_own rfl rfl rfl rfl (by (repeat (first | exact InL.here | apply InL.there))) (by rfl), ?_⟩ | refine ⟨_, q_loadA_ext rfl rfl rfl rfl ⟨by assumption, (by first | exact id | assumption)⟩ (by rfl), ?_⟩ | refine ⟨_, q_load_ext rfl rfl rfl rfl ⟨by assumption, (by first | exact id | assumption)⟩ (by first | rfl | assumption), ?_⟩ | refine ⟨_, q_load_extb rfl rfl rfl rfl ⟨by assumption, (by first | exact id | assumption)⟩ (by rfl), ?_⟩ | refine ⟨_, q_loadA_extb rfl rfl rfl rfl ⟨by assumption, (by first | exact id | assumption)⟩ (by rfl), ?_⟩ | refine ⟨_, q_load_ext0 rfl rfl rfl rfl ⟨by assumption, (by first | exact id | assumption)⟩ (by rfl), ?_⟩)
      (refine ja_take 9 rfl (by kernel_rfl) rfl rfl rfl (by repeat (first | exact LSub.nil | refine LSub.cons (by repeat (first | exact Rem.here | apply Rem.there)) ?_)) ?_; first | refine ⟨_, q_move rfl rfl, ?_⟩ | refine ⟨_, q_assign rfl rfl, ?_⟩ | refine ⟨_, q_field_own rfl rfl rfl rfl rfl, ?_⟩ | refine ⟨_, q_extract rfl rfl rfl, ?_⟩ | refine ⟨_, q_add rfl rfl rfl (by omega), ?_⟩ | refine ⟨_, q_sub rfl rfl rfl (by omega), ?_⟩ | refine ⟨_, q_mul rfl rfl rfl (by omega), ?_⟩ | refine ⟨_, q_lss rfl rfl rfl, ?_⟩ | refine ⟨_, q_leq rfl rfl rfl, ?_⟩ | refine ⟨_, q_gtr rfl rfl rfl, ?_⟩ | refine ⟨_, q_geq rfl rfl rfl, ?_⟩ | refine ⟨_, q_eql rfl rfl rfl, ?_⟩ | refine ⟨_, q_neq rfl rfl rfl, ?_⟩ | refine ⟨_, q_pick_t rfl rfl rfl, ?_⟩ | refine ⟨_, q_pick_f rfl rfl rfl, ?_⟩ | refine ⟨_, q_not rfl rfl, ?_⟩ | refine ⟨_, q_index_nat rfl rfl rfl rfl rfl (by omega), ?_⟩ | refine ⟨_, q_index_slice rfl rfl rfl rfl rfl (by omega), ?_⟩ | refine ⟨_, q_index_arr rfl rfl rfl rfl rfl (by omega), ?_⟩ | refine ⟨_, q_index_arr_ext rfl rfl rfl rfl rfl (by omega), ?_⟩ | refine ⟨_, q_len_slice rfl rfl rfl rfl, ?_⟩ | refine ⟨_, q_makeFunc rfl rfl, ?_⟩ | refine ⟨_, q_build_struct rfl rfl rfl rfl rfl, ?_⟩ | refine ⟨_, q_build_arr rfl rfl rfl rfl rfl, ?_⟩ | refine ⟨_, q_nilCheck rfl rfl, ?_⟩ | refine ⟨_, q_field_ext rfl rfl rfl rfl rfl, ?_⟩ | refine ⟨_, q_quo rfl rfl rfl (by omega), ?_⟩ | refine ⟨_, q_rem rfl rfl rfl (by omega), ?_⟩ | refine ⟨_, q_quot rfl rfl rfl (by omega), ?_⟩ | refine ⟨_, q_remt rfl rfl rfl (by omega), ?_⟩ | refine ⟨_, q_addu8 rfl rfl rfl (by omega), ?_⟩ | refine ⟨_, q_quou8 rfl rfl rfl (by omega), ?_⟩ | refine ⟨_, q_shr1 rfl rfl rfl, ?_⟩ | refine ⟨_, q_shr rfl rfl rfl ⟨by omega, by decide⟩, ?_⟩ | refine ⟨_, q_shr rfl rfl rfl ⟨by omega, by show Int.toNat _ ≤ (8:Nat); omega⟩, ?_⟩ | refine ⟨_, q_and1 rfl rfl rfl (by first | assumption | omega), ?_⟩ | refine ⟨_, q_conv rfl rfl rfl rfl rfl rfl (by first | rfl | (exact i64_wrap (by omega) (by omega)) | (exact u8_wrap (by omega) (by omega)) | (exact u64_wrap (by omega) (by omega)) | (exact u16_wrap (by omega) (by omega))), ?_⟩ | refine ⟨_, q_load_own rfl rfl rfl rfl (by (repeat (first | exact InL.here | apply InL.there))) (by first | rfl | assumption), ?_⟩ | refine ⟨_, q_loadA_own rfl rfl rfl rfl (by (repeat (first | exact InL.here | apply InL.there))) (by rfl), ?_⟩ | refine ⟨_, q_loadA_ext rfl rfl rfl rfl ⟨by assumption, (by first | exact id | assumption)⟩ (by rfl), ?_⟩ | refine ⟨_, q_load_ext rfl rfl rfl rfl ⟨by assumption, (by first | exact id | assumption)⟩ (by first | rfl | assumption), ?_⟩ | refine ⟨_, q_load_extb rfl rfl rfl rfl ⟨by assumption, (by first | exact id | assumption)⟩ (by rfl), ?_⟩ | refine ⟨_, q_loadA_extb rfl rfl rfl rfl ⟨by assumption, (by first | exact id | assumption)⟩ (by rfl), ?_⟩ | refine ⟨_, q_load_ext0 rfl rfl rfl rfl ⟨by assumption, (by first | exact id | assumption)⟩ (by rfl), ?_⟩)
      (refine ja_take 10 rfl (by kernel_rfl) rfl rfl rfl (by repeat (first | exact LSub.nil | refine LSub.cons (by repeat (first | exact Rem.here | apply Rem.there)) ?_)) ?_; first | refine ⟨_, q_move rfl rfl, ?_⟩ | refine ⟨_, q_assign rfl rfl, ?_⟩ | refine ⟨_, q_field_own rfl rfl rfl rfl rfl, ?_⟩ | refine ⟨_, q_extract rfl rfl rfl, ?_⟩ | refine ⟨_, q_add rfl rfl rfl (by omega), ?_⟩ | refine ⟨_, q_sub rfl rfl rfl (by omega), ?_⟩ | refine ⟨_, q_mul rfl rfl rfl (by omega), ?_⟩ | refine ⟨_, q_lss rfl rfl rfl, ?_⟩ | refine ⟨_, q_leq rfl rfl rfl, ?_⟩ | refine ⟨_, q_gtr rfl rfl rfl, ?_⟩ | refine ⟨_, q_geq rfl rfl rfl, ?_⟩ | refine ⟨_, q_eql rfl rfl rfl, ?_⟩ | refine ⟨_, q_neq rfl rfl rfl, ?_⟩ | refine ⟨_, q_pick_t rfl rfl rfl, ?_⟩ | refine ⟨_, q_pick_f rfl rfl rfl, ?_⟩ | refine ⟨_, q_not rfl rfl, ?_⟩ | refine ⟨_, q_index_nat rfl rfl rfl rfl rfl (by omega), ?_⟩ | refine ⟨_, q_index_slice rfl rfl rfl rfl rfl (by omega), ?_⟩ | refine ⟨_, q_index_arr rfl rfl rfl rfl rfl (by omega), ?_⟩ | refine ⟨_, q_index_arr_ext rfl rfl rfl rfl rfl (by omega), ?_⟩ | refine ⟨_, q_len_slice rfl rfl rfl rfl, ?_⟩ | refine ⟨_, q_makeFunc rfl rfl, ?_⟩ | refine ⟨_, q_build_struct rfl rfl rfl rfl rfl, ?_⟩ | refine ⟨_, q_build_arr rfl rfl rfl rfl rfl, ?_⟩ | refine ⟨_, q_nilCheck rfl rfl, ?_⟩ | refine ⟨_, q_field_ext rfl rfl rfl rfl rfl, ?_⟩ | refine ⟨_, q_quo rfl rfl rfl (by omega), ?_⟩ | refine ⟨_, q_rem rfl rfl rfl (by omega), ?_⟩ | refine ⟨_, q_quot rfl rfl rfl (by omega), ?_⟩ | refine ⟨_, q_remt rfl rfl rfl (by omega), ?_⟩ | refine ⟨_, q_addu8 rfl rfl rfl (by omega), ?_⟩ | refine ⟨_, q_quou8 rfl rfl rfl (by omega), ?_⟩ | refine ⟨_, q_shr1 rfl rfl rfl, ?_⟩ | refine ⟨_, q_shr rfl rfl rfl ⟨by omega, by decide⟩, ?_⟩ | refine ⟨_, q_shr rfl rfl rfl ⟨by omega, by show Int.toNat _ ≤ (8:Nat); omega⟩, ?_⟩ | refine ⟨_, q_and1 rfl rfl rfl (by first | assumption | omega), ?_⟩ | refine ⟨_, q_conv rfl rfl rfl rfl rfl rfl (by first | rfl | (exact i64_wrap (by omega) (by omega)) | (exact u8_wrap (by omega) (by omega)) | (exact u64_wrap (by omega) (by omega)) | (exact u16_wrap (by omega) (by omega))), ?_⟩ | refine ⟨_, q_load_own rfl rfl rfl rfl (by (repeat (first | exact InL.here | apply InL.there))) (by first | rfl | assumption), ?_⟩ | refine ⟨_, q_loadA_own rfl rfl rfl rfl (by (repeat (first | exact InL.here | apply InL.there))) (by rfl), ?_⟩ | refine ⟨_, q_loadA_ext rfl rfl rfl rfl ⟨by assumption, (by first | exact id | assumption)⟩ (by rfl), ?_⟩ | refine ⟨_, q_load_ext rfl rfl rfl rfl ⟨by assumption, (by first | exact id | assumption)⟩ (by first | rfl | assumption), ?_⟩ | refine ⟨_, q_load_extb rfl rfl rfl rfl ⟨by assumption, (by first | exact id | assumption)⟩ (by rfl), ?_⟩ | refine ⟨_, q_loadA_extb rfl rfl rfl rfl ⟨by assumption, (by first | exact id | assumption)⟩ (by rfl), ?_⟩ | refine ⟨_, q_load_ext0 rfl rfl rfl rfl ⟨by assumption, (by first | exact id | assumption)⟩ (by rfl), ?_⟩)
      (refine ja_take 13 rfl (by kernel_rfl) rfl rfl rfl (by repeat (first | exact LSub.nil | refine LSub.cons (by repeat (first | exact Rem.here | apply Rem.there)) ?_)) ?_; first | refine ⟨_, q_move rfl rfl, ?_⟩ | refine ⟨_, q_assign rfl rfl, ?_⟩ | refine ⟨_, q_field_own rfl rfl rfl rfl rfl, ?_⟩ | refine ⟨_, q_extract rfl rfl rfl, ?_⟩ | refine ⟨_, q_add rfl rfl rfl (by omega), ?_⟩ | refine ⟨_, q_sub rfl rfl rfl (by omega), ?_⟩ | refine ⟨_, q_mul rfl rfl rfl (by omega), ?_⟩ | refine ⟨_, q_lss rfl rfl rfl, ?_⟩ | refine ⟨_, q_leq rfl rfl rfl, ?_⟩ | refine ⟨_, q_gtr rfl rfl rfl, ?_⟩ | refine ⟨_, q_geq rfl rfl rfl, ?_⟩ | refine ⟨_, q_eql rfl rfl rfl, ?_⟩ | refine ⟨_, q_neq rfl rfl rfl, ?_⟩ | refine ⟨_, q_pick_t rfl rfl rfl, ?_⟩ | refine ⟨_, q_pick_f rfl rfl rfl, ?_⟩ | refine ⟨_, q_not rfl rfl, ?_⟩ | refine ⟨_, q_index_nat rfl rfl rfl rfl rfl (by omega), ?_⟩ | refine ⟨_, q_index_slice rfl rfl rfl rfl rfl (by omega), ?_⟩ | refine ⟨_, q_index_arr rfl rfl rfl rfl rfl (by omega), ?_⟩ | refine ⟨_, q_index_arr_ext rfl rfl rfl rfl rfl (by omega), ?_⟩ | refine ⟨_, q_len_slice rfl rfl rfl rfl, ?_⟩ | refine ⟨_, q_makeFunc rfl rfl, ?_⟩ | refine ⟨_, q_build_struct rfl rfl rfl rfl rfl, ?_⟩ | refine ⟨_, q_build_arr rfl rfl rfl rfl rfl, ?_⟩ | refine ⟨_, q_nilCheck rfl rfl, ?_⟩ | refine ⟨_, q_field_ext rfl rfl rfl rfl rfl, ?_⟩ | refine ⟨_, q_quo rfl rfl rfl (by omega), ?_⟩ | refine ⟨_, q_rem rfl rfl rfl (by omega), ?_⟩ | refine ⟨_, q_quot rfl rfl rfl (by omega), ?_⟩ | refine ⟨_, q_remt rfl rfl rfl (by omega), ?_⟩ | refine ⟨_, q_addu8 rfl rfl rfl (by omega), ?_⟩ | refine ⟨_, q_quou8 rfl rfl rfl (by omega), ?_⟩ | refine ⟨_, q_shr1 rfl rfl rfl, ?_⟩ | refine ⟨_, q_shr rfl rfl rfl ⟨by omega, by decide⟩, ?_⟩ | refine ⟨_, q_shr rfl rfl rfl ⟨by omega, by show Int.toNat _ ≤ (8:Nat); omega⟩, ?_⟩ | refine ⟨_, q_and1 rfl rfl rfl (by first | assumption | omega), ?_⟩ | refine ⟨_, q_conv rfl rfl rfl rfl rfl rfl (by first | rfl | (exact i64_wrap (by omega) (by omega)) | (exact u8_wrap (by omega) (by omega)) | (exact u64_wrap (by omega) (by omega)) | (exact u16_wrap (by omega) (by omega))), ?_⟩ | refine ⟨_, q_load_own rfl rfl rfl rfl (by (repeat (first | exact InL.here | apply InL.there))) (by first | rfl | assumption), ?_⟩ | refine ⟨_, q_loadA_own rfl rfl rfl rfl (by (repeat (first | exact InL.here | apply InL.there))) (by rfl), ?_⟩ | refine ⟨_, q_loadA_ext rfl rfl rfl rfl ⟨by assumption, (by first | exact id | assumption)⟩ (by rfl), ?_⟩ | refine ⟨_, q_load_ext rfl rfl rfl rfl ⟨by assumption, (by first | exact id | assumption)⟩ (by first | rfl | assumption), ?_⟩ | refine ⟨_, q_load_extb rfl rfl rfl rfl ⟨by assumption, (by first | exact id | assumption)⟩ (by rfl), ?_⟩ | refine ⟨_, q_loadA_extb rfl rfl rfl rfl ⟨by assumption, (by first | exact id | assumption)⟩ (by rfl), ?_⟩ | refine ⟨_, q_load_ext0 rfl rfl rfl rfl ⟨by assumption, (by first | exact id | assumption)⟩ (by rfl), ?_⟩)
      (refine ja_all [11] (by kernel_rfl) rfl ?_ rfl; intro i hi; simp only [List.mem_cons, List.mem_nil_iff, or_false] at hi; subst hi; refine ⟨_, rfl, rfl, ?_⟩)
      (refine j_buildSlice rfl rfl rfl rfl rfl rfl rfl rfl rfl rfl rfl rfl ?_; intro b9)
      (refine j_nil ?_; refine sq_next (by repeat (first | exact LSub.nil | refine LSub.cons (by repeat (first | exact Rem.here | apply Rem.there)) ?_)) ?_)
      (refine ja_all [12] (by kernel_rfl) rfl ?_ rfl; intro i hi; simp only [List.mem_cons, List.mem_nil_iff, or_false] at hi; subst hi; refine ⟨_, rfl, rfl, ?_⟩)
      repeat' (first
       | (refine gJ ?_
          first
          | refine jmv rfl rfl rfl rfl rfl ?_
          | (refine gload rfl rfl ?_
             refine j_qe rfl rfl rfl ?_
             first
             | refine ⟨_, q_load_own rfl rfl rfl rfl (by (repeat (first | exact InL.here | apply InL.there))) (by first | rfl | assumption), ?_⟩
             | refine ⟨_, q_loadA_own rfl rfl rfl rfl (by (repeat (first | exact InL.here | apply InL.there))) (by rfl), ?_⟩
             | refine ⟨_, q_loadA_ext rfl rfl rfl rfl ⟨by assumption, (by first | exact id | assumption)⟩ (by rfl), ?_⟩
             | refine ⟨_, q_load_ext rfl rfl rfl rfl ⟨by assumption, (by first | exact id | assumption)⟩ (by first | rfl | assumption), ?_⟩
             | refine ⟨_, q_load_extb rfl rfl rfl rfl ⟨by assumption, (by first | exact id | assumption)⟩ (by rfl), ?_⟩
             | refine ⟨_, q_loadA_extb rfl rfl rfl rfl ⟨by assumption, (by first | exact id | assumption)⟩ (by rfl), ?_⟩
             | refine ⟨_, q_load_ext0 rfl rfl rfl rfl ⟨by assumption, (by first | exact id | assumption)⟩ (by rfl), ?_⟩)
          | refine jfield rfl rfl rfl rfl rfl rfl rfl rfl ?_
          | refine jcmp rfl rfl rfl rfl rfl rfl rfl ?_
          | refine jar rfl rfl rfl rfl rfl rfl rfl (by omega) ?_
          | (refine gF ?_
             first
             | (refine j_buildSlice rfl rfl rfl rfl rfl rfl rfl rfl rfl rfl rfl rfl ?_; intro b))
          | (refine j_qe rfl rfl rfl ?_
             first
             | refine ⟨_, q_pick_t rfl rfl rfl, ?_⟩
             | refine ⟨_, q_pick_f rfl rfl rfl, ?_⟩
             | refine ⟨_, q_index_nat rfl rfl rfl rfl rfl (by omega), ?_⟩
             | refine ⟨_, q_index_slice rfl rfl rfl rfl rfl (by omega), ?_⟩
             | refine ⟨_, q_index_arr rfl rfl rfl rfl rfl (by omega), ?_⟩
             | refine ⟨_, q_index_arr_ext rfl rfl rfl rfl rfl (by omega), ?_⟩
             | refine ⟨_, q_len_slice rfl rfl rfl rfl, ?_⟩
             | refine ⟨_, q_field_ext rfl rfl rfl rfl rfl, ?_⟩
             | refine ⟨_, q_addu8 rfl rfl rfl (by omega), ?_⟩)
          | refine j_guard_undef rfl rfl rfl rfl rfl ?_
          | (refine j_guard rfl rfl rfl rfl rfl ?_ ?_ <;> intro hc <;> (first | (exact absurd hc (by decide)) | ((try simp only [decide_eq_true_eq, decide_eq_false_iff_not, Bool.not_eq_true', Bool.not_eq_false', Bool.not_true, Bool.not_false, ne_eq, Decidable.not_not] at hc) <;> first | (exfalso; omega) | (exact absurd trivial hc) | skip))))
       | (refine gSC ?_
          first
          | refine sc_seq ?_
          | refine sc_region ?_
          | (refine sc_cond rfl ?_ ?_ <;> intro hc <;> (first | (exact absurd hc (by decide)) | ((try simp only [decide_eq_true_eq, decide_eq_false_iff_not, Bool.not_eq_true', Bool.not_eq_false', Bool.not_true, Bool.not_false, ne_eq, Decidable.not_not] at hc) <;> first | (exfalso; omega) | (exact absurd trivial hc) | skip)))
          | refine sc_block ?_
          | refine sc_ret ?_
          | refine sc_exit ?_
          | refine sc_skip ?_
          | refine sc_draw rfl mixed (by kernel_rfl) ?_)
       | (refine gSQ ?_
          first
          | refine sq_seq ?_
          | refine sq_blk ?_
          | refine sq_seq_ret ?_
          | refine sq_blk_ret ?_
          | refine sq_loop_ret ?_
          | refine sq_seq_exit ?_
          | refine sq_blk_hit ?_
          | refine sq_blk_miss rfl ?_
          | refine sq_loop_exit ?_
          | refine sq_ende (.inl rfl) rfl rfl ⟨_, (RVs.cons (RV.tmp rfl) (RVs.cons (RV.tmp rfl) (RVs.nil))), ?_⟩
          | refine sq_ende (.inr rfl) rfl rfl ⟨_, (RVs.cons (RV.tmp rfl) (RVs.cons (RV.tmp rfl) (RVs.nil))), ?_⟩)
       | refine j_nil ?_
       )
      refine sq_next (by repeat (first | exact LSub.nil | refine LSub.cons (by repeat (first | exact Rem.here | apply Rem.there)) ?_)) ?_
      refine ja_done (by kernel_rfl) ?_
      repeat' (first
       | (refine gJ ?_
          first
          | refine jmv rfl rfl rfl rfl rfl ?_
          | (refine gload rfl rfl ?_
             refine j_qe rfl rfl rfl ?_
             first
             | refine ⟨_, q_load_own rfl rfl rfl rfl (by (repeat (first | exact InL.here | apply InL.there))) (by first | rfl | assumption), ?_⟩
             | refine ⟨_, q_loadA_own rfl rfl rfl rfl (by (repeat (first | exact InL.here | apply InL.there))) (by rfl), ?_⟩
             | refine ⟨_, q_loadA_ext rfl rfl rfl rfl ⟨by assumption, (by first | exact id | assumption)⟩ (by rfl), ?_⟩
             | refine ⟨_, q_load_ext rfl rfl rfl rfl ⟨by assumption, (by first | exact id | assumption)⟩ (by first | rfl | assumption), ?_⟩
             | refine ⟨_, q_load_extb rfl rfl rfl rfl ⟨by assumption, (by first | exact id | assumption)⟩ (by rfl), ?_⟩
             | refine ⟨_, q_loadA_extb rfl rfl rfl rfl ⟨by assumption, (by first | exact id | assumption)⟩ (by rfl), ?_⟩
             | refine ⟨_, q_load_ext0 rfl rfl rfl rfl ⟨by assumption, (by first | exact id | assumption)⟩ (by rfl), ?_⟩)
          | refine jfield rfl rfl rfl rfl rfl rfl rfl rfl ?_
          | refine jcmp rfl rfl rfl rfl rfl rfl rfl ?_
          | refine jar rfl rfl rfl rfl rfl rfl rfl (by omega) ?_
          | (refine gF ?_
             first
             | (refine j_buildSlice rfl rfl rfl rfl rfl rfl rfl rfl rfl rfl rfl rfl ?_; intro b))
          | (refine j_qe rfl rfl rfl ?_
             first
             | refine ⟨_, q_pick_t rfl rfl rfl, ?_⟩
             | refine ⟨_, q_pick_f rfl rfl rfl, ?_⟩
             | refine ⟨_, q_index_nat rfl rfl rfl rfl rfl (by omega), ?_⟩
             | refine ⟨_, q_index_slice rfl rfl rfl rfl rfl (by omega), ?_⟩
             | refine ⟨_, q_index_arr rfl rfl rfl rfl rfl (by omega), ?_⟩
             | refine ⟨_, q_index_arr_ext rfl rfl rfl rfl rfl (by omega), ?_⟩
             | refine ⟨_, q_len_slice rfl rfl rfl rfl, ?_⟩
             | refine ⟨_, q_field_ext rfl rfl rfl rfl rfl, ?_⟩
             | refine ⟨_, q_addu8 rfl rfl rfl (by omega), ?_⟩)
          | refine j_guard_undef rfl rfl rfl rfl rfl ?_
          | (refine j_guard rfl rfl rfl rfl rfl ?_ ?_ <;> intro hc <;> (first | (exact absurd hc (by decide)) | ((try simp only [decide_eq_true_eq, decide_eq_false_iff_not, Bool.not_eq_true', Bool.not_eq_false', Bool.not_true, Bool.not_false, ne_eq, Decidable.not_not] at hc) <;> first | (exfalso; omega) | (exact absurd trivial hc) | skip))))
       | (refine gSC ?_
          first
          | refine sc_seq ?_
          | refine sc_region ?_
          | (refine sc_cond rfl ?_ ?_ <;> intro hc <;> (first | (exact absurd hc (by decide)) | ((try simp only [decide_eq_true_eq, decide_eq_false_iff_not, Bool.not_eq_true', Bool.not_eq_false', Bool.not_true, Bool.not_false, ne_eq, Decidable.not_not] at hc) <;> first | (exfalso; omega) | (exact absurd trivial hc) | skip)))
          | refine sc_block ?_
          | refine sc_ret ?_
          | refine sc_exit ?_
          | refine sc_skip ?_
          | refine sc_draw rfl mixed (by kernel_rfl) ?_)
       | (refine gSQ ?_
          first
          | refine sq_seq ?_
          | refine sq_blk ?_
          | refine sq_seq_ret ?_
          | refine sq_blk_ret ?_
          | refine sq_loop_ret ?_
          | refine sq_seq_exit ?_
          | refine sq_blk_hit ?_
          | refine sq_blk_miss rfl ?_
          | refine sq_loop_exit ?_
          | refine sq_ende (.inl rfl) rfl rfl ⟨_, (RVs.cons (RV.tmp rfl) (RVs.cons (RV.tmp rfl) (RVs.nil))), ?_⟩
          | refine sq_ende (.inr rfl) rfl rfl ⟨_, (RVs.cons (RV.tmp rfl) (RVs.cons (RV.tmp rfl) (RVs.nil))), ?_⟩)
       | refine j_nil ?_
       )
      generalize hDr : D.drop (2 * (i + 1)) = D2 at *
      refine sc_loop (ι := Nat × Int) (fun k => k.1 ≤ 2 ∧ k.2 ≤ 730485 ∧ M = minC l p d k.2 ((o.st :: (o.en + 1) :: D2).drop k.1)) (fun k => 2 - k.1) (fun k => [(0, .slice (some ad) n c), (1, .int .i64 p), (2, .int .i64 d), (8, .int .i64 k.2), (9, .int .i64 i), (36, .slice (some ⟨b9, 0, none⟩) 2 2), (37, .int .i64 2), (38, .int .i64 k.1)]) (fun _ => [.cells b9 3 [.int .i64 o.st, .int .i64 (o.en + 1)]]) (0, b0) ⟨by omega, hb5, hr⟩ (by repeat (first | exact FSub.nil | refine FSub.cons rfl ?_ | refine FSub.conse rfl (by congr 1; omega) ?_)) (by repeat (first | exact LSub.refl | refine LSub.cons (by repeat (first | exact Rem.here | apply Rem.there)) ?_ | apply LSub.skip)) ?_
      rintro ⟨k, b1⟩ ⟨hk, hb1, hr9⟩
      dsimp only at hk hb1 hr9 ⊢
      obtain rfl | rfl | rfl : k = 0 ∨ k = 1 ∨ k = 2 := by omega
      · -- k = 0
        repeat' (first
         | (refine gJ ?_
            first
            | refine jmv rfl rfl rfl rfl rfl ?_
            | (refine gload rfl rfl ?_
               refine j_qe rfl rfl rfl ?_
               first
               | refine ⟨_, q_load_own rfl rfl rfl rfl (by (repeat (first | exact InL.here | apply InL.there))) (by first | rfl | assumption), ?_⟩
               | refine ⟨_, q_loadA_own rfl rfl rfl rfl (by (repeat (first | exact InL.here | apply InL.there))) (by rfl), ?_⟩
               | refine ⟨_, q_loadA_ext rfl rfl rfl rfl ⟨by assumption, (by first | exact id | assumption)⟩ (by rfl), ?_⟩
               | refine ⟨_, q_load_ext rfl rfl rfl rfl ⟨by assumption, (by first | exact id | assumption)⟩ (by first | rfl | assumption), ?_⟩
               | refine ⟨_, q_load_extb rfl rfl rfl rfl ⟨by assumption, (by first | exact id | assumption)⟩ (by rfl), ?_⟩
               | refine ⟨_, q_loadA_extb rfl rfl rfl rfl ⟨by assumption, (by first | exact id | assumption)⟩ (by rfl), ?_⟩
               | refine ⟨_, q_load_ext0 rfl rfl rfl rfl ⟨by assumption, (by first | exact id | assumption)⟩ (by rfl), ?_⟩)
            | refine jfield rfl rfl rfl rfl rfl rfl rfl rfl ?_
            | refine jcmp rfl rfl rfl rfl rfl rfl rfl ?_
            | refine jar rfl rfl rfl rfl rfl rfl rfl (by omega) ?_
            | (refine gcall rfl rfl ?_; refine gF ?_; refine j_callN (f := 41) rfl rfl rfl rfl rfl rfl rfl (fun x => wy2V x (wayF l p o.st)) (fun _ => True) (wyL (wayF l p o.st)) (fun w' hs => hR (o.st) w' (h.st hs)) (fun _ => trivial) ?_; rintro ⟨v1, v2⟩ _)
            | (refine j_qe rfl rfl rfl ?_; refine ⟨_, q_fieldv rfl Try.underlying68 rfl rfl rfl rfl rfl, ?_⟩)
            | (refine gF ?_
               first
               | (refine j_buildSlice rfl rfl rfl rfl rfl rfl rfl rfl rfl rfl rfl rfl ?_; intro b))
            | (refine j_qe rfl rfl rfl ?_
               first
               | refine ⟨_, q_pick_t rfl rfl rfl, ?_⟩
               | refine ⟨_, q_pick_f rfl rfl rfl, ?_⟩
               | refine ⟨_, q_index_nat rfl rfl rfl rfl rfl (by omega), ?_⟩
               | refine ⟨_, q_index_slice rfl rfl rfl rfl rfl (by omega), ?_⟩
               | refine ⟨_, q_index_arr rfl rfl rfl rfl rfl (by omega), ?_⟩
               | refine ⟨_, q_index_arr_ext rfl rfl rfl rfl rfl (by omega), ?_⟩
               | refine ⟨_, q_len_slice rfl rfl rfl rfl, ?_⟩
               | refine ⟨_, q_field_ext rfl rfl rfl rfl rfl, ?_⟩
               | refine ⟨_, q_addu8 rfl rfl rfl (by omega), ?_⟩)
            | refine j_guard_undef rfl rfl rfl rfl rfl ?_
            | (refine j_guard rfl rfl rfl rfl rfl ?_ ?_ <;> intro hc <;> (first | (exact absurd hc (by decide)) | ((try simp only [decide_eq_true_eq, decide_eq_false_iff_not, Bool.not_eq_true', Bool.not_eq_false', Bool.not_true, Bool.not_false, ne_eq, Decidable.not_not] at hc) <;> first | (exfalso; omega) | (exact absurd trivial hc) | skip))))
         | (refine gSC ?_
            first
            | refine sc_seq ?_
            | refine sc_region ?_
            | (refine sc_cond rfl ?_ ?_ <;> intro hc <;> (first | (exact absurd hc (by decide)) | ((try simp only [decide_eq_true_eq, decide_eq_false_iff_not, Bool.not_eq_true', Bool.not_eq_false', Bool.not_true, Bool.not_false, ne_eq, Decidable.not_not] at hc) <;> first | (exfalso; omega) | (exact absurd trivial hc) | skip)))
            | refine sc_block ?_
            | refine sc_ret ?_
            | refine sc_exit ?_
            | refine sc_skip ?_
            | refine sc_draw rfl mixed (by kernel_rfl) ?_)
         | (refine gSQ ?_
            first
            | refine sq_seq ?_
            | refine sq_blk ?_
            | refine sq_seq_ret ?_
            | refine sq_blk_ret ?_
            | refine sq_loop_ret ?_
            | refine sq_seq_exit ?_
            | refine sq_blk_hit ?_
            | refine sq_blk_miss rfl ?_
            | refine sq_loop_exit ?_
            | refine sq_ende (.inl rfl) rfl rfl ⟨_, (RVs.cons (RV.tmp rfl) (RVs.cons (RV.tmp rfl) (RVs.nil))), ?_⟩
            | refine sq_ende (.inr rfl) rfl rfl ⟨_, (RVs.cons (RV.tmp rfl) (RVs.cons (RV.tmp rfl) (RVs.nil))), ?_⟩)
         | refine j_nil ?_
         )
        · exact sq_loop (1, o.st) ⟨by show 1 ≤ 2; omega, by show o.st ≤ 730485; omega, by rw [hr9]; show minC l p d (if d < o.st ∧ o.st < b1 ∧ (wayF l p o.st).kd ≠ 2 then o.st else b1) _ = _; rw [if_pos ⟨by omega, by omega, by omega⟩]; rfl⟩ (by show 2 - 1 < 2 - 0; omega) (by repeat (first | exact FSub.nil | refine FSub.cons rfl ?_ | refine FSub.conse rfl (by congr 1; omega) ?_)) (by repeat (first | exact LSub.refl | refine LSub.cons (by repeat (first | exact Rem.here | apply Rem.there)) ?_ | apply LSub.skip))
        all_goals exact sq_loop (1, b1) ⟨by show 1 ≤ 2; omega, hb1, by rw [hr9]; show minC l p d (if d < o.st ∧ o.st < b1 ∧ (wayF l p o.st).kd ≠ 2 then o.st else b1) _ = _; rw [if_neg (fun g => by omega)]; rfl⟩ (by show 2 - 1 < 2 - 0; omega) (by repeat (first | exact FSub.nil | refine FSub.cons rfl ?_ | refine FSub.conse rfl (by congr 1; omega) ?_)) (by repeat (first | exact LSub.refl | refine LSub.cons (by repeat (first | exact Rem.here | apply Rem.there)) ?_ | apply LSub.skip))
      · -- k = 1
        repeat' (first
         | (refine gJ ?_
            first
            | refine jmv rfl rfl rfl rfl rfl ?_
            | (refine gload rfl rfl ?_
               refine j_qe rfl rfl rfl ?_
               first
               | refine ⟨_, q_load_own rfl rfl rfl rfl (by (repeat (first | exact InL.here | apply InL.there))) (by first | rfl | assumption), ?_⟩
               | refine ⟨_, q_loadA_own rfl rfl rfl rfl (by (repeat (first | exact InL.here | apply InL.there))) (by rfl), ?_⟩
               | refine ⟨_, q_loadA_ext rfl rfl rfl rfl ⟨by assumption, (by first | exact id | assumption)⟩ (by rfl), ?_⟩
               | refine ⟨_, q_load_ext rfl rfl rfl rfl ⟨by assumption, (by first | exact id | assumption)⟩ (by first | rfl | assumption), ?_⟩
               | refine ⟨_, q_load_extb rfl rfl rfl rfl ⟨by assumption, (by first | exact id | assumption)⟩ (by rfl), ?_⟩
               | refine ⟨_, q_loadA_extb rfl rfl rfl rfl ⟨by assumption, (by first | exact id | assumption)⟩ (by rfl), ?_⟩
               | refine ⟨_, q_load_ext0 rfl rfl rfl rfl ⟨by assumption, (by first | exact id | assumption)⟩ (by rfl), ?_⟩)
            | refine jfield rfl rfl rfl rfl rfl rfl rfl rfl ?_
            | refine jcmp rfl rfl rfl rfl rfl rfl rfl ?_
            | refine jar rfl rfl rfl rfl rfl rfl rfl (by omega) ?_
            | (refine gcall rfl rfl ?_; refine gF ?_; refine j_callN (f := 41) rfl rfl rfl rfl rfl rfl rfl (fun x => wy2V x (wayF l p (o.en + 1))) (fun _ => True) (wyL (wayF l p (o.en + 1))) (fun w' hs => hR ((o.en + 1)) w' (h.st hs)) (fun _ => trivial) ?_; rintro ⟨v1, v2⟩ _)
            | (refine j_qe rfl rfl rfl ?_; refine ⟨_, q_fieldv rfl Try.underlying68 rfl rfl rfl rfl rfl, ?_⟩)
            | (refine gF ?_
               first
               | (refine j_buildSlice rfl rfl rfl rfl rfl rfl rfl rfl rfl rfl rfl rfl ?_; intro b))
            | (refine j_qe rfl rfl rfl ?_
               first
               | refine ⟨_, q_pick_t rfl rfl rfl, ?_⟩
               | refine ⟨_, q_pick_f rfl rfl rfl, ?_⟩
               | refine ⟨_, q_index_nat rfl rfl rfl rfl rfl (by omega), ?_⟩
               | refine ⟨_, q_index_slice rfl rfl rfl rfl rfl (by omega), ?_⟩
               | refine ⟨_, q_index_arr rfl rfl rfl rfl rfl (by omega), ?_⟩
               | refine ⟨_, q_index_arr_ext rfl rfl rfl rfl rfl (by omega), ?_⟩
               | refine ⟨_, q_len_slice rfl rfl rfl rfl, ?_⟩
               | refine ⟨_, q_field_ext rfl rfl rfl rfl rfl, ?_⟩
               | refine ⟨_, q_addu8 rfl rfl rfl (by omega), ?_⟩)
            | refine j_guard_undef rfl rfl rfl rfl rfl ?_
            | (refine j_guard rfl rfl rfl rfl rfl ?_ ?_ <;> intro hc <;> (first | (exact absurd hc (by decide)) | ((try simp only [decide_eq_true_eq, decide_eq_false_iff_not, Bool.not_eq_true', Bool.not_eq_false', Bool.not_true, Bool.not_false, ne_eq, Decidable.not_not] at hc) <;> first | (exfalso; omega) | (exact absurd trivial hc) | skip))))
         | (refine gSC ?_
            first
            | refine sc_seq ?_
            | refine sc_region ?_
            | (refine sc_cond rfl ?_ ?_ <;> intro hc <;> (first | (exact absurd hc (by decide)) | ((try simp only [decide_eq_true_eq, decide_eq_false_iff_not, Bool.not_eq_true', Bool.not_eq_false', Bool.not_true, Bool.not_false, ne_eq, Decidable.not_not] at hc) <;> first | (exfalso; omega) | (exact absurd trivial hc) | skip)))
            | refine sc_block ?_
            | refine sc_ret ?_
            | refine sc_exit ?_
            | refine sc_skip ?_
            | refine sc_draw rfl mixed (by kernel_rfl) ?_)
         | (refine gSQ ?_
            first
            | refine sq_seq ?_
            | refine sq_blk ?_
            | refine sq_seq_ret ?_
            | refine sq_blk_ret ?_
            | refine sq_loop_ret ?_
            | refine sq_seq_exit ?_
            | refine sq_blk_hit ?_
            | refine sq_blk_miss rfl ?_
            | refine sq_loop_exit ?_
            | refine sq_ende (.inl rfl) rfl rfl ⟨_, (RVs.cons (RV.tmp rfl) (RVs.cons (RV.tmp rfl) (RVs.nil))), ?_⟩
            | refine sq_ende (.inr rfl) rfl rfl ⟨_, (RVs.cons (RV.tmp rfl) (RVs.cons (RV.tmp rfl) (RVs.nil))), ?_⟩)
         | refine j_nil ?_
         )
        · exact sq_loop (2, o.en + 1) ⟨by show 2 ≤ 2; omega, by show o.en + 1 ≤ 730485; omega, by rw [hr9]; show minC l p d (if d < o.en + 1 ∧ o.en + 1 < b1 ∧ (wayF l p (o.en + 1)).kd ≠ 2 then o.en + 1 else b1) _ = _; rw [if_pos ⟨by omega, by omega, by omega⟩]; rfl⟩ (by show 2 - 2 < 2 - 1; omega) (by repeat (first | exact FSub.nil | refine FSub.cons rfl ?_ | refine FSub.conse rfl (by congr 1; omega) ?_)) (by repeat (first | exact LSub.refl | refine LSub.cons (by repeat (first | exact Rem.here | apply Rem.there)) ?_ | apply LSub.skip))
        all_goals exact sq_loop (2, b1) ⟨by show 2 ≤ 2; omega, hb1, by rw [hr9]; show minC l p d (if d < o.en + 1 ∧ o.en + 1 < b1 ∧ (wayF l p (o.en + 1)).kd ≠ 2 then o.en + 1 else b1) _ = _; rw [if_neg (fun g => by omega)]; rfl⟩ (by show 2 - 2 < 2 - 1; omega) (by repeat (first | exact FSub.nil | refine FSub.cons rfl ?_ | refine FSub.conse rfl (by congr 1; omega) ?_)) (by repeat (first | exact LSub.refl | refine LSub.cons (by repeat (first | exact Rem.here | apply Rem.there)) ?_ | apply LSub.skip))
      · repeat' (first
         | (refine gJ ?_
            first
            | refine jmv rfl rfl rfl rfl rfl ?_
            | (refine gload rfl rfl ?_
               refine j_qe rfl rfl rfl ?_
               first
               | refine ⟨_, q_load_own rfl rfl rfl rfl (by (repeat (first | exact InL.here | apply InL.there))) (by first | rfl | assumption), ?_⟩
               | refine ⟨_, q_loadA_own rfl rfl rfl rfl (by (repeat (first | exact InL.here | apply InL.there))) (by rfl), ?_⟩
               | refine ⟨_, q_loadA_ext rfl rfl rfl rfl ⟨by assumption, (by first | exact id | assumption)⟩ (by rfl), ?_⟩
               | refine ⟨_, q_load_ext rfl rfl rfl rfl ⟨by assumption, (by first | exact id | assumption)⟩ (by first | rfl | assumption), ?_⟩
               | refine ⟨_, q_load_extb rfl rfl rfl rfl ⟨by assumption, (by first | exact id | assumption)⟩ (by rfl), ?_⟩
               | refine ⟨_, q_loadA_extb rfl rfl rfl rfl ⟨by assumption, (by first | exact id | assumption)⟩ (by rfl), ?_⟩
               | refine ⟨_, q_load_ext0 rfl rfl rfl rfl ⟨by assumption, (by first | exact id | assumption)⟩ (by rfl), ?_⟩)
            | refine jfield rfl rfl rfl rfl rfl rfl rfl rfl ?_
            | refine jcmp rfl rfl rfl rfl rfl rfl rfl ?_
            | refine jar rfl rfl rfl rfl rfl rfl rfl (by omega) ?_
            | (refine gF ?_
               first
               | (refine j_buildSlice rfl rfl rfl rfl rfl rfl rfl rfl rfl rfl rfl rfl ?_; intro b))
            | (refine j_qe rfl rfl rfl ?_
               first
               | refine ⟨_, q_pick_t rfl rfl rfl, ?_⟩
               | refine ⟨_, q_pick_f rfl rfl rfl, ?_⟩
               | refine ⟨_, q_index_nat rfl rfl rfl rfl rfl (by omega), ?_⟩
               | refine ⟨_, q_index_slice rfl rfl rfl rfl rfl (by omega), ?_⟩
               | refine ⟨_, q_index_arr rfl rfl rfl rfl rfl (by omega), ?_⟩
               | refine ⟨_, q_index_arr_ext rfl rfl rfl rfl rfl (by omega), ?_⟩
               | refine ⟨_, q_len_slice rfl rfl rfl rfl, ?_⟩
               | refine ⟨_, q_field_ext rfl rfl rfl rfl rfl, ?_⟩
               | refine ⟨_, q_addu8 rfl rfl rfl (by omega), ?_⟩)
            | refine j_guard_undef rfl rfl rfl rfl rfl ?_
            | (refine j_guard rfl rfl rfl rfl rfl ?_ ?_ <;> intro hc <;> (first | (exact absurd hc (by decide)) | ((try simp only [decide_eq_true_eq, decide_eq_false_iff_not, Bool.not_eq_true', Bool.not_eq_false', Bool.not_true, Bool.not_false, ne_eq, Decidable.not_not] at hc) <;> first | (exfalso; omega) | (exact absurd trivial hc) | skip))))
         | (refine gSC ?_
            first
            | refine sc_seq ?_
            | refine sc_region ?_
            | (refine sc_cond rfl ?_ ?_ <;> intro hc <;> (first | (exact absurd hc (by decide)) | ((try simp only [decide_eq_true_eq, decide_eq_false_iff_not, Bool.not_eq_true', Bool.not_eq_false', Bool.not_true, Bool.not_false, ne_eq, Decidable.not_not] at hc) <;> first | (exfalso; omega) | (exact absurd trivial hc) | skip)))
            | refine sc_block ?_
            | refine sc_ret ?_
            | refine sc_exit ?_
            | refine sc_skip ?_
            | refine sc_draw rfl mixed (by kernel_rfl) ?_)
         | (refine gSQ ?_
            first
            | refine sq_seq ?_
            | refine sq_blk ?_
            | refine sq_seq_ret ?_
            | refine sq_blk_ret ?_
            | refine sq_loop_ret ?_
            | refine sq_seq_exit ?_
            | refine sq_blk_hit ?_
            | refine sq_blk_miss rfl ?_
            | refine sq_loop_exit ?_
            | refine sq_ende (.inl rfl) rfl rfl ⟨_, (RVs.cons (RV.tmp rfl) (RVs.cons (RV.tmp rfl) (RVs.nil))), ?_⟩
            | refine sq_ende (.inr rfl) rfl rfl ⟨_, (RVs.cons (RV.tmp rfl) (RVs.cons (RV.tmp rfl) (RVs.nil))), ?_⟩)
         | refine j_nil ?_
         )
        exact sq_loop (i + 1, b1) ⟨by show i + 1 ≤ n; omega, hb1, by rw [hr9, hDr]; rfl⟩ (by show n - (i + 1) < n - i; omega) (by repeat (first | exact FSub.nil | refine FSub.cons rfl ?_ | refine FSub.conse rfl (by congr 1; omega) ?_)) (by repeat (first | exact LSub.refl | refine LSub.cons (by repeat (first | exact Rem.here | apply Rem.there)) ?_ | apply LSub.skip))
    · have e0 : D.drop (2 * i) = [] := List.drop_of_length_le (by omega)
      rw [e0] at hr
      have hr2 : M = b0 := hr
      repeat' (first
       | (refine gJ ?_
          first
          | refine jmv rfl rfl rfl rfl rfl ?_
          | (refine gload rfl rfl ?_
             refine j_qe rfl rfl rfl ?_
             first
             | refine ⟨_, q_load_own rfl rfl rfl rfl (by (repeat (first | exact InL.here | apply InL.there))) (by first | rfl | assumption), ?_⟩
             | refine ⟨_, q_loadA_own rfl rfl rfl rfl (by (repeat (first | exact InL.here | apply InL.there))) (by rfl), ?_⟩
             | refine ⟨_, q_loadA_ext rfl rfl rfl rfl ⟨by assumption, (by first | exact id | assumption)⟩ (by rfl), ?_⟩
             | refine ⟨_, q_load_ext rfl rfl rfl rfl ⟨by assumption, (by first | exact id | assumption)⟩ (by first | rfl | assumption), ?_⟩
             | refine ⟨_, q_load_extb rfl rfl rfl rfl ⟨by assumption, (by first | exact id | assumption)⟩ (by rfl), ?_⟩
             | refine ⟨_, q_loadA_extb rfl rfl rfl rfl ⟨by assumption, (by first | exact id | assumption)⟩ (by rfl), ?_⟩
             | refine ⟨_, q_load_ext0 rfl rfl rfl rfl ⟨by assumption, (by first | exact id | assumption)⟩ (by rfl), ?_⟩)
          | refine jfield rfl rfl rfl rfl rfl rfl rfl rfl ?_
          | refine jcmp rfl rfl rfl rfl rfl rfl rfl ?_
          | refine jar rfl rfl rfl rfl rfl rfl rfl (by omega) ?_
          | (refine gF ?_
             first
             | (refine j_buildSlice rfl rfl rfl rfl rfl rfl rfl rfl rfl rfl rfl rfl ?_; intro b))
          | (refine j_qe rfl rfl rfl ?_
             first
             | refine ⟨_, q_pick_t rfl rfl rfl, ?_⟩
             | refine ⟨_, q_pick_f rfl rfl rfl, ?_⟩
             | refine ⟨_, q_index_nat rfl rfl rfl rfl rfl (by omega), ?_⟩
             | refine ⟨_, q_index_slice rfl rfl rfl rfl rfl (by omega), ?_⟩
             | refine ⟨_, q_index_arr rfl rfl rfl rfl rfl (by omega), ?_⟩
             | refine ⟨_, q_index_arr_ext rfl rfl rfl rfl rfl (by omega), ?_⟩
             | refine ⟨_, q_len_slice rfl rfl rfl rfl, ?_⟩
             | refine ⟨_, q_field_ext rfl rfl rfl rfl rfl, ?_⟩
             | refine ⟨_, q_addu8 rfl rfl rfl (by omega), ?_⟩)
          | refine j_guard_undef rfl rfl rfl rfl rfl ?_
          | (refine j_guard rfl rfl rfl rfl rfl ?_ ?_ <;> intro hc <;> (first | (exact absurd hc (by decide)) | ((try simp only [decide_eq_true_eq, decide_eq_false_iff_not, Bool.not_eq_true', Bool.not_eq_false', Bool.not_true, Bool.not_false, ne_eq, Decidable.not_not] at hc) <;> first | (exfalso; omega) | (exact absurd trivial hc) | skip))))
       | (refine gSC ?_
          first
          | refine sc_seq ?_
          | refine sc_region ?_
          | (refine sc_cond rfl ?_ ?_ <;> intro hc <;> (first | (exact absurd hc (by decide)) | ((try simp only [decide_eq_true_eq, decide_eq_false_iff_not, Bool.not_eq_true', Bool.not_eq_false', Bool.not_true, Bool.not_false, ne_eq, Decidable.not_not] at hc) <;> first | (exfalso; omega) | (exact absurd trivial hc) | skip)))
          | refine sc_block ?_
          | refine sc_ret ?_
          | refine sc_exit ?_
          | refine sc_skip ?_
          | refine sc_draw rfl mixed (by kernel_rfl) ?_)
       | (refine gSQ ?_
          first
          | refine sq_seq ?_
          | refine sq_blk ?_
          | refine sq_seq_ret ?_
          | refine sq_blk_ret ?_
          | refine sq_loop_ret ?_
          | refine sq_seq_exit ?_
          | refine sq_blk_hit ?_
          | refine sq_blk_miss rfl ?_
          | refine sq_loop_exit ?_
          | refine sq_ende (.inl rfl) rfl rfl ⟨_, (RVs.cons (RV.tmp rfl) (RVs.cons (RV.tmp rfl) (RVs.nil))), ?_⟩
          | refine sq_ende (.inr rfl) rfl rfl ⟨_, (RVs.cons (RV.tmp rfl) (RVs.cons (RV.tmp rfl) (RVs.nil))), ?_⟩)
       | refine j_nil ?_
       )
      · (intro w' hS; refine ⟨?_, hS.below⟩; simp only [pack])
        rw [e2 hk2 (by omega)]
      · (intro w' hS; refine ⟨?_, hS.below⟩; simp only [pack])
        rw [e3 hk2 (by omega), hr2]
end Go.Proofs.Ytmcmmmaffdenjaa
