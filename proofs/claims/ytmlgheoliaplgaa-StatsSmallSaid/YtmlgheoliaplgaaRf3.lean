/-
  The reference: sum.
-/
import Derived.Test.YtmlgheoliaplgaaRf2
namespace Go.Proofs.Ytmlgheoliaplgaa
open Go.RowKit Eng
set_option linter.unusedVariables false
set_option linter.unusedSimpArgs false
attribute [local irreducible] SC SQ J Qt Calls Iterates
theorem plain_rowsD (f : Nat → Nat) : ∀ (vs : List Value) (k : Nat), plainHA (rowsD f k vs)
  | [], k => trivial
  | v :: vs, k => plain_rowsD f vs (k + 1)
theorem len_part {p n f i : Nat} (hp : p ≤ 10000) (hn : n ≤ 500) : (dg (part p (10000 - p) n f i)).length ≤ 1000 := by
  refine Nat.le_trans (dg_le (part_le _ _ _ _ _)) ?_
  rw [show p + (10000 - p) = 10000 by omega, ← bn_last 10000 (10000 - 10000) n]
  exact len_bn (by omega) (by omega)
set_option maxRecDepth 4000 in
set_option maxHeartbeats 8000000 in
theorem sum_r (n p f t : Nat) (w : World) (hn : n ≤ 500) (hp : p ≤ 10000) (hft : f ≤ t) (ht : t ≤ n) :
    Calls Try.prog 71 #[.int .i64 n, .int .i64 p, .int .i64 f, .int .i64 t] w fun e w' => ∃ v : Value, True ∧ e = .returned v ∧ St w Cold [haD v (part p (10000 - p) n f (t + 1))] w' := by
  refine eng_start (n := 29) (args := [.int .i64 n, .int .i64 p, .int .i64 f, .int .i64 t]) tab tab_ok fns fns_ok [.tmp 8] Try.func71 rfl rfl rfl rfl ?_
  repeat' (first
   | (refine gJ ?_
      first
      | refine jmv rfl rfl rfl rfl rfl ?_
      | (refine gload rfl rfl ?_
         refine j_qe rfl rfl rfl ?_
         first
         | refine ⟨_, q_load_own rfl rfl rfl rfl (by (repeat (first | exact InL.here | apply InL.there))) (by first | rfl | assumption), ?_⟩
         | refine ⟨_, q_loadA_own rfl rfl rfl rfl (by (repeat (first | exact InL.here | apply InL.there))) (by rfl), ?_⟩
         | refine ⟨_, q_loadA_ext rfl rfl rfl rfl ⟨by assumption, (by first | exact id | assumption)⟩ (by rfl), ?_⟩
         | refine ⟨_, q_load_ext rfl rfl rfl rfl ⟨by assumption, (by first | exact id | assumption)⟩ (by first | rfl | assumption), ?_⟩
         | refine ⟨_, q_load_extb rfl rfl rfl rfl ⟨by assumption, (by first | exact id | assumption)⟩ (by rfl), ?_⟩
         | refine ⟨_, q_loadA_extb rfl rfl rfl rfl ⟨by assumption, (by first | exact id | assumption)⟩ (by rfl), ?_⟩
         | refine ⟨_, q_load_ext0 rfl rfl rfl rfl ⟨by assumption, (by first | exact id | assumption)⟩ (by rfl), ?_⟩)
      | refine jcmp rfl rfl rfl rfl rfl rfl rfl ?_
      | refine jar rfl rfl rfl rfl rfl rfl rfl (by omega) ?_
      | (refine gcall rfl rfl ?_; refine j_callN (f := 84) (ξ := Value × List Value) rfl rfl rfl rfl rfl rfl rfl (fun x => x.1) (fun x => x.2.length = n + 1) (fun x => .own x.1 24 1 (n + 1) (x.2.flatMap valC) :: rowsD (bn p (10000 - p) n) 0 x.2) (fun w' hs => chances_r n p w' hn hp) (fun x => plain_rowsD _ _ _) ?_; rintro ⟨lv, rows⟩ hrl)
      | (refine j_qe rfl rfl rfl ?_
         first
         | refine ⟨_, q_index_nat rfl rfl rfl rfl rfl (by omega), ?_⟩
         | refine ⟨_, q_index_slice rfl rfl rfl rfl rfl (by omega), ?_⟩
         | refine ⟨_, q_index_arr rfl rfl rfl rfl rfl (by omega), ?_⟩
         | refine ⟨_, q_index_arr_ext rfl rfl rfl rfl rfl (by omega), ?_⟩
         | refine ⟨_, q_addu8 rfl rfl rfl (by omega), ?_⟩))
   | (refine gSC ?_
      first
      | refine sc_seq ?_
      | refine sc_region ?_
      | (refine sc_cond rfl ?_ ?_ <;> intro hc <;> (first | (exact absurd hc (by decide)) | ((try simp only [decide_eq_true_eq, decide_eq_false_iff_not, Bool.not_eq_true', Bool.not_eq_false', Bool.not_true, Bool.not_false, ne_eq, Decidable.not_not] at hc) <;> first | (exfalso; omega) | (exact absurd trivial hc) | skip)))
      | refine sc_block ?_
      | refine sc_ret ?_
      | refine sc_exit ?_
      | refine sc_skip ?_)
   | (refine gSQ ?_
      first
      | refine sq_seq ?_
      | refine sq_blk ?_
      | refine sq_seq_ret ?_
      | refine sq_blk_ret ?_
      | refine sq_loop_ret ?_
      | refine sq_seq_exit ?_
      | refine sq_blk_hit ?_
      | refine sq_blk_miss rfl ?_
      | refine sq_loop_exit ?_
      | refine sq_ende (.inl rfl) rfl rfl ⟨_, (RVs.cons (RV.tmp rfl) (RVs.nil)), ?_⟩
      | refine sq_ende (.inr rfl) rfl rfl ⟨_, (RVs.cons (RV.tmp rfl) (RVs.nil)), ?_⟩)
   | refine j_nil ?_
   )
  dsimp only at hrl ⊢
  obtain ⟨T, hT⟩ : ∃ T, rowsD (bn p (10000 - p) n) 0 rows = T := ⟨_, rfl⟩
  have hTm : ∀ j v, rows[j]? = some v → haD v (bn p (10000 - p) n j) ∈ T := fun j v hj => by
    have := rowsD_mem (bn p (10000 - p) n) rows 0 j v hj
    rw [Nat.zero_add, hT] at this
    exact this
  rw [hT]
  have hlp := fun i => len_part (p := p) (n := n) (f := f) (i := i) hp hn
  have hps : ∀ i, f ≤ i → part p (10000 - p) n f i + bn p (10000 - p) n i = part p (10000 - p) n f (i + 1) := fun i hi => by rw [part, if_pos hi]
  have hp0 : part p (10000 - p) n f f = 0 := part_low _ _ _ _ _ (Nat.le_refl _)
  generalize part p (10000 - p) n f = S at *
  refine sc_ownq (v := lv) (by (repeat (first | exact InL.here | apply InL.there))) (by omega) ?_
  rintro ad0 c0 rfl hc0
  refine sc_own_nil 3 1 ?_
  refine sc_loop (ι := Nat × Option Addr × Nat) (fun i => f ≤ i.1 ∧ i.1 ≤ t + 1) (fun i => t + 1 - i.1) (fun i => [(3, .int .i64 t), (9, .slice (some ad0) (n + 1) c0), (10, .slice i.2.1 (dg (S i.1)).length i.2.2), (11, .int .i64 i.1)])
    (fun i => haD (.slice i.2.1 (dg (S i.1)).length i.2.2) (S i.1) :: .own (.slice (some ad0) (n + 1) c0) 24 1 (n + 1) (rows.flatMap valC) :: T) (f, none, 0) ⟨Nat.le_refl _, by omega⟩ (by dsimp only; rw [hp0]; exact (by repeat (first | exact FSub.nil | refine FSub.cons rfl ?_ | refine FSub.conse rfl (by congr 1; omega) ?_))) (by dsimp only; rw [hp0]; exact LSub.cons (by repeat (first | exact Rem.here | apply Rem.there)) (LSub.cons (by repeat (first | exact Rem.here | apply Rem.there)) LSub.left)) ?_
  rintro ⟨i, A, c⟩ ⟨hfi, hi⟩
  dsimp only at hfi hi ⊢
  by_cases hlt : i ≤ t
  · obtain ⟨v1, hv1⟩ : ∃ v, rows[i]? = some v := ⟨_, List.getElem?_eq_getElem (by omega)⟩
    have hm1 := hTm i v1 hv1
    have hs1 := hps i hfi
    have hl1 := hlp (i + 1)
    generalize bn p (10000 - p) n i = X at *
    refine sc_owns (v := v1) (inL_mem (List.mem_cons_of_mem _ (List.mem_cons_of_mem _ hm1))) ?_
    rintro A1 c1 rfl hsl1
    have hc3 := fun w' h1 h2 => by have h9 := add_r A c (S i) A1 c1 X w' (by rw [hs1]; omega) h1 h2; rw [hs1] at h9; exact h9
    repeat' (first
     | (refine gJ ?_
        first
        | refine jmv rfl rfl rfl rfl rfl ?_
        | refine jcmp rfl rfl rfl rfl rfl rfl rfl ?_
        | refine jar rfl rfl rfl rfl rfl rfl rfl (by omega) ?_
        | (refine j_qe rfl rfl rfl ?_; refine ⟨_, q_row1 (f := valC) rfl rfl rfl rfl (by (repeat (first | exact InL.here | apply InL.there))) (fun _ => rfl) hv1 rfl, ?_⟩)
        | (refine gcall rfl rfl ?_; refine j_dg (f := 69) rfl rfl rfl rfl rfl rfl rfl (fun w' hs => hc3 w' (sd_own hs (by (repeat (first | exact InL.here | apply InL.there)))) (sd_own hs (inL_mem (List.mem_cons_of_mem _ (List.mem_cons_of_mem _ hm1))))) ?_; intro A5 c5 h5)
        | (refine j_qe rfl rfl rfl ?_
           first
           | refine ⟨_, q_index_nat rfl rfl rfl rfl rfl (by omega), ?_⟩
           | refine ⟨_, q_index_slice rfl rfl rfl rfl rfl (by omega), ?_⟩
           | refine ⟨_, q_index_arr rfl rfl rfl rfl rfl (by omega), ?_⟩
           | refine ⟨_, q_index_arr_ext rfl rfl rfl rfl rfl (by omega), ?_⟩
           | refine ⟨_, q_addu8 rfl rfl rfl (by omega), ?_⟩))
     | (refine gSC ?_
        first
        | refine sc_seq ?_
        | refine sc_region ?_
        | (refine sc_cond rfl ?_ ?_ <;> intro hc <;> (first | (exact absurd hc (by decide)) | ((try simp only [decide_eq_true_eq, decide_eq_false_iff_not, Bool.not_eq_true', Bool.not_eq_false', Bool.not_true, Bool.not_false, ne_eq, Decidable.not_not] at hc) <;> first | (exfalso; omega) | (exact absurd trivial hc) | skip)))
        | refine sc_block ?_
        | refine sc_ret ?_
        | refine sc_exit ?_
        | refine sc_skip ?_)
     | (refine gSQ ?_
        first
        | refine sq_seq ?_
        | refine sq_blk ?_
        | refine sq_seq_ret ?_
        | refine sq_blk_ret ?_
        | refine sq_loop_ret ?_
        | refine sq_seq_exit ?_
        | refine sq_blk_hit ?_
        | refine sq_blk_miss rfl ?_
        | refine sq_loop_exit ?_
        | refine sq_ende (.inl rfl) rfl rfl ⟨_, (RVs.cons (RV.tmp rfl) (RVs.nil)), ?_⟩
        | refine sq_ende (.inr rfl) rfl rfl ⟨_, (RVs.cons (RV.tmp rfl) (RVs.nil)), ?_⟩)
     | refine j_nil ?_
     )
    refine sq_loop (i + 1, A5, c5) ⟨by show f ≤ i + 1; omega, by show i + 1 ≤ t + 1; omega⟩ (by show t + 1 - (i + 1) < t + 1 - i; omega) (by repeat (first | exact FSub.nil | refine FSub.cons rfl ?_ | refine FSub.conse rfl (by congr 1; omega) ?_)) ?_
    exact (by repeat (first | exact LSub.refl | refine LSub.cons (by repeat (first | exact Rem.here | apply Rem.there)) ?_ | apply LSub.skip))
  · obtain rfl : i = t + 1 := by omega
    repeat' (first
     | (refine gJ ?_
        first
        | refine jmv rfl rfl rfl rfl rfl ?_
        | (refine gload rfl rfl ?_
           refine j_qe rfl rfl rfl ?_
           first
           | refine ⟨_, q_load_own rfl rfl rfl rfl (by (repeat (first | exact InL.here | apply InL.there))) (by first | rfl | assumption), ?_⟩
           | refine ⟨_, q_loadA_own rfl rfl rfl rfl (by (repeat (first | exact InL.here | apply InL.there))) (by rfl), ?_⟩
           | refine ⟨_, q_loadA_ext rfl rfl rfl rfl ⟨by assumption, (by first | exact id | assumption)⟩ (by rfl), ?_⟩
           | refine ⟨_, q_load_ext rfl rfl rfl rfl ⟨by assumption, (by first | exact id | assumption)⟩ (by first | rfl | assumption), ?_⟩
           | refine ⟨_, q_load_extb rfl rfl rfl rfl ⟨by assumption, (by first | exact id | assumption)⟩ (by rfl), ?_⟩
           | refine ⟨_, q_loadA_extb rfl rfl rfl rfl ⟨by assumption, (by first | exact id | assumption)⟩ (by rfl), ?_⟩
           | refine ⟨_, q_load_ext0 rfl rfl rfl rfl ⟨by assumption, (by first | exact id | assumption)⟩ (by rfl), ?_⟩)
        | refine jcmp rfl rfl rfl rfl rfl rfl rfl ?_
        | refine jar rfl rfl rfl rfl rfl rfl rfl (by omega) ?_
        | (refine gcall rfl rfl ?_
           first
           | (refine j_qc (f := 83) rfl rfl rfl rfl rfl rfl rfl ?_; refine ⟨_, (fun w' hs => trim_d A c (S (t + 1)) w' (sd_own hs (by (repeat (first | exact InL.here | apply InL.there))))), ?_⟩))
        | (refine j_qe rfl rfl rfl ?_
           first
           | refine ⟨_, q_index_nat rfl rfl rfl rfl rfl (by omega), ?_⟩
           | refine ⟨_, q_index_slice rfl rfl rfl rfl rfl (by omega), ?_⟩
           | refine ⟨_, q_index_arr rfl rfl rfl rfl rfl (by omega), ?_⟩
           | refine ⟨_, q_index_arr_ext rfl rfl rfl rfl rfl (by omega), ?_⟩
           | refine ⟨_, q_addu8 rfl rfl rfl (by omega), ?_⟩))
     | (refine gSC ?_
        first
        | refine sc_seq ?_
        | refine sc_region ?_
        | (refine sc_cond rfl ?_ ?_ <;> intro hc <;> (first | (exact absurd hc (by decide)) | ((try simp only [decide_eq_true_eq, decide_eq_false_iff_not, Bool.not_eq_true', Bool.not_eq_false', Bool.not_true, Bool.not_false, ne_eq, Decidable.not_not] at hc) <;> first | (exfalso; omega) | (exact absurd trivial hc) | skip)))
        | refine sc_block ?_
        | refine sc_ret ?_
        | refine sc_exit ?_
        | refine sc_skip ?_)
     | (refine gSQ ?_
        first
        | refine sq_seq ?_
        | refine sq_blk ?_
        | refine sq_seq_ret ?_
        | refine sq_blk_ret ?_
        | refine sq_loop_ret ?_
        | refine sq_seq_exit ?_
        | refine sq_blk_hit ?_
        | refine sq_blk_miss rfl ?_
        | refine sq_loop_exit ?_
        | refine sq_ende (.inl rfl) rfl rfl ⟨_, (RVs.cons (RV.tmp rfl) (RVs.nil)), ?_⟩
        | refine sq_ende (.inr rfl) rfl rfl ⟨_, (RVs.cons (RV.tmp rfl) (RVs.nil)), ?_⟩)
     | refine j_nil ?_
     )
    intro w' hS
    exact ⟨.slice A (dg (S (t + 1))).length c, trivial, rfl, hS.sub (by repeat (first | exact LSub.nil | refine LSub.cons (by repeat (first | exact Rem.here | apply Rem.there)) ?_))⟩
end Go.Proofs.Ytmlgheoliaplgaa
