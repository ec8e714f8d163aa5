/-
  The law's lists of rules and of holidays.
-/
import Derived.Test.YtbejfbekamikpaaRul
namespace Go.Proofs.Ytbejfbekamikpaa
open Go.RowKit Eng
set_option linter.unusedVariables false
set_option linter.unusedSimpArgs false
attribute [local irreducible] SC SQ J Qt Calls Iterates
def rulesF (l : List Nt) : List Ru := (l.take 30).map ruledF
theorem take_succ_map {α β : Type} (f : α → β) (l : List α) (k : Nat) (x : α) (h : l[k]? = some x) : (l.take (k + 1)).map f = (l.take k).map f ++ [f x] := by
  rw [List.take_add_one, h]
  simp
theorem rules_c (A : Option Addr) (c : Nat) (l : List Nt) (w : World) (hl : l.length ≤ 9223372036854775807) (hok : ∀ x ∈ l, ntOk x) (h : RS w 4 ntC A l) :
    Calls Try.prog 12 #[.slice A l.length c] w fun e w' => ∃ v : Value, True ∧ e = .returned v ∧ St w Cold [.own v 37 5 (rulesF l).length ((rulesF l).flatMap ruC)] w' := by
  generalize hn : l.length = n at *
  refine eng_start (n := 24) (args := [.slice A n c]) tab tab_ok fns fns_ok [.tmp 2] Try.func12 rfl rfl rfl rfl ?_
  repeat' (first
   | (refine gJ ?_
      first
      | refine jmv rfl rfl rfl rfl rfl ?_
      | (refine gload rfl rfl ?_
         refine j_qe rfl rfl rfl ?_
         first
         | refine ⟨_, q_load_own rfl rfl rfl rfl (by (repeat (first | exact InL.here | apply InL.there))) (by first | rfl | assumption), ?_⟩
         | refine ⟨_, q_loadA_own rfl rfl rfl rfl (by (repeat (first | exact InL.here | apply InL.there))) (by rfl), ?_⟩
         | refine ⟨_, q_loadA_ext rfl rfl rfl rfl ⟨by assumption, (by first | exact id | assumption)⟩ (by rfl), ?_⟩
         | refine ⟨_, q_load_ext rfl rfl rfl rfl ⟨by assumption, (by first | exact id | assumption)⟩ (by first | rfl | assumption), ?_⟩
         | refine ⟨_, q_load_extb rfl rfl rfl rfl ⟨by assumption, (by first | exact id | assumption)⟩ (by rfl), ?_⟩
         | refine ⟨_, q_loadA_extb rfl rfl rfl rfl ⟨by assumption, (by first | exact id | assumption)⟩ (by rfl), ?_⟩
         | refine ⟨_, q_load_ext0 rfl rfl rfl rfl ⟨by assumption, (by first | exact id | assumption)⟩ (by rfl), ?_⟩)
      | refine jfield rfl rfl rfl rfl rfl rfl rfl rfl ?_
      | refine jcmp rfl rfl rfl rfl rfl rfl rfl ?_
      | refine jar rfl rfl rfl rfl rfl rfl rfl (by omega) ?_
      | refine jextract rfl rfl rfl rfl rfl rfl ?_
      | refine j_store rfl rfl rfl rfl rfl rfl rfl rfl (by (repeat (first | exact Upd.here | apply Upd.there))) (by rfl) ?_
      | (refine j_alloc rfl rfl rfl rfl rfl ?_; intro b)
      | (refine j_box rfl rfl rfl rfl rfl ?_; intro b)
      | (refine j_qe rfl rfl rfl ?_
         first
         | refine ⟨_, q_pick_t rfl rfl rfl, ?_⟩
         | refine ⟨_, q_pick_f rfl rfl rfl, ?_⟩
         | refine ⟨_, q_not rfl rfl, ?_⟩
         | refine ⟨_, q_index_nat rfl rfl rfl rfl rfl (by omega), ?_⟩
         | refine ⟨_, q_index_slice rfl rfl rfl rfl rfl (by omega), ?_⟩
         | refine ⟨_, q_index_arr rfl rfl rfl rfl rfl (by omega), ?_⟩
         | refine ⟨_, q_index_arr_ext rfl rfl rfl rfl rfl (by omega), ?_⟩
         | refine ⟨_, q_len_slice rfl rfl rfl rfl, ?_⟩
         | refine ⟨_, q_makeFunc rfl rfl, ?_⟩
         | refine ⟨_, q_build_struct rfl rfl rfl rfl rfl, ?_⟩
         | refine ⟨_, q_build_arr rfl rfl rfl rfl rfl, ?_⟩
         | refine ⟨_, q_nilCheck rfl rfl, ?_⟩
         | refine ⟨_, q_field_ext rfl rfl rfl rfl rfl, ?_⟩
         | refine ⟨_, q_quo rfl rfl rfl (by omega), ?_⟩
         | refine ⟨_, q_rem rfl rfl rfl (by omega), ?_⟩
         | refine ⟨_, q_quot rfl rfl rfl (by omega), ?_⟩
         | refine ⟨_, q_remt rfl rfl rfl (by omega), ?_⟩
         | refine ⟨_, q_addu8 rfl rfl rfl (by omega), ?_⟩
         | refine ⟨_, q_quou8 rfl rfl rfl (by omega), ?_⟩
         | refine ⟨_, q_shr1 rfl rfl rfl, ?_⟩
         | refine ⟨_, q_shr rfl rfl rfl ⟨by omega, by decide⟩, ?_⟩
         | refine ⟨_, q_shr rfl rfl rfl ⟨by omega, by show Int.toNat _ ≤ (8:Nat); omega⟩, ?_⟩
         | refine ⟨_, q_and1 rfl rfl rfl (by first | assumption | omega), ?_⟩
         | refine ⟨_, q_conv rfl rfl rfl rfl rfl rfl (by first | rfl | (exact i64_wrap (by omega) (by omega)) | (exact u8_wrap (by omega) (by omega)) | (exact u64_wrap (by omega) (by omega)) | (exact u16_wrap (by omega) (by omega))), ?_⟩)
      | refine j_guard_undef rfl rfl rfl rfl rfl ?_
      | (refine j_guard rfl rfl rfl rfl rfl ?_ ?_ <;> intro hc <;> (first | (exact absurd hc (by decide)) | ((try simp only [decide_eq_true_eq, decide_eq_false_iff_not, Bool.not_eq_true', Bool.not_eq_false', Bool.not_true, Bool.not_false, ne_eq, Decidable.not_not] at hc) <;> first | (exfalso; omega) | (exact absurd trivial hc) | skip)))
      | (refine j_buildSlice rfl rfl rfl rfl rfl rfl rfl rfl rfl rfl rfl rfl ?_; intro b)
      | (refine j_append rfl rfl rfl rfl rfl rfl rfl rfl rfl rfl rfl (by (repeat (first | exact InL.here | apply InL.there))) (by (repeat (first | exact InL.here | apply InL.there))) (by rfl) (by rfl) (by omega) (fun _ => by (repeat (first | exact Upd.here | apply Upd.there))) ?_; intro v))
   | (refine gSC ?_
      first
      | refine sc_seq ?_
      | refine sc_region ?_
      | (refine sc_cond rfl ?_ ?_ <;> intro hc <;> (first | (exact absurd hc (by decide)) | ((try simp only [decide_eq_true_eq, decide_eq_false_iff_not, Bool.not_eq_true', Bool.not_eq_false', Bool.not_true, Bool.not_false, ne_eq, Decidable.not_not] at hc) <;> first | (exfalso; omega) | (exact absurd trivial hc) | skip)))
      | refine sc_block ?_
      | refine sc_ret ?_
      | refine sc_exit ?_
      | refine sc_skip ?_
      | refine sc_draw rfl mixed (by kernel_rfl) ?_)
   | (refine gSQ ?_
      first
      | refine sq_seq ?_
      | refine sq_blk ?_
      | refine sq_seq_ret ?_
      | refine sq_blk_ret ?_
      | refine sq_loop_ret ?_
      | refine sq_seq_exit ?_
      | refine sq_blk_hit ?_
      | refine sq_blk_miss rfl ?_
      | refine sq_loop_exit ?_
      | refine sq_ende (.inl rfl) rfl rfl ⟨_, (RVs.cons (RV.tmp rfl) (RVs.nil)), ?_⟩
      | refine sq_ende (.inr rfl) rfl rfl ⟨_, (RVs.cons (RV.tmp rfl) (RVs.nil)), ?_⟩)
   | refine j_nil ?_
   )
  refine sc_own_nil 37 5 ?_
  refine sc_loop (ι := Nat × Value) (fun i => i.1 ≤ n ∧ i.1 ≤ 30) (fun i => n - i.1) (fun i => [(0, .slice A n c), (3, i.2), (4, .int .i64 i.1)]) (fun i => [.own i.2 37 5 i.1 (((l.take i.1).map ruledF).flatMap ruC)]) (0, .slice none 0 0) ⟨by omega, by omega⟩ (by repeat (first | exact FSub.nil | refine FSub.cons rfl ?_ | refine FSub.conse rfl (by congr 1; omega) ?_)) (by repeat (first | exact LSub.nil | refine LSub.cons (by repeat (first | exact Rem.here | apply Rem.there)) ?_)) ?_
  rintro ⟨k, v⟩ ⟨hk, hk30⟩
  dsimp only at hk hk30 ⊢
  by_cases hlt : k < n ∧ k < 30
  · obtain ⟨hlt, hlt30⟩ := hlt
    obtain ⟨x, hx⟩ : ∃ x, l[k]? = some x := ⟨_, List.getElem?_eq_getElem (by omega)⟩
    obtain ⟨ad, rfl, hX⟩ := h k x hx
    have hxo := hok x (List.mem_of_getElem? hx)
    repeat' (first
     | (refine gJ ?_
        first
        | refine jmv rfl rfl rfl rfl rfl ?_
        | (refine gload rfl rfl ?_
           refine j_qe rfl rfl rfl ?_
           first
           | refine ⟨_, q_load_own rfl rfl rfl rfl (by (repeat (first | exact InL.here | apply InL.there))) (by first | rfl | assumption), ?_⟩
           | refine ⟨_, q_loadA_own rfl rfl rfl rfl (by (repeat (first | exact InL.here | apply InL.there))) (by rfl), ?_⟩
           | refine ⟨_, q_loadA_ext rfl rfl rfl rfl ⟨by assumption, (by first | exact id | assumption)⟩ (by rfl), ?_⟩
           | refine ⟨_, q_load_ext rfl rfl rfl rfl ⟨by assumption, (by first | exact id | assumption)⟩ (by first | rfl | assumption), ?_⟩
           | refine ⟨_, q_load_extb rfl rfl rfl rfl ⟨by assumption, (by first | exact id | assumption)⟩ (by rfl), ?_⟩
           | refine ⟨_, q_loadA_extb rfl rfl rfl rfl ⟨by assumption, (by first | exact id | assumption)⟩ (by rfl), ?_⟩
           | refine ⟨_, q_load_ext0 rfl rfl rfl rfl ⟨by assumption, (by first | exact id | assumption)⟩ (by rfl), ?_⟩)
        | refine jfield rfl rfl rfl rfl rfl rfl rfl rfl ?_
        | refine jcmp rfl rfl rfl rfl rfl rfl rfl ?_
        | refine jar rfl rfl rfl rfl rfl rfl rfl (by omega) ?_
        | refine jextract rfl rfl rfl rfl rfl rfl ?_
        | (refine gcall rfl rfl ?_
           first
           | (refine j_qc (f := 16) rfl rfl rfl rfl rfl rfl rfl ?_; refine ⟨_, (fun w' _ => ruled_c x w' hxo), ?_⟩))
        | refine j_store rfl rfl rfl rfl rfl rfl rfl rfl (by (repeat (first | exact Upd.here | apply Upd.there))) (by rfl) ?_
        | (refine j_alloc rfl rfl rfl rfl rfl ?_; intro b)
        | (refine j_box rfl rfl rfl rfl rfl ?_; intro b)
        | (refine j_qe rfl rfl rfl ?_
           first
           | refine ⟨_, q_pick_t rfl rfl rfl, ?_⟩
           | refine ⟨_, q_pick_f rfl rfl rfl, ?_⟩
           | refine ⟨_, q_not rfl rfl, ?_⟩
           | refine ⟨_, q_index_nat rfl rfl rfl rfl rfl (by omega), ?_⟩
           | refine ⟨_, q_index_slice rfl rfl rfl rfl rfl (by omega), ?_⟩
           | refine ⟨_, q_index_arr rfl rfl rfl rfl rfl (by omega), ?_⟩
           | refine ⟨_, q_index_arr_ext rfl rfl rfl rfl rfl (by omega), ?_⟩
           | refine ⟨_, q_len_slice rfl rfl rfl rfl, ?_⟩
           | refine ⟨_, q_makeFunc rfl rfl, ?_⟩
           | refine ⟨_, q_build_struct rfl rfl rfl rfl rfl, ?_⟩
           | refine ⟨_, q_build_arr rfl rfl rfl rfl rfl, ?_⟩
           | refine ⟨_, q_nilCheck rfl rfl, ?_⟩
           | refine ⟨_, q_field_ext rfl rfl rfl rfl rfl, ?_⟩
           | refine ⟨_, q_quo rfl rfl rfl (by omega), ?_⟩
           | refine ⟨_, q_rem rfl rfl rfl (by omega), ?_⟩
           | refine ⟨_, q_quot rfl rfl rfl (by omega), ?_⟩
           | refine ⟨_, q_remt rfl rfl rfl (by omega), ?_⟩
           | refine ⟨_, q_addu8 rfl rfl rfl (by omega), ?_⟩
           | refine ⟨_, q_quou8 rfl rfl rfl (by omega), ?_⟩
           | refine ⟨_, q_shr1 rfl rfl rfl, ?_⟩
           | refine ⟨_, q_shr rfl rfl rfl ⟨by omega, by decide⟩, ?_⟩
           | refine ⟨_, q_shr rfl rfl rfl ⟨by omega, by show Int.toNat _ ≤ (8:Nat); omega⟩, ?_⟩
           | refine ⟨_, q_and1 rfl rfl rfl (by first | assumption | omega), ?_⟩
           | refine ⟨_, q_conv rfl rfl rfl rfl rfl rfl (by first | rfl | (exact i64_wrap (by omega) (by omega)) | (exact u8_wrap (by omega) (by omega)) | (exact u64_wrap (by omega) (by omega)) | (exact u16_wrap (by omega) (by omega))), ?_⟩)
        | refine j_guard_undef rfl rfl rfl rfl rfl ?_
        | (refine j_guard rfl rfl rfl rfl rfl ?_ ?_ <;> intro hc <;> (first | (exact absurd hc (by decide)) | ((try simp only [decide_eq_true_eq, decide_eq_false_iff_not, Bool.not_eq_true', Bool.not_eq_false', Bool.not_true, Bool.not_false, ne_eq, Decidable.not_not] at hc) <;> first | (exfalso; omega) | (exact absurd trivial hc) | skip)))
        | (refine j_buildSlice rfl rfl rfl rfl rfl rfl rfl rfl rfl rfl rfl rfl ?_; intro b)
        | (refine j_append rfl rfl rfl rfl rfl rfl rfl rfl rfl rfl rfl (by (repeat (first | exact InL.here | apply InL.there))) (by (repeat (first | exact InL.here | apply InL.there))) (by rfl) (by rfl) (by omega) (fun _ => by (repeat (first | exact Upd.here | apply Upd.there))) ?_; intro v))
     | (refine gSC ?_
        first
        | refine sc_seq ?_
        | refine sc_region ?_
        | (refine sc_cond rfl ?_ ?_ <;> intro hc <;> (first | (exact absurd hc (by decide)) | ((try simp only [decide_eq_true_eq, decide_eq_false_iff_not, Bool.not_eq_true', Bool.not_eq_false', Bool.not_true, Bool.not_false, ne_eq, Decidable.not_not] at hc) <;> first | (exfalso; omega) | (exact absurd trivial hc) | skip)))
        | refine sc_block ?_
        | refine sc_ret ?_
        | refine sc_exit ?_
        | refine sc_skip ?_
        | refine sc_draw rfl mixed (by kernel_rfl) ?_)
     | (refine gSQ ?_
        first
        | refine sq_seq ?_
        | refine sq_blk ?_
        | refine sq_seq_ret ?_
        | refine sq_blk_ret ?_
        | refine sq_loop_ret ?_
        | refine sq_seq_exit ?_
        | refine sq_blk_hit ?_
        | refine sq_blk_miss rfl ?_
        | refine sq_loop_exit ?_
        | refine sq_ende (.inl rfl) rfl rfl ⟨_, (RVs.cons (RV.tmp rfl) (RVs.nil)), ?_⟩
        | refine sq_ende (.inr rfl) rfl rfl ⟨_, (RVs.cons (RV.tmp rfl) (RVs.nil)), ?_⟩)
     | refine j_nil ?_
     )
    refine sq_loop (k + 1, v) ⟨by show k + 1 ≤ n; omega, by show k + 1 ≤ 30; omega⟩ (by show n - (k + 1) < n - k; omega) (by repeat (first | exact FSub.nil | refine FSub.cons rfl ?_ | refine FSub.conse rfl (by congr 1; omega) ?_)) ?_
    dsimp only
    rw [take_succ_map ruledF l k x hx, List.flatMap_append, List.flatMap_singleton]
    exact (by repeat (first | exact LSub.nil | refine LSub.cons (by repeat (first | exact Rem.here | apply Rem.there)) ?_))
  · have hlen : (rulesF l) = (l.take k).map ruledF ∧ ((l.take k).map ruledF).length = k := by
      unfold rulesF
      have : l.take 30 = l.take k := by
        rcases Nat.lt_or_ge k n with h1 | h1
        · have : k = 30 := by omega
          rw [this]
        · rw [List.take_of_length_le (by omega), List.take_of_length_le (by omega)]
      rw [this]
      exact ⟨rfl, by simp; omega⟩
    repeat' (first
     | (refine gJ ?_
        first
        | refine jmv rfl rfl rfl rfl rfl ?_
        | (refine gload rfl rfl ?_
           refine j_qe rfl rfl rfl ?_
           first
           | refine ⟨_, q_load_own rfl rfl rfl rfl (by (repeat (first | exact InL.here | apply InL.there))) (by first | rfl | assumption), ?_⟩
           | refine ⟨_, q_loadA_own rfl rfl rfl rfl (by (repeat (first | exact InL.here | apply InL.there))) (by rfl), ?_⟩
           | refine ⟨_, q_loadA_ext rfl rfl rfl rfl ⟨by assumption, (by first | exact id | assumption)⟩ (by rfl), ?_⟩
           | refine ⟨_, q_load_ext rfl rfl rfl rfl ⟨by assumption, (by first | exact id | assumption)⟩ (by first | rfl | assumption), ?_⟩
           | refine ⟨_, q_load_extb rfl rfl rfl rfl ⟨by assumption, (by first | exact id | assumption)⟩ (by rfl), ?_⟩
           | refine ⟨_, q_loadA_extb rfl rfl rfl rfl ⟨by assumption, (by first | exact id | assumption)⟩ (by rfl), ?_⟩
           | refine ⟨_, q_load_ext0 rfl rfl rfl rfl ⟨by assumption, (by first | exact id | assumption)⟩ (by rfl), ?_⟩)
        | refine jfield rfl rfl rfl rfl rfl rfl rfl rfl ?_
        | refine jcmp rfl rfl rfl rfl rfl rfl rfl ?_
        | refine jar rfl rfl rfl rfl rfl rfl rfl (by omega) ?_
        | refine jextract rfl rfl rfl rfl rfl rfl ?_
        | refine j_store rfl rfl rfl rfl rfl rfl rfl rfl (by (repeat (first | exact Upd.here | apply Upd.there))) (by rfl) ?_
        | (refine j_alloc rfl rfl rfl rfl rfl ?_; intro b)
        | (refine j_box rfl rfl rfl rfl rfl ?_; intro b)
        | (refine j_qe rfl rfl rfl ?_
           first
           | refine ⟨_, q_pick_t rfl rfl rfl, ?_⟩
           | refine ⟨_, q_pick_f rfl rfl rfl, ?_⟩
           | refine ⟨_, q_not rfl rfl, ?_⟩
           | refine ⟨_, q_index_nat rfl rfl rfl rfl rfl (by omega), ?_⟩
           | refine ⟨_, q_index_slice rfl rfl rfl rfl rfl (by omega), ?_⟩
           | refine ⟨_, q_index_arr rfl rfl rfl rfl rfl (by omega), ?_⟩
           | refine ⟨_, q_index_arr_ext rfl rfl rfl rfl rfl (by omega), ?_⟩
           | refine ⟨_, q_len_slice rfl rfl rfl rfl, ?_⟩
           | refine ⟨_, q_makeFunc rfl rfl, ?_⟩
           | refine ⟨_, q_build_struct rfl rfl rfl rfl rfl, ?_⟩
           | refine ⟨_, q_build_arr rfl rfl rfl rfl rfl, ?_⟩
           | refine ⟨_, q_nilCheck rfl rfl, ?_⟩
           | refine ⟨_, q_field_ext rfl rfl rfl rfl rfl, ?_⟩
           | refine ⟨_, q_quo rfl rfl rfl (by omega), ?_⟩
           | refine ⟨_, q_rem rfl rfl rfl (by omega), ?_⟩
           | refine ⟨_, q_quot rfl rfl rfl (by omega), ?_⟩
           | refine ⟨_, q_remt rfl rfl rfl (by omega), ?_⟩
           | refine ⟨_, q_addu8 rfl rfl rfl (by omega), ?_⟩
           | refine ⟨_, q_quou8 rfl rfl rfl (by omega), ?_⟩
           | refine ⟨_, q_shr1 rfl rfl rfl, ?_⟩
           | refine ⟨_, q_shr rfl rfl rfl ⟨by omega, by decide⟩, ?_⟩
           | refine ⟨_, q_shr rfl rfl rfl ⟨by omega, by show Int.toNat _ ≤ (8:Nat); omega⟩, ?_⟩
           | refine ⟨_, q_and1 rfl rfl rfl (by first | assumption | omega), ?_⟩
           | refine ⟨_, q_conv rfl rfl rfl rfl rfl rfl (by first | rfl | (exact i64_wrap (by omega) (by omega)) | (exact u8_wrap (by omega) (by omega)) | (exact u64_wrap (by omega) (by omega)) | (exact u16_wrap (by omega) (by omega))), ?_⟩)
        | refine j_guard_undef rfl rfl rfl rfl rfl ?_
        | (refine j_guard rfl rfl rfl rfl rfl ?_ ?_ <;> intro hc <;> (first | (exact absurd hc (by decide)) | ((try simp only [decide_eq_true_eq, decide_eq_false_iff_not, Bool.not_eq_true', Bool.not_eq_false', Bool.not_true, Bool.not_false, ne_eq, Decidable.not_not] at hc) <;> first | (exfalso; omega) | (exact absurd trivial hc) | skip)))
        | (refine j_buildSlice rfl rfl rfl rfl rfl rfl rfl rfl rfl rfl rfl rfl ?_; intro b)
        | (refine j_append rfl rfl rfl rfl rfl rfl rfl rfl rfl rfl rfl (by (repeat (first | exact InL.here | apply InL.there))) (by (repeat (first | exact InL.here | apply InL.there))) (by rfl) (by rfl) (by omega) (fun _ => by (repeat (first | exact Upd.here | apply Upd.there))) ?_; intro v))
     | (refine gSC ?_
        first
        | refine sc_seq ?_
        | refine sc_region ?_
        | (refine sc_cond rfl ?_ ?_ <;> intro hc <;> (first | (exact absurd hc (by decide)) | ((try simp only [decide_eq_true_eq, decide_eq_false_iff_not, Bool.not_eq_true', Bool.not_eq_false', Bool.not_true, Bool.not_false, ne_eq, Decidable.not_not] at hc) <;> first | (exfalso; omega) | (exact absurd trivial hc) | skip)))
        | refine sc_block ?_
        | refine sc_ret ?_
        | refine sc_exit ?_
        | refine sc_skip ?_
        | refine sc_draw rfl mixed (by kernel_rfl) ?_)
     | (refine gSQ ?_
        first
        | refine sq_seq ?_
        | refine sq_blk ?_
        | refine sq_seq_ret ?_
        | refine sq_blk_ret ?_
        | refine sq_loop_ret ?_
        | refine sq_seq_exit ?_
        | refine sq_blk_hit ?_
        | refine sq_blk_miss rfl ?_
        | refine sq_loop_exit ?_
        | refine sq_ende (.inl rfl) rfl rfl ⟨_, (RVs.cons (RV.tmp rfl) (RVs.nil)), ?_⟩
        | refine sq_ende (.inr rfl) rfl rfl ⟨_, (RVs.cons (RV.tmp rfl) (RVs.nil)), ?_⟩)
     | refine j_nil ?_
     )
    all_goals
      intro w' hS
      refine ⟨v, trivial, rfl, ?_⟩
      rw [hlen.1, hlen.2]
      exact hS.sub (by repeat (first | exact LSub.nil | refine LSub.cons (by repeat (first | exact Rem.here | apply Rem.there)) ?_))
def offG (a : Int) : List Int → List Int
  | [] => []
  | x :: l => (a + (1 + x % 64)) :: offG (a + (1 + x % 64)) l
def offF (l : List Int) : List Int := offG (-1) (l.take 30)
def offA (a : Int) : List Int → Int
  | [] => a
  | x :: l => offA (a + (1 + x % 64)) l
theorem offG_app : ∀ (l : List Int) (a x : Int), offG a (l ++ [x]) = offG a l ++ [offA a l + (1 + x % 64)]
  | [], a, x => rfl
  | y :: l, a, x => by simp only [List.cons_append, offG, offA, offG_app l]
theorem offA_app : ∀ (l : List Int) (a x : Int), offA a (l ++ [x]) = offA a l + (1 + x % 64)
  | [], a, x => rfl
  | y :: l, a, x => by simp only [List.cons_append, offA, offA_app l]
theorem offG_len : ∀ (l : List Int) (a : Int), (offG a l).length = l.length
  | [], a => rfl
  | y :: l, a => by simp only [offG, List.length_cons, offG_len l]
theorem offA_bd : ∀ (l : List Int) (a : Int), a ≤ offA a l ∧ offA a l ≤ a + 64 * l.length
  | [], a => by simp [offA]
  | y :: l, a => by
    have := offA_bd l (a + (1 + y % 64))
    simp only [offA, List.length_cons]
    omega
abbrev u8C (x : Int) : List Value := [.int .u8 x]
theorem off_c (A : Option Addr) (c : Nat) (l : List Int) (w : World) (hl : l.length ≤ 9223372036854775807) (hok : ∀ x ∈ l, 0 ≤ x ∧ x ≤ 255) (h : RS w 1 u8C A l) :
    Calls Try.prog 13 #[.slice A l.length c] w fun e w' => ∃ v : Value, True ∧ e = .returned v ∧ St w Cold [.own v 3 1 (offF l).length ((offF l).flatMap intC)] w' := by
  generalize hn : l.length = n at *
  refine eng_start (n := 30) (args := [.slice A n c]) tab tab_ok fns fns_ok [.tmp 2] Try.func13 rfl rfl rfl rfl ?_
  repeat' (first
   | (refine gJ ?_
      first
      | refine jmv rfl rfl rfl rfl rfl ?_
      | (refine gload rfl rfl ?_
         refine j_qe rfl rfl rfl ?_
         first
         | refine ⟨_, q_load_own rfl rfl rfl rfl (by (repeat (first | exact InL.here | apply InL.there))) (by first | rfl | assumption), ?_⟩
         | refine ⟨_, q_loadA_own rfl rfl rfl rfl (by (repeat (first | exact InL.here | apply InL.there))) (by rfl), ?_⟩
         | refine ⟨_, q_loadA_ext rfl rfl rfl rfl ⟨by assumption, (by first | exact id | assumption)⟩ (by rfl), ?_⟩
         | refine ⟨_, q_load_ext rfl rfl rfl rfl ⟨by assumption, (by first | exact id | assumption)⟩ (by first | rfl | assumption), ?_⟩
         | refine ⟨_, q_load_extb rfl rfl rfl rfl ⟨by assumption, (by first | exact id | assumption)⟩ (by rfl), ?_⟩
         | refine ⟨_, q_loadA_extb rfl rfl rfl rfl ⟨by assumption, (by first | exact id | assumption)⟩ (by rfl), ?_⟩
         | refine ⟨_, q_load_ext0 rfl rfl rfl rfl ⟨by assumption, (by first | exact id | assumption)⟩ (by rfl), ?_⟩)
      | refine jfield rfl rfl rfl rfl rfl rfl rfl rfl ?_
      | refine jcmp rfl rfl rfl rfl rfl rfl rfl ?_
      | refine jar rfl rfl rfl rfl rfl rfl rfl (by omega) ?_
      | refine jextract rfl rfl rfl rfl rfl rfl ?_
      | refine j_store rfl rfl rfl rfl rfl rfl rfl rfl (by (repeat (first | exact Upd.here | apply Upd.there))) (by rfl) ?_
      | (refine j_alloc rfl rfl rfl rfl rfl ?_; intro b)
      | (refine j_box rfl rfl rfl rfl rfl ?_; intro b)
      | (refine j_qe rfl rfl rfl ?_
         first
         | refine ⟨_, q_pick_t rfl rfl rfl, ?_⟩
         | refine ⟨_, q_pick_f rfl rfl rfl, ?_⟩
         | refine ⟨_, q_not rfl rfl, ?_⟩
         | refine ⟨_, q_index_nat rfl rfl rfl rfl rfl (by omega), ?_⟩
         | refine ⟨_, q_index_slice rfl rfl rfl rfl rfl (by omega), ?_⟩
         | refine ⟨_, q_index_arr rfl rfl rfl rfl rfl (by omega), ?_⟩
         | refine ⟨_, q_index_arr_ext rfl rfl rfl rfl rfl (by omega), ?_⟩
         | refine ⟨_, q_len_slice rfl rfl rfl rfl, ?_⟩
         | refine ⟨_, q_makeFunc rfl rfl, ?_⟩
         | refine ⟨_, q_build_struct rfl rfl rfl rfl rfl, ?_⟩
         | refine ⟨_, q_build_arr rfl rfl rfl rfl rfl, ?_⟩
         | refine ⟨_, q_nilCheck rfl rfl, ?_⟩
         | refine ⟨_, q_field_ext rfl rfl rfl rfl rfl, ?_⟩
         | refine ⟨_, q_quo rfl rfl rfl (by omega), ?_⟩
         | refine ⟨_, q_rem rfl rfl rfl (by omega), ?_⟩
         | refine ⟨_, q_quot rfl rfl rfl (by omega), ?_⟩
         | refine ⟨_, q_remt rfl rfl rfl (by omega), ?_⟩
         | refine ⟨_, q_addu8 rfl rfl rfl (by omega), ?_⟩
         | refine ⟨_, q_quou8 rfl rfl rfl (by omega), ?_⟩
         | refine ⟨_, q_shr1 rfl rfl rfl, ?_⟩
         | refine ⟨_, q_shr rfl rfl rfl ⟨by omega, by decide⟩, ?_⟩
         | refine ⟨_, q_shr rfl rfl rfl ⟨by omega, by show Int.toNat _ ≤ (8:Nat); omega⟩, ?_⟩
         | refine ⟨_, q_and1 rfl rfl rfl (by first | assumption | omega), ?_⟩
         | refine ⟨_, q_conv rfl rfl rfl rfl rfl rfl (by first | rfl | (exact i64_wrap (by omega) (by omega)) | (exact u8_wrap (by omega) (by omega)) | (exact u64_wrap (by omega) (by omega)) | (exact u16_wrap (by omega) (by omega))), ?_⟩)
      | refine j_guard_undef rfl rfl rfl rfl rfl ?_
      | (refine j_guard rfl rfl rfl rfl rfl ?_ ?_ <;> intro hc <;> (first | (exact absurd hc (by decide)) | ((try simp only [decide_eq_true_eq, decide_eq_false_iff_not, Bool.not_eq_true', Bool.not_eq_false', Bool.not_true, Bool.not_false, ne_eq, Decidable.not_not] at hc) <;> first | (exfalso; omega) | (exact absurd trivial hc) | skip)))
      | (refine j_buildSlice rfl rfl rfl rfl rfl rfl rfl rfl rfl rfl rfl rfl ?_; intro b)
      | (refine j_append rfl rfl rfl rfl rfl rfl rfl rfl rfl rfl rfl (by (repeat (first | exact InL.here | apply InL.there))) (by (repeat (first | exact InL.here | apply InL.there))) (by rfl) (by rfl) (by omega) (fun _ => by (repeat (first | exact Upd.here | apply Upd.there))) ?_; intro v))
   | (refine gSC ?_
      first
      | refine sc_seq ?_
      | refine sc_region ?_
      | (refine sc_cond rfl ?_ ?_ <;> intro hc <;> (first | (exact absurd hc (by decide)) | ((try simp only [decide_eq_true_eq, decide_eq_false_iff_not, Bool.not_eq_true', Bool.not_eq_false', Bool.not_true, Bool.not_false, ne_eq, Decidable.not_not] at hc) <;> first | (exfalso; omega) | (exact absurd trivial hc) | skip)))
      | refine sc_block ?_
      | refine sc_ret ?_
      | refine sc_exit ?_
      | refine sc_skip ?_
      | refine sc_draw rfl mixed (by kernel_rfl) ?_)
   | (refine gSQ ?_
      first
      | refine sq_seq ?_
      | refine sq_blk ?_
      | refine sq_seq_ret ?_
      | refine sq_blk_ret ?_
      | refine sq_loop_ret ?_
      | refine sq_seq_exit ?_
      | refine sq_blk_hit ?_
      | refine sq_blk_miss rfl ?_
      | refine sq_loop_exit ?_
      | refine sq_ende (.inl rfl) rfl rfl ⟨_, (RVs.cons (RV.tmp rfl) (RVs.nil)), ?_⟩
      | refine sq_ende (.inr rfl) rfl rfl ⟨_, (RVs.cons (RV.tmp rfl) (RVs.nil)), ?_⟩)
   | refine j_nil ?_
   )
  refine sc_own_nil 3 1 ?_
  refine sc_loop (ι := Nat × Value) (fun i => i.1 ≤ n ∧ i.1 ≤ 30) (fun i => n - i.1) (fun i => [(0, .slice A n c), (3, i.2), (4, .int .i64 (offA (-1) (l.take i.1))), (5, .int .i64 i.1)]) (fun i => [.own i.2 3 1 i.1 ((offG (-1) (l.take i.1)).flatMap intC)]) (0, .slice none 0 0) ⟨by omega, by omega⟩ (by repeat (first | exact FSub.nil | refine FSub.cons rfl ?_ | refine FSub.conse rfl (by congr 1; omega) ?_)) (by repeat (first | exact LSub.nil | refine LSub.cons (by repeat (first | exact Rem.here | apply Rem.there)) ?_)) ?_
  rintro ⟨k, v⟩ ⟨hk, hk30⟩
  dsimp only at hk hk30 ⊢
  have hbd := offA_bd (l.take k) (-1)
  have hlk : (l.take k).length = k := by simp; omega
  by_cases hlt : k < n ∧ k < 30
  · obtain ⟨hlt, hlt30⟩ := hlt
    obtain ⟨x, hx⟩ : ∃ x, l[k]? = some x := ⟨_, List.getElem?_eq_getElem (by omega)⟩
    obtain ⟨ad, rfl, hX⟩ := h k x hx
    have hxo := hok x (List.mem_of_getElem? hx)
    have ht : l.take (k + 1) = l.take k ++ [x] := by rw [List.take_add_one, hx]; rfl
    generalize ho : offA (-1) (l.take k) = o at *
    repeat' (first
     | (refine gJ ?_
        first
        | refine jmv rfl rfl rfl rfl rfl ?_
        | (refine gload rfl rfl ?_
           refine j_qe rfl rfl rfl ?_
           first
           | refine ⟨_, q_load_own rfl rfl rfl rfl (by (repeat (first | exact InL.here | apply InL.there))) (by first | rfl | assumption), ?_⟩
           | refine ⟨_, q_loadA_own rfl rfl rfl rfl (by (repeat (first | exact InL.here | apply InL.there))) (by rfl), ?_⟩
           | refine ⟨_, q_loadA_ext rfl rfl rfl rfl ⟨by assumption, (by first | exact id | assumption)⟩ (by rfl), ?_⟩
           | refine ⟨_, q_load_ext rfl rfl rfl rfl ⟨by assumption, (by first | exact id | assumption)⟩ (by first | rfl | assumption), ?_⟩
           | refine ⟨_, q_load_extb rfl rfl rfl rfl ⟨by assumption, (by first | exact id | assumption)⟩ (by rfl), ?_⟩
           | refine ⟨_, q_loadA_extb rfl rfl rfl rfl ⟨by assumption, (by first | exact id | assumption)⟩ (by rfl), ?_⟩
           | refine ⟨_, q_load_ext0 rfl rfl rfl rfl ⟨by assumption, (by first | exact id | assumption)⟩ (by rfl), ?_⟩)
        | refine jfield rfl rfl rfl rfl rfl rfl rfl rfl ?_
        | refine jcmp rfl rfl rfl rfl rfl rfl rfl ?_
        | refine jar rfl rfl rfl rfl rfl rfl rfl (by omega) ?_
        | refine jextract rfl rfl rfl rfl rfl rfl ?_
        | refine j_store rfl rfl rfl rfl rfl rfl rfl rfl (by (repeat (first | exact Upd.here | apply Upd.there))) (by rfl) ?_
        | (refine j_alloc rfl rfl rfl rfl rfl ?_; intro b)
        | (refine j_box rfl rfl rfl rfl rfl ?_; intro b)
        | (refine j_qe rfl rfl rfl ?_
           first
           | refine ⟨_, q_pick_t rfl rfl rfl, ?_⟩
           | refine ⟨_, q_pick_f rfl rfl rfl, ?_⟩
           | refine ⟨_, q_not rfl rfl, ?_⟩
           | refine ⟨_, q_index_nat rfl rfl rfl rfl rfl (by omega), ?_⟩
           | refine ⟨_, q_index_slice rfl rfl rfl rfl rfl (by omega), ?_⟩
           | refine ⟨_, q_index_arr rfl rfl rfl rfl rfl (by omega), ?_⟩
           | refine ⟨_, q_index_arr_ext rfl rfl rfl rfl rfl (by omega), ?_⟩
           | refine ⟨_, q_len_slice rfl rfl rfl rfl, ?_⟩
           | refine ⟨_, q_makeFunc rfl rfl, ?_⟩
           | refine ⟨_, q_build_struct rfl rfl rfl rfl rfl, ?_⟩
           | refine ⟨_, q_build_arr rfl rfl rfl rfl rfl, ?_⟩
           | refine ⟨_, q_nilCheck rfl rfl, ?_⟩
           | refine ⟨_, q_field_ext rfl rfl rfl rfl rfl, ?_⟩
           | refine ⟨_, q_quo rfl rfl rfl (by omega), ?_⟩
           | refine ⟨_, q_rem rfl rfl rfl (by omega), ?_⟩
           | refine ⟨_, q_quot rfl rfl rfl (by omega), ?_⟩
           | refine ⟨_, q_remt rfl rfl rfl (by omega), ?_⟩
           | refine ⟨_, q_addu8 rfl rfl rfl (by omega), ?_⟩
           | refine ⟨_, q_quou8 rfl rfl rfl (by omega), ?_⟩
           | refine ⟨_, q_shr1 rfl rfl rfl, ?_⟩
           | refine ⟨_, q_shr rfl rfl rfl ⟨by omega, by decide⟩, ?_⟩
           | refine ⟨_, q_shr rfl rfl rfl ⟨by omega, by show Int.toNat _ ≤ (8:Nat); omega⟩, ?_⟩
           | refine ⟨_, q_and1 rfl rfl rfl (by first | assumption | omega), ?_⟩
           | refine ⟨_, q_conv rfl rfl rfl rfl rfl rfl (by first | rfl | (exact i64_wrap (by omega) (by omega)) | (exact u8_wrap (by omega) (by omega)) | (exact u64_wrap (by omega) (by omega)) | (exact u16_wrap (by omega) (by omega))), ?_⟩)
        | refine j_guard_undef rfl rfl rfl rfl rfl ?_
        | (refine j_guard rfl rfl rfl rfl rfl ?_ ?_ <;> intro hc <;> (first | (exact absurd hc (by decide)) | ((try simp only [decide_eq_true_eq, decide_eq_false_iff_not, Bool.not_eq_true', Bool.not_eq_false', Bool.not_true, Bool.not_false, ne_eq, Decidable.not_not] at hc) <;> first | (exfalso; omega) | (exact absurd trivial hc) | skip)))
        | (refine j_buildSlice rfl rfl rfl rfl rfl rfl rfl rfl rfl rfl rfl rfl ?_; intro b)
        | (refine j_append rfl rfl rfl rfl rfl rfl rfl rfl rfl rfl rfl (by (repeat (first | exact InL.here | apply InL.there))) (by (repeat (first | exact InL.here | apply InL.there))) (by rfl) (by rfl) (by omega) (fun _ => by (repeat (first | exact Upd.here | apply Upd.there))) ?_; intro v))
     | (refine gSC ?_
        first
        | refine sc_seq ?_
        | refine sc_region ?_
        | (refine sc_cond rfl ?_ ?_ <;> intro hc <;> (first | (exact absurd hc (by decide)) | ((try simp only [decide_eq_true_eq, decide_eq_false_iff_not, Bool.not_eq_true', Bool.not_eq_false', Bool.not_true, Bool.not_false, ne_eq, Decidable.not_not] at hc) <;> first | (exfalso; omega) | (exact absurd trivial hc) | skip)))
        | refine sc_block ?_
        | refine sc_ret ?_
        | refine sc_exit ?_
        | refine sc_skip ?_
        | refine sc_draw rfl mixed (by kernel_rfl) ?_)
     | (refine gSQ ?_
        first
        | refine sq_seq ?_
        | refine sq_blk ?_
        | refine sq_seq_ret ?_
        | refine sq_blk_ret ?_
        | refine sq_loop_ret ?_
        | refine sq_seq_exit ?_
        | refine sq_blk_hit ?_
        | refine sq_blk_miss rfl ?_
        | refine sq_loop_exit ?_
        | refine sq_ende (.inl rfl) rfl rfl ⟨_, (RVs.cons (RV.tmp rfl) (RVs.nil)), ?_⟩
        | refine sq_ende (.inr rfl) rfl rfl ⟨_, (RVs.cons (RV.tmp rfl) (RVs.nil)), ?_⟩)
     | refine j_nil ?_
     )
    refine sq_loop (k + 1, v) ⟨by show k + 1 ≤ n; omega, by show k + 1 ≤ 30; omega⟩ (by show n - (k + 1) < n - k; omega) ?_ ?_
    · dsimp only
      rw [ht, offA_app, ho]
      exact (by repeat (first | exact FSub.nil | refine FSub.cons rfl ?_ | refine FSub.conse rfl (by congr 1; omega) ?_))
    · dsimp only
      rw [ht, offG_app, ho, List.flatMap_append, List.flatMap_singleton]
      exact (by repeat (first | exact LSub.nil | refine LSub.cons (by repeat (first | exact Rem.here | apply Rem.there)) ?_))
  · have hlen : offF l = offG (-1) (l.take k) ∧ (offG (-1) (l.take k)).length = k := by
      unfold offF
      have : l.take 30 = l.take k := by
        rcases Nat.lt_or_ge k n with h1 | h1
        · have : k = 30 := by omega
          rw [this]
        · rw [List.take_of_length_le (by omega), List.take_of_length_le (by omega)]
      rw [this]
      exact ⟨rfl, by rw [offG_len]; exact hlk⟩
    repeat' (first
     | (refine gJ ?_
        first
        | refine jmv rfl rfl rfl rfl rfl ?_
        | (refine gload rfl rfl ?_
           refine j_qe rfl rfl rfl ?_
           first
           | refine ⟨_, q_load_own rfl rfl rfl rfl (by (repeat (first | exact InL.here | apply InL.there))) (by first | rfl | assumption), ?_⟩
           | refine ⟨_, q_loadA_own rfl rfl rfl rfl (by (repeat (first | exact InL.here | apply InL.there))) (by rfl), ?_⟩
           | refine ⟨_, q_loadA_ext rfl rfl rfl rfl ⟨by assumption, (by first | exact id | assumption)⟩ (by rfl), ?_⟩
           | refine ⟨_, q_load_ext rfl rfl rfl rfl ⟨by assumption, (by first | exact id | assumption)⟩ (by first | rfl | assumption), ?_⟩
           | refine ⟨_, q_load_extb rfl rfl rfl rfl ⟨by assumption, (by first | exact id | assumption)⟩ (by rfl), ?_⟩
           | refine ⟨_, q_loadA_extb rfl rfl rfl rfl ⟨by assumption, (by first | exact id | assumption)⟩ (by rfl), ?_⟩
           | refine ⟨_, q_load_ext0 rfl rfl rfl rfl ⟨by assumption, (by first | exact id | assumption)⟩ (by rfl), ?_⟩)
        | refine jfield rfl rfl rfl rfl rfl rfl rfl rfl ?_
        | refine jcmp rfl rfl rfl rfl rfl rfl rfl ?_
        | refine jar rfl rfl rfl rfl rfl rfl rfl (by omega) ?_
        | refine jextract rfl rfl rfl rfl rfl rfl ?_
        | refine j_store rfl rfl rfl rfl rfl rfl rfl rfl (by (repeat (first | exact Upd.here | apply Upd.there))) (by rfl) ?_
        | (refine j_alloc rfl rfl rfl rfl rfl ?_; intro b)
        | (refine j_box rfl rfl rfl rfl rfl ?_; intro b)
        | (refine j_qe rfl rfl rfl ?_
           first
           | refine ⟨_, q_pick_t rfl rfl rfl, ?_⟩
           | refine ⟨_, q_pick_f rfl rfl rfl, ?_⟩
           | refine ⟨_, q_not rfl rfl, ?_⟩
           | refine ⟨_, q_index_nat rfl rfl rfl rfl rfl (by omega), ?_⟩
           | refine ⟨_, q_index_slice rfl rfl rfl rfl rfl (by omega), ?_⟩
           | refine ⟨_, q_index_arr rfl rfl rfl rfl rfl (by omega), ?_⟩
           | refine ⟨_, q_index_arr_ext rfl rfl rfl rfl rfl (by omega), ?_⟩
           | refine ⟨_, q_len_slice rfl rfl rfl rfl, ?_⟩
           | refine ⟨_, q_makeFunc rfl rfl, ?_⟩
           | refine ⟨_, q_build_struct rfl rfl rfl rfl rfl, ?_⟩
           | refine ⟨_, q_build_arr rfl rfl rfl rfl rfl, ?_⟩
           | refine ⟨_, q_nilCheck rfl rfl, ?_⟩
           | refine ⟨_, q_field_ext rfl rfl rfl rfl rfl, ?_⟩
           | refine ⟨_, q_quo rfl rfl rfl (by omega), ?_⟩
           | refine ⟨_, q_rem rfl rfl rfl (by omega), ?_⟩
           | refine ⟨_, q_quot rfl rfl rfl (by omega), ?_⟩
           | refine ⟨_, q_remt rfl rfl rfl (by omega), ?_⟩
           | refine ⟨_, q_addu8 rfl rfl rfl (by omega), ?_⟩
           | refine ⟨_, q_quou8 rfl rfl rfl (by omega), ?_⟩
           | refine ⟨_, q_shr1 rfl rfl rfl, ?_⟩
           | refine ⟨_, q_shr rfl rfl rfl ⟨by omega, by decide⟩, ?_⟩
           | refine ⟨_, q_shr rfl rfl rfl ⟨by omega, by show Int.toNat _ ≤ (8:Nat); omega⟩, ?_⟩
           | refine ⟨_, q_and1 rfl rfl rfl (by first | assumption | omega), ?_⟩
           | refine ⟨_, q_conv rfl rfl rfl rfl rfl rfl (by first | rfl | (exact i64_wrap (by omega) (by omega)) | (exact u8_wrap (by omega) (by omega)) | (exact u64_wrap (by omega) (by omega)) | (exact u16_wrap (by omega) (by omega))), ?_⟩)
        | refine j_guard_undef rfl rfl rfl rfl rfl ?_
        | (refine j_guard rfl rfl rfl rfl rfl ?_ ?_ <;> intro hc <;> (first | (exact absurd hc (by decide)) | ((try simp only [decide_eq_true_eq, decide_eq_false_iff_not, Bool.not_eq_true', Bool.not_eq_false', Bool.not_true, Bool.not_false, ne_eq, Decidable.not_not] at hc) <;> first | (exfalso; omega) | (exact absurd trivial hc) | skip)))
        | (refine j_buildSlice rfl rfl rfl rfl rfl rfl rfl rfl rfl rfl rfl rfl ?_; intro b)
        | (refine j_append rfl rfl rfl rfl rfl rfl rfl rfl rfl rfl rfl (by (repeat (first | exact InL.here | apply InL.there))) (by (repeat (first | exact InL.here | apply InL.there))) (by rfl) (by rfl) (by omega) (fun _ => by (repeat (first | exact Upd.here | apply Upd.there))) ?_; intro v))
     | (refine gSC ?_
        first
        | refine sc_seq ?_
        | refine sc_region ?_
        | (refine sc_cond rfl ?_ ?_ <;> intro hc <;> (first | (exact absurd hc (by decide)) | ((try simp only [decide_eq_true_eq, decide_eq_false_iff_not, Bool.not_eq_true', Bool.not_eq_false', Bool.not_true, Bool.not_false, ne_eq, Decidable.not_not] at hc) <;> first | (exfalso; omega) | (exact absurd trivial hc) | skip)))
        | refine sc_block ?_
        | refine sc_ret ?_
        | refine sc_exit ?_
        | refine sc_skip ?_
        | refine sc_draw rfl mixed (by kernel_rfl) ?_)
     | (refine gSQ ?_
        first
        | refine sq_seq ?_
        | refine sq_blk ?_
        | refine sq_seq_ret ?_
        | refine sq_blk_ret ?_
        | refine sq_loop_ret ?_
        | refine sq_seq_exit ?_
        | refine sq_blk_hit ?_
        | refine sq_blk_miss rfl ?_
        | refine sq_loop_exit ?_
        | refine sq_ende (.inl rfl) rfl rfl ⟨_, (RVs.cons (RV.tmp rfl) (RVs.nil)), ?_⟩
        | refine sq_ende (.inr rfl) rfl rfl ⟨_, (RVs.cons (RV.tmp rfl) (RVs.nil)), ?_⟩)
     | refine j_nil ?_
     )
    all_goals
      intro w' hS
      refine ⟨v, trivial, rfl, ?_⟩
      rw [hlen.1, hlen.2]
      exact hS.sub (by repeat (first | exact LSub.nil | refine LSub.cons (by repeat (first | exact Rem.here | apply Rem.there)) ?_))
end Go.Proofs.Ytbejfbekamikpaa
