/-
  order: of, force, Force, Right.
-/
import Derived.Test.YtmcmmmaffdenjaaOr2
import Derived.Test.YtmcmmmaffdenjaaMp0
namespace Go.Proofs.Ytmcmmmaffdenjaa
open Go.RowKit Eng
set_option linter.unusedVariables false
set_option linter.unusedSimpArgs false
set_option maxHeartbeats 8000000
attribute [local irreducible] SC SQ J Qt Calls Iterates
theorem take_snocG {α : Type} {l : List α} {k : Nat} {x : α} (h : l[k]? = some x) : l.take (k + 1) = l.take k ++ [x] := by
  rw [List.take_add_one, h]
  rfl
theorem ofP_yes {l : List Od} {k : Nat} {x : Od} {p : Int} (h : l[k]? = some x) (e : x.frm = p) : ofP (l.take (k + 1)) p = ofP (l.take k) p ++ [x] := by
  unfold ofP
  rw [take_snocG h, List.filter_append]
  simp [e]
theorem ofP_no {l : List Od} {k : Nat} {x : Od} {p : Int} (h : l[k]? = some x) (e : ¬ x.frm = p) : ofP (l.take (k + 1)) p = ofP (l.take k) p := by
  unfold ofP
  rw [take_snocG h, List.filter_append]
  simp [e]
theorem ofP_len (l : List Od) (p : Int) : (ofP l p).length ≤ l.length := List.length_filter_le _ _
theorem of_c (A : Option Addr) (c : Nat) (l : List Od) (p : Int) (w : World) (hl : l.length ≤ 1000000) (h : RS w 6 odC A l) :
    Calls Try.prog 58 #[.slice A l.length c, .int .i64 p] w fun e w' => ∃ v : Value, True ∧ e = .returned (.agg #[v]) ∧ St w Cold [.own v 30 6 (ofP l p).length ((ofP l p).flatMap odC)] w' := by
  generalize hn : l.length = n at *
  refine eng_start (n := 26) (args := [.slice A n c, .int .i64 p]) tab tab_ok fns fns_ok [.cell 4 95] Try.func58 rfl rfl rfl rfl ?_
  repeat' (first
   | (refine gJ ?_
      first
      | refine jmv rfl rfl rfl rfl rfl ?_
      | (refine gload rfl rfl ?_
         refine j_qe rfl rfl rfl ?_
         first
         | refine ⟨_, q_load_own rfl rfl rfl rfl (by (repeat (first | exact InL.here | apply InL.there))) (by first | rfl | assumption), ?_⟩
         | refine ⟨_, q_loadA_own rfl rfl rfl rfl (by (repeat (first | exact InL.here | apply InL.there))) (by rfl), ?_⟩
         | refine ⟨_, q_loadA_ext rfl rfl rfl rfl ⟨by assumption, (by first | exact id | assumption)⟩ (by rfl), ?_⟩
         | refine ⟨_, q_load_ext rfl rfl rfl rfl ⟨by assumption, (by first | exact id | assumption)⟩ (by first | rfl | assumption), ?_⟩
         | refine ⟨_, q_load_extb rfl rfl rfl rfl ⟨by assumption, (by first | exact id | assumption)⟩ (by rfl), ?_⟩
         | refine ⟨_, q_loadA_extb rfl rfl rfl rfl ⟨by assumption, (by first | exact id | assumption)⟩ (by rfl), ?_⟩
         | refine ⟨_, q_load_ext0 rfl rfl rfl rfl ⟨by assumption, (by first | exact id | assumption)⟩ (by rfl), ?_⟩)
      | refine jfield rfl rfl rfl rfl rfl rfl rfl rfl ?_
      | refine jcmp rfl rfl rfl rfl rfl rfl rfl ?_
      | refine jar rfl rfl rfl rfl rfl rfl rfl (by omega) ?_
      | (refine gF ?_
         first
         | refine j_store rfl rfl rfl rfl rfl rfl rfl rfl (by (repeat (first | exact Upd.here | apply Upd.there))) (by rfl) ?_
         | (refine j_alloc rfl rfl rfl rfl rfl ?_; intro b)
         | (refine j_buildSlice rfl rfl rfl rfl rfl rfl rfl rfl rfl rfl rfl rfl ?_; intro b)
         | (refine j_append rfl rfl rfl rfl rfl rfl rfl rfl rfl rfl rfl (by (repeat (first | exact InL.here | apply InL.there))) (by (repeat (first | exact InL.here | apply InL.there))) (by rfl) (by rfl) (by omega) (fun _ => by (repeat (first | exact Upd.here | apply Upd.there))) ?_; intro v))
      | (refine j_qe rfl rfl rfl ?_
         first
         | refine ⟨_, q_index_nat rfl rfl rfl rfl rfl (by omega), ?_⟩
         | refine ⟨_, q_index_slice rfl rfl rfl rfl rfl (by omega), ?_⟩
         | refine ⟨_, q_index_arr rfl rfl rfl rfl rfl (by omega), ?_⟩
         | refine ⟨_, q_index_arr_ext rfl rfl rfl rfl rfl (by omega), ?_⟩
         | refine ⟨_, q_len_slice rfl rfl rfl rfl, ?_⟩
         | refine ⟨_, q_field_ext rfl rfl rfl rfl rfl, ?_⟩
         | refine ⟨_, q_addu8 rfl rfl rfl (by omega), ?_⟩))
   | (refine gSC ?_
      first
      | refine sc_seq ?_
      | refine sc_region ?_
      | (refine sc_cond rfl ?_ ?_ <;> intro hc <;> (first | (exact absurd hc (by decide)) | ((try simp only [decide_eq_true_eq, decide_eq_false_iff_not, Bool.not_eq_true', Bool.not_eq_false', Bool.not_true, Bool.not_false, ne_eq, Decidable.not_not] at hc) <;> first | (exfalso; omega) | (exact absurd trivial hc) | skip)))
      | refine sc_block ?_
      | refine sc_ret ?_
      | refine sc_exit ?_
      | refine sc_skip ?_)
   | (refine gSQ ?_
      first
      | refine sq_seq ?_
      | refine sq_blk ?_
      | refine sq_seq_ret ?_
      | refine sq_blk_ret ?_
      | refine sq_loop_ret ?_
      | refine sq_seq_exit ?_
      | refine sq_blk_hit ?_
      | refine sq_blk_miss rfl ?_
      | refine sq_loop_exit ?_
      | refine sq_ende (.inl rfl) rfl rfl ⟨_, (RVs.cons (by first | exact RV.cell rfl rfl rfl (by (repeat (first | exact InL.here | apply InL.there))) (by rfl) | exact RV.cellA rfl rfl rfl (by (repeat (first | exact InL.here | apply InL.there))) (by rfl)) (RVs.nil)), ?_⟩
      | refine sq_ende (.inr rfl) rfl rfl ⟨_, (RVs.cons (by first | exact RV.cell rfl rfl rfl (by (repeat (first | exact InL.here | apply InL.there))) (by rfl) | exact RV.cellA rfl rfl rfl (by (repeat (first | exact InL.here | apply InL.there))) (by rfl)) (RVs.nil)), ?_⟩)
   | refine j_nil ?_
   )
  revert b; intro b5; revert b; intro b4
  refine sc_own_nil_at 30 6 ?_
  refine sc_loop (ι := Nat × Value × List Od) (fun i => i.1 ≤ n ∧ i.2.2 = ofP (l.take i.1) p) (fun i => n - i.1) (fun i => [(1, .int .i64 p), (4, .pointer (some ⟨b4, 0, none⟩)), (5, .pointer (some ⟨b5, 0, none⟩)), (8, .slice A n c), (9, .int .i64 n), (10, .int .i64 i.1)]) (fun i => [.own i.2.1 30 6 i.2.2.length (i.2.2.flatMap odC), .cells b5 95 [i.2.1], .cells b4 95 [.slice none 0 0]]) (0, .slice none 0 0, []) ⟨by omega, rfl⟩ (by repeat (first | exact FSub.nil | refine FSub.cons rfl ?_ | refine FSub.conse rfl (by congr 1; omega) ?_)) (by repeat (first | exact LSub.nil | refine LSub.cons (by repeat (first | exact Rem.here | apply Rem.there)) ?_)) ?_
  rintro ⟨k, v0, R⟩ ⟨hk, hR⟩
  dsimp only at hk hR ⊢
  by_cases hlt : k < n
  · obtain ⟨x, hx⟩ : ∃ x, l[k]? = some x := ⟨_, List.getElem?_eq_getElem (by omega)⟩
    obtain ⟨ad, rfl, hX⟩ := h k x hx
    have hRl : R.length ≤ 1000000 := by rw [hR]; have := ofP_len (l.take k) p; rw [List.length_take] at this; omega
    refine sc_owns (by (repeat (first | exact InL.here | apply InL.there))) ?_
    rintro A0 c0 rfl hs0
    repeat' (first
     | (refine gJ ?_
        first
        | refine jmv rfl rfl rfl rfl rfl ?_
        | (refine gload rfl rfl ?_
           refine j_qe rfl rfl rfl ?_
           first
           | refine ⟨_, q_load_own rfl rfl rfl rfl (by (repeat (first | exact InL.here | apply InL.there))) (by first | rfl | assumption), ?_⟩
           | refine ⟨_, q_loadA_own rfl rfl rfl rfl (by (repeat (first | exact InL.here | apply InL.there))) (by rfl), ?_⟩
           | refine ⟨_, q_loadA_ext rfl rfl rfl rfl ⟨by assumption, (by first | exact id | assumption)⟩ (by rfl), ?_⟩
           | refine ⟨_, q_load_ext rfl rfl rfl rfl ⟨by assumption, (by first | exact id | assumption)⟩ (by first | rfl | assumption), ?_⟩
           | refine ⟨_, q_load_extb rfl rfl rfl rfl ⟨by assumption, (by first | exact id | assumption)⟩ (by rfl), ?_⟩
           | refine ⟨_, q_loadA_extb rfl rfl rfl rfl ⟨by assumption, (by first | exact id | assumption)⟩ (by rfl), ?_⟩
           | refine ⟨_, q_load_ext0 rfl rfl rfl rfl ⟨by assumption, (by first | exact id | assumption)⟩ (by rfl), ?_⟩)
        | refine jfield rfl rfl rfl rfl rfl rfl rfl rfl ?_
        | refine jcmp rfl rfl rfl rfl rfl rfl rfl ?_
        | refine jar rfl rfl rfl rfl rfl rfl rfl (by omega) ?_
        | (refine gF ?_; refine j_append rfl rfl rfl rfl rfl rfl rfl rfl rfl rfl rfl (by (repeat (first | exact InL.here | apply InL.there))) (by (repeat (first | exact InL.here | apply InL.there))) (by rfl) (by rfl) (by omega) (fun _ => by (repeat (first | exact Upd.here | apply Upd.there))) ?_; intro v; refine j_owns (by (repeat (first | exact InL.here | apply InL.there))) ?_; rintro A3 c3 rfl hs3)
        | (refine gF ?_
           first
           | refine j_store rfl rfl rfl rfl rfl rfl rfl rfl (by (repeat (first | exact Upd.here | apply Upd.there))) (by rfl) ?_
           | (refine j_alloc rfl rfl rfl rfl rfl ?_; intro b)
           | (refine j_buildSlice rfl rfl rfl rfl rfl rfl rfl rfl rfl rfl rfl rfl ?_; intro b)
           | (refine j_append rfl rfl rfl rfl rfl rfl rfl rfl rfl rfl rfl (by (repeat (first | exact InL.here | apply InL.there))) (by (repeat (first | exact InL.here | apply InL.there))) (by rfl) (by rfl) (by omega) (fun _ => by (repeat (first | exact Upd.here | apply Upd.there))) ?_; intro v))
        | (refine j_qe rfl rfl rfl ?_
           first
           | refine ⟨_, q_index_nat rfl rfl rfl rfl rfl (by omega), ?_⟩
           | refine ⟨_, q_index_slice rfl rfl rfl rfl rfl (by omega), ?_⟩
           | refine ⟨_, q_index_arr rfl rfl rfl rfl rfl (by omega), ?_⟩
           | refine ⟨_, q_index_arr_ext rfl rfl rfl rfl rfl (by omega), ?_⟩
           | refine ⟨_, q_len_slice rfl rfl rfl rfl, ?_⟩
           | refine ⟨_, q_field_ext rfl rfl rfl rfl rfl, ?_⟩
           | refine ⟨_, q_addu8 rfl rfl rfl (by omega), ?_⟩))
     | (refine gSC ?_
        first
        | refine sc_seq ?_
        | refine sc_region ?_
        | (refine sc_cond rfl ?_ ?_ <;> intro hc <;> (first | (exact absurd hc (by decide)) | ((try simp only [decide_eq_true_eq, decide_eq_false_iff_not, Bool.not_eq_true', Bool.not_eq_false', Bool.not_true, Bool.not_false, ne_eq, Decidable.not_not] at hc) <;> first | (exfalso; omega) | (exact absurd trivial hc) | skip)))
        | refine sc_block ?_
        | refine sc_ret ?_
        | refine sc_exit ?_
        | refine sc_skip ?_)
     | (refine gSQ ?_
        first
        | refine sq_seq ?_
        | refine sq_blk ?_
        | refine sq_seq_ret ?_
        | refine sq_blk_ret ?_
        | refine sq_loop_ret ?_
        | refine sq_seq_exit ?_
        | refine sq_blk_hit ?_
        | refine sq_blk_miss rfl ?_
        | refine sq_loop_exit ?_
        | refine sq_ende (.inl rfl) rfl rfl ⟨_, (RVs.cons (by first | exact RV.cell rfl rfl rfl (by (repeat (first | exact InL.here | apply InL.there))) (by rfl) | exact RV.cellA rfl rfl rfl (by (repeat (first | exact InL.here | apply InL.there))) (by rfl)) (RVs.nil)), ?_⟩
        | refine sq_ende (.inr rfl) rfl rfl ⟨_, (RVs.cons (by first | exact RV.cell rfl rfl rfl (by (repeat (first | exact InL.here | apply InL.there))) (by rfl) | exact RV.cellA rfl rfl rfl (by (repeat (first | exact InL.here | apply InL.there))) (by rfl)) (RVs.nil)), ?_⟩)
     | refine j_nil ?_
     )
    · refine sq_loop (k + 1, .slice A3 (R.length + 1) c3, R ++ [x]) ⟨by show k + 1 ≤ n; omega, by show R ++ [x] = _; rw [hR, ofP_yes hx (by assumption)]⟩ (by show n - (k + 1) < n - k; omega) (by repeat (first | exact FSub.nil | refine FSub.cons rfl ?_ | refine FSub.conse rfl (by congr 1; omega) ?_)) ?_
      dsimp only
      rw [own_snoc]
      exact (by repeat (first | exact LSub.refl | refine LSub.cons (by repeat (first | exact Rem.here | apply Rem.there)) ?_ | apply LSub.skip))
    · exact sq_loop (k + 1, .slice A0 R.length c0, R) ⟨by show k + 1 ≤ n; omega, by show R = _; rw [hR, ofP_no hx (by assumption)]⟩ (by show n - (k + 1) < n - k; omega) (by repeat (first | exact FSub.nil | refine FSub.cons rfl ?_ | refine FSub.conse rfl (by congr 1; omega) ?_)) (by repeat (first | exact LSub.refl | refine LSub.cons (by repeat (first | exact Rem.here | apply Rem.there)) ?_ | apply LSub.skip))
  · rw [List.take_of_length_le (by omega)] at hR
    refine sc_owns (by (repeat (first | exact InL.here | apply InL.there))) ?_
    rintro A0 c0 rfl hs0
    repeat' (first
     | (refine gJ ?_
        first
        | refine jmv rfl rfl rfl rfl rfl ?_
        | (refine gload rfl rfl ?_
           refine j_qe rfl rfl rfl ?_
           first
           | refine ⟨_, q_load_own rfl rfl rfl rfl (by (repeat (first | exact InL.here | apply InL.there))) (by first | rfl | assumption), ?_⟩
           | refine ⟨_, q_loadA_own rfl rfl rfl rfl (by (repeat (first | exact InL.here | apply InL.there))) (by rfl), ?_⟩
           | refine ⟨_, q_loadA_ext rfl rfl rfl rfl ⟨by assumption, (by first | exact id | assumption)⟩ (by rfl), ?_⟩
           | refine ⟨_, q_load_ext rfl rfl rfl rfl ⟨by assumption, (by first | exact id | assumption)⟩ (by first | rfl | assumption), ?_⟩
           | refine ⟨_, q_load_extb rfl rfl rfl rfl ⟨by assumption, (by first | exact id | assumption)⟩ (by rfl), ?_⟩
           | refine ⟨_, q_loadA_extb rfl rfl rfl rfl ⟨by assumption, (by first | exact id | assumption)⟩ (by rfl), ?_⟩
           | refine ⟨_, q_load_ext0 rfl rfl rfl rfl ⟨by assumption, (by first | exact id | assumption)⟩ (by rfl), ?_⟩)
        | refine jfield rfl rfl rfl rfl rfl rfl rfl rfl ?_
        | refine jcmp rfl rfl rfl rfl rfl rfl rfl ?_
        | refine jar rfl rfl rfl rfl rfl rfl rfl (by omega) ?_
        | (refine gF ?_
           first
           | refine j_store rfl rfl rfl rfl rfl rfl rfl rfl (by (repeat (first | exact Upd.here | apply Upd.there))) (by rfl) ?_
           | (refine j_alloc rfl rfl rfl rfl rfl ?_; intro b)
           | (refine j_buildSlice rfl rfl rfl rfl rfl rfl rfl rfl rfl rfl rfl rfl ?_; intro b)
           | (refine j_append rfl rfl rfl rfl rfl rfl rfl rfl rfl rfl rfl (by (repeat (first | exact InL.here | apply InL.there))) (by (repeat (first | exact InL.here | apply InL.there))) (by rfl) (by rfl) (by omega) (fun _ => by (repeat (first | exact Upd.here | apply Upd.there))) ?_; intro v))
        | (refine j_qe rfl rfl rfl ?_
           first
           | refine ⟨_, q_index_nat rfl rfl rfl rfl rfl (by omega), ?_⟩
           | refine ⟨_, q_index_slice rfl rfl rfl rfl rfl (by omega), ?_⟩
           | refine ⟨_, q_index_arr rfl rfl rfl rfl rfl (by omega), ?_⟩
           | refine ⟨_, q_index_arr_ext rfl rfl rfl rfl rfl (by omega), ?_⟩
           | refine ⟨_, q_len_slice rfl rfl rfl rfl, ?_⟩
           | refine ⟨_, q_field_ext rfl rfl rfl rfl rfl, ?_⟩
           | refine ⟨_, q_addu8 rfl rfl rfl (by omega), ?_⟩))
     | (refine gSC ?_
        first
        | refine sc_seq ?_
        | refine sc_region ?_
        | (refine sc_cond rfl ?_ ?_ <;> intro hc <;> (first | (exact absurd hc (by decide)) | ((try simp only [decide_eq_true_eq, decide_eq_false_iff_not, Bool.not_eq_true', Bool.not_eq_false', Bool.not_true, Bool.not_false, ne_eq, Decidable.not_not] at hc) <;> first | (exfalso; omega) | (exact absurd trivial hc) | skip)))
        | refine sc_block ?_
        | refine sc_ret ?_
        | refine sc_exit ?_
        | refine sc_skip ?_)
     | (refine gSQ ?_
        first
        | refine sq_seq ?_
        | refine sq_blk ?_
        | refine sq_seq_ret ?_
        | refine sq_blk_ret ?_
        | refine sq_loop_ret ?_
        | refine sq_seq_exit ?_
        | refine sq_blk_hit ?_
        | refine sq_blk_miss rfl ?_
        | refine sq_loop_exit ?_
        | refine sq_ende (.inl rfl) rfl rfl ⟨_, (RVs.cons (by first | exact RV.cell rfl rfl rfl (by (repeat (first | exact InL.here | apply InL.there))) (by rfl) | exact RV.cellA rfl rfl rfl (by (repeat (first | exact InL.here | apply InL.there))) (by rfl)) (RVs.nil)), ?_⟩
        | refine sq_ende (.inr rfl) rfl rfl ⟨_, (RVs.cons (by first | exact RV.cell rfl rfl rfl (by (repeat (first | exact InL.here | apply InL.there))) (by rfl) | exact RV.cellA rfl rfl rfl (by (repeat (first | exact InL.here | apply InL.there))) (by rfl)) (RVs.nil)), ?_⟩)
     | refine j_nil ?_
     )
    intro w' hS
    refine ⟨_, trivial, rfl, ?_⟩
    rw [← hR]
    exact hS.sub (by repeat (first | exact LSub.refl | refine LSub.cons (by repeat (first | exact Rem.here | apply Rem.there)) ?_ | apply LSub.skip))
theorem force_c (A : Option Addr) (c : Nat) (l : List Od) (d : Int) (w : World) (hl : l.length ≤ 9223372036854775807) (h : RS w 6 odC A l) :
    Calls Try.prog 60 #[.agg #[.slice A l.length c], .int .i64 d] w fun e w' => e = .returned (odV (frc l d)) ∧ Below w.heap.size w w' := by
  generalize hn : l.length = n at *
  refine eng_start (n := 33) (args := [.agg #[.slice A n c], .int .i64 d]) tab tab_ok fns fns_ok [.cell 4 30] Try.func60 rfl rfl rfl rfl ?_
  repeat' (first
   | (refine gJ ?_
      first
      | refine jmv rfl rfl rfl rfl rfl ?_
      | (refine gload rfl rfl ?_
         refine j_qe rfl rfl rfl ?_
         first
         | refine ⟨_, q_load_own rfl rfl rfl rfl (by (repeat (first | exact InL.here | apply InL.there))) (by first | rfl | assumption), ?_⟩
         | refine ⟨_, q_loadA_own rfl rfl rfl rfl (by (repeat (first | exact InL.here | apply InL.there))) (by rfl), ?_⟩
         | refine ⟨_, q_loadA_ext rfl rfl rfl rfl ⟨by assumption, (by first | exact id | assumption)⟩ (by rfl), ?_⟩
         | refine ⟨_, q_load_ext rfl rfl rfl rfl ⟨by assumption, (by first | exact id | assumption)⟩ (by first | rfl | assumption), ?_⟩
         | refine ⟨_, q_load_extb rfl rfl rfl rfl ⟨by assumption, (by first | exact id | assumption)⟩ (by rfl), ?_⟩
         | refine ⟨_, q_loadA_extb rfl rfl rfl rfl ⟨by assumption, (by first | exact id | assumption)⟩ (by rfl), ?_⟩
         | refine ⟨_, q_load_ext0 rfl rfl rfl rfl ⟨by assumption, (by first | exact id | assumption)⟩ (by rfl), ?_⟩)
      | refine jfield rfl rfl rfl rfl rfl rfl rfl rfl ?_
      | refine jcmp rfl rfl rfl rfl rfl rfl rfl ?_
      | refine jar rfl rfl rfl rfl rfl rfl rfl (by omega) ?_
      | (refine gF ?_
         first
         | refine j_store rfl rfl rfl rfl rfl rfl rfl rfl (by (repeat (first | exact Upd.here | apply Upd.there))) (by rfl) ?_
         | (refine j_alloc rfl rfl rfl rfl rfl ?_; intro b)
         | (refine j_box rfl rfl rfl rfl rfl ?_; intro b))
      | (refine j_qe rfl rfl rfl ?_
         first
         | refine ⟨_, q_pick_t rfl rfl rfl, ?_⟩
         | refine ⟨_, q_pick_f rfl rfl rfl, ?_⟩
         | refine ⟨_, q_index_nat rfl rfl rfl rfl rfl (by omega), ?_⟩
         | refine ⟨_, q_index_slice rfl rfl rfl rfl rfl (by omega), ?_⟩
         | refine ⟨_, q_index_arr rfl rfl rfl rfl rfl (by omega), ?_⟩
         | refine ⟨_, q_index_arr_ext rfl rfl rfl rfl rfl (by omega), ?_⟩
         | refine ⟨_, q_len_slice rfl rfl rfl rfl, ?_⟩
         | refine ⟨_, q_field_ext rfl rfl rfl rfl rfl, ?_⟩
         | refine ⟨_, q_addu8 rfl rfl rfl (by omega), ?_⟩)
      | refine j_guard_undef rfl rfl rfl rfl rfl ?_
      | (refine j_guard rfl rfl rfl rfl rfl ?_ ?_ <;> intro hc <;> (first | (exact absurd hc (by decide)) | ((try simp only [decide_eq_true_eq, decide_eq_false_iff_not, Bool.not_eq_true', Bool.not_eq_false', Bool.not_true, Bool.not_false, ne_eq, Decidable.not_not] at hc) <;> first | (exfalso; omega) | (exact absurd trivial hc) | skip))))
   | (refine gSC ?_
      first
      | refine sc_seq ?_
      | refine sc_region ?_
      | (refine sc_cond rfl ?_ ?_ <;> intro hc <;> (first | (exact absurd hc (by decide)) | ((try simp only [decide_eq_true_eq, decide_eq_false_iff_not, Bool.not_eq_true', Bool.not_eq_false', Bool.not_true, Bool.not_false, ne_eq, Decidable.not_not] at hc) <;> first | (exfalso; omega) | (exact absurd trivial hc) | skip)))
      | refine sc_block ?_
      | refine sc_ret ?_
      | refine sc_exit ?_
      | refine sc_skip ?_)
   | (refine gSQ ?_
      first
      | refine sq_seq ?_
      | refine sq_blk ?_
      | refine sq_seq_ret ?_
      | refine sq_blk_ret ?_
      | refine sq_loop_ret ?_
      | refine sq_seq_exit ?_
      | refine sq_blk_hit ?_
      | refine sq_blk_miss rfl ?_
      | refine sq_loop_exit ?_
      | refine sq_ende (.inl rfl) rfl rfl ⟨_, (RVs.cons (by first | exact RV.cell rfl rfl rfl (by (repeat (first | exact InL.here | apply InL.there))) (by rfl) | exact RV.cellA rfl rfl rfl (by (repeat (first | exact InL.here | apply InL.there))) (by rfl)) (RVs.nil)), ?_⟩
      | refine sq_ende (.inr rfl) rfl rfl ⟨_, (RVs.cons (by first | exact RV.cell rfl rfl rfl (by (repeat (first | exact InL.here | apply InL.there))) (by rfl) | exact RV.cellA rfl rfl rfl (by (repeat (first | exact InL.here | apply InL.there))) (by rfl)) (RVs.nil)), ?_⟩)
   | refine j_nil ?_
   )
  revert b; intro b5; revert b; intro b4; revert b; intro b2
  refine sc_loop (ι := Nat × Od) (fun i => i.1 ≤ n ∧ frc l d = (l.drop i.1).foldl (stF d) i.2) (fun i => n - i.1) (fun i => [(1, .int .i64 d), (2, .pointer (some ⟨b2, 0, none⟩)), (4, .pointer (some ⟨b4, 0, none⟩)), (5, .pointer (some ⟨b5, 0, none⟩)), (9, .slice A n c), (10, .int .i64 n), (11, .int .i64 i.1)]) (fun i => [.cells b5 30 (odC i.2), .cells b4 30 (odC odZ), .cells b2 95 [.slice A n c]]) (0, odZ) ⟨by omega, rfl⟩ (by repeat (first | exact FSub.nil | refine FSub.cons rfl ?_ | refine FSub.conse rfl (by congr 1; omega) ?_)) (by repeat (first | exact LSub.nil | refine LSub.cons (by repeat (first | exact Rem.here | apply Rem.there)) ?_)) ?_
  rintro ⟨k, o⟩ ⟨hk, hr⟩
  dsimp only at hk hr ⊢
  by_cases hlt : k < n
  · obtain ⟨x, hx⟩ : ∃ x, l[k]? = some x := ⟨_, List.getElem?_eq_getElem (by omega)⟩
    obtain ⟨ad, rfl, hX⟩ := h k x hx
    rw [drop_cons hx, List.foldl_cons] at hr
    have hlt2 := compareF_lt x o
    repeat' (first
     | (refine gJ ?_
        first
        | refine jmv rfl rfl rfl rfl rfl ?_
        | (refine gload rfl rfl ?_
           refine j_qe rfl rfl rfl ?_
           first
           | refine ⟨_, q_load_own rfl rfl rfl rfl (by (repeat (first | exact InL.here | apply InL.there))) (by first | rfl | assumption), ?_⟩
           | refine ⟨_, q_loadA_own rfl rfl rfl rfl (by (repeat (first | exact InL.here | apply InL.there))) (by rfl), ?_⟩
           | refine ⟨_, q_loadA_ext rfl rfl rfl rfl ⟨by assumption, (by first | exact id | assumption)⟩ (by rfl), ?_⟩
           | refine ⟨_, q_load_ext rfl rfl rfl rfl ⟨by assumption, (by first | exact id | assumption)⟩ (by first | rfl | assumption), ?_⟩
           | refine ⟨_, q_load_extb rfl rfl rfl rfl ⟨by assumption, (by first | exact id | assumption)⟩ (by rfl), ?_⟩
           | refine ⟨_, q_loadA_extb rfl rfl rfl rfl ⟨by assumption, (by first | exact id | assumption)⟩ (by rfl), ?_⟩
           | refine ⟨_, q_load_ext0 rfl rfl rfl rfl ⟨by assumption, (by first | exact id | assumption)⟩ (by rfl), ?_⟩)
        | refine jfield rfl rfl rfl rfl rfl rfl rfl rfl ?_
        | refine jcmp rfl rfl rfl rfl rfl rfl rfl ?_
        | refine jar rfl rfl rfl rfl rfl rfl rfl (by omega) ?_
        | (refine gcall rfl rfl ?_
           first
           | (refine j_qc (f := 81) rfl rfl rfl rfl rfl rfl rfl ?_; refine ⟨_, (fun w' _ => covers_c _ _ w'), ?_⟩)
           | (refine j_qc (f := 83) rfl rfl rfl rfl rfl rfl rfl ?_; refine ⟨_, (fun w' _ => compare_c _ _ _ w'), ?_⟩))
        | (refine gF ?_
           first
           | refine j_store rfl rfl rfl rfl rfl rfl rfl rfl (by (repeat (first | exact Upd.here | apply Upd.there))) (by rfl) ?_
           | (refine j_alloc rfl rfl rfl rfl rfl ?_; intro b)
           | (refine j_box rfl rfl rfl rfl rfl ?_; intro b))
        | (refine j_qe rfl rfl rfl ?_
           first
           | refine ⟨_, q_pick_t rfl rfl rfl, ?_⟩
           | refine ⟨_, q_pick_f rfl rfl rfl, ?_⟩
           | refine ⟨_, q_index_nat rfl rfl rfl rfl rfl (by omega), ?_⟩
           | refine ⟨_, q_index_slice rfl rfl rfl rfl rfl (by omega), ?_⟩
           | refine ⟨_, q_index_arr rfl rfl rfl rfl rfl (by omega), ?_⟩
           | refine ⟨_, q_index_arr_ext rfl rfl rfl rfl rfl (by omega), ?_⟩
           | refine ⟨_, q_len_slice rfl rfl rfl rfl, ?_⟩
           | refine ⟨_, q_field_ext rfl rfl rfl rfl rfl, ?_⟩
           | refine ⟨_, q_addu8 rfl rfl rfl (by omega), ?_⟩)
        | refine j_guard_undef rfl rfl rfl rfl rfl ?_
        | (refine j_guard rfl rfl rfl rfl rfl ?_ ?_ <;> intro hc <;> (first | (exact absurd hc (by decide)) | ((try simp only [decide_eq_true_eq, decide_eq_false_iff_not, Bool.not_eq_true', Bool.not_eq_false', Bool.not_true, Bool.not_false, ne_eq, Decidable.not_not] at hc) <;> first | (exfalso; omega) | (exact absurd trivial hc) | skip))))
     | (refine gSC ?_
        first
        | refine sc_seq ?_
        | refine sc_region ?_
        | (refine sc_cond rfl ?_ ?_ <;> intro hc <;> (first | (exact absurd hc (by decide)) | ((try simp only [decide_eq_true_eq, decide_eq_false_iff_not, Bool.not_eq_true', Bool.not_eq_false', Bool.not_true, Bool.not_false, ne_eq, Decidable.not_not] at hc) <;> first | (exfalso; omega) | (exact absurd trivial hc) | skip)))
        | refine sc_block ?_
        | refine sc_ret ?_
        | refine sc_exit ?_
        | refine sc_skip ?_)
     | (refine gSQ ?_
        first
        | refine sq_seq ?_
        | refine sq_blk ?_
        | refine sq_seq_ret ?_
        | refine sq_blk_ret ?_
        | refine sq_loop_ret ?_
        | refine sq_seq_exit ?_
        | refine sq_blk_hit ?_
        | refine sq_blk_miss rfl ?_
        | refine sq_loop_exit ?_
        | refine sq_ende (.inl rfl) rfl rfl ⟨_, (RVs.cons (by first | exact RV.cell rfl rfl rfl (by (repeat (first | exact InL.here | apply InL.there))) (by rfl) | exact RV.cellA rfl rfl rfl (by (repeat (first | exact InL.here | apply InL.there))) (by rfl)) (RVs.nil)), ?_⟩
        | refine sq_ende (.inr rfl) rfl rfl ⟨_, (RVs.cons (by first | exact RV.cell rfl rfl rfl (by (repeat (first | exact InL.here | apply InL.there))) (by rfl) | exact RV.cellA rfl rfl rfl (by (repeat (first | exact InL.here | apply InL.there))) (by rfl)) (RVs.nil)), ?_⟩)
     | refine j_nil ?_
     )
    · exact sq_loop (k + 1, x) ⟨by show k + 1 ≤ n; omega, by rw [hr]; show _ = List.foldl (stF d) x _; unfold stF; rw [if_pos (by simp_all)]⟩ (by show n - (k + 1) < n - k; omega) (by repeat (first | exact FSub.nil | refine FSub.cons rfl ?_ | refine FSub.conse rfl (by congr 1; omega) ?_)) (by repeat (first | exact LSub.refl | refine LSub.cons (by repeat (first | exact Rem.here | apply Rem.there)) ?_ | apply LSub.skip))
    · exact sq_loop (k + 1, o) ⟨by show k + 1 ≤ n; omega, by rw [hr]; show _ = List.foldl (stF d) o _; unfold stF; rw [if_neg (by simp_all)]⟩ (by show n - (k + 1) < n - k; omega) (by repeat (first | exact FSub.nil | refine FSub.cons rfl ?_ | refine FSub.conse rfl (by congr 1; omega) ?_)) (by repeat (first | exact LSub.refl | refine LSub.cons (by repeat (first | exact Rem.here | apply Rem.there)) ?_ | apply LSub.skip))
    · exact sq_loop (k + 1, x) ⟨by show k + 1 ≤ n; omega, by rw [hr]; show _ = List.foldl (stF d) x _; unfold stF; rw [if_pos (by simp_all)]⟩ (by show n - (k + 1) < n - k; omega) (by repeat (first | exact FSub.nil | refine FSub.cons rfl ?_ | refine FSub.conse rfl (by congr 1; omega) ?_)) (by repeat (first | exact LSub.refl | refine LSub.cons (by repeat (first | exact Rem.here | apply Rem.there)) ?_ | apply LSub.skip))
    · exact sq_loop (k + 1, o) ⟨by show k + 1 ≤ n; omega, by rw [hr]; show _ = List.foldl (stF d) o _; unfold stF; rw [if_neg (by simp_all)]⟩ (by show n - (k + 1) < n - k; omega) (by repeat (first | exact FSub.nil | refine FSub.cons rfl ?_ | refine FSub.conse rfl (by congr 1; omega) ?_)) (by repeat (first | exact LSub.refl | refine LSub.cons (by repeat (first | exact Rem.here | apply Rem.there)) ?_ | apply LSub.skip))
  · rw [List.drop_of_length_le (by omega)] at hr
    repeat' (first
     | (refine gJ ?_
        first
        | refine jmv rfl rfl rfl rfl rfl ?_
        | (refine gload rfl rfl ?_
           refine j_qe rfl rfl rfl ?_
           first
           | refine ⟨_, q_load_own rfl rfl rfl rfl (by (repeat (first | exact InL.here | apply InL.there))) (by first | rfl | assumption), ?_⟩
           | refine ⟨_, q_loadA_own rfl rfl rfl rfl (by (repeat (first | exact InL.here | apply InL.there))) (by rfl), ?_⟩
           | refine ⟨_, q_loadA_ext rfl rfl rfl rfl ⟨by assumption, (by first | exact id | assumption)⟩ (by rfl), ?_⟩
           | refine ⟨_, q_load_ext rfl rfl rfl rfl ⟨by assumption, (by first | exact id | assumption)⟩ (by first | rfl | assumption), ?_⟩
           | refine ⟨_, q_load_extb rfl rfl rfl rfl ⟨by assumption, (by first | exact id | assumption)⟩ (by rfl), ?_⟩
           | refine ⟨_, q_loadA_extb rfl rfl rfl rfl ⟨by assumption, (by first | exact id | assumption)⟩ (by rfl), ?_⟩
           | refine ⟨_, q_load_ext0 rfl rfl rfl rfl ⟨by assumption, (by first | exact id | assumption)⟩ (by rfl), ?_⟩)
        | refine jfield rfl rfl rfl rfl rfl rfl rfl rfl ?_
        | refine jcmp rfl rfl rfl rfl rfl rfl rfl ?_
        | refine jar rfl rfl rfl rfl rfl rfl rfl (by omega) ?_
        | (refine gF ?_
           first
           | refine j_store rfl rfl rfl rfl rfl rfl rfl rfl (by (repeat (first | exact Upd.here | apply Upd.there))) (by rfl) ?_
           | (refine j_alloc rfl rfl rfl rfl rfl ?_; intro b)
           | (refine j_box rfl rfl rfl rfl rfl ?_; intro b))
        | (refine j_qe rfl rfl rfl ?_
           first
           | refine ⟨_, q_pick_t rfl rfl rfl, ?_⟩
           | refine ⟨_, q_pick_f rfl rfl rfl, ?_⟩
           | refine ⟨_, q_index_nat rfl rfl rfl rfl rfl (by omega), ?_⟩
           | refine ⟨_, q_index_slice rfl rfl rfl rfl rfl (by omega), ?_⟩
           | refine ⟨_, q_index_arr rfl rfl rfl rfl rfl (by omega), ?_⟩
           | refine ⟨_, q_index_arr_ext rfl rfl rfl rfl rfl (by omega), ?_⟩
           | refine ⟨_, q_len_slice rfl rfl rfl rfl, ?_⟩
           | refine ⟨_, q_field_ext rfl rfl rfl rfl rfl, ?_⟩
           | refine ⟨_, q_addu8 rfl rfl rfl (by omega), ?_⟩)
        | refine j_guard_undef rfl rfl rfl rfl rfl ?_
        | (refine j_guard rfl rfl rfl rfl rfl ?_ ?_ <;> intro hc <;> (first | (exact absurd hc (by decide)) | ((try simp only [decide_eq_true_eq, decide_eq_false_iff_not, Bool.not_eq_true', Bool.not_eq_false', Bool.not_true, Bool.not_false, ne_eq, Decidable.not_not] at hc) <;> first | (exfalso; omega) | (exact absurd trivial hc) | skip))))
     | (refine gSC ?_
        first
        | refine sc_seq ?_
        | refine sc_region ?_
        | (refine sc_cond rfl ?_ ?_ <;> intro hc <;> (first | (exact absurd hc (by decide)) | ((try simp only [decide_eq_true_eq, decide_eq_false_iff_not, Bool.not_eq_true', Bool.not_eq_false', Bool.not_true, Bool.not_false, ne_eq, Decidable.not_not] at hc) <;> first | (exfalso; omega) | (exact absurd trivial hc) | skip)))
        | refine sc_block ?_
        | refine sc_ret ?_
        | refine sc_exit ?_
        | refine sc_skip ?_)
     | (refine gSQ ?_
        first
        | refine sq_seq ?_
        | refine sq_blk ?_
        | refine sq_seq_ret ?_
        | refine sq_blk_ret ?_
        | refine sq_loop_ret ?_
        | refine sq_seq_exit ?_
        | refine sq_blk_hit ?_
        | refine sq_blk_miss rfl ?_
        | refine sq_loop_exit ?_
        | refine sq_ende (.inl rfl) rfl rfl ⟨_, (RVs.cons (by first | exact RV.cell rfl rfl rfl (by (repeat (first | exact InL.here | apply InL.there))) (by rfl) | exact RV.cellA rfl rfl rfl (by (repeat (first | exact InL.here | apply InL.there))) (by rfl)) (RVs.nil)), ?_⟩
        | refine sq_ende (.inr rfl) rfl rfl ⟨_, (RVs.cons (by first | exact RV.cell rfl rfl rfl (by (repeat (first | exact InL.here | apply InL.there))) (by rfl) | exact RV.cellA rfl rfl rfl (by (repeat (first | exact InL.here | apply InL.there))) (by rfl)) (RVs.nil)), ?_⟩)
     | refine j_nil ?_
     )
    (intro w' hS; refine ⟨?_, hS.below⟩; simp only [pack])
    rw [hr]
    rfl
def okB : List Int → List Od → Bool
  | _, [] => true
  | seen, o :: l => decide (okO o) && (!decide (o.idn ∈ seen) && okB (seen ++ [o.idn]) l)
theorem okB_iff : ∀ (l : List Od) (seen : List Int), okB seen l = true ↔ okL l ∧ ∀ o ∈ l, o.idn ∉ seen
  | [], seen => by simp [okB, okL]
  | o :: l, seen => by
    simp only [okB, okL, Bool.and_eq_true, decide_eq_true_eq, Bool.not_eq_true', decide_eq_false_iff_not]
    rw [okB_iff l]
    constructor
    · rintro ⟨h1, h2, h3, h4⟩
      refine ⟨⟨h1, fun x hx e => h4 x hx (by rw [e]; simp), h3⟩, fun x hx => ?_⟩
      rcases List.mem_cons.1 hx with rfl | hx
      · exact h2
      · exact fun h => h4 x hx (List.mem_append_left _ h)
    · rintro ⟨⟨h1, h2, h3⟩, h4⟩
      refine ⟨h1, h4 o List.mem_cons_self, h3, fun x hx h => ?_⟩
      rcases List.mem_append.1 h with h | h
      · exact h4 x (List.mem_cons_of_mem _ hx) h
      · exact h2 x hx (List.mem_singleton.1 h)
def rightB (l : List Od) : Bool := decide (l.length ≤ 500) && okB [] l
theorem rightB_iff (l : List Od) : rightB l = true ↔ rightL l := by
  unfold rightB rightL
  rw [Bool.and_eq_true, decide_eq_true_eq, okB_iff]
  simp
abbrev idsM (seen : List Int) : List (Int × Value) := seen.map fun k => (k, .bool true)
theorem mlk_ids : ∀ (seen : List Int) (k : Int), mlk (idsM seen) k = if k ∈ seen then some (.bool true) else none
  | [], k => rfl
  | x :: seen, k => by
    have ih := mlk_ids seen k
    simp only [idsM, List.map_cons, mlk, List.mem_cons] at ih ⊢
    by_cases h : x = k
    · subst h; simp
    · rw [if_neg h, ih]
      have : ¬ k = x := fun e => h e.symm
      simp [this]
theorem mset_ids : ∀ (seen : List Int) (k : Int), k ∉ seen → mset (idsM seen) k (.bool true) = idsM (seen ++ [k])
  | [], k, _ => rfl
  | x :: seen, k, h => by
    have ih := mset_ids seen k (fun h' => h (List.mem_cons_of_mem _ h'))
    have hx : ¬ x = k := fun e => h (e ▸ List.mem_cons_self)
    simp only [idsM, List.map_cons, List.cons_append, mset, if_neg hx] at ih ⊢
    rw [ih]
theorem Right_c (A : Option Addr) (c : Nat) (l : List Od) (w : World) (hl : l.length ≤ 9223372036854775807) (h : RS w 6 odC A l) :
    Calls Try.prog 25 #[.slice A l.length c] w fun e w' => e = .returned (.bool (rightB l)) ∧ Below w.heap.size w w' := by
  obtain ⟨n, hn⟩ : ∃ n, l.length = n := ⟨_, rfl⟩
  by_cases hbig : 500 < l.length
  · have e1 : rightB l = false := by unfold rightB; rw [decide_eq_false (by omega)]; rfl
    rw [e1]
    rw [hn] at hl hbig ⊢
    refine eng_start (n := 31) (args := [.slice A n c]) tab tab_ok fns fns_ok [.tmp 2] Try.func25 rfl rfl rfl rfl ?_
    repeat' (first
     | (refine gJ ?_
        first
        | refine jmv rfl rfl rfl rfl rfl ?_
        | (refine gload rfl rfl ?_
           refine j_qe rfl rfl rfl ?_
           first
           | refine ⟨_, q_load_own rfl rfl rfl rfl (by (repeat (first | exact InL.here | apply InL.there))) (by first | rfl | assumption), ?_⟩
           | refine ⟨_, q_loadA_own rfl rfl rfl rfl (by (repeat (first | exact InL.here | apply InL.there))) (by rfl), ?_⟩
           | refine ⟨_, q_loadA_ext rfl rfl rfl rfl ⟨by assumption, (by first | exact id | assumption)⟩ (by rfl), ?_⟩
           | refine ⟨_, q_load_ext rfl rfl rfl rfl ⟨by assumption, (by first | exact id | assumption)⟩ (by first | rfl | assumption), ?_⟩
           | refine ⟨_, q_load_extb rfl rfl rfl rfl ⟨by assumption, (by first | exact id | assumption)⟩ (by rfl), ?_⟩
           | refine ⟨_, q_loadA_extb rfl rfl rfl rfl ⟨by assumption, (by first | exact id | assumption)⟩ (by rfl), ?_⟩
           | refine ⟨_, q_load_ext0 rfl rfl rfl rfl ⟨by assumption, (by first | exact id | assumption)⟩ (by rfl), ?_⟩)
        | refine jfield rfl rfl rfl rfl rfl rfl rfl rfl ?_
        | refine jcmp rfl rfl rfl rfl rfl rfl rfl ?_
        | refine jar rfl rfl rfl rfl rfl rfl rfl (by omega) ?_
        | (refine gF ?_
           first
           | refine j_store rfl rfl rfl rfl rfl rfl rfl rfl (by (repeat (first | exact Upd.here | apply Upd.there))) (by rfl) ?_
           | (refine j_alloc rfl rfl rfl rfl rfl ?_; intro b))
        | (refine j_qe rfl rfl rfl ?_
           first
           | refine ⟨_, q_pick_t rfl rfl rfl, ?_⟩
           | refine ⟨_, q_pick_f rfl rfl rfl, ?_⟩
           | refine ⟨_, q_not rfl rfl, ?_⟩
           | refine ⟨_, q_index_nat rfl rfl rfl rfl rfl (by omega), ?_⟩
           | refine ⟨_, q_index_slice rfl rfl rfl rfl rfl (by omega), ?_⟩
           | refine ⟨_, q_index_arr rfl rfl rfl rfl rfl (by omega), ?_⟩
           | refine ⟨_, q_index_arr_ext rfl rfl rfl rfl rfl (by omega), ?_⟩
           | refine ⟨_, q_len_slice rfl rfl rfl rfl, ?_⟩
           | refine ⟨_, q_field_ext rfl rfl rfl rfl rfl, ?_⟩
           | refine ⟨_, q_addu8 rfl rfl rfl (by omega), ?_⟩)
        | refine j_guard_undef rfl rfl rfl rfl rfl ?_
        | (refine j_guard rfl rfl rfl rfl rfl ?_ ?_ <;> intro hc <;> (first | (exact absurd hc (by decide)) | ((try simp only [decide_eq_true_eq, decide_eq_false_iff_not, Bool.not_eq_true', Bool.not_eq_false', Bool.not_true, Bool.not_false, ne_eq, Decidable.not_not] at hc) <;> first | (exfalso; omega) | (exact absurd trivial hc) | skip))))
     | (refine gSC ?_
        first
        | refine sc_seq ?_
        | refine sc_region ?_
        | (refine sc_cond rfl ?_ ?_ <;> intro hc <;> (first | (exact absurd hc (by decide)) | ((try simp only [decide_eq_true_eq, decide_eq_false_iff_not, Bool.not_eq_true', Bool.not_eq_false', Bool.not_true, Bool.not_false, ne_eq, Decidable.not_not] at hc) <;> first | (exfalso; omega) | (exact absurd trivial hc) | skip)))
        | refine sc_block ?_
        | refine sc_ret ?_
        | refine sc_exit ?_
        | refine sc_skip ?_)
     | (refine gSQ ?_
        first
        | refine sq_seq ?_
        | refine sq_blk ?_
        | refine sq_seq_ret ?_
        | refine sq_blk_ret ?_
        | refine sq_loop_ret ?_
        | refine sq_seq_exit ?_
        | refine sq_blk_hit ?_
        | refine sq_blk_miss rfl ?_
        | refine sq_loop_exit ?_
        | refine sq_ende (.inl rfl) rfl rfl ⟨_, (RVs.cons (RV.tmp rfl) (RVs.nil)), ?_⟩
        | refine sq_ende (.inr rfl) rfl rfl ⟨_, (RVs.cons (RV.tmp rfl) (RVs.nil)), ?_⟩)
     | refine j_nil ?_
     )
    (intro w' hS; refine ⟨?_, hS.below⟩; simp only [pack])
  · have e1 : rightB l = okB [] l := by unfold rightB; rw [decide_eq_true (by omega)]; rfl
    rw [e1]
    rw [hn] at hl hbig ⊢
    refine eng_start (n := 31) (args := [.slice A n c]) tab tab_ok fns fns_ok [.tmp 2] Try.func25 rfl rfl rfl rfl ?_
    repeat' (first
     | (refine gJ ?_
        first
        | refine jmv rfl rfl rfl rfl rfl ?_
        | (refine gload rfl rfl ?_
           refine j_qe rfl rfl rfl ?_
           first
           | refine ⟨_, q_load_own rfl rfl rfl rfl (by (repeat (first | exact InL.here | apply InL.there))) (by first | rfl | assumption), ?_⟩
           | refine ⟨_, q_loadA_own rfl rfl rfl rfl (by (repeat (first | exact InL.here | apply InL.there))) (by rfl), ?_⟩
           | refine ⟨_, q_loadA_ext rfl rfl rfl rfl ⟨by assumption, (by first | exact id | assumption)⟩ (by rfl), ?_⟩
           | refine ⟨_, q_load_ext rfl rfl rfl rfl ⟨by assumption, (by first | exact id | assumption)⟩ (by first | rfl | assumption), ?_⟩
           | refine ⟨_, q_load_extb rfl rfl rfl rfl ⟨by assumption, (by first | exact id | assumption)⟩ (by rfl), ?_⟩
           | refine ⟨_, q_loadA_extb rfl rfl rfl rfl ⟨by assumption, (by first | exact id | assumption)⟩ (by rfl), ?_⟩
           | refine ⟨_, q_load_ext0 rfl rfl rfl rfl ⟨by assumption, (by first | exact id | assumption)⟩ (by rfl), ?_⟩)
        | refine jfield rfl rfl rfl rfl rfl rfl rfl rfl ?_
        | refine jcmp rfl rfl rfl rfl rfl rfl rfl ?_
        | refine jar rfl rfl rfl rfl rfl rfl rfl (by omega) ?_
        | (refine gF ?_; refine j_makeMapN .i64 rfl rfl rfl rfl rfl rfl rfl ?_; intro bm)
        | (refine gF ?_
           first
           | refine j_store rfl rfl rfl rfl rfl rfl rfl rfl (by (repeat (first | exact Upd.here | apply Upd.there))) (by rfl) ?_
           | (refine j_alloc rfl rfl rfl rfl rfl ?_; intro b))
        | (refine j_qe rfl rfl rfl ?_
           first
           | refine ⟨_, q_pick_t rfl rfl rfl, ?_⟩
           | refine ⟨_, q_pick_f rfl rfl rfl, ?_⟩
           | refine ⟨_, q_not rfl rfl, ?_⟩
           | refine ⟨_, q_index_nat rfl rfl rfl rfl rfl (by omega), ?_⟩
           | refine ⟨_, q_index_slice rfl rfl rfl rfl rfl (by omega), ?_⟩
           | refine ⟨_, q_index_arr rfl rfl rfl rfl rfl (by omega), ?_⟩
           | refine ⟨_, q_index_arr_ext rfl rfl rfl rfl rfl (by omega), ?_⟩
           | refine ⟨_, q_len_slice rfl rfl rfl rfl, ?_⟩
           | refine ⟨_, q_field_ext rfl rfl rfl rfl rfl, ?_⟩
           | refine ⟨_, q_addu8 rfl rfl rfl (by omega), ?_⟩)
        | refine j_guard_undef rfl rfl rfl rfl rfl ?_
        | (refine j_guard rfl rfl rfl rfl rfl ?_ ?_ <;> intro hc <;> (first | (exact absurd hc (by decide)) | ((try simp only [decide_eq_true_eq, decide_eq_false_iff_not, Bool.not_eq_true', Bool.not_eq_false', Bool.not_true, Bool.not_false, ne_eq, Decidable.not_not] at hc) <;> first | (exfalso; omega) | (exact absurd trivial hc) | skip))))
     | (refine gSC ?_
        first
        | refine sc_seq ?_
        | refine sc_region ?_
        | (refine sc_cond rfl ?_ ?_ <;> intro hc <;> (first | (exact absurd hc (by decide)) | ((try simp only [decide_eq_true_eq, decide_eq_false_iff_not, Bool.not_eq_true', Bool.not_eq_false', Bool.not_true, Bool.not_false, ne_eq, Decidable.not_not] at hc) <;> first | (exfalso; omega) | (exact absurd trivial hc) | skip)))
        | refine sc_block ?_
        | refine sc_ret ?_
        | refine sc_exit ?_
        | refine sc_skip ?_)
     | (refine gSQ ?_
        first
        | refine sq_seq ?_
        | refine sq_blk ?_
        | refine sq_seq_ret ?_
        | refine sq_blk_ret ?_
        | refine sq_loop_ret ?_
        | refine sq_seq_exit ?_
        | refine sq_blk_hit ?_
        | refine sq_blk_miss rfl ?_
        | refine sq_loop_exit ?_
        | refine sq_ende (.inl rfl) rfl rfl ⟨_, (RVs.cons (RV.tmp rfl) (RVs.nil)), ?_⟩
        | refine sq_ende (.inr rfl) rfl rfl ⟨_, (RVs.cons (RV.tmp rfl) (RVs.nil)), ?_⟩)
     | refine j_nil ?_
     )
    refine sc_loop (ι := Nat × List Int) (fun i => i.1 ≤ n ∧ okB [] l = okB i.2 (l.drop i.1)) (fun i => n - i.1) (fun i => [(3, .map (some bm)), (12, .slice A n c), (13, .int .i64 n), (14, .int .i64 i.1)]) (fun i => [haMap bm .i64 (idsM i.2)]) (0, []) ⟨by omega, rfl⟩ (by repeat (first | exact FSub.nil | refine FSub.cons rfl ?_ | refine FSub.conse rfl (by congr 1; omega) ?_)) (by repeat (first | exact LSub.nil | refine LSub.cons (by repeat (first | exact Rem.here | apply Rem.there)) ?_)) ?_
    rintro ⟨k, seen⟩ ⟨hk, hr⟩
    dsimp only at hk hr ⊢
    by_cases hlt : k < n
    · obtain ⟨x, hx⟩ : ∃ x, l[k]? = some x := ⟨_, List.getElem?_eq_getElem (by omega)⟩
      obtain ⟨ad, rfl, hX⟩ := h k x hx
      rw [drop_cons hx] at hr
      simp only [okB] at hr
      have hmv := mlk_ids seen x.idn
      by_cases hin : x.idn ∈ seen
      · rw [if_pos hin] at hmv
        rw [decide_eq_true hin] at hr
        repeat' (first
         | (refine gJ ?_
            first
            | refine jmv rfl rfl rfl rfl rfl ?_
            | (refine gload rfl rfl ?_
               refine j_qe rfl rfl rfl ?_
               first
               | refine ⟨_, q_load_own rfl rfl rfl rfl (by (repeat (first | exact InL.here | apply InL.there))) (by first | rfl | assumption), ?_⟩
               | refine ⟨_, q_loadA_own rfl rfl rfl rfl (by (repeat (first | exact InL.here | apply InL.there))) (by rfl), ?_⟩
               | refine ⟨_, q_loadA_ext rfl rfl rfl rfl ⟨by assumption, (by first | exact id | assumption)⟩ (by rfl), ?_⟩
               | refine ⟨_, q_load_ext rfl rfl rfl rfl ⟨by assumption, (by first | exact id | assumption)⟩ (by first | rfl | assumption), ?_⟩
               | refine ⟨_, q_load_extb rfl rfl rfl rfl ⟨by assumption, (by first | exact id | assumption)⟩ (by rfl), ?_⟩
               | refine ⟨_, q_loadA_extb rfl rfl rfl rfl ⟨by assumption, (by first | exact id | assumption)⟩ (by rfl), ?_⟩
               | refine ⟨_, q_load_ext0 rfl rfl rfl rfl ⟨by assumption, (by first | exact id | assumption)⟩ (by rfl), ?_⟩)
            | refine jfield rfl rfl rfl rfl rfl rfl rfl rfl ?_
            | refine jcmp rfl rfl rfl rfl rfl rfl rfl ?_
            | refine jar rfl rfl rfl rfl rfl rfl rfl (by omega) ?_
            | (refine gcall rfl rfl ?_
               first
               | (refine j_qc (f := 63) rfl rfl rfl rfl rfl rfl rfl ?_; refine ⟨_, (fun w' _ => right_c _ w'), ?_⟩))
            | (refine j_qe rfl rfl rfl ?_; refine ⟨_, q_lookup (v := .bool true) rfl rfl rfl rfl rfl rfl rfl rfl (by (repeat (first | exact InL.here | apply InL.there))) (by first | (rw [hmv]; done) | (rw [hmv]; rfl)), ?_⟩)
            | (refine gF ?_
               first
               | refine j_store rfl rfl rfl rfl rfl rfl rfl rfl (by (repeat (first | exact Upd.here | apply Upd.there))) (by rfl) ?_
               | (refine j_alloc rfl rfl rfl rfl rfl ?_; intro b))
            | (refine j_qe rfl rfl rfl ?_
               first
               | refine ⟨_, q_pick_t rfl rfl rfl, ?_⟩
               | refine ⟨_, q_pick_f rfl rfl rfl, ?_⟩
               | refine ⟨_, q_not rfl rfl, ?_⟩
               | refine ⟨_, q_index_nat rfl rfl rfl rfl rfl (by omega), ?_⟩
               | refine ⟨_, q_index_slice rfl rfl rfl rfl rfl (by omega), ?_⟩
               | refine ⟨_, q_index_arr rfl rfl rfl rfl rfl (by omega), ?_⟩
               | refine ⟨_, q_index_arr_ext rfl rfl rfl rfl rfl (by omega), ?_⟩
               | refine ⟨_, q_len_slice rfl rfl rfl rfl, ?_⟩
               | refine ⟨_, q_field_ext rfl rfl rfl rfl rfl, ?_⟩
               | refine ⟨_, q_addu8 rfl rfl rfl (by omega), ?_⟩)
            | refine j_guard_undef rfl rfl rfl rfl rfl ?_
            | (refine j_guard rfl rfl rfl rfl rfl ?_ ?_ <;> intro hc <;> (first | (exact absurd hc (by decide)) | ((try simp only [decide_eq_true_eq, decide_eq_false_iff_not, Bool.not_eq_true', Bool.not_eq_false', Bool.not_true, Bool.not_false, ne_eq, Decidable.not_not] at hc) <;> first | (exfalso; omega) | (exact absurd trivial hc) | skip))))
         | (refine gSC ?_
            first
            | refine sc_seq ?_
            | refine sc_region ?_
            | (refine sc_cond rfl ?_ ?_ <;> intro hc <;> (first | (exact absurd hc (by decide)) | ((try simp only [decide_eq_true_eq, decide_eq_false_iff_not, Bool.not_eq_true', Bool.not_eq_false', Bool.not_true, Bool.not_false, ne_eq, Decidable.not_not] at hc) <;> first | (exfalso; omega) | (exact absurd trivial hc) | skip)))
            | refine sc_block ?_
            | refine sc_ret ?_
            | refine sc_exit ?_
            | refine sc_skip ?_)
         | (refine gSQ ?_
            first
            | refine sq_seq ?_
            | refine sq_blk ?_
            | refine sq_seq_ret ?_
            | refine sq_blk_ret ?_
            | refine sq_loop_ret ?_
            | refine sq_seq_exit ?_
            | refine sq_blk_hit ?_
            | refine sq_blk_miss rfl ?_
            | refine sq_loop_exit ?_
            | refine sq_ende (.inl rfl) rfl rfl ⟨_, (RVs.cons (RV.tmp rfl) (RVs.nil)), ?_⟩
            | refine sq_ende (.inr rfl) rfl rfl ⟨_, (RVs.cons (RV.tmp rfl) (RVs.nil)), ?_⟩)
         | refine j_nil ?_
         )
        all_goals ((intro w' hS; refine ⟨?_, hS.below⟩; simp only [pack]); exact rb (by rw [hr]; simp))
      · rw [if_neg hin] at hmv
        rw [decide_eq_false hin] at hr
        repeat' (first
         | (refine gJ ?_
            first
            | refine jmv rfl rfl rfl rfl rfl ?_
            | (refine gload rfl rfl ?_
               refine j_qe rfl rfl rfl ?_
               first
               | refine ⟨_, q_load_own rfl rfl rfl rfl (by (repeat (first | exact InL.here | apply InL.there))) (by first | rfl | assumption), ?_⟩
               | refine ⟨_, q_loadA_own rfl rfl rfl rfl (by (repeat (first | exact InL.here | apply InL.there))) (by rfl), ?_⟩
               | refine ⟨_, q_loadA_ext rfl rfl rfl rfl ⟨by assumption, (by first | exact id | assumption)⟩ (by rfl), ?_⟩
               | refine ⟨_, q_load_ext rfl rfl rfl rfl ⟨by assumption, (by first | exact id | assumption)⟩ (by first | rfl | assumption), ?_⟩
               | refine ⟨_, q_load_extb rfl rfl rfl rfl ⟨by assumption, (by first | exact id | assumption)⟩ (by rfl), ?_⟩
               | refine ⟨_, q_loadA_extb rfl rfl rfl rfl ⟨by assumption, (by first | exact id | assumption)⟩ (by rfl), ?_⟩
               | refine ⟨_, q_load_ext0 rfl rfl rfl rfl ⟨by assumption, (by first | exact id | assumption)⟩ (by rfl), ?_⟩)
            | refine jfield rfl rfl rfl rfl rfl rfl rfl rfl ?_
            | refine jcmp rfl rfl rfl rfl rfl rfl rfl ?_
            | refine jar rfl rfl rfl rfl rfl rfl rfl (by omega) ?_
            | (refine gcall rfl rfl ?_
               first
               | (refine j_qc (f := 63) rfl rfl rfl rfl rfl rfl rfl ?_; refine ⟨_, (fun w' _ => right_c _ w'), ?_⟩))
            | (refine j_qe rfl rfl rfl ?_; refine ⟨_, q_lookup (v := .bool false) rfl rfl rfl rfl rfl rfl rfl rfl (by (repeat (first | exact InL.here | apply InL.there))) (by first | (rw [hmv]; done) | (rw [hmv]; rfl)), ?_⟩)
            | (refine gF ?_; refine j_mapUpdate (v := .bool true) rfl rfl rfl rfl rfl rfl rfl rfl rfl rfl (by (repeat (first | exact Upd.here | apply Upd.there))) ?_; rw [mset_ids seen x.idn hin])
            | (refine gF ?_
               first
               | refine j_store rfl rfl rfl rfl rfl rfl rfl rfl (by (repeat (first | exact Upd.here | apply Upd.there))) (by rfl) ?_
               | (refine j_alloc rfl rfl rfl rfl rfl ?_; intro b))
            | (refine j_qe rfl rfl rfl ?_
               first
               | refine ⟨_, q_pick_t rfl rfl rfl, ?_⟩
               | refine ⟨_, q_pick_f rfl rfl rfl, ?_⟩
               | refine ⟨_, q_not rfl rfl, ?_⟩
               | refine ⟨_, q_index_nat rfl rfl rfl rfl rfl (by omega), ?_⟩
               | refine ⟨_, q_index_slice rfl rfl rfl rfl rfl (by omega), ?_⟩
               | refine ⟨_, q_index_arr rfl rfl rfl rfl rfl (by omega), ?_⟩
               | refine ⟨_, q_index_arr_ext rfl rfl rfl rfl rfl (by omega), ?_⟩
               | refine ⟨_, q_len_slice rfl rfl rfl rfl, ?_⟩
               | refine ⟨_, q_field_ext rfl rfl rfl rfl rfl, ?_⟩
               | refine ⟨_, q_addu8 rfl rfl rfl (by omega), ?_⟩)
            | refine j_guard_undef rfl rfl rfl rfl rfl ?_
            | (refine j_guard rfl rfl rfl rfl rfl ?_ ?_ <;> intro hc <;> (first | (exact absurd hc (by decide)) | ((try simp only [decide_eq_true_eq, decide_eq_false_iff_not, Bool.not_eq_true', Bool.not_eq_false', Bool.not_true, Bool.not_false, ne_eq, Decidable.not_not] at hc) <;> first | (exfalso; omega) | (exact absurd trivial hc) | skip))))
         | (refine gSC ?_
            first
            | refine sc_seq ?_
            | refine sc_region ?_
            | (refine sc_cond rfl ?_ ?_ <;> intro hc <;> (first | (exact absurd hc (by decide)) | ((try simp only [decide_eq_true_eq, decide_eq_false_iff_not, Bool.not_eq_true', Bool.not_eq_false', Bool.not_true, Bool.not_false, ne_eq, Decidable.not_not] at hc) <;> first | (exfalso; omega) | (exact absurd trivial hc) | skip)))
            | refine sc_block ?_
            | refine sc_ret ?_
            | refine sc_exit ?_
            | refine sc_skip ?_)
         | (refine gSQ ?_
            first
            | refine sq_seq ?_
            | refine sq_blk ?_
            | refine sq_seq_ret ?_
            | refine sq_blk_ret ?_
            | refine sq_loop_ret ?_
            | refine sq_seq_exit ?_
            | refine sq_blk_hit ?_
            | refine sq_blk_miss rfl ?_
            | refine sq_loop_exit ?_
            | refine sq_ende (.inl rfl) rfl rfl ⟨_, (RVs.cons (RV.tmp rfl) (RVs.nil)), ?_⟩
            | refine sq_ende (.inr rfl) rfl rfl ⟨_, (RVs.cons (RV.tmp rfl) (RVs.nil)), ?_⟩)
         | refine j_nil ?_
         )
        · exact sq_loop (k + 1, seen ++ [x.idn]) ⟨by show k + 1 ≤ n; omega, by rw [hr, decide_eq_true (by assumption)]; rfl⟩ (by show n - (k + 1) < n - k; omega) (by repeat (first | exact FSub.nil | refine FSub.cons rfl ?_ | refine FSub.conse rfl (by congr 1; omega) ?_)) (by repeat (first | exact LSub.refl | refine LSub.cons (by repeat (first | exact Rem.here | apply Rem.there)) ?_ | apply LSub.skip))
        · (intro w' hS; refine ⟨?_, hS.below⟩; simp only [pack])
          exact rb (by rw [hr, decide_eq_false (by assumption)]; rfl)
    · rw [List.drop_of_length_le (by omega)] at hr
      repeat' (first
       | (refine gJ ?_
          first
          | refine jmv rfl rfl rfl rfl rfl ?_
          | (refine gload rfl rfl ?_
             refine j_qe rfl rfl rfl ?_
             first
             | refine ⟨_, q_load_own rfl rfl rfl rfl (by (repeat (first | exact InL.here | apply InL.there))) (by first | rfl | assumption), ?_⟩
             | refine ⟨_, q_loadA_own rfl rfl rfl rfl (by (repeat (first | exact InL.here | apply InL.there))) (by rfl), ?_⟩
             | refine ⟨_, q_loadA_ext rfl rfl rfl rfl ⟨by assumption, (by first | exact id | assumption)⟩ (by rfl), ?_⟩
             | refine ⟨_, q_load_ext rfl rfl rfl rfl ⟨by assumption, (by first | exact id | assumption)⟩ (by first | rfl | assumption), ?_⟩
             | refine ⟨_, q_load_extb rfl rfl rfl rfl ⟨by assumption, (by first | exact id | assumption)⟩ (by rfl), ?_⟩
             | refine ⟨_, q_loadA_extb rfl rfl rfl rfl ⟨by assumption, (by first | exact id | assumption)⟩ (by rfl), ?_⟩
             | refine ⟨_, q_load_ext0 rfl rfl rfl rfl ⟨by assumption, (by first | exact id | assumption)⟩ (by rfl), ?_⟩)
          | refine jfield rfl rfl rfl rfl rfl rfl rfl rfl ?_
          | refine jcmp rfl rfl rfl rfl rfl rfl rfl ?_
          | refine jar rfl rfl rfl rfl rfl rfl rfl (by omega) ?_
          | (refine gF ?_
             first
             | refine j_store rfl rfl rfl rfl rfl rfl rfl rfl (by (repeat (first | exact Upd.here | apply Upd.there))) (by rfl) ?_
             | (refine j_alloc rfl rfl rfl rfl rfl ?_; intro b))
          | (refine j_qe rfl rfl rfl ?_
             first
             | refine ⟨_, q_pick_t rfl rfl rfl, ?_⟩
             | refine ⟨_, q_pick_f rfl rfl rfl, ?_⟩
             | refine ⟨_, q_not rfl rfl, ?_⟩
             | refine ⟨_, q_index_nat rfl rfl rfl rfl rfl (by omega), ?_⟩
             | refine ⟨_, q_index_slice rfl rfl rfl rfl rfl (by omega), ?_⟩
             | refine ⟨_, q_index_arr rfl rfl rfl rfl rfl (by omega), ?_⟩
             | refine ⟨_, q_index_arr_ext rfl rfl rfl rfl rfl (by omega), ?_⟩
             | refine ⟨_, q_len_slice rfl rfl rfl rfl, ?_⟩
             | refine ⟨_, q_field_ext rfl rfl rfl rfl rfl, ?_⟩
             | refine ⟨_, q_addu8 rfl rfl rfl (by omega), ?_⟩)
          | refine j_guard_undef rfl rfl rfl rfl rfl ?_
          | (refine j_guard rfl rfl rfl rfl rfl ?_ ?_ <;> intro hc <;> (first | (exact absurd hc (by decide)) | ((try simp only [decide_eq_true_eq, decide_eq_false_iff_not, Bool.not_eq_true', Bool.not_eq_false', Bool.not_true, Bool.not_false, ne_eq, Decidable.not_not] at hc) <;> first | (exfalso; omega) | (exact absurd trivial hc) | skip))))
       | (refine gSC ?_
          first
          | refine sc_seq ?_
          | refine sc_region ?_
          | (refine sc_cond rfl ?_ ?_ <;> intro hc <;> (first | (exact absurd hc (by decide)) | ((try simp only [decide_eq_true_eq, decide_eq_false_iff_not, Bool.not_eq_true', Bool.not_eq_false', Bool.not_true, Bool.not_false, ne_eq, Decidable.not_not] at hc) <;> first | (exfalso; omega) | (exact absurd trivial hc) | skip)))
          | refine sc_block ?_
          | refine sc_ret ?_
          | refine sc_exit ?_
          | refine sc_skip ?_)
       | (refine gSQ ?_
          first
          | refine sq_seq ?_
          | refine sq_blk ?_
          | refine sq_seq_ret ?_
          | refine sq_blk_ret ?_
          | refine sq_loop_ret ?_
          | refine sq_seq_exit ?_
          | refine sq_blk_hit ?_
          | refine sq_blk_miss rfl ?_
          | refine sq_loop_exit ?_
          | refine sq_ende (.inl rfl) rfl rfl ⟨_, (RVs.cons (RV.tmp rfl) (RVs.nil)), ?_⟩
          | refine sq_ende (.inr rfl) rfl rfl ⟨_, (RVs.cons (RV.tmp rfl) (RVs.nil)), ?_⟩)
       | refine j_nil ?_
       )
      (intro w' hS; refine ⟨?_, hS.below⟩; simp only [pack])
      exact rb (by rw [hr]; rfl)
def forceF (l : List Od) (p d : Int) : Od × Int :=
  if rightB l = true ∧ idI p ∧ dayI d then (if (fo l p d).idn = 0 then (odZ, 6) else (fo l p d, 0)) else (odZ, 2)
theorem forceF_bad {l : List Od} {p d : Int} (h : ¬ (rightB l = true ∧ idI p ∧ dayI d)) : forceF l p d = (odZ, 2) := by unfold forceF; rw [if_neg h]
theorem forceF_none {l : List Od} {p d : Int} (h : rightB l = true ∧ idI p ∧ dayI d) (h0 : (fo l p d).idn = 0) : forceF l p d = (odZ, 6) := by unfold forceF; rw [if_pos h, if_pos h0]
theorem forceF_ok {l : List Od} {p d : Int} (h : rightB l = true ∧ idI p ∧ dayI d) (h0 : ¬ (fo l p d).idn = 0) : forceF l p d = (fo l p d, 0) := by unfold forceF; rw [if_pos h, if_neg h0]
theorem Force_c (A : Option Addr) (c : Nat) (l : List Od) (p d : Int) (w : World) (hl : l.length ≤ 9223372036854775807) (h : RS w 6 odC A l) :
    Calls Try.prog 23 #[.slice A l.length c, .int .i64 p, .int .i64 d] w fun e w' => e = .returned (.tuple #[odV (forceF l p d).1, .int .i64 (forceF l p d).2]) ∧ Below w.heap.size w w' := by
  have hR : ∀ w', RS w' 6 odC A l → Calls Try.prog 25 #[.slice A l.length c] w' fun e w'' => e = .returned (.bool (rightB l)) ∧ Below w'.heap.size w' w'' := fun w' h' => Right_c A c l w' hl h'
  have hO : ∀ w', l.length ≤ 1000000 → RS w' 6 odC A l → Calls Try.prog 58 #[.slice A l.length c, .int .i64 p] w' _ := fun w' h1 h' => of_c A c l p w' h1 h'
  have hle : rightB l = true → l.length ≤ 500 := fun h => ((rightB_iff l).1 h).1
  have hpl := ofP_len l p
  generalize hn : l.length = n at *
  refine eng_start (n := 33) (args := [.slice A n c, .int .i64 p, .int .i64 d]) tab tab_ok fns fns_ok [.cell 6 30, .tmp 7] Try.func23 rfl rfl rfl rfl ?_
  repeat' (first
   | (refine gJ ?_
      first
      | refine jmv rfl rfl rfl rfl rfl ?_
      | (refine gload rfl rfl ?_
         refine j_qe rfl rfl rfl ?_
         first
         | refine ⟨_, q_load_own rfl rfl rfl rfl (by (repeat (first | exact InL.here | apply InL.there))) (by first | rfl | assumption), ?_⟩
         | refine ⟨_, q_loadA_own rfl rfl rfl rfl (by (repeat (first | exact InL.here | apply InL.there))) (by rfl), ?_⟩
         | refine ⟨_, q_loadA_ext rfl rfl rfl rfl ⟨by assumption, (by first | exact id | assumption)⟩ (by rfl), ?_⟩
         | refine ⟨_, q_load_ext rfl rfl rfl rfl ⟨by assumption, (by first | exact id | assumption)⟩ (by first | rfl | assumption), ?_⟩
         | refine ⟨_, q_load_extb rfl rfl rfl rfl ⟨by assumption, (by first | exact id | assumption)⟩ (by rfl), ?_⟩
         | refine ⟨_, q_loadA_extb rfl rfl rfl rfl ⟨by assumption, (by first | exact id | assumption)⟩ (by rfl), ?_⟩
         | refine ⟨_, q_load_ext0 rfl rfl rfl rfl ⟨by assumption, (by first | exact id | assumption)⟩ (by rfl), ?_⟩)
      | refine jfield rfl rfl rfl rfl rfl rfl rfl rfl ?_
      | refine jcmp rfl rfl rfl rfl rfl rfl rfl ?_
      | (refine gcall rfl rfl ?_
         first
         | (refine j_qc (f := 25) rfl rfl rfl rfl rfl rfl rfl ?_; refine ⟨_, (fun w' hs => hR w' (h.st hs)), ?_⟩)
         | (refine j_qc (f := 56) rfl rfl rfl rfl rfl rfl rfl ?_; refine ⟨_, (fun w' _ => isID_c _ w'), ?_⟩)
         | (refine j_qc (f := 57) rfl rfl rfl rfl rfl rfl rfl ?_; refine ⟨_, (fun w' _ => isDay_c _ w'), ?_⟩)
         | (refine j_qc (f := 60) rfl rfl rfl rfl rfl rfl rfl ?_; refine ⟨_, (fun w' hs => force_c _ _ (ofP l p) d w' (by omega) (rs_own (f := odC) (fun _ => rfl) hs (by (repeat (first | exact InL.here | apply InL.there))) rfl rfl)), ?_⟩))
      | (refine gcall rfl rfl ?_; refine gF ?_; refine j_callN (f := 58) rfl rfl rfl rfl rfl rfl rfl (fun v => .agg #[v]) (fun _ => True) (fun v => [.own v 30 6 (ofP l p).length ((ofP l p).flatMap odC)]) (fun w' hs => hO w' (by have := hle (by assumption); omega) (h.st hs)) (fun _ => trivial) ?_; intro v0 _; refine j_owns (by (repeat (first | exact InL.here | apply InL.there))) ?_; rintro A2 c2 rfl hs2)
      | (refine gF ?_
         first
         | refine j_store rfl rfl rfl rfl rfl rfl rfl rfl (by (repeat (first | exact Upd.here | apply Upd.there))) (by rfl) ?_
         | (refine j_alloc rfl rfl rfl rfl rfl ?_; intro b))
      | (refine j_qe rfl rfl rfl ?_
         first
         | refine ⟨_, q_pick_t rfl rfl rfl, ?_⟩
         | refine ⟨_, q_pick_f rfl rfl rfl, ?_⟩
         | refine ⟨_, q_not rfl rfl, ?_⟩
         | refine ⟨_, q_build_struct rfl rfl rfl rfl rfl, ?_⟩
         | refine ⟨_, q_build_arr rfl rfl rfl rfl rfl, ?_⟩
         | refine ⟨_, q_field_ext rfl rfl rfl rfl rfl, ?_⟩)
      | refine j_guard_undef rfl rfl rfl rfl rfl ?_
      | (refine j_guard rfl rfl rfl rfl rfl ?_ ?_ <;> intro hc <;> (first | (exact absurd hc (by decide)) | ((try simp only [decide_eq_true_eq, decide_eq_false_iff_not, Bool.not_eq_true', Bool.not_eq_false', Bool.not_true, Bool.not_false, ne_eq, Decidable.not_not] at hc) <;> first | (exfalso; omega) | (exact absurd trivial hc) | skip))))
   | (refine gSC ?_
      first
      | refine sc_seq ?_
      | refine sc_region ?_
      | (refine sc_cond rfl ?_ ?_ <;> intro hc <;> (first | (exact absurd hc (by decide)) | ((try simp only [decide_eq_true_eq, decide_eq_false_iff_not, Bool.not_eq_true', Bool.not_eq_false', Bool.not_true, Bool.not_false, ne_eq, Decidable.not_not] at hc) <;> first | (exfalso; omega) | (exact absurd trivial hc) | skip)))
      | refine sc_block ?_
      | refine sc_ret ?_
      | refine sc_exit ?_
      | refine sc_skip ?_)
   | (refine gSQ ?_
      first
      | refine sq_seq ?_
      | refine sq_blk ?_
      | refine sq_seq_ret ?_
      | refine sq_blk_ret ?_
      | refine sq_loop_ret ?_
      | refine sq_seq_exit ?_
      | refine sq_blk_hit ?_
      | refine sq_blk_miss rfl ?_
      | refine sq_loop_exit ?_
      | refine sq_ende (.inl rfl) rfl rfl ⟨_, (RVs.cons (by first | exact RV.cell rfl rfl rfl (by (repeat (first | exact InL.here | apply InL.there))) (by rfl) | exact RV.cellA rfl rfl rfl (by (repeat (first | exact InL.here | apply InL.there))) (by rfl)) (RVs.cons (RV.tmp rfl) (RVs.nil))), ?_⟩
      | refine sq_ende (.inr rfl) rfl rfl ⟨_, (RVs.cons (by first | exact RV.cell rfl rfl rfl (by (repeat (first | exact InL.here | apply InL.there))) (by rfl) | exact RV.cellA rfl rfl rfl (by (repeat (first | exact InL.here | apply InL.there))) (by rfl)) (RVs.cons (RV.tmp rfl) (RVs.nil))), ?_⟩)
   | refine j_nil ?_
   )
  · (intro w' hS; refine ⟨?_, hS.below⟩; simp only [pack])
    rw [forceF_bad (by simp [*])]
    rfl
  · (intro w' hS; refine ⟨?_, hS.below⟩; simp only [pack])
    rw [forceF_none (by simp [*]) (by unfold fo; assumption)]
    rfl
  · (intro w' hS; refine ⟨?_, hS.below⟩; simp only [pack])
    rw [forceF_ok (by simp [*]) (by unfold fo; assumption)]
    rfl
  · (intro w' hS; refine ⟨?_, hS.below⟩; simp only [pack])
    rw [forceF_bad (by simp [*])]
    rfl
  · (intro w' hS; refine ⟨?_, hS.below⟩; simp only [pack])
    rw [forceF_bad (by simp [*])]
    rfl
end Go.Proofs.Ytmcmmmaffdenjaa
