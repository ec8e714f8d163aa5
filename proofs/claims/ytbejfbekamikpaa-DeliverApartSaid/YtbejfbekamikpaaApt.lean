/-
  DeliverApart: what the law's text returns.
-/
import Derived.Test.YtbejfbekamikpaaPl1
import Derived.Test.YtbejfbekamikpaaEngBase
namespace Go.Proofs.Ytbejfbekamikpaa
open Go.RowKit Eng
set_option linter.unusedVariables false
set_option linter.unusedSimpArgs false
attribute [local irreducible] SC SQ J Qt Calls Iterates
abbrev sixV (v : Value) : Value := .agg #[.slice none 0 0, .slice none 0 0, .slice none 0 0, v]
abbrev sixL (v : Value) : List HA := [.own v 39 8 6 ((sixU 6).flatMap ptC)]
abbrev ruL (l : List Nt) (v : Value) : List HA := [.own v 37 5 (rulesF l).length ((rulesF l).flatMap ruC)]
abbrev offL (l : List Int) (v : Value) : List HA := [.own v 3 1 (offF l).length ((offF l).flatMap intC)]
theorem filter_take {α : Type} (p : α → Bool) (l : List α) (k : Nat) (x : α) (h : l[k]? = some x) : (l.take (k + 1)).filter p = (l.take k).filter p ++ (if p x then [x] else []) := by
  rw [List.take_add_one, h, List.filter_append]
  simp [List.filter_cons]
theorem own_len {α : Type} (f : α → List Value) (v : Value) (e sz : Nat) (l : List α) (x : α) : HA.own v e sz (l ++ [x]).length ((l ++ [x]).flatMap f) = HA.own v e sz (l.length + 1) (l.flatMap f ++ f x) := by simp
set_option maxHeartbeats 4000000 in
theorem apart_c (A : Option Addr) (c : Nat) (l : List Nt) (B : Option Addr) (bc : Nat) (fr : List Int) (day : Int) (w : World) (hl : l.length ≤ 9223372036854775807) (hok : ∀ x ∈ l, ntOk x) (h : RS w 4 ntC A l)
    (hfl : fr.length ≤ 9223372036854775807) (hfo : ∀ x ∈ fr, 0 ≤ x ∧ x ≤ 255) (hF : RS w 1 u8C B fr) (hd : 0 ≤ day ∧ day ≤ 65535) :
    Calls Try.prog 3 #[.slice A l.length c, .slice B fr.length bc, .int .u16 day] w fun e w' => e = .returned (.bool true) ∧ Below w.heap.size w w' := by
  refine eng_start (n := 141) (args := [.slice A l.length c, .slice B fr.length bc, .int .u16 day]) tab tab_ok fns fns_ok [.tmp 6] Try.func3 rfl rfl rfl rfl ?_
  repeat' (first
   | (refine gJ ?_
      first
      | refine jmv rfl rfl rfl rfl rfl ?_
      | (refine gload rfl rfl ?_
         refine j_qe rfl rfl rfl ?_
         first
         | refine ⟨_, q_load_own rfl rfl rfl rfl (by (repeat (first | exact InL.here | apply InL.there))) (by first | rfl | assumption), ?_⟩
         | refine ⟨_, q_loadA_own rfl rfl rfl rfl (by (repeat (first | exact InL.here | apply InL.there))) (by rfl), ?_⟩
         | refine ⟨_, q_loadA_ext rfl rfl rfl rfl ⟨by assumption, (by first | exact id | assumption)⟩ (by rfl), ?_⟩
         | refine ⟨_, q_load_ext rfl rfl rfl rfl ⟨by assumption, (by first | exact id | assumption)⟩ (by first | rfl | assumption), ?_⟩
         | refine ⟨_, q_load_extb rfl rfl rfl rfl ⟨by assumption, (by first | exact id | assumption)⟩ (by rfl), ?_⟩
         | refine ⟨_, q_loadA_extb rfl rfl rfl rfl ⟨by assumption, (by first | exact id | assumption)⟩ (by rfl), ?_⟩
         | refine ⟨_, q_load_ext0 rfl rfl rfl rfl ⟨by assumption, (by first | exact id | assumption)⟩ (by rfl), ?_⟩)
      | refine jfield rfl rfl rfl rfl rfl rfl rfl rfl ?_
      | refine jcmp rfl rfl rfl rfl rfl rfl rfl ?_
      | refine jar rfl rfl rfl rfl rfl rfl rfl (by omega) ?_
      | refine jextract rfl rfl rfl rfl rfl rfl ?_
      | (refine gcall rfl rfl ?_; refine j_callN (f := 11) rfl rfl rfl rfl rfl rfl rfl sixV (fun _ => True) sixL (fun w' _ => six_c w') (fun _ => trivial) ?_; rintro vp _; refine j_own InL.here ?_; rintro Ap cp rfl)
      | (refine gcall rfl rfl ?_; refine j_callN (f := 12) rfl rfl rfl rfl rfl rfl rfl (fun v => v) (fun _ => True) (ruL l) (fun w' hs => rules_c A c l w' hl hok (h.st hs)) (fun _ => trivial) ?_; rintro va _; refine j_own InL.here ?_; rintro Aa ca rfl)
      | (refine gcall rfl rfl ?_; refine j_callN (f := 13) rfl rfl rfl rfl rfl rfl rfl (fun v => v) (fun _ => True) (offL fr) (fun w' hs => off_c B bc fr w' hfl hfo (hF.st hs)) (fun _ => trivial) ?_; rintro vh _; refine j_own InL.here ?_; rintro Ah ch rfl)
      | refine j_store rfl rfl rfl rfl rfl rfl rfl rfl (by (repeat (first | exact Upd.here | apply Upd.there))) (by rfl) ?_
      | (refine j_alloc rfl rfl rfl rfl rfl ?_; intro b)
      | (refine j_box rfl rfl rfl rfl rfl ?_; intro b)
      | (refine j_qe rfl rfl rfl ?_
         first
         | refine ⟨_, q_pick_t rfl rfl rfl, ?_⟩
         | refine ⟨_, q_pick_f rfl rfl rfl, ?_⟩
         | refine ⟨_, q_not rfl rfl, ?_⟩
         | refine ⟨_, q_index_nat rfl rfl rfl rfl rfl (by omega), ?_⟩
         | refine ⟨_, q_index_slice rfl rfl rfl rfl rfl (by omega), ?_⟩
         | refine ⟨_, q_index_arr rfl rfl rfl rfl rfl (by omega), ?_⟩
         | refine ⟨_, q_index_arr_ext rfl rfl rfl rfl rfl (by omega), ?_⟩
         | refine ⟨_, q_len_slice rfl rfl rfl rfl, ?_⟩
         | refine ⟨_, q_makeFunc rfl rfl, ?_⟩
         | refine ⟨_, q_build_struct rfl rfl rfl rfl rfl, ?_⟩
         | refine ⟨_, q_build_arr rfl rfl rfl rfl rfl, ?_⟩
         | refine ⟨_, q_nilCheck rfl rfl, ?_⟩
         | refine ⟨_, q_field_ext rfl rfl rfl rfl rfl, ?_⟩
         | refine ⟨_, q_quo rfl rfl rfl (by omega), ?_⟩
         | refine ⟨_, q_rem rfl rfl rfl (by omega), ?_⟩
         | refine ⟨_, q_quot rfl rfl rfl (by omega), ?_⟩
         | refine ⟨_, q_remt rfl rfl rfl (by omega), ?_⟩
         | refine ⟨_, q_addu8 rfl rfl rfl (by omega), ?_⟩
         | refine ⟨_, q_quou8 rfl rfl rfl (by omega), ?_⟩
         | refine ⟨_, q_shr1 rfl rfl rfl, ?_⟩
         | refine ⟨_, q_shr rfl rfl rfl ⟨by omega, by decide⟩, ?_⟩
         | refine ⟨_, q_shr rfl rfl rfl ⟨by omega, by show Int.toNat _ ≤ (8:Nat); omega⟩, ?_⟩
         | refine ⟨_, q_and1 rfl rfl rfl (by first | assumption | omega), ?_⟩
         | refine ⟨_, q_conv rfl rfl rfl rfl rfl rfl (by first | rfl | (exact i64_wrap (by omega) (by omega)) | (exact u8_wrap (by omega) (by omega)) | (exact u64_wrap (by omega) (by omega)) | (exact u16_wrap (by omega) (by omega))), ?_⟩)
      | refine j_guard_undef rfl rfl rfl rfl rfl ?_
      | (refine j_guard rfl rfl rfl rfl rfl ?_ ?_ <;> intro hc <;> (first | (exact absurd hc (by decide)) | ((try simp only [decide_eq_true_eq, decide_eq_false_iff_not, Bool.not_eq_true', Bool.not_eq_false', Bool.not_true, Bool.not_false, ne_eq, Decidable.not_not] at hc) <;> first | (exfalso; omega) | (exact absurd trivial hc) | skip)))
      | (refine j_buildSlice rfl rfl rfl rfl rfl rfl rfl rfl rfl rfl rfl rfl ?_; intro b)
      | (refine j_append rfl rfl rfl rfl rfl rfl rfl rfl rfl rfl rfl (by (repeat (first | exact InL.here | apply InL.there))) (by (repeat (first | exact InL.here | apply InL.there))) (by rfl) (by rfl) (by omega) (fun _ => by (repeat (first | exact Upd.here | apply Upd.there))) ?_; intro v))
   | (refine gSC ?_
      first
      | refine sc_seq ?_
      | refine sc_region ?_
      | (refine sc_cond rfl ?_ ?_ <;> intro hc <;> (first | (exact absurd hc (by decide)) | ((try simp only [decide_eq_true_eq, decide_eq_false_iff_not, Bool.not_eq_true', Bool.not_eq_false', Bool.not_true, Bool.not_false, ne_eq, Decidable.not_not] at hc) <;> first | (exfalso; omega) | (exact absurd trivial hc) | skip)))
      | refine sc_block ?_
      | refine sc_ret ?_
      | refine sc_exit ?_
      | refine sc_skip ?_
      | refine sc_draw rfl mixed (by kernel_rfl) ?_)
   | (refine gSQ ?_
      first
      | refine sq_seq ?_
      | refine sq_blk ?_
      | refine sq_seq_ret ?_
      | refine sq_blk_ret ?_
      | refine sq_loop_ret ?_
      | refine sq_seq_exit ?_
      | refine sq_blk_hit ?_
      | refine sq_blk_miss rfl ?_
      | refine sq_loop_exit ?_
      | refine sq_ende (.inl rfl) rfl rfl ⟨_, (RVs.cons (RV.tmp rfl) (RVs.nil)), ?_⟩
      | refine sq_ende (.inr rfl) rfl rfl ⟨_, (RVs.cons (RV.tmp rfl) (RVs.nil)), ?_⟩)
   | refine j_nil ?_
   )
  rename Nat => b7
  refine sc_now ?_
  intro w1 hS1
  have hRa : RS w1 5 ruC Aa (rulesF l) := rs_of_own (l := rulesF l) hS1 (fun _ => rfl) (by (repeat (first | exact InL.here | apply InL.there)))
  have hRh : RS w1 1 intC Ah (offF fr) := rs_of_own (l := offF fr) hS1 (fun _ => rfl) (by (repeat (first | exact InL.here | apply InL.there)))
  have hRp : RS w1 8 ptC Ap (sixU 6) := rs_of_own (l := sixU 6) hS1 (fun _ => rfl) (by (repeat (first | exact InL.here | apply InL.there)))
  have hE7 : Ext w1 ⟨b7, 0, none⟩ [.slice none 0 0, .slice none 0 0, .slice none 0 0, .slice Ap 6 cp] := hS1.ext (by (repeat (first | exact InL.here | apply InL.there)))
  have hB1 : Below w.heap.size w w1 := hS1.below
  have hal := rulesF_len l
  have hao := rules_ok l hok
  have hhl := offF_len fr
  obtain ⟨d, hde⟩ : ∃ d, day % 2001 = d := ⟨_, rfl⟩
  have hd0 : 0 ≤ d ∧ d ≤ 2000 := by omega
  have hck := off_check fr d hd0.1 (by omega)
  dsimp only
  simp only [hde]
  clear hS1 h hF hok hfo hl hfl
  generalize rulesF l = all at *
  generalize offF fr = hol at *
  obtain ⟨n, hn⟩ : ∃ n, all.length = n := ⟨_, rfl⟩
  obtain ⟨m, hm⟩ : ∃ m, hol.length = m := ⟨_, rfl⟩
  simp only [hn, hm] at hal hhl ⊢
  refine sc_own_nil_at 37 5 ?_
  refine sc_loop (ι := Nat × Option Addr × Nat) (fun i => i.1 ≤ n) (fun i => n - i.1) (fun i => [(7, .pointer (some ⟨b7, 0, none⟩)), (8, .slice Aa n ca), (9, .slice Ah m ch), (10, .int .i64 d), (11, .slice i.2.1 i.1 i.2.2), (30, .int .i64 n), (31, .int .i64 i.1)]) (fun i => [.own (.slice i.2.1 i.1 i.2.2) 37 5 i.1 ((all.reverse.take i.1).flatMap ruC)]) (0, none, 0) (by show 0 ≤ n; omega) (by repeat (first | exact FSub.nil | refine FSub.cons rfl ?_ | refine FSub.conse rfl (by congr 1; omega) ?_)) (by repeat (first | exact LSub.nil | refine LSub.cons (by repeat (first | exact Rem.here | apply Rem.there)) ?_)) ?_
  rintro ⟨k, Ab, cb⟩ hk
  dsimp only at hk ⊢
  by_cases hlt : k < n
  · obtain ⟨x, hx⟩ : ∃ x, all[n - 1 - k]? = some x := ⟨_, List.getElem?_eq_getElem (by omega)⟩
    obtain ⟨ad, rfl, hX⟩ := hRa _ x hx
    have e1 : n - 1 - k = ((n : Int) - 1 - k).toNat := by omega
    rw [e1] at hX
    repeat' (first
     | (refine gJ ?_
        first
        | refine jmv rfl rfl rfl rfl rfl ?_
        | (refine gload rfl rfl ?_
           refine j_qe rfl rfl rfl ?_
           first
           | refine ⟨_, q_load_own rfl rfl rfl rfl (by (repeat (first | exact InL.here | apply InL.there))) (by first | rfl | assumption), ?_⟩
           | refine ⟨_, q_loadA_own rfl rfl rfl rfl (by (repeat (first | exact InL.here | apply InL.there))) (by rfl), ?_⟩
           | refine ⟨_, q_loadA_ext rfl rfl rfl rfl ⟨by assumption, (by first | exact id | assumption)⟩ (by rfl), ?_⟩
           | refine ⟨_, q_load_ext rfl rfl rfl rfl ⟨by assumption, (by first | exact id | assumption)⟩ (by first | rfl | assumption), ?_⟩
           | refine ⟨_, q_load_extb rfl rfl rfl rfl ⟨by assumption, (by first | exact id | assumption)⟩ (by rfl), ?_⟩
           | refine ⟨_, q_loadA_extb rfl rfl rfl rfl ⟨by assumption, (by first | exact id | assumption)⟩ (by rfl), ?_⟩
           | refine ⟨_, q_load_ext0 rfl rfl rfl rfl ⟨by assumption, (by first | exact id | assumption)⟩ (by rfl), ?_⟩)
        | refine jfield rfl rfl rfl rfl rfl rfl rfl rfl ?_
        | refine jcmp rfl rfl rfl rfl rfl rfl rfl ?_
        | refine jar rfl rfl rfl rfl rfl rfl rfl (by omega) ?_
        | refine jextract rfl rfl rfl rfl rfl rfl ?_
        | ((refine j_append rfl rfl rfl rfl rfl rfl rfl rfl rfl rfl rfl (by (repeat (first | exact InL.here | apply InL.there))) (by (repeat (first | exact InL.here | apply InL.there))) (by rfl) (by rfl) (by omega) (fun _ => by (repeat (first | exact Upd.here | apply Upd.there))) ?_; intro v9); refine j_own (by (repeat (first | exact InL.here | apply InL.there))) ?_; rintro A9 c9 rfl)
        | refine j_store rfl rfl rfl rfl rfl rfl rfl rfl (by (repeat (first | exact Upd.here | apply Upd.there))) (by rfl) ?_
        | (refine j_alloc rfl rfl rfl rfl rfl ?_; intro b)
        | (refine j_box rfl rfl rfl rfl rfl ?_; intro b)
        | (refine j_qe rfl rfl rfl ?_
           first
           | refine ⟨_, q_pick_t rfl rfl rfl, ?_⟩
           | refine ⟨_, q_pick_f rfl rfl rfl, ?_⟩
           | refine ⟨_, q_not rfl rfl, ?_⟩
           | refine ⟨_, q_index_nat rfl rfl rfl rfl rfl (by omega), ?_⟩
           | refine ⟨_, q_index_slice rfl rfl rfl rfl rfl (by omega), ?_⟩
           | refine ⟨_, q_index_arr rfl rfl rfl rfl rfl (by omega), ?_⟩
           | refine ⟨_, q_index_arr_ext rfl rfl rfl rfl rfl (by omega), ?_⟩
           | refine ⟨_, q_len_slice rfl rfl rfl rfl, ?_⟩
           | refine ⟨_, q_makeFunc rfl rfl, ?_⟩
           | refine ⟨_, q_build_struct rfl rfl rfl rfl rfl, ?_⟩
           | refine ⟨_, q_build_arr rfl rfl rfl rfl rfl, ?_⟩
           | refine ⟨_, q_nilCheck rfl rfl, ?_⟩
           | refine ⟨_, q_field_ext rfl rfl rfl rfl rfl, ?_⟩
           | refine ⟨_, q_quo rfl rfl rfl (by omega), ?_⟩
           | refine ⟨_, q_rem rfl rfl rfl (by omega), ?_⟩
           | refine ⟨_, q_quot rfl rfl rfl (by omega), ?_⟩
           | refine ⟨_, q_remt rfl rfl rfl (by omega), ?_⟩
           | refine ⟨_, q_addu8 rfl rfl rfl (by omega), ?_⟩
           | refine ⟨_, q_quou8 rfl rfl rfl (by omega), ?_⟩
           | refine ⟨_, q_shr1 rfl rfl rfl, ?_⟩
           | refine ⟨_, q_shr rfl rfl rfl ⟨by omega, by decide⟩, ?_⟩
           | refine ⟨_, q_shr rfl rfl rfl ⟨by omega, by show Int.toNat _ ≤ (8:Nat); omega⟩, ?_⟩
           | refine ⟨_, q_and1 rfl rfl rfl (by first | assumption | omega), ?_⟩
           | refine ⟨_, q_conv rfl rfl rfl rfl rfl rfl (by first | rfl | (exact i64_wrap (by omega) (by omega)) | (exact u8_wrap (by omega) (by omega)) | (exact u64_wrap (by omega) (by omega)) | (exact u16_wrap (by omega) (by omega))), ?_⟩)
        | refine j_guard_undef rfl rfl rfl rfl rfl ?_
        | (refine j_guard rfl rfl rfl rfl rfl ?_ ?_ <;> intro hc <;> (first | (exact absurd hc (by decide)) | ((try simp only [decide_eq_true_eq, decide_eq_false_iff_not, Bool.not_eq_true', Bool.not_eq_false', Bool.not_true, Bool.not_false, ne_eq, Decidable.not_not] at hc) <;> first | (exfalso; omega) | (exact absurd trivial hc) | skip)))
        | (refine j_buildSlice rfl rfl rfl rfl rfl rfl rfl rfl rfl rfl rfl rfl ?_; intro b)
        | (refine j_append rfl rfl rfl rfl rfl rfl rfl rfl rfl rfl rfl (by (repeat (first | exact InL.here | apply InL.there))) (by (repeat (first | exact InL.here | apply InL.there))) (by rfl) (by rfl) (by omega) (fun _ => by (repeat (first | exact Upd.here | apply Upd.there))) ?_; intro v))
     | (refine gSC ?_
        first
        | refine sc_seq ?_
        | refine sc_region ?_
        | (refine sc_cond rfl ?_ ?_ <;> intro hc <;> (first | (exact absurd hc (by decide)) | ((try simp only [decide_eq_true_eq, decide_eq_false_iff_not, Bool.not_eq_true', Bool.not_eq_false', Bool.not_true, Bool.not_false, ne_eq, Decidable.not_not] at hc) <;> first | (exfalso; omega) | (exact absurd trivial hc) | skip)))
        | refine sc_block ?_
        | refine sc_ret ?_
        | refine sc_exit ?_
        | refine sc_skip ?_
        | refine sc_draw rfl mixed (by kernel_rfl) ?_)
     | (refine gSQ ?_
        first
        | refine sq_seq ?_
        | refine sq_blk ?_
        | refine sq_seq_ret ?_
        | refine sq_blk_ret ?_
        | refine sq_loop_ret ?_
        | refine sq_seq_exit ?_
        | refine sq_blk_hit ?_
        | refine sq_blk_miss rfl ?_
        | refine sq_loop_exit ?_
        | refine sq_ende (.inl rfl) rfl rfl ⟨_, (RVs.cons (RV.tmp rfl) (RVs.nil)), ?_⟩
        | refine sq_ende (.inr rfl) rfl rfl ⟨_, (RVs.cons (RV.tmp rfl) (RVs.nil)), ?_⟩)
     | refine j_nil ?_
     )
    refine sq_loop (k + 1, A9, c9) (by show k + 1 ≤ n; omega) (by show n - (k + 1) < n - k; omega) (by repeat (first | exact FSub.nil | refine FSub.cons rfl ?_ | refine FSub.conse rfl (by congr 1; omega) ?_)) ?_
    dsimp only
    rw [rev_take all k x (by omega) (by rw [hn]; exact hx), List.flatMap_append, List.flatMap_singleton]
    exact (by repeat (first | exact LSub.nil | refine LSub.cons (by repeat (first | exact Rem.here | apply Rem.there)) ?_))
  · have hkn : k = n := by omega
    subst hkn
    rw [List.take_of_length_le (by simp [hn])]
    repeat' (first
     | (refine gJ ?_
        first
        | refine jmv rfl rfl rfl rfl rfl ?_
        | (refine gload rfl rfl ?_
           refine j_qe rfl rfl rfl ?_
           first
           | refine ⟨_, q_load_own rfl rfl rfl rfl (by (repeat (first | exact InL.here | apply InL.there))) (by first | rfl | assumption), ?_⟩
           | refine ⟨_, q_loadA_own rfl rfl rfl rfl (by (repeat (first | exact InL.here | apply InL.there))) (by rfl), ?_⟩
           | refine ⟨_, q_loadA_ext rfl rfl rfl rfl ⟨by assumption, (by first | exact id | assumption)⟩ (by rfl), ?_⟩
           | refine ⟨_, q_load_ext rfl rfl rfl rfl ⟨by assumption, (by first | exact id | assumption)⟩ (by first | rfl | assumption), ?_⟩
           | refine ⟨_, q_load_extb rfl rfl rfl rfl ⟨by assumption, (by first | exact id | assumption)⟩ (by rfl), ?_⟩
           | refine ⟨_, q_loadA_extb rfl rfl rfl rfl ⟨by assumption, (by first | exact id | assumption)⟩ (by rfl), ?_⟩
           | refine ⟨_, q_load_ext0 rfl rfl rfl rfl ⟨by assumption, (by first | exact id | assumption)⟩ (by rfl), ?_⟩)
        | refine jfield rfl rfl rfl rfl rfl rfl rfl rfl ?_
        | refine jcmp rfl rfl rfl rfl rfl rfl rfl ?_
        | refine jar rfl rfl rfl rfl rfl rfl rfl (by omega) ?_
        | refine jextract rfl rfl rfl rfl rfl rfl ?_
        | refine j_store rfl rfl rfl rfl rfl rfl rfl rfl (by (repeat (first | exact Upd.here | apply Upd.there))) (by rfl) ?_
        | (refine j_alloc rfl rfl rfl rfl rfl ?_; intro b)
        | (refine j_box rfl rfl rfl rfl rfl ?_; intro b)
        | (refine j_qe rfl rfl rfl ?_
           first
           | refine ⟨_, q_pick_t rfl rfl rfl, ?_⟩
           | refine ⟨_, q_pick_f rfl rfl rfl, ?_⟩
           | refine ⟨_, q_not rfl rfl, ?_⟩
           | refine ⟨_, q_index_nat rfl rfl rfl rfl rfl (by omega), ?_⟩
           | refine ⟨_, q_index_slice rfl rfl rfl rfl rfl (by omega), ?_⟩
           | refine ⟨_, q_index_arr rfl rfl rfl rfl rfl (by omega), ?_⟩
           | refine ⟨_, q_index_arr_ext rfl rfl rfl rfl rfl (by omega), ?_⟩
           | refine ⟨_, q_len_slice rfl rfl rfl rfl, ?_⟩
           | refine ⟨_, q_makeFunc rfl rfl, ?_⟩
           | refine ⟨_, q_build_struct rfl rfl rfl rfl rfl, ?_⟩
           | refine ⟨_, q_build_arr rfl rfl rfl rfl rfl, ?_⟩
           | refine ⟨_, q_nilCheck rfl rfl, ?_⟩
           | refine ⟨_, q_field_ext rfl rfl rfl rfl rfl, ?_⟩
           | refine ⟨_, q_quo rfl rfl rfl (by omega), ?_⟩
           | refine ⟨_, q_rem rfl rfl rfl (by omega), ?_⟩
           | refine ⟨_, q_quot rfl rfl rfl (by omega), ?_⟩
           | refine ⟨_, q_remt rfl rfl rfl (by omega), ?_⟩
           | refine ⟨_, q_addu8 rfl rfl rfl (by omega), ?_⟩
           | refine ⟨_, q_quou8 rfl rfl rfl (by omega), ?_⟩
           | refine ⟨_, q_shr1 rfl rfl rfl, ?_⟩
           | refine ⟨_, q_shr rfl rfl rfl ⟨by omega, by decide⟩, ?_⟩
           | refine ⟨_, q_shr rfl rfl rfl ⟨by omega, by show Int.toNat _ ≤ (8:Nat); omega⟩, ?_⟩
           | refine ⟨_, q_and1 rfl rfl rfl (by first | assumption | omega), ?_⟩
           | refine ⟨_, q_conv rfl rfl rfl rfl rfl rfl (by first | rfl | (exact i64_wrap (by omega) (by omega)) | (exact u8_wrap (by omega) (by omega)) | (exact u64_wrap (by omega) (by omega)) | (exact u16_wrap (by omega) (by omega))), ?_⟩)
        | refine j_guard_undef rfl rfl rfl rfl rfl ?_
        | (refine j_guard rfl rfl rfl rfl rfl ?_ ?_ <;> intro hc <;> (first | (exact absurd hc (by decide)) | ((try simp only [decide_eq_true_eq, decide_eq_false_iff_not, Bool.not_eq_true', Bool.not_eq_false', Bool.not_true, Bool.not_false, ne_eq, Decidable.not_not] at hc) <;> first | (exfalso; omega) | (exact absurd trivial hc) | skip)))
        | (refine j_buildSlice rfl rfl rfl rfl rfl rfl rfl rfl rfl rfl rfl rfl ?_; intro b)
        | (refine j_append rfl rfl rfl rfl rfl rfl rfl rfl rfl rfl rfl (by (repeat (first | exact InL.here | apply InL.there))) (by (repeat (first | exact InL.here | apply InL.there))) (by rfl) (by rfl) (by omega) (fun _ => by (repeat (first | exact Upd.here | apply Upd.there))) ?_; intro v))
     | (refine gSC ?_
        first
        | refine sc_seq ?_
        | refine sc_region ?_
        | (refine sc_cond rfl ?_ ?_ <;> intro hc <;> (first | (exact absurd hc (by decide)) | ((try simp only [decide_eq_true_eq, decide_eq_false_iff_not, Bool.not_eq_true', Bool.not_eq_false', Bool.not_true, Bool.not_false, ne_eq, Decidable.not_not] at hc) <;> first | (exfalso; omega) | (exact absurd trivial hc) | skip)))
        | refine sc_block ?_
        | refine sc_ret ?_
        | refine sc_exit ?_
        | refine sc_skip ?_
        | refine sc_draw rfl mixed (by kernel_rfl) ?_)
     | (refine gSQ ?_
        first
        | refine sq_seq ?_
        | refine sq_blk ?_
        | refine sq_seq_ret ?_
        | refine sq_blk_ret ?_
        | refine sq_loop_ret ?_
        | refine sq_seq_exit ?_
        | refine sq_blk_hit ?_
        | refine sq_blk_miss rfl ?_
        | refine sq_loop_exit ?_
        | refine sq_ende (.inl rfl) rfl rfl ⟨_, (RVs.cons (RV.tmp rfl) (RVs.nil)), ?_⟩
        | refine sq_ende (.inr rfl) rfl rfl ⟨_, (RVs.cons (RV.tmp rfl) (RVs.nil)), ?_⟩)
     | refine j_nil ?_
     )
    rename Nat => b2
    refine sc_own_nil_at 39 8 ?_
    refine sc_loop (ι := Nat × Option Addr × Nat) (fun i => i.1 ≤ 6) (fun i => 6 - i.1) (fun i => [(7, .pointer (some ⟨b7, 0, none⟩)), (8, .slice Aa k ca), (9, .slice Ah m ch), (10, .int .i64 d), (11, .slice Ab k cb), (13, .pointer (some ⟨b2, 0, none⟩)), (50, .int .i64 6), (51, .int .i64 i.1)])
      (fun i => [.own (.slice i.2.1 i.1 i.2.2) 39 8 i.1 (((sixU 6).reverse.take i.1).flatMap ptC),   .own (.slice Ab k cb) 37 5 k (all.reverse.flatMap ruC), .cells b2 30 [.slice none 0 0, .slice none 0 0, .slice none 0 0, .slice i.2.1 i.1 i.2.2]]) (0, none, 0) (by show 0 ≤ 6; omega) (by repeat (first | exact FSub.nil | refine FSub.cons rfl ?_ | refine FSub.conse rfl (by congr 1; omega) ?_)) (by repeat (first | exact LSub.nil | refine LSub.cons (by repeat (first | exact Rem.here | apply Rem.there)) ?_)) ?_
    rintro ⟨j, A2, c2⟩ hj
    dsimp only at hj ⊢
    by_cases hlt : j < 6
    · obtain ⟨x, hx⟩ : ∃ x, (sixU 6)[6 - 1 - j]? = some x := ⟨_, List.getElem?_eq_getElem (by rw [show (sixU 6).length = 6 from rfl]; omega)⟩
      obtain ⟨ad, rfl, hX⟩ := hRp _ x hx
      have e1 : 6 - 1 - j = ((6 : Int) - 1 - j).toNat := by omega
      rw [e1] at hX
      repeat' (first
       | (refine gJ ?_
          first
          | refine jmv rfl rfl rfl rfl rfl ?_
          | (refine gload rfl rfl ?_
             refine j_qe rfl rfl rfl ?_
             first
             | refine ⟨_, q_load_own rfl rfl rfl rfl (by (repeat (first | exact InL.here | apply InL.there))) (by first | rfl | assumption), ?_⟩
             | refine ⟨_, q_loadA_own rfl rfl rfl rfl (by (repeat (first | exact InL.here | apply InL.there))) (by rfl), ?_⟩
             | refine ⟨_, q_loadA_ext rfl rfl rfl rfl ⟨by assumption, (by first | exact id | assumption)⟩ (by rfl), ?_⟩
             | refine ⟨_, q_load_ext rfl rfl rfl rfl ⟨by assumption, (by first | exact id | assumption)⟩ (by first | rfl | assumption), ?_⟩
             | refine ⟨_, q_load_extb rfl rfl rfl rfl ⟨by assumption, (by first | exact id | assumption)⟩ (by rfl), ?_⟩
             | refine ⟨_, q_loadA_extb rfl rfl rfl rfl ⟨by assumption, (by first | exact id | assumption)⟩ (by rfl), ?_⟩
             | refine ⟨_, q_load_ext0 rfl rfl rfl rfl ⟨by assumption, (by first | exact id | assumption)⟩ (by rfl), ?_⟩)
          | refine jfield rfl rfl rfl rfl rfl rfl rfl rfl ?_
          | refine jcmp rfl rfl rfl rfl rfl rfl rfl ?_
          | refine jar rfl rfl rfl rfl rfl rfl rfl (by omega) ?_
          | refine jextract rfl rfl rfl rfl rfl rfl ?_
          | refine j_store rfl rfl rfl rfl rfl rfl rfl rfl (by (repeat (first | exact Upd.here | apply Upd.there))) (by rfl) ?_
          | (refine j_alloc rfl rfl rfl rfl rfl ?_; intro b)
          | (refine j_box rfl rfl rfl rfl rfl ?_; intro b)
          | (refine j_qe rfl rfl rfl ?_
             first
             | refine ⟨_, q_pick_t rfl rfl rfl, ?_⟩
             | refine ⟨_, q_pick_f rfl rfl rfl, ?_⟩
             | refine ⟨_, q_not rfl rfl, ?_⟩
             | refine ⟨_, q_index_nat rfl rfl rfl rfl rfl (by omega), ?_⟩
             | refine ⟨_, q_index_slice rfl rfl rfl rfl rfl (by omega), ?_⟩
             | refine ⟨_, q_index_arr rfl rfl rfl rfl rfl (by omega), ?_⟩
             | refine ⟨_, q_index_arr_ext rfl rfl rfl rfl rfl (by omega), ?_⟩
             | refine ⟨_, q_len_slice rfl rfl rfl rfl, ?_⟩
             | refine ⟨_, q_makeFunc rfl rfl, ?_⟩
             | refine ⟨_, q_build_struct rfl rfl rfl rfl rfl, ?_⟩
             | refine ⟨_, q_build_arr rfl rfl rfl rfl rfl, ?_⟩
             | refine ⟨_, q_nilCheck rfl rfl, ?_⟩
             | refine ⟨_, q_field_ext rfl rfl rfl rfl rfl, ?_⟩
             | refine ⟨_, q_quo rfl rfl rfl (by omega), ?_⟩
             | refine ⟨_, q_rem rfl rfl rfl (by omega), ?_⟩
             | refine ⟨_, q_quot rfl rfl rfl (by omega), ?_⟩
             | refine ⟨_, q_remt rfl rfl rfl (by omega), ?_⟩
             | refine ⟨_, q_addu8 rfl rfl rfl (by omega), ?_⟩
             | refine ⟨_, q_quou8 rfl rfl rfl (by omega), ?_⟩
             | refine ⟨_, q_shr1 rfl rfl rfl, ?_⟩
             | refine ⟨_, q_shr rfl rfl rfl ⟨by omega, by decide⟩, ?_⟩
             | refine ⟨_, q_shr rfl rfl rfl ⟨by omega, by show Int.toNat _ ≤ (8:Nat); omega⟩, ?_⟩
             | refine ⟨_, q_and1 rfl rfl rfl (by first | assumption | omega), ?_⟩
             | refine ⟨_, q_conv rfl rfl rfl rfl rfl rfl (by first | rfl | (exact i64_wrap (by omega) (by omega)) | (exact u8_wrap (by omega) (by omega)) | (exact u64_wrap (by omega) (by omega)) | (exact u16_wrap (by omega) (by omega))), ?_⟩)
          | refine j_guard_undef rfl rfl rfl rfl rfl ?_
          | (refine j_guard rfl rfl rfl rfl rfl ?_ ?_ <;> intro hc <;> (first | (exact absurd hc (by decide)) | ((try simp only [decide_eq_true_eq, decide_eq_false_iff_not, Bool.not_eq_true', Bool.not_eq_false', Bool.not_true, Bool.not_false, ne_eq, Decidable.not_not] at hc) <;> first | (exfalso; omega) | (exact absurd trivial hc) | skip)))
          | (refine j_buildSlice rfl rfl rfl rfl rfl rfl rfl rfl rfl rfl rfl rfl ?_; intro b)
          | (refine j_append rfl rfl rfl rfl rfl rfl rfl rfl rfl rfl rfl (by (repeat (first | exact InL.here | apply InL.there))) (by (repeat (first | exact InL.here | apply InL.there))) (by rfl) (by rfl) (by omega) (fun _ => by (repeat (first | exact Upd.here | apply Upd.there))) ?_; intro v))
       | (refine gSC ?_
          first
          | refine sc_seq ?_
          | refine sc_region ?_
          | (refine sc_cond rfl ?_ ?_ <;> intro hc <;> (first | (exact absurd hc (by decide)) | ((try simp only [decide_eq_true_eq, decide_eq_false_iff_not, Bool.not_eq_true', Bool.not_eq_false', Bool.not_true, Bool.not_false, ne_eq, Decidable.not_not] at hc) <;> first | (exfalso; omega) | (exact absurd trivial hc) | skip)))
          | refine sc_block ?_
          | refine sc_ret ?_
          | refine sc_exit ?_
          | refine sc_skip ?_
           | (refine sc_mixed [] rfl mixed ?_)
          | refine sc_draw rfl mixed (by kernel_rfl) ?_)
       | (refine gSQ ?_
          first
          | refine sq_seq ?_
          | refine sq_blk ?_
          | refine sq_seq_ret ?_
          | refine sq_blk_ret ?_
          | refine sq_loop_ret ?_
          | refine sq_seq_exit ?_
          | refine sq_blk_hit ?_
          | refine sq_blk_miss rfl ?_
          | refine sq_loop_exit ?_
          | refine sq_ende (.inl rfl) rfl rfl ⟨_, (RVs.cons (RV.tmp rfl) (RVs.nil)), ?_⟩
          | refine sq_ende (.inr rfl) rfl rfl ⟨_, (RVs.cons (RV.tmp rfl) (RVs.nil)), ?_⟩)
       | refine j_nil ?_
       )
      (refine ja_take 0 rfl (by kernel_rfl) rfl rfl rfl (by repeat (first | exact LSub.nil | refine LSub.cons (by repeat (first | exact Rem.here | apply Rem.there)) ?_)) ?_; first | refine ⟨_, q_move rfl rfl, ?_⟩ | refine ⟨_, q_assign rfl rfl, ?_⟩ | refine ⟨_, q_field_own rfl rfl rfl rfl rfl, ?_⟩ | refine ⟨_, q_extract rfl rfl rfl, ?_⟩ | refine ⟨_, q_add rfl rfl rfl (by omega), ?_⟩ | refine ⟨_, q_sub rfl rfl rfl (by omega), ?_⟩ | refine ⟨_, q_mul rfl rfl rfl (by omega), ?_⟩ | refine ⟨_, q_lss rfl rfl rfl, ?_⟩ | refine ⟨_, q_leq rfl rfl rfl, ?_⟩ | refine ⟨_, q_gtr rfl rfl rfl, ?_⟩ | refine ⟨_, q_geq rfl rfl rfl, ?_⟩ | refine ⟨_, q_eql rfl rfl rfl, ?_⟩ | refine ⟨_, q_neq rfl rfl rfl, ?_⟩ | refine ⟨_, q_pick_t rfl rfl rfl, ?_⟩ | refine ⟨_, q_pick_f rfl rfl rfl, ?_⟩ | refine ⟨_, q_not rfl rfl, ?_⟩ | refine ⟨_, q_index_nat rfl rfl rfl rfl rfl (by omega), ?_⟩ | refine ⟨_, q_index_slice rfl rfl rfl rfl rfl (by omega), ?_⟩ | refine ⟨_, q_index_arr rfl rfl rfl rfl rfl (by omega), ?_⟩ | refine ⟨_, q_index_arr_ext rfl rfl rfl rfl rfl (by omega), ?_⟩ | refine ⟨_, q_len_slice rfl rfl rfl rfl, ?_⟩ | refine ⟨_, q_makeFunc rfl rfl, ?_⟩ | refine ⟨_, q_build_struct rfl rfl rfl rfl rfl, ?_⟩ | refine ⟨_, q_build_arr rfl rfl rfl rfl rfl, ?_⟩ | refine ⟨_, q_nilCheck rfl rfl, ?_⟩ | refine ⟨_, q_field_ext rfl rfl rfl rfl rfl, ?_⟩ | refine ⟨_, q_quo rfl rfl rfl (by omega), ?_⟩ | refine ⟨_, q_rem rfl rfl rfl (by omega), ?_⟩ | refine ⟨_, q_quot rfl rfl rfl (by omega), ?_⟩ | refine ⟨_, q_remt rfl rfl rfl (by omega), ?_⟩ | refine ⟨_, q_addu8 rfl rfl rfl (by omega), ?_⟩ | refine ⟨_, q_quou8 rfl rfl rfl (by omega), ?_⟩ | refine ⟨_, q_shr1 rfl rfl rfl, ?_⟩ | refine ⟨_, q_shr rfl rfl rfl ⟨by omega, by decide⟩, ?_⟩ | refine ⟨_, q_shr rfl rfl rfl ⟨by omega, by show Int.toNat _ ≤ (8:Nat); omega⟩, ?_⟩ | refine ⟨_, q_and1 rfl rfl rfl (by first | assumption | omega), ?_⟩ | refine ⟨_, q_conv rfl rfl rfl rfl rfl rfl (by first | rfl | (exact i64_wrap (by omega) (by omega)) | (exact u8_wrap (by omega) (by omega)) | (exact u64_wrap (by omega) (by omega)) | (exact u16_wrap (by omega) (by omega))), ?_⟩ | refine ⟨_, q_load_own rfl rfl rfl rfl (by (repeat (first | exact InL.here | apply InL.there))) (by first | rfl | assumption), ?_⟩ | refine ⟨_, q_loadA_own rfl rfl rfl rfl (by (repeat (first | exact InL.here | apply InL.there))) (by rfl), ?_⟩ | refine ⟨_, q_loadA_ext rfl rfl rfl rfl ⟨by assumption, (by first | exact id | assumption)⟩ (by rfl), ?_⟩ | refine ⟨_, q_load_ext rfl rfl rfl rfl ⟨by assumption, (by first | exact id | assumption)⟩ (by first | rfl | assumption), ?_⟩ | refine ⟨_, q_load_extb rfl rfl rfl rfl ⟨by assumption, (by first | exact id | assumption)⟩ (by rfl), ?_⟩ | refine ⟨_, q_loadA_extb rfl rfl rfl rfl ⟨by assumption, (by first | exact id | assumption)⟩ (by rfl), ?_⟩ | refine ⟨_, q_load_ext0 rfl rfl rfl rfl ⟨by assumption, (by first | exact id | assumption)⟩ (by rfl), ?_⟩)
      (refine ja_take 2 rfl (by kernel_rfl) rfl rfl rfl (by repeat (first | exact LSub.nil | refine LSub.cons (by repeat (first | exact Rem.here | apply Rem.there)) ?_)) ?_; first | refine ⟨_, q_move rfl rfl, ?_⟩ | refine ⟨_, q_assign rfl rfl, ?_⟩ | refine ⟨_, q_field_own rfl rfl rfl rfl rfl, ?_⟩ | refine ⟨_, q_extract rfl rfl rfl, ?_⟩ | refine ⟨_, q_add rfl rfl rfl (by omega), ?_⟩ | refine ⟨_, q_sub rfl rfl rfl (by omega), ?_⟩ | refine ⟨_, q_mul rfl rfl rfl (by omega), ?_⟩ | refine ⟨_, q_lss rfl rfl rfl, ?_⟩ | refine ⟨_, q_leq rfl rfl rfl, ?_⟩ | refine ⟨_, q_gtr rfl rfl rfl, ?_⟩ | refine ⟨_, q_geq rfl rfl rfl, ?_⟩ | refine ⟨_, q_eql rfl rfl rfl, ?_⟩ | refine ⟨_, q_neq rfl rfl rfl, ?_⟩ | refine ⟨_, q_pick_t rfl rfl rfl, ?_⟩ | refine ⟨_, q_pick_f rfl rfl rfl, ?_⟩ | refine ⟨_, q_not rfl rfl, ?_⟩ | refine ⟨_, q_index_nat rfl rfl rfl rfl rfl (by omega), ?_⟩ | refine ⟨_, q_index_slice rfl rfl rfl rfl rfl (by omega), ?_⟩ | refine ⟨_, q_index_arr rfl rfl rfl rfl rfl (by omega), ?_⟩ | refine ⟨_, q_index_arr_ext rfl rfl rfl rfl rfl (by omega), ?_⟩ | refine ⟨_, q_len_slice rfl rfl rfl rfl, ?_⟩ | refine ⟨_, q_makeFunc rfl rfl, ?_⟩ | refine ⟨_, q_build_struct rfl rfl rfl rfl rfl, ?_⟩ | refine ⟨_, q_build_arr rfl rfl rfl rfl rfl, ?_⟩ | refine ⟨_, q_nilCheck rfl rfl, ?_⟩ | refine ⟨_, q_field_ext rfl rfl rfl rfl rfl, ?_⟩ | refine ⟨_, q_quo rfl rfl rfl (by omega), ?_⟩ | refine ⟨_, q_rem rfl rfl rfl (by omega), ?_⟩ | refine ⟨_, q_quot rfl rfl rfl (by omega), ?_⟩ | refine ⟨_, q_remt rfl rfl rfl (by omega), ?_⟩ | refine ⟨_, q_addu8 rfl rfl rfl (by omega), ?_⟩ | refine ⟨_, q_quou8 rfl rfl rfl (by omega), ?_⟩ | refine ⟨_, q_shr1 rfl rfl rfl, ?_⟩ | refine ⟨_, q_shr rfl rfl rfl ⟨by omega, by decide⟩, ?_⟩ | refine ⟨_, q_shr rfl rfl rfl ⟨by omega, by show Int.toNat _ ≤ (8:Nat); omega⟩, ?_⟩ | refine ⟨_, q_and1 rfl rfl rfl (by first | assumption | omega), ?_⟩ | refine ⟨_, q_conv rfl rfl rfl rfl rfl rfl (by first | rfl | (exact i64_wrap (by omega) (by omega)) | (exact u8_wrap (by omega) (by omega)) | (exact u64_wrap (by omega) (by omega)) | (exact u16_wrap (by omega) (by omega))), ?_⟩ | refine ⟨_, q_load_own rfl rfl rfl rfl (by (repeat (first | exact InL.here | apply InL.there))) (by first | rfl | assumption), ?_⟩ | refine ⟨_, q_loadA_own rfl rfl rfl rfl (by (repeat (first | exact InL.here | apply InL.there))) (by rfl), ?_⟩ | refine ⟨_, q_loadA_ext rfl rfl rfl rfl ⟨by assumption, (by first | exact id | assumption)⟩ (by rfl), ?_⟩ | refine ⟨_, q_load_ext rfl rfl rfl rfl ⟨by assumption, (by first | exact id | assumption)⟩ (by first | rfl | assumption), ?_⟩ | refine ⟨_, q_load_extb rfl rfl rfl rfl ⟨by assumption, (by first | exact id | assumption)⟩ (by rfl), ?_⟩ | refine ⟨_, q_loadA_extb rfl rfl rfl rfl ⟨by assumption, (by first | exact id | assumption)⟩ (by rfl), ?_⟩ | refine ⟨_, q_load_ext0 rfl rfl rfl rfl ⟨by assumption, (by first | exact id | assumption)⟩ (by rfl), ?_⟩)
      (refine ja_take 3 rfl (by kernel_rfl) rfl rfl rfl (by repeat (first | exact LSub.nil | refine LSub.cons (by repeat (first | exact Rem.here | apply Rem.there)) ?_)) ?_; first | refine ⟨_, q_move rfl rfl, ?_⟩ | refine ⟨_, q_assign rfl rfl, ?_⟩ | refine ⟨_, q_field_own rfl rfl rfl rfl rfl, ?_⟩ | refine ⟨_, q_extract rfl rfl rfl, ?_⟩ | refine ⟨_, q_add rfl rfl rfl (by omega), ?_⟩ | refine ⟨_, q_sub rfl rfl rfl (by omega), ?_⟩ | refine ⟨_, q_mul rfl rfl rfl (by omega), ?_⟩ | refine ⟨_, q_lss rfl rfl rfl, ?_⟩ | refine ⟨_, q_leq rfl rfl rfl, ?_⟩ | refine ⟨_, q_gtr rfl rfl rfl, ?_⟩ | refine ⟨_, q_geq rfl rfl rfl, ?_⟩ | refine ⟨_, q_eql rfl rfl rfl, ?_⟩ | refine ⟨_, q_neq rfl rfl rfl, ?_⟩ | refine ⟨_, q_pick_t rfl rfl rfl, ?_⟩ | refine ⟨_, q_pick_f rfl rfl rfl, ?_⟩ | refine ⟨_, q_not rfl rfl, ?_⟩ | refine ⟨_, q_index_nat rfl rfl rfl rfl rfl (by omega), ?_⟩ | refine ⟨_, q_index_slice rfl rfl rfl rfl rfl (by omega), ?_⟩ | refine ⟨_, q_index_arr rfl rfl rfl rfl rfl (by omega), ?_⟩ | refine ⟨_, q_index_arr_ext rfl rfl rfl rfl rfl (by omega), ?_⟩ | refine ⟨_, q_len_slice rfl rfl rfl rfl, ?_⟩ | refine ⟨_, q_makeFunc rfl rfl, ?_⟩ | refine ⟨_, q_build_struct rfl rfl rfl rfl rfl, ?_⟩ | refine ⟨_, q_build_arr rfl rfl rfl rfl rfl, ?_⟩ | refine ⟨_, q_nilCheck rfl rfl, ?_⟩ | refine ⟨_, q_field_ext rfl rfl rfl rfl rfl, ?_⟩ | refine ⟨_, q_quo rfl rfl rfl (by omega), ?_⟩ | refine ⟨_, q_rem rfl rfl rfl (by omega), ?_⟩ | refine ⟨_, q_quot rfl rfl rfl (by omega), ?_⟩ | refine ⟨_, q_remt rfl rfl rfl (by omega), ?_⟩ | refine ⟨_, q_addu8 rfl rfl rfl (by omega), ?_⟩ | refine ⟨_, q_quou8 rfl rfl rfl (by omega), ?_⟩ | refine ⟨_, q_shr1 rfl rfl rfl, ?_⟩ | refine ⟨_, q_shr rfl rfl rfl ⟨by omega, by decide⟩, ?_⟩ | refine ⟨_, q_shr rfl rfl rfl ⟨by omega, by show Int.toNat _ ≤ (8:Nat); omega⟩, ?_⟩ | refine ⟨_, q_and1 rfl rfl rfl (by first | assumption | omega), ?_⟩ | refine ⟨_, q_conv rfl rfl rfl rfl rfl rfl (by first | rfl | (exact i64_wrap (by omega) (by omega)) | (exact u8_wrap (by omega) (by omega)) | (exact u64_wrap (by omega) (by omega)) | (exact u16_wrap (by omega) (by omega))), ?_⟩ | refine ⟨_, q_load_own rfl rfl rfl rfl (by (repeat (first | exact InL.here | apply InL.there))) (by first | rfl | assumption), ?_⟩ | refine ⟨_, q_loadA_own rfl rfl rfl rfl (by (repeat (first | exact InL.here | apply InL.there))) (by rfl), ?_⟩ | refine ⟨_, q_loadA_ext rfl rfl rfl rfl ⟨by assumption, (by first | exact id | assumption)⟩ (by rfl), ?_⟩ | refine ⟨_, q_load_ext rfl rfl rfl rfl ⟨by assumption, (by first | exact id | assumption)⟩ (by first | rfl | assumption), ?_⟩ | refine ⟨_, q_load_extb rfl rfl rfl rfl ⟨by assumption, (by first | exact id | assumption)⟩ (by rfl), ?_⟩ | refine ⟨_, q_loadA_extb rfl rfl rfl rfl ⟨by assumption, (by first | exact id | assumption)⟩ (by rfl), ?_⟩ | refine ⟨_, q_load_ext0 rfl rfl rfl rfl ⟨by assumption, (by first | exact id | assumption)⟩ (by rfl), ?_⟩)
      (refine ja_take 4 rfl (by kernel_rfl) rfl rfl rfl (by repeat (first | exact LSub.nil | refine LSub.cons (by repeat (first | exact Rem.here | apply Rem.there)) ?_)) ?_; first | refine ⟨_, q_move rfl rfl, ?_⟩ | refine ⟨_, q_assign rfl rfl, ?_⟩ | refine ⟨_, q_field_own rfl rfl rfl rfl rfl, ?_⟩ | refine ⟨_, q_extract rfl rfl rfl, ?_⟩ | refine ⟨_, q_add rfl rfl rfl (by omega), ?_⟩ | refine ⟨_, q_sub rfl rfl rfl (by omega), ?_⟩ | refine ⟨_, q_mul rfl rfl rfl (by omega), ?_⟩ | refine ⟨_, q_lss rfl rfl rfl, ?_⟩ | refine ⟨_, q_leq rfl rfl rfl, ?_⟩ | refine ⟨_, q_gtr rfl rfl rfl, ?_⟩ | refine ⟨_, q_geq rfl rfl rfl, ?_⟩ | refine ⟨_, q_eql rfl rfl rfl, ?_⟩ | refine ⟨_, q_neq rfl rfl rfl, ?_⟩ | refine ⟨_, q_pick_t rfl rfl rfl, ?_⟩ | refine ⟨_, q_pick_f rfl rfl rfl, ?_⟩ | refine ⟨_, q_not rfl rfl, ?_⟩ | refine ⟨_, q_index_nat rfl rfl rfl rfl rfl (by omega), ?_⟩ | refine ⟨_, q_index_slice rfl rfl rfl rfl rfl (by omega), ?_⟩ | refine ⟨_, q_index_arr rfl rfl rfl rfl rfl (by omega), ?_⟩ | refine ⟨_, q_index_arr_ext rfl rfl rfl rfl rfl (by omega), ?_⟩ | refine ⟨_, q_len_slice rfl rfl rfl rfl, ?_⟩ | refine ⟨_, q_makeFunc rfl rfl, ?_⟩ | refine ⟨_, q_build_struct rfl rfl rfl rfl rfl, ?_⟩ | refine ⟨_, q_build_arr rfl rfl rfl rfl rfl, ?_⟩ | refine ⟨_, q_nilCheck rfl rfl, ?_⟩ | refine ⟨_, q_field_ext rfl rfl rfl rfl rfl, ?_⟩ | refine ⟨_, q_quo rfl rfl rfl (by omega), ?_⟩ | refine ⟨_, q_rem rfl rfl rfl (by omega), ?_⟩ | refine ⟨_, q_quot rfl rfl rfl (by omega), ?_⟩ | refine ⟨_, q_remt rfl rfl rfl (by omega), ?_⟩ | refine ⟨_, q_addu8 rfl rfl rfl (by omega), ?_⟩ | refine ⟨_, q_quou8 rfl rfl rfl (by omega), ?_⟩ | refine ⟨_, q_shr1 rfl rfl rfl, ?_⟩ | refine ⟨_, q_shr rfl rfl rfl ⟨by omega, by decide⟩, ?_⟩ | refine ⟨_, q_shr rfl rfl rfl ⟨by omega, by show Int.toNat _ ≤ (8:Nat); omega⟩, ?_⟩ | refine ⟨_, q_and1 rfl rfl rfl (by first | assumption | omega), ?_⟩ | refine ⟨_, q_conv rfl rfl rfl rfl rfl rfl (by first | rfl | (exact i64_wrap (by omega) (by omega)) | (exact u8_wrap (by omega) (by omega)) | (exact u64_wrap (by omega) (by omega)) | (exact u16_wrap (by omega) (by omega))), ?_⟩ | refine ⟨_, q_load_own rfl rfl rfl rfl (by (repeat (first | exact InL.here | apply InL.there))) (by first | rfl | assumption), ?_⟩ | refine ⟨_, q_loadA_own rfl rfl rfl rfl (by (repeat (first | exact InL.here | apply InL.there))) (by rfl), ?_⟩ | refine ⟨_, q_loadA_ext rfl rfl rfl rfl ⟨by assumption, (by first | exact id | assumption)⟩ (by rfl), ?_⟩ | refine ⟨_, q_load_ext rfl rfl rfl rfl ⟨by assumption, (by first | exact id | assumption)⟩ (by first | rfl | assumption), ?_⟩ | refine ⟨_, q_load_extb rfl rfl rfl rfl ⟨by assumption, (by first | exact id | assumption)⟩ (by rfl), ?_⟩ | refine ⟨_, q_loadA_extb rfl rfl rfl rfl ⟨by assumption, (by first | exact id | assumption)⟩ (by rfl), ?_⟩ | refine ⟨_, q_load_ext0 rfl rfl rfl rfl ⟨by assumption, (by first | exact id | assumption)⟩ (by rfl), ?_⟩)
      (refine ja_take 5 rfl (by kernel_rfl) rfl rfl rfl (by repeat (first | exact LSub.nil | refine LSub.cons (by repeat (first | exact Rem.here | apply Rem.there)) ?_)) ?_; first | refine ⟨_, q_move rfl rfl, ?_⟩ | refine ⟨_, q_assign rfl rfl, ?_⟩ | refine ⟨_, q_field_own rfl rfl rfl rfl rfl, ?_⟩ | refine ⟨_, q_extract rfl rfl rfl, ?_⟩ | refine ⟨_, q_add rfl rfl rfl (by omega), ?_⟩ | refine ⟨_, q_sub rfl rfl rfl (by omega), ?_⟩ | refine ⟨_, q_mul rfl rfl rfl (by omega), ?_⟩ | refine ⟨_, q_lss rfl rfl rfl, ?_⟩ | refine ⟨_, q_leq rfl rfl rfl, ?_⟩ | refine ⟨_, q_gtr rfl rfl rfl, ?_⟩ | refine ⟨_, q_geq rfl rfl rfl, ?_⟩ | refine ⟨_, q_eql rfl rfl rfl, ?_⟩ | refine ⟨_, q_neq rfl rfl rfl, ?_⟩ | refine ⟨_, q_pick_t rfl rfl rfl, ?_⟩ | refine ⟨_, q_pick_f rfl rfl rfl, ?_⟩ | refine ⟨_, q_not rfl rfl, ?_⟩ | refine ⟨_, q_index_nat rfl rfl rfl rfl rfl (by omega), ?_⟩ | refine ⟨_, q_index_slice rfl rfl rfl rfl rfl (by omega), ?_⟩ | refine ⟨_, q_index_arr rfl rfl rfl rfl rfl (by omega), ?_⟩ | refine ⟨_, q_index_arr_ext rfl rfl rfl rfl rfl (by omega), ?_⟩ | refine ⟨_, q_len_slice rfl rfl rfl rfl, ?_⟩ | refine ⟨_, q_makeFunc rfl rfl, ?_⟩ | refine ⟨_, q_build_struct rfl rfl rfl rfl rfl, ?_⟩ | refine ⟨_, q_build_arr rfl rfl rfl rfl rfl, ?_⟩ | refine ⟨_, q_nilCheck rfl rfl, ?_⟩ | refine ⟨_, q_field_ext rfl rfl rfl rfl rfl, ?_⟩ | refine ⟨_, q_quo rfl rfl rfl (by omega), ?_⟩ | refine ⟨_, q_rem rfl rfl rfl (by omega), ?_⟩ | refine ⟨_, q_quot rfl rfl rfl (by omega), ?_⟩ | refine ⟨_, q_remt rfl rfl rfl (by omega), ?_⟩ | refine ⟨_, q_addu8 rfl rfl rfl (by omega), ?_⟩ | refine ⟨_, q_quou8 rfl rfl rfl (by omega), ?_⟩ | refine ⟨_, q_shr1 rfl rfl rfl, ?_⟩ | refine ⟨_, q_shr rfl rfl rfl ⟨by omega, by decide⟩, ?_⟩ | refine ⟨_, q_shr rfl rfl rfl ⟨by omega, by show Int.toNat _ ≤ (8:Nat); omega⟩, ?_⟩ | refine ⟨_, q_and1 rfl rfl rfl (by first | assumption | omega), ?_⟩ | refine ⟨_, q_conv rfl rfl rfl rfl rfl rfl (by first | rfl | (exact i64_wrap (by omega) (by omega)) | (exact u8_wrap (by omega) (by omega)) | (exact u64_wrap (by omega) (by omega)) | (exact u16_wrap (by omega) (by omega))), ?_⟩ | refine ⟨_, q_load_own rfl rfl rfl rfl (by (repeat (first | exact InL.here | apply InL.there))) (by first | rfl | assumption), ?_⟩ | refine ⟨_, q_loadA_own rfl rfl rfl rfl (by (repeat (first | exact InL.here | apply InL.there))) (by rfl), ?_⟩ | refine ⟨_, q_loadA_ext rfl rfl rfl rfl ⟨by assumption, (by first | exact id | assumption)⟩ (by rfl), ?_⟩ | refine ⟨_, q_load_ext rfl rfl rfl rfl ⟨by assumption, (by first | exact id | assumption)⟩ (by first | rfl | assumption), ?_⟩ | refine ⟨_, q_load_extb rfl rfl rfl rfl ⟨by assumption, (by first | exact id | assumption)⟩ (by rfl), ?_⟩ | refine ⟨_, q_loadA_extb rfl rfl rfl rfl ⟨by assumption, (by first | exact id | assumption)⟩ (by rfl), ?_⟩ | refine ⟨_, q_load_ext0 rfl rfl rfl rfl ⟨by assumption, (by first | exact id | assumption)⟩ (by rfl), ?_⟩)
      (refine ja_take 6 rfl (by kernel_rfl) rfl rfl rfl (by repeat (first | exact LSub.nil | refine LSub.cons (by repeat (first | exact Rem.here | apply Rem.there)) ?_)) ?_; first | refine ⟨_, q_move rfl rfl, ?_⟩ | refine ⟨_, q_assign rfl rfl, ?_⟩ | refine ⟨_, q_field_own rfl rfl rfl rfl rfl, ?_⟩ | refine ⟨_, q_extract rfl rfl rfl, ?_⟩ | refine ⟨_, q_add rfl rfl rfl (by omega), ?_⟩ | refine ⟨_, q_sub rfl rfl rfl (by omega), ?_⟩ | refine ⟨_, q_mul rfl rfl rfl (by omega), ?_⟩ | refine ⟨_, q_lss rfl rfl rfl, ?_⟩ | refine ⟨_, q_leq rfl rfl rfl, ?_⟩ | refine ⟨_, q_gtr rfl rfl rfl, ?_⟩ | refine ⟨_, q_geq rfl rfl rfl, ?_⟩ | refine ⟨_, q_eql rfl rfl rfl, ?_⟩ | refine ⟨_, q_neq rfl rfl rfl, ?_⟩ | refine ⟨_, q_pick_t rfl rfl rfl, ?_⟩ | refine ⟨_, q_pick_f rfl rfl rfl, ?_⟩ | refine ⟨_, q_not rfl rfl, ?_⟩ | refine ⟨_, q_index_nat rfl rfl rfl rfl rfl (by omega), ?_⟩ | refine ⟨_, q_index_slice rfl rfl rfl rfl rfl (by omega), ?_⟩ | refine ⟨_, q_index_arr rfl rfl rfl rfl rfl (by omega), ?_⟩ | refine ⟨_, q_index_arr_ext rfl rfl rfl rfl rfl (by omega), ?_⟩ | refine ⟨_, q_len_slice rfl rfl rfl rfl, ?_⟩ | refine ⟨_, q_makeFunc rfl rfl, ?_⟩ | refine ⟨_, q_build_struct rfl rfl rfl rfl rfl, ?_⟩ | refine ⟨_, q_build_arr rfl rfl rfl rfl rfl, ?_⟩ | refine ⟨_, q_nilCheck rfl rfl, ?_⟩ | refine ⟨_, q_field_ext rfl rfl rfl rfl rfl, ?_⟩ | refine ⟨_, q_quo rfl rfl rfl (by omega), ?_⟩ | refine ⟨_, q_rem rfl rfl rfl (by omega), ?_⟩ | refine ⟨_, q_quot rfl rfl rfl (by omega), ?_⟩ | refine ⟨_, q_remt rfl rfl rfl (by omega), ?_⟩ | refine ⟨_, q_addu8 rfl rfl rfl (by omega), ?_⟩ | refine ⟨_, q_quou8 rfl rfl rfl (by omega), ?_⟩ | refine ⟨_, q_shr1 rfl rfl rfl, ?_⟩ | refine ⟨_, q_shr rfl rfl rfl ⟨by omega, by decide⟩, ?_⟩ | refine ⟨_, q_shr rfl rfl rfl ⟨by omega, by show Int.toNat _ ≤ (8:Nat); omega⟩, ?_⟩ | refine ⟨_, q_and1 rfl rfl rfl (by first | assumption | omega), ?_⟩ | refine ⟨_, q_conv rfl rfl rfl rfl rfl rfl (by first | rfl | (exact i64_wrap (by omega) (by omega)) | (exact u8_wrap (by omega) (by omega)) | (exact u64_wrap (by omega) (by omega)) | (exact u16_wrap (by omega) (by omega))), ?_⟩ | refine ⟨_, q_load_own rfl rfl rfl rfl (by (repeat (first | exact InL.here | apply InL.there))) (by first | rfl | assumption), ?_⟩ | refine ⟨_, q_loadA_own rfl rfl rfl rfl (by (repeat (first | exact InL.here | apply InL.there))) (by rfl), ?_⟩ | refine ⟨_, q_loadA_ext rfl rfl rfl rfl ⟨by assumption, (by first | exact id | assumption)⟩ (by rfl), ?_⟩ | refine ⟨_, q_load_ext rfl rfl rfl rfl ⟨by assumption, (by first | exact id | assumption)⟩ (by first | rfl | assumption), ?_⟩ | refine ⟨_, q_load_extb rfl rfl rfl rfl ⟨by assumption, (by first | exact id | assumption)⟩ (by rfl), ?_⟩ | refine ⟨_, q_loadA_extb rfl rfl rfl rfl ⟨by assumption, (by first | exact id | assumption)⟩ (by rfl), ?_⟩ | refine ⟨_, q_load_ext0 rfl rfl rfl rfl ⟨by assumption, (by first | exact id | assumption)⟩ (by rfl), ?_⟩)
      (refine ja_take 7 rfl (by kernel_rfl) rfl rfl rfl (by repeat (first | exact LSub.nil | refine LSub.cons (by repeat (first | exact Rem.here | apply Rem.there)) ?_)) ?_; first | refine ⟨_, q_move rfl rfl, ?_⟩ | refine ⟨_, q_assign rfl rfl, ?_⟩ | refine ⟨_, q_field_own rfl rfl rfl rfl rfl, ?_⟩ | refine ⟨_, q_extract rfl rfl rfl, ?_⟩ | refine ⟨_, q_add rfl rfl rfl (by omega), ?_⟩ | refine ⟨_, q_sub rfl rfl rfl (by omega), ?_⟩ | refine ⟨_, q_mul rfl rfl rfl (by omega), ?_⟩ | refine ⟨_, q_lss rfl rfl rfl, ?_⟩ | refine ⟨_, q_leq rfl rfl rfl, ?_⟩ | refine ⟨_, q_gtr rfl rfl rfl, ?_⟩ | refine ⟨_, q_geq rfl rfl rfl, ?_⟩ | refine ⟨_, q_eql rfl rfl rfl, ?_⟩ | refine ⟨_, q_neq rfl rfl rfl, ?_⟩ | refine ⟨_, q_pick_t rfl rfl rfl, ?_⟩ | refine ⟨_, q_pick_f rfl rfl rfl, ?_⟩ | refine ⟨_, q_not rfl rfl, ?_⟩ | refine ⟨_, q_index_nat rfl rfl rfl rfl rfl (by omega), ?_⟩ | refine ⟨_, q_index_slice rfl rfl rfl rfl rfl (by omega), ?_⟩ | refine ⟨_, q_index_arr rfl rfl rfl rfl rfl (by omega), ?_⟩ | refine ⟨_, q_index_arr_ext rfl rfl rfl rfl rfl (by omega), ?_⟩ | refine ⟨_, q_len_slice rfl rfl rfl rfl, ?_⟩ | refine ⟨_, q_makeFunc rfl rfl, ?_⟩ | refine ⟨_, q_build_struct rfl rfl rfl rfl rfl, ?_⟩ | refine ⟨_, q_build_arr rfl rfl rfl rfl rfl, ?_⟩ | refine ⟨_, q_nilCheck rfl rfl, ?_⟩ | refine ⟨_, q_field_ext rfl rfl rfl rfl rfl, ?_⟩ | refine ⟨_, q_quo rfl rfl rfl (by omega), ?_⟩ | refine ⟨_, q_rem rfl rfl rfl (by omega), ?_⟩ | refine ⟨_, q_quot rfl rfl rfl (by omega), ?_⟩ | refine ⟨_, q_remt rfl rfl rfl (by omega), ?_⟩ | refine ⟨_, q_addu8 rfl rfl rfl (by omega), ?_⟩ | refine ⟨_, q_quou8 rfl rfl rfl (by omega), ?_⟩ | refine ⟨_, q_shr1 rfl rfl rfl, ?_⟩ | refine ⟨_, q_shr rfl rfl rfl ⟨by omega, by decide⟩, ?_⟩ | refine ⟨_, q_shr rfl rfl rfl ⟨by omega, by show Int.toNat _ ≤ (8:Nat); omega⟩, ?_⟩ | refine ⟨_, q_and1 rfl rfl rfl (by first | assumption | omega), ?_⟩ | refine ⟨_, q_conv rfl rfl rfl rfl rfl rfl (by first | rfl | (exact i64_wrap (by omega) (by omega)) | (exact u8_wrap (by omega) (by omega)) | (exact u64_wrap (by omega) (by omega)) | (exact u16_wrap (by omega) (by omega))), ?_⟩ | refine ⟨_, q_load_own rfl rfl rfl rfl (by (repeat (first | exact InL.here | apply InL.there))) (by first | rfl | assumption), ?_⟩ | refine ⟨_, q_loadA_own rfl rfl rfl rfl (by (repeat (first | exact InL.here | apply InL.there))) (by rfl), ?_⟩ | refine ⟨_, q_loadA_ext rfl rfl rfl rfl ⟨by assumption, (by first | exact id | assumption)⟩ (by rfl), ?_⟩ | refine ⟨_, q_load_ext rfl rfl rfl rfl ⟨by assumption, (by first | exact id | assumption)⟩ (by first | rfl | assumption), ?_⟩ | refine ⟨_, q_load_extb rfl rfl rfl rfl ⟨by assumption, (by first | exact id | assumption)⟩ (by rfl), ?_⟩ | refine ⟨_, q_loadA_extb rfl rfl rfl rfl ⟨by assumption, (by first | exact id | assumption)⟩ (by rfl), ?_⟩ | refine ⟨_, q_load_ext0 rfl rfl rfl rfl ⟨by assumption, (by first | exact id | assumption)⟩ (by rfl), ?_⟩)
      (refine ja_take 8 rfl (by kernel_rfl) rfl rfl rfl (by repeat (first | exact LSub.nil | refine LSub.cons (by repeat (first | exact Rem.here | apply Rem.there)) ?_)) ?_; first | refine ⟨_, q_move rfl rfl, ?_⟩ | refine ⟨_, q_assign rfl rfl, ?_⟩ | refine ⟨_, q_field_own rfl rfl rfl rfl rfl, ?_⟩ | refine ⟨_, q_extract rfl rfl rfl, ?_⟩ | refine ⟨_, q_add rfl rfl rfl (by omega), ?_⟩ | refine ⟨_, q_sub rfl rfl rfl (by omega), ?_⟩ | refine ⟨_, q_mul rfl rfl rfl (by omega), ?_⟩ | refine ⟨_, q_lss rfl rfl rfl, ?_⟩ | refine ⟨_, q_leq rfl rfl rfl, ?_⟩ | refine ⟨_, q_gtr rfl rfl rfl, ?_⟩ | refine ⟨_, q_geq rfl rfl rfl, ?_⟩ | refine ⟨_, q_eql rfl rfl rfl, ?_⟩ | refine ⟨_, q_neq rfl rfl rfl, ?_⟩ | refine ⟨_, q_pick_t rfl rfl rfl, ?_⟩ | refine ⟨_, q_pick_f rfl rfl rfl, ?_⟩ | refine ⟨_, q_not rfl rfl, ?_⟩ | refine ⟨_, q_index_nat rfl rfl rfl rfl rfl (by omega), ?_⟩ | refine ⟨_, q_index_slice rfl rfl rfl rfl rfl (by omega), ?_⟩ | refine ⟨_, q_index_arr rfl rfl rfl rfl rfl (by omega), ?_⟩ | refine ⟨_, q_index_arr_ext rfl rfl rfl rfl rfl (by omega), ?_⟩ | refine ⟨_, q_len_slice rfl rfl rfl rfl, ?_⟩ | refine ⟨_, q_makeFunc rfl rfl, ?_⟩ | refine ⟨_, q_build_struct rfl rfl rfl rfl rfl, ?_⟩ | refine ⟨_, q_build_arr rfl rfl rfl rfl rfl, ?_⟩ | refine ⟨_, q_nilCheck rfl rfl, ?_⟩ | refine ⟨_, q_field_ext rfl rfl rfl rfl rfl, ?_⟩ | refine ⟨_, q_quo rfl rfl rfl (by omega), ?_⟩ | refine ⟨_, q_rem rfl rfl rfl (by omega), ?_⟩ | refine ⟨_, q_quot rfl rfl rfl (by omega), ?_⟩ | refine ⟨_, q_remt rfl rfl rfl (by omega), ?_⟩ | refine ⟨_, q_addu8 rfl rfl rfl (by omega), ?_⟩ | refine ⟨_, q_quou8 rfl rfl rfl (by omega), ?_⟩ | refine ⟨_, q_shr1 rfl rfl rfl, ?_⟩ | refine ⟨_, q_shr rfl rfl rfl ⟨by omega, by decide⟩, ?_⟩ | refine ⟨_, q_shr rfl rfl rfl ⟨by omega, by show Int.toNat _ ≤ (8:Nat); omega⟩, ?_⟩ | refine ⟨_, q_and1 rfl rfl rfl (by first | assumption | omega), ?_⟩ | refine ⟨_, q_conv rfl rfl rfl rfl rfl rfl (by first | rfl | (exact i64_wrap (by omega) (by omega)) | (exact u8_wrap (by omega) (by omega)) | (exact u64_wrap (by omega) (by omega)) | (exact u16_wrap (by omega) (by omega))), ?_⟩ | refine ⟨_, q_load_own rfl rfl rfl rfl (by (repeat (first | exact InL.here | apply InL.there))) (by first | rfl | assumption), ?_⟩ | refine ⟨_, q_loadA_own rfl rfl rfl rfl (by (repeat (first | exact InL.here | apply InL.there))) (by rfl), ?_⟩ | refine ⟨_, q_loadA_ext rfl rfl rfl rfl ⟨by assumption, (by first | exact id | assumption)⟩ (by rfl), ?_⟩ | refine ⟨_, q_load_ext rfl rfl rfl rfl ⟨by assumption, (by first | exact id | assumption)⟩ (by first | rfl | assumption), ?_⟩ | refine ⟨_, q_load_extb rfl rfl rfl rfl ⟨by assumption, (by first | exact id | assumption)⟩ (by rfl), ?_⟩ | refine ⟨_, q_loadA_extb rfl rfl rfl rfl ⟨by assumption, (by first | exact id | assumption)⟩ (by rfl), ?_⟩ | refine ⟨_, q_load_ext0 rfl rfl rfl rfl ⟨by assumption, (by first | exact id | assumption)⟩ (by rfl), ?_⟩)
      (refine ja_take 9 rfl (by kernel_rfl) rfl rfl rfl (by repeat (first | exact LSub.nil | refine LSub.cons (by repeat (first | exact Rem.here | apply Rem.there)) ?_)) ?_; first | refine ⟨_, q_move rfl rfl, ?_⟩ | refine ⟨_, q_assign rfl rfl, ?_⟩ | refine ⟨_, q_field_own rfl rfl rfl rfl rfl, ?_⟩ | refine ⟨_, q_extract rfl rfl rfl, ?_⟩ | refine ⟨_, q_add rfl rfl rfl (by omega), ?_⟩ | refine ⟨_, q_sub rfl rfl rfl (by omega), ?_⟩ | refine ⟨_, q_mul rfl rfl rfl (by omega), ?_⟩ | refine ⟨_, q_lss rfl rfl rfl, ?_⟩ | refine ⟨_, q_leq rfl rfl rfl, ?_⟩ | refine ⟨_, q_gtr rfl rfl rfl, ?_⟩ | refine ⟨_, q_geq rfl rfl rfl, ?_⟩ | refine ⟨_, q_eql rfl rfl rfl, ?_⟩ | refine ⟨_, q_neq rfl rfl rfl, ?_⟩ | refine ⟨_, q_pick_t rfl rfl rfl, ?_⟩ | refine ⟨_, q_pick_f rfl rfl rfl, ?_⟩ | refine ⟨_, q_not rfl rfl, ?_⟩ | refine ⟨_, q_index_nat rfl rfl rfl rfl rfl (by omega), ?_⟩ | refine ⟨_, q_index_slice rfl rfl rfl rfl rfl (by omega), ?_⟩ | refine ⟨_, q_index_arr rfl rfl rfl rfl rfl (by omega), ?_⟩ | refine ⟨_, q_index_arr_ext rfl rfl rfl rfl rfl (by omega), ?_⟩ | refine ⟨_, q_len_slice rfl rfl rfl rfl, ?_⟩ | refine ⟨_, q_makeFunc rfl rfl, ?_⟩ | refine ⟨_, q_build_struct rfl rfl rfl rfl rfl, ?_⟩ | refine ⟨_, q_build_arr rfl rfl rfl rfl rfl, ?_⟩ | refine ⟨_, q_nilCheck rfl rfl, ?_⟩ | refine ⟨_, q_field_ext rfl rfl rfl rfl rfl, ?_⟩ | refine ⟨_, q_quo rfl rfl rfl (by omega), ?_⟩ | refine ⟨_, q_rem rfl rfl rfl (by omega), ?_⟩ | refine ⟨_, q_quot rfl rfl rfl (by omega), ?_⟩ | refine ⟨_, q_remt rfl rfl rfl (by omega), ?_⟩ | refine ⟨_, q_addu8 rfl rfl rfl (by omega), ?_⟩ | refine ⟨_, q_quou8 rfl rfl rfl (by omega), ?_⟩ | refine ⟨_, q_shr1 rfl rfl rfl, ?_⟩ | refine ⟨_, q_shr rfl rfl rfl ⟨by omega, by decide⟩, ?_⟩ | refine ⟨_, q_shr rfl rfl rfl ⟨by omega, by show Int.toNat _ ≤ (8:Nat); omega⟩, ?_⟩ | refine ⟨_, q_and1 rfl rfl rfl (by first | assumption | omega), ?_⟩ | refine ⟨_, q_conv rfl rfl rfl rfl rfl rfl (by first | rfl | (exact i64_wrap (by omega) (by omega)) | (exact u8_wrap (by omega) (by omega)) | (exact u64_wrap (by omega) (by omega)) | (exact u16_wrap (by omega) (by omega))), ?_⟩ | refine ⟨_, q_load_own rfl rfl rfl rfl (by (repeat (first | exact InL.here | apply InL.there))) (by first | rfl | assumption), ?_⟩ | refine ⟨_, q_loadA_own rfl rfl rfl rfl (by (repeat (first | exact InL.here | apply InL.there))) (by rfl), ?_⟩ | refine ⟨_, q_loadA_ext rfl rfl rfl rfl ⟨by assumption, (by first | exact id | assumption)⟩ (by rfl), ?_⟩ | refine ⟨_, q_load_ext rfl rfl rfl rfl ⟨by assumption, (by first | exact id | assumption)⟩ (by first | rfl | assumption), ?_⟩ | refine ⟨_, q_load_extb rfl rfl rfl rfl ⟨by assumption, (by first | exact id | assumption)⟩ (by rfl), ?_⟩ | refine ⟨_, q_loadA_extb rfl rfl rfl rfl ⟨by assumption, (by first | exact id | assumption)⟩ (by rfl), ?_⟩ | refine ⟨_, q_load_ext0 rfl rfl rfl rfl ⟨by assumption, (by first | exact id | assumption)⟩ (by rfl), ?_⟩)
      (refine ja_take 10 rfl (by kernel_rfl) rfl rfl rfl (by repeat (first | exact LSub.nil | refine LSub.cons (by repeat (first | exact Rem.here | apply Rem.there)) ?_)) ?_; first | refine ⟨_, q_move rfl rfl, ?_⟩ | refine ⟨_, q_assign rfl rfl, ?_⟩ | refine ⟨_, q_field_own rfl rfl rfl rfl rfl, ?_⟩ | refine ⟨_, q_extract rfl rfl rfl, ?_⟩ | refine ⟨_, q_add rfl rfl rfl (by omega), ?_⟩ | refine ⟨_, q_sub rfl rfl rfl (by omega), ?_⟩ | refine ⟨_, q_mul rfl rfl rfl (by omega), ?_⟩ | refine ⟨_, q_lss rfl rfl rfl, ?_⟩ | refine ⟨_, q_leq rfl rfl rfl, ?_⟩ | refine ⟨_, q_gtr rfl rfl rfl, ?_⟩ | refine ⟨_, q_geq rfl rfl rfl, ?_⟩ | refine ⟨_, q_eql rfl rfl rfl, ?_⟩ | refine ⟨_, q_neq rfl rfl rfl, ?_⟩ | refine ⟨_, q_pick_t rfl rfl rfl, ?_⟩ | refine ⟨_, q_pick_f rfl rfl rfl, ?_⟩ | refine ⟨_, q_not rfl rfl, ?_⟩ | refine ⟨_, q_index_nat rfl rfl rfl rfl rfl (by omega), ?_⟩ | refine ⟨_, q_index_slice rfl rfl rfl rfl rfl (by omega), ?_⟩ | refine ⟨_, q_index_arr rfl rfl rfl rfl rfl (by omega), ?_⟩ | refine ⟨_, q_index_arr_ext rfl rfl rfl rfl rfl (by omega), ?_⟩ | refine ⟨_, q_len_slice rfl rfl rfl rfl, ?_⟩ | refine ⟨_, q_makeFunc rfl rfl, ?_⟩ | refine ⟨_, q_build_struct rfl rfl rfl rfl rfl, ?_⟩ | refine ⟨_, q_build_arr rfl rfl rfl rfl rfl, ?_⟩ | refine ⟨_, q_nilCheck rfl rfl, ?_⟩ | refine ⟨_, q_field_ext rfl rfl rfl rfl rfl, ?_⟩ | refine ⟨_, q_quo rfl rfl rfl (by omega), ?_⟩ | refine ⟨_, q_rem rfl rfl rfl (by omega), ?_⟩ | refine ⟨_, q_quot rfl rfl rfl (by omega), ?_⟩ | refine ⟨_, q_remt rfl rfl rfl (by omega), ?_⟩ | refine ⟨_, q_addu8 rfl rfl rfl (by omega), ?_⟩ | refine ⟨_, q_quou8 rfl rfl rfl (by omega), ?_⟩ | refine ⟨_, q_shr1 rfl rfl rfl, ?_⟩ | refine ⟨_, q_shr rfl rfl rfl ⟨by omega, by decide⟩, ?_⟩ | refine ⟨_, q_shr rfl rfl rfl ⟨by omega, by show Int.toNat _ ≤ (8:Nat); omega⟩, ?_⟩ | refine ⟨_, q_and1 rfl rfl rfl (by first | assumption | omega), ?_⟩ | refine ⟨_, q_conv rfl rfl rfl rfl rfl rfl (by first | rfl | (exact i64_wrap (by omega) (by omega)) | (exact u8_wrap (by omega) (by omega)) | (exact u64_wrap (by omega) (by omega)) | (exact u16_wrap (by omega) (by omega))), ?_⟩ | refine ⟨_, q_load_own rfl rfl rfl rfl (by (repeat (first | exact InL.here | apply InL.there))) (by first | rfl | assumption), ?_⟩ | refine ⟨_, q_loadA_own rfl rfl rfl rfl (by (repeat (first | exact InL.here | apply InL.there))) (by rfl), ?_⟩ | refine ⟨_, q_loadA_ext rfl rfl rfl rfl ⟨by assumption, (by first | exact id | assumption)⟩ (by rfl), ?_⟩ | refine ⟨_, q_load_ext rfl rfl rfl rfl ⟨by assumption, (by first | exact id | assumption)⟩ (by first | rfl | assumption), ?_⟩ | refine ⟨_, q_load_extb rfl rfl rfl rfl ⟨by assumption, (by first | exact id | assumption)⟩ (by rfl), ?_⟩ | refine ⟨_, q_loadA_extb rfl rfl rfl rfl ⟨by assumption, (by first | exact id | assumption)⟩ (by rfl), ?_⟩ | refine ⟨_, q_load_ext0 rfl rfl rfl rfl ⟨by assumption, (by first | exact id | assumption)⟩ (by rfl), ?_⟩)
      (refine ja_take 11 rfl (by kernel_rfl) rfl rfl rfl (by repeat (first | exact LSub.nil | refine LSub.cons (by repeat (first | exact Rem.here | apply Rem.there)) ?_)) ?_; first | refine ⟨_, q_move rfl rfl, ?_⟩ | refine ⟨_, q_assign rfl rfl, ?_⟩ | refine ⟨_, q_field_own rfl rfl rfl rfl rfl, ?_⟩ | refine ⟨_, q_extract rfl rfl rfl, ?_⟩ | refine ⟨_, q_add rfl rfl rfl (by omega), ?_⟩ | refine ⟨_, q_sub rfl rfl rfl (by omega), ?_⟩ | refine ⟨_, q_mul rfl rfl rfl (by omega), ?_⟩ | refine ⟨_, q_lss rfl rfl rfl, ?_⟩ | refine ⟨_, q_leq rfl rfl rfl, ?_⟩ | refine ⟨_, q_gtr rfl rfl rfl, ?_⟩ | refine ⟨_, q_geq rfl rfl rfl, ?_⟩ | refine ⟨_, q_eql rfl rfl rfl, ?_⟩ | refine ⟨_, q_neq rfl rfl rfl, ?_⟩ | refine ⟨_, q_pick_t rfl rfl rfl, ?_⟩ | refine ⟨_, q_pick_f rfl rfl rfl, ?_⟩ | refine ⟨_, q_not rfl rfl, ?_⟩ | refine ⟨_, q_index_nat rfl rfl rfl rfl rfl (by omega), ?_⟩ | refine ⟨_, q_index_slice rfl rfl rfl rfl rfl (by omega), ?_⟩ | refine ⟨_, q_index_arr rfl rfl rfl rfl rfl (by omega), ?_⟩ | refine ⟨_, q_index_arr_ext rfl rfl rfl rfl rfl (by omega), ?_⟩ | refine ⟨_, q_len_slice rfl rfl rfl rfl, ?_⟩ | refine ⟨_, q_makeFunc rfl rfl, ?_⟩ | refine ⟨_, q_build_struct rfl rfl rfl rfl rfl, ?_⟩ | refine ⟨_, q_build_arr rfl rfl rfl rfl rfl, ?_⟩ | refine ⟨_, q_nilCheck rfl rfl, ?_⟩ | refine ⟨_, q_field_ext rfl rfl rfl rfl rfl, ?_⟩ | refine ⟨_, q_quo rfl rfl rfl (by omega), ?_⟩ | refine ⟨_, q_rem rfl rfl rfl (by omega), ?_⟩ | refine ⟨_, q_quot rfl rfl rfl (by omega), ?_⟩ | refine ⟨_, q_remt rfl rfl rfl (by omega), ?_⟩ | refine ⟨_, q_addu8 rfl rfl rfl (by omega), ?_⟩ | refine ⟨_, q_quou8 rfl rfl rfl (by omega), ?_⟩ | refine ⟨_, q_shr1 rfl rfl rfl, ?_⟩ | refine ⟨_, q_shr rfl rfl rfl ⟨by omega, by decide⟩, ?_⟩ | refine ⟨_, q_shr rfl rfl rfl ⟨by omega, by show Int.toNat _ ≤ (8:Nat); omega⟩, ?_⟩ | refine ⟨_, q_and1 rfl rfl rfl (by first | assumption | omega), ?_⟩ | refine ⟨_, q_conv rfl rfl rfl rfl rfl rfl (by first | rfl | (exact i64_wrap (by omega) (by omega)) | (exact u8_wrap (by omega) (by omega)) | (exact u64_wrap (by omega) (by omega)) | (exact u16_wrap (by omega) (by omega))), ?_⟩ | refine ⟨_, q_load_own rfl rfl rfl rfl (by (repeat (first | exact InL.here | apply InL.there))) (by first | rfl | assumption), ?_⟩ | refine ⟨_, q_loadA_own rfl rfl rfl rfl (by (repeat (first | exact InL.here | apply InL.there))) (by rfl), ?_⟩ | refine ⟨_, q_loadA_ext rfl rfl rfl rfl ⟨by assumption, (by first | exact id | assumption)⟩ (by rfl), ?_⟩ | refine ⟨_, q_load_ext rfl rfl rfl rfl ⟨by assumption, (by first | exact id | assumption)⟩ (by first | rfl | assumption), ?_⟩ | refine ⟨_, q_load_extb rfl rfl rfl rfl ⟨by assumption, (by first | exact id | assumption)⟩ (by rfl), ?_⟩ | refine ⟨_, q_loadA_extb rfl rfl rfl rfl ⟨by assumption, (by first | exact id | assumption)⟩ (by rfl), ?_⟩ | refine ⟨_, q_load_ext0 rfl rfl rfl rfl ⟨by assumption, (by first | exact id | assumption)⟩ (by rfl), ?_⟩)
      (refine ja_all [1, 12] (by kernel_rfl) rfl ?_ rfl; intro i hi; simp only [List.mem_cons, List.mem_nil_iff, or_false] at hi; rcases hi with rfl | rfl <;> refine ⟨_, rfl, rfl, ?_⟩)
      · repeat' (first
         | (refine gJ ?_
            first
            | refine jmv rfl rfl rfl rfl rfl ?_
            | (refine gload rfl rfl ?_
               refine j_qe rfl rfl rfl ?_
               first
               | refine ⟨_, q_load_own rfl rfl rfl rfl (by (repeat (first | exact InL.here | apply InL.there))) (by first | rfl | assumption), ?_⟩
               | refine ⟨_, q_loadA_own rfl rfl rfl rfl (by (repeat (first | exact InL.here | apply InL.there))) (by rfl), ?_⟩
               | refine ⟨_, q_loadA_ext rfl rfl rfl rfl ⟨by assumption, (by first | exact id | assumption)⟩ (by rfl), ?_⟩
               | refine ⟨_, q_load_ext rfl rfl rfl rfl ⟨by assumption, (by first | exact id | assumption)⟩ (by first | rfl | assumption), ?_⟩
               | refine ⟨_, q_load_extb rfl rfl rfl rfl ⟨by assumption, (by first | exact id | assumption)⟩ (by rfl), ?_⟩
               | refine ⟨_, q_loadA_extb rfl rfl rfl rfl ⟨by assumption, (by first | exact id | assumption)⟩ (by rfl), ?_⟩
               | refine ⟨_, q_load_ext0 rfl rfl rfl rfl ⟨by assumption, (by first | exact id | assumption)⟩ (by rfl), ?_⟩)
            | refine jfield rfl rfl rfl rfl rfl rfl rfl rfl ?_
            | refine jcmp rfl rfl rfl rfl rfl rfl rfl ?_
            | refine jar rfl rfl rfl rfl rfl rfl rfl (by omega) ?_
            | refine jextract rfl rfl rfl rfl rfl rfl ?_
            | refine j_store rfl rfl rfl rfl rfl rfl rfl rfl (by (repeat (first | exact Upd.here | apply Upd.there))) (by rfl) ?_
            | (refine j_alloc rfl rfl rfl rfl rfl ?_; intro b)
            | (refine j_box rfl rfl rfl rfl rfl ?_; intro b)
            | (refine j_qe rfl rfl rfl ?_
               first
               | refine ⟨_, q_pick_t rfl rfl rfl, ?_⟩
               | refine ⟨_, q_pick_f rfl rfl rfl, ?_⟩
               | refine ⟨_, q_not rfl rfl, ?_⟩
               | refine ⟨_, q_index_nat rfl rfl rfl rfl rfl (by omega), ?_⟩
               | refine ⟨_, q_index_slice rfl rfl rfl rfl rfl (by omega), ?_⟩
               | refine ⟨_, q_index_arr rfl rfl rfl rfl rfl (by omega), ?_⟩
               | refine ⟨_, q_index_arr_ext rfl rfl rfl rfl rfl (by omega), ?_⟩
               | refine ⟨_, q_len_slice rfl rfl rfl rfl, ?_⟩
               | refine ⟨_, q_makeFunc rfl rfl, ?_⟩
               | refine ⟨_, q_build_struct rfl rfl rfl rfl rfl, ?_⟩
               | refine ⟨_, q_build_arr rfl rfl rfl rfl rfl, ?_⟩
               | refine ⟨_, q_nilCheck rfl rfl, ?_⟩
               | refine ⟨_, q_field_ext rfl rfl rfl rfl rfl, ?_⟩
               | refine ⟨_, q_quo rfl rfl rfl (by omega), ?_⟩
               | refine ⟨_, q_rem rfl rfl rfl (by omega), ?_⟩
               | refine ⟨_, q_quot rfl rfl rfl (by omega), ?_⟩
               | refine ⟨_, q_remt rfl rfl rfl (by omega), ?_⟩
               | refine ⟨_, q_addu8 rfl rfl rfl (by omega), ?_⟩
               | refine ⟨_, q_quou8 rfl rfl rfl (by omega), ?_⟩
               | refine ⟨_, q_shr1 rfl rfl rfl, ?_⟩
               | refine ⟨_, q_shr rfl rfl rfl ⟨by omega, by decide⟩, ?_⟩
               | refine ⟨_, q_shr rfl rfl rfl ⟨by omega, by show Int.toNat _ ≤ (8:Nat); omega⟩, ?_⟩
               | refine ⟨_, q_and1 rfl rfl rfl (by first | assumption | omega), ?_⟩
               | refine ⟨_, q_conv rfl rfl rfl rfl rfl rfl (by first | rfl | (exact i64_wrap (by omega) (by omega)) | (exact u8_wrap (by omega) (by omega)) | (exact u64_wrap (by omega) (by omega)) | (exact u16_wrap (by omega) (by omega))), ?_⟩)
            | refine j_guard_undef rfl rfl rfl rfl rfl ?_
            | (refine j_guard rfl rfl rfl rfl rfl ?_ ?_ <;> intro hc <;> (first | (exact absurd hc (by decide)) | ((try simp only [decide_eq_true_eq, decide_eq_false_iff_not, Bool.not_eq_true', Bool.not_eq_false', Bool.not_true, Bool.not_false, ne_eq, Decidable.not_not] at hc) <;> first | (exfalso; omega) | (exact absurd trivial hc) | skip)))
            | (refine j_buildSlice rfl rfl rfl rfl rfl rfl rfl rfl rfl rfl rfl rfl ?_; intro b)
            | (refine j_append rfl rfl rfl rfl rfl rfl rfl rfl rfl rfl rfl (by (repeat (first | exact InL.here | apply InL.there))) (by (repeat (first | exact InL.here | apply InL.there))) (by rfl) (by rfl) (by omega) (fun _ => by (repeat (first | exact Upd.here | apply Upd.there))) ?_; intro v))
         | (refine gSC ?_
            first
            | refine sc_seq ?_
            | refine sc_region ?_
            | (refine sc_cond rfl ?_ ?_ <;> intro hc <;> (first | (exact absurd hc (by decide)) | ((try simp only [decide_eq_true_eq, decide_eq_false_iff_not, Bool.not_eq_true', Bool.not_eq_false', Bool.not_true, Bool.not_false, ne_eq, Decidable.not_not] at hc) <;> first | (exfalso; omega) | (exact absurd trivial hc) | skip)))
            | refine sc_block ?_
            | refine sc_ret ?_
            | refine sc_exit ?_
            | refine sc_skip ?_
            | refine sc_draw rfl mixed (by kernel_rfl) ?_)
         | (refine gSQ ?_
            first
            | refine sq_seq ?_
            | refine sq_blk ?_
            | refine sq_seq_ret ?_
            | refine sq_blk_ret ?_
            | refine sq_loop_ret ?_
            | refine sq_seq_exit ?_
            | refine sq_blk_hit ?_
            | refine sq_blk_miss rfl ?_
            | refine sq_loop_exit ?_
            | refine sq_ende (.inl rfl) rfl rfl ⟨_, (RVs.cons (RV.tmp rfl) (RVs.nil)), ?_⟩
            | refine sq_ende (.inr rfl) rfl rfl ⟨_, (RVs.cons (RV.tmp rfl) (RVs.nil)), ?_⟩)
         | refine j_nil ?_
         )
        refine sq_next (by repeat (first | exact LSub.nil | refine LSub.cons (by repeat (first | exact Rem.here | apply Rem.there)) ?_)) ?_
        (refine ja_all [12] (by kernel_rfl) rfl ?_ rfl; intro i hi; simp only [List.mem_cons, List.mem_nil_iff, or_false] at hi; subst hi; refine ⟨_, rfl, rfl, ?_⟩)
        repeat' (first
         | (refine gJ ?_
            first
            | refine jmv rfl rfl rfl rfl rfl ?_
            | (refine gload rfl rfl ?_
               refine j_qe rfl rfl rfl ?_
               first
               | refine ⟨_, q_load_own rfl rfl rfl rfl (by (repeat (first | exact InL.here | apply InL.there))) (by first | rfl | assumption), ?_⟩
               | refine ⟨_, q_loadA_own rfl rfl rfl rfl (by (repeat (first | exact InL.here | apply InL.there))) (by rfl), ?_⟩
               | refine ⟨_, q_loadA_ext rfl rfl rfl rfl ⟨by assumption, (by first | exact id | assumption)⟩ (by rfl), ?_⟩
               | refine ⟨_, q_load_ext rfl rfl rfl rfl ⟨by assumption, (by first | exact id | assumption)⟩ (by first | rfl | assumption), ?_⟩
               | refine ⟨_, q_load_extb rfl rfl rfl rfl ⟨by assumption, (by first | exact id | assumption)⟩ (by rfl), ?_⟩
               | refine ⟨_, q_loadA_extb rfl rfl rfl rfl ⟨by assumption, (by first | exact id | assumption)⟩ (by rfl), ?_⟩
               | refine ⟨_, q_load_ext0 rfl rfl rfl rfl ⟨by assumption, (by first | exact id | assumption)⟩ (by rfl), ?_⟩)
            | refine jfield rfl rfl rfl rfl rfl rfl rfl rfl ?_
            | refine jcmp rfl rfl rfl rfl rfl rfl rfl ?_
            | refine jar rfl rfl rfl rfl rfl rfl rfl (by omega) ?_
            | refine jextract rfl rfl rfl rfl rfl rfl ?_
            | refine j_store rfl rfl rfl rfl rfl rfl rfl rfl (by (repeat (first | exact Upd.here | apply Upd.there))) (by rfl) ?_
            | (refine j_alloc rfl rfl rfl rfl rfl ?_; intro b)
            | (refine j_box rfl rfl rfl rfl rfl ?_; intro b)
            | (refine j_qe rfl rfl rfl ?_
               first
               | refine ⟨_, q_pick_t rfl rfl rfl, ?_⟩
               | refine ⟨_, q_pick_f rfl rfl rfl, ?_⟩
               | refine ⟨_, q_not rfl rfl, ?_⟩
               | refine ⟨_, q_index_nat rfl rfl rfl rfl rfl (by omega), ?_⟩
               | refine ⟨_, q_index_slice rfl rfl rfl rfl rfl (by omega), ?_⟩
               | refine ⟨_, q_index_arr rfl rfl rfl rfl rfl (by omega), ?_⟩
               | refine ⟨_, q_index_arr_ext rfl rfl rfl rfl rfl (by omega), ?_⟩
               | refine ⟨_, q_len_slice rfl rfl rfl rfl, ?_⟩
               | refine ⟨_, q_makeFunc rfl rfl, ?_⟩
               | refine ⟨_, q_build_struct rfl rfl rfl rfl rfl, ?_⟩
               | refine ⟨_, q_build_arr rfl rfl rfl rfl rfl, ?_⟩
               | refine ⟨_, q_nilCheck rfl rfl, ?_⟩
               | refine ⟨_, q_field_ext rfl rfl rfl rfl rfl, ?_⟩
               | refine ⟨_, q_quo rfl rfl rfl (by omega), ?_⟩
               | refine ⟨_, q_rem rfl rfl rfl (by omega), ?_⟩
               | refine ⟨_, q_quot rfl rfl rfl (by omega), ?_⟩
               | refine ⟨_, q_remt rfl rfl rfl (by omega), ?_⟩
               | refine ⟨_, q_addu8 rfl rfl rfl (by omega), ?_⟩
               | refine ⟨_, q_quou8 rfl rfl rfl (by omega), ?_⟩
               | refine ⟨_, q_shr1 rfl rfl rfl, ?_⟩
               | refine ⟨_, q_shr rfl rfl rfl ⟨by omega, by decide⟩, ?_⟩
               | refine ⟨_, q_shr rfl rfl rfl ⟨by omega, by show Int.toNat _ ≤ (8:Nat); omega⟩, ?_⟩
               | refine ⟨_, q_and1 rfl rfl rfl (by first | assumption | omega), ?_⟩
               | refine ⟨_, q_conv rfl rfl rfl rfl rfl rfl (by first | rfl | (exact i64_wrap (by omega) (by omega)) | (exact u8_wrap (by omega) (by omega)) | (exact u64_wrap (by omega) (by omega)) | (exact u16_wrap (by omega) (by omega))), ?_⟩)
            | refine j_guard_undef rfl rfl rfl rfl rfl ?_
            | (refine j_guard rfl rfl rfl rfl rfl ?_ ?_ <;> intro hc <;> (first | (exact absurd hc (by decide)) | ((try simp only [decide_eq_true_eq, decide_eq_false_iff_not, Bool.not_eq_true', Bool.not_eq_false', Bool.not_true, Bool.not_false, ne_eq, Decidable.not_not] at hc) <;> first | (exfalso; omega) | (exact absurd trivial hc) | skip)))
            | (refine j_buildSlice rfl rfl rfl rfl rfl rfl rfl rfl rfl rfl rfl rfl ?_; intro b)
            | (refine j_append rfl rfl rfl rfl rfl rfl rfl rfl rfl rfl rfl (by (repeat (first | exact InL.here | apply InL.there))) (by (repeat (first | exact InL.here | apply InL.there))) (by rfl) (by rfl) (by omega) (fun _ => by (repeat (first | exact Upd.here | apply Upd.there))) ?_; intro v))
         | (refine gSC ?_
            first
            | refine sc_seq ?_
            | refine sc_region ?_
            | (refine sc_cond rfl ?_ ?_ <;> intro hc <;> (first | (exact absurd hc (by decide)) | ((try simp only [decide_eq_true_eq, decide_eq_false_iff_not, Bool.not_eq_true', Bool.not_eq_false', Bool.not_true, Bool.not_false, ne_eq, Decidable.not_not] at hc) <;> first | (exfalso; omega) | (exact absurd trivial hc) | skip)))
            | refine sc_block ?_
            | refine sc_ret ?_
            | refine sc_exit ?_
            | refine sc_skip ?_
            | refine sc_draw rfl mixed (by kernel_rfl) ?_)
         | (refine gSQ ?_
            first
            | refine sq_seq ?_
            | refine sq_blk ?_
            | refine sq_seq_ret ?_
            | refine sq_blk_ret ?_
            | refine sq_loop_ret ?_
            | refine sq_seq_exit ?_
            | refine sq_blk_hit ?_
            | refine sq_blk_miss rfl ?_
            | refine sq_loop_exit ?_
            | refine sq_ende (.inl rfl) rfl rfl ⟨_, (RVs.cons (RV.tmp rfl) (RVs.nil)), ?_⟩
            | refine sq_ende (.inr rfl) rfl rfl ⟨_, (RVs.cons (RV.tmp rfl) (RVs.nil)), ?_⟩)
         | refine j_nil ?_
         )
        refine sq_next (by repeat (first | exact LSub.nil | refine LSub.cons (by repeat (first | exact Rem.here | apply Rem.there)) ?_)) ?_
        (refine ja_all [13] (by kernel_rfl) rfl ?_ rfl; intro i hi; simp only [List.mem_cons, List.mem_nil_iff, or_false] at hi; subst hi; refine ⟨_, rfl, rfl, ?_⟩)
        (refine j_append rfl rfl rfl rfl rfl rfl rfl rfl rfl rfl rfl (by (repeat (first | exact InL.here | apply InL.there))) (by (repeat (first | exact InL.here | apply InL.there))) (by rfl) (by rfl) (by omega) (fun _ => by (repeat (first | exact Upd.here | apply Upd.there))) ?_; intro u2)
        refine j_own (by (repeat (first | exact InL.here | apply InL.there))) ?_
        rintro A3 c3 rfl
        (refine j_nil ?_; refine sq_next (by repeat (first | exact LSub.nil | refine LSub.cons (by repeat (first | exact Rem.here | apply Rem.there)) ?_)) ?_)
        (refine ja_take 14 rfl (by kernel_rfl) rfl rfl rfl (by repeat (first | exact LSub.nil | refine LSub.cons (by repeat (first | exact Rem.here | apply Rem.there)) ?_)) ?_; first | refine ⟨_, q_move rfl rfl, ?_⟩ | refine ⟨_, q_assign rfl rfl, ?_⟩ | refine ⟨_, q_field_own rfl rfl rfl rfl rfl, ?_⟩ | refine ⟨_, q_extract rfl rfl rfl, ?_⟩ | refine ⟨_, q_add rfl rfl rfl (by omega), ?_⟩ | refine ⟨_, q_sub rfl rfl rfl (by omega), ?_⟩ | refine ⟨_, q_mul rfl rfl rfl (by omega), ?_⟩ | refine ⟨_, q_lss rfl rfl rfl, ?_⟩ | refine ⟨_, q_leq rfl rfl rfl, ?_⟩ | refine ⟨_, q_gtr rfl rfl rfl, ?_⟩ | refine ⟨_, q_geq rfl rfl rfl, ?_⟩ | refine ⟨_, q_eql rfl rfl rfl, ?_⟩ | refine ⟨_, q_neq rfl rfl rfl, ?_⟩ | refine ⟨_, q_pick_t rfl rfl rfl, ?_⟩ | refine ⟨_, q_pick_f rfl rfl rfl, ?_⟩ | refine ⟨_, q_not rfl rfl, ?_⟩ | refine ⟨_, q_index_nat rfl rfl rfl rfl rfl (by omega), ?_⟩ | refine ⟨_, q_index_slice rfl rfl rfl rfl rfl (by omega), ?_⟩ | refine ⟨_, q_index_arr rfl rfl rfl rfl rfl (by omega), ?_⟩ | refine ⟨_, q_index_arr_ext rfl rfl rfl rfl rfl (by omega), ?_⟩ | refine ⟨_, q_len_slice rfl rfl rfl rfl, ?_⟩ | refine ⟨_, q_makeFunc rfl rfl, ?_⟩ | refine ⟨_, q_build_struct rfl rfl rfl rfl rfl, ?_⟩ | refine ⟨_, q_build_arr rfl rfl rfl rfl rfl, ?_⟩ | refine ⟨_, q_nilCheck rfl rfl, ?_⟩ | refine ⟨_, q_field_ext rfl rfl rfl rfl rfl, ?_⟩ | refine ⟨_, q_quo rfl rfl rfl (by omega), ?_⟩ | refine ⟨_, q_rem rfl rfl rfl (by omega), ?_⟩ | refine ⟨_, q_quot rfl rfl rfl (by omega), ?_⟩ | refine ⟨_, q_remt rfl rfl rfl (by omega), ?_⟩ | refine ⟨_, q_addu8 rfl rfl rfl (by omega), ?_⟩ | refine ⟨_, q_quou8 rfl rfl rfl (by omega), ?_⟩ | refine ⟨_, q_shr1 rfl rfl rfl, ?_⟩ | refine ⟨_, q_shr rfl rfl rfl ⟨by omega, by decide⟩, ?_⟩ | refine ⟨_, q_shr rfl rfl rfl ⟨by omega, by show Int.toNat _ ≤ (8:Nat); omega⟩, ?_⟩ | refine ⟨_, q_and1 rfl rfl rfl (by first | assumption | omega), ?_⟩ | refine ⟨_, q_conv rfl rfl rfl rfl rfl rfl (by first | rfl | (exact i64_wrap (by omega) (by omega)) | (exact u8_wrap (by omega) (by omega)) | (exact u64_wrap (by omega) (by omega)) | (exact u16_wrap (by omega) (by omega))), ?_⟩ | refine ⟨_, q_load_own rfl rfl rfl rfl (by (repeat (first | exact InL.here | apply InL.there))) (by first | rfl | assumption), ?_⟩ | refine ⟨_, q_loadA_own rfl rfl rfl rfl (by (repeat (first | exact InL.here | apply InL.there))) (by rfl), ?_⟩ | refine ⟨_, q_loadA_ext rfl rfl rfl rfl ⟨by assumption, (by first | exact id | assumption)⟩ (by rfl), ?_⟩ | refine ⟨_, q_load_ext rfl rfl rfl rfl ⟨by assumption, (by first | exact id | assumption)⟩ (by first | rfl | assumption), ?_⟩ | refine ⟨_, q_load_extb rfl rfl rfl rfl ⟨by assumption, (by first | exact id | assumption)⟩ (by rfl), ?_⟩ | refine ⟨_, q_loadA_extb rfl rfl rfl rfl ⟨by assumption, (by first | exact id | assumption)⟩ (by rfl), ?_⟩ | refine ⟨_, q_load_ext0 rfl rfl rfl rfl ⟨by assumption, (by first | exact id | assumption)⟩ (by rfl), ?_⟩)
        (refine ja_all [15] (by kernel_rfl) rfl ?_ rfl; intro i hi; simp only [List.mem_cons, List.mem_nil_iff, or_false] at hi; subst hi; refine ⟨_, rfl, rfl, ?_⟩)
        repeat' (first
         | (refine gJ ?_
            first
            | refine jmv rfl rfl rfl rfl rfl ?_
            | (refine gload rfl rfl ?_
               refine j_qe rfl rfl rfl ?_
               first
               | refine ⟨_, q_load_own rfl rfl rfl rfl (by (repeat (first | exact InL.here | apply InL.there))) (by first | rfl | assumption), ?_⟩
               | refine ⟨_, q_loadA_own rfl rfl rfl rfl (by (repeat (first | exact InL.here | apply InL.there))) (by rfl), ?_⟩
               | refine ⟨_, q_loadA_ext rfl rfl rfl rfl ⟨by assumption, (by first | exact id | assumption)⟩ (by rfl), ?_⟩
               | refine ⟨_, q_load_ext rfl rfl rfl rfl ⟨by assumption, (by first | exact id | assumption)⟩ (by first | rfl | assumption), ?_⟩
               | refine ⟨_, q_load_extb rfl rfl rfl rfl ⟨by assumption, (by first | exact id | assumption)⟩ (by rfl), ?_⟩
               | refine ⟨_, q_loadA_extb rfl rfl rfl rfl ⟨by assumption, (by first | exact id | assumption)⟩ (by rfl), ?_⟩
               | refine ⟨_, q_load_ext0 rfl rfl rfl rfl ⟨by assumption, (by first | exact id | assumption)⟩ (by rfl), ?_⟩)
            | refine jfield rfl rfl rfl rfl rfl rfl rfl rfl ?_
            | refine jcmp rfl rfl rfl rfl rfl rfl rfl ?_
            | refine jar rfl rfl rfl rfl rfl rfl rfl (by omega) ?_
            | refine jextract rfl rfl rfl rfl rfl rfl ?_
            | refine j_store rfl rfl rfl rfl rfl rfl rfl rfl (by (repeat (first | exact Upd.here | apply Upd.there))) (by rfl) ?_
            | (refine j_alloc rfl rfl rfl rfl rfl ?_; intro b)
            | (refine j_box rfl rfl rfl rfl rfl ?_; intro b)
            | (refine j_qe rfl rfl rfl ?_
               first
               | refine ⟨_, q_pick_t rfl rfl rfl, ?_⟩
               | refine ⟨_, q_pick_f rfl rfl rfl, ?_⟩
               | refine ⟨_, q_not rfl rfl, ?_⟩
               | refine ⟨_, q_index_nat rfl rfl rfl rfl rfl (by omega), ?_⟩
               | refine ⟨_, q_index_slice rfl rfl rfl rfl rfl (by omega), ?_⟩
               | refine ⟨_, q_index_arr rfl rfl rfl rfl rfl (by omega), ?_⟩
               | refine ⟨_, q_index_arr_ext rfl rfl rfl rfl rfl (by omega), ?_⟩
               | refine ⟨_, q_len_slice rfl rfl rfl rfl, ?_⟩
               | refine ⟨_, q_makeFunc rfl rfl, ?_⟩
               | refine ⟨_, q_build_struct rfl rfl rfl rfl rfl, ?_⟩
               | refine ⟨_, q_build_arr rfl rfl rfl rfl rfl, ?_⟩
               | refine ⟨_, q_nilCheck rfl rfl, ?_⟩
               | refine ⟨_, q_field_ext rfl rfl rfl rfl rfl, ?_⟩
               | refine ⟨_, q_quo rfl rfl rfl (by omega), ?_⟩
               | refine ⟨_, q_rem rfl rfl rfl (by omega), ?_⟩
               | refine ⟨_, q_quot rfl rfl rfl (by omega), ?_⟩
               | refine ⟨_, q_remt rfl rfl rfl (by omega), ?_⟩
               | refine ⟨_, q_addu8 rfl rfl rfl (by omega), ?_⟩
               | refine ⟨_, q_quou8 rfl rfl rfl (by omega), ?_⟩
               | refine ⟨_, q_shr1 rfl rfl rfl, ?_⟩
               | refine ⟨_, q_shr rfl rfl rfl ⟨by omega, by decide⟩, ?_⟩
               | refine ⟨_, q_shr rfl rfl rfl ⟨by omega, by show Int.toNat _ ≤ (8:Nat); omega⟩, ?_⟩
               | refine ⟨_, q_and1 rfl rfl rfl (by first | assumption | omega), ?_⟩
               | refine ⟨_, q_conv rfl rfl rfl rfl rfl rfl (by first | rfl | (exact i64_wrap (by omega) (by omega)) | (exact u8_wrap (by omega) (by omega)) | (exact u64_wrap (by omega) (by omega)) | (exact u16_wrap (by omega) (by omega))), ?_⟩)
            | refine j_guard_undef rfl rfl rfl rfl rfl ?_
            | (refine j_guard rfl rfl rfl rfl rfl ?_ ?_ <;> intro hc <;> (first | (exact absurd hc (by decide)) | ((try simp only [decide_eq_true_eq, decide_eq_false_iff_not, Bool.not_eq_true', Bool.not_eq_false', Bool.not_true, Bool.not_false, ne_eq, Decidable.not_not] at hc) <;> first | (exfalso; omega) | (exact absurd trivial hc) | skip)))
            | (refine j_buildSlice rfl rfl rfl rfl rfl rfl rfl rfl rfl rfl rfl rfl ?_; intro b)
            | (refine j_append rfl rfl rfl rfl rfl rfl rfl rfl rfl rfl rfl (by (repeat (first | exact InL.here | apply InL.there))) (by (repeat (first | exact InL.here | apply InL.there))) (by rfl) (by rfl) (by omega) (fun _ => by (repeat (first | exact Upd.here | apply Upd.there))) ?_; intro v))
         | (refine gSC ?_
            first
            | refine sc_seq ?_
            | refine sc_region ?_
            | (refine sc_cond rfl ?_ ?_ <;> intro hc <;> (first | (exact absurd hc (by decide)) | ((try simp only [decide_eq_true_eq, decide_eq_false_iff_not, Bool.not_eq_true', Bool.not_eq_false', Bool.not_true, Bool.not_false, ne_eq, Decidable.not_not] at hc) <;> first | (exfalso; omega) | (exact absurd trivial hc) | skip)))
            | refine sc_block ?_
            | refine sc_ret ?_
            | refine sc_exit ?_
            | refine sc_skip ?_
            | refine sc_draw rfl mixed (by kernel_rfl) ?_)
         | (refine gSQ ?_
            first
            | refine sq_seq ?_
            | refine sq_blk ?_
            | refine sq_seq_ret ?_
            | refine sq_blk_ret ?_
            | refine sq_loop_ret ?_
            | refine sq_seq_exit ?_
            | refine sq_blk_hit ?_
            | refine sq_blk_miss rfl ?_
            | refine sq_loop_exit ?_
            | refine sq_ende (.inl rfl) rfl rfl ⟨_, (RVs.cons (RV.tmp rfl) (RVs.nil)), ?_⟩
            | refine sq_ende (.inr rfl) rfl rfl ⟨_, (RVs.cons (RV.tmp rfl) (RVs.nil)), ?_⟩)
         | refine j_nil ?_
         )
        refine sq_next (by repeat (first | exact LSub.nil | refine LSub.cons (by repeat (first | exact Rem.here | apply Rem.there)) ?_)) ?_
        refine ja_done (by kernel_rfl) ?_
        repeat' (first
         | (refine gJ ?_
            first
            | refine jmv rfl rfl rfl rfl rfl ?_
            | (refine gload rfl rfl ?_
               refine j_qe rfl rfl rfl ?_
               first
               | refine ⟨_, q_load_own rfl rfl rfl rfl (by (repeat (first | exact InL.here | apply InL.there))) (by first | rfl | assumption), ?_⟩
               | refine ⟨_, q_loadA_own rfl rfl rfl rfl (by (repeat (first | exact InL.here | apply InL.there))) (by rfl), ?_⟩
               | refine ⟨_, q_loadA_ext rfl rfl rfl rfl ⟨by assumption, (by first | exact id | assumption)⟩ (by rfl), ?_⟩
               | refine ⟨_, q_load_ext rfl rfl rfl rfl ⟨by assumption, (by first | exact id | assumption)⟩ (by first | rfl | assumption), ?_⟩
               | refine ⟨_, q_load_extb rfl rfl rfl rfl ⟨by assumption, (by first | exact id | assumption)⟩ (by rfl), ?_⟩
               | refine ⟨_, q_loadA_extb rfl rfl rfl rfl ⟨by assumption, (by first | exact id | assumption)⟩ (by rfl), ?_⟩
               | refine ⟨_, q_load_ext0 rfl rfl rfl rfl ⟨by assumption, (by first | exact id | assumption)⟩ (by rfl), ?_⟩)
            | refine jfield rfl rfl rfl rfl rfl rfl rfl rfl ?_
            | refine jcmp rfl rfl rfl rfl rfl rfl rfl ?_
            | refine jar rfl rfl rfl rfl rfl rfl rfl (by omega) ?_
            | refine jextract rfl rfl rfl rfl rfl rfl ?_
            | refine j_store rfl rfl rfl rfl rfl rfl rfl rfl (by (repeat (first | exact Upd.here | apply Upd.there))) (by rfl) ?_
            | (refine j_alloc rfl rfl rfl rfl rfl ?_; intro b)
            | (refine j_box rfl rfl rfl rfl rfl ?_; intro b)
            | (refine j_qe rfl rfl rfl ?_
               first
               | refine ⟨_, q_pick_t rfl rfl rfl, ?_⟩
               | refine ⟨_, q_pick_f rfl rfl rfl, ?_⟩
               | refine ⟨_, q_not rfl rfl, ?_⟩
               | refine ⟨_, q_index_nat rfl rfl rfl rfl rfl (by omega), ?_⟩
               | refine ⟨_, q_index_slice rfl rfl rfl rfl rfl (by omega), ?_⟩
               | refine ⟨_, q_index_arr rfl rfl rfl rfl rfl (by omega), ?_⟩
               | refine ⟨_, q_index_arr_ext rfl rfl rfl rfl rfl (by omega), ?_⟩
               | refine ⟨_, q_len_slice rfl rfl rfl rfl, ?_⟩
               | refine ⟨_, q_makeFunc rfl rfl, ?_⟩
               | refine ⟨_, q_build_struct rfl rfl rfl rfl rfl, ?_⟩
               | refine ⟨_, q_build_arr rfl rfl rfl rfl rfl, ?_⟩
               | refine ⟨_, q_nilCheck rfl rfl, ?_⟩
               | refine ⟨_, q_field_ext rfl rfl rfl rfl rfl, ?_⟩
               | refine ⟨_, q_quo rfl rfl rfl (by omega), ?_⟩
               | refine ⟨_, q_rem rfl rfl rfl (by omega), ?_⟩
               | refine ⟨_, q_quot rfl rfl rfl (by omega), ?_⟩
               | refine ⟨_, q_remt rfl rfl rfl (by omega), ?_⟩
               | refine ⟨_, q_addu8 rfl rfl rfl (by omega), ?_⟩
               | refine ⟨_, q_quou8 rfl rfl rfl (by omega), ?_⟩
               | refine ⟨_, q_shr1 rfl rfl rfl, ?_⟩
               | refine ⟨_, q_shr rfl rfl rfl ⟨by omega, by decide⟩, ?_⟩
               | refine ⟨_, q_shr rfl rfl rfl ⟨by omega, by show Int.toNat _ ≤ (8:Nat); omega⟩, ?_⟩
               | refine ⟨_, q_and1 rfl rfl rfl (by first | assumption | omega), ?_⟩
               | refine ⟨_, q_conv rfl rfl rfl rfl rfl rfl (by first | rfl | (exact i64_wrap (by omega) (by omega)) | (exact u8_wrap (by omega) (by omega)) | (exact u64_wrap (by omega) (by omega)) | (exact u16_wrap (by omega) (by omega))), ?_⟩)
            | refine j_guard_undef rfl rfl rfl rfl rfl ?_
            | (refine j_guard rfl rfl rfl rfl rfl ?_ ?_ <;> intro hc <;> (first | (exact absurd hc (by decide)) | ((try simp only [decide_eq_true_eq, decide_eq_false_iff_not, Bool.not_eq_true', Bool.not_eq_false', Bool.not_true, Bool.not_false, ne_eq, Decidable.not_not] at hc) <;> first | (exfalso; omega) | (exact absurd trivial hc) | skip)))
            | (refine j_buildSlice rfl rfl rfl rfl rfl rfl rfl rfl rfl rfl rfl rfl ?_; intro b)
            | (refine j_append rfl rfl rfl rfl rfl rfl rfl rfl rfl rfl rfl (by (repeat (first | exact InL.here | apply InL.there))) (by (repeat (first | exact InL.here | apply InL.there))) (by rfl) (by rfl) (by omega) (fun _ => by (repeat (first | exact Upd.here | apply Upd.there))) ?_; intro v))
         | (refine gSC ?_
            first
            | refine sc_seq ?_
            | refine sc_region ?_
            | (refine sc_cond rfl ?_ ?_ <;> intro hc <;> (first | (exact absurd hc (by decide)) | ((try simp only [decide_eq_true_eq, decide_eq_false_iff_not, Bool.not_eq_true', Bool.not_eq_false', Bool.not_true, Bool.not_false, ne_eq, Decidable.not_not] at hc) <;> first | (exfalso; omega) | (exact absurd trivial hc) | skip)))
            | refine sc_block ?_
            | refine sc_ret ?_
            | refine sc_exit ?_
            | refine sc_skip ?_
            | refine sc_draw rfl mixed (by kernel_rfl) ?_)
         | (refine gSQ ?_
            first
            | refine sq_seq ?_
            | refine sq_blk ?_
            | refine sq_seq_ret ?_
            | refine sq_blk_ret ?_
            | refine sq_loop_ret ?_
            | refine sq_seq_exit ?_
            | refine sq_blk_hit ?_
            | refine sq_blk_miss rfl ?_
            | refine sq_loop_exit ?_
            | refine sq_ende (.inl rfl) rfl rfl ⟨_, (RVs.cons (RV.tmp rfl) (RVs.nil)), ?_⟩
            | refine sq_ende (.inr rfl) rfl rfl ⟨_, (RVs.cons (RV.tmp rfl) (RVs.nil)), ?_⟩)
         | refine j_nil ?_
         )
        refine sq_loop (j + 1, A3, c3) (by show j + 1 ≤ 6; omega) (by show 6 - (j + 1) < 6 - j; omega) (by repeat (first | exact FSub.nil | refine FSub.cons rfl ?_ | refine FSub.conse rfl (by congr 1; omega) ?_)) ?_
        dsimp only
        rw [rev_take (sixU 6) j x (by rw [show (sixU 6).length = 6 from rfl]; omega) hx, List.flatMap_append, List.flatMap_singleton]
        exact (by repeat (first | exact LSub.nil | refine LSub.cons (by repeat (first | exact Rem.here | apply Rem.there)) ?_))
      · repeat' (first
         | (refine gJ ?_
            first
            | refine jmv rfl rfl rfl rfl rfl ?_
            | (refine gload rfl rfl ?_
               refine j_qe rfl rfl rfl ?_
               first
               | refine ⟨_, q_load_own rfl rfl rfl rfl (by (repeat (first | exact InL.here | apply InL.there))) (by first | rfl | assumption), ?_⟩
               | refine ⟨_, q_loadA_own rfl rfl rfl rfl (by (repeat (first | exact InL.here | apply InL.there))) (by rfl), ?_⟩
               | refine ⟨_, q_loadA_ext rfl rfl rfl rfl ⟨by assumption, (by first | exact id | assumption)⟩ (by rfl), ?_⟩
               | refine ⟨_, q_load_ext rfl rfl rfl rfl ⟨by assumption, (by first | exact id | assumption)⟩ (by first | rfl | assumption), ?_⟩
               | refine ⟨_, q_load_extb rfl rfl rfl rfl ⟨by assumption, (by first | exact id | assumption)⟩ (by rfl), ?_⟩
               | refine ⟨_, q_loadA_extb rfl rfl rfl rfl ⟨by assumption, (by first | exact id | assumption)⟩ (by rfl), ?_⟩
               | refine ⟨_, q_load_ext0 rfl rfl rfl rfl ⟨by assumption, (by first | exact id | assumption)⟩ (by rfl), ?_⟩)
            | refine jfield rfl rfl rfl rfl rfl rfl rfl rfl ?_
            | refine jcmp rfl rfl rfl rfl rfl rfl rfl ?_
            | refine jar rfl rfl rfl rfl rfl rfl rfl (by omega) ?_
            | refine jextract rfl rfl rfl rfl rfl rfl ?_
            | refine j_store rfl rfl rfl rfl rfl rfl rfl rfl (by (repeat (first | exact Upd.here | apply Upd.there))) (by rfl) ?_
            | (refine j_alloc rfl rfl rfl rfl rfl ?_; intro b)
            | (refine j_box rfl rfl rfl rfl rfl ?_; intro b)
            | (refine j_qe rfl rfl rfl ?_
               first
               | refine ⟨_, q_pick_t rfl rfl rfl, ?_⟩
               | refine ⟨_, q_pick_f rfl rfl rfl, ?_⟩
               | refine ⟨_, q_not rfl rfl, ?_⟩
               | refine ⟨_, q_index_nat rfl rfl rfl rfl rfl (by omega), ?_⟩
               | refine ⟨_, q_index_slice rfl rfl rfl rfl rfl (by omega), ?_⟩
               | refine ⟨_, q_index_arr rfl rfl rfl rfl rfl (by omega), ?_⟩
               | refine ⟨_, q_index_arr_ext rfl rfl rfl rfl rfl (by omega), ?_⟩
               | refine ⟨_, q_len_slice rfl rfl rfl rfl, ?_⟩
               | refine ⟨_, q_makeFunc rfl rfl, ?_⟩
               | refine ⟨_, q_build_struct rfl rfl rfl rfl rfl, ?_⟩
               | refine ⟨_, q_build_arr rfl rfl rfl rfl rfl, ?_⟩
               | refine ⟨_, q_nilCheck rfl rfl, ?_⟩
               | refine ⟨_, q_field_ext rfl rfl rfl rfl rfl, ?_⟩
               | refine ⟨_, q_quo rfl rfl rfl (by omega), ?_⟩
               | refine ⟨_, q_rem rfl rfl rfl (by omega), ?_⟩
               | refine ⟨_, q_quot rfl rfl rfl (by omega), ?_⟩
               | refine ⟨_, q_remt rfl rfl rfl (by omega), ?_⟩
               | refine ⟨_, q_addu8 rfl rfl rfl (by omega), ?_⟩
               | refine ⟨_, q_quou8 rfl rfl rfl (by omega), ?_⟩
               | refine ⟨_, q_shr1 rfl rfl rfl, ?_⟩
               | refine ⟨_, q_shr rfl rfl rfl ⟨by omega, by decide⟩, ?_⟩
               | refine ⟨_, q_shr rfl rfl rfl ⟨by omega, by show Int.toNat _ ≤ (8:Nat); omega⟩, ?_⟩
               | refine ⟨_, q_and1 rfl rfl rfl (by first | assumption | omega), ?_⟩
               | refine ⟨_, q_conv rfl rfl rfl rfl rfl rfl (by first | rfl | (exact i64_wrap (by omega) (by omega)) | (exact u8_wrap (by omega) (by omega)) | (exact u64_wrap (by omega) (by omega)) | (exact u16_wrap (by omega) (by omega))), ?_⟩)
            | refine j_guard_undef rfl rfl rfl rfl rfl ?_
            | (refine j_guard rfl rfl rfl rfl rfl ?_ ?_ <;> intro hc <;> (first | (exact absurd hc (by decide)) | ((try simp only [decide_eq_true_eq, decide_eq_false_iff_not, Bool.not_eq_true', Bool.not_eq_false', Bool.not_true, Bool.not_false, ne_eq, Decidable.not_not] at hc) <;> first | (exfalso; omega) | (exact absurd trivial hc) | skip)))
            | (refine j_buildSlice rfl rfl rfl rfl rfl rfl rfl rfl rfl rfl rfl rfl ?_; intro b)
            | (refine j_append rfl rfl rfl rfl rfl rfl rfl rfl rfl rfl rfl (by (repeat (first | exact InL.here | apply InL.there))) (by (repeat (first | exact InL.here | apply InL.there))) (by rfl) (by rfl) (by omega) (fun _ => by (repeat (first | exact Upd.here | apply Upd.there))) ?_; intro v))
         | (refine gSC ?_
            first
            | refine sc_seq ?_
            | refine sc_region ?_
            | (refine sc_cond rfl ?_ ?_ <;> intro hc <;> (first | (exact absurd hc (by decide)) | ((try simp only [decide_eq_true_eq, decide_eq_false_iff_not, Bool.not_eq_true', Bool.not_eq_false', Bool.not_true, Bool.not_false, ne_eq, Decidable.not_not] at hc) <;> first | (exfalso; omega) | (exact absurd trivial hc) | skip)))
            | refine sc_block ?_
            | refine sc_ret ?_
            | refine sc_exit ?_
            | refine sc_skip ?_
            | refine sc_draw rfl mixed (by kernel_rfl) ?_)
         | (refine gSQ ?_
            first
            | refine sq_seq ?_
            | refine sq_blk ?_
            | refine sq_seq_ret ?_
            | refine sq_blk_ret ?_
            | refine sq_loop_ret ?_
            | refine sq_seq_exit ?_
            | refine sq_blk_hit ?_
            | refine sq_blk_miss rfl ?_
            | refine sq_loop_exit ?_
            | refine sq_ende (.inl rfl) rfl rfl ⟨_, (RVs.cons (RV.tmp rfl) (RVs.nil)), ?_⟩
            | refine sq_ende (.inr rfl) rfl rfl ⟨_, (RVs.cons (RV.tmp rfl) (RVs.nil)), ?_⟩)
         | refine j_nil ?_
         )
        refine sq_next (by repeat (first | exact LSub.nil | refine LSub.cons (by repeat (first | exact Rem.here | apply Rem.there)) ?_)) ?_
        (refine ja_all [1] (by kernel_rfl) rfl ?_ rfl; intro i hi; simp only [List.mem_cons, List.mem_nil_iff, or_false] at hi; subst hi; refine ⟨_, rfl, rfl, ?_⟩)
        repeat' (first
         | (refine gJ ?_
            first
            | refine jmv rfl rfl rfl rfl rfl ?_
            | (refine gload rfl rfl ?_
               refine j_qe rfl rfl rfl ?_
               first
               | refine ⟨_, q_load_own rfl rfl rfl rfl (by (repeat (first | exact InL.here | apply InL.there))) (by first | rfl | assumption), ?_⟩
               | refine ⟨_, q_loadA_own rfl rfl rfl rfl (by (repeat (first | exact InL.here | apply InL.there))) (by rfl), ?_⟩
               | refine ⟨_, q_loadA_ext rfl rfl rfl rfl ⟨by assumption, (by first | exact id | assumption)⟩ (by rfl), ?_⟩
               | refine ⟨_, q_load_ext rfl rfl rfl rfl ⟨by assumption, (by first | exact id | assumption)⟩ (by first | rfl | assumption), ?_⟩
               | refine ⟨_, q_load_extb rfl rfl rfl rfl ⟨by assumption, (by first | exact id | assumption)⟩ (by rfl), ?_⟩
               | refine ⟨_, q_loadA_extb rfl rfl rfl rfl ⟨by assumption, (by first | exact id | assumption)⟩ (by rfl), ?_⟩
               | refine ⟨_, q_load_ext0 rfl rfl rfl rfl ⟨by assumption, (by first | exact id | assumption)⟩ (by rfl), ?_⟩)
            | refine jfield rfl rfl rfl rfl rfl rfl rfl rfl ?_
            | refine jcmp rfl rfl rfl rfl rfl rfl rfl ?_
            | refine jar rfl rfl rfl rfl rfl rfl rfl (by omega) ?_
            | refine jextract rfl rfl rfl rfl rfl rfl ?_
            | refine j_store rfl rfl rfl rfl rfl rfl rfl rfl (by (repeat (first | exact Upd.here | apply Upd.there))) (by rfl) ?_
            | (refine j_alloc rfl rfl rfl rfl rfl ?_; intro b)
            | (refine j_box rfl rfl rfl rfl rfl ?_; intro b)
            | (refine j_qe rfl rfl rfl ?_
               first
               | refine ⟨_, q_pick_t rfl rfl rfl, ?_⟩
               | refine ⟨_, q_pick_f rfl rfl rfl, ?_⟩
               | refine ⟨_, q_not rfl rfl, ?_⟩
               | refine ⟨_, q_index_nat rfl rfl rfl rfl rfl (by omega), ?_⟩
               | refine ⟨_, q_index_slice rfl rfl rfl rfl rfl (by omega), ?_⟩
               | refine ⟨_, q_index_arr rfl rfl rfl rfl rfl (by omega), ?_⟩
               | refine ⟨_, q_index_arr_ext rfl rfl rfl rfl rfl (by omega), ?_⟩
               | refine ⟨_, q_len_slice rfl rfl rfl rfl, ?_⟩
               | refine ⟨_, q_makeFunc rfl rfl, ?_⟩
               | refine ⟨_, q_build_struct rfl rfl rfl rfl rfl, ?_⟩
               | refine ⟨_, q_build_arr rfl rfl rfl rfl rfl, ?_⟩
               | refine ⟨_, q_nilCheck rfl rfl, ?_⟩
               | refine ⟨_, q_field_ext rfl rfl rfl rfl rfl, ?_⟩
               | refine ⟨_, q_quo rfl rfl rfl (by omega), ?_⟩
               | refine ⟨_, q_rem rfl rfl rfl (by omega), ?_⟩
               | refine ⟨_, q_quot rfl rfl rfl (by omega), ?_⟩
               | refine ⟨_, q_remt rfl rfl rfl (by omega), ?_⟩
               | refine ⟨_, q_addu8 rfl rfl rfl (by omega), ?_⟩
               | refine ⟨_, q_quou8 rfl rfl rfl (by omega), ?_⟩
               | refine ⟨_, q_shr1 rfl rfl rfl, ?_⟩
               | refine ⟨_, q_shr rfl rfl rfl ⟨by omega, by decide⟩, ?_⟩
               | refine ⟨_, q_shr rfl rfl rfl ⟨by omega, by show Int.toNat _ ≤ (8:Nat); omega⟩, ?_⟩
               | refine ⟨_, q_and1 rfl rfl rfl (by first | assumption | omega), ?_⟩
               | refine ⟨_, q_conv rfl rfl rfl rfl rfl rfl (by first | rfl | (exact i64_wrap (by omega) (by omega)) | (exact u8_wrap (by omega) (by omega)) | (exact u64_wrap (by omega) (by omega)) | (exact u16_wrap (by omega) (by omega))), ?_⟩)
            | refine j_guard_undef rfl rfl rfl rfl rfl ?_
            | (refine j_guard rfl rfl rfl rfl rfl ?_ ?_ <;> intro hc <;> (first | (exact absurd hc (by decide)) | ((try simp only [decide_eq_true_eq, decide_eq_false_iff_not, Bool.not_eq_true', Bool.not_eq_false', Bool.not_true, Bool.not_false, ne_eq, Decidable.not_not] at hc) <;> first | (exfalso; omega) | (exact absurd trivial hc) | skip)))
            | (refine j_buildSlice rfl rfl rfl rfl rfl rfl rfl rfl rfl rfl rfl rfl ?_; intro b)
            | (refine j_append rfl rfl rfl rfl rfl rfl rfl rfl rfl rfl rfl (by (repeat (first | exact InL.here | apply InL.there))) (by (repeat (first | exact InL.here | apply InL.there))) (by rfl) (by rfl) (by omega) (fun _ => by (repeat (first | exact Upd.here | apply Upd.there))) ?_; intro v))
         | (refine gSC ?_
            first
            | refine sc_seq ?_
            | refine sc_region ?_
            | (refine sc_cond rfl ?_ ?_ <;> intro hc <;> (first | (exact absurd hc (by decide)) | ((try simp only [decide_eq_true_eq, decide_eq_false_iff_not, Bool.not_eq_true', Bool.not_eq_false', Bool.not_true, Bool.not_false, ne_eq, Decidable.not_not] at hc) <;> first | (exfalso; omega) | (exact absurd trivial hc) | skip)))
            | refine sc_block ?_
            | refine sc_ret ?_
            | refine sc_exit ?_
            | refine sc_skip ?_
            | refine sc_draw rfl mixed (by kernel_rfl) ?_)
         | (refine gSQ ?_
            first
            | refine sq_seq ?_
            | refine sq_blk ?_
            | refine sq_seq_ret ?_
            | refine sq_blk_ret ?_
            | refine sq_loop_ret ?_
            | refine sq_seq_exit ?_
            | refine sq_blk_hit ?_
            | refine sq_blk_miss rfl ?_
            | refine sq_loop_exit ?_
            | refine sq_ende (.inl rfl) rfl rfl ⟨_, (RVs.cons (RV.tmp rfl) (RVs.nil)), ?_⟩
            | refine sq_ende (.inr rfl) rfl rfl ⟨_, (RVs.cons (RV.tmp rfl) (RVs.nil)), ?_⟩)
         | refine j_nil ?_
         )
        refine sq_next (by repeat (first | exact LSub.nil | refine LSub.cons (by repeat (first | exact Rem.here | apply Rem.there)) ?_)) ?_
        (refine ja_all [13] (by kernel_rfl) rfl ?_ rfl; intro i hi; simp only [List.mem_cons, List.mem_nil_iff, or_false] at hi; subst hi; refine ⟨_, rfl, rfl, ?_⟩)
        (refine j_append rfl rfl rfl rfl rfl rfl rfl rfl rfl rfl rfl (by (repeat (first | exact InL.here | apply InL.there))) (by (repeat (first | exact InL.here | apply InL.there))) (by rfl) (by rfl) (by omega) (fun _ => by (repeat (first | exact Upd.here | apply Upd.there))) ?_; intro u2)
        refine j_own (by (repeat (first | exact InL.here | apply InL.there))) ?_
        rintro A3 c3 rfl
        (refine j_nil ?_; refine sq_next (by repeat (first | exact LSub.nil | refine LSub.cons (by repeat (first | exact Rem.here | apply Rem.there)) ?_)) ?_)
        (refine ja_take 14 rfl (by kernel_rfl) rfl rfl rfl (by repeat (first | exact LSub.nil | refine LSub.cons (by repeat (first | exact Rem.here | apply Rem.there)) ?_)) ?_; first | refine ⟨_, q_move rfl rfl, ?_⟩ | refine ⟨_, q_assign rfl rfl, ?_⟩ | refine ⟨_, q_field_own rfl rfl rfl rfl rfl, ?_⟩ | refine ⟨_, q_extract rfl rfl rfl, ?_⟩ | refine ⟨_, q_add rfl rfl rfl (by omega), ?_⟩ | refine ⟨_, q_sub rfl rfl rfl (by omega), ?_⟩ | refine ⟨_, q_mul rfl rfl rfl (by omega), ?_⟩ | refine ⟨_, q_lss rfl rfl rfl, ?_⟩ | refine ⟨_, q_leq rfl rfl rfl, ?_⟩ | refine ⟨_, q_gtr rfl rfl rfl, ?_⟩ | refine ⟨_, q_geq rfl rfl rfl, ?_⟩ | refine ⟨_, q_eql rfl rfl rfl, ?_⟩ | refine ⟨_, q_neq rfl rfl rfl, ?_⟩ | refine ⟨_, q_pick_t rfl rfl rfl, ?_⟩ | refine ⟨_, q_pick_f rfl rfl rfl, ?_⟩ | refine ⟨_, q_not rfl rfl, ?_⟩ | refine ⟨_, q_index_nat rfl rfl rfl rfl rfl (by omega), ?_⟩ | refine ⟨_, q_index_slice rfl rfl rfl rfl rfl (by omega), ?_⟩ | refine ⟨_, q_index_arr rfl rfl rfl rfl rfl (by omega), ?_⟩ | refine ⟨_, q_index_arr_ext rfl rfl rfl rfl rfl (by omega), ?_⟩ | refine ⟨_, q_len_slice rfl rfl rfl rfl, ?_⟩ | refine ⟨_, q_makeFunc rfl rfl, ?_⟩ | refine ⟨_, q_build_struct rfl rfl rfl rfl rfl, ?_⟩ | refine ⟨_, q_build_arr rfl rfl rfl rfl rfl, ?_⟩ | refine ⟨_, q_nilCheck rfl rfl, ?_⟩ | refine ⟨_, q_field_ext rfl rfl rfl rfl rfl, ?_⟩ | refine ⟨_, q_quo rfl rfl rfl (by omega), ?_⟩ | refine ⟨_, q_rem rfl rfl rfl (by omega), ?_⟩ | refine ⟨_, q_quot rfl rfl rfl (by omega), ?_⟩ | refine ⟨_, q_remt rfl rfl rfl (by omega), ?_⟩ | refine ⟨_, q_addu8 rfl rfl rfl (by omega), ?_⟩ | refine ⟨_, q_quou8 rfl rfl rfl (by omega), ?_⟩ | refine ⟨_, q_shr1 rfl rfl rfl, ?_⟩ | refine ⟨_, q_shr rfl rfl rfl ⟨by omega, by decide⟩, ?_⟩ | refine ⟨_, q_shr rfl rfl rfl ⟨by omega, by show Int.toNat _ ≤ (8:Nat); omega⟩, ?_⟩ | refine ⟨_, q_and1 rfl rfl rfl (by first | assumption | omega), ?_⟩ | refine ⟨_, q_conv rfl rfl rfl rfl rfl rfl (by first | rfl | (exact i64_wrap (by omega) (by omega)) | (exact u8_wrap (by omega) (by omega)) | (exact u64_wrap (by omega) (by omega)) | (exact u16_wrap (by omega) (by omega))), ?_⟩ | refine ⟨_, q_load_own rfl rfl rfl rfl (by (repeat (first | exact InL.here | apply InL.there))) (by first | rfl | assumption), ?_⟩ | refine ⟨_, q_loadA_own rfl rfl rfl rfl (by (repeat (first | exact InL.here | apply InL.there))) (by rfl), ?_⟩ | refine ⟨_, q_loadA_ext rfl rfl rfl rfl ⟨by assumption, (by first | exact id | assumption)⟩ (by rfl), ?_⟩ | refine ⟨_, q_load_ext rfl rfl rfl rfl ⟨by assumption, (by first | exact id | assumption)⟩ (by first | rfl | assumption), ?_⟩ | refine ⟨_, q_load_extb rfl rfl rfl rfl ⟨by assumption, (by first | exact id | assumption)⟩ (by rfl), ?_⟩ | refine ⟨_, q_loadA_extb rfl rfl rfl rfl ⟨by assumption, (by first | exact id | assumption)⟩ (by rfl), ?_⟩ | refine ⟨_, q_load_ext0 rfl rfl rfl rfl ⟨by assumption, (by first | exact id | assumption)⟩ (by rfl), ?_⟩)
        (refine ja_all [15] (by kernel_rfl) rfl ?_ rfl; intro i hi; simp only [List.mem_cons, List.mem_nil_iff, or_false] at hi; subst hi; refine ⟨_, rfl, rfl, ?_⟩)
        repeat' (first
         | (refine gJ ?_
            first
            | refine jmv rfl rfl rfl rfl rfl ?_
            | (refine gload rfl rfl ?_
               refine j_qe rfl rfl rfl ?_
               first
               | refine ⟨_, q_load_own rfl rfl rfl rfl (by (repeat (first | exact InL.here | apply InL.there))) (by first | rfl | assumption), ?_⟩
               | refine ⟨_, q_loadA_own rfl rfl rfl rfl (by (repeat (first | exact InL.here | apply InL.there))) (by rfl), ?_⟩
               | refine ⟨_, q_loadA_ext rfl rfl rfl rfl ⟨by assumption, (by first | exact id | assumption)⟩ (by rfl), ?_⟩
               | refine ⟨_, q_load_ext rfl rfl rfl rfl ⟨by assumption, (by first | exact id | assumption)⟩ (by first | rfl | assumption), ?_⟩
               | refine ⟨_, q_load_extb rfl rfl rfl rfl ⟨by assumption, (by first | exact id | assumption)⟩ (by rfl), ?_⟩
               | refine ⟨_, q_loadA_extb rfl rfl rfl rfl ⟨by assumption, (by first | exact id | assumption)⟩ (by rfl), ?_⟩
               | refine ⟨_, q_load_ext0 rfl rfl rfl rfl ⟨by assumption, (by first | exact id | assumption)⟩ (by rfl), ?_⟩)
            | refine jfield rfl rfl rfl rfl rfl rfl rfl rfl ?_
            | refine jcmp rfl rfl rfl rfl rfl rfl rfl ?_
            | refine jar rfl rfl rfl rfl rfl rfl rfl (by omega) ?_
            | refine jextract rfl rfl rfl rfl rfl rfl ?_
            | refine j_store rfl rfl rfl rfl rfl rfl rfl rfl (by (repeat (first | exact Upd.here | apply Upd.there))) (by rfl) ?_
            | (refine j_alloc rfl rfl rfl rfl rfl ?_; intro b)
            | (refine j_box rfl rfl rfl rfl rfl ?_; intro b)
            | (refine j_qe rfl rfl rfl ?_
               first
               | refine ⟨_, q_pick_t rfl rfl rfl, ?_⟩
               | refine ⟨_, q_pick_f rfl rfl rfl, ?_⟩
               | refine ⟨_, q_not rfl rfl, ?_⟩
               | refine ⟨_, q_index_nat rfl rfl rfl rfl rfl (by omega), ?_⟩
               | refine ⟨_, q_index_slice rfl rfl rfl rfl rfl (by omega), ?_⟩
               | refine ⟨_, q_index_arr rfl rfl rfl rfl rfl (by omega), ?_⟩
               | refine ⟨_, q_index_arr_ext rfl rfl rfl rfl rfl (by omega), ?_⟩
               | refine ⟨_, q_len_slice rfl rfl rfl rfl, ?_⟩
               | refine ⟨_, q_makeFunc rfl rfl, ?_⟩
               | refine ⟨_, q_build_struct rfl rfl rfl rfl rfl, ?_⟩
               | refine ⟨_, q_build_arr rfl rfl rfl rfl rfl, ?_⟩
               | refine ⟨_, q_nilCheck rfl rfl, ?_⟩
               | refine ⟨_, q_field_ext rfl rfl rfl rfl rfl, ?_⟩
               | refine ⟨_, q_quo rfl rfl rfl (by omega), ?_⟩
               | refine ⟨_, q_rem rfl rfl rfl (by omega), ?_⟩
               | refine ⟨_, q_quot rfl rfl rfl (by omega), ?_⟩
               | refine ⟨_, q_remt rfl rfl rfl (by omega), ?_⟩
               | refine ⟨_, q_addu8 rfl rfl rfl (by omega), ?_⟩
               | refine ⟨_, q_quou8 rfl rfl rfl (by omega), ?_⟩
               | refine ⟨_, q_shr1 rfl rfl rfl, ?_⟩
               | refine ⟨_, q_shr rfl rfl rfl ⟨by omega, by decide⟩, ?_⟩
               | refine ⟨_, q_shr rfl rfl rfl ⟨by omega, by show Int.toNat _ ≤ (8:Nat); omega⟩, ?_⟩
               | refine ⟨_, q_and1 rfl rfl rfl (by first | assumption | omega), ?_⟩
               | refine ⟨_, q_conv rfl rfl rfl rfl rfl rfl (by first | rfl | (exact i64_wrap (by omega) (by omega)) | (exact u8_wrap (by omega) (by omega)) | (exact u64_wrap (by omega) (by omega)) | (exact u16_wrap (by omega) (by omega))), ?_⟩)
            | refine j_guard_undef rfl rfl rfl rfl rfl ?_
            | (refine j_guard rfl rfl rfl rfl rfl ?_ ?_ <;> intro hc <;> (first | (exact absurd hc (by decide)) | ((try simp only [decide_eq_true_eq, decide_eq_false_iff_not, Bool.not_eq_true', Bool.not_eq_false', Bool.not_true, Bool.not_false, ne_eq, Decidable.not_not] at hc) <;> first | (exfalso; omega) | (exact absurd trivial hc) | skip)))
            | (refine j_buildSlice rfl rfl rfl rfl rfl rfl rfl rfl rfl rfl rfl rfl ?_; intro b)
            | (refine j_append rfl rfl rfl rfl rfl rfl rfl rfl rfl rfl rfl (by (repeat (first | exact InL.here | apply InL.there))) (by (repeat (first | exact InL.here | apply InL.there))) (by rfl) (by rfl) (by omega) (fun _ => by (repeat (first | exact Upd.here | apply Upd.there))) ?_; intro v))
         | (refine gSC ?_
            first
            | refine sc_seq ?_
            | refine sc_region ?_
            | (refine sc_cond rfl ?_ ?_ <;> intro hc <;> (first | (exact absurd hc (by decide)) | ((try simp only [decide_eq_true_eq, decide_eq_false_iff_not, Bool.not_eq_true', Bool.not_eq_false', Bool.not_true, Bool.not_false, ne_eq, Decidable.not_not] at hc) <;> first | (exfalso; omega) | (exact absurd trivial hc) | skip)))
            | refine sc_block ?_
            | refine sc_ret ?_
            | refine sc_exit ?_
            | refine sc_skip ?_
            | refine sc_draw rfl mixed (by kernel_rfl) ?_)
         | (refine gSQ ?_
            first
            | refine sq_seq ?_
            | refine sq_blk ?_
            | refine sq_seq_ret ?_
            | refine sq_blk_ret ?_
            | refine sq_loop_ret ?_
            | refine sq_seq_exit ?_
            | refine sq_blk_hit ?_
            | refine sq_blk_miss rfl ?_
            | refine sq_loop_exit ?_
            | refine sq_ende (.inl rfl) rfl rfl ⟨_, (RVs.cons (RV.tmp rfl) (RVs.nil)), ?_⟩
            | refine sq_ende (.inr rfl) rfl rfl ⟨_, (RVs.cons (RV.tmp rfl) (RVs.nil)), ?_⟩)
         | refine j_nil ?_
         )
        refine sq_next (by repeat (first | exact LSub.nil | refine LSub.cons (by repeat (first | exact Rem.here | apply Rem.there)) ?_)) ?_
        refine ja_done (by kernel_rfl) ?_
        repeat' (first
         | (refine gJ ?_
            first
            | refine jmv rfl rfl rfl rfl rfl ?_
            | (refine gload rfl rfl ?_
               refine j_qe rfl rfl rfl ?_
               first
               | refine ⟨_, q_load_own rfl rfl rfl rfl (by (repeat (first | exact InL.here | apply InL.there))) (by first | rfl | assumption), ?_⟩
               | refine ⟨_, q_loadA_own rfl rfl rfl rfl (by (repeat (first | exact InL.here | apply InL.there))) (by rfl), ?_⟩
               | refine ⟨_, q_loadA_ext rfl rfl rfl rfl ⟨by assumption, (by first | exact id | assumption)⟩ (by rfl), ?_⟩
               | refine ⟨_, q_load_ext rfl rfl rfl rfl ⟨by assumption, (by first | exact id | assumption)⟩ (by first | rfl | assumption), ?_⟩
               | refine ⟨_, q_load_extb rfl rfl rfl rfl ⟨by assumption, (by first | exact id | assumption)⟩ (by rfl), ?_⟩
               | refine ⟨_, q_loadA_extb rfl rfl rfl rfl ⟨by assumption, (by first | exact id | assumption)⟩ (by rfl), ?_⟩
               | refine ⟨_, q_load_ext0 rfl rfl rfl rfl ⟨by assumption, (by first | exact id | assumption)⟩ (by rfl), ?_⟩)
            | refine jfield rfl rfl rfl rfl rfl rfl rfl rfl ?_
            | refine jcmp rfl rfl rfl rfl rfl rfl rfl ?_
            | refine jar rfl rfl rfl rfl rfl rfl rfl (by omega) ?_
            | refine jextract rfl rfl rfl rfl rfl rfl ?_
            | refine j_store rfl rfl rfl rfl rfl rfl rfl rfl (by (repeat (first | exact Upd.here | apply Upd.there))) (by rfl) ?_
            | (refine j_alloc rfl rfl rfl rfl rfl ?_; intro b)
            | (refine j_box rfl rfl rfl rfl rfl ?_; intro b)
            | (refine j_qe rfl rfl rfl ?_
               first
               | refine ⟨_, q_pick_t rfl rfl rfl, ?_⟩
               | refine ⟨_, q_pick_f rfl rfl rfl, ?_⟩
               | refine ⟨_, q_not rfl rfl, ?_⟩
               | refine ⟨_, q_index_nat rfl rfl rfl rfl rfl (by omega), ?_⟩
               | refine ⟨_, q_index_slice rfl rfl rfl rfl rfl (by omega), ?_⟩
               | refine ⟨_, q_index_arr rfl rfl rfl rfl rfl (by omega), ?_⟩
               | refine ⟨_, q_index_arr_ext rfl rfl rfl rfl rfl (by omega), ?_⟩
               | refine ⟨_, q_len_slice rfl rfl rfl rfl, ?_⟩
               | refine ⟨_, q_makeFunc rfl rfl, ?_⟩
               | refine ⟨_, q_build_struct rfl rfl rfl rfl rfl, ?_⟩
               | refine ⟨_, q_build_arr rfl rfl rfl rfl rfl, ?_⟩
               | refine ⟨_, q_nilCheck rfl rfl, ?_⟩
               | refine ⟨_, q_field_ext rfl rfl rfl rfl rfl, ?_⟩
               | refine ⟨_, q_quo rfl rfl rfl (by omega), ?_⟩
               | refine ⟨_, q_rem rfl rfl rfl (by omega), ?_⟩
               | refine ⟨_, q_quot rfl rfl rfl (by omega), ?_⟩
               | refine ⟨_, q_remt rfl rfl rfl (by omega), ?_⟩
               | refine ⟨_, q_addu8 rfl rfl rfl (by omega), ?_⟩
               | refine ⟨_, q_quou8 rfl rfl rfl (by omega), ?_⟩
               | refine ⟨_, q_shr1 rfl rfl rfl, ?_⟩
               | refine ⟨_, q_shr rfl rfl rfl ⟨by omega, by decide⟩, ?_⟩
               | refine ⟨_, q_shr rfl rfl rfl ⟨by omega, by show Int.toNat _ ≤ (8:Nat); omega⟩, ?_⟩
               | refine ⟨_, q_and1 rfl rfl rfl (by first | assumption | omega), ?_⟩
               | refine ⟨_, q_conv rfl rfl rfl rfl rfl rfl (by first | rfl | (exact i64_wrap (by omega) (by omega)) | (exact u8_wrap (by omega) (by omega)) | (exact u64_wrap (by omega) (by omega)) | (exact u16_wrap (by omega) (by omega))), ?_⟩)
            | refine j_guard_undef rfl rfl rfl rfl rfl ?_
            | (refine j_guard rfl rfl rfl rfl rfl ?_ ?_ <;> intro hc <;> (first | (exact absurd hc (by decide)) | ((try simp only [decide_eq_true_eq, decide_eq_false_iff_not, Bool.not_eq_true', Bool.not_eq_false', Bool.not_true, Bool.not_false, ne_eq, Decidable.not_not] at hc) <;> first | (exfalso; omega) | (exact absurd trivial hc) | skip)))
            | (refine j_buildSlice rfl rfl rfl rfl rfl rfl rfl rfl rfl rfl rfl rfl ?_; intro b)
            | (refine j_append rfl rfl rfl rfl rfl rfl rfl rfl rfl rfl rfl (by (repeat (first | exact InL.here | apply InL.there))) (by (repeat (first | exact InL.here | apply InL.there))) (by rfl) (by rfl) (by omega) (fun _ => by (repeat (first | exact Upd.here | apply Upd.there))) ?_; intro v))
         | (refine gSC ?_
            first
            | refine sc_seq ?_
            | refine sc_region ?_
            | (refine sc_cond rfl ?_ ?_ <;> intro hc <;> (first | (exact absurd hc (by decide)) | ((try simp only [decide_eq_true_eq, decide_eq_false_iff_not, Bool.not_eq_true', Bool.not_eq_false', Bool.not_true, Bool.not_false, ne_eq, Decidable.not_not] at hc) <;> first | (exfalso; omega) | (exact absurd trivial hc) | skip)))
            | refine sc_block ?_
            | refine sc_ret ?_
            | refine sc_exit ?_
            | refine sc_skip ?_
            | refine sc_draw rfl mixed (by kernel_rfl) ?_)
         | (refine gSQ ?_
            first
            | refine sq_seq ?_
            | refine sq_blk ?_
            | refine sq_seq_ret ?_
            | refine sq_blk_ret ?_
            | refine sq_loop_ret ?_
            | refine sq_seq_exit ?_
            | refine sq_blk_hit ?_
            | refine sq_blk_miss rfl ?_
            | refine sq_loop_exit ?_
            | refine sq_ende (.inl rfl) rfl rfl ⟨_, (RVs.cons (RV.tmp rfl) (RVs.nil)), ?_⟩
            | refine sq_ende (.inr rfl) rfl rfl ⟨_, (RVs.cons (RV.tmp rfl) (RVs.nil)), ?_⟩)
         | refine j_nil ?_
         )
        refine sq_loop (j + 1, A3, c3) (by show j + 1 ≤ 6; omega) (by show 6 - (j + 1) < 6 - j; omega) (by repeat (first | exact FSub.nil | refine FSub.cons rfl ?_ | refine FSub.conse rfl (by congr 1; omega) ?_)) ?_
        dsimp only
        rw [rev_take (sixU 6) j x (by rw [show (sixU 6).length = 6 from rfl]; omega) hx, List.flatMap_append, List.flatMap_singleton]
        exact (by repeat (first | exact LSub.nil | refine LSub.cons (by repeat (first | exact Rem.here | apply Rem.there)) ?_))
    · have hj6 : j = 6 := by omega
      subst hj6
      rw [show (sixU 6).reverse.take 6 = (sixU 6).reverse from rfl]
      repeat' (first
       | (refine gJ ?_
          first
          | refine jmv rfl rfl rfl rfl rfl ?_
          | (refine gload rfl rfl ?_
             refine j_qe rfl rfl rfl ?_
             first
             | refine ⟨_, q_load_own rfl rfl rfl rfl (by (repeat (first | exact InL.here | apply InL.there))) (by first | rfl | assumption), ?_⟩
             | refine ⟨_, q_loadA_own rfl rfl rfl rfl (by (repeat (first | exact InL.here | apply InL.there))) (by rfl), ?_⟩
             | refine ⟨_, q_loadA_ext rfl rfl rfl rfl ⟨by assumption, (by first | exact id | assumption)⟩ (by rfl), ?_⟩
             | refine ⟨_, q_load_ext rfl rfl rfl rfl ⟨by assumption, (by first | exact id | assumption)⟩ (by first | rfl | assumption), ?_⟩
             | refine ⟨_, q_load_extb rfl rfl rfl rfl ⟨by assumption, (by first | exact id | assumption)⟩ (by rfl), ?_⟩
             | refine ⟨_, q_loadA_extb rfl rfl rfl rfl ⟨by assumption, (by first | exact id | assumption)⟩ (by rfl), ?_⟩
             | refine ⟨_, q_load_ext0 rfl rfl rfl rfl ⟨by assumption, (by first | exact id | assumption)⟩ (by rfl), ?_⟩)
          | refine jfield rfl rfl rfl rfl rfl rfl rfl rfl ?_
          | refine jcmp rfl rfl rfl rfl rfl rfl rfl ?_
          | refine jar rfl rfl rfl rfl rfl rfl rfl (by omega) ?_
          | refine jextract rfl rfl rfl rfl rfl rfl ?_
          | refine j_store rfl rfl rfl rfl rfl rfl rfl rfl (by (repeat (first | exact Upd.here | apply Upd.there))) (by rfl) ?_
          | (refine j_alloc rfl rfl rfl rfl rfl ?_; intro b)
          | (refine j_box rfl rfl rfl rfl rfl ?_; intro b)
          | (refine j_qe rfl rfl rfl ?_
             first
             | refine ⟨_, q_pick_t rfl rfl rfl, ?_⟩
             | refine ⟨_, q_pick_f rfl rfl rfl, ?_⟩
             | refine ⟨_, q_not rfl rfl, ?_⟩
             | refine ⟨_, q_index_nat rfl rfl rfl rfl rfl (by omega), ?_⟩
             | refine ⟨_, q_index_slice rfl rfl rfl rfl rfl (by omega), ?_⟩
             | refine ⟨_, q_index_arr rfl rfl rfl rfl rfl (by omega), ?_⟩
             | refine ⟨_, q_index_arr_ext rfl rfl rfl rfl rfl (by omega), ?_⟩
             | refine ⟨_, q_len_slice rfl rfl rfl rfl, ?_⟩
             | refine ⟨_, q_makeFunc rfl rfl, ?_⟩
             | refine ⟨_, q_build_struct rfl rfl rfl rfl rfl, ?_⟩
             | refine ⟨_, q_build_arr rfl rfl rfl rfl rfl, ?_⟩
             | refine ⟨_, q_nilCheck rfl rfl, ?_⟩
             | refine ⟨_, q_field_ext rfl rfl rfl rfl rfl, ?_⟩
             | refine ⟨_, q_quo rfl rfl rfl (by omega), ?_⟩
             | refine ⟨_, q_rem rfl rfl rfl (by omega), ?_⟩
             | refine ⟨_, q_quot rfl rfl rfl (by omega), ?_⟩
             | refine ⟨_, q_remt rfl rfl rfl (by omega), ?_⟩
             | refine ⟨_, q_addu8 rfl rfl rfl (by omega), ?_⟩
             | refine ⟨_, q_quou8 rfl rfl rfl (by omega), ?_⟩
             | refine ⟨_, q_shr1 rfl rfl rfl, ?_⟩
             | refine ⟨_, q_shr rfl rfl rfl ⟨by omega, by decide⟩, ?_⟩
             | refine ⟨_, q_shr rfl rfl rfl ⟨by omega, by show Int.toNat _ ≤ (8:Nat); omega⟩, ?_⟩
             | refine ⟨_, q_and1 rfl rfl rfl (by first | assumption | omega), ?_⟩
             | refine ⟨_, q_conv rfl rfl rfl rfl rfl rfl (by first | rfl | (exact i64_wrap (by omega) (by omega)) | (exact u8_wrap (by omega) (by omega)) | (exact u64_wrap (by omega) (by omega)) | (exact u16_wrap (by omega) (by omega))), ?_⟩)
          | refine j_guard_undef rfl rfl rfl rfl rfl ?_
          | (refine j_guard rfl rfl rfl rfl rfl ?_ ?_ <;> intro hc <;> (first | (exact absurd hc (by decide)) | ((try simp only [decide_eq_true_eq, decide_eq_false_iff_not, Bool.not_eq_true', Bool.not_eq_false', Bool.not_true, Bool.not_false, ne_eq, Decidable.not_not] at hc) <;> first | (exfalso; omega) | (exact absurd trivial hc) | skip)))
          | (refine j_buildSlice rfl rfl rfl rfl rfl rfl rfl rfl rfl rfl rfl rfl ?_; intro b)
          | (refine j_append rfl rfl rfl rfl rfl rfl rfl rfl rfl rfl rfl (by (repeat (first | exact InL.here | apply InL.there))) (by (repeat (first | exact InL.here | apply InL.there))) (by rfl) (by rfl) (by omega) (fun _ => by (repeat (first | exact Upd.here | apply Upd.there))) ?_; intro v))
       | (refine gSC ?_
          first
          | refine sc_seq ?_
          | refine sc_region ?_
          | (refine sc_cond rfl ?_ ?_ <;> intro hc <;> (first | (exact absurd hc (by decide)) | ((try simp only [decide_eq_true_eq, decide_eq_false_iff_not, Bool.not_eq_true', Bool.not_eq_false', Bool.not_true, Bool.not_false, ne_eq, Decidable.not_not] at hc) <;> first | (exfalso; omega) | (exact absurd trivial hc) | skip)))
          | refine sc_block ?_
          | refine sc_ret ?_
          | refine sc_exit ?_
          | refine sc_skip ?_
          | refine sc_draw rfl mixed (by kernel_rfl) ?_)
       | (refine gSQ ?_
          first
          | refine sq_seq ?_
          | refine sq_blk ?_
          | refine sq_seq_ret ?_
          | refine sq_blk_ret ?_
          | refine sq_loop_ret ?_
          | refine sq_seq_exit ?_
          | refine sq_blk_hit ?_
          | refine sq_blk_miss rfl ?_
          | refine sq_loop_exit ?_
          | refine sq_ende (.inl rfl) rfl rfl ⟨_, (RVs.cons (RV.tmp rfl) (RVs.nil)), ?_⟩
          | refine sq_ende (.inr rfl) rfl rfl ⟨_, (RVs.cons (RV.tmp rfl) (RVs.nil)), ?_⟩)
       | refine j_nil ?_
       )
      refine sc_now ?_
      intro w2 hS2
      have hRb : RS w2 5 ruC Ab all.reverse := by
        have e1 : (HA.own (.slice Ab k cb) 37 5 k (all.reverse.flatMap ruC)) = .own (.slice Ab all.reverse.length cb) 37 5 all.reverse.length (all.reverse.flatMap ruC) := by simp [hn]
        rw [e1] at hS2
        exact rs_of_own (l := all.reverse) hS2 (fun _ => rfl) (by (repeat (first | exact InL.here | apply InL.there)))
      have hRs : RS w2 8 ptC A2 (sixU 6).reverse := rs_of_own (l := (sixU 6).reverse) hS2 (fun _ => rfl) (by (repeat (first | exact InL.here | apply InL.there)))
      have hE13 : Ext w2 ⟨b2, 0, none⟩ [.slice none 0 0, .slice none 0 0, .slice none 0 0, .slice A2 6 c2] := hS2.ext (by (repeat (first | exact InL.here | apply InL.there)))
      have hB2 : Below w.heap.size w w2 := below_then hB1 hS2
      have hRa := hRa.st hS2
      have hRh := hRh.st hS2
      have hRp := hRp.st hS2
      have hE7 := hE7.st hS2
      dsimp only
      clear hS2
      refine sc_loop (ι := Nat) (fun k => k ≤ 6) (fun k => 6 - k) (fun j => [(7, .pointer (some ⟨b7, 0, none⟩)), (8, .slice Aa k ca), (9, .slice Ah m ch), (10, .int .i64 d), (11, .slice Ab k cb), (13, .pointer (some ⟨b2, 0, none⟩)), (71, .slice Ap 6 cp), (72, .int .i64 6), (73, .int .i64 j)]) (fun _ => []) 0 (by show 0 ≤ 6; omega) (by repeat (first | exact FSub.nil | refine FSub.cons rfl ?_ | refine FSub.conse rfl (by congr 1; omega) ?_)) (by repeat (first | exact LSub.nil | refine LSub.cons (by repeat (first | exact Rem.here | apply Rem.there)) ?_)) ?_
      intro j hj
      by_cases hlt : j < 6
      · obtain ⟨p, hp⟩ : ∃ p, (sixU 6)[j]? = some p := ⟨_, List.getElem?_eq_getElem (by rw [show (sixU 6).length = 6 from rfl]; omega)⟩
        obtain ⟨f1, f2, f3, f4⟩ := six_facts j p hp
        obtain ⟨ad, rfl, hX⟩ := hRp _ p hp
        repeat' (first
         | (refine gJ ?_
            first
            | refine jmv rfl rfl rfl rfl rfl ?_
            | (refine gload rfl rfl ?_
               refine j_qe rfl rfl rfl ?_
               first
               | refine ⟨_, q_load_own rfl rfl rfl rfl (by (repeat (first | exact InL.here | apply InL.there))) (by first | rfl | assumption), ?_⟩
               | refine ⟨_, q_loadA_own rfl rfl rfl rfl (by (repeat (first | exact InL.here | apply InL.there))) (by rfl), ?_⟩
               | refine ⟨_, q_loadA_ext rfl rfl rfl rfl ⟨by assumption, (by first | exact id | assumption)⟩ (by rfl), ?_⟩
               | refine ⟨_, q_load_ext rfl rfl rfl rfl ⟨by assumption, (by first | exact id | assumption)⟩ (by first | rfl | assumption), ?_⟩
               | refine ⟨_, q_load_extb rfl rfl rfl rfl ⟨by assumption, (by first | exact id | assumption)⟩ (by rfl), ?_⟩
               | refine ⟨_, q_loadA_extb rfl rfl rfl rfl ⟨by assumption, (by first | exact id | assumption)⟩ (by rfl), ?_⟩
               | refine ⟨_, q_load_ext0 rfl rfl rfl rfl ⟨by assumption, (by first | exact id | assumption)⟩ (by rfl), ?_⟩)
            | refine jfield rfl rfl rfl rfl rfl rfl rfl rfl ?_
            | refine jcmp rfl rfl rfl rfl rfl rfl rfl ?_
            | refine jar rfl rfl rfl rfl rfl rfl rfl (by omega) ?_
            | refine jextract rfl rfl rfl rfl rfl rfl ?_
            | refine j_store rfl rfl rfl rfl rfl rfl rfl rfl (by (repeat (first | exact Upd.here | apply Upd.there))) (by rfl) ?_
            | (refine j_alloc rfl rfl rfl rfl rfl ?_; intro b)
            | (refine j_box rfl rfl rfl rfl rfl ?_; intro b)
            | (refine j_qe rfl rfl rfl ?_
               first
               | refine ⟨_, q_pick_t rfl rfl rfl, ?_⟩
               | refine ⟨_, q_pick_f rfl rfl rfl, ?_⟩
               | refine ⟨_, q_not rfl rfl, ?_⟩
               | refine ⟨_, q_index_nat rfl rfl rfl rfl rfl (by omega), ?_⟩
               | refine ⟨_, q_index_slice rfl rfl rfl rfl rfl (by omega), ?_⟩
               | refine ⟨_, q_index_arr rfl rfl rfl rfl rfl (by omega), ?_⟩
               | refine ⟨_, q_index_arr_ext rfl rfl rfl rfl rfl (by omega), ?_⟩
               | refine ⟨_, q_len_slice rfl rfl rfl rfl, ?_⟩
               | refine ⟨_, q_makeFunc rfl rfl, ?_⟩
               | refine ⟨_, q_build_struct rfl rfl rfl rfl rfl, ?_⟩
               | refine ⟨_, q_build_arr rfl rfl rfl rfl rfl, ?_⟩
               | refine ⟨_, q_nilCheck rfl rfl, ?_⟩
               | refine ⟨_, q_field_ext rfl rfl rfl rfl rfl, ?_⟩
               | refine ⟨_, q_quo rfl rfl rfl (by omega), ?_⟩
               | refine ⟨_, q_rem rfl rfl rfl (by omega), ?_⟩
               | refine ⟨_, q_quot rfl rfl rfl (by omega), ?_⟩
               | refine ⟨_, q_remt rfl rfl rfl (by omega), ?_⟩
               | refine ⟨_, q_addu8 rfl rfl rfl (by omega), ?_⟩
               | refine ⟨_, q_quou8 rfl rfl rfl (by omega), ?_⟩
               | refine ⟨_, q_shr1 rfl rfl rfl, ?_⟩
               | refine ⟨_, q_shr rfl rfl rfl ⟨by omega, by decide⟩, ?_⟩
               | refine ⟨_, q_shr rfl rfl rfl ⟨by omega, by show Int.toNat _ ≤ (8:Nat); omega⟩, ?_⟩
               | refine ⟨_, q_and1 rfl rfl rfl (by first | assumption | omega), ?_⟩
               | refine ⟨_, q_conv rfl rfl rfl rfl rfl rfl (by first | rfl | (exact i64_wrap (by omega) (by omega)) | (exact u8_wrap (by omega) (by omega)) | (exact u64_wrap (by omega) (by omega)) | (exact u16_wrap (by omega) (by omega))), ?_⟩)
            | refine j_guard_undef rfl rfl rfl rfl rfl ?_
            | (refine j_guard rfl rfl rfl rfl rfl ?_ ?_ <;> intro hc <;> (first | (exact absurd hc (by decide)) | ((try simp only [decide_eq_true_eq, decide_eq_false_iff_not, Bool.not_eq_true', Bool.not_eq_false', Bool.not_true, Bool.not_false, ne_eq, Decidable.not_not] at hc) <;> first | (exfalso; omega) | (exact absurd trivial hc) | skip)))
            | (refine j_buildSlice rfl rfl rfl rfl rfl rfl rfl rfl rfl rfl rfl rfl ?_; intro b)
            | (refine j_append rfl rfl rfl rfl rfl rfl rfl rfl rfl rfl rfl (by (repeat (first | exact InL.here | apply InL.there))) (by (repeat (first | exact InL.here | apply InL.there))) (by rfl) (by rfl) (by omega) (fun _ => by (repeat (first | exact Upd.here | apply Upd.there))) ?_; intro v))
         | (refine gSC ?_
            first
            | refine sc_seq ?_
            | refine sc_region ?_
            | (refine sc_cond rfl ?_ ?_ <;> intro hc <;> (first | (exact absurd hc (by decide)) | ((try simp only [decide_eq_true_eq, decide_eq_false_iff_not, Bool.not_eq_true', Bool.not_eq_false', Bool.not_true, Bool.not_false, ne_eq, Decidable.not_not] at hc) <;> first | (exfalso; omega) | (exact absurd trivial hc) | skip)))
            | refine sc_block ?_
            | refine sc_ret ?_
            | refine sc_exit ?_
            | refine sc_skip ?_
            | refine sc_draw rfl mixed (by kernel_rfl) ?_)
         | (refine gSQ ?_
            first
            | refine sq_seq ?_
            | refine sq_blk ?_
            | refine sq_seq_ret ?_
            | refine sq_blk_ret ?_
            | refine sq_loop_ret ?_
            | refine sq_seq_exit ?_
            | refine sq_blk_hit ?_
            | refine sq_blk_miss rfl ?_
            | refine sq_loop_exit ?_
            | refine sq_ende (.inl rfl) rfl rfl ⟨_, (RVs.cons (RV.tmp rfl) (RVs.nil)), ?_⟩
            | refine sq_ende (.inr rfl) rfl rfl ⟨_, (RVs.cons (RV.tmp rfl) (RVs.nil)), ?_⟩)
         | refine j_nil ?_
         )
        rename Nat => b16
        refine sc_own_nil_at 37 5 ?_
        refine sc_loop (ι := Nat × Option Addr × Nat) (fun i => i.1 ≤ k) (fun i => k - i.1) (fun i => [(7, .pointer (some ⟨b7, 0, none⟩)), (8, .slice Aa k ca), (9, .slice Ah m ch), (10, .int .i64 d), (11, .slice Ab k cb), (13, .pointer (some ⟨b2, 0, none⟩)), (16, .pointer (some ⟨b16, 0, none⟩)), (17, .slice i.2.1 ((all.take i.1).filter fun x => decide (x.pt = p.id)).length i.2.2), (71, .slice (some ad) 6 cp), (72, .int .i64 6), (73, .int .i64 j), (77, .slice Aa k ca), (78, .int .i64 k), (79, .int .i64 i.1)])
          (fun i => [.own (.slice i.2.1 ((all.take i.1).filter fun x => decide (x.pt = p.id)).length i.2.2) 37 5 ((all.take i.1).filter fun x => decide (x.pt = p.id)).length (((all.take i.1).filter fun x => decide (x.pt = p.id)).flatMap ruC), .cells b16 39 (ptC p)]) (0, none, 0) (by show 0 ≤ k; omega) (by repeat (first | exact FSub.nil | refine FSub.cons rfl ?_ | refine FSub.conse rfl (by congr 1; omega) ?_)) (by repeat (first | exact LSub.nil | refine LSub.cons (by repeat (first | exact Rem.here | apply Rem.there)) ?_)) ?_
        rintro ⟨i, Ao, co⟩ hi
        dsimp only at hi ⊢
        have hft : ((all.take i).filter fun x => decide (x.pt = p.id)).length ≤ 30 := Nat.le_trans (List.length_filter_le _ _) (by rw [List.length_take]; omega)
        by_cases hli : i < k
        · obtain ⟨x, hx⟩ : ∃ x, all[i]? = some x := ⟨_, List.getElem?_eq_getElem (by omega)⟩
          obtain ⟨ad', rfl, hX'⟩ := hRa _ x hx
          have hf9 := filter_take (fun x : Ru => decide (x.pt = p.id)) all i x hx
          generalize hfe : ((all.take i).filter fun x => decide (x.pt = p.id)) = own at *
          by_cases hxp : x.pt = p.id
          · rw [if_pos (by simpa using hxp)] at hf9
            repeat' (first
             | (refine gJ ?_
                first
                | refine jmv rfl rfl rfl rfl rfl ?_
                | (refine gload rfl rfl ?_
                   refine j_qe rfl rfl rfl ?_
                   first
                   | refine ⟨_, q_load_own rfl rfl rfl rfl (by (repeat (first | exact InL.here | apply InL.there))) (by first | rfl | assumption), ?_⟩
                   | refine ⟨_, q_loadA_own rfl rfl rfl rfl (by (repeat (first | exact InL.here | apply InL.there))) (by rfl), ?_⟩
                   | refine ⟨_, q_loadA_ext rfl rfl rfl rfl ⟨by assumption, (by first | exact id | assumption)⟩ (by rfl), ?_⟩
                   | refine ⟨_, q_load_ext rfl rfl rfl rfl ⟨by assumption, (by first | exact id | assumption)⟩ (by first | rfl | assumption), ?_⟩
                   | refine ⟨_, q_load_extb rfl rfl rfl rfl ⟨by assumption, (by first | exact id | assumption)⟩ (by rfl), ?_⟩
                   | refine ⟨_, q_loadA_extb rfl rfl rfl rfl ⟨by assumption, (by first | exact id | assumption)⟩ (by rfl), ?_⟩
                   | refine ⟨_, q_load_ext0 rfl rfl rfl rfl ⟨by assumption, (by first | exact id | assumption)⟩ (by rfl), ?_⟩)
                | refine jfield rfl rfl rfl rfl rfl rfl rfl rfl ?_
                | refine jcmp rfl rfl rfl rfl rfl rfl rfl ?_
                | refine jar rfl rfl rfl rfl rfl rfl rfl (by omega) ?_
                | refine jextract rfl rfl rfl rfl rfl rfl ?_
                | ((refine j_append rfl rfl rfl rfl rfl rfl rfl rfl rfl rfl rfl (by (repeat (first | exact InL.here | apply InL.there))) (by (repeat (first | exact InL.here | apply InL.there))) (by rfl) (by rfl) (by omega) (fun _ => by (repeat (first | exact Upd.here | apply Upd.there))) ?_; intro v9); refine j_own (by (repeat (first | exact InL.here | apply InL.there))) ?_; rintro A9 c9 rfl)
                | refine j_store rfl rfl rfl rfl rfl rfl rfl rfl (by (repeat (first | exact Upd.here | apply Upd.there))) (by rfl) ?_
                | (refine j_alloc rfl rfl rfl rfl rfl ?_; intro b)
                | (refine j_box rfl rfl rfl rfl rfl ?_; intro b)
                | (refine j_qe rfl rfl rfl ?_
                   first
                   | refine ⟨_, q_pick_t rfl rfl rfl, ?_⟩
                   | refine ⟨_, q_pick_f rfl rfl rfl, ?_⟩
                   | refine ⟨_, q_not rfl rfl, ?_⟩
                   | refine ⟨_, q_index_nat rfl rfl rfl rfl rfl (by omega), ?_⟩
                   | refine ⟨_, q_index_slice rfl rfl rfl rfl rfl (by omega), ?_⟩
                   | refine ⟨_, q_index_arr rfl rfl rfl rfl rfl (by omega), ?_⟩
                   | refine ⟨_, q_index_arr_ext rfl rfl rfl rfl rfl (by omega), ?_⟩
                   | refine ⟨_, q_len_slice rfl rfl rfl rfl, ?_⟩
                   | refine ⟨_, q_makeFunc rfl rfl, ?_⟩
                   | refine ⟨_, q_build_struct rfl rfl rfl rfl rfl, ?_⟩
                   | refine ⟨_, q_build_arr rfl rfl rfl rfl rfl, ?_⟩
                   | refine ⟨_, q_nilCheck rfl rfl, ?_⟩
                   | refine ⟨_, q_field_ext rfl rfl rfl rfl rfl, ?_⟩
                   | refine ⟨_, q_quo rfl rfl rfl (by omega), ?_⟩
                   | refine ⟨_, q_rem rfl rfl rfl (by omega), ?_⟩
                   | refine ⟨_, q_quot rfl rfl rfl (by omega), ?_⟩
                   | refine ⟨_, q_remt rfl rfl rfl (by omega), ?_⟩
                   | refine ⟨_, q_addu8 rfl rfl rfl (by omega), ?_⟩
                   | refine ⟨_, q_quou8 rfl rfl rfl (by omega), ?_⟩
                   | refine ⟨_, q_shr1 rfl rfl rfl, ?_⟩
                   | refine ⟨_, q_shr rfl rfl rfl ⟨by omega, by decide⟩, ?_⟩
                   | refine ⟨_, q_shr rfl rfl rfl ⟨by omega, by show Int.toNat _ ≤ (8:Nat); omega⟩, ?_⟩
                   | refine ⟨_, q_and1 rfl rfl rfl (by first | assumption | omega), ?_⟩
                   | refine ⟨_, q_conv rfl rfl rfl rfl rfl rfl (by first | rfl | (exact i64_wrap (by omega) (by omega)) | (exact u8_wrap (by omega) (by omega)) | (exact u64_wrap (by omega) (by omega)) | (exact u16_wrap (by omega) (by omega))), ?_⟩)
                | refine j_guard_undef rfl rfl rfl rfl rfl ?_
                | (refine j_guard rfl rfl rfl rfl rfl ?_ ?_ <;> intro hc <;> (first | (exact absurd hc (by decide)) | ((try simp only [decide_eq_true_eq, decide_eq_false_iff_not, Bool.not_eq_true', Bool.not_eq_false', Bool.not_true, Bool.not_false, ne_eq, Decidable.not_not] at hc) <;> first | (exfalso; omega) | (exact absurd trivial hc) | skip)))
                | (refine j_buildSlice rfl rfl rfl rfl rfl rfl rfl rfl rfl rfl rfl rfl ?_; intro b)
                | (refine j_append rfl rfl rfl rfl rfl rfl rfl rfl rfl rfl rfl (by (repeat (first | exact InL.here | apply InL.there))) (by (repeat (first | exact InL.here | apply InL.there))) (by rfl) (by rfl) (by omega) (fun _ => by (repeat (first | exact Upd.here | apply Upd.there))) ?_; intro v))
             | (refine gSC ?_
                first
                | refine sc_seq ?_
                | refine sc_region ?_
                | (refine sc_cond rfl ?_ ?_ <;> intro hc <;> (first | (exact absurd hc (by decide)) | ((try simp only [decide_eq_true_eq, decide_eq_false_iff_not, Bool.not_eq_true', Bool.not_eq_false', Bool.not_true, Bool.not_false, ne_eq, Decidable.not_not] at hc) <;> first | (exfalso; omega) | (exact absurd trivial hc) | skip)))
                | refine sc_block ?_
                | refine sc_ret ?_
                | refine sc_exit ?_
                | refine sc_skip ?_
                | refine sc_draw rfl mixed (by kernel_rfl) ?_)
             | (refine gSQ ?_
                first
                | refine sq_seq ?_
                | refine sq_blk ?_
                | refine sq_seq_ret ?_
                | refine sq_blk_ret ?_
                | refine sq_loop_ret ?_
                | refine sq_seq_exit ?_
                | refine sq_blk_hit ?_
                | refine sq_blk_miss rfl ?_
                | refine sq_loop_exit ?_
                | refine sq_ende (.inl rfl) rfl rfl ⟨_, (RVs.cons (RV.tmp rfl) (RVs.nil)), ?_⟩
                | refine sq_ende (.inr rfl) rfl rfl ⟨_, (RVs.cons (RV.tmp rfl) (RVs.nil)), ?_⟩)
             | refine j_nil ?_
             )
            refine sq_loop (i + 1, A9, c9) (by show i + 1 ≤ k; omega) (by show k - (i + 1) < k - i; omega) ?_ ?_
            · dsimp only
              rw [hf9, List.length_append]
              exact (by repeat (first | exact FSub.nil | refine FSub.cons rfl ?_ | refine FSub.conse rfl (by congr 1; omega) ?_))
            · dsimp only
              rw [hf9, own_len, List.length_append]
              exact (by repeat (first | exact LSub.nil | refine LSub.cons (by repeat (first | exact Rem.here | apply Rem.there)) ?_))
          · rw [if_neg (by simpa using hxp), List.append_nil] at hf9
            repeat' (first
             | (refine gJ ?_
                first
                | refine jmv rfl rfl rfl rfl rfl ?_
                | (refine gload rfl rfl ?_
                   refine j_qe rfl rfl rfl ?_
                   first
                   | refine ⟨_, q_load_own rfl rfl rfl rfl (by (repeat (first | exact InL.here | apply InL.there))) (by first | rfl | assumption), ?_⟩
                   | refine ⟨_, q_loadA_own rfl rfl rfl rfl (by (repeat (first | exact InL.here | apply InL.there))) (by rfl), ?_⟩
                   | refine ⟨_, q_loadA_ext rfl rfl rfl rfl ⟨by assumption, (by first | exact id | assumption)⟩ (by rfl), ?_⟩
                   | refine ⟨_, q_load_ext rfl rfl rfl rfl ⟨by assumption, (by first | exact id | assumption)⟩ (by first | rfl | assumption), ?_⟩
                   | refine ⟨_, q_load_extb rfl rfl rfl rfl ⟨by assumption, (by first | exact id | assumption)⟩ (by rfl), ?_⟩
                   | refine ⟨_, q_loadA_extb rfl rfl rfl rfl ⟨by assumption, (by first | exact id | assumption)⟩ (by rfl), ?_⟩
                   | refine ⟨_, q_load_ext0 rfl rfl rfl rfl ⟨by assumption, (by first | exact id | assumption)⟩ (by rfl), ?_⟩)
                | refine jfield rfl rfl rfl rfl rfl rfl rfl rfl ?_
                | refine jcmp rfl rfl rfl rfl rfl rfl rfl ?_
                | refine jar rfl rfl rfl rfl rfl rfl rfl (by omega) ?_
                | refine jextract rfl rfl rfl rfl rfl rfl ?_
                | refine j_store rfl rfl rfl rfl rfl rfl rfl rfl (by (repeat (first | exact Upd.here | apply Upd.there))) (by rfl) ?_
                | (refine j_alloc rfl rfl rfl rfl rfl ?_; intro b)
                | (refine j_box rfl rfl rfl rfl rfl ?_; intro b)
                | (refine j_qe rfl rfl rfl ?_
                   first
                   | refine ⟨_, q_pick_t rfl rfl rfl, ?_⟩
                   | refine ⟨_, q_pick_f rfl rfl rfl, ?_⟩
                   | refine ⟨_, q_not rfl rfl, ?_⟩
                   | refine ⟨_, q_index_nat rfl rfl rfl rfl rfl (by omega), ?_⟩
                   | refine ⟨_, q_index_slice rfl rfl rfl rfl rfl (by omega), ?_⟩
                   | refine ⟨_, q_index_arr rfl rfl rfl rfl rfl (by omega), ?_⟩
                   | refine ⟨_, q_index_arr_ext rfl rfl rfl rfl rfl (by omega), ?_⟩
                   | refine ⟨_, q_len_slice rfl rfl rfl rfl, ?_⟩
                   | refine ⟨_, q_makeFunc rfl rfl, ?_⟩
                   | refine ⟨_, q_build_struct rfl rfl rfl rfl rfl, ?_⟩
                   | refine ⟨_, q_build_arr rfl rfl rfl rfl rfl, ?_⟩
                   | refine ⟨_, q_nilCheck rfl rfl, ?_⟩
                   | refine ⟨_, q_field_ext rfl rfl rfl rfl rfl, ?_⟩
                   | refine ⟨_, q_quo rfl rfl rfl (by omega), ?_⟩
                   | refine ⟨_, q_rem rfl rfl rfl (by omega), ?_⟩
                   | refine ⟨_, q_quot rfl rfl rfl (by omega), ?_⟩
                   | refine ⟨_, q_remt rfl rfl rfl (by omega), ?_⟩
                   | refine ⟨_, q_addu8 rfl rfl rfl (by omega), ?_⟩
                   | refine ⟨_, q_quou8 rfl rfl rfl (by omega), ?_⟩
                   | refine ⟨_, q_shr1 rfl rfl rfl, ?_⟩
                   | refine ⟨_, q_shr rfl rfl rfl ⟨by omega, by decide⟩, ?_⟩
                   | refine ⟨_, q_shr rfl rfl rfl ⟨by omega, by show Int.toNat _ ≤ (8:Nat); omega⟩, ?_⟩
                   | refine ⟨_, q_and1 rfl rfl rfl (by first | assumption | omega), ?_⟩
                   | refine ⟨_, q_conv rfl rfl rfl rfl rfl rfl (by first | rfl | (exact i64_wrap (by omega) (by omega)) | (exact u8_wrap (by omega) (by omega)) | (exact u64_wrap (by omega) (by omega)) | (exact u16_wrap (by omega) (by omega))), ?_⟩)
                | refine j_guard_undef rfl rfl rfl rfl rfl ?_
                | (refine j_guard rfl rfl rfl rfl rfl ?_ ?_ <;> intro hc <;> (first | (exact absurd hc (by decide)) | ((try simp only [decide_eq_true_eq, decide_eq_false_iff_not, Bool.not_eq_true', Bool.not_eq_false', Bool.not_true, Bool.not_false, ne_eq, Decidable.not_not] at hc) <;> first | (exfalso; omega) | (exact absurd trivial hc) | skip)))
                | (refine j_buildSlice rfl rfl rfl rfl rfl rfl rfl rfl rfl rfl rfl rfl ?_; intro b)
                | (refine j_append rfl rfl rfl rfl rfl rfl rfl rfl rfl rfl rfl (by (repeat (first | exact InL.here | apply InL.there))) (by (repeat (first | exact InL.here | apply InL.there))) (by rfl) (by rfl) (by omega) (fun _ => by (repeat (first | exact Upd.here | apply Upd.there))) ?_; intro v))
             | (refine gSC ?_
                first
                | refine sc_seq ?_
                | refine sc_region ?_
                | (refine sc_cond rfl ?_ ?_ <;> intro hc <;> (first | (exact absurd hc (by decide)) | ((try simp only [decide_eq_true_eq, decide_eq_false_iff_not, Bool.not_eq_true', Bool.not_eq_false', Bool.not_true, Bool.not_false, ne_eq, Decidable.not_not] at hc) <;> first | (exfalso; omega) | (exact absurd trivial hc) | skip)))
                | refine sc_block ?_
                | refine sc_ret ?_
                | refine sc_exit ?_
                | refine sc_skip ?_
                | refine sc_draw rfl mixed (by kernel_rfl) ?_)
             | (refine gSQ ?_
                first
                | refine sq_seq ?_
                | refine sq_blk ?_
                | refine sq_seq_ret ?_
                | refine sq_blk_ret ?_
                | refine sq_loop_ret ?_
                | refine sq_seq_exit ?_
                | refine sq_blk_hit ?_
                | refine sq_blk_miss rfl ?_
                | refine sq_loop_exit ?_
                | refine sq_ende (.inl rfl) rfl rfl ⟨_, (RVs.cons (RV.tmp rfl) (RVs.nil)), ?_⟩
                | refine sq_ende (.inr rfl) rfl rfl ⟨_, (RVs.cons (RV.tmp rfl) (RVs.nil)), ?_⟩)
             | refine j_nil ?_
             )
            refine sq_loop (i + 1, Ao, co) (by show i + 1 ≤ k; omega) (by show k - (i + 1) < k - i; omega) ?_ ?_
            · dsimp only
              rw [hf9]
              exact (by repeat (first | exact FSub.nil | refine FSub.cons rfl ?_ | refine FSub.conse rfl (by congr 1; omega) ?_))
            · dsimp only
              rw [hf9]
              exact (by repeat (first | exact LSub.nil | refine LSub.cons (by repeat (first | exact Rem.here | apply Rem.there)) ?_))
        · have hik : i = k := by omega
          subst hik
          rw [List.take_of_length_le (by omega)] at hft ⊢
          obtain ⟨own, hown⟩ : ∃ own, (all.filter fun x => decide (x.pt = p.id)) = own := ⟨_, rfl⟩
          have hoo : ∀ x ∈ own, ruOk x := fun x hx => hao x (by rw [← hown] at hx; exact (List.mem_filter.1 hx).1)
          rw [hown] at hft ⊢
          obtain ⟨g, hg⟩ : ∃ g, lstF (sixU 6) all hol p.id d = g := ⟨_, rfl⟩
          have g0 : lstF (sixU 6) own hol p.id d = g := by rw [← hg, lst_of hck f1, lst_of hck f1, ← hown, statusF_own]
          have g1 : lstF (sixU 6).reverse all.reverse hol p.id d = g := by rw [← hg, lst_of hck f1, lst_of hck f2, status_rev]
          have g2 : 1 ≤ g ∧ g ≤ 3 := by rw [← hg, lst_of hck f1]; exact status_bd _ _ _ _
          have hor : ∀ x ∈ all.reverse, ruOk x := fun x hx => hao x (List.mem_reverse.1 hx)
          have lr : all.reverse.length = i := by simp [hn]
          have ls : (sixU 6).reverse.length = 6 := rfl
          by_cases hst : p.street = 0
          · repeat' (first
             | (refine gJ ?_
                first
                | refine jmv rfl rfl rfl rfl rfl ?_
                | (refine gload rfl rfl ?_
                   refine j_qe rfl rfl rfl ?_
                   first
                   | refine ⟨_, q_load_own rfl rfl rfl rfl (by (repeat (first | exact InL.here | apply InL.there))) (by first | rfl | assumption), ?_⟩
                   | refine ⟨_, q_loadA_own rfl rfl rfl rfl (by (repeat (first | exact InL.here | apply InL.there))) (by rfl), ?_⟩
                   | refine ⟨_, q_loadA_ext rfl rfl rfl rfl ⟨by assumption, (by first | exact id | assumption)⟩ (by rfl), ?_⟩
                   | refine ⟨_, q_load_ext rfl rfl rfl rfl ⟨by assumption, (by first | exact id | assumption)⟩ (by first | rfl | assumption), ?_⟩
                   | refine ⟨_, q_load_extb rfl rfl rfl rfl ⟨by assumption, (by first | exact id | assumption)⟩ (by rfl), ?_⟩
                   | refine ⟨_, q_loadA_extb rfl rfl rfl rfl ⟨by assumption, (by first | exact id | assumption)⟩ (by rfl), ?_⟩
                   | refine ⟨_, q_load_ext0 rfl rfl rfl rfl ⟨by assumption, (by first | exact id | assumption)⟩ (by rfl), ?_⟩)
                | refine jfield rfl rfl rfl rfl rfl rfl rfl rfl ?_
                | refine jcmp rfl rfl rfl rfl rfl rfl rfl ?_
                | refine jar rfl rfl rfl rfl rfl rfl rfl (by omega) ?_
                | refine jextract rfl rfl rfl rfl rfl rfl ?_
                | (refine gcall rfl rfl ?_
                   first
                   | (refine j_qc (f := 14) rfl rfl rfl rfl rfl rfl rfl ?_; refine ⟨_, (fun w' hs => by have h9 := lst_c (.slice none 0 0) (.slice none 0 0) (.slice none 0 0) (some ad) cp (sixU 6) Aa ca all Ah ch hol p.id d w' rfl rfl rfl (by decide) (hRp.st hs) (by omega) hao (hRa.st hs) (by omega) (hRh.st hs); rw [hg, hn, hm] at h9; exact h9), ?_⟩)
                   | (refine j_qc (f := 14) rfl rfl rfl rfl rfl rfl rfl ?_; refine ⟨_, (fun w' hs => by have h9 := lst_c (.slice none 0 0) (.slice none 0 0) (.slice none 0 0) (some ad) cp (sixU 6) Ao co own Ah ch hol p.id d w' rfl rfl rfl (by decide) (hRp.st hs) (by omega) hoo (rs_of_own hs (fun _ => rfl) (by (repeat (first | exact InL.here | apply InL.there)))) (by omega) (hRh.st hs); rw [g0, hm] at h9; exact h9), ?_⟩)
                   | (refine j_qc (f := 14) rfl rfl rfl rfl rfl rfl rfl ?_; refine ⟨_, (fun w' hs => by have h9 := lst_c (.slice none 0 0) (.slice none 0 0) (.slice none 0 0) A2 c2 (sixU 6).reverse Ab cb all.reverse Ah ch hol p.id d w' rfl rfl rfl (by decide) (hRs.st hs) (by omega) hor (hRb.st hs) (by omega) (hRh.st hs); rw [g1, hm, lr] at h9; exact h9), ?_⟩))
                | refine j_store rfl rfl rfl rfl rfl rfl rfl rfl (by (repeat (first | exact Upd.here | apply Upd.there))) (by rfl) ?_
                | (refine j_alloc rfl rfl rfl rfl rfl ?_; intro b)
                | (refine j_box rfl rfl rfl rfl rfl ?_; intro b)
                | (refine j_qe rfl rfl rfl ?_
                   first
                   | refine ⟨_, q_pick_t rfl rfl rfl, ?_⟩
                   | refine ⟨_, q_pick_f rfl rfl rfl, ?_⟩
                   | refine ⟨_, q_not rfl rfl, ?_⟩
                   | refine ⟨_, q_index_nat rfl rfl rfl rfl rfl (by omega), ?_⟩
                   | refine ⟨_, q_index_slice rfl rfl rfl rfl rfl (by omega), ?_⟩
                   | refine ⟨_, q_index_arr rfl rfl rfl rfl rfl (by omega), ?_⟩
                   | refine ⟨_, q_index_arr_ext rfl rfl rfl rfl rfl (by omega), ?_⟩
                   | refine ⟨_, q_len_slice rfl rfl rfl rfl, ?_⟩
                   | refine ⟨_, q_makeFunc rfl rfl, ?_⟩
                   | refine ⟨_, q_build_struct rfl rfl rfl rfl rfl, ?_⟩
                   | refine ⟨_, q_build_arr rfl rfl rfl rfl rfl, ?_⟩
                   | refine ⟨_, q_nilCheck rfl rfl, ?_⟩
                   | refine ⟨_, q_field_ext rfl rfl rfl rfl rfl, ?_⟩
                   | refine ⟨_, q_quo rfl rfl rfl (by omega), ?_⟩
                   | refine ⟨_, q_rem rfl rfl rfl (by omega), ?_⟩
                   | refine ⟨_, q_quot rfl rfl rfl (by omega), ?_⟩
                   | refine ⟨_, q_remt rfl rfl rfl (by omega), ?_⟩
                   | refine ⟨_, q_addu8 rfl rfl rfl (by omega), ?_⟩
                   | refine ⟨_, q_quou8 rfl rfl rfl (by omega), ?_⟩
                   | refine ⟨_, q_shr1 rfl rfl rfl, ?_⟩
                   | refine ⟨_, q_shr rfl rfl rfl ⟨by omega, by decide⟩, ?_⟩
                   | refine ⟨_, q_shr rfl rfl rfl ⟨by omega, by show Int.toNat _ ≤ (8:Nat); omega⟩, ?_⟩
                   | refine ⟨_, q_and1 rfl rfl rfl (by first | assumption | omega), ?_⟩
                   | refine ⟨_, q_conv rfl rfl rfl rfl rfl rfl (by first | rfl | (exact i64_wrap (by omega) (by omega)) | (exact u8_wrap (by omega) (by omega)) | (exact u64_wrap (by omega) (by omega)) | (exact u16_wrap (by omega) (by omega))), ?_⟩)
                | refine j_guard_undef rfl rfl rfl rfl rfl ?_
                | (refine j_guard rfl rfl rfl rfl rfl ?_ ?_ <;> intro hc <;> (first | (exact absurd hc (by decide)) | ((try simp only [decide_eq_true_eq, decide_eq_false_iff_not, Bool.not_eq_true', Bool.not_eq_false', Bool.not_true, Bool.not_false, ne_eq, Decidable.not_not] at hc) <;> first | (exfalso; omega) | (exact absurd trivial hc) | skip)))
                | (refine j_buildSlice rfl rfl rfl rfl rfl rfl rfl rfl rfl rfl rfl rfl ?_; intro b)
                | (refine j_append rfl rfl rfl rfl rfl rfl rfl rfl rfl rfl rfl (by (repeat (first | exact InL.here | apply InL.there))) (by (repeat (first | exact InL.here | apply InL.there))) (by rfl) (by rfl) (by omega) (fun _ => by (repeat (first | exact Upd.here | apply Upd.there))) ?_; intro v))
             | (refine gSC ?_
                first
                | refine sc_seq ?_
                | refine sc_region ?_
                | (refine sc_cond rfl ?_ ?_ <;> intro hc <;> (first | (exact absurd hc (by decide)) | ((try simp only [decide_eq_true_eq, decide_eq_false_iff_not, Bool.not_eq_true', Bool.not_eq_false', Bool.not_true, Bool.not_false, ne_eq, Decidable.not_not] at hc) <;> first | (exfalso; omega) | (exact absurd trivial hc) | skip)))
                | refine sc_block ?_
                | refine sc_ret ?_
                | refine sc_exit ?_
                | refine sc_skip ?_
                | refine sc_draw rfl mixed (by kernel_rfl) ?_)
             | (refine gSQ ?_
                first
                | refine sq_seq ?_
                | refine sq_blk ?_
                | refine sq_seq_ret ?_
                | refine sq_blk_ret ?_
                | refine sq_loop_ret ?_
                | refine sq_seq_exit ?_
                | refine sq_blk_hit ?_
                | refine sq_blk_miss rfl ?_
                | refine sq_loop_exit ?_
                | refine sq_ende (.inl rfl) rfl rfl ⟨_, (RVs.cons (RV.tmp rfl) (RVs.nil)), ?_⟩
                | refine sq_ende (.inr rfl) rfl rfl ⟨_, (RVs.cons (RV.tmp rfl) (RVs.nil)), ?_⟩)
             | refine j_nil ?_
             )
            all_goals exact sq_loop (j + 1) (by omega) (by omega) (by repeat (first | exact FSub.nil | refine FSub.cons rfl ?_ | refine FSub.conse rfl (by congr 1; omega) ?_)) (by repeat (first | exact LSub.nil | refine LSub.cons (by repeat (first | exact Rem.here | apply Rem.there)) ?_))
          · have g3 : lstF (sixU 6) all [] p.id d = g := by rw [← hg, lst_of hck f1, lst_of (check_nil d (by omega) (by omega)) f1]; exact status_street _ _ _ _ _ hst
            repeat' (first
             | (refine gJ ?_
                first
                | refine jmv rfl rfl rfl rfl rfl ?_
                | (refine gload rfl rfl ?_
                   refine j_qe rfl rfl rfl ?_
                   first
                   | refine ⟨_, q_load_own rfl rfl rfl rfl (by (repeat (first | exact InL.here | apply InL.there))) (by first | rfl | assumption), ?_⟩
                   | refine ⟨_, q_loadA_own rfl rfl rfl rfl (by (repeat (first | exact InL.here | apply InL.there))) (by rfl), ?_⟩
                   | refine ⟨_, q_loadA_ext rfl rfl rfl rfl ⟨by assumption, (by first | exact id | assumption)⟩ (by rfl), ?_⟩
                   | refine ⟨_, q_load_ext rfl rfl rfl rfl ⟨by assumption, (by first | exact id | assumption)⟩ (by first | rfl | assumption), ?_⟩
                   | refine ⟨_, q_load_extb rfl rfl rfl rfl ⟨by assumption, (by first | exact id | assumption)⟩ (by rfl), ?_⟩
                   | refine ⟨_, q_loadA_extb rfl rfl rfl rfl ⟨by assumption, (by first | exact id | assumption)⟩ (by rfl), ?_⟩
                   | refine ⟨_, q_load_ext0 rfl rfl rfl rfl ⟨by assumption, (by first | exact id | assumption)⟩ (by rfl), ?_⟩)
                | refine jfield rfl rfl rfl rfl rfl rfl rfl rfl ?_
                | refine jcmp rfl rfl rfl rfl rfl rfl rfl ?_
                | refine jar rfl rfl rfl rfl rfl rfl rfl (by omega) ?_
                | refine jextract rfl rfl rfl rfl rfl rfl ?_
                | (refine gcall rfl rfl ?_
                   first
                   | (refine j_qc (f := 14) rfl rfl rfl rfl rfl rfl rfl ?_; refine ⟨_, (fun w' hs => by have h9 := lst_c (.slice none 0 0) (.slice none 0 0) (.slice none 0 0) (some ad) cp (sixU 6) Aa ca all Ah ch hol p.id d w' rfl rfl rfl (by decide) (hRp.st hs) (by omega) hao (hRa.st hs) (by omega) (hRh.st hs); rw [hg, hn, hm] at h9; exact h9), ?_⟩)
                   | (refine j_qc (f := 14) rfl rfl rfl rfl rfl rfl rfl ?_; refine ⟨_, (fun w' hs => by have h9 := lst_c (.slice none 0 0) (.slice none 0 0) (.slice none 0 0) (some ad) cp (sixU 6) Ao co own Ah ch hol p.id d w' rfl rfl rfl (by decide) (hRp.st hs) (by omega) hoo (rs_of_own hs (fun _ => rfl) (by (repeat (first | exact InL.here | apply InL.there)))) (by omega) (hRh.st hs); rw [g0, hm] at h9; exact h9), ?_⟩)
                   | (refine j_qc (f := 14) rfl rfl rfl rfl rfl rfl rfl ?_; refine ⟨_, (fun w' hs => by have h9 := lst_c (.slice none 0 0) (.slice none 0 0) (.slice none 0 0) A2 c2 (sixU 6).reverse Ab cb all.reverse Ah ch hol p.id d w' rfl rfl rfl (by decide) (hRs.st hs) (by omega) hor (hRb.st hs) (by omega) (hRh.st hs); rw [g1, hm, lr] at h9; exact h9), ?_⟩)
                   | (refine j_qc (f := 14) rfl rfl rfl rfl rfl rfl rfl ?_; refine ⟨_, (fun w' hs => by have h9 := lst_c (.slice none 0 0) (.slice none 0 0) (.slice none 0 0) (some ad) cp (sixU 6) Aa ca all none 0 [] p.id d w' rfl rfl rfl (by decide) (hRp.st hs) (by omega) hao (hRa.st hs) (by simp) RS.nil; rw [g3, hn] at h9; exact h9), ?_⟩))
                | refine j_store rfl rfl rfl rfl rfl rfl rfl rfl (by (repeat (first | exact Upd.here | apply Upd.there))) (by rfl) ?_
                | (refine j_alloc rfl rfl rfl rfl rfl ?_; intro b)
                | (refine j_box rfl rfl rfl rfl rfl ?_; intro b)
                | (refine j_qe rfl rfl rfl ?_
                   first
                   | refine ⟨_, q_pick_t rfl rfl rfl, ?_⟩
                   | refine ⟨_, q_pick_f rfl rfl rfl, ?_⟩
                   | refine ⟨_, q_not rfl rfl, ?_⟩
                   | refine ⟨_, q_index_nat rfl rfl rfl rfl rfl (by omega), ?_⟩
                   | refine ⟨_, q_index_slice rfl rfl rfl rfl rfl (by omega), ?_⟩
                   | refine ⟨_, q_index_arr rfl rfl rfl rfl rfl (by omega), ?_⟩
                   | refine ⟨_, q_index_arr_ext rfl rfl rfl rfl rfl (by omega), ?_⟩
                   | refine ⟨_, q_len_slice rfl rfl rfl rfl, ?_⟩
                   | refine ⟨_, q_makeFunc rfl rfl, ?_⟩
                   | refine ⟨_, q_build_struct rfl rfl rfl rfl rfl, ?_⟩
                   | refine ⟨_, q_build_arr rfl rfl rfl rfl rfl, ?_⟩
                   | refine ⟨_, q_nilCheck rfl rfl, ?_⟩
                   | refine ⟨_, q_field_ext rfl rfl rfl rfl rfl, ?_⟩
                   | refine ⟨_, q_quo rfl rfl rfl (by omega), ?_⟩
                   | refine ⟨_, q_rem rfl rfl rfl (by omega), ?_⟩
                   | refine ⟨_, q_quot rfl rfl rfl (by omega), ?_⟩
                   | refine ⟨_, q_remt rfl rfl rfl (by omega), ?_⟩
                   | refine ⟨_, q_addu8 rfl rfl rfl (by omega), ?_⟩
                   | refine ⟨_, q_quou8 rfl rfl rfl (by omega), ?_⟩
                   | refine ⟨_, q_shr1 rfl rfl rfl, ?_⟩
                   | refine ⟨_, q_shr rfl rfl rfl ⟨by omega, by decide⟩, ?_⟩
                   | refine ⟨_, q_shr rfl rfl rfl ⟨by omega, by show Int.toNat _ ≤ (8:Nat); omega⟩, ?_⟩
                   | refine ⟨_, q_and1 rfl rfl rfl (by first | assumption | omega), ?_⟩
                   | refine ⟨_, q_conv rfl rfl rfl rfl rfl rfl (by first | rfl | (exact i64_wrap (by omega) (by omega)) | (exact u8_wrap (by omega) (by omega)) | (exact u64_wrap (by omega) (by omega)) | (exact u16_wrap (by omega) (by omega))), ?_⟩)
                | refine j_guard_undef rfl rfl rfl rfl rfl ?_
                | (refine j_guard rfl rfl rfl rfl rfl ?_ ?_ <;> intro hc <;> (first | (exact absurd hc (by decide)) | ((try simp only [decide_eq_true_eq, decide_eq_false_iff_not, Bool.not_eq_true', Bool.not_eq_false', Bool.not_true, Bool.not_false, ne_eq, Decidable.not_not] at hc) <;> first | (exfalso; omega) | (exact absurd trivial hc) | skip)))
                | (refine j_buildSlice rfl rfl rfl rfl rfl rfl rfl rfl rfl rfl rfl rfl ?_; intro b)
                | (refine j_append rfl rfl rfl rfl rfl rfl rfl rfl rfl rfl rfl (by (repeat (first | exact InL.here | apply InL.there))) (by (repeat (first | exact InL.here | apply InL.there))) (by rfl) (by rfl) (by omega) (fun _ => by (repeat (first | exact Upd.here | apply Upd.there))) ?_; intro v))
             | (refine gSC ?_
                first
                | refine sc_seq ?_
                | refine sc_region ?_
                | (refine sc_cond rfl ?_ ?_ <;> intro hc <;> (first | (exact absurd hc (by decide)) | ((try simp only [decide_eq_true_eq, decide_eq_false_iff_not, Bool.not_eq_true', Bool.not_eq_false', Bool.not_true, Bool.not_false, ne_eq, Decidable.not_not] at hc) <;> first | (exfalso; omega) | (exact absurd trivial hc) | skip)))
                | refine sc_block ?_
                | refine sc_ret ?_
                | refine sc_exit ?_
                | refine sc_skip ?_
                | refine sc_draw rfl mixed (by kernel_rfl) ?_)
             | (refine gSQ ?_
                first
                | refine sq_seq ?_
                | refine sq_blk ?_
                | refine sq_seq_ret ?_
                | refine sq_blk_ret ?_
                | refine sq_loop_ret ?_
                | refine sq_seq_exit ?_
                | refine sq_blk_hit ?_
                | refine sq_blk_miss rfl ?_
                | refine sq_loop_exit ?_
                | refine sq_ende (.inl rfl) rfl rfl ⟨_, (RVs.cons (RV.tmp rfl) (RVs.nil)), ?_⟩
                | refine sq_ende (.inr rfl) rfl rfl ⟨_, (RVs.cons (RV.tmp rfl) (RVs.nil)), ?_⟩)
             | refine j_nil ?_
             )
            all_goals exact sq_loop (j + 1) (by omega) (by omega) (by repeat (first | exact FSub.nil | refine FSub.cons rfl ?_ | refine FSub.conse rfl (by congr 1; omega) ?_)) (by repeat (first | exact LSub.nil | refine LSub.cons (by repeat (first | exact Rem.here | apply Rem.there)) ?_))
      · have hj6 : j = 6 := by omega
        subst hj6
        repeat' (first
         | (refine gJ ?_
            first
            | refine jmv rfl rfl rfl rfl rfl ?_
            | (refine gload rfl rfl ?_
               refine j_qe rfl rfl rfl ?_
               first
               | refine ⟨_, q_load_own rfl rfl rfl rfl (by (repeat (first | exact InL.here | apply InL.there))) (by first | rfl | assumption), ?_⟩
               | refine ⟨_, q_loadA_own rfl rfl rfl rfl (by (repeat (first | exact InL.here | apply InL.there))) (by rfl), ?_⟩
               | refine ⟨_, q_loadA_ext rfl rfl rfl rfl ⟨by assumption, (by first | exact id | assumption)⟩ (by rfl), ?_⟩
               | refine ⟨_, q_load_ext rfl rfl rfl rfl ⟨by assumption, (by first | exact id | assumption)⟩ (by first | rfl | assumption), ?_⟩
               | refine ⟨_, q_load_extb rfl rfl rfl rfl ⟨by assumption, (by first | exact id | assumption)⟩ (by rfl), ?_⟩
               | refine ⟨_, q_loadA_extb rfl rfl rfl rfl ⟨by assumption, (by first | exact id | assumption)⟩ (by rfl), ?_⟩
               | refine ⟨_, q_load_ext0 rfl rfl rfl rfl ⟨by assumption, (by first | exact id | assumption)⟩ (by rfl), ?_⟩)
            | refine jfield rfl rfl rfl rfl rfl rfl rfl rfl ?_
            | refine jcmp rfl rfl rfl rfl rfl rfl rfl ?_
            | refine jar rfl rfl rfl rfl rfl rfl rfl (by omega) ?_
            | refine jextract rfl rfl rfl rfl rfl rfl ?_
            | (refine gcall rfl rfl ?_
               first
               | (refine j_qc (f := 15) rfl rfl rfl rfl rfl rfl rfl ?_; refine ⟨_, (fun w' _ => awake_c w'), ?_⟩))
            | refine j_store rfl rfl rfl rfl rfl rfl rfl rfl (by (repeat (first | exact Upd.here | apply Upd.there))) (by rfl) ?_
            | (refine j_alloc rfl rfl rfl rfl rfl ?_; intro b)
            | (refine j_box rfl rfl rfl rfl rfl ?_; intro b)
            | (refine j_qe rfl rfl rfl ?_
               first
               | refine ⟨_, q_pick_t rfl rfl rfl, ?_⟩
               | refine ⟨_, q_pick_f rfl rfl rfl, ?_⟩
               | refine ⟨_, q_not rfl rfl, ?_⟩
               | refine ⟨_, q_index_nat rfl rfl rfl rfl rfl (by omega), ?_⟩
               | refine ⟨_, q_index_slice rfl rfl rfl rfl rfl (by omega), ?_⟩
               | refine ⟨_, q_index_arr rfl rfl rfl rfl rfl (by omega), ?_⟩
               | refine ⟨_, q_index_arr_ext rfl rfl rfl rfl rfl (by omega), ?_⟩
               | refine ⟨_, q_len_slice rfl rfl rfl rfl, ?_⟩
               | refine ⟨_, q_makeFunc rfl rfl, ?_⟩
               | refine ⟨_, q_build_struct rfl rfl rfl rfl rfl, ?_⟩
               | refine ⟨_, q_build_arr rfl rfl rfl rfl rfl, ?_⟩
               | refine ⟨_, q_nilCheck rfl rfl, ?_⟩
               | refine ⟨_, q_field_ext rfl rfl rfl rfl rfl, ?_⟩
               | refine ⟨_, q_quo rfl rfl rfl (by omega), ?_⟩
               | refine ⟨_, q_rem rfl rfl rfl (by omega), ?_⟩
               | refine ⟨_, q_quot rfl rfl rfl (by omega), ?_⟩
               | refine ⟨_, q_remt rfl rfl rfl (by omega), ?_⟩
               | refine ⟨_, q_addu8 rfl rfl rfl (by omega), ?_⟩
               | refine ⟨_, q_quou8 rfl rfl rfl (by omega), ?_⟩
               | refine ⟨_, q_shr1 rfl rfl rfl, ?_⟩
               | refine ⟨_, q_shr rfl rfl rfl ⟨by omega, by decide⟩, ?_⟩
               | refine ⟨_, q_shr rfl rfl rfl ⟨by omega, by show Int.toNat _ ≤ (8:Nat); omega⟩, ?_⟩
               | refine ⟨_, q_and1 rfl rfl rfl (by first | assumption | omega), ?_⟩
               | refine ⟨_, q_conv rfl rfl rfl rfl rfl rfl (by first | rfl | (exact i64_wrap (by omega) (by omega)) | (exact u8_wrap (by omega) (by omega)) | (exact u64_wrap (by omega) (by omega)) | (exact u16_wrap (by omega) (by omega))), ?_⟩)
            | refine j_guard_undef rfl rfl rfl rfl rfl ?_
            | (refine j_guard rfl rfl rfl rfl rfl ?_ ?_ <;> intro hc <;> (first | (exact absurd hc (by decide)) | ((try simp only [decide_eq_true_eq, decide_eq_false_iff_not, Bool.not_eq_true', Bool.not_eq_false', Bool.not_true, Bool.not_false, ne_eq, Decidable.not_not] at hc) <;> first | (exfalso; omega) | (exact absurd trivial hc) | skip)))
            | (refine j_buildSlice rfl rfl rfl rfl rfl rfl rfl rfl rfl rfl rfl rfl ?_; intro b)
            | (refine j_append rfl rfl rfl rfl rfl rfl rfl rfl rfl rfl rfl (by (repeat (first | exact InL.here | apply InL.there))) (by (repeat (first | exact InL.here | apply InL.there))) (by rfl) (by rfl) (by omega) (fun _ => by (repeat (first | exact Upd.here | apply Upd.there))) ?_; intro v))
         | (refine gSC ?_
            first
            | refine sc_seq ?_
            | refine sc_region ?_
            | (refine sc_cond rfl ?_ ?_ <;> intro hc <;> (first | (exact absurd hc (by decide)) | ((try simp only [decide_eq_true_eq, decide_eq_false_iff_not, Bool.not_eq_true', Bool.not_eq_false', Bool.not_true, Bool.not_false, ne_eq, Decidable.not_not] at hc) <;> first | (exfalso; omega) | (exact absurd trivial hc) | skip)))
            | refine sc_block ?_
            | refine sc_ret ?_
            | refine sc_exit ?_
            | refine sc_skip ?_
            | refine sc_draw rfl mixed (by kernel_rfl) ?_)
         | (refine gSQ ?_
            first
            | refine sq_seq ?_
            | refine sq_blk ?_
            | refine sq_seq_ret ?_
            | refine sq_blk_ret ?_
            | refine sq_loop_ret ?_
            | refine sq_seq_exit ?_
            | refine sq_blk_hit ?_
            | refine sq_blk_miss rfl ?_
            | refine sq_loop_exit ?_
            | refine sq_ende (.inl rfl) rfl rfl ⟨_, (RVs.cons (RV.tmp rfl) (RVs.nil)), ?_⟩
            | refine sq_ende (.inr rfl) rfl rfl ⟨_, (RVs.cons (RV.tmp rfl) (RVs.nil)), ?_⟩)
         | refine j_nil ?_
         )
        (intro w' hS; refine ⟨?_, below_then hB2 hS⟩; simp only [pack])
end Go.Proofs.Ytbejfbekamikpaa
