/-
  DeliverRules: what the law's text returns.
-/
import Derived.Test.YtbejfbekamikpaaCom
import Derived.Test.YtbejfbekamikpaaPl4
namespace Go.Proofs.Ytbejfbekamikpaa
open Go.RowKit Eng
set_option linter.unusedVariables false
set_option linter.unusedSimpArgs false
attribute [local irreducible] SC SQ J Qt Calls Iterates
set_option maxHeartbeats 8000000 in
theorem ruleslaw_c (A : Option Addr) (c : Nat) (l : List Nt) (B : Option Addr) (bc : Nat) (fr : List Int) (day : Int) (w : World) (hl : l.length ≤ 9223372036854775807) (hok : ∀ x ∈ l, ntOk x) (h : RS w 4 ntC A l)
    (hfl : fr.length ≤ 9223372036854775807) (hfo : ∀ x ∈ fr, 0 ≤ x ∧ x ≤ 255) (hF : RS w 1 u8C B fr) (hd : 0 ≤ day ∧ day ≤ 65535) :
    Calls Try.prog 9 #[.slice A l.length c, .slice B fr.length bc, .int .u16 day] w fun e w' => e = .returned (.bool true) ∧ Below w.heap.size w w' := by
  have hal0 := rulesF_len l
  have hao0 := rules_ok l hok
  have hvr := valid_rules l hok
  have hrr := rules_right l hok
  have hfr := off_right fr
  have hhl0 := offF_len fr
  have hd1 : 0 ≤ day % 2001 ∧ day % 2001 ≤ 2000 := by omega
  obtain ⟨d, hde⟩ : ∃ d, day % 2001 = d := ⟨_, rfl⟩
  rw [hde] at hd1
  obtain ⟨m1, m2, m3, m4⟩ := mth_day_bd d hd1.1 (by omega)
  have m5 := (md_bd (mthF d) (leapB (yrF d)) m1 m2).2
  refine eng_start (n := 192) (args := [.slice A l.length c, .slice B fr.length bc, .int .u16 day]) tab tab_ok fns fns_ok [.tmp 6] Try.func9 rfl rfl rfl rfl ?_
  repeat' (first
   | (refine gJ ?_
      first
      | refine jmv rfl rfl rfl rfl rfl ?_
      | (refine gload rfl rfl ?_
         refine j_qe rfl rfl rfl ?_
         first
         | refine ⟨_, q_load_own rfl rfl rfl rfl (by (repeat (first | exact InL.here | apply InL.there))) (by first | rfl | assumption), ?_⟩
         | refine ⟨_, q_loadA_own rfl rfl rfl rfl (by (repeat (first | exact InL.here | apply InL.there))) (by rfl), ?_⟩
         | refine ⟨_, q_loadA_ext rfl rfl rfl rfl ⟨by assumption, (by first | exact id | assumption)⟩ (by rfl), ?_⟩
         | refine ⟨_, q_load_ext rfl rfl rfl rfl ⟨by assumption, (by first | exact id | assumption)⟩ (by first | rfl | assumption), ?_⟩
         | refine ⟨_, q_load_extb rfl rfl rfl rfl ⟨by assumption, (by first | exact id | assumption)⟩ (by rfl), ?_⟩
         | refine ⟨_, q_loadA_extb rfl rfl rfl rfl ⟨by assumption, (by first | exact id | assumption)⟩ (by rfl), ?_⟩
         | refine ⟨_, q_load_ext0 rfl rfl rfl rfl ⟨by assumption, (by first | exact id | assumption)⟩ (by rfl), ?_⟩)
      | refine jfield rfl rfl rfl rfl rfl rfl rfl rfl ?_
      | refine jcmp rfl rfl rfl rfl rfl rfl rfl ?_
      | refine jar rfl rfl rfl rfl rfl rfl rfl (by omega) ?_
      | refine jextract rfl rfl rfl rfl rfl rfl ?_
      | (refine gcall rfl rfl ?_
         first
         | (refine j_qc (f := 26) rfl rfl rfl rfl rfl rfl rfl ?_; refine ⟨_, (fun w' hs => by have h9 := Valid_c (.slice none 0 0) (.slice none 0 0) (.slice none 0 0) Ap cp (sixU 6) Aa ca (rulesF l) w' rfl rfl rfl (by decide) (rs_of_own (l := sixU 6) hs (fun _ => rfl) (by (repeat (first | exact InL.here | apply InL.there)))) (by omega) hao0 (rs_of_own (l := rulesF l) hs (fun _ => rfl) (by (repeat (first | exact InL.here | apply InL.there)))); rw [hvr] at h9; exact h9), ?_⟩)
         | (refine j_qc (f := 20) rfl rfl rfl rfl rfl rfl rfl ?_; refine ⟨_, (fun w' _ => by have h9 := date_c d w' hd1.1 (by omega); rw [hde]; exact h9), ?_⟩))
      | (refine gcall rfl rfl ?_; refine j_callN (f := 11) rfl rfl rfl rfl rfl rfl rfl sixV (fun _ => True) sixL (fun w' _ => six_c w') (fun _ => trivial) ?_; rintro vp _; refine j_own InL.here ?_; rintro Ap cp rfl)
      | (refine gcall rfl rfl ?_; refine j_callN (f := 12) rfl rfl rfl rfl rfl rfl rfl (fun v => v) (fun _ => True) (ruL l) (fun w' hs => rules_c A c l w' hl hok (h.st hs)) (fun _ => trivial) ?_; rintro va _; refine j_own InL.here ?_; rintro Aa ca rfl)
      | (refine gcall rfl rfl ?_; refine j_callN (f := 13) rfl rfl rfl rfl rfl rfl rfl (fun v => v) (fun _ => True) (offL fr) (fun w' hs => off_c B bc fr w' hfl hfo (hF.st hs)) (fun _ => trivial) ?_; rintro vh _; refine j_own InL.here ?_; rintro Ah ch rfl)
      | refine j_store rfl rfl rfl rfl rfl rfl rfl rfl (by (repeat (first | exact Upd.here | apply Upd.there))) (by rfl) ?_
      | (refine j_alloc rfl rfl rfl rfl rfl ?_; intro b)
      | (refine j_box rfl rfl rfl rfl rfl ?_; intro b)
      | (refine j_qe rfl rfl rfl ?_
         first
         | refine ⟨_, q_pick_t rfl rfl rfl, ?_⟩
         | refine ⟨_, q_pick_f rfl rfl rfl, ?_⟩
         | refine ⟨_, q_not rfl rfl, ?_⟩
         | refine ⟨_, q_index_nat rfl rfl rfl rfl rfl (by omega), ?_⟩
         | refine ⟨_, q_index_slice rfl rfl rfl rfl rfl (by omega), ?_⟩
         | refine ⟨_, q_index_arr rfl rfl rfl rfl rfl (by omega), ?_⟩
         | refine ⟨_, q_index_arr_ext rfl rfl rfl rfl rfl (by omega), ?_⟩
         | refine ⟨_, q_len_slice rfl rfl rfl rfl, ?_⟩
         | refine ⟨_, q_makeFunc rfl rfl, ?_⟩
         | refine ⟨_, q_build_struct rfl rfl rfl rfl rfl, ?_⟩
         | refine ⟨_, q_build_arr rfl rfl rfl rfl rfl, ?_⟩
         | refine ⟨_, q_nilCheck rfl rfl, ?_⟩
         | refine ⟨_, q_field_ext rfl rfl rfl rfl rfl, ?_⟩
         | refine ⟨_, q_quo rfl rfl rfl (by omega), ?_⟩
         | refine ⟨_, q_rem rfl rfl rfl (by omega), ?_⟩
         | refine ⟨_, q_quot rfl rfl rfl (by omega), ?_⟩
         | refine ⟨_, q_remt rfl rfl rfl (by omega), ?_⟩
         | refine ⟨_, q_addu8 rfl rfl rfl (by omega), ?_⟩
         | refine ⟨_, q_quou8 rfl rfl rfl (by omega), ?_⟩
         | refine ⟨_, q_shr1 rfl rfl rfl, ?_⟩
         | refine ⟨_, q_shr rfl rfl rfl ⟨by omega, by decide⟩, ?_⟩
         | refine ⟨_, q_shr rfl rfl rfl ⟨by omega, by show Int.toNat _ ≤ (8:Nat); omega⟩, ?_⟩
         | refine ⟨_, q_and1 rfl rfl rfl (by first | assumption | omega), ?_⟩
         | refine ⟨_, q_conv rfl rfl rfl rfl rfl rfl (by first | rfl | (exact i64_wrap (by omega) (by omega)) | (exact u8_wrap (by omega) (by omega)) | (exact u64_wrap (by omega) (by omega)) | (exact u16_wrap (by omega) (by omega))), ?_⟩)
      | refine j_guard_undef rfl rfl rfl rfl rfl ?_
      | (refine j_guard rfl rfl rfl rfl rfl ?_ ?_ <;> intro hc <;> (first | (exact absurd hc (by decide)) | ((try simp only [decide_eq_true_eq, decide_eq_false_iff_not, Bool.not_eq_true', Bool.not_eq_false', Bool.not_true, Bool.not_false, ne_eq, Decidable.not_not] at hc) <;> first | (exfalso; omega) | (exact absurd trivial hc) | skip)))
      | (refine j_buildSlice rfl rfl rfl rfl rfl rfl rfl rfl rfl rfl rfl rfl ?_; intro b)
      | (refine j_append rfl rfl rfl rfl rfl rfl rfl rfl rfl rfl rfl (by (repeat (first | exact InL.here | apply InL.there))) (by (repeat (first | exact InL.here | apply InL.there))) (by rfl) (by rfl) (by omega) (fun _ => by (repeat (first | exact Upd.here | apply Upd.there))) ?_; intro v))
   | (refine gSC ?_
      first
      | refine sc_seq ?_
      | refine sc_region ?_
      | (refine sc_cond rfl ?_ ?_ <;> intro hc <;> (first | (exact absurd hc (by decide)) | ((try simp only [decide_eq_true_eq, decide_eq_false_iff_not, Bool.not_eq_true', Bool.not_eq_false', Bool.not_true, Bool.not_false, ne_eq, Decidable.not_not] at hc) <;> first | (exfalso; omega) | (exact absurd trivial hc) | skip)))
      | refine sc_block ?_
      | refine sc_ret ?_
      | refine sc_exit ?_
      | refine sc_skip ?_
      | refine sc_draw rfl mixed (by kernel_rfl) ?_)
   | (refine gSQ ?_
      first
      | refine sq_seq ?_
      | refine sq_blk ?_
      | refine sq_seq_ret ?_
      | refine sq_blk_ret ?_
      | refine sq_loop_ret ?_
      | refine sq_seq_exit ?_
      | refine sq_blk_hit ?_
      | refine sq_blk_miss rfl ?_
      | refine sq_loop_exit ?_
      | refine sq_ende (.inl rfl) rfl rfl ⟨_, (RVs.cons (RV.tmp rfl) (RVs.nil)), ?_⟩
      | refine sq_ende (.inr rfl) rfl rfl ⟨_, (RVs.cons (RV.tmp rfl) (RVs.nil)), ?_⟩)
   | refine j_nil ?_
   )
  simp only [hde]
  rename Nat => bR
  refine sc_now ?_
  intro w1 hS1
  have hRa : RS w1 5 ruC Aa (rulesF l) := rs_of_own (l := rulesF l) hS1 (fun _ => rfl) (by (repeat (first | exact InL.here | apply InL.there)))
  have hRh : RS w1 1 intC Ah (offF fr) := rs_of_own (l := offF fr) hS1 (fun _ => rfl) (by (repeat (first | exact InL.here | apply InL.there)))
  have hRp : RS w1 8 ptC Ap (sixU 6) := rs_of_own (l := sixU 6) hS1 (fun _ => rfl) (by (repeat (first | exact InL.here | apply InL.there)))
  have hER : Ext w1 ⟨bR, 0, none⟩ [.slice none 0 0, .slice none 0 0, .slice none 0 0, .slice Ap 6 cp] := hS1.ext (by (repeat (first | exact InL.here | apply InL.there)))
  have hB1 : Below w.heap.size w w1 := hS1.below
  have hal := rulesF_len l
  have hao := rules_ok l hok
  have hhl := offF_len fr
  dsimp only
  clear hS1 h hF hok hfo hl hfl hvr hal0 hao0 hhl0
  obtain ⟨now, hnow⟩ : ∃ now, 100 * mthF d + dayF d = now := ⟨_, rfl⟩
  have htell := fun t => tell_of (rulesF l) (offF fr) d t hd1.1 (by omega) hfr (fun x hx => (hrr x hx).1)
  simp only [hnow] at htell ⊢
  generalize rulesF l = all at *
  generalize offF fr = hol at *
  obtain ⟨n, hn⟩ : ∃ n, all.length = n := ⟨_, rfl⟩
  obtain ⟨m, hm⟩ : ∃ m, hol.length = m := ⟨_, rfl⟩
  simp only [hn, hm] at hal hhl ⊢
  refine sc_loop (ι := Nat) (fun j => j ≤ 8) (fun j => 8 - j) (fun j => [(7, .pointer (some ⟨bR, 0, none⟩)), (8, .slice Aa n ca), (9, .slice Ah m ch), (10, .int .i64 d), (17, .int .i64 now), (18, .int .i64 j)]) (fun _ => []) 0 (by show 0 ≤ 8; omega) (by repeat (first | exact FSub.nil | refine FSub.cons rfl ?_ | refine FSub.conse rfl (by congr 1; omega) ?_)) (by repeat (first | exact LSub.nil | refine LSub.cons (by repeat (first | exact Rem.here | apply Rem.there)) ?_)) ?_
  intro j hj
  by_cases hlj : j < 8
  · repeat' (first
     | (refine gJ ?_
        first
        | refine jmv rfl rfl rfl rfl rfl ?_
        | (refine gload rfl rfl ?_
           refine j_qe rfl rfl rfl ?_
           first
           | refine ⟨_, q_load_own rfl rfl rfl rfl (by (repeat (first | exact InL.here | apply InL.there))) (by first | rfl | assumption), ?_⟩
           | refine ⟨_, q_loadA_own rfl rfl rfl rfl (by (repeat (first | exact InL.here | apply InL.there))) (by rfl), ?_⟩
           | refine ⟨_, q_loadA_ext rfl rfl rfl rfl ⟨by assumption, (by first | exact id | assumption)⟩ (by rfl), ?_⟩
           | refine ⟨_, q_load_ext rfl rfl rfl rfl ⟨by assumption, (by first | exact id | assumption)⟩ (by first | rfl | assumption), ?_⟩
           | refine ⟨_, q_load_extb rfl rfl rfl rfl ⟨by assumption, (by first | exact id | assumption)⟩ (by rfl), ?_⟩
           | refine ⟨_, q_loadA_extb rfl rfl rfl rfl ⟨by assumption, (by first | exact id | assumption)⟩ (by rfl), ?_⟩
           | refine ⟨_, q_load_ext0 rfl rfl rfl rfl ⟨by assumption, (by first | exact id | assumption)⟩ (by rfl), ?_⟩)
        | refine jfield rfl rfl rfl rfl rfl rfl rfl rfl ?_
        | refine jcmp rfl rfl rfl rfl rfl rfl rfl ?_
        | refine jar rfl rfl rfl rfl rfl rfl rfl (by omega) ?_
        | refine jextract rfl rfl rfl rfl rfl rfl ?_
        | refine j_store rfl rfl rfl rfl rfl rfl rfl rfl (by (repeat (first | exact Upd.here | apply Upd.there))) (by rfl) ?_
        | (refine j_alloc rfl rfl rfl rfl rfl ?_; intro b)
        | (refine j_box rfl rfl rfl rfl rfl ?_; intro b)
        | (refine j_qe rfl rfl rfl ?_
           first
           | refine ⟨_, q_pick_t rfl rfl rfl, ?_⟩
           | refine ⟨_, q_pick_f rfl rfl rfl, ?_⟩
           | refine ⟨_, q_not rfl rfl, ?_⟩
           | refine ⟨_, q_index_nat rfl rfl rfl rfl rfl (by omega), ?_⟩
           | refine ⟨_, q_index_slice rfl rfl rfl rfl rfl (by omega), ?_⟩
           | refine ⟨_, q_index_arr rfl rfl rfl rfl rfl (by omega), ?_⟩
           | refine ⟨_, q_index_arr_ext rfl rfl rfl rfl rfl (by omega), ?_⟩
           | refine ⟨_, q_len_slice rfl rfl rfl rfl, ?_⟩
           | refine ⟨_, q_makeFunc rfl rfl, ?_⟩
           | refine ⟨_, q_build_struct rfl rfl rfl rfl rfl, ?_⟩
           | refine ⟨_, q_build_arr rfl rfl rfl rfl rfl, ?_⟩
           | refine ⟨_, q_nilCheck rfl rfl, ?_⟩
           | refine ⟨_, q_field_ext rfl rfl rfl rfl rfl, ?_⟩
           | refine ⟨_, q_quo rfl rfl rfl (by omega), ?_⟩
           | refine ⟨_, q_rem rfl rfl rfl (by omega), ?_⟩
           | refine ⟨_, q_quot rfl rfl rfl (by omega), ?_⟩
           | refine ⟨_, q_remt rfl rfl rfl (by omega), ?_⟩
           | refine ⟨_, q_addu8 rfl rfl rfl (by omega), ?_⟩
           | refine ⟨_, q_quou8 rfl rfl rfl (by omega), ?_⟩
           | refine ⟨_, q_shr1 rfl rfl rfl, ?_⟩
           | refine ⟨_, q_shr rfl rfl rfl ⟨by omega, by decide⟩, ?_⟩
           | refine ⟨_, q_shr rfl rfl rfl ⟨by omega, by show Int.toNat _ ≤ (8:Nat); omega⟩, ?_⟩
           | refine ⟨_, q_and1 rfl rfl rfl (by first | assumption | omega), ?_⟩
           | refine ⟨_, q_conv rfl rfl rfl rfl rfl rfl (by first | rfl | (exact i64_wrap (by omega) (by omega)) | (exact u8_wrap (by omega) (by omega)) | (exact u64_wrap (by omega) (by omega)) | (exact u16_wrap (by omega) (by omega))), ?_⟩)
        | refine j_guard_undef rfl rfl rfl rfl rfl ?_
        | (refine j_guard rfl rfl rfl rfl rfl ?_ ?_ <;> intro hc <;> (first | (exact absurd hc (by decide)) | ((try simp only [decide_eq_true_eq, decide_eq_false_iff_not, Bool.not_eq_true', Bool.not_eq_false', Bool.not_true, Bool.not_false, ne_eq, Decidable.not_not] at hc) <;> first | (exfalso; omega) | (exact absurd trivial hc) | skip)))
        | (refine j_buildSlice rfl rfl rfl rfl rfl rfl rfl rfl rfl rfl rfl rfl ?_; intro b)
        | (refine j_append rfl rfl rfl rfl rfl rfl rfl rfl rfl rfl rfl (by (repeat (first | exact InL.here | apply InL.there))) (by (repeat (first | exact InL.here | apply InL.there))) (by rfl) (by rfl) (by omega) (fun _ => by (repeat (first | exact Upd.here | apply Upd.there))) ?_; intro v))
     | (refine gSC ?_
        first
        | refine sc_seq ?_
        | refine sc_region ?_
        | (refine sc_cond rfl ?_ ?_ <;> intro hc <;> (first | (exact absurd hc (by decide)) | ((try simp only [decide_eq_true_eq, decide_eq_false_iff_not, Bool.not_eq_true', Bool.not_eq_false', Bool.not_true, Bool.not_false, ne_eq, Decidable.not_not] at hc) <;> first | (exfalso; omega) | (exact absurd trivial hc) | skip)))
        | refine sc_block ?_
        | refine sc_ret ?_
        | refine sc_exit ?_
        | refine sc_skip ?_
        | refine sc_draw rfl mixed (by kernel_rfl) ?_)
     | (refine gSQ ?_
        first
        | refine sq_seq ?_
        | refine sq_blk ?_
        | refine sq_seq_ret ?_
        | refine sq_blk_ret ?_
        | refine sq_loop_ret ?_
        | refine sq_seq_exit ?_
        | refine sq_blk_hit ?_
        | refine sq_blk_miss rfl ?_
        | refine sq_loop_exit ?_
        | refine sq_ende (.inl rfl) rfl rfl ⟨_, (RVs.cons (RV.tmp rfl) (RVs.nil)), ?_⟩
        | refine sq_ende (.inr rfl) rfl rfl ⟨_, (RVs.cons (RV.tmp rfl) (RVs.nil)), ?_⟩)
     | refine j_nil ?_
     )
    refine sc_loop (ι := Nat) (fun i => i ≤ n) (fun i => n - i) (fun i => [(7, .pointer (some ⟨bR, 0, none⟩)), (8, .slice Aa n ca), (9, .slice Ah m ch), (10, .int .i64 d), (17, .int .i64 now), (18, .int .i64 j), (19, .bool ((ownF (all.take i) j 2).any (vacB d))), (20, .bool (!(ownF (all.take i) j 1).isEmpty)), (21, .bool ((ownF (all.take i) j 1).any (seaR now))), (22, .bool (!(ownF (all.take i) j 3).isEmpty)), (23, .bool ((ownF (all.take i) j 3).any (weekB (d % 7)))), (24, .bool false), (67, .slice Aa n ca), (68, .int .i64 n), (69, .int .i64 i)])
      (fun _ => []) 0 (by show 0 ≤ n; omega) (by repeat (first | exact FSub.nil | refine FSub.cons rfl ?_ | refine FSub.conse rfl (by congr 1; omega) ?_)) (by repeat (first | exact LSub.nil | refine LSub.cons (by repeat (first | exact Rem.here | apply Rem.there)) ?_)) ?_
    intro i hi
    by_cases hli : i < n
    · obtain ⟨x, hx⟩ : ∃ x, all[i]? = some x := ⟨_, List.getElem?_eq_getElem (by omega)⟩
      obtain ⟨ad, rfl, hX⟩ := hRa _ x hx
      have hxo := hao x (List.mem_of_getElem? hx)
      obtain ⟨hdy0, hdy1⟩ := hxo.2.2.2.2
      have hq : 0 ≤ x.dy / (2 ^ (d % 7).toNat : Nat) ∧ x.dy / (2 ^ (d % 7).toNat : Nat) ≤ 255 := ⟨Int.ediv_nonneg hdy0 (Int.natCast_nonneg _), Int.le_trans (Int.ediv_le_self _ hdy0) hdy1⟩
      have t1 := own_take all j 1 i x hx
      have t2 := own_take all j 2 i x hx
      have t3 := own_take all j 3 i x hx
      have n1 : (ownF (all.take (i + 1)) j 2).any (vacB d) = ((ownF (all.take i) j 2).any (vacB d) || (isR j 2 x && vacB d x)) := by rw [t2, List.any_append]; cases isR j 2 x <;> simp
      have n2 : (!(ownF (all.take (i + 1)) j 1).isEmpty) = (!(ownF (all.take i) j 1).isEmpty || isR j 1 x) := by rw [t1]; cases isR j 1 x <;> simp
      have n3 : (ownF (all.take (i + 1)) j 1).any (seaR now) = ((ownF (all.take i) j 1).any (seaR now) || (isR j 1 x && seaR now x)) := by rw [t1, List.any_append]; cases isR j 1 x <;> simp
      have n4 : (!(ownF (all.take (i + 1)) j 3).isEmpty) = (!(ownF (all.take i) j 3).isEmpty || isR j 3 x) := by rw [t3]; cases isR j 3 x <;> simp
      have n5 : (ownF (all.take (i + 1)) j 3).any (weekB (d % 7)) = ((ownF (all.take i) j 3).any (weekB (d % 7)) || (isR j 3 x && weekB (d % 7) x)) := by rw [t3, List.any_append]; cases isR j 3 x <;> simp
      generalize (ownF (all.take i) j 2).any (vacB d) = b1 at *
      generalize (!(ownF (all.take i) j 1).isEmpty) = b2 at *
      generalize (ownF (all.take i) j 1).any (seaR now) = b3 at *
      generalize (!(ownF (all.take i) j 3).isEmpty) = b4 at *
      generalize (ownF (all.take i) j 3).any (weekB (d % 7)) = b5 at *
      clear t1 t2 t3
      by_cases hxp : x.pt = j
      · repeat' (first
         | (refine gJ ?_
            first
            | refine jmv rfl rfl rfl rfl rfl ?_
            | (refine gload rfl rfl ?_
               refine j_qe rfl rfl rfl ?_
               first
               | refine ⟨_, q_load_own rfl rfl rfl rfl (by (repeat (first | exact InL.here | apply InL.there))) (by first | rfl | assumption), ?_⟩
               | refine ⟨_, q_loadA_own rfl rfl rfl rfl (by (repeat (first | exact InL.here | apply InL.there))) (by rfl), ?_⟩
               | refine ⟨_, q_loadA_ext rfl rfl rfl rfl ⟨by assumption, (by first | exact id | assumption)⟩ (by rfl), ?_⟩
               | refine ⟨_, q_load_ext rfl rfl rfl rfl ⟨by assumption, (by first | exact id | assumption)⟩ (by first | rfl | assumption), ?_⟩
               | refine ⟨_, q_load_extb rfl rfl rfl rfl ⟨by assumption, (by first | exact id | assumption)⟩ (by rfl), ?_⟩
               | refine ⟨_, q_loadA_extb rfl rfl rfl rfl ⟨by assumption, (by first | exact id | assumption)⟩ (by rfl), ?_⟩
               | refine ⟨_, q_load_ext0 rfl rfl rfl rfl ⟨by assumption, (by first | exact id | assumption)⟩ (by rfl), ?_⟩)
            | refine jfield rfl rfl rfl rfl rfl rfl rfl rfl ?_
            | refine jcmp rfl rfl rfl rfl rfl rfl rfl ?_
            | refine jar rfl rfl rfl rfl rfl rfl rfl (by omega) ?_
            | refine jextract rfl rfl rfl rfl rfl rfl ?_
            | refine j_store rfl rfl rfl rfl rfl rfl rfl rfl (by (repeat (first | exact Upd.here | apply Upd.there))) (by rfl) ?_
            | (refine j_alloc rfl rfl rfl rfl rfl ?_; intro b)
            | (refine j_box rfl rfl rfl rfl rfl ?_; intro b)
            | (refine j_qe rfl rfl rfl ?_
               first
               | refine ⟨_, q_pick_t rfl rfl rfl, ?_⟩
               | refine ⟨_, q_pick_f rfl rfl rfl, ?_⟩
               | refine ⟨_, q_not rfl rfl, ?_⟩
               | refine ⟨_, q_index_nat rfl rfl rfl rfl rfl (by omega), ?_⟩
               | refine ⟨_, q_index_slice rfl rfl rfl rfl rfl (by omega), ?_⟩
               | refine ⟨_, q_index_arr rfl rfl rfl rfl rfl (by omega), ?_⟩
               | refine ⟨_, q_index_arr_ext rfl rfl rfl rfl rfl (by omega), ?_⟩
               | refine ⟨_, q_len_slice rfl rfl rfl rfl, ?_⟩
               | refine ⟨_, q_makeFunc rfl rfl, ?_⟩
               | refine ⟨_, q_build_struct rfl rfl rfl rfl rfl, ?_⟩
               | refine ⟨_, q_build_arr rfl rfl rfl rfl rfl, ?_⟩
               | refine ⟨_, q_nilCheck rfl rfl, ?_⟩
               | refine ⟨_, q_field_ext rfl rfl rfl rfl rfl, ?_⟩
               | refine ⟨_, q_quo rfl rfl rfl (by omega), ?_⟩
               | refine ⟨_, q_rem rfl rfl rfl (by omega), ?_⟩
               | refine ⟨_, q_quot rfl rfl rfl (by omega), ?_⟩
               | refine ⟨_, q_remt rfl rfl rfl (by omega), ?_⟩
               | refine ⟨_, q_addu8 rfl rfl rfl (by omega), ?_⟩
               | refine ⟨_, q_quou8 rfl rfl rfl (by omega), ?_⟩
               | refine ⟨_, q_shr1 rfl rfl rfl, ?_⟩
               | refine ⟨_, q_shr rfl rfl rfl ⟨by omega, by decide⟩, ?_⟩
               | refine ⟨_, q_shr rfl rfl rfl ⟨by omega, by show Int.toNat _ ≤ (8:Nat); omega⟩, ?_⟩
               | refine ⟨_, q_and1 rfl rfl rfl (by first | assumption | omega), ?_⟩
               | refine ⟨_, q_conv rfl rfl rfl rfl rfl rfl (by first | rfl | (exact i64_wrap (by omega) (by omega)) | (exact u8_wrap (by omega) (by omega)) | (exact u64_wrap (by omega) (by omega)) | (exact u16_wrap (by omega) (by omega))), ?_⟩)
            | refine j_guard_undef rfl rfl rfl rfl rfl ?_
            | (refine j_guard rfl rfl rfl rfl rfl ?_ ?_ <;> intro hc <;> (first | (exact absurd hc (by decide)) | ((try simp only [decide_eq_true_eq, decide_eq_false_iff_not, Bool.not_eq_true', Bool.not_eq_false', Bool.not_true, Bool.not_false, ne_eq, Decidable.not_not] at hc) <;> first | (exfalso; omega) | (exact absurd trivial hc) | skip)))
            | (refine j_buildSlice rfl rfl rfl rfl rfl rfl rfl rfl rfl rfl rfl rfl ?_; intro b)
            | (refine j_append rfl rfl rfl rfl rfl rfl rfl rfl rfl rfl rfl (by (repeat (first | exact InL.here | apply InL.there))) (by (repeat (first | exact InL.here | apply InL.there))) (by rfl) (by rfl) (by omega) (fun _ => by (repeat (first | exact Upd.here | apply Upd.there))) ?_; intro v))
         | (refine gSC ?_
            first
            | refine sc_seq ?_
            | refine sc_region ?_
            | (refine sc_cond rfl ?_ ?_ <;> intro hc <;> (first | (exact absurd hc (by decide)) | ((try simp only [decide_eq_true_eq, decide_eq_false_iff_not, Bool.not_eq_true', Bool.not_eq_false', Bool.not_true, Bool.not_false, ne_eq, Decidable.not_not] at hc) <;> first | (exfalso; omega) | (exact absurd trivial hc) | skip)))
            | refine sc_block ?_
            | refine sc_ret ?_
            | refine sc_exit ?_
            | refine sc_skip ?_
            | refine sc_draw rfl mixed (by kernel_rfl) ?_)
         | (refine gSQ ?_
            first
            | refine sq_seq ?_
            | refine sq_blk ?_
            | refine sq_seq_ret ?_
            | refine sq_blk_ret ?_
            | refine sq_loop_ret ?_
            | refine sq_seq_exit ?_
            | refine sq_blk_hit ?_
            | refine sq_blk_miss rfl ?_
            | refine sq_loop_exit ?_
            | refine sq_ende (.inl rfl) rfl rfl ⟨_, (RVs.cons (RV.tmp rfl) (RVs.nil)), ?_⟩
            | refine sq_ende (.inr rfl) rfl rfl ⟨_, (RVs.cons (RV.tmp rfl) (RVs.nil)), ?_⟩)
         | refine j_nil ?_
         )
        all_goals (
          refine sq_loop (i + 1) (by omega) (by omega) ?_ (by repeat (first | exact LSub.nil | refine LSub.cons (by repeat (first | exact Rem.here | apply Rem.there)) ?_))
          simp only [n1, n2, n3, n4, n5]
          clear n1 n2 n3 n4 n5 hRa hRp hRh hER hX hB1 htell
          exact (by repeat (first | exact FSub.nil | refine FSub.cons rfl ?_ | refine FSub.conse rfl (by congr 1; (simp_all [isR, vacB, seaR, weekB]; try first | omega | (by_cases q1 : x.fr ≤ now <;> by_cases q2 : now ≤ x.to <;> simp [q1, q2] <;> omega))) ?_)))
      · have r1 : isR j 1 x = false := by simp [isR, hxp]
        have r2 : isR j 2 x = false := by simp [isR, hxp]
        have r3 : isR j 3 x = false := by simp [isR, hxp]
        simp only [r1, r2, r3, Bool.false_and, Bool.or_false] at n1 n2 n3 n4 n5
        repeat' (first
         | (refine gJ ?_
            first
            | refine jmv rfl rfl rfl rfl rfl ?_
            | (refine gload rfl rfl ?_
               refine j_qe rfl rfl rfl ?_
               first
               | refine ⟨_, q_load_own rfl rfl rfl rfl (by (repeat (first | exact InL.here | apply InL.there))) (by first | rfl | assumption), ?_⟩
               | refine ⟨_, q_loadA_own rfl rfl rfl rfl (by (repeat (first | exact InL.here | apply InL.there))) (by rfl), ?_⟩
               | refine ⟨_, q_loadA_ext rfl rfl rfl rfl ⟨by assumption, (by first | exact id | assumption)⟩ (by rfl), ?_⟩
               | refine ⟨_, q_load_ext rfl rfl rfl rfl ⟨by assumption, (by first | exact id | assumption)⟩ (by first | rfl | assumption), ?_⟩
               | refine ⟨_, q_load_extb rfl rfl rfl rfl ⟨by assumption, (by first | exact id | assumption)⟩ (by rfl), ?_⟩
               | refine ⟨_, q_loadA_extb rfl rfl rfl rfl ⟨by assumption, (by first | exact id | assumption)⟩ (by rfl), ?_⟩
               | refine ⟨_, q_load_ext0 rfl rfl rfl rfl ⟨by assumption, (by first | exact id | assumption)⟩ (by rfl), ?_⟩)
            | refine jfield rfl rfl rfl rfl rfl rfl rfl rfl ?_
            | refine jcmp rfl rfl rfl rfl rfl rfl rfl ?_
            | refine jar rfl rfl rfl rfl rfl rfl rfl (by omega) ?_
            | refine jextract rfl rfl rfl rfl rfl rfl ?_
            | refine j_store rfl rfl rfl rfl rfl rfl rfl rfl (by (repeat (first | exact Upd.here | apply Upd.there))) (by rfl) ?_
            | (refine j_alloc rfl rfl rfl rfl rfl ?_; intro b)
            | (refine j_box rfl rfl rfl rfl rfl ?_; intro b)
            | (refine j_qe rfl rfl rfl ?_
               first
               | refine ⟨_, q_pick_t rfl rfl rfl, ?_⟩
               | refine ⟨_, q_pick_f rfl rfl rfl, ?_⟩
               | refine ⟨_, q_not rfl rfl, ?_⟩
               | refine ⟨_, q_index_nat rfl rfl rfl rfl rfl (by omega), ?_⟩
               | refine ⟨_, q_index_slice rfl rfl rfl rfl rfl (by omega), ?_⟩
               | refine ⟨_, q_index_arr rfl rfl rfl rfl rfl (by omega), ?_⟩
               | refine ⟨_, q_index_arr_ext rfl rfl rfl rfl rfl (by omega), ?_⟩
               | refine ⟨_, q_len_slice rfl rfl rfl rfl, ?_⟩
               | refine ⟨_, q_makeFunc rfl rfl, ?_⟩
               | refine ⟨_, q_build_struct rfl rfl rfl rfl rfl, ?_⟩
               | refine ⟨_, q_build_arr rfl rfl rfl rfl rfl, ?_⟩
               | refine ⟨_, q_nilCheck rfl rfl, ?_⟩
               | refine ⟨_, q_field_ext rfl rfl rfl rfl rfl, ?_⟩
               | refine ⟨_, q_quo rfl rfl rfl (by omega), ?_⟩
               | refine ⟨_, q_rem rfl rfl rfl (by omega), ?_⟩
               | refine ⟨_, q_quot rfl rfl rfl (by omega), ?_⟩
               | refine ⟨_, q_remt rfl rfl rfl (by omega), ?_⟩
               | refine ⟨_, q_addu8 rfl rfl rfl (by omega), ?_⟩
               | refine ⟨_, q_quou8 rfl rfl rfl (by omega), ?_⟩
               | refine ⟨_, q_shr1 rfl rfl rfl, ?_⟩
               | refine ⟨_, q_shr rfl rfl rfl ⟨by omega, by decide⟩, ?_⟩
               | refine ⟨_, q_shr rfl rfl rfl ⟨by omega, by show Int.toNat _ ≤ (8:Nat); omega⟩, ?_⟩
               | refine ⟨_, q_and1 rfl rfl rfl (by first | assumption | omega), ?_⟩
               | refine ⟨_, q_conv rfl rfl rfl rfl rfl rfl (by first | rfl | (exact i64_wrap (by omega) (by omega)) | (exact u8_wrap (by omega) (by omega)) | (exact u64_wrap (by omega) (by omega)) | (exact u16_wrap (by omega) (by omega))), ?_⟩)
            | refine j_guard_undef rfl rfl rfl rfl rfl ?_
            | (refine j_guard rfl rfl rfl rfl rfl ?_ ?_ <;> intro hc <;> (first | (exact absurd hc (by decide)) | ((try simp only [decide_eq_true_eq, decide_eq_false_iff_not, Bool.not_eq_true', Bool.not_eq_false', Bool.not_true, Bool.not_false, ne_eq, Decidable.not_not] at hc) <;> first | (exfalso; omega) | (exact absurd trivial hc) | skip)))
            | (refine j_buildSlice rfl rfl rfl rfl rfl rfl rfl rfl rfl rfl rfl rfl ?_; intro b)
            | (refine j_append rfl rfl rfl rfl rfl rfl rfl rfl rfl rfl rfl (by (repeat (first | exact InL.here | apply InL.there))) (by (repeat (first | exact InL.here | apply InL.there))) (by rfl) (by rfl) (by omega) (fun _ => by (repeat (first | exact Upd.here | apply Upd.there))) ?_; intro v))
         | (refine gSC ?_
            first
            | refine sc_seq ?_
            | refine sc_region ?_
            | (refine sc_cond rfl ?_ ?_ <;> intro hc <;> (first | (exact absurd hc (by decide)) | ((try simp only [decide_eq_true_eq, decide_eq_false_iff_not, Bool.not_eq_true', Bool.not_eq_false', Bool.not_true, Bool.not_false, ne_eq, Decidable.not_not] at hc) <;> first | (exfalso; omega) | (exact absurd trivial hc) | skip)))
            | refine sc_block ?_
            | refine sc_ret ?_
            | refine sc_exit ?_
            | refine sc_skip ?_
            | refine sc_draw rfl mixed (by kernel_rfl) ?_)
         | (refine gSQ ?_
            first
            | refine sq_seq ?_
            | refine sq_blk ?_
            | refine sq_seq_ret ?_
            | refine sq_blk_ret ?_
            | refine sq_loop_ret ?_
            | refine sq_seq_exit ?_
            | refine sq_blk_hit ?_
            | refine sq_blk_miss rfl ?_
            | refine sq_loop_exit ?_
            | refine sq_ende (.inl rfl) rfl rfl ⟨_, (RVs.cons (RV.tmp rfl) (RVs.nil)), ?_⟩
            | refine sq_ende (.inr rfl) rfl rfl ⟨_, (RVs.cons (RV.tmp rfl) (RVs.nil)), ?_⟩)
         | refine j_nil ?_
         )
        refine sq_loop (i + 1) (by omega) (by omega) ?_ (by repeat (first | exact LSub.nil | refine LSub.cons (by repeat (first | exact Rem.here | apply Rem.there)) ?_))
        simp only [n1, n2, n3, n4, n5]
        exact (by repeat (first | exact FSub.nil | refine FSub.cons rfl ?_ | refine FSub.conse rfl (by congr 1; omega) ?_))
    · have hin : i = n := by omega
      subst hin
      rw [List.take_of_length_le (by omega)]
      have hj9 := htell j
      generalize (ownF all j 2).any (vacB d) = b1 at *
      generalize (!(ownF all j 1).isEmpty) = b2 at *
      generalize (ownF all j 1).any (seaR now) = b3 at *
      generalize (!(ownF all j 3).isEmpty) = b4 at *
      generalize (ownF all j 3).any (weekB (d % 7)) = b5 at *
      repeat' (first
       | (refine gJ ?_
          first
          | refine jmv rfl rfl rfl rfl rfl ?_
          | (refine gload rfl rfl ?_
             refine j_qe rfl rfl rfl ?_
             first
             | refine ⟨_, q_load_own rfl rfl rfl rfl (by (repeat (first | exact InL.here | apply InL.there))) (by first | rfl | assumption), ?_⟩
             | refine ⟨_, q_loadA_own rfl rfl rfl rfl (by (repeat (first | exact InL.here | apply InL.there))) (by rfl), ?_⟩
             | refine ⟨_, q_loadA_ext rfl rfl rfl rfl ⟨by assumption, (by first | exact id | assumption)⟩ (by rfl), ?_⟩
             | refine ⟨_, q_load_ext rfl rfl rfl rfl ⟨by assumption, (by first | exact id | assumption)⟩ (by first | rfl | assumption), ?_⟩
             | refine ⟨_, q_load_extb rfl rfl rfl rfl ⟨by assumption, (by first | exact id | assumption)⟩ (by rfl), ?_⟩
             | refine ⟨_, q_loadA_extb rfl rfl rfl rfl ⟨by assumption, (by first | exact id | assumption)⟩ (by rfl), ?_⟩
             | refine ⟨_, q_load_ext0 rfl rfl rfl rfl ⟨by assumption, (by first | exact id | assumption)⟩ (by rfl), ?_⟩)
          | refine jfield rfl rfl rfl rfl rfl rfl rfl rfl ?_
          | refine jcmp rfl rfl rfl rfl rfl rfl rfl ?_
          | refine jar rfl rfl rfl rfl rfl rfl rfl (by omega) ?_
          | refine jextract rfl rfl rfl rfl rfl rfl ?_
          | refine j_store rfl rfl rfl rfl rfl rfl rfl rfl (by (repeat (first | exact Upd.here | apply Upd.there))) (by rfl) ?_
          | (refine j_alloc rfl rfl rfl rfl rfl ?_; intro b)
          | (refine j_box rfl rfl rfl rfl rfl ?_; intro b)
          | (refine j_qe rfl rfl rfl ?_
             first
             | refine ⟨_, q_pick_t rfl rfl rfl, ?_⟩
             | refine ⟨_, q_pick_f rfl rfl rfl, ?_⟩
             | refine ⟨_, q_not rfl rfl, ?_⟩
             | refine ⟨_, q_index_nat rfl rfl rfl rfl rfl (by omega), ?_⟩
             | refine ⟨_, q_index_slice rfl rfl rfl rfl rfl (by omega), ?_⟩
             | refine ⟨_, q_index_arr rfl rfl rfl rfl rfl (by omega), ?_⟩
             | refine ⟨_, q_index_arr_ext rfl rfl rfl rfl rfl (by omega), ?_⟩
             | refine ⟨_, q_len_slice rfl rfl rfl rfl, ?_⟩
             | refine ⟨_, q_makeFunc rfl rfl, ?_⟩
             | refine ⟨_, q_build_struct rfl rfl rfl rfl rfl, ?_⟩
             | refine ⟨_, q_build_arr rfl rfl rfl rfl rfl, ?_⟩
             | refine ⟨_, q_nilCheck rfl rfl, ?_⟩
             | refine ⟨_, q_field_ext rfl rfl rfl rfl rfl, ?_⟩
             | refine ⟨_, q_quo rfl rfl rfl (by omega), ?_⟩
             | refine ⟨_, q_rem rfl rfl rfl (by omega), ?_⟩
             | refine ⟨_, q_quot rfl rfl rfl (by omega), ?_⟩
             | refine ⟨_, q_remt rfl rfl rfl (by omega), ?_⟩
             | refine ⟨_, q_addu8 rfl rfl rfl (by omega), ?_⟩
             | refine ⟨_, q_quou8 rfl rfl rfl (by omega), ?_⟩
             | refine ⟨_, q_shr1 rfl rfl rfl, ?_⟩
             | refine ⟨_, q_shr rfl rfl rfl ⟨by omega, by decide⟩, ?_⟩
             | refine ⟨_, q_shr rfl rfl rfl ⟨by omega, by show Int.toNat _ ≤ (8:Nat); omega⟩, ?_⟩
             | refine ⟨_, q_and1 rfl rfl rfl (by first | assumption | omega), ?_⟩
             | refine ⟨_, q_conv rfl rfl rfl rfl rfl rfl (by first | rfl | (exact i64_wrap (by omega) (by omega)) | (exact u8_wrap (by omega) (by omega)) | (exact u64_wrap (by omega) (by omega)) | (exact u16_wrap (by omega) (by omega))), ?_⟩)
          | refine j_guard_undef rfl rfl rfl rfl rfl ?_
          | (refine j_guard rfl rfl rfl rfl rfl ?_ ?_ <;> intro hc <;> (first | (exact absurd hc (by decide)) | ((try simp only [decide_eq_true_eq, decide_eq_false_iff_not, Bool.not_eq_true', Bool.not_eq_false', Bool.not_true, Bool.not_false, ne_eq, Decidable.not_not] at hc) <;> first | (exfalso; omega) | (exact absurd trivial hc) | skip)))
          | (refine j_buildSlice rfl rfl rfl rfl rfl rfl rfl rfl rfl rfl rfl rfl ?_; intro b)
          | (refine j_append rfl rfl rfl rfl rfl rfl rfl rfl rfl rfl rfl (by (repeat (first | exact InL.here | apply InL.there))) (by (repeat (first | exact InL.here | apply InL.there))) (by rfl) (by rfl) (by omega) (fun _ => by (repeat (first | exact Upd.here | apply Upd.there))) ?_; intro v))
       | (refine gSC ?_
          first
          | refine sc_seq ?_
          | refine sc_region ?_
          | (refine sc_cond rfl ?_ ?_ <;> intro hc <;> (first | (exact absurd hc (by decide)) | ((try simp only [decide_eq_true_eq, decide_eq_false_iff_not, Bool.not_eq_true', Bool.not_eq_false', Bool.not_true, Bool.not_false, ne_eq, Decidable.not_not] at hc) <;> first | (exfalso; omega) | (exact absurd trivial hc) | skip)))
          | refine sc_block ?_
          | refine sc_ret ?_
          | refine sc_exit ?_
          | refine sc_skip ?_
          | refine sc_draw rfl mixed (by kernel_rfl) ?_)
       | (refine gSQ ?_
          first
          | refine sq_seq ?_
          | refine sq_blk ?_
          | refine sq_seq_ret ?_
          | refine sq_blk_ret ?_
          | refine sq_loop_ret ?_
          | refine sq_seq_exit ?_
          | refine sq_blk_hit ?_
          | refine sq_blk_miss rfl ?_
          | refine sq_loop_exit ?_
          | refine sq_ende (.inl rfl) rfl rfl ⟨_, (RVs.cons (RV.tmp rfl) (RVs.nil)), ?_⟩
          | refine sq_ende (.inr rfl) rfl rfl ⟨_, (RVs.cons (RV.tmp rfl) (RVs.nil)), ?_⟩)
       | refine j_nil ?_
       )
      refine sc_loop (ι := Nat) (fun k => k ≤ m) (fun k => m - k) (fun k => [(7, .pointer (some ⟨bR, 0, none⟩)), (8, .slice Aa i ca), (9, .slice Ah m ch), (10, .int .i64 d), (17, .int .i64 now), (18, .int .i64 j), (19, .bool b1), (20, .bool b2), (21, .bool b3), (22, .bool b4), (23, .bool b5), (24, .bool ((hol.take k).any fun x => decide (x = d))), (141, .slice Ah m ch), (142, .int .i64 m), (143, .int .i64 k)])
        (fun _ => []) 0 (by show 0 ≤ m; omega) (by repeat (first | exact FSub.nil | refine FSub.cons rfl ?_ | refine FSub.conse rfl (by congr 1; omega) ?_)) (by repeat (first | exact LSub.nil | refine LSub.cons (by repeat (first | exact Rem.here | apply Rem.there)) ?_)) ?_
      intro k hk
      by_cases hlk : k < m
      · obtain ⟨x, hx⟩ : ∃ x, hol[k]? = some x := ⟨_, List.getElem?_eq_getElem (by omega)⟩
        obtain ⟨ad, rfl, hX⟩ := hRh _ x hx
        have n6 : ((hol.take (k + 1)).any fun x => decide (x = d)) = (((hol.take k).any fun x => decide (x = d)) || decide (x = d)) := by rw [List.take_add_one, hx, List.any_append]; simp
        generalize ((hol.take k).any fun x => decide (x = d)) = b6 at *
        repeat' (first
         | (refine gJ ?_
            first
            | refine jmv rfl rfl rfl rfl rfl ?_
            | (refine gload rfl rfl ?_
               refine j_qe rfl rfl rfl ?_
               first
               | refine ⟨_, q_load_own rfl rfl rfl rfl (by (repeat (first | exact InL.here | apply InL.there))) (by first | rfl | assumption), ?_⟩
               | refine ⟨_, q_loadA_own rfl rfl rfl rfl (by (repeat (first | exact InL.here | apply InL.there))) (by rfl), ?_⟩
               | refine ⟨_, q_loadA_ext rfl rfl rfl rfl ⟨by assumption, (by first | exact id | assumption)⟩ (by rfl), ?_⟩
               | refine ⟨_, q_load_ext rfl rfl rfl rfl ⟨by assumption, (by first | exact id | assumption)⟩ (by first | rfl | assumption), ?_⟩
               | refine ⟨_, q_load_extb rfl rfl rfl rfl ⟨by assumption, (by first | exact id | assumption)⟩ (by rfl), ?_⟩
               | refine ⟨_, q_loadA_extb rfl rfl rfl rfl ⟨by assumption, (by first | exact id | assumption)⟩ (by rfl), ?_⟩
               | refine ⟨_, q_load_ext0 rfl rfl rfl rfl ⟨by assumption, (by first | exact id | assumption)⟩ (by rfl), ?_⟩)
            | refine jfield rfl rfl rfl rfl rfl rfl rfl rfl ?_
            | refine jcmp rfl rfl rfl rfl rfl rfl rfl ?_
            | refine jar rfl rfl rfl rfl rfl rfl rfl (by omega) ?_
            | refine jextract rfl rfl rfl rfl rfl rfl ?_
            | refine j_store rfl rfl rfl rfl rfl rfl rfl rfl (by (repeat (first | exact Upd.here | apply Upd.there))) (by rfl) ?_
            | (refine j_alloc rfl rfl rfl rfl rfl ?_; intro b)
            | (refine j_box rfl rfl rfl rfl rfl ?_; intro b)
            | (refine j_qe rfl rfl rfl ?_
               first
               | refine ⟨_, q_pick_t rfl rfl rfl, ?_⟩
               | refine ⟨_, q_pick_f rfl rfl rfl, ?_⟩
               | refine ⟨_, q_not rfl rfl, ?_⟩
               | refine ⟨_, q_index_nat rfl rfl rfl rfl rfl (by omega), ?_⟩
               | refine ⟨_, q_index_slice rfl rfl rfl rfl rfl (by omega), ?_⟩
               | refine ⟨_, q_index_arr rfl rfl rfl rfl rfl (by omega), ?_⟩
               | refine ⟨_, q_index_arr_ext rfl rfl rfl rfl rfl (by omega), ?_⟩
               | refine ⟨_, q_len_slice rfl rfl rfl rfl, ?_⟩
               | refine ⟨_, q_makeFunc rfl rfl, ?_⟩
               | refine ⟨_, q_build_struct rfl rfl rfl rfl rfl, ?_⟩
               | refine ⟨_, q_build_arr rfl rfl rfl rfl rfl, ?_⟩
               | refine ⟨_, q_nilCheck rfl rfl, ?_⟩
               | refine ⟨_, q_field_ext rfl rfl rfl rfl rfl, ?_⟩
               | refine ⟨_, q_quo rfl rfl rfl (by omega), ?_⟩
               | refine ⟨_, q_rem rfl rfl rfl (by omega), ?_⟩
               | refine ⟨_, q_quot rfl rfl rfl (by omega), ?_⟩
               | refine ⟨_, q_remt rfl rfl rfl (by omega), ?_⟩
               | refine ⟨_, q_addu8 rfl rfl rfl (by omega), ?_⟩
               | refine ⟨_, q_quou8 rfl rfl rfl (by omega), ?_⟩
               | refine ⟨_, q_shr1 rfl rfl rfl, ?_⟩
               | refine ⟨_, q_shr rfl rfl rfl ⟨by omega, by decide⟩, ?_⟩
               | refine ⟨_, q_shr rfl rfl rfl ⟨by omega, by show Int.toNat _ ≤ (8:Nat); omega⟩, ?_⟩
               | refine ⟨_, q_and1 rfl rfl rfl (by first | assumption | omega), ?_⟩
               | refine ⟨_, q_conv rfl rfl rfl rfl rfl rfl (by first | rfl | (exact i64_wrap (by omega) (by omega)) | (exact u8_wrap (by omega) (by omega)) | (exact u64_wrap (by omega) (by omega)) | (exact u16_wrap (by omega) (by omega))), ?_⟩)
            | refine j_guard_undef rfl rfl rfl rfl rfl ?_
            | (refine j_guard rfl rfl rfl rfl rfl ?_ ?_ <;> intro hc <;> (first | (exact absurd hc (by decide)) | ((try simp only [decide_eq_true_eq, decide_eq_false_iff_not, Bool.not_eq_true', Bool.not_eq_false', Bool.not_true, Bool.not_false, ne_eq, Decidable.not_not] at hc) <;> first | (exfalso; omega) | (exact absurd trivial hc) | skip)))
            | (refine j_buildSlice rfl rfl rfl rfl rfl rfl rfl rfl rfl rfl rfl rfl ?_; intro b)
            | (refine j_append rfl rfl rfl rfl rfl rfl rfl rfl rfl rfl rfl (by (repeat (first | exact InL.here | apply InL.there))) (by (repeat (first | exact InL.here | apply InL.there))) (by rfl) (by rfl) (by omega) (fun _ => by (repeat (first | exact Upd.here | apply Upd.there))) ?_; intro v))
         | (refine gSC ?_
            first
            | refine sc_seq ?_
            | refine sc_region ?_
            | (refine sc_cond rfl ?_ ?_ <;> intro hc <;> (first | (exact absurd hc (by decide)) | ((try simp only [decide_eq_true_eq, decide_eq_false_iff_not, Bool.not_eq_true', Bool.not_eq_false', Bool.not_true, Bool.not_false, ne_eq, Decidable.not_not] at hc) <;> first | (exfalso; omega) | (exact absurd trivial hc) | skip)))
            | refine sc_block ?_
            | refine sc_ret ?_
            | refine sc_exit ?_
            | refine sc_skip ?_
            | refine sc_draw rfl mixed (by kernel_rfl) ?_)
         | (refine gSQ ?_
            first
            | refine sq_seq ?_
            | refine sq_blk ?_
            | refine sq_seq_ret ?_
            | refine sq_blk_ret ?_
            | refine sq_loop_ret ?_
            | refine sq_seq_exit ?_
            | refine sq_blk_hit ?_
            | refine sq_blk_miss rfl ?_
            | refine sq_loop_exit ?_
            | refine sq_ende (.inl rfl) rfl rfl ⟨_, (RVs.cons (RV.tmp rfl) (RVs.nil)), ?_⟩
            | refine sq_ende (.inr rfl) rfl rfl ⟨_, (RVs.cons (RV.tmp rfl) (RVs.nil)), ?_⟩)
         | refine j_nil ?_
         )
        all_goals (
          refine sq_loop (k + 1) (by omega) (by omega) ?_ (by repeat (first | exact LSub.nil | refine LSub.cons (by repeat (first | exact Rem.here | apply Rem.there)) ?_))
          simp only [n6]
          clear n6 hRa hRp hRh hER hX hB1 htell hj9
          exact (by repeat (first | exact FSub.nil | refine FSub.cons rfl ?_ | refine FSub.conse rfl (by congr 1; simp_all) ?_)))
      · have hkm : k = m := by omega
        subst hkm
        rw [List.take_of_length_le (by omega)]
        generalize (hol.any fun x => decide (x = d)) = b6 at *
        clear htell
        obtain ⟨s, hs⟩ : ∃ s, lstF (sixU 6) all hol j d = s := ⟨_, rfl⟩
        rw [hs] at hj9
        have hcall := fun w' => lst_c (.slice none 0 0) (.slice none 0 0) (.slice none 0 0) Ap cp (sixU 6) Aa ca all Ah ch hol j d w' rfl rfl rfl (by decide)
        repeat' (first
         | (refine gJ ?_
            first
            | refine jmv rfl rfl rfl rfl rfl ?_
            | (refine gload rfl rfl ?_
               refine j_qe rfl rfl rfl ?_
               first
               | refine ⟨_, q_load_own rfl rfl rfl rfl (by (repeat (first | exact InL.here | apply InL.there))) (by first | rfl | assumption), ?_⟩
               | refine ⟨_, q_loadA_own rfl rfl rfl rfl (by (repeat (first | exact InL.here | apply InL.there))) (by rfl), ?_⟩
               | refine ⟨_, q_loadA_ext rfl rfl rfl rfl ⟨by assumption, (by first | exact id | assumption)⟩ (by rfl), ?_⟩
               | refine ⟨_, q_load_ext rfl rfl rfl rfl ⟨by assumption, (by first | exact id | assumption)⟩ (by first | rfl | assumption), ?_⟩
               | refine ⟨_, q_load_extb rfl rfl rfl rfl ⟨by assumption, (by first | exact id | assumption)⟩ (by rfl), ?_⟩
               | refine ⟨_, q_loadA_extb rfl rfl rfl rfl ⟨by assumption, (by first | exact id | assumption)⟩ (by rfl), ?_⟩
               | refine ⟨_, q_load_ext0 rfl rfl rfl rfl ⟨by assumption, (by first | exact id | assumption)⟩ (by rfl), ?_⟩)
            | refine jfield rfl rfl rfl rfl rfl rfl rfl rfl ?_
            | refine jcmp rfl rfl rfl rfl rfl rfl rfl ?_
            | refine jar rfl rfl rfl rfl rfl rfl rfl (by omega) ?_
            | refine jextract rfl rfl rfl rfl rfl rfl ?_
            | (refine gcall rfl rfl ?_
               first
               | (refine j_qc (f := 14) rfl rfl rfl rfl rfl rfl rfl ?_; refine ⟨_, (fun w' hs' => by have h9 := hcall w' (hRp.st hs') (by omega) hao (hRa.st hs') (by omega) (hRh.st hs'); rw [hs, hn, hm] at h9; exact h9), ?_⟩))
            | refine j_store rfl rfl rfl rfl rfl rfl rfl rfl (by (repeat (first | exact Upd.here | apply Upd.there))) (by rfl) ?_
            | (refine j_alloc rfl rfl rfl rfl rfl ?_; intro b)
            | (refine j_box rfl rfl rfl rfl rfl ?_; intro b)
            | (refine j_qe rfl rfl rfl ?_
               first
               | refine ⟨_, q_pick_t rfl rfl rfl, ?_⟩
               | refine ⟨_, q_pick_f rfl rfl rfl, ?_⟩
               | refine ⟨_, q_not rfl rfl, ?_⟩
               | refine ⟨_, q_index_nat rfl rfl rfl rfl rfl (by omega), ?_⟩
               | refine ⟨_, q_index_slice rfl rfl rfl rfl rfl (by omega), ?_⟩
               | refine ⟨_, q_index_arr rfl rfl rfl rfl rfl (by omega), ?_⟩
               | refine ⟨_, q_index_arr_ext rfl rfl rfl rfl rfl (by omega), ?_⟩
               | refine ⟨_, q_len_slice rfl rfl rfl rfl, ?_⟩
               | refine ⟨_, q_makeFunc rfl rfl, ?_⟩
               | refine ⟨_, q_build_struct rfl rfl rfl rfl rfl, ?_⟩
               | refine ⟨_, q_build_arr rfl rfl rfl rfl rfl, ?_⟩
               | refine ⟨_, q_nilCheck rfl rfl, ?_⟩
               | refine ⟨_, q_field_ext rfl rfl rfl rfl rfl, ?_⟩
               | refine ⟨_, q_quo rfl rfl rfl (by omega), ?_⟩
               | refine ⟨_, q_rem rfl rfl rfl (by omega), ?_⟩
               | refine ⟨_, q_quot rfl rfl rfl (by omega), ?_⟩
               | refine ⟨_, q_remt rfl rfl rfl (by omega), ?_⟩
               | refine ⟨_, q_addu8 rfl rfl rfl (by omega), ?_⟩
               | refine ⟨_, q_quou8 rfl rfl rfl (by omega), ?_⟩
               | refine ⟨_, q_shr1 rfl rfl rfl, ?_⟩
               | refine ⟨_, q_shr rfl rfl rfl ⟨by omega, by decide⟩, ?_⟩
               | refine ⟨_, q_shr rfl rfl rfl ⟨by omega, by show Int.toNat _ ≤ (8:Nat); omega⟩, ?_⟩
               | refine ⟨_, q_and1 rfl rfl rfl (by first | assumption | omega), ?_⟩
               | refine ⟨_, q_conv rfl rfl rfl rfl rfl rfl (by first | rfl | (exact i64_wrap (by omega) (by omega)) | (exact u8_wrap (by omega) (by omega)) | (exact u64_wrap (by omega) (by omega)) | (exact u16_wrap (by omega) (by omega))), ?_⟩)
            | refine j_guard_undef rfl rfl rfl rfl rfl ?_
            | (refine j_guard rfl rfl rfl rfl rfl ?_ ?_ <;> intro hc <;> (first | (exact absurd hc (by decide)) | ((try simp only [decide_eq_true_eq, decide_eq_false_iff_not, Bool.not_eq_true', Bool.not_eq_false', Bool.not_true, Bool.not_false, ne_eq, Decidable.not_not] at hc) <;> first | (exfalso; omega) | (exact absurd trivial hc) | skip)))
            | (refine j_buildSlice rfl rfl rfl rfl rfl rfl rfl rfl rfl rfl rfl rfl ?_; intro b)
            | (refine j_append rfl rfl rfl rfl rfl rfl rfl rfl rfl rfl rfl (by (repeat (first | exact InL.here | apply InL.there))) (by (repeat (first | exact InL.here | apply InL.there))) (by rfl) (by rfl) (by omega) (fun _ => by (repeat (first | exact Upd.here | apply Upd.there))) ?_; intro v))
         | (refine gSC ?_
            first
            | refine sc_seq ?_
            | refine sc_region ?_
            | (refine sc_cond rfl ?_ ?_ <;> intro hc <;> (first | (exact absurd hc (by decide)) | ((try simp only [decide_eq_true_eq, decide_eq_false_iff_not, Bool.not_eq_true', Bool.not_eq_false', Bool.not_true, Bool.not_false, ne_eq, Decidable.not_not] at hc) <;> first | (exfalso; omega) | (exact absurd trivial hc) | skip)))
            | refine sc_block ?_
            | refine sc_ret ?_
            | refine sc_exit ?_
            | refine sc_skip ?_
            | refine sc_draw rfl mixed (by kernel_rfl) ?_)
         | (refine gSQ ?_
            first
            | refine sq_seq ?_
            | refine sq_blk ?_
            | refine sq_seq_ret ?_
            | refine sq_blk_ret ?_
            | refine sq_loop_ret ?_
            | refine sq_seq_exit ?_
            | refine sq_blk_hit ?_
            | refine sq_blk_miss rfl ?_
            | refine sq_loop_exit ?_
            | refine sq_ende (.inl rfl) rfl rfl ⟨_, (RVs.cons (RV.tmp rfl) (RVs.nil)), ?_⟩
            | refine sq_ende (.inr rfl) rfl rfl ⟨_, (RVs.cons (RV.tmp rfl) (RVs.nil)), ?_⟩)
         | refine j_nil ?_
         )
        all_goals first
          | exact sq_loop (j + 1) (by omega) (by omega) (by repeat (first | exact FSub.nil | refine FSub.cons rfl ?_ | refine FSub.conse rfl (by congr 1; omega) ?_)) (by repeat (first | exact LSub.nil | refine LSub.cons (by repeat (first | exact Rem.here | apply Rem.there)) ?_))
          | (exfalso; clear hcall hRa hRp hRh hER hB1; simp only [tellF] at hj9; simp_all; done)
          | (exfalso; clear hcall hRa hRp hRh hER hB1; simp only [tellF] at hj9; simp_all; omega)
  · have hj8 : j = 8 := by omega
    subst hj8
    repeat' (first
     | (refine gJ ?_
        first
        | refine jmv rfl rfl rfl rfl rfl ?_
        | (refine gload rfl rfl ?_
           refine j_qe rfl rfl rfl ?_
           first
           | refine ⟨_, q_load_own rfl rfl rfl rfl (by (repeat (first | exact InL.here | apply InL.there))) (by first | rfl | assumption), ?_⟩
           | refine ⟨_, q_loadA_own rfl rfl rfl rfl (by (repeat (first | exact InL.here | apply InL.there))) (by rfl), ?_⟩
           | refine ⟨_, q_loadA_ext rfl rfl rfl rfl ⟨by assumption, (by first | exact id | assumption)⟩ (by rfl), ?_⟩
           | refine ⟨_, q_load_ext rfl rfl rfl rfl ⟨by assumption, (by first | exact id | assumption)⟩ (by first | rfl | assumption), ?_⟩
           | refine ⟨_, q_load_extb rfl rfl rfl rfl ⟨by assumption, (by first | exact id | assumption)⟩ (by rfl), ?_⟩
           | refine ⟨_, q_loadA_extb rfl rfl rfl rfl ⟨by assumption, (by first | exact id | assumption)⟩ (by rfl), ?_⟩
           | refine ⟨_, q_load_ext0 rfl rfl rfl rfl ⟨by assumption, (by first | exact id | assumption)⟩ (by rfl), ?_⟩)
        | refine jfield rfl rfl rfl rfl rfl rfl rfl rfl ?_
        | refine jcmp rfl rfl rfl rfl rfl rfl rfl ?_
        | refine jar rfl rfl rfl rfl rfl rfl rfl (by omega) ?_
        | refine jextract rfl rfl rfl rfl rfl rfl ?_
        | (refine gcall rfl rfl ?_
           first
           | (refine j_qc (f := 15) rfl rfl rfl rfl rfl rfl rfl ?_; refine ⟨_, (fun w' _ => awake_c w'), ?_⟩))
        | refine j_store rfl rfl rfl rfl rfl rfl rfl rfl (by (repeat (first | exact Upd.here | apply Upd.there))) (by rfl) ?_
        | (refine j_alloc rfl rfl rfl rfl rfl ?_; intro b)
        | (refine j_box rfl rfl rfl rfl rfl ?_; intro b)
        | (refine j_qe rfl rfl rfl ?_
           first
           | refine ⟨_, q_pick_t rfl rfl rfl, ?_⟩
           | refine ⟨_, q_pick_f rfl rfl rfl, ?_⟩
           | refine ⟨_, q_not rfl rfl, ?_⟩
           | refine ⟨_, q_index_nat rfl rfl rfl rfl rfl (by omega), ?_⟩
           | refine ⟨_, q_index_slice rfl rfl rfl rfl rfl (by omega), ?_⟩
           | refine ⟨_, q_index_arr rfl rfl rfl rfl rfl (by omega), ?_⟩
           | refine ⟨_, q_index_arr_ext rfl rfl rfl rfl rfl (by omega), ?_⟩
           | refine ⟨_, q_len_slice rfl rfl rfl rfl, ?_⟩
           | refine ⟨_, q_makeFunc rfl rfl, ?_⟩
           | refine ⟨_, q_build_struct rfl rfl rfl rfl rfl, ?_⟩
           | refine ⟨_, q_build_arr rfl rfl rfl rfl rfl, ?_⟩
           | refine ⟨_, q_nilCheck rfl rfl, ?_⟩
           | refine ⟨_, q_field_ext rfl rfl rfl rfl rfl, ?_⟩
           | refine ⟨_, q_quo rfl rfl rfl (by omega), ?_⟩
           | refine ⟨_, q_rem rfl rfl rfl (by omega), ?_⟩
           | refine ⟨_, q_quot rfl rfl rfl (by omega), ?_⟩
           | refine ⟨_, q_remt rfl rfl rfl (by omega), ?_⟩
           | refine ⟨_, q_addu8 rfl rfl rfl (by omega), ?_⟩
           | refine ⟨_, q_quou8 rfl rfl rfl (by omega), ?_⟩
           | refine ⟨_, q_shr1 rfl rfl rfl, ?_⟩
           | refine ⟨_, q_shr rfl rfl rfl ⟨by omega, by decide⟩, ?_⟩
           | refine ⟨_, q_shr rfl rfl rfl ⟨by omega, by show Int.toNat _ ≤ (8:Nat); omega⟩, ?_⟩
           | refine ⟨_, q_and1 rfl rfl rfl (by first | assumption | omega), ?_⟩
           | refine ⟨_, q_conv rfl rfl rfl rfl rfl rfl (by first | rfl | (exact i64_wrap (by omega) (by omega)) | (exact u8_wrap (by omega) (by omega)) | (exact u64_wrap (by omega) (by omega)) | (exact u16_wrap (by omega) (by omega))), ?_⟩)
        | refine j_guard_undef rfl rfl rfl rfl rfl ?_
        | (refine j_guard rfl rfl rfl rfl rfl ?_ ?_ <;> intro hc <;> (first | (exact absurd hc (by decide)) | ((try simp only [decide_eq_true_eq, decide_eq_false_iff_not, Bool.not_eq_true', Bool.not_eq_false', Bool.not_true, Bool.not_false, ne_eq, Decidable.not_not] at hc) <;> first | (exfalso; omega) | (exact absurd trivial hc) | skip)))
        | (refine j_buildSlice rfl rfl rfl rfl rfl rfl rfl rfl rfl rfl rfl rfl ?_; intro b)
        | (refine j_append rfl rfl rfl rfl rfl rfl rfl rfl rfl rfl rfl (by (repeat (first | exact InL.here | apply InL.there))) (by (repeat (first | exact InL.here | apply InL.there))) (by rfl) (by rfl) (by omega) (fun _ => by (repeat (first | exact Upd.here | apply Upd.there))) ?_; intro v))
     | (refine gSC ?_
        first
        | refine sc_seq ?_
        | refine sc_region ?_
        | (refine sc_cond rfl ?_ ?_ <;> intro hc <;> (first | (exact absurd hc (by decide)) | ((try simp only [decide_eq_true_eq, decide_eq_false_iff_not, Bool.not_eq_true', Bool.not_eq_false', Bool.not_true, Bool.not_false, ne_eq, Decidable.not_not] at hc) <;> first | (exfalso; omega) | (exact absurd trivial hc) | skip)))
        | refine sc_block ?_
        | refine sc_ret ?_
        | refine sc_exit ?_
        | refine sc_skip ?_
        | refine sc_draw rfl mixed (by kernel_rfl) ?_)
     | (refine gSQ ?_
        first
        | refine sq_seq ?_
        | refine sq_blk ?_
        | refine sq_seq_ret ?_
        | refine sq_blk_ret ?_
        | refine sq_loop_ret ?_
        | refine sq_seq_exit ?_
        | refine sq_blk_hit ?_
        | refine sq_blk_miss rfl ?_
        | refine sq_loop_exit ?_
        | refine sq_ende (.inl rfl) rfl rfl ⟨_, (RVs.cons (RV.tmp rfl) (RVs.nil)), ?_⟩
        | refine sq_ende (.inr rfl) rfl rfl ⟨_, (RVs.cons (RV.tmp rfl) (RVs.nil)), ?_⟩)
     | refine j_nil ?_
     )
    (intro w' hS; refine ⟨?_, below_then hB1 hS⟩; simp only [pack])
end Go.Proofs.Ytbejfbekamikpaa
