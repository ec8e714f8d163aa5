/-
  DeliverSmall.
-/
import Derived.Test.YtbejfbekamikpaaRc4
import Derived.Test.YtbejfbekamikpaaRc5
namespace Go.Proofs.Ytbejfbekamikpaa
open Go.RowKit Eng
set_option linter.unusedVariables false
set_option linter.unusedSimpArgs false
set_option maxHeartbeats 8000000
attribute [local irreducible] SC SQ J Qt Calls Iterates
theorem sameS_c (v1 v2 v3 : Value) (P : Option Addr) (pc : Nat) (pts : List Pt) (A : Option Addr) (c : Nat) (l : List Ru) (B : Option Addr) (bc : Nat) (hol : List Int) (t d : Int) (w : World) (g1 : v1.oneCell' = true) (g2 : v2.oneCell' = true) (g3 : v3.oneCell' = true) (hpl : pts.length ≤ 9223372036854775807) (hP : RS w 8 ptC P pts)
    (hl : l.length ≤ 9223372036854775807) (hok : ∀ x ∈ l, ruOk x) (h : RS w 5 ruC A l) (hhl : hol.length ≤ 9223372036854775807) (hH : RS w 1 intC B hol) :
    Calls Try.prog 30 #[refV v1 v2 v3 P pts.length pc, .slice A l.length c, .slice B hol.length bc, .int .i64 t, .int .i64 d] w fun e w' => e = .returned (.bool true) ∧ Below w.heap.size w w' := by
  refine eng_start (n := 41) (args := [refV v1 v2 v3 P pts.length pc, .slice A l.length c, .slice B hol.length bc, .int .i64 t, .int .i64 d]) tab tab_ok fns fns_ok [.tmp 10] Try.func30 rfl rfl rfl rfl ?_
  repeat' (first
   | (refine gJ ?_
      first
      | refine jmv rfl rfl rfl rfl rfl ?_
      | (refine gload rfl rfl ?_
         refine j_qe rfl rfl rfl ?_
         first
         | refine ⟨_, q_load_own rfl rfl rfl rfl (by (repeat (first | exact InL.here | apply InL.there))) (by first | rfl | assumption), ?_⟩
         | refine ⟨_, q_loadA_own rfl rfl rfl rfl (by (repeat (first | exact InL.here | apply InL.there))) (by rfl), ?_⟩
         | refine ⟨_, q_loadA_ext rfl rfl rfl rfl ⟨by assumption, (by first | exact id | assumption)⟩ (by rfl), ?_⟩
         | refine ⟨_, q_load_ext rfl rfl rfl rfl ⟨by assumption, (by first | exact id | assumption)⟩ (by first | rfl | assumption), ?_⟩
         | refine ⟨_, q_load_extb rfl rfl rfl rfl ⟨by assumption, (by first | exact id | assumption)⟩ (by rfl), ?_⟩
         | refine ⟨_, q_loadA_extb rfl rfl rfl rfl ⟨by assumption, (by first | exact id | assumption)⟩ (by rfl), ?_⟩
         | refine ⟨_, q_load_ext0 rfl rfl rfl rfl ⟨by assumption, (by first | exact id | assumption)⟩ (by rfl), ?_⟩)
      | refine jfield rfl rfl rfl rfl rfl rfl rfl rfl ?_
      | refine jcmp rfl rfl rfl rfl rfl rfl rfl ?_
      | refine jar rfl rfl rfl rfl rfl rfl rfl (by omega) ?_
      | refine jextract rfl rfl rfl rfl rfl rfl ?_
      | (refine gcall rfl rfl ?_
         first
         | (refine j_qc (f := 31) rfl rfl rfl rfl rfl rfl rfl ?_; refine ⟨_, (fun w' hs => Status_c v1 v2 v3 P pc pts A c l B bc hol t d w' g1 g2 g3 hpl (hP.st hs) hl hok (h.st hs) hhl (hH.st hs)), ?_⟩)
         | (refine j_qc (f := 57) rfl rfl rfl rfl rfl rfl rfl ?_; refine ⟨_, (fun w' hs => statusR_c v1 v2 v3 P pc pts A c l B bc hol t d w' g1 g2 g3 hpl (hP.st hs) hl hok (h.st hs) hhl (hH.st hs)), ?_⟩))
      | (refine gF ?_
         first
         | refine j_store rfl rfl rfl rfl rfl rfl rfl rfl (by (repeat (first | exact Upd.here | apply Upd.there))) (by rfl) ?_
         | (refine j_alloc rfl rfl rfl rfl rfl ?_; intro b)
         | (refine j_box rfl rfl rfl rfl rfl ?_; intro b)
         | (refine j_buildSlice rfl rfl rfl rfl rfl rfl rfl rfl rfl rfl rfl rfl ?_; intro b)
         | (refine j_append rfl rfl rfl rfl rfl rfl rfl rfl rfl rfl rfl (by (repeat (first | exact InL.here | apply InL.there))) (by (repeat (first | exact InL.here | apply InL.there))) (by rfl) (by rfl) (by omega) (fun _ => by (repeat (first | exact Upd.here | apply Upd.there))) ?_; intro v))
      | (refine j_qe rfl rfl rfl ?_
         first
         | refine ⟨_, q_pick_t rfl rfl rfl, ?_⟩
         | refine ⟨_, q_pick_f rfl rfl rfl, ?_⟩
         | refine ⟨_, q_not rfl rfl, ?_⟩
         | refine ⟨_, q_index_nat rfl rfl rfl rfl rfl (by omega), ?_⟩
         | refine ⟨_, q_index_slice rfl rfl rfl rfl rfl (by omega), ?_⟩
         | refine ⟨_, q_index_arr rfl rfl rfl rfl rfl (by omega), ?_⟩
         | refine ⟨_, q_index_arr_ext rfl rfl rfl rfl rfl (by omega), ?_⟩
         | refine ⟨_, q_len_slice rfl rfl rfl rfl, ?_⟩
         | refine ⟨_, q_makeFunc rfl rfl, ?_⟩
         | refine ⟨_, q_build_struct rfl rfl rfl rfl rfl, ?_⟩
         | refine ⟨_, q_build_arr rfl rfl rfl rfl rfl, ?_⟩
         | refine ⟨_, q_nilCheck rfl rfl, ?_⟩
         | refine ⟨_, q_field_ext rfl rfl rfl rfl rfl, ?_⟩
         | refine ⟨_, q_quo rfl rfl rfl (by omega), ?_⟩
         | refine ⟨_, q_rem rfl rfl rfl (by omega), ?_⟩
         | refine ⟨_, q_quot rfl rfl rfl (by omega), ?_⟩
         | refine ⟨_, q_remt rfl rfl rfl (by omega), ?_⟩
         | refine ⟨_, q_addu8 rfl rfl rfl (by omega), ?_⟩
         | refine ⟨_, q_quou8 rfl rfl rfl (by omega), ?_⟩
         | refine ⟨_, q_shr1 rfl rfl rfl, ?_⟩
         | refine ⟨_, q_shr rfl rfl rfl ⟨by omega, by decide⟩, ?_⟩
         | refine ⟨_, q_shr rfl rfl rfl ⟨by omega, by show Int.toNat _ ≤ (8:Nat); omega⟩, ?_⟩
         | refine ⟨_, q_and1 rfl rfl rfl (by first | assumption | omega), ?_⟩
         | refine ⟨_, q_conv rfl rfl rfl rfl rfl rfl (by first | rfl | (exact i64_wrap (by omega) (by omega)) | (exact u8_wrap (by omega) (by omega)) | (exact u64_wrap (by omega) (by omega)) | (exact u16_wrap (by omega) (by omega))), ?_⟩)
      | refine j_guard_undef rfl rfl rfl rfl rfl ?_
      | (refine j_guard rfl rfl rfl rfl rfl ?_ ?_ <;> intro hc <;> (first | (exact absurd hc (by decide)) | ((try simp only [decide_eq_true_eq, decide_eq_false_iff_not, Bool.not_eq_true', Bool.not_eq_false', Bool.not_true, Bool.not_false, ne_eq, Decidable.not_not] at hc) <;> first | (exfalso; omega) | (exact absurd trivial hc) | skip))))
   | (refine gSC ?_
      first
      | refine sc_seq ?_
      | refine sc_region ?_
      | (refine sc_cond rfl ?_ ?_ <;> intro hc <;> (first | (exact absurd hc (by decide)) | ((try simp only [decide_eq_true_eq, decide_eq_false_iff_not, Bool.not_eq_true', Bool.not_eq_false', Bool.not_true, Bool.not_false, ne_eq, Decidable.not_not] at hc) <;> first | (exfalso; omega) | (exact absurd trivial hc) | skip)))
      | refine sc_block ?_
      | refine sc_ret ?_
      | refine sc_exit ?_
      | refine sc_skip ?_
      | refine sc_draw rfl mixed (by kernel_rfl) ?_)
   | (refine gSQ ?_
      first
      | refine sq_seq ?_
      | refine sq_blk ?_
      | refine sq_seq_ret ?_
      | refine sq_blk_ret ?_
      | refine sq_loop_ret ?_
      | refine sq_seq_exit ?_
      | refine sq_blk_hit ?_
      | refine sq_blk_miss rfl ?_
      | refine sq_loop_exit ?_
      | refine sq_ende (.inl rfl) rfl rfl ⟨_, (RVs.cons (RV.tmp rfl) (RVs.nil)), ?_⟩
      | refine sq_ende (.inr rfl) rfl rfl ⟨_, (RVs.cons (RV.tmp rfl) (RVs.nil)), ?_⟩)
   | refine j_nil ?_
   )
  all_goals first
    | ((intro w' hS; refine ⟨?_, hS.below⟩; simp only [pack]); done)
    | ((intro w' hS; refine ⟨?_, hS.below⟩; simp only [pack]); refine rb ?_; simp_all)
abbrev endsL : List Int := [101, 131, 228, 229, 301, 1130, 1231]
abbrev numL : List Int := [-1, 0, 1, 100, 101, 131, 132, 200, 229, 230, 1231, 1232, 1301, 730483, 730484, 730485]
theorem ends_bd : ∀ x ∈ endsL, -1 ≤ x ∧ x ≤ 730485 := by decide
theorem num_bd : ∀ x ∈ numL, -1 ≤ x ∧ x ≤ 730485 := by decide
theorem ru1_ok {p k f t d : Int} (h1 : 0 ≤ p ∧ p ≤ 100) (h2 : 0 ≤ k ∧ k ≤ 255) (h3 : -1 ≤ f ∧ f ≤ 730485) (h4 : -1 ≤ t ∧ t ≤ 730485) (h5 : 0 ≤ d ∧ d ≤ 255) : ∀ z ∈ ([⟨p, k, f, t, d⟩] : List Ru), ruOk z := by
  intro z hz
  rw [List.mem_singleton] at hz
  subst hz
  unfold ruOk
  dsimp only
  omega
abbrev nl3 : Value := .slice none 0 0
set_option maxRecDepth 4000 in
theorem small_c (w : World) : Calls Try.prog 8 #[] w fun e w' => e = .returned (.bool true) ∧ Below w.heap.size w w' := by
  refine eng_start (n := 165) (args := []) tab tab_ok fns fns_ok [.tmp 0] Try.func8 rfl rfl rfl rfl ?_
  repeat' (first
   | (refine gJ ?_
      first
      | refine jmv rfl rfl rfl rfl rfl ?_
      | (refine gload rfl rfl ?_
         refine j_qe rfl rfl rfl ?_
         first
         | refine ⟨_, q_load_own rfl rfl rfl rfl (by (repeat (first | exact InL.here | apply InL.there))) (by first | rfl | assumption), ?_⟩
         | refine ⟨_, q_loadA_own rfl rfl rfl rfl (by (repeat (first | exact InL.here | apply InL.there))) (by rfl), ?_⟩
         | refine ⟨_, q_loadA_ext rfl rfl rfl rfl ⟨by assumption, (by first | exact id | assumption)⟩ (by rfl), ?_⟩
         | refine ⟨_, q_load_ext rfl rfl rfl rfl ⟨by assumption, (by first | exact id | assumption)⟩ (by first | rfl | assumption), ?_⟩
         | refine ⟨_, q_load_extb rfl rfl rfl rfl ⟨by assumption, (by first | exact id | assumption)⟩ (by rfl), ?_⟩
         | refine ⟨_, q_loadA_extb rfl rfl rfl rfl ⟨by assumption, (by first | exact id | assumption)⟩ (by rfl), ?_⟩
         | refine ⟨_, q_load_ext0 rfl rfl rfl rfl ⟨by assumption, (by first | exact id | assumption)⟩ (by rfl), ?_⟩)
      | refine jfield rfl rfl rfl rfl rfl rfl rfl rfl ?_
      | refine jcmp rfl rfl rfl rfl rfl rfl rfl ?_
      | refine jar rfl rfl rfl rfl rfl rfl rfl (by omega) ?_
      | refine jextract rfl rfl rfl rfl rfl rfl ?_
      | (refine gcall rfl rfl ?_; refine gF ?_; refine j_callN (f := 29) rfl rfl rfl rfl rfl rfl rfl exV (fun _ => True) exL (fun w' hs => example_c w') (fun _ => trivial) ?_; rintro bp _)
      | (refine gF ?_
         first
         | refine j_store rfl rfl rfl rfl rfl rfl rfl rfl (by (repeat (first | exact Upd.here | apply Upd.there))) (by rfl) ?_
         | (refine j_alloc rfl rfl rfl rfl rfl ?_; intro b)
         | (refine j_box rfl rfl rfl rfl rfl ?_; intro b)
         | (refine j_buildSlice rfl rfl rfl rfl rfl rfl rfl rfl rfl rfl rfl rfl ?_; intro b)
         | (refine j_append rfl rfl rfl rfl rfl rfl rfl rfl rfl rfl rfl (by (repeat (first | exact InL.here | apply InL.there))) (by (repeat (first | exact InL.here | apply InL.there))) (by rfl) (by rfl) (by omega) (fun _ => by (repeat (first | exact Upd.here | apply Upd.there))) ?_; intro v))
      | (refine j_qe rfl rfl rfl ?_
         first
         | refine ⟨_, q_pick_t rfl rfl rfl, ?_⟩
         | refine ⟨_, q_pick_f rfl rfl rfl, ?_⟩
         | refine ⟨_, q_not rfl rfl, ?_⟩
         | refine ⟨_, q_index_nat rfl rfl rfl rfl rfl (by omega), ?_⟩
         | refine ⟨_, q_index_slice rfl rfl rfl rfl rfl (by omega), ?_⟩
         | refine ⟨_, q_index_arr rfl rfl rfl rfl rfl (by omega), ?_⟩
         | refine ⟨_, q_index_arr_ext rfl rfl rfl rfl rfl (by omega), ?_⟩
         | refine ⟨_, q_len_slice rfl rfl rfl rfl, ?_⟩
         | refine ⟨_, q_makeFunc rfl rfl, ?_⟩
         | refine ⟨_, q_build_struct rfl rfl rfl rfl rfl, ?_⟩
         | refine ⟨_, q_build_arr rfl rfl rfl rfl rfl, ?_⟩
         | refine ⟨_, q_nilCheck rfl rfl, ?_⟩
         | refine ⟨_, q_field_ext rfl rfl rfl rfl rfl, ?_⟩
         | refine ⟨_, q_quo rfl rfl rfl (by omega), ?_⟩
         | refine ⟨_, q_rem rfl rfl rfl (by omega), ?_⟩
         | refine ⟨_, q_quot rfl rfl rfl (by omega), ?_⟩
         | refine ⟨_, q_remt rfl rfl rfl (by omega), ?_⟩
         | refine ⟨_, q_addu8 rfl rfl rfl (by omega), ?_⟩
         | refine ⟨_, q_quou8 rfl rfl rfl (by omega), ?_⟩
         | refine ⟨_, q_shr1 rfl rfl rfl, ?_⟩
         | refine ⟨_, q_shr rfl rfl rfl ⟨by omega, by decide⟩, ?_⟩
         | refine ⟨_, q_shr rfl rfl rfl ⟨by omega, by show Int.toNat _ ≤ (8:Nat); omega⟩, ?_⟩
         | refine ⟨_, q_and1 rfl rfl rfl (by first | assumption | omega), ?_⟩
         | refine ⟨_, q_conv rfl rfl rfl rfl rfl rfl (by first | rfl | (exact i64_wrap (by omega) (by omega)) | (exact u8_wrap (by omega) (by omega)) | (exact u64_wrap (by omega) (by omega)) | (exact u16_wrap (by omega) (by omega))), ?_⟩)
      | refine j_guard_undef rfl rfl rfl rfl rfl ?_
      | (refine j_guard rfl rfl rfl rfl rfl ?_ ?_ <;> intro hc <;> (first | (exact absurd hc (by decide)) | ((try simp only [decide_eq_true_eq, decide_eq_false_iff_not, Bool.not_eq_true', Bool.not_eq_false', Bool.not_true, Bool.not_false, ne_eq, Decidable.not_not] at hc) <;> first | (exfalso; omega) | (exact absurd trivial hc) | skip))))
   | (refine gSC ?_
      first
      | refine sc_seq ?_
      | refine sc_region ?_
      | (refine sc_cond rfl ?_ ?_ <;> intro hc <;> (first | (exact absurd hc (by decide)) | ((try simp only [decide_eq_true_eq, decide_eq_false_iff_not, Bool.not_eq_true', Bool.not_eq_false', Bool.not_true, Bool.not_false, ne_eq, Decidable.not_not] at hc) <;> first | (exfalso; omega) | (exact absurd trivial hc) | skip)))
      | refine sc_block ?_
      | refine sc_ret ?_
      | refine sc_exit ?_
      | refine sc_skip ?_
      | refine sc_draw rfl mixed (by kernel_rfl) ?_)
   | (refine gSQ ?_
      first
      | refine sq_seq ?_
      | refine sq_blk ?_
      | refine sq_seq_ret ?_
      | refine sq_blk_ret ?_
      | refine sq_loop_ret ?_
      | refine sq_seq_exit ?_
      | refine sq_blk_hit ?_
      | refine sq_blk_miss rfl ?_
      | refine sq_loop_exit ?_
      | refine sq_ende (.inl rfl) rfl rfl ⟨_, (RVs.cons (RV.tmp rfl) (RVs.nil)), ?_⟩
      | refine sq_ende (.inr rfl) rfl rfl ⟨_, (RVs.cons (RV.tmp rfl) (RVs.nil)), ?_⟩)
   | refine j_nil ?_
   )
  rename_i bs
  revert b; intro be
  refine sc_now fun w1 hs1 => ?_
  have hPts : RS w1 8 ptC (some ⟨bp, 0, none⟩) exPts := rs_of_cells hs1 (fun _ => rfl) (by (repeat (first | exact InL.here | apply InL.there)))
  have hE : Ext w1 ⟨bs, 0, none⟩ [nl3, nl3, nl3, .slice (some ⟨bp, 0, none⟩) 3 3] := hs1.ext (by (repeat (first | exact InL.here | apply InL.there)))
  have hEnds : RS w1 1 intC (some ⟨be, 0, none⟩) endsL := rs_of_cells (l := endsL) hs1 (fun _ => rfl) (by (repeat (first | exact InL.here | apply InL.there)))
  have hb1 := hs1.below
  clear hs1
  refine sc_loop (ι := Nat) (fun i => i ≤ 7) (fun i => 7 - i) (fun i => [(1, .pointer (some ⟨bs, 0, none⟩)), (2, .slice (some ⟨be, 0, none⟩) 7 7), (31, .slice (some ⟨be, 0, none⟩) 7 7), (32, .int .i64 7), (33, .int .i64 i)]) (fun _ => []) 0 (by omega) (by repeat (first | exact FSub.nil | refine FSub.cons rfl ?_ | refine FSub.conse rfl (by congr 1; omega) ?_)) (by repeat (first | exact LSub.nil | refine LSub.cons (by repeat (first | exact Rem.here | apply Rem.there)) ?_)) ?_
  intro i hi
  by_cases hlt : i < 7
  · obtain ⟨x, hx⟩ : ∃ x, endsL[i]? = some x := ⟨_, List.getElem?_eq_getElem (show i < endsL.length from hlt)⟩
    have hxb := ends_bd x (List.mem_of_getElem? hx)
    obtain ⟨ad1, e1, hX⟩ := hEnds i x hx
    obtain rfl : ⟨be, 0, none⟩ = ad1 := by injection e1
    repeat' (first
     | (refine gJ ?_
        first
        | refine jmv rfl rfl rfl rfl rfl ?_
        | (refine gload rfl rfl ?_
           refine j_qe rfl rfl rfl ?_
           first
           | refine ⟨_, q_load_own rfl rfl rfl rfl (by (repeat (first | exact InL.here | apply InL.there))) (by first | rfl | assumption), ?_⟩
           | refine ⟨_, q_loadA_own rfl rfl rfl rfl (by (repeat (first | exact InL.here | apply InL.there))) (by rfl), ?_⟩
           | refine ⟨_, q_loadA_ext rfl rfl rfl rfl ⟨by assumption, (by first | exact id | assumption)⟩ (by rfl), ?_⟩
           | refine ⟨_, q_load_ext rfl rfl rfl rfl ⟨by assumption, (by first | exact id | assumption)⟩ (by first | rfl | assumption), ?_⟩
           | refine ⟨_, q_load_extb rfl rfl rfl rfl ⟨by assumption, (by first | exact id | assumption)⟩ (by rfl), ?_⟩
           | refine ⟨_, q_loadA_extb rfl rfl rfl rfl ⟨by assumption, (by first | exact id | assumption)⟩ (by rfl), ?_⟩
           | refine ⟨_, q_load_ext0 rfl rfl rfl rfl ⟨by assumption, (by first | exact id | assumption)⟩ (by rfl), ?_⟩)
        | refine jfield rfl rfl rfl rfl rfl rfl rfl rfl ?_
        | refine jcmp rfl rfl rfl rfl rfl rfl rfl ?_
        | refine jar rfl rfl rfl rfl rfl rfl rfl (by omega) ?_
        | refine jextract rfl rfl rfl rfl rfl rfl ?_
        | (refine gF ?_
           first
           | refine j_store rfl rfl rfl rfl rfl rfl rfl rfl (by (repeat (first | exact Upd.here | apply Upd.there))) (by rfl) ?_
           | (refine j_alloc rfl rfl rfl rfl rfl ?_; intro b)
           | (refine j_box rfl rfl rfl rfl rfl ?_; intro b)
           | (refine j_buildSlice rfl rfl rfl rfl rfl rfl rfl rfl rfl rfl rfl rfl ?_; intro b)
           | (refine j_append rfl rfl rfl rfl rfl rfl rfl rfl rfl rfl rfl (by (repeat (first | exact InL.here | apply InL.there))) (by (repeat (first | exact InL.here | apply InL.there))) (by rfl) (by rfl) (by omega) (fun _ => by (repeat (first | exact Upd.here | apply Upd.there))) ?_; intro v))
        | (refine j_qe rfl rfl rfl ?_
           first
           | refine ⟨_, q_pick_t rfl rfl rfl, ?_⟩
           | refine ⟨_, q_pick_f rfl rfl rfl, ?_⟩
           | refine ⟨_, q_not rfl rfl, ?_⟩
           | refine ⟨_, q_index_nat rfl rfl rfl rfl rfl (by omega), ?_⟩
           | refine ⟨_, q_index_slice rfl rfl rfl rfl rfl (by omega), ?_⟩
           | refine ⟨_, q_index_arr rfl rfl rfl rfl rfl (by omega), ?_⟩
           | refine ⟨_, q_index_arr_ext rfl rfl rfl rfl rfl (by omega), ?_⟩
           | refine ⟨_, q_len_slice rfl rfl rfl rfl, ?_⟩
           | refine ⟨_, q_makeFunc rfl rfl, ?_⟩
           | refine ⟨_, q_build_struct rfl rfl rfl rfl rfl, ?_⟩
           | refine ⟨_, q_build_arr rfl rfl rfl rfl rfl, ?_⟩
           | refine ⟨_, q_nilCheck rfl rfl, ?_⟩
           | refine ⟨_, q_field_ext rfl rfl rfl rfl rfl, ?_⟩
           | refine ⟨_, q_quo rfl rfl rfl (by omega), ?_⟩
           | refine ⟨_, q_rem rfl rfl rfl (by omega), ?_⟩
           | refine ⟨_, q_quot rfl rfl rfl (by omega), ?_⟩
           | refine ⟨_, q_remt rfl rfl rfl (by omega), ?_⟩
           | refine ⟨_, q_addu8 rfl rfl rfl (by omega), ?_⟩
           | refine ⟨_, q_quou8 rfl rfl rfl (by omega), ?_⟩
           | refine ⟨_, q_shr1 rfl rfl rfl, ?_⟩
           | refine ⟨_, q_shr rfl rfl rfl ⟨by omega, by decide⟩, ?_⟩
           | refine ⟨_, q_shr rfl rfl rfl ⟨by omega, by show Int.toNat _ ≤ (8:Nat); omega⟩, ?_⟩
           | refine ⟨_, q_and1 rfl rfl rfl (by first | assumption | omega), ?_⟩
           | refine ⟨_, q_conv rfl rfl rfl rfl rfl rfl (by first | rfl | (exact i64_wrap (by omega) (by omega)) | (exact u8_wrap (by omega) (by omega)) | (exact u64_wrap (by omega) (by omega)) | (exact u16_wrap (by omega) (by omega))), ?_⟩)
        | refine j_guard_undef rfl rfl rfl rfl rfl ?_
        | (refine j_guard rfl rfl rfl rfl rfl ?_ ?_ <;> intro hc <;> (first | (exact absurd hc (by decide)) | ((try simp only [decide_eq_true_eq, decide_eq_false_iff_not, Bool.not_eq_true', Bool.not_eq_false', Bool.not_true, Bool.not_false, ne_eq, Decidable.not_not] at hc) <;> first | (exfalso; omega) | (exact absurd trivial hc) | skip))))
     | (refine gSC ?_
        first
        | refine sc_seq ?_
        | refine sc_region ?_
        | (refine sc_cond rfl ?_ ?_ <;> intro hc <;> (first | (exact absurd hc (by decide)) | ((try simp only [decide_eq_true_eq, decide_eq_false_iff_not, Bool.not_eq_true', Bool.not_eq_false', Bool.not_true, Bool.not_false, ne_eq, Decidable.not_not] at hc) <;> first | (exfalso; omega) | (exact absurd trivial hc) | skip)))
        | refine sc_block ?_
        | refine sc_ret ?_
        | refine sc_exit ?_
        | refine sc_skip ?_
        | refine sc_draw rfl mixed (by kernel_rfl) ?_)
     | (refine gSQ ?_
        first
        | refine sq_seq ?_
        | refine sq_blk ?_
        | refine sq_seq_ret ?_
        | refine sq_blk_ret ?_
        | refine sq_loop_ret ?_
        | refine sq_seq_exit ?_
        | refine sq_blk_hit ?_
        | refine sq_blk_miss rfl ?_
        | refine sq_loop_exit ?_
        | refine sq_ende (.inl rfl) rfl rfl ⟨_, (RVs.cons (RV.tmp rfl) (RVs.nil)), ?_⟩
        | refine sq_ende (.inr rfl) rfl rfl ⟨_, (RVs.cons (RV.tmp rfl) (RVs.nil)), ?_⟩)
     | refine j_nil ?_
     )
    refine sc_loop (ι := Nat) (fun j => j ≤ 7) (fun j => 7 - j) (fun j => [(1, .pointer (some ⟨bs, 0, none⟩)), (2, .slice (some ⟨be, 0, none⟩) 7 7), (31, .slice (some ⟨be, 0, none⟩) 7 7), (32, .int .i64 7), (33, .int .i64 i), (4, .int .i64 x), (37, .slice (some ⟨be, 0, none⟩) 7 7), (38, .int .i64 7), (39, .int .i64 j)]) (fun _ => []) 0 (by omega) (by repeat (first | exact FSub.nil | refine FSub.cons rfl ?_ | refine FSub.conse rfl (by congr 1; omega) ?_)) (by repeat (first | exact LSub.nil | refine LSub.cons (by repeat (first | exact Rem.here | apply Rem.there)) ?_)) ?_
    intro j hj
    by_cases hjt : j < 7
    · obtain ⟨y, hy⟩ : ∃ y, endsL[j]? = some y := ⟨_, List.getElem?_eq_getElem (show j < endsL.length from hjt)⟩
      have hyb := ends_bd y (List.mem_of_getElem? hy)
      obtain ⟨ad2, e2, hY⟩ := hEnds j y hy
      obtain rfl : ⟨be, 0, none⟩ = ad2 := by injection e2
      repeat' (first
       | (refine gJ ?_
          first
          | refine jmv rfl rfl rfl rfl rfl ?_
          | (refine gload rfl rfl ?_
             refine j_qe rfl rfl rfl ?_
             first
             | refine ⟨_, q_load_own rfl rfl rfl rfl (by (repeat (first | exact InL.here | apply InL.there))) (by first | rfl | assumption), ?_⟩
             | refine ⟨_, q_loadA_own rfl rfl rfl rfl (by (repeat (first | exact InL.here | apply InL.there))) (by rfl), ?_⟩
             | refine ⟨_, q_loadA_ext rfl rfl rfl rfl ⟨by assumption, (by first | exact id | assumption)⟩ (by rfl), ?_⟩
             | refine ⟨_, q_load_ext rfl rfl rfl rfl ⟨by assumption, (by first | exact id | assumption)⟩ (by first | rfl | assumption), ?_⟩
             | refine ⟨_, q_load_extb rfl rfl rfl rfl ⟨by assumption, (by first | exact id | assumption)⟩ (by rfl), ?_⟩
             | refine ⟨_, q_loadA_extb rfl rfl rfl rfl ⟨by assumption, (by first | exact id | assumption)⟩ (by rfl), ?_⟩
             | refine ⟨_, q_load_ext0 rfl rfl rfl rfl ⟨by assumption, (by first | exact id | assumption)⟩ (by rfl), ?_⟩)
          | refine jfield rfl rfl rfl rfl rfl rfl rfl rfl ?_
          | refine jcmp rfl rfl rfl rfl rfl rfl rfl ?_
          | refine jar rfl rfl rfl rfl rfl rfl rfl (by omega) ?_
          | refine jextract rfl rfl rfl rfl rfl rfl ?_
          | (refine gF ?_
             first
             | refine j_store rfl rfl rfl rfl rfl rfl rfl rfl (by (repeat (first | exact Upd.here | apply Upd.there))) (by rfl) ?_
             | (refine j_alloc rfl rfl rfl rfl rfl ?_; intro b)
             | (refine j_box rfl rfl rfl rfl rfl ?_; intro b)
             | (refine j_buildSlice rfl rfl rfl rfl rfl rfl rfl rfl rfl rfl rfl rfl ?_; intro b)
             | (refine j_append rfl rfl rfl rfl rfl rfl rfl rfl rfl rfl rfl (by (repeat (first | exact InL.here | apply InL.there))) (by (repeat (first | exact InL.here | apply InL.there))) (by rfl) (by rfl) (by omega) (fun _ => by (repeat (first | exact Upd.here | apply Upd.there))) ?_; intro v))
          | (refine j_qe rfl rfl rfl ?_
             first
             | refine ⟨_, q_pick_t rfl rfl rfl, ?_⟩
             | refine ⟨_, q_pick_f rfl rfl rfl, ?_⟩
             | refine ⟨_, q_not rfl rfl, ?_⟩
             | refine ⟨_, q_index_nat rfl rfl rfl rfl rfl (by omega), ?_⟩
             | refine ⟨_, q_index_slice rfl rfl rfl rfl rfl (by omega), ?_⟩
             | refine ⟨_, q_index_arr rfl rfl rfl rfl rfl (by omega), ?_⟩
             | refine ⟨_, q_index_arr_ext rfl rfl rfl rfl rfl (by omega), ?_⟩
             | refine ⟨_, q_len_slice rfl rfl rfl rfl, ?_⟩
             | refine ⟨_, q_makeFunc rfl rfl, ?_⟩
             | refine ⟨_, q_build_struct rfl rfl rfl rfl rfl, ?_⟩
             | refine ⟨_, q_build_arr rfl rfl rfl rfl rfl, ?_⟩
             | refine ⟨_, q_nilCheck rfl rfl, ?_⟩
             | refine ⟨_, q_field_ext rfl rfl rfl rfl rfl, ?_⟩
             | refine ⟨_, q_quo rfl rfl rfl (by omega), ?_⟩
             | refine ⟨_, q_rem rfl rfl rfl (by omega), ?_⟩
             | refine ⟨_, q_quot rfl rfl rfl (by omega), ?_⟩
             | refine ⟨_, q_remt rfl rfl rfl (by omega), ?_⟩
             | refine ⟨_, q_addu8 rfl rfl rfl (by omega), ?_⟩
             | refine ⟨_, q_quou8 rfl rfl rfl (by omega), ?_⟩
             | refine ⟨_, q_shr1 rfl rfl rfl, ?_⟩
             | refine ⟨_, q_shr rfl rfl rfl ⟨by omega, by decide⟩, ?_⟩
             | refine ⟨_, q_shr rfl rfl rfl ⟨by omega, by show Int.toNat _ ≤ (8:Nat); omega⟩, ?_⟩
             | refine ⟨_, q_and1 rfl rfl rfl (by first | assumption | omega), ?_⟩
             | refine ⟨_, q_conv rfl rfl rfl rfl rfl rfl (by first | rfl | (exact i64_wrap (by omega) (by omega)) | (exact u8_wrap (by omega) (by omega)) | (exact u64_wrap (by omega) (by omega)) | (exact u16_wrap (by omega) (by omega))), ?_⟩)
          | refine j_guard_undef rfl rfl rfl rfl rfl ?_
          | (refine j_guard rfl rfl rfl rfl rfl ?_ ?_ <;> intro hc <;> (first | (exact absurd hc (by decide)) | ((try simp only [decide_eq_true_eq, decide_eq_false_iff_not, Bool.not_eq_true', Bool.not_eq_false', Bool.not_true, Bool.not_false, ne_eq, Decidable.not_not] at hc) <;> first | (exfalso; omega) | (exact absurd trivial hc) | skip))))
       | (refine gSC ?_
          first
          | refine sc_seq ?_
          | refine sc_region ?_
          | (refine sc_cond rfl ?_ ?_ <;> intro hc <;> (first | (exact absurd hc (by decide)) | ((try simp only [decide_eq_true_eq, decide_eq_false_iff_not, Bool.not_eq_true', Bool.not_eq_false', Bool.not_true, Bool.not_false, ne_eq, Decidable.not_not] at hc) <;> first | (exfalso; omega) | (exact absurd trivial hc) | skip)))
          | refine sc_block ?_
          | refine sc_ret ?_
          | refine sc_exit ?_
          | refine sc_skip ?_
          | refine sc_draw rfl mixed (by kernel_rfl) ?_)
       | (refine gSQ ?_
          first
          | refine sq_seq ?_
          | refine sq_blk ?_
          | refine sq_seq_ret ?_
          | refine sq_blk_ret ?_
          | refine sq_loop_ret ?_
          | refine sq_seq_exit ?_
          | refine sq_blk_hit ?_
          | refine sq_blk_miss rfl ?_
          | refine sq_loop_exit ?_
          | refine sq_ende (.inl rfl) rfl rfl ⟨_, (RVs.cons (RV.tmp rfl) (RVs.nil)), ?_⟩
          | refine sq_ende (.inr rfl) rfl rfl ⟨_, (RVs.cons (RV.tmp rfl) (RVs.nil)), ?_⟩)
       | refine j_nil ?_
       )
      revert b; intro br
      refine sc_loop (ι := Nat) (fun d => d ≤ 1461) (fun d => 1461 - d) (fun d => [(1, .pointer (some ⟨bs, 0, none⟩)), (2, .slice (some ⟨be, 0, none⟩) 7 7), (31, .slice (some ⟨be, 0, none⟩) 7 7), (32, .int .i64 7), (33, .int .i64 i), (4, .int .i64 x), (37, .slice (some ⟨be, 0, none⟩) 7 7), (38, .int .i64 7), (39, .int .i64 j), (7, .slice (some ⟨br, 0, none⟩) 1 1), (8, .int .i64 d)]) (fun _ => [.cells br 37 (ruC ⟨11, 1, x, y, 0⟩)]) 730 (by omega) (by repeat (first | exact FSub.nil | refine FSub.cons rfl ?_ | refine FSub.conse rfl (by congr 1; omega) ?_)) (by repeat (first | exact LSub.nil | refine LSub.cons (by repeat (first | exact Rem.here | apply Rem.there)) ?_)) ?_
      intro d hd
      by_cases hdt : d < 1461
      · repeat' (first
         | (refine gJ ?_
            first
            | refine jmv rfl rfl rfl rfl rfl ?_
            | (refine gload rfl rfl ?_
               refine j_qe rfl rfl rfl ?_
               first
               | refine ⟨_, q_load_own rfl rfl rfl rfl (by (repeat (first | exact InL.here | apply InL.there))) (by first | rfl | assumption), ?_⟩
               | refine ⟨_, q_loadA_own rfl rfl rfl rfl (by (repeat (first | exact InL.here | apply InL.there))) (by rfl), ?_⟩
               | refine ⟨_, q_loadA_ext rfl rfl rfl rfl ⟨by assumption, (by first | exact id | assumption)⟩ (by rfl), ?_⟩
               | refine ⟨_, q_load_ext rfl rfl rfl rfl ⟨by assumption, (by first | exact id | assumption)⟩ (by first | rfl | assumption), ?_⟩
               | refine ⟨_, q_load_extb rfl rfl rfl rfl ⟨by assumption, (by first | exact id | assumption)⟩ (by rfl), ?_⟩
               | refine ⟨_, q_loadA_extb rfl rfl rfl rfl ⟨by assumption, (by first | exact id | assumption)⟩ (by rfl), ?_⟩
               | refine ⟨_, q_load_ext0 rfl rfl rfl rfl ⟨by assumption, (by first | exact id | assumption)⟩ (by rfl), ?_⟩)
            | refine jfield rfl rfl rfl rfl rfl rfl rfl rfl ?_
            | refine jcmp rfl rfl rfl rfl rfl rfl rfl ?_
            | refine jar rfl rfl rfl rfl rfl rfl rfl (by omega) ?_
            | refine jextract rfl rfl rfl rfl rfl rfl ?_
            | (refine gcall rfl rfl ?_
               first
               | (refine j_qc (f := 30) rfl rfl rfl rfl rfl rfl rfl ?_; refine ⟨_, (fun w' hs => sameS_c nl3 nl3 nl3 (some ⟨bp, 0, none⟩) 3 exPts (some ⟨br, 0, none⟩) 1 [⟨11, 1, x, y, 0⟩] none 0 [] 11 d w' rfl rfl rfl (by decide) (hPts.st hs) (by show 1 ≤ 9223372036854775807; omega) (ru1_ok (by omega) (by omega) hxb hyb (by omega)) (rs_of_cells (f := ruC) (l := ([⟨11, 1, x, y, 0⟩] : List Ru)) hs (fun _ => rfl) (by (repeat (first | exact InL.here | apply InL.there)))) (by decide) RS.nil), ?_⟩))
            | (refine gF ?_
               first
               | refine j_store rfl rfl rfl rfl rfl rfl rfl rfl (by (repeat (first | exact Upd.here | apply Upd.there))) (by rfl) ?_
               | (refine j_alloc rfl rfl rfl rfl rfl ?_; intro b)
               | (refine j_box rfl rfl rfl rfl rfl ?_; intro b)
               | (refine j_buildSlice rfl rfl rfl rfl rfl rfl rfl rfl rfl rfl rfl rfl ?_; intro b)
               | (refine j_append rfl rfl rfl rfl rfl rfl rfl rfl rfl rfl rfl (by (repeat (first | exact InL.here | apply InL.there))) (by (repeat (first | exact InL.here | apply InL.there))) (by rfl) (by rfl) (by omega) (fun _ => by (repeat (first | exact Upd.here | apply Upd.there))) ?_; intro v))
            | (refine j_qe rfl rfl rfl ?_
               first
               | refine ⟨_, q_pick_t rfl rfl rfl, ?_⟩
               | refine ⟨_, q_pick_f rfl rfl rfl, ?_⟩
               | refine ⟨_, q_not rfl rfl, ?_⟩
               | refine ⟨_, q_index_nat rfl rfl rfl rfl rfl (by omega), ?_⟩
               | refine ⟨_, q_index_slice rfl rfl rfl rfl rfl (by omega), ?_⟩
               | refine ⟨_, q_index_arr rfl rfl rfl rfl rfl (by omega), ?_⟩
               | refine ⟨_, q_index_arr_ext rfl rfl rfl rfl rfl (by omega), ?_⟩
               | refine ⟨_, q_len_slice rfl rfl rfl rfl, ?_⟩
               | refine ⟨_, q_makeFunc rfl rfl, ?_⟩
               | refine ⟨_, q_build_struct rfl rfl rfl rfl rfl, ?_⟩
               | refine ⟨_, q_build_arr rfl rfl rfl rfl rfl, ?_⟩
               | refine ⟨_, q_nilCheck rfl rfl, ?_⟩
               | refine ⟨_, q_field_ext rfl rfl rfl rfl rfl, ?_⟩
               | refine ⟨_, q_quo rfl rfl rfl (by omega), ?_⟩
               | refine ⟨_, q_rem rfl rfl rfl (by omega), ?_⟩
               | refine ⟨_, q_quot rfl rfl rfl (by omega), ?_⟩
               | refine ⟨_, q_remt rfl rfl rfl (by omega), ?_⟩
               | refine ⟨_, q_addu8 rfl rfl rfl (by omega), ?_⟩
               | refine ⟨_, q_quou8 rfl rfl rfl (by omega), ?_⟩
               | refine ⟨_, q_shr1 rfl rfl rfl, ?_⟩
               | refine ⟨_, q_shr rfl rfl rfl ⟨by omega, by decide⟩, ?_⟩
               | refine ⟨_, q_shr rfl rfl rfl ⟨by omega, by show Int.toNat _ ≤ (8:Nat); omega⟩, ?_⟩
               | refine ⟨_, q_and1 rfl rfl rfl (by first | assumption | omega), ?_⟩
               | refine ⟨_, q_conv rfl rfl rfl rfl rfl rfl (by first | rfl | (exact i64_wrap (by omega) (by omega)) | (exact u8_wrap (by omega) (by omega)) | (exact u64_wrap (by omega) (by omega)) | (exact u16_wrap (by omega) (by omega))), ?_⟩)
            | refine j_guard_undef rfl rfl rfl rfl rfl ?_
            | (refine j_guard rfl rfl rfl rfl rfl ?_ ?_ <;> intro hc <;> (first | (exact absurd hc (by decide)) | ((try simp only [decide_eq_true_eq, decide_eq_false_iff_not, Bool.not_eq_true', Bool.not_eq_false', Bool.not_true, Bool.not_false, ne_eq, Decidable.not_not] at hc) <;> first | (exfalso; omega) | (exact absurd trivial hc) | skip))))
         | (refine gSC ?_
            first
            | refine sc_seq ?_
            | refine sc_region ?_
            | (refine sc_cond rfl ?_ ?_ <;> intro hc <;> (first | (exact absurd hc (by decide)) | ((try simp only [decide_eq_true_eq, decide_eq_false_iff_not, Bool.not_eq_true', Bool.not_eq_false', Bool.not_true, Bool.not_false, ne_eq, Decidable.not_not] at hc) <;> first | (exfalso; omega) | (exact absurd trivial hc) | skip)))
            | refine sc_block ?_
            | refine sc_ret ?_
            | refine sc_exit ?_
            | refine sc_skip ?_
            | refine sc_draw rfl mixed (by kernel_rfl) ?_)
         | (refine gSQ ?_
            first
            | refine sq_seq ?_
            | refine sq_blk ?_
            | refine sq_seq_ret ?_
            | refine sq_blk_ret ?_
            | refine sq_loop_ret ?_
            | refine sq_seq_exit ?_
            | refine sq_blk_hit ?_
            | refine sq_blk_miss rfl ?_
            | refine sq_loop_exit ?_
            | refine sq_ende (.inl rfl) rfl rfl ⟨_, (RVs.cons (RV.tmp rfl) (RVs.nil)), ?_⟩
            | refine sq_ende (.inr rfl) rfl rfl ⟨_, (RVs.cons (RV.tmp rfl) (RVs.nil)), ?_⟩)
         | refine j_nil ?_
         )
        exact sq_loop (d + 1) (by omega) (by omega) (by repeat (first | exact FSub.nil | refine FSub.cons rfl ?_ | refine FSub.conse rfl (by congr 1; omega) ?_)) (by repeat (first | exact LSub.nil | refine LSub.cons (by repeat (first | exact Rem.here | apply Rem.there)) ?_))
      · repeat' (first
         | (refine gJ ?_
            first
            | refine jmv rfl rfl rfl rfl rfl ?_
            | (refine gload rfl rfl ?_
               refine j_qe rfl rfl rfl ?_
               first
               | refine ⟨_, q_load_own rfl rfl rfl rfl (by (repeat (first | exact InL.here | apply InL.there))) (by first | rfl | assumption), ?_⟩
               | refine ⟨_, q_loadA_own rfl rfl rfl rfl (by (repeat (first | exact InL.here | apply InL.there))) (by rfl), ?_⟩
               | refine ⟨_, q_loadA_ext rfl rfl rfl rfl ⟨by assumption, (by first | exact id | assumption)⟩ (by rfl), ?_⟩
               | refine ⟨_, q_load_ext rfl rfl rfl rfl ⟨by assumption, (by first | exact id | assumption)⟩ (by first | rfl | assumption), ?_⟩
               | refine ⟨_, q_load_extb rfl rfl rfl rfl ⟨by assumption, (by first | exact id | assumption)⟩ (by rfl), ?_⟩
               | refine ⟨_, q_loadA_extb rfl rfl rfl rfl ⟨by assumption, (by first | exact id | assumption)⟩ (by rfl), ?_⟩
               | refine ⟨_, q_load_ext0 rfl rfl rfl rfl ⟨by assumption, (by first | exact id | assumption)⟩ (by rfl), ?_⟩)
            | refine jfield rfl rfl rfl rfl rfl rfl rfl rfl ?_
            | refine jcmp rfl rfl rfl rfl rfl rfl rfl ?_
            | refine jar rfl rfl rfl rfl rfl rfl rfl (by omega) ?_
            | refine jextract rfl rfl rfl rfl rfl rfl ?_
            | (refine gF ?_
               first
               | refine j_store rfl rfl rfl rfl rfl rfl rfl rfl (by (repeat (first | exact Upd.here | apply Upd.there))) (by rfl) ?_
               | (refine j_alloc rfl rfl rfl rfl rfl ?_; intro b)
               | (refine j_box rfl rfl rfl rfl rfl ?_; intro b)
               | (refine j_buildSlice rfl rfl rfl rfl rfl rfl rfl rfl rfl rfl rfl rfl ?_; intro b)
               | (refine j_append rfl rfl rfl rfl rfl rfl rfl rfl rfl rfl rfl (by (repeat (first | exact InL.here | apply InL.there))) (by (repeat (first | exact InL.here | apply InL.there))) (by rfl) (by rfl) (by omega) (fun _ => by (repeat (first | exact Upd.here | apply Upd.there))) ?_; intro v))
            | (refine j_qe rfl rfl rfl ?_
               first
               | refine ⟨_, q_pick_t rfl rfl rfl, ?_⟩
               | refine ⟨_, q_pick_f rfl rfl rfl, ?_⟩
               | refine ⟨_, q_not rfl rfl, ?_⟩
               | refine ⟨_, q_index_nat rfl rfl rfl rfl rfl (by omega), ?_⟩
               | refine ⟨_, q_index_slice rfl rfl rfl rfl rfl (by omega), ?_⟩
               | refine ⟨_, q_index_arr rfl rfl rfl rfl rfl (by omega), ?_⟩
               | refine ⟨_, q_index_arr_ext rfl rfl rfl rfl rfl (by omega), ?_⟩
               | refine ⟨_, q_len_slice rfl rfl rfl rfl, ?_⟩
               | refine ⟨_, q_makeFunc rfl rfl, ?_⟩
               | refine ⟨_, q_build_struct rfl rfl rfl rfl rfl, ?_⟩
               | refine ⟨_, q_build_arr rfl rfl rfl rfl rfl, ?_⟩
               | refine ⟨_, q_nilCheck rfl rfl, ?_⟩
               | refine ⟨_, q_field_ext rfl rfl rfl rfl rfl, ?_⟩
               | refine ⟨_, q_quo rfl rfl rfl (by omega), ?_⟩
               | refine ⟨_, q_rem rfl rfl rfl (by omega), ?_⟩
               | refine ⟨_, q_quot rfl rfl rfl (by omega), ?_⟩
               | refine ⟨_, q_remt rfl rfl rfl (by omega), ?_⟩
               | refine ⟨_, q_addu8 rfl rfl rfl (by omega), ?_⟩
               | refine ⟨_, q_quou8 rfl rfl rfl (by omega), ?_⟩
               | refine ⟨_, q_shr1 rfl rfl rfl, ?_⟩
               | refine ⟨_, q_shr rfl rfl rfl ⟨by omega, by decide⟩, ?_⟩
               | refine ⟨_, q_shr rfl rfl rfl ⟨by omega, by show Int.toNat _ ≤ (8:Nat); omega⟩, ?_⟩
               | refine ⟨_, q_and1 rfl rfl rfl (by first | assumption | omega), ?_⟩
               | refine ⟨_, q_conv rfl rfl rfl rfl rfl rfl (by first | rfl | (exact i64_wrap (by omega) (by omega)) | (exact u8_wrap (by omega) (by omega)) | (exact u64_wrap (by omega) (by omega)) | (exact u16_wrap (by omega) (by omega))), ?_⟩)
            | refine j_guard_undef rfl rfl rfl rfl rfl ?_
            | (refine j_guard rfl rfl rfl rfl rfl ?_ ?_ <;> intro hc <;> (first | (exact absurd hc (by decide)) | ((try simp only [decide_eq_true_eq, decide_eq_false_iff_not, Bool.not_eq_true', Bool.not_eq_false', Bool.not_true, Bool.not_false, ne_eq, Decidable.not_not] at hc) <;> first | (exfalso; omega) | (exact absurd trivial hc) | skip))))
         | (refine gSC ?_
            first
            | refine sc_seq ?_
            | refine sc_region ?_
            | (refine sc_cond rfl ?_ ?_ <;> intro hc <;> (first | (exact absurd hc (by decide)) | ((try simp only [decide_eq_true_eq, decide_eq_false_iff_not, Bool.not_eq_true', Bool.not_eq_false', Bool.not_true, Bool.not_false, ne_eq, Decidable.not_not] at hc) <;> first | (exfalso; omega) | (exact absurd trivial hc) | skip)))
            | refine sc_block ?_
            | refine sc_ret ?_
            | refine sc_exit ?_
            | refine sc_skip ?_
            | refine sc_draw rfl mixed (by kernel_rfl) ?_)
         | (refine gSQ ?_
            first
            | refine sq_seq ?_
            | refine sq_blk ?_
            | refine sq_seq_ret ?_
            | refine sq_blk_ret ?_
            | refine sq_loop_ret ?_
            | refine sq_seq_exit ?_
            | refine sq_blk_hit ?_
            | refine sq_blk_miss rfl ?_
            | refine sq_loop_exit ?_
            | refine sq_ende (.inl rfl) rfl rfl ⟨_, (RVs.cons (RV.tmp rfl) (RVs.nil)), ?_⟩
            | refine sq_ende (.inr rfl) rfl rfl ⟨_, (RVs.cons (RV.tmp rfl) (RVs.nil)), ?_⟩)
         | refine j_nil ?_
         )
        exact sq_loop (j + 1) (by omega) (by omega) (by repeat (first | exact FSub.nil | refine FSub.cons rfl ?_ | refine FSub.conse rfl (by congr 1; omega) ?_)) (by repeat (first | exact LSub.nil | refine LSub.cons (by repeat (first | exact Rem.here | apply Rem.there)) ?_))
    · repeat' (first
       | (refine gJ ?_
          first
          | refine jmv rfl rfl rfl rfl rfl ?_
          | (refine gload rfl rfl ?_
             refine j_qe rfl rfl rfl ?_
             first
             | refine ⟨_, q_load_own rfl rfl rfl rfl (by (repeat (first | exact InL.here | apply InL.there))) (by first | rfl | assumption), ?_⟩
             | refine ⟨_, q_loadA_own rfl rfl rfl rfl (by (repeat (first | exact InL.here | apply InL.there))) (by rfl), ?_⟩
             | refine ⟨_, q_loadA_ext rfl rfl rfl rfl ⟨by assumption, (by first | exact id | assumption)⟩ (by rfl), ?_⟩
             | refine ⟨_, q_load_ext rfl rfl rfl rfl ⟨by assumption, (by first | exact id | assumption)⟩ (by first | rfl | assumption), ?_⟩
             | refine ⟨_, q_load_extb rfl rfl rfl rfl ⟨by assumption, (by first | exact id | assumption)⟩ (by rfl), ?_⟩
             | refine ⟨_, q_loadA_extb rfl rfl rfl rfl ⟨by assumption, (by first | exact id | assumption)⟩ (by rfl), ?_⟩
             | refine ⟨_, q_load_ext0 rfl rfl rfl rfl ⟨by assumption, (by first | exact id | assumption)⟩ (by rfl), ?_⟩)
          | refine jfield rfl rfl rfl rfl rfl rfl rfl rfl ?_
          | refine jcmp rfl rfl rfl rfl rfl rfl rfl ?_
          | refine jar rfl rfl rfl rfl rfl rfl rfl (by omega) ?_
          | refine jextract rfl rfl rfl rfl rfl rfl ?_
          | (refine gF ?_
             first
             | refine j_store rfl rfl rfl rfl rfl rfl rfl rfl (by (repeat (first | exact Upd.here | apply Upd.there))) (by rfl) ?_
             | (refine j_alloc rfl rfl rfl rfl rfl ?_; intro b)
             | (refine j_box rfl rfl rfl rfl rfl ?_; intro b)
             | (refine j_buildSlice rfl rfl rfl rfl rfl rfl rfl rfl rfl rfl rfl rfl ?_; intro b)
             | (refine j_append rfl rfl rfl rfl rfl rfl rfl rfl rfl rfl rfl (by (repeat (first | exact InL.here | apply InL.there))) (by (repeat (first | exact InL.here | apply InL.there))) (by rfl) (by rfl) (by omega) (fun _ => by (repeat (first | exact Upd.here | apply Upd.there))) ?_; intro v))
          | (refine j_qe rfl rfl rfl ?_
             first
             | refine ⟨_, q_pick_t rfl rfl rfl, ?_⟩
             | refine ⟨_, q_pick_f rfl rfl rfl, ?_⟩
             | refine ⟨_, q_not rfl rfl, ?_⟩
             | refine ⟨_, q_index_nat rfl rfl rfl rfl rfl (by omega), ?_⟩
             | refine ⟨_, q_index_slice rfl rfl rfl rfl rfl (by omega), ?_⟩
             | refine ⟨_, q_index_arr rfl rfl rfl rfl rfl (by omega), ?_⟩
             | refine ⟨_, q_index_arr_ext rfl rfl rfl rfl rfl (by omega), ?_⟩
             | refine ⟨_, q_len_slice rfl rfl rfl rfl, ?_⟩
             | refine ⟨_, q_makeFunc rfl rfl, ?_⟩
             | refine ⟨_, q_build_struct rfl rfl rfl rfl rfl, ?_⟩
             | refine ⟨_, q_build_arr rfl rfl rfl rfl rfl, ?_⟩
             | refine ⟨_, q_nilCheck rfl rfl, ?_⟩
             | refine ⟨_, q_field_ext rfl rfl rfl rfl rfl, ?_⟩
             | refine ⟨_, q_quo rfl rfl rfl (by omega), ?_⟩
             | refine ⟨_, q_rem rfl rfl rfl (by omega), ?_⟩
             | refine ⟨_, q_quot rfl rfl rfl (by omega), ?_⟩
             | refine ⟨_, q_remt rfl rfl rfl (by omega), ?_⟩
             | refine ⟨_, q_addu8 rfl rfl rfl (by omega), ?_⟩
             | refine ⟨_, q_quou8 rfl rfl rfl (by omega), ?_⟩
             | refine ⟨_, q_shr1 rfl rfl rfl, ?_⟩
             | refine ⟨_, q_shr rfl rfl rfl ⟨by omega, by decide⟩, ?_⟩
             | refine ⟨_, q_shr rfl rfl rfl ⟨by omega, by show Int.toNat _ ≤ (8:Nat); omega⟩, ?_⟩
             | refine ⟨_, q_and1 rfl rfl rfl (by first | assumption | omega), ?_⟩
             | refine ⟨_, q_conv rfl rfl rfl rfl rfl rfl (by first | rfl | (exact i64_wrap (by omega) (by omega)) | (exact u8_wrap (by omega) (by omega)) | (exact u64_wrap (by omega) (by omega)) | (exact u16_wrap (by omega) (by omega))), ?_⟩)
          | refine j_guard_undef rfl rfl rfl rfl rfl ?_
          | (refine j_guard rfl rfl rfl rfl rfl ?_ ?_ <;> intro hc <;> (first | (exact absurd hc (by decide)) | ((try simp only [decide_eq_true_eq, decide_eq_false_iff_not, Bool.not_eq_true', Bool.not_eq_false', Bool.not_true, Bool.not_false, ne_eq, Decidable.not_not] at hc) <;> first | (exfalso; omega) | (exact absurd trivial hc) | skip))))
       | (refine gSC ?_
          first
          | refine sc_seq ?_
          | refine sc_region ?_
          | (refine sc_cond rfl ?_ ?_ <;> intro hc <;> (first | (exact absurd hc (by decide)) | ((try simp only [decide_eq_true_eq, decide_eq_false_iff_not, Bool.not_eq_true', Bool.not_eq_false', Bool.not_true, Bool.not_false, ne_eq, Decidable.not_not] at hc) <;> first | (exfalso; omega) | (exact absurd trivial hc) | skip)))
          | refine sc_block ?_
          | refine sc_ret ?_
          | refine sc_exit ?_
          | refine sc_skip ?_
          | refine sc_draw rfl mixed (by kernel_rfl) ?_)
       | (refine gSQ ?_
          first
          | refine sq_seq ?_
          | refine sq_blk ?_
          | refine sq_seq_ret ?_
          | refine sq_blk_ret ?_
          | refine sq_loop_ret ?_
          | refine sq_seq_exit ?_
          | refine sq_blk_hit ?_
          | refine sq_blk_miss rfl ?_
          | refine sq_loop_exit ?_
          | refine sq_ende (.inl rfl) rfl rfl ⟨_, (RVs.cons (RV.tmp rfl) (RVs.nil)), ?_⟩
          | refine sq_ende (.inr rfl) rfl rfl ⟨_, (RVs.cons (RV.tmp rfl) (RVs.nil)), ?_⟩)
       | refine j_nil ?_
       )
      exact sq_loop (i + 1) (by omega) (by omega) (by repeat (first | exact FSub.nil | refine FSub.cons rfl ?_ | refine FSub.conse rfl (by congr 1; omega) ?_)) (by repeat (first | exact LSub.nil | refine LSub.cons (by repeat (first | exact Rem.here | apply Rem.there)) ?_))
  · repeat' (first
     | (refine gJ ?_
        first
        | refine jmv rfl rfl rfl rfl rfl ?_
        | (refine gload rfl rfl ?_
           refine j_qe rfl rfl rfl ?_
           first
           | refine ⟨_, q_load_own rfl rfl rfl rfl (by (repeat (first | exact InL.here | apply InL.there))) (by first | rfl | assumption), ?_⟩
           | refine ⟨_, q_loadA_own rfl rfl rfl rfl (by (repeat (first | exact InL.here | apply InL.there))) (by rfl), ?_⟩
           | refine ⟨_, q_loadA_ext rfl rfl rfl rfl ⟨by assumption, (by first | exact id | assumption)⟩ (by rfl), ?_⟩
           | refine ⟨_, q_load_ext rfl rfl rfl rfl ⟨by assumption, (by first | exact id | assumption)⟩ (by first | rfl | assumption), ?_⟩
           | refine ⟨_, q_load_extb rfl rfl rfl rfl ⟨by assumption, (by first | exact id | assumption)⟩ (by rfl), ?_⟩
           | refine ⟨_, q_loadA_extb rfl rfl rfl rfl ⟨by assumption, (by first | exact id | assumption)⟩ (by rfl), ?_⟩
           | refine ⟨_, q_load_ext0 rfl rfl rfl rfl ⟨by assumption, (by first | exact id | assumption)⟩ (by rfl), ?_⟩)
        | refine jfield rfl rfl rfl rfl rfl rfl rfl rfl ?_
        | refine jcmp rfl rfl rfl rfl rfl rfl rfl ?_
        | refine jar rfl rfl rfl rfl rfl rfl rfl (by omega) ?_
        | refine jextract rfl rfl rfl rfl rfl rfl ?_
        | (refine gF ?_
           first
           | refine j_store rfl rfl rfl rfl rfl rfl rfl rfl (by (repeat (first | exact Upd.here | apply Upd.there))) (by rfl) ?_
           | (refine j_alloc rfl rfl rfl rfl rfl ?_; intro b)
           | (refine j_box rfl rfl rfl rfl rfl ?_; intro b)
           | (refine j_buildSlice rfl rfl rfl rfl rfl rfl rfl rfl rfl rfl rfl rfl ?_; intro b)
           | (refine j_append rfl rfl rfl rfl rfl rfl rfl rfl rfl rfl rfl (by (repeat (first | exact InL.here | apply InL.there))) (by (repeat (first | exact InL.here | apply InL.there))) (by rfl) (by rfl) (by omega) (fun _ => by (repeat (first | exact Upd.here | apply Upd.there))) ?_; intro v))
        | (refine j_qe rfl rfl rfl ?_
           first
           | refine ⟨_, q_pick_t rfl rfl rfl, ?_⟩
           | refine ⟨_, q_pick_f rfl rfl rfl, ?_⟩
           | refine ⟨_, q_not rfl rfl, ?_⟩
           | refine ⟨_, q_index_nat rfl rfl rfl rfl rfl (by omega), ?_⟩
           | refine ⟨_, q_index_slice rfl rfl rfl rfl rfl (by omega), ?_⟩
           | refine ⟨_, q_index_arr rfl rfl rfl rfl rfl (by omega), ?_⟩
           | refine ⟨_, q_index_arr_ext rfl rfl rfl rfl rfl (by omega), ?_⟩
           | refine ⟨_, q_len_slice rfl rfl rfl rfl, ?_⟩
           | refine ⟨_, q_makeFunc rfl rfl, ?_⟩
           | refine ⟨_, q_build_struct rfl rfl rfl rfl rfl, ?_⟩
           | refine ⟨_, q_build_arr rfl rfl rfl rfl rfl, ?_⟩
           | refine ⟨_, q_nilCheck rfl rfl, ?_⟩
           | refine ⟨_, q_field_ext rfl rfl rfl rfl rfl, ?_⟩
           | refine ⟨_, q_quo rfl rfl rfl (by omega), ?_⟩
           | refine ⟨_, q_rem rfl rfl rfl (by omega), ?_⟩
           | refine ⟨_, q_quot rfl rfl rfl (by omega), ?_⟩
           | refine ⟨_, q_remt rfl rfl rfl (by omega), ?_⟩
           | refine ⟨_, q_addu8 rfl rfl rfl (by omega), ?_⟩
           | refine ⟨_, q_quou8 rfl rfl rfl (by omega), ?_⟩
           | refine ⟨_, q_shr1 rfl rfl rfl, ?_⟩
           | refine ⟨_, q_shr rfl rfl rfl ⟨by omega, by decide⟩, ?_⟩
           | refine ⟨_, q_shr rfl rfl rfl ⟨by omega, by show Int.toNat _ ≤ (8:Nat); omega⟩, ?_⟩
           | refine ⟨_, q_and1 rfl rfl rfl (by first | assumption | omega), ?_⟩
           | refine ⟨_, q_conv rfl rfl rfl rfl rfl rfl (by first | rfl | (exact i64_wrap (by omega) (by omega)) | (exact u8_wrap (by omega) (by omega)) | (exact u64_wrap (by omega) (by omega)) | (exact u16_wrap (by omega) (by omega))), ?_⟩)
        | refine j_guard_undef rfl rfl rfl rfl rfl ?_
        | (refine j_guard rfl rfl rfl rfl rfl ?_ ?_ <;> intro hc <;> (first | (exact absurd hc (by decide)) | ((try simp only [decide_eq_true_eq, decide_eq_false_iff_not, Bool.not_eq_true', Bool.not_eq_false', Bool.not_true, Bool.not_false, ne_eq, Decidable.not_not] at hc) <;> first | (exfalso; omega) | (exact absurd trivial hc) | skip))))
     | (refine gSC ?_
        first
        | refine sc_seq ?_
        | refine sc_region ?_
        | (refine sc_cond rfl ?_ ?_ <;> intro hc <;> (first | (exact absurd hc (by decide)) | ((try simp only [decide_eq_true_eq, decide_eq_false_iff_not, Bool.not_eq_true', Bool.not_eq_false', Bool.not_true, Bool.not_false, ne_eq, Decidable.not_not] at hc) <;> first | (exfalso; omega) | (exact absurd trivial hc) | skip)))
        | refine sc_block ?_
        | refine sc_ret ?_
        | refine sc_exit ?_
        | refine sc_skip ?_
        | refine sc_draw rfl mixed (by kernel_rfl) ?_)
     | (refine gSQ ?_
        first
        | refine sq_seq ?_
        | refine sq_blk ?_
        | refine sq_seq_ret ?_
        | refine sq_blk_ret ?_
        | refine sq_loop_ret ?_
        | refine sq_seq_exit ?_
        | refine sq_blk_hit ?_
        | refine sq_blk_miss rfl ?_
        | refine sq_loop_exit ?_
        | refine sq_ende (.inl rfl) rfl rfl ⟨_, (RVs.cons (RV.tmp rfl) (RVs.nil)), ?_⟩
        | refine sq_ende (.inr rfl) rfl rfl ⟨_, (RVs.cons (RV.tmp rfl) (RVs.nil)), ?_⟩)
     | refine j_nil ?_
     )
    refine sc_loop (ι := Nat) (fun i => i ≤ 256) (fun i => 256 - i) (fun i => [(1, .pointer (some ⟨bs, 0, none⟩)), (9, .int .i64 i)]) (fun _ => []) 0 (by omega) (by repeat (first | exact FSub.nil | refine FSub.cons rfl ?_ | refine FSub.conse rfl (by congr 1; omega) ?_)) (by repeat (first | exact LSub.nil | refine LSub.cons (by repeat (first | exact Rem.here | apply Rem.there)) ?_)) ?_
    intro i hi
    by_cases hlt : i < 256
    · have hok1 := ru1_ok (p := 12) (k := 3) (f := 0) (t := 0) (d := (i : Int)) (by omega) (by omega) (by omega) (by omega) (by omega)
      have hv1 := fun A c w' hs h => validR_c nl3 nl3 nl3 (some ⟨bp, 0, none⟩) 3 exPts A c [⟨12, 3, 0, 0, (i : Int)⟩] w' rfl rfl rfl (by decide) hs (by show 1 ≤ 9223372036854775807; omega) hok1 h
      have hv2 := fun A c w' hs h => Valid_c nl3 nl3 nl3 (some ⟨bp, 0, none⟩) 3 exPts A c [⟨12, 3, 0, 0, (i : Int)⟩] w' rfl rfl rfl (by decide) hs (by show 1 ≤ 9223372036854775807; omega) hok1 h
      generalize validF exPts [⟨12, 3, 0, 0, (i : Int)⟩] = vf at *
      obtain ⟨f1, f2⟩ := vf
      dsimp only at hv1 hv2
      repeat' (first
       | (refine gJ ?_
          first
          | refine jmv rfl rfl rfl rfl rfl ?_
          | (refine gload rfl rfl ?_
             refine j_qe rfl rfl rfl ?_
             first
             | refine ⟨_, q_load_own rfl rfl rfl rfl (by (repeat (first | exact InL.here | apply InL.there))) (by first | rfl | assumption), ?_⟩
             | refine ⟨_, q_loadA_own rfl rfl rfl rfl (by (repeat (first | exact InL.here | apply InL.there))) (by rfl), ?_⟩
             | refine ⟨_, q_loadA_ext rfl rfl rfl rfl ⟨by assumption, (by first | exact id | assumption)⟩ (by rfl), ?_⟩
             | refine ⟨_, q_load_ext rfl rfl rfl rfl ⟨by assumption, (by first | exact id | assumption)⟩ (by first | rfl | assumption), ?_⟩
             | refine ⟨_, q_load_extb rfl rfl rfl rfl ⟨by assumption, (by first | exact id | assumption)⟩ (by rfl), ?_⟩
             | refine ⟨_, q_loadA_extb rfl rfl rfl rfl ⟨by assumption, (by first | exact id | assumption)⟩ (by rfl), ?_⟩
             | refine ⟨_, q_load_ext0 rfl rfl rfl rfl ⟨by assumption, (by first | exact id | assumption)⟩ (by rfl), ?_⟩)
          | refine jfield rfl rfl rfl rfl rfl rfl rfl rfl ?_
          | refine jcmp rfl rfl rfl rfl rfl rfl rfl ?_
          | refine jar rfl rfl rfl rfl rfl rfl rfl (by omega) ?_
          | refine jextract rfl rfl rfl rfl rfl rfl ?_
          | (refine gcall rfl rfl ?_
             first
             | (refine j_qc (f := 25) rfl rfl rfl rfl rfl rfl rfl ?_; refine ⟨_, (fun w' hs => hv1 _ _ w' (hPts.st hs) (rs_of_cells (f := ruC) (l := ([⟨12, 3, 0, 0, (i : Int)⟩] : List Ru)) hs (fun _ => rfl) (by (repeat (first | exact InL.here | apply InL.there))))), ?_⟩)
             | (refine j_qc (f := 26) rfl rfl rfl rfl rfl rfl rfl ?_; refine ⟨_, (fun w' hs => hv2 _ _ w' (hPts.st hs) (rs_of_cells (f := ruC) (l := ([⟨12, 3, 0, 0, (i : Int)⟩] : List Ru)) hs (fun _ => rfl) (by (repeat (first | exact InL.here | apply InL.there))))), ?_⟩))
          | (refine gF ?_
             first
             | refine j_store rfl rfl rfl rfl rfl rfl rfl rfl (by (repeat (first | exact Upd.here | apply Upd.there))) (by rfl) ?_
             | (refine j_alloc rfl rfl rfl rfl rfl ?_; intro b)
             | (refine j_box rfl rfl rfl rfl rfl ?_; intro b)
             | (refine j_buildSlice rfl rfl rfl rfl rfl rfl rfl rfl rfl rfl rfl rfl ?_; intro b)
             | (refine j_append rfl rfl rfl rfl rfl rfl rfl rfl rfl rfl rfl (by (repeat (first | exact InL.here | apply InL.there))) (by (repeat (first | exact InL.here | apply InL.there))) (by rfl) (by rfl) (by omega) (fun _ => by (repeat (first | exact Upd.here | apply Upd.there))) ?_; intro v))
          | (refine j_qe rfl rfl rfl ?_
             first
             | refine ⟨_, q_pick_t rfl rfl rfl, ?_⟩
             | refine ⟨_, q_pick_f rfl rfl rfl, ?_⟩
             | refine ⟨_, q_not rfl rfl, ?_⟩
             | refine ⟨_, q_index_nat rfl rfl rfl rfl rfl (by omega), ?_⟩
             | refine ⟨_, q_index_slice rfl rfl rfl rfl rfl (by omega), ?_⟩
             | refine ⟨_, q_index_arr rfl rfl rfl rfl rfl (by omega), ?_⟩
             | refine ⟨_, q_index_arr_ext rfl rfl rfl rfl rfl (by omega), ?_⟩
             | refine ⟨_, q_len_slice rfl rfl rfl rfl, ?_⟩
             | refine ⟨_, q_makeFunc rfl rfl, ?_⟩
             | refine ⟨_, q_build_struct rfl rfl rfl rfl rfl, ?_⟩
             | refine ⟨_, q_build_arr rfl rfl rfl rfl rfl, ?_⟩
             | refine ⟨_, q_nilCheck rfl rfl, ?_⟩
             | refine ⟨_, q_field_ext rfl rfl rfl rfl rfl, ?_⟩
             | refine ⟨_, q_quo rfl rfl rfl (by omega), ?_⟩
             | refine ⟨_, q_rem rfl rfl rfl (by omega), ?_⟩
             | refine ⟨_, q_quot rfl rfl rfl (by omega), ?_⟩
             | refine ⟨_, q_remt rfl rfl rfl (by omega), ?_⟩
             | refine ⟨_, q_addu8 rfl rfl rfl (by omega), ?_⟩
             | refine ⟨_, q_quou8 rfl rfl rfl (by omega), ?_⟩
             | refine ⟨_, q_shr1 rfl rfl rfl, ?_⟩
             | refine ⟨_, q_shr rfl rfl rfl ⟨by omega, by decide⟩, ?_⟩
             | refine ⟨_, q_shr rfl rfl rfl ⟨by omega, by show Int.toNat _ ≤ (8:Nat); omega⟩, ?_⟩
             | refine ⟨_, q_and1 rfl rfl rfl (by first | assumption | omega), ?_⟩
             | refine ⟨_, q_conv rfl rfl rfl rfl rfl rfl (by first | rfl | (exact i64_wrap (by omega) (by omega)) | (exact u8_wrap (by omega) (by omega)) | (exact u64_wrap (by omega) (by omega)) | (exact u16_wrap (by omega) (by omega))), ?_⟩)
          | refine j_guard_undef rfl rfl rfl rfl rfl ?_
          | (refine j_guard rfl rfl rfl rfl rfl ?_ ?_ <;> intro hc <;> (first | (exact absurd hc (by decide)) | ((try simp only [decide_eq_true_eq, decide_eq_false_iff_not, Bool.not_eq_true', Bool.not_eq_false', Bool.not_true, Bool.not_false, ne_eq, Decidable.not_not] at hc) <;> first | (exfalso; omega) | (exact absurd trivial hc) | skip))))
       | (refine gSC ?_
          first
          | refine sc_seq ?_
          | refine sc_region ?_
          | (refine sc_cond rfl ?_ ?_ <;> intro hc <;> (first | (exact absurd hc (by decide)) | ((try simp only [decide_eq_true_eq, decide_eq_false_iff_not, Bool.not_eq_true', Bool.not_eq_false', Bool.not_true, Bool.not_false, ne_eq, Decidable.not_not] at hc) <;> first | (exfalso; omega) | (exact absurd trivial hc) | skip)))
          | refine sc_block ?_
          | refine sc_ret ?_
          | refine sc_exit ?_
          | refine sc_skip ?_
          | refine sc_draw rfl mixed (by kernel_rfl) ?_)
       | (refine gSQ ?_
          first
          | refine sq_seq ?_
          | refine sq_blk ?_
          | refine sq_seq_ret ?_
          | refine sq_blk_ret ?_
          | refine sq_loop_ret ?_
          | refine sq_seq_exit ?_
          | refine sq_blk_hit ?_
          | refine sq_blk_miss rfl ?_
          | refine sq_loop_exit ?_
          | refine sq_ende (.inl rfl) rfl rfl ⟨_, (RVs.cons (RV.tmp rfl) (RVs.nil)), ?_⟩
          | refine sq_ende (.inr rfl) rfl rfl ⟨_, (RVs.cons (RV.tmp rfl) (RVs.nil)), ?_⟩)
       | refine j_nil ?_
       )
      revert b; intro br
      refine sc_loop (ι := Nat) (fun d => d ≤ 10) (fun d => 10 - d) (fun d => [(1, .pointer (some ⟨bs, 0, none⟩)), (9, .int .i64 i), (10, .slice (some ⟨br, 0, none⟩) 1 1), (12, .int .i64 f2), (15, .int .i64 d)]) (fun _ => [.cells br 37 (ruC ⟨12, 3, 0, 0, (i : Int)⟩)]) 0 (by omega) (by repeat (first | exact FSub.nil | refine FSub.cons rfl ?_ | refine FSub.conse rfl (by congr 1; omega) ?_)) (by repeat (first | exact LSub.nil | refine LSub.cons (by repeat (first | exact Rem.here | apply Rem.there)) ?_)) ?_
      intro d hd
      by_cases hdt : d < 10 ∧ f2 = 0
      · obtain ⟨hd1, hd2⟩ := hdt
        repeat' (first
         | (refine gJ ?_
            first
            | refine jmv rfl rfl rfl rfl rfl ?_
            | (refine gload rfl rfl ?_
               refine j_qe rfl rfl rfl ?_
               first
               | refine ⟨_, q_load_own rfl rfl rfl rfl (by (repeat (first | exact InL.here | apply InL.there))) (by first | rfl | assumption), ?_⟩
               | refine ⟨_, q_loadA_own rfl rfl rfl rfl (by (repeat (first | exact InL.here | apply InL.there))) (by rfl), ?_⟩
               | refine ⟨_, q_loadA_ext rfl rfl rfl rfl ⟨by assumption, (by first | exact id | assumption)⟩ (by rfl), ?_⟩
               | refine ⟨_, q_load_ext rfl rfl rfl rfl ⟨by assumption, (by first | exact id | assumption)⟩ (by first | rfl | assumption), ?_⟩
               | refine ⟨_, q_load_extb rfl rfl rfl rfl ⟨by assumption, (by first | exact id | assumption)⟩ (by rfl), ?_⟩
               | refine ⟨_, q_loadA_extb rfl rfl rfl rfl ⟨by assumption, (by first | exact id | assumption)⟩ (by rfl), ?_⟩
               | refine ⟨_, q_load_ext0 rfl rfl rfl rfl ⟨by assumption, (by first | exact id | assumption)⟩ (by rfl), ?_⟩)
            | refine jfield rfl rfl rfl rfl rfl rfl rfl rfl ?_
            | refine jcmp rfl rfl rfl rfl rfl rfl rfl ?_
            | refine jar rfl rfl rfl rfl rfl rfl rfl (by omega) ?_
            | refine jextract rfl rfl rfl rfl rfl rfl ?_
            | (refine gcall rfl rfl ?_
               first
               | (refine j_qc (f := 30) rfl rfl rfl rfl rfl rfl rfl ?_; refine ⟨_, (fun w' hs => sameS_c nl3 nl3 nl3 (some ⟨bp, 0, none⟩) 3 exPts (some ⟨br, 0, none⟩) 1 [⟨12, 3, 0, 0, (i : Int)⟩] none 0 [] 12 d w' rfl rfl rfl (by decide) (hPts.st hs) (by show 1 ≤ 9223372036854775807; omega) hok1 (rs_of_cells (f := ruC) (l := ([⟨12, 3, 0, 0, (i : Int)⟩] : List Ru)) hs (fun _ => rfl) (by (repeat (first | exact InL.here | apply InL.there)))) (by decide) RS.nil), ?_⟩))
            | (refine gF ?_
               first
               | refine j_store rfl rfl rfl rfl rfl rfl rfl rfl (by (repeat (first | exact Upd.here | apply Upd.there))) (by rfl) ?_
               | (refine j_alloc rfl rfl rfl rfl rfl ?_; intro b)
               | (refine j_box rfl rfl rfl rfl rfl ?_; intro b)
               | (refine j_buildSlice rfl rfl rfl rfl rfl rfl rfl rfl rfl rfl rfl rfl ?_; intro b)
               | (refine j_append rfl rfl rfl rfl rfl rfl rfl rfl rfl rfl rfl (by (repeat (first | exact InL.here | apply InL.there))) (by (repeat (first | exact InL.here | apply InL.there))) (by rfl) (by rfl) (by omega) (fun _ => by (repeat (first | exact Upd.here | apply Upd.there))) ?_; intro v))
            | (refine j_qe rfl rfl rfl ?_
               first
               | refine ⟨_, q_pick_t rfl rfl rfl, ?_⟩
               | refine ⟨_, q_pick_f rfl rfl rfl, ?_⟩
               | refine ⟨_, q_not rfl rfl, ?_⟩
               | refine ⟨_, q_index_nat rfl rfl rfl rfl rfl (by omega), ?_⟩
               | refine ⟨_, q_index_slice rfl rfl rfl rfl rfl (by omega), ?_⟩
               | refine ⟨_, q_index_arr rfl rfl rfl rfl rfl (by omega), ?_⟩
               | refine ⟨_, q_index_arr_ext rfl rfl rfl rfl rfl (by omega), ?_⟩
               | refine ⟨_, q_len_slice rfl rfl rfl rfl, ?_⟩
               | refine ⟨_, q_makeFunc rfl rfl, ?_⟩
               | refine ⟨_, q_build_struct rfl rfl rfl rfl rfl, ?_⟩
               | refine ⟨_, q_build_arr rfl rfl rfl rfl rfl, ?_⟩
               | refine ⟨_, q_nilCheck rfl rfl, ?_⟩
               | refine ⟨_, q_field_ext rfl rfl rfl rfl rfl, ?_⟩
               | refine ⟨_, q_quo rfl rfl rfl (by omega), ?_⟩
               | refine ⟨_, q_rem rfl rfl rfl (by omega), ?_⟩
               | refine ⟨_, q_quot rfl rfl rfl (by omega), ?_⟩
               | refine ⟨_, q_remt rfl rfl rfl (by omega), ?_⟩
               | refine ⟨_, q_addu8 rfl rfl rfl (by omega), ?_⟩
               | refine ⟨_, q_quou8 rfl rfl rfl (by omega), ?_⟩
               | refine ⟨_, q_shr1 rfl rfl rfl, ?_⟩
               | refine ⟨_, q_shr rfl rfl rfl ⟨by omega, by decide⟩, ?_⟩
               | refine ⟨_, q_shr rfl rfl rfl ⟨by omega, by show Int.toNat _ ≤ (8:Nat); omega⟩, ?_⟩
               | refine ⟨_, q_and1 rfl rfl rfl (by first | assumption | omega), ?_⟩
               | refine ⟨_, q_conv rfl rfl rfl rfl rfl rfl (by first | rfl | (exact i64_wrap (by omega) (by omega)) | (exact u8_wrap (by omega) (by omega)) | (exact u64_wrap (by omega) (by omega)) | (exact u16_wrap (by omega) (by omega))), ?_⟩)
            | refine j_guard_undef rfl rfl rfl rfl rfl ?_
            | (refine j_guard rfl rfl rfl rfl rfl ?_ ?_ <;> intro hc <;> (first | (exact absurd hc (by decide)) | ((try simp only [decide_eq_true_eq, decide_eq_false_iff_not, Bool.not_eq_true', Bool.not_eq_false', Bool.not_true, Bool.not_false, ne_eq, Decidable.not_not] at hc) <;> first | (exfalso; omega) | (exact absurd trivial hc) | skip))))
         | (refine gSC ?_
            first
            | refine sc_seq ?_
            | refine sc_region ?_
            | (refine sc_cond rfl ?_ ?_ <;> intro hc <;> (first | (exact absurd hc (by decide)) | ((try simp only [decide_eq_true_eq, decide_eq_false_iff_not, Bool.not_eq_true', Bool.not_eq_false', Bool.not_true, Bool.not_false, ne_eq, Decidable.not_not] at hc) <;> first | (exfalso; omega) | (exact absurd trivial hc) | skip)))
            | refine sc_block ?_
            | refine sc_ret ?_
            | refine sc_exit ?_
            | refine sc_skip ?_
            | refine sc_draw rfl mixed (by kernel_rfl) ?_)
         | (refine gSQ ?_
            first
            | refine sq_seq ?_
            | refine sq_blk ?_
            | refine sq_seq_ret ?_
            | refine sq_blk_ret ?_
            | refine sq_loop_ret ?_
            | refine sq_seq_exit ?_
            | refine sq_blk_hit ?_
            | refine sq_blk_miss rfl ?_
            | refine sq_loop_exit ?_
            | refine sq_ende (.inl rfl) rfl rfl ⟨_, (RVs.cons (RV.tmp rfl) (RVs.nil)), ?_⟩
            | refine sq_ende (.inr rfl) rfl rfl ⟨_, (RVs.cons (RV.tmp rfl) (RVs.nil)), ?_⟩)
         | refine j_nil ?_
         )
        exact sq_loop (d + 1) (by omega) (by omega) (by repeat (first | exact FSub.nil | refine FSub.cons rfl ?_ | refine FSub.conse rfl (by congr 1; omega) ?_)) (by repeat (first | exact LSub.nil | refine LSub.cons (by repeat (first | exact Rem.here | apply Rem.there)) ?_))
      · repeat' (first
         | (refine gJ ?_
            first
            | refine jmv rfl rfl rfl rfl rfl ?_
            | (refine gload rfl rfl ?_
               refine j_qe rfl rfl rfl ?_
               first
               | refine ⟨_, q_load_own rfl rfl rfl rfl (by (repeat (first | exact InL.here | apply InL.there))) (by first | rfl | assumption), ?_⟩
               | refine ⟨_, q_loadA_own rfl rfl rfl rfl (by (repeat (first | exact InL.here | apply InL.there))) (by rfl), ?_⟩
               | refine ⟨_, q_loadA_ext rfl rfl rfl rfl ⟨by assumption, (by first | exact id | assumption)⟩ (by rfl), ?_⟩
               | refine ⟨_, q_load_ext rfl rfl rfl rfl ⟨by assumption, (by first | exact id | assumption)⟩ (by first | rfl | assumption), ?_⟩
               | refine ⟨_, q_load_extb rfl rfl rfl rfl ⟨by assumption, (by first | exact id | assumption)⟩ (by rfl), ?_⟩
               | refine ⟨_, q_loadA_extb rfl rfl rfl rfl ⟨by assumption, (by first | exact id | assumption)⟩ (by rfl), ?_⟩
               | refine ⟨_, q_load_ext0 rfl rfl rfl rfl ⟨by assumption, (by first | exact id | assumption)⟩ (by rfl), ?_⟩)
            | refine jfield rfl rfl rfl rfl rfl rfl rfl rfl ?_
            | refine jcmp rfl rfl rfl rfl rfl rfl rfl ?_
            | refine jar rfl rfl rfl rfl rfl rfl rfl (by omega) ?_
            | refine jextract rfl rfl rfl rfl rfl rfl ?_
            | (refine gF ?_
               first
               | refine j_store rfl rfl rfl rfl rfl rfl rfl rfl (by (repeat (first | exact Upd.here | apply Upd.there))) (by rfl) ?_
               | (refine j_alloc rfl rfl rfl rfl rfl ?_; intro b)
               | (refine j_box rfl rfl rfl rfl rfl ?_; intro b)
               | (refine j_buildSlice rfl rfl rfl rfl rfl rfl rfl rfl rfl rfl rfl rfl ?_; intro b)
               | (refine j_append rfl rfl rfl rfl rfl rfl rfl rfl rfl rfl rfl (by (repeat (first | exact InL.here | apply InL.there))) (by (repeat (first | exact InL.here | apply InL.there))) (by rfl) (by rfl) (by omega) (fun _ => by (repeat (first | exact Upd.here | apply Upd.there))) ?_; intro v))
            | (refine j_qe rfl rfl rfl ?_
               first
               | refine ⟨_, q_pick_t rfl rfl rfl, ?_⟩
               | refine ⟨_, q_pick_f rfl rfl rfl, ?_⟩
               | refine ⟨_, q_not rfl rfl, ?_⟩
               | refine ⟨_, q_index_nat rfl rfl rfl rfl rfl (by omega), ?_⟩
               | refine ⟨_, q_index_slice rfl rfl rfl rfl rfl (by omega), ?_⟩
               | refine ⟨_, q_index_arr rfl rfl rfl rfl rfl (by omega), ?_⟩
               | refine ⟨_, q_index_arr_ext rfl rfl rfl rfl rfl (by omega), ?_⟩
               | refine ⟨_, q_len_slice rfl rfl rfl rfl, ?_⟩
               | refine ⟨_, q_makeFunc rfl rfl, ?_⟩
               | refine ⟨_, q_build_struct rfl rfl rfl rfl rfl, ?_⟩
               | refine ⟨_, q_build_arr rfl rfl rfl rfl rfl, ?_⟩
               | refine ⟨_, q_nilCheck rfl rfl, ?_⟩
               | refine ⟨_, q_field_ext rfl rfl rfl rfl rfl, ?_⟩
               | refine ⟨_, q_quo rfl rfl rfl (by omega), ?_⟩
               | refine ⟨_, q_rem rfl rfl rfl (by omega), ?_⟩
               | refine ⟨_, q_quot rfl rfl rfl (by omega), ?_⟩
               | refine ⟨_, q_remt rfl rfl rfl (by omega), ?_⟩
               | refine ⟨_, q_addu8 rfl rfl rfl (by omega), ?_⟩
               | refine ⟨_, q_quou8 rfl rfl rfl (by omega), ?_⟩
               | refine ⟨_, q_shr1 rfl rfl rfl, ?_⟩
               | refine ⟨_, q_shr rfl rfl rfl ⟨by omega, by decide⟩, ?_⟩
               | refine ⟨_, q_shr rfl rfl rfl ⟨by omega, by show Int.toNat _ ≤ (8:Nat); omega⟩, ?_⟩
               | refine ⟨_, q_and1 rfl rfl rfl (by first | assumption | omega), ?_⟩
               | refine ⟨_, q_conv rfl rfl rfl rfl rfl rfl (by first | rfl | (exact i64_wrap (by omega) (by omega)) | (exact u8_wrap (by omega) (by omega)) | (exact u64_wrap (by omega) (by omega)) | (exact u16_wrap (by omega) (by omega))), ?_⟩)
            | refine j_guard_undef rfl rfl rfl rfl rfl ?_
            | (refine j_guard rfl rfl rfl rfl rfl ?_ ?_ <;> intro hc <;> (first | (exact absurd hc (by decide)) | ((try simp only [decide_eq_true_eq, decide_eq_false_iff_not, Bool.not_eq_true', Bool.not_eq_false', Bool.not_true, Bool.not_false, ne_eq, Decidable.not_not] at hc) <;> first | (exfalso; omega) | (exact absurd trivial hc) | skip))))
         | (refine gSC ?_
            first
            | refine sc_seq ?_
            | refine sc_region ?_
            | (refine sc_cond rfl ?_ ?_ <;> intro hc <;> (first | (exact absurd hc (by decide)) | ((try simp only [decide_eq_true_eq, decide_eq_false_iff_not, Bool.not_eq_true', Bool.not_eq_false', Bool.not_true, Bool.not_false, ne_eq, Decidable.not_not] at hc) <;> first | (exfalso; omega) | (exact absurd trivial hc) | skip)))
            | refine sc_block ?_
            | refine sc_ret ?_
            | refine sc_exit ?_
            | refine sc_skip ?_
            | refine sc_draw rfl mixed (by kernel_rfl) ?_)
         | (refine gSQ ?_
            first
            | refine sq_seq ?_
            | refine sq_blk ?_
            | refine sq_seq_ret ?_
            | refine sq_blk_ret ?_
            | refine sq_loop_ret ?_
            | refine sq_seq_exit ?_
            | refine sq_blk_hit ?_
            | refine sq_blk_miss rfl ?_
            | refine sq_loop_exit ?_
            | refine sq_ende (.inl rfl) rfl rfl ⟨_, (RVs.cons (RV.tmp rfl) (RVs.nil)), ?_⟩
            | refine sq_ende (.inr rfl) rfl rfl ⟨_, (RVs.cons (RV.tmp rfl) (RVs.nil)), ?_⟩)
         | refine j_nil ?_
         )
        all_goals exact sq_loop (i + 1) (by omega) (by omega) (by repeat (first | exact FSub.nil | refine FSub.cons rfl ?_ | refine FSub.conse rfl (by congr 1; omega) ?_)) (by repeat (first | exact LSub.nil | refine LSub.cons (by repeat (first | exact Rem.here | apply Rem.there)) ?_))
    · repeat' (first
       | (refine gJ ?_
          first
          | refine jmv rfl rfl rfl rfl rfl ?_
          | (refine gload rfl rfl ?_
             refine j_qe rfl rfl rfl ?_
             first
             | refine ⟨_, q_load_own rfl rfl rfl rfl (by (repeat (first | exact InL.here | apply InL.there))) (by first | rfl | assumption), ?_⟩
             | refine ⟨_, q_loadA_own rfl rfl rfl rfl (by (repeat (first | exact InL.here | apply InL.there))) (by rfl), ?_⟩
             | refine ⟨_, q_loadA_ext rfl rfl rfl rfl ⟨by assumption, (by first | exact id | assumption)⟩ (by rfl), ?_⟩
             | refine ⟨_, q_load_ext rfl rfl rfl rfl ⟨by assumption, (by first | exact id | assumption)⟩ (by first | rfl | assumption), ?_⟩
             | refine ⟨_, q_load_extb rfl rfl rfl rfl ⟨by assumption, (by first | exact id | assumption)⟩ (by rfl), ?_⟩
             | refine ⟨_, q_loadA_extb rfl rfl rfl rfl ⟨by assumption, (by first | exact id | assumption)⟩ (by rfl), ?_⟩
             | refine ⟨_, q_load_ext0 rfl rfl rfl rfl ⟨by assumption, (by first | exact id | assumption)⟩ (by rfl), ?_⟩)
          | refine jfield rfl rfl rfl rfl rfl rfl rfl rfl ?_
          | refine jcmp rfl rfl rfl rfl rfl rfl rfl ?_
          | refine jar rfl rfl rfl rfl rfl rfl rfl (by omega) ?_
          | refine jextract rfl rfl rfl rfl rfl rfl ?_
          | (refine gF ?_
             first
             | refine j_store rfl rfl rfl rfl rfl rfl rfl rfl (by (repeat (first | exact Upd.here | apply Upd.there))) (by rfl) ?_
             | (refine j_alloc rfl rfl rfl rfl rfl ?_; intro b)
             | (refine j_box rfl rfl rfl rfl rfl ?_; intro b)
             | (refine j_buildSlice rfl rfl rfl rfl rfl rfl rfl rfl rfl rfl rfl rfl ?_; intro b)
             | (refine j_append rfl rfl rfl rfl rfl rfl rfl rfl rfl rfl rfl (by (repeat (first | exact InL.here | apply InL.there))) (by (repeat (first | exact InL.here | apply InL.there))) (by rfl) (by rfl) (by omega) (fun _ => by (repeat (first | exact Upd.here | apply Upd.there))) ?_; intro v))
          | (refine j_qe rfl rfl rfl ?_
             first
             | refine ⟨_, q_pick_t rfl rfl rfl, ?_⟩
             | refine ⟨_, q_pick_f rfl rfl rfl, ?_⟩
             | refine ⟨_, q_not rfl rfl, ?_⟩
             | refine ⟨_, q_index_nat rfl rfl rfl rfl rfl (by omega), ?_⟩
             | refine ⟨_, q_index_slice rfl rfl rfl rfl rfl (by omega), ?_⟩
             | refine ⟨_, q_index_arr rfl rfl rfl rfl rfl (by omega), ?_⟩
             | refine ⟨_, q_index_arr_ext rfl rfl rfl rfl rfl (by omega), ?_⟩
             | refine ⟨_, q_len_slice rfl rfl rfl rfl, ?_⟩
             | refine ⟨_, q_makeFunc rfl rfl, ?_⟩
             | refine ⟨_, q_build_struct rfl rfl rfl rfl rfl, ?_⟩
             | refine ⟨_, q_build_arr rfl rfl rfl rfl rfl, ?_⟩
             | refine ⟨_, q_nilCheck rfl rfl, ?_⟩
             | refine ⟨_, q_field_ext rfl rfl rfl rfl rfl, ?_⟩
             | refine ⟨_, q_quo rfl rfl rfl (by omega), ?_⟩
             | refine ⟨_, q_rem rfl rfl rfl (by omega), ?_⟩
             | refine ⟨_, q_quot rfl rfl rfl (by omega), ?_⟩
             | refine ⟨_, q_remt rfl rfl rfl (by omega), ?_⟩
             | refine ⟨_, q_addu8 rfl rfl rfl (by omega), ?_⟩
             | refine ⟨_, q_quou8 rfl rfl rfl (by omega), ?_⟩
             | refine ⟨_, q_shr1 rfl rfl rfl, ?_⟩
             | refine ⟨_, q_shr rfl rfl rfl ⟨by omega, by decide⟩, ?_⟩
             | refine ⟨_, q_shr rfl rfl rfl ⟨by omega, by show Int.toNat _ ≤ (8:Nat); omega⟩, ?_⟩
             | refine ⟨_, q_and1 rfl rfl rfl (by first | assumption | omega), ?_⟩
             | refine ⟨_, q_conv rfl rfl rfl rfl rfl rfl (by first | rfl | (exact i64_wrap (by omega) (by omega)) | (exact u8_wrap (by omega) (by omega)) | (exact u64_wrap (by omega) (by omega)) | (exact u16_wrap (by omega) (by omega))), ?_⟩)
          | refine j_guard_undef rfl rfl rfl rfl rfl ?_
          | (refine j_guard rfl rfl rfl rfl rfl ?_ ?_ <;> intro hc <;> (first | (exact absurd hc (by decide)) | ((try simp only [decide_eq_true_eq, decide_eq_false_iff_not, Bool.not_eq_true', Bool.not_eq_false', Bool.not_true, Bool.not_false, ne_eq, Decidable.not_not] at hc) <;> first | (exfalso; omega) | (exact absurd trivial hc) | skip))))
       | (refine gSC ?_
          first
          | refine sc_seq ?_
          | refine sc_region ?_
          | (refine sc_cond rfl ?_ ?_ <;> intro hc <;> (first | (exact absurd hc (by decide)) | ((try simp only [decide_eq_true_eq, decide_eq_false_iff_not, Bool.not_eq_true', Bool.not_eq_false', Bool.not_true, Bool.not_false, ne_eq, Decidable.not_not] at hc) <;> first | (exfalso; omega) | (exact absurd trivial hc) | skip)))
          | refine sc_block ?_
          | refine sc_ret ?_
          | refine sc_exit ?_
          | refine sc_skip ?_
          | refine sc_draw rfl mixed (by kernel_rfl) ?_)
       | (refine gSQ ?_
          first
          | refine sq_seq ?_
          | refine sq_blk ?_
          | refine sq_seq_ret ?_
          | refine sq_blk_ret ?_
          | refine sq_loop_ret ?_
          | refine sq_seq_exit ?_
          | refine sq_blk_hit ?_
          | refine sq_blk_miss rfl ?_
          | refine sq_loop_exit ?_
          | refine sq_ende (.inl rfl) rfl rfl ⟨_, (RVs.cons (RV.tmp rfl) (RVs.nil)), ?_⟩
          | refine sq_ende (.inr rfl) rfl rfl ⟨_, (RVs.cons (RV.tmp rfl) (RVs.nil)), ?_⟩)
       | refine j_nil ?_
       )
      revert b; intro bn
      refine sc_now fun w2 hs2 => ?_
      have hPt2 := hPts.st hs2
      have hE2 := hE.st hs2
      have hNum : RS w2 1 intC (some ⟨bn, 0, none⟩) numL := rs_of_cells (l := numL) hs2 (fun _ => rfl) (by (repeat (first | exact InL.here | apply InL.there)))
      have hb2 := hb1.trans (hs2.below.mono hb1.size)
      clear hs2 hPts hE hEnds
      refine sc_loop (ι := Nat) (fun i => i ≤ 16) (fun i => 16 - i) (fun i => [(1, .pointer (some ⟨bs, 0, none⟩)), (16, .slice (some ⟨bn, 0, none⟩) 16 16), (100, .slice (some ⟨bn, 0, none⟩) 16 16), (101, .int .i64 16), (102, .int .i64 i)]) (fun _ => []) 0 (by omega) (by repeat (first | exact FSub.nil | refine FSub.cons rfl ?_ | refine FSub.conse rfl (by congr 1; omega) ?_)) (by repeat (first | exact LSub.nil | refine LSub.cons (by repeat (first | exact Rem.here | apply Rem.there)) ?_)) ?_
      intro i hi
      by_cases hlt : i < 16
      · obtain ⟨x, hx⟩ : ∃ x, numL[i]? = some x := ⟨_, List.getElem?_eq_getElem (show i < numL.length from hlt)⟩
        have hxb := num_bd x (List.mem_of_getElem? hx)
        obtain ⟨ad1, e1, hX⟩ := hNum i x hx
        obtain rfl : ⟨bn, 0, none⟩ = ad1 := by injection e1
        repeat' (first
         | (refine gJ ?_
            first
            | refine jmv rfl rfl rfl rfl rfl ?_
            | (refine gload rfl rfl ?_
               refine j_qe rfl rfl rfl ?_
               first
               | refine ⟨_, q_load_own rfl rfl rfl rfl (by (repeat (first | exact InL.here | apply InL.there))) (by first | rfl | assumption), ?_⟩
               | refine ⟨_, q_loadA_own rfl rfl rfl rfl (by (repeat (first | exact InL.here | apply InL.there))) (by rfl), ?_⟩
               | refine ⟨_, q_loadA_ext rfl rfl rfl rfl ⟨by assumption, (by first | exact id | assumption)⟩ (by rfl), ?_⟩
               | refine ⟨_, q_load_ext rfl rfl rfl rfl ⟨by assumption, (by first | exact id | assumption)⟩ (by first | rfl | assumption), ?_⟩
               | refine ⟨_, q_load_extb rfl rfl rfl rfl ⟨by assumption, (by first | exact id | assumption)⟩ (by rfl), ?_⟩
               | refine ⟨_, q_loadA_extb rfl rfl rfl rfl ⟨by assumption, (by first | exact id | assumption)⟩ (by rfl), ?_⟩
               | refine ⟨_, q_load_ext0 rfl rfl rfl rfl ⟨by assumption, (by first | exact id | assumption)⟩ (by rfl), ?_⟩)
            | refine jfield rfl rfl rfl rfl rfl rfl rfl rfl ?_
            | refine jcmp rfl rfl rfl rfl rfl rfl rfl ?_
            | refine jar rfl rfl rfl rfl rfl rfl rfl (by omega) ?_
            | refine jextract rfl rfl rfl rfl rfl rfl ?_
            | (refine gF ?_
               first
               | refine j_store rfl rfl rfl rfl rfl rfl rfl rfl (by (repeat (first | exact Upd.here | apply Upd.there))) (by rfl) ?_
               | (refine j_alloc rfl rfl rfl rfl rfl ?_; intro b)
               | (refine j_box rfl rfl rfl rfl rfl ?_; intro b)
               | (refine j_buildSlice rfl rfl rfl rfl rfl rfl rfl rfl rfl rfl rfl rfl ?_; intro b)
               | (refine j_append rfl rfl rfl rfl rfl rfl rfl rfl rfl rfl rfl (by (repeat (first | exact InL.here | apply InL.there))) (by (repeat (first | exact InL.here | apply InL.there))) (by rfl) (by rfl) (by omega) (fun _ => by (repeat (first | exact Upd.here | apply Upd.there))) ?_; intro v))
            | (refine j_qe rfl rfl rfl ?_
               first
               | refine ⟨_, q_pick_t rfl rfl rfl, ?_⟩
               | refine ⟨_, q_pick_f rfl rfl rfl, ?_⟩
               | refine ⟨_, q_not rfl rfl, ?_⟩
               | refine ⟨_, q_index_nat rfl rfl rfl rfl rfl (by omega), ?_⟩
               | refine ⟨_, q_index_slice rfl rfl rfl rfl rfl (by omega), ?_⟩
               | refine ⟨_, q_index_arr rfl rfl rfl rfl rfl (by omega), ?_⟩
               | refine ⟨_, q_index_arr_ext rfl rfl rfl rfl rfl (by omega), ?_⟩
               | refine ⟨_, q_len_slice rfl rfl rfl rfl, ?_⟩
               | refine ⟨_, q_makeFunc rfl rfl, ?_⟩
               | refine ⟨_, q_build_struct rfl rfl rfl rfl rfl, ?_⟩
               | refine ⟨_, q_build_arr rfl rfl rfl rfl rfl, ?_⟩
               | refine ⟨_, q_nilCheck rfl rfl, ?_⟩
               | refine ⟨_, q_field_ext rfl rfl rfl rfl rfl, ?_⟩
               | refine ⟨_, q_quo rfl rfl rfl (by omega), ?_⟩
               | refine ⟨_, q_rem rfl rfl rfl (by omega), ?_⟩
               | refine ⟨_, q_quot rfl rfl rfl (by omega), ?_⟩
               | refine ⟨_, q_remt rfl rfl rfl (by omega), ?_⟩
               | refine ⟨_, q_addu8 rfl rfl rfl (by omega), ?_⟩
               | refine ⟨_, q_quou8 rfl rfl rfl (by omega), ?_⟩
               | refine ⟨_, q_shr1 rfl rfl rfl, ?_⟩
               | refine ⟨_, q_shr rfl rfl rfl ⟨by omega, by decide⟩, ?_⟩
               | refine ⟨_, q_shr rfl rfl rfl ⟨by omega, by show Int.toNat _ ≤ (8:Nat); omega⟩, ?_⟩
               | refine ⟨_, q_and1 rfl rfl rfl (by first | assumption | omega), ?_⟩
               | refine ⟨_, q_conv rfl rfl rfl rfl rfl rfl (by first | rfl | (exact i64_wrap (by omega) (by omega)) | (exact u8_wrap (by omega) (by omega)) | (exact u64_wrap (by omega) (by omega)) | (exact u16_wrap (by omega) (by omega))), ?_⟩)
            | refine j_guard_undef rfl rfl rfl rfl rfl ?_
            | (refine j_guard rfl rfl rfl rfl rfl ?_ ?_ <;> intro hc <;> (first | (exact absurd hc (by decide)) | ((try simp only [decide_eq_true_eq, decide_eq_false_iff_not, Bool.not_eq_true', Bool.not_eq_false', Bool.not_true, Bool.not_false, ne_eq, Decidable.not_not] at hc) <;> first | (exfalso; omega) | (exact absurd trivial hc) | skip))))
         | (refine gSC ?_
            first
            | refine sc_seq ?_
            | refine sc_region ?_
            | (refine sc_cond rfl ?_ ?_ <;> intro hc <;> (first | (exact absurd hc (by decide)) | ((try simp only [decide_eq_true_eq, decide_eq_false_iff_not, Bool.not_eq_true', Bool.not_eq_false', Bool.not_true, Bool.not_false, ne_eq, Decidable.not_not] at hc) <;> first | (exfalso; omega) | (exact absurd trivial hc) | skip)))
            | refine sc_block ?_
            | refine sc_ret ?_
            | refine sc_exit ?_
            | refine sc_skip ?_
            | refine sc_draw rfl mixed (by kernel_rfl) ?_)
         | (refine gSQ ?_
            first
            | refine sq_seq ?_
            | refine sq_blk ?_
            | refine sq_seq_ret ?_
            | refine sq_blk_ret ?_
            | refine sq_loop_ret ?_
            | refine sq_seq_exit ?_
            | refine sq_blk_hit ?_
            | refine sq_blk_miss rfl ?_
            | refine sq_loop_exit ?_
            | refine sq_ende (.inl rfl) rfl rfl ⟨_, (RVs.cons (RV.tmp rfl) (RVs.nil)), ?_⟩
            | refine sq_ende (.inr rfl) rfl rfl ⟨_, (RVs.cons (RV.tmp rfl) (RVs.nil)), ?_⟩)
         | refine j_nil ?_
         )
        refine sc_loop (ι := Nat) (fun j => j ≤ 16) (fun j => 16 - j) (fun j => [(1, .pointer (some ⟨bs, 0, none⟩)), (16, .slice (some ⟨bn, 0, none⟩) 16 16), (100, .slice (some ⟨bn, 0, none⟩) 16 16), (101, .int .i64 16), (102, .int .i64 i), (18, .int .i64 x), (106, .slice (some ⟨bn, 0, none⟩) 16 16), (107, .int .i64 16), (108, .int .i64 j)]) (fun _ => []) 0 (by omega) (by repeat (first | exact FSub.nil | refine FSub.cons rfl ?_ | refine FSub.conse rfl (by congr 1; omega) ?_)) (by repeat (first | exact LSub.nil | refine LSub.cons (by repeat (first | exact Rem.here | apply Rem.there)) ?_)) ?_
        intro j hj
        by_cases hjt : j < 16
        · obtain ⟨y, hy⟩ : ∃ y, numL[j]? = some y := ⟨_, List.getElem?_eq_getElem (show j < numL.length from hjt)⟩
          have hyb := num_bd y (List.mem_of_getElem? hy)
          obtain ⟨ad2, e2, hY⟩ := hNum j y hy
          obtain rfl : ⟨bn, 0, none⟩ = ad2 := by injection e2
          repeat' (first
           | (refine gJ ?_
              first
              | refine jmv rfl rfl rfl rfl rfl ?_
              | (refine gload rfl rfl ?_
                 refine j_qe rfl rfl rfl ?_
                 first
                 | refine ⟨_, q_load_own rfl rfl rfl rfl (by (repeat (first | exact InL.here | apply InL.there))) (by first | rfl | assumption), ?_⟩
                 | refine ⟨_, q_loadA_own rfl rfl rfl rfl (by (repeat (first | exact InL.here | apply InL.there))) (by rfl), ?_⟩
                 | refine ⟨_, q_loadA_ext rfl rfl rfl rfl ⟨by assumption, (by first | exact id | assumption)⟩ (by rfl), ?_⟩
                 | refine ⟨_, q_load_ext rfl rfl rfl rfl ⟨by assumption, (by first | exact id | assumption)⟩ (by first | rfl | assumption), ?_⟩
                 | refine ⟨_, q_load_extb rfl rfl rfl rfl ⟨by assumption, (by first | exact id | assumption)⟩ (by rfl), ?_⟩
                 | refine ⟨_, q_loadA_extb rfl rfl rfl rfl ⟨by assumption, (by first | exact id | assumption)⟩ (by rfl), ?_⟩
                 | refine ⟨_, q_load_ext0 rfl rfl rfl rfl ⟨by assumption, (by first | exact id | assumption)⟩ (by rfl), ?_⟩)
              | refine jfield rfl rfl rfl rfl rfl rfl rfl rfl ?_
              | refine jcmp rfl rfl rfl rfl rfl rfl rfl ?_
              | refine jar rfl rfl rfl rfl rfl rfl rfl (by omega) ?_
              | refine jextract rfl rfl rfl rfl rfl rfl ?_
              | (refine gF ?_
                 first
                 | refine j_store rfl rfl rfl rfl rfl rfl rfl rfl (by (repeat (first | exact Upd.here | apply Upd.there))) (by rfl) ?_
                 | (refine j_alloc rfl rfl rfl rfl rfl ?_; intro b)
                 | (refine j_box rfl rfl rfl rfl rfl ?_; intro b)
                 | (refine j_buildSlice rfl rfl rfl rfl rfl rfl rfl rfl rfl rfl rfl rfl ?_; intro b)
                 | (refine j_append rfl rfl rfl rfl rfl rfl rfl rfl rfl rfl rfl (by (repeat (first | exact InL.here | apply InL.there))) (by (repeat (first | exact InL.here | apply InL.there))) (by rfl) (by rfl) (by omega) (fun _ => by (repeat (first | exact Upd.here | apply Upd.there))) ?_; intro v))
              | (refine j_qe rfl rfl rfl ?_
                 first
                 | refine ⟨_, q_pick_t rfl rfl rfl, ?_⟩
                 | refine ⟨_, q_pick_f rfl rfl rfl, ?_⟩
                 | refine ⟨_, q_not rfl rfl, ?_⟩
                 | refine ⟨_, q_index_nat rfl rfl rfl rfl rfl (by omega), ?_⟩
                 | refine ⟨_, q_index_slice rfl rfl rfl rfl rfl (by omega), ?_⟩
                 | refine ⟨_, q_index_arr rfl rfl rfl rfl rfl (by omega), ?_⟩
                 | refine ⟨_, q_index_arr_ext rfl rfl rfl rfl rfl (by omega), ?_⟩
                 | refine ⟨_, q_len_slice rfl rfl rfl rfl, ?_⟩
                 | refine ⟨_, q_makeFunc rfl rfl, ?_⟩
                 | refine ⟨_, q_build_struct rfl rfl rfl rfl rfl, ?_⟩
                 | refine ⟨_, q_build_arr rfl rfl rfl rfl rfl, ?_⟩
                 | refine ⟨_, q_nilCheck rfl rfl, ?_⟩
                 | refine ⟨_, q_field_ext rfl rfl rfl rfl rfl, ?_⟩
                 | refine ⟨_, q_quo rfl rfl rfl (by omega), ?_⟩
                 | refine ⟨_, q_rem rfl rfl rfl (by omega), ?_⟩
                 | refine ⟨_, q_quot rfl rfl rfl (by omega), ?_⟩
                 | refine ⟨_, q_remt rfl rfl rfl (by omega), ?_⟩
                 | refine ⟨_, q_addu8 rfl rfl rfl (by omega), ?_⟩
                 | refine ⟨_, q_quou8 rfl rfl rfl (by omega), ?_⟩
                 | refine ⟨_, q_shr1 rfl rfl rfl, ?_⟩
                 | refine ⟨_, q_shr rfl rfl rfl ⟨by omega, by decide⟩, ?_⟩
                 | refine ⟨_, q_shr rfl rfl rfl ⟨by omega, by show Int.toNat _ ≤ (8:Nat); omega⟩, ?_⟩
                 | refine ⟨_, q_and1 rfl rfl rfl (by first | assumption | omega), ?_⟩
                 | refine ⟨_, q_conv rfl rfl rfl rfl rfl rfl (by first | rfl | (exact i64_wrap (by omega) (by omega)) | (exact u8_wrap (by omega) (by omega)) | (exact u64_wrap (by omega) (by omega)) | (exact u16_wrap (by omega) (by omega))), ?_⟩)
              | refine j_guard_undef rfl rfl rfl rfl rfl ?_
              | (refine j_guard rfl rfl rfl rfl rfl ?_ ?_ <;> intro hc <;> (first | (exact absurd hc (by decide)) | ((try simp only [decide_eq_true_eq, decide_eq_false_iff_not, Bool.not_eq_true', Bool.not_eq_false', Bool.not_true, Bool.not_false, ne_eq, Decidable.not_not] at hc) <;> first | (exfalso; omega) | (exact absurd trivial hc) | skip))))
           | (refine gSC ?_
              first
              | refine sc_seq ?_
              | refine sc_region ?_
              | (refine sc_cond rfl ?_ ?_ <;> intro hc <;> (first | (exact absurd hc (by decide)) | ((try simp only [decide_eq_true_eq, decide_eq_false_iff_not, Bool.not_eq_true', Bool.not_eq_false', Bool.not_true, Bool.not_false, ne_eq, Decidable.not_not] at hc) <;> first | (exfalso; omega) | (exact absurd trivial hc) | skip)))
              | refine sc_block ?_
              | refine sc_ret ?_
              | refine sc_exit ?_
              | refine sc_skip ?_
              | refine sc_draw rfl mixed (by kernel_rfl) ?_)
           | (refine gSQ ?_
              first
              | refine sq_seq ?_
              | refine sq_blk ?_
              | refine sq_seq_ret ?_
              | refine sq_blk_ret ?_
              | refine sq_loop_ret ?_
              | refine sq_seq_exit ?_
              | refine sq_blk_hit ?_
              | refine sq_blk_miss rfl ?_
              | refine sq_loop_exit ?_
              | refine sq_ende (.inl rfl) rfl rfl ⟨_, (RVs.cons (RV.tmp rfl) (RVs.nil)), ?_⟩
              | refine sq_ende (.inr rfl) rfl rfl ⟨_, (RVs.cons (RV.tmp rfl) (RVs.nil)), ?_⟩)
           | refine j_nil ?_
           )
          refine sc_loop (ι := Nat) (fun k => k ≤ 5) (fun k => 5 - k) (fun k => [(1, .pointer (some ⟨bs, 0, none⟩)), (16, .slice (some ⟨bn, 0, none⟩) 16 16), (100, .slice (some ⟨bn, 0, none⟩) 16 16), (101, .int .i64 16), (102, .int .i64 i), (18, .int .i64 x), (106, .slice (some ⟨bn, 0, none⟩) 16 16), (107, .int .i64 16), (108, .int .i64 j), (20, .int .i64 y), (21, .int .i64 k)]) (fun _ => []) 0 (by omega) (by repeat (first | exact FSub.nil | refine FSub.cons rfl ?_ | refine FSub.conse rfl (by congr 1; omega) ?_)) (by repeat (first | exact LSub.nil | refine LSub.cons (by repeat (first | exact Rem.here | apply Rem.there)) ?_)) ?_
          intro k hk
          by_cases hkt : k < 5
          · have hok1 := ru1_ok (p := 13) (k := (k : Int)) (f := x) (t := y) (d := (k : Int) / 3) (by omega) (by omega) hxb hyb (by omega)
            have hv1 := fun A c w' hs h => validR_c nl3 nl3 nl3 (some ⟨bp, 0, none⟩) 3 exPts A c [⟨13, (k : Int), x, y, (k : Int) / 3⟩] w' rfl rfl rfl (by decide) hs (by show 1 ≤ 9223372036854775807; omega) hok1 h
            have hv2 := fun A c w' hs h => Valid_c nl3 nl3 nl3 (some ⟨bp, 0, none⟩) 3 exPts A c [⟨13, (k : Int), x, y, (k : Int) / 3⟩] w' rfl rfl rfl (by decide) hs (by show 1 ≤ 9223372036854775807; omega) hok1 h
            generalize validF exPts [⟨13, (k : Int), x, y, (k : Int) / 3⟩] = vf at *
            obtain ⟨f1, f2⟩ := vf
            dsimp only at hv1 hv2
            repeat' (first
             | (refine gJ ?_
                first
                | refine jmv rfl rfl rfl rfl rfl ?_
                | (refine gload rfl rfl ?_
                   refine j_qe rfl rfl rfl ?_
                   first
                   | refine ⟨_, q_load_own rfl rfl rfl rfl (by (repeat (first | exact InL.here | apply InL.there))) (by first | rfl | assumption), ?_⟩
                   | refine ⟨_, q_loadA_own rfl rfl rfl rfl (by (repeat (first | exact InL.here | apply InL.there))) (by rfl), ?_⟩
                   | refine ⟨_, q_loadA_ext rfl rfl rfl rfl ⟨by assumption, (by first | exact id | assumption)⟩ (by rfl), ?_⟩
                   | refine ⟨_, q_load_ext rfl rfl rfl rfl ⟨by assumption, (by first | exact id | assumption)⟩ (by first | rfl | assumption), ?_⟩
                   | refine ⟨_, q_load_extb rfl rfl rfl rfl ⟨by assumption, (by first | exact id | assumption)⟩ (by rfl), ?_⟩
                   | refine ⟨_, q_loadA_extb rfl rfl rfl rfl ⟨by assumption, (by first | exact id | assumption)⟩ (by rfl), ?_⟩
                   | refine ⟨_, q_load_ext0 rfl rfl rfl rfl ⟨by assumption, (by first | exact id | assumption)⟩ (by rfl), ?_⟩)
                | refine jfield rfl rfl rfl rfl rfl rfl rfl rfl ?_
                | refine jcmp rfl rfl rfl rfl rfl rfl rfl ?_
                | refine jar rfl rfl rfl rfl rfl rfl rfl (by omega) ?_
                | refine jextract rfl rfl rfl rfl rfl rfl ?_
                | (refine gcall rfl rfl ?_
                   first
                   | (refine j_qc (f := 25) rfl rfl rfl rfl rfl rfl rfl ?_; refine ⟨_, (fun w' hs => hv1 _ _ w' (hPt2.st hs) (rs_of_cells (f := ruC) (l := ([⟨13, (k : Int), x, y, (k : Int) / 3⟩] : List Ru)) hs (fun _ => rfl) (by (repeat (first | exact InL.here | apply InL.there))))), ?_⟩)
                   | (refine j_qc (f := 26) rfl rfl rfl rfl rfl rfl rfl ?_; refine ⟨_, (fun w' hs => hv2 _ _ w' (hPt2.st hs) (rs_of_cells (f := ruC) (l := ([⟨13, (k : Int), x, y, (k : Int) / 3⟩] : List Ru)) hs (fun _ => rfl) (by (repeat (first | exact InL.here | apply InL.there))))), ?_⟩))
                | (refine gF ?_
                   first
                   | refine j_store rfl rfl rfl rfl rfl rfl rfl rfl (by (repeat (first | exact Upd.here | apply Upd.there))) (by rfl) ?_
                   | (refine j_alloc rfl rfl rfl rfl rfl ?_; intro b)
                   | (refine j_box rfl rfl rfl rfl rfl ?_; intro b)
                   | (refine j_buildSlice rfl rfl rfl rfl rfl rfl rfl rfl rfl rfl rfl rfl ?_; intro b)
                   | (refine j_append rfl rfl rfl rfl rfl rfl rfl rfl rfl rfl rfl (by (repeat (first | exact InL.here | apply InL.there))) (by (repeat (first | exact InL.here | apply InL.there))) (by rfl) (by rfl) (by omega) (fun _ => by (repeat (first | exact Upd.here | apply Upd.there))) ?_; intro v))
                | (refine j_qe rfl rfl rfl ?_
                   first
                   | refine ⟨_, q_pick_t rfl rfl rfl, ?_⟩
                   | refine ⟨_, q_pick_f rfl rfl rfl, ?_⟩
                   | refine ⟨_, q_not rfl rfl, ?_⟩
                   | refine ⟨_, q_index_nat rfl rfl rfl rfl rfl (by omega), ?_⟩
                   | refine ⟨_, q_index_slice rfl rfl rfl rfl rfl (by omega), ?_⟩
                   | refine ⟨_, q_index_arr rfl rfl rfl rfl rfl (by omega), ?_⟩
                   | refine ⟨_, q_index_arr_ext rfl rfl rfl rfl rfl (by omega), ?_⟩
                   | refine ⟨_, q_len_slice rfl rfl rfl rfl, ?_⟩
                   | refine ⟨_, q_makeFunc rfl rfl, ?_⟩
                   | refine ⟨_, q_build_struct rfl rfl rfl rfl rfl, ?_⟩
                   | refine ⟨_, q_build_arr rfl rfl rfl rfl rfl, ?_⟩
                   | refine ⟨_, q_nilCheck rfl rfl, ?_⟩
                   | refine ⟨_, q_field_ext rfl rfl rfl rfl rfl, ?_⟩
                   | refine ⟨_, q_quo rfl rfl rfl (by omega), ?_⟩
                   | refine ⟨_, q_rem rfl rfl rfl (by omega), ?_⟩
                   | refine ⟨_, q_quot rfl rfl rfl (by omega), ?_⟩
                   | refine ⟨_, q_remt rfl rfl rfl (by omega), ?_⟩
                   | refine ⟨_, q_addu8 rfl rfl rfl (by omega), ?_⟩
                   | refine ⟨_, q_quou8 rfl rfl rfl (by omega), ?_⟩
                   | refine ⟨_, q_shr1 rfl rfl rfl, ?_⟩
                   | refine ⟨_, q_shr rfl rfl rfl ⟨by omega, by decide⟩, ?_⟩
                   | refine ⟨_, q_shr rfl rfl rfl ⟨by omega, by show Int.toNat _ ≤ (8:Nat); omega⟩, ?_⟩
                   | refine ⟨_, q_and1 rfl rfl rfl (by first | assumption | omega), ?_⟩
                   | refine ⟨_, q_conv rfl rfl rfl rfl rfl rfl (by first | rfl | (exact i64_wrap (by omega) (by omega)) | (exact u8_wrap (by omega) (by omega)) | (exact u64_wrap (by omega) (by omega)) | (exact u16_wrap (by omega) (by omega))), ?_⟩)
                | refine j_guard_undef rfl rfl rfl rfl rfl ?_
                | (refine j_guard rfl rfl rfl rfl rfl ?_ ?_ <;> intro hc <;> (first | (exact absurd hc (by decide)) | ((try simp only [decide_eq_true_eq, decide_eq_false_iff_not, Bool.not_eq_true', Bool.not_eq_false', Bool.not_true, Bool.not_false, ne_eq, Decidable.not_not] at hc) <;> first | (exfalso; omega) | (exact absurd trivial hc) | skip))))
             | (refine gSC ?_
                first
                | refine sc_seq ?_
                | refine sc_region ?_
                | (refine sc_cond rfl ?_ ?_ <;> intro hc <;> (first | (exact absurd hc (by decide)) | ((try simp only [decide_eq_true_eq, decide_eq_false_iff_not, Bool.not_eq_true', Bool.not_eq_false', Bool.not_true, Bool.not_false, ne_eq, Decidable.not_not] at hc) <;> first | (exfalso; omega) | (exact absurd trivial hc) | skip)))
                | refine sc_block ?_
                | refine sc_ret ?_
                | refine sc_exit ?_
                | refine sc_skip ?_
                | refine sc_draw rfl mixed (by kernel_rfl) ?_)
             | (refine gSQ ?_
                first
                | refine sq_seq ?_
                | refine sq_blk ?_
                | refine sq_seq_ret ?_
                | refine sq_blk_ret ?_
                | refine sq_loop_ret ?_
                | refine sq_seq_exit ?_
                | refine sq_blk_hit ?_
                | refine sq_blk_miss rfl ?_
                | refine sq_loop_exit ?_
                | refine sq_ende (.inl rfl) rfl rfl ⟨_, (RVs.cons (RV.tmp rfl) (RVs.nil)), ?_⟩
                | refine sq_ende (.inr rfl) rfl rfl ⟨_, (RVs.cons (RV.tmp rfl) (RVs.nil)), ?_⟩)
             | refine j_nil ?_
             )
            revert b; intro br
            refine sc_loop (ι := Nat) (fun q => q ≤ 16) (fun q => 16 - q) (fun q => [(1, .pointer (some ⟨bs, 0, none⟩)), (16, .slice (some ⟨bn, 0, none⟩) 16 16), (100, .slice (some ⟨bn, 0, none⟩) 16 16), (101, .int .i64 16), (102, .int .i64 i), (18, .int .i64 x), (106, .slice (some ⟨bn, 0, none⟩) 16 16), (107, .int .i64 16), (108, .int .i64 j), (20, .int .i64 y), (21, .int .i64 k), (22, .slice (some ⟨br, 0, none⟩) 1 1), (24, .int .i64 f2), (145, .slice (some ⟨bn, 0, none⟩) 16 16), (146, .int .i64 16), (147, .int .i64 q)]) (fun _ => [.cells br 37 (ruC ⟨13, (k : Int), x, y, (k : Int) / 3⟩)]) 0 (by omega) (by repeat (first | exact FSub.nil | refine FSub.cons rfl ?_ | refine FSub.conse rfl (by congr 1; omega) ?_)) (by repeat (first | exact LSub.nil | refine LSub.cons (by repeat (first | exact Rem.here | apply Rem.there)) ?_)) ?_
            intro q hq
            by_cases hqt : q < 16
            · obtain ⟨z, hz⟩ : ∃ z, numL[q]? = some z := ⟨_, List.getElem?_eq_getElem (show q < numL.length from hqt)⟩
              obtain ⟨ad3, e3, hZ⟩ := hNum q z hz
              obtain rfl : ⟨bn, 0, none⟩ = ad3 := by injection e3
              repeat' (first
               | (refine gJ ?_
                  first
                  | refine jmv rfl rfl rfl rfl rfl ?_
                  | (refine gload rfl rfl ?_
                     refine j_qe rfl rfl rfl ?_
                     first
                     | refine ⟨_, q_load_own rfl rfl rfl rfl (by (repeat (first | exact InL.here | apply InL.there))) (by first | rfl | assumption), ?_⟩
                     | refine ⟨_, q_loadA_own rfl rfl rfl rfl (by (repeat (first | exact InL.here | apply InL.there))) (by rfl), ?_⟩
                     | refine ⟨_, q_loadA_ext rfl rfl rfl rfl ⟨by assumption, (by first | exact id | assumption)⟩ (by rfl), ?_⟩
                     | refine ⟨_, q_load_ext rfl rfl rfl rfl ⟨by assumption, (by first | exact id | assumption)⟩ (by first | rfl | assumption), ?_⟩
                     | refine ⟨_, q_load_extb rfl rfl rfl rfl ⟨by assumption, (by first | exact id | assumption)⟩ (by rfl), ?_⟩
                     | refine ⟨_, q_loadA_extb rfl rfl rfl rfl ⟨by assumption, (by first | exact id | assumption)⟩ (by rfl), ?_⟩
                     | refine ⟨_, q_load_ext0 rfl rfl rfl rfl ⟨by assumption, (by first | exact id | assumption)⟩ (by rfl), ?_⟩)
                  | refine jfield rfl rfl rfl rfl rfl rfl rfl rfl ?_
                  | refine jcmp rfl rfl rfl rfl rfl rfl rfl ?_
                  | refine jar rfl rfl rfl rfl rfl rfl rfl (by omega) ?_
                  | refine jextract rfl rfl rfl rfl rfl rfl ?_
                  | (refine gcall rfl rfl ?_
                     first
                     | (refine j_qc (f := 30) rfl rfl rfl rfl rfl rfl rfl ?_; refine ⟨_, (fun w' hs => sameS_c nl3 nl3 nl3 (some ⟨bp, 0, none⟩) 3 exPts (some ⟨br, 0, none⟩) 1 [⟨13, (k : Int), x, y, (k : Int) / 3⟩] (some ⟨b, 0, none⟩) 3 [0, 101, 730484] 13 z w' rfl rfl rfl (by decide) (hPt2.st hs) (by show 1 ≤ 9223372036854775807; omega) hok1 (rs_of_cells (f := ruC) (l := ([⟨13, (k : Int), x, y, (k : Int) / 3⟩] : List Ru)) hs (fun _ => rfl) (by (repeat (first | exact InL.here | apply InL.there)))) (by decide) (rs_of_cells (l := ([0, 101, 730484] : List Int)) hs (fun _ => rfl) (by (repeat (first | exact InL.here | apply InL.there))))), ?_⟩))
                  | (refine gF ?_
                     first
                     | refine j_store rfl rfl rfl rfl rfl rfl rfl rfl (by (repeat (first | exact Upd.here | apply Upd.there))) (by rfl) ?_
                     | (refine j_alloc rfl rfl rfl rfl rfl ?_; intro b)
                     | (refine j_box rfl rfl rfl rfl rfl ?_; intro b)
                     | (refine j_buildSlice rfl rfl rfl rfl rfl rfl rfl rfl rfl rfl rfl rfl ?_; intro b)
                     | (refine j_append rfl rfl rfl rfl rfl rfl rfl rfl rfl rfl rfl (by (repeat (first | exact InL.here | apply InL.there))) (by (repeat (first | exact InL.here | apply InL.there))) (by rfl) (by rfl) (by omega) (fun _ => by (repeat (first | exact Upd.here | apply Upd.there))) ?_; intro v))
                  | (refine j_qe rfl rfl rfl ?_
                     first
                     | refine ⟨_, q_pick_t rfl rfl rfl, ?_⟩
                     | refine ⟨_, q_pick_f rfl rfl rfl, ?_⟩
                     | refine ⟨_, q_not rfl rfl, ?_⟩
                     | refine ⟨_, q_index_nat rfl rfl rfl rfl rfl (by omega), ?_⟩
                     | refine ⟨_, q_index_slice rfl rfl rfl rfl rfl (by omega), ?_⟩
                     | refine ⟨_, q_index_arr rfl rfl rfl rfl rfl (by omega), ?_⟩
                     | refine ⟨_, q_index_arr_ext rfl rfl rfl rfl rfl (by omega), ?_⟩
                     | refine ⟨_, q_len_slice rfl rfl rfl rfl, ?_⟩
                     | refine ⟨_, q_makeFunc rfl rfl, ?_⟩
                     | refine ⟨_, q_build_struct rfl rfl rfl rfl rfl, ?_⟩
                     | refine ⟨_, q_build_arr rfl rfl rfl rfl rfl, ?_⟩
                     | refine ⟨_, q_nilCheck rfl rfl, ?_⟩
                     | refine ⟨_, q_field_ext rfl rfl rfl rfl rfl, ?_⟩
                     | refine ⟨_, q_quo rfl rfl rfl (by omega), ?_⟩
                     | refine ⟨_, q_rem rfl rfl rfl (by omega), ?_⟩
                     | refine ⟨_, q_quot rfl rfl rfl (by omega), ?_⟩
                     | refine ⟨_, q_remt rfl rfl rfl (by omega), ?_⟩
                     | refine ⟨_, q_addu8 rfl rfl rfl (by omega), ?_⟩
                     | refine ⟨_, q_quou8 rfl rfl rfl (by omega), ?_⟩
                     | refine ⟨_, q_shr1 rfl rfl rfl, ?_⟩
                     | refine ⟨_, q_shr rfl rfl rfl ⟨by omega, by decide⟩, ?_⟩
                     | refine ⟨_, q_shr rfl rfl rfl ⟨by omega, by show Int.toNat _ ≤ (8:Nat); omega⟩, ?_⟩
                     | refine ⟨_, q_and1 rfl rfl rfl (by first | assumption | omega), ?_⟩
                     | refine ⟨_, q_conv rfl rfl rfl rfl rfl rfl (by first | rfl | (exact i64_wrap (by omega) (by omega)) | (exact u8_wrap (by omega) (by omega)) | (exact u64_wrap (by omega) (by omega)) | (exact u16_wrap (by omega) (by omega))), ?_⟩)
                  | refine j_guard_undef rfl rfl rfl rfl rfl ?_
                  | (refine j_guard rfl rfl rfl rfl rfl ?_ ?_ <;> intro hc <;> (first | (exact absurd hc (by decide)) | ((try simp only [decide_eq_true_eq, decide_eq_false_iff_not, Bool.not_eq_true', Bool.not_eq_false', Bool.not_true, Bool.not_false, ne_eq, Decidable.not_not] at hc) <;> first | (exfalso; omega) | (exact absurd trivial hc) | skip))))
               | (refine gSC ?_
                  first
                  | refine sc_seq ?_
                  | refine sc_region ?_
                  | (refine sc_cond rfl ?_ ?_ <;> intro hc <;> (first | (exact absurd hc (by decide)) | ((try simp only [decide_eq_true_eq, decide_eq_false_iff_not, Bool.not_eq_true', Bool.not_eq_false', Bool.not_true, Bool.not_false, ne_eq, Decidable.not_not] at hc) <;> first | (exfalso; omega) | (exact absurd trivial hc) | skip)))
                  | refine sc_block ?_
                  | refine sc_ret ?_
                  | refine sc_exit ?_
                  | refine sc_skip ?_
                  | refine sc_draw rfl mixed (by kernel_rfl) ?_)
               | (refine gSQ ?_
                  first
                  | refine sq_seq ?_
                  | refine sq_blk ?_
                  | refine sq_seq_ret ?_
                  | refine sq_blk_ret ?_
                  | refine sq_loop_ret ?_
                  | refine sq_seq_exit ?_
                  | refine sq_blk_hit ?_
                  | refine sq_blk_miss rfl ?_
                  | refine sq_loop_exit ?_
                  | refine sq_ende (.inl rfl) rfl rfl ⟨_, (RVs.cons (RV.tmp rfl) (RVs.nil)), ?_⟩
                  | refine sq_ende (.inr rfl) rfl rfl ⟨_, (RVs.cons (RV.tmp rfl) (RVs.nil)), ?_⟩)
               | refine j_nil ?_
               )
              all_goals exact sq_loop (q + 1) (by omega) (by omega) (by repeat (first | exact FSub.nil | refine FSub.cons rfl ?_ | refine FSub.conse rfl (by congr 1; omega) ?_)) (by repeat (first | exact LSub.nil | refine LSub.cons (by repeat (first | exact Rem.here | apply Rem.there)) ?_))
            · repeat' (first
               | (refine gJ ?_
                  first
                  | refine jmv rfl rfl rfl rfl rfl ?_
                  | (refine gload rfl rfl ?_
                     refine j_qe rfl rfl rfl ?_
                     first
                     | refine ⟨_, q_load_own rfl rfl rfl rfl (by (repeat (first | exact InL.here | apply InL.there))) (by first | rfl | assumption), ?_⟩
                     | refine ⟨_, q_loadA_own rfl rfl rfl rfl (by (repeat (first | exact InL.here | apply InL.there))) (by rfl), ?_⟩
                     | refine ⟨_, q_loadA_ext rfl rfl rfl rfl ⟨by assumption, (by first | exact id | assumption)⟩ (by rfl), ?_⟩
                     | refine ⟨_, q_load_ext rfl rfl rfl rfl ⟨by assumption, (by first | exact id | assumption)⟩ (by first | rfl | assumption), ?_⟩
                     | refine ⟨_, q_load_extb rfl rfl rfl rfl ⟨by assumption, (by first | exact id | assumption)⟩ (by rfl), ?_⟩
                     | refine ⟨_, q_loadA_extb rfl rfl rfl rfl ⟨by assumption, (by first | exact id | assumption)⟩ (by rfl), ?_⟩
                     | refine ⟨_, q_load_ext0 rfl rfl rfl rfl ⟨by assumption, (by first | exact id | assumption)⟩ (by rfl), ?_⟩)
                  | refine jfield rfl rfl rfl rfl rfl rfl rfl rfl ?_
                  | refine jcmp rfl rfl rfl rfl rfl rfl rfl ?_
                  | refine jar rfl rfl rfl rfl rfl rfl rfl (by omega) ?_
                  | refine jextract rfl rfl rfl rfl rfl rfl ?_
                  | (refine gF ?_
                     first
                     | refine j_store rfl rfl rfl rfl rfl rfl rfl rfl (by (repeat (first | exact Upd.here | apply Upd.there))) (by rfl) ?_
                     | (refine j_alloc rfl rfl rfl rfl rfl ?_; intro b)
                     | (refine j_box rfl rfl rfl rfl rfl ?_; intro b)
                     | (refine j_buildSlice rfl rfl rfl rfl rfl rfl rfl rfl rfl rfl rfl rfl ?_; intro b)
                     | (refine j_append rfl rfl rfl rfl rfl rfl rfl rfl rfl rfl rfl (by (repeat (first | exact InL.here | apply InL.there))) (by (repeat (first | exact InL.here | apply InL.there))) (by rfl) (by rfl) (by omega) (fun _ => by (repeat (first | exact Upd.here | apply Upd.there))) ?_; intro v))
                  | (refine j_qe rfl rfl rfl ?_
                     first
                     | refine ⟨_, q_pick_t rfl rfl rfl, ?_⟩
                     | refine ⟨_, q_pick_f rfl rfl rfl, ?_⟩
                     | refine ⟨_, q_not rfl rfl, ?_⟩
                     | refine ⟨_, q_index_nat rfl rfl rfl rfl rfl (by omega), ?_⟩
                     | refine ⟨_, q_index_slice rfl rfl rfl rfl rfl (by omega), ?_⟩
                     | refine ⟨_, q_index_arr rfl rfl rfl rfl rfl (by omega), ?_⟩
                     | refine ⟨_, q_index_arr_ext rfl rfl rfl rfl rfl (by omega), ?_⟩
                     | refine ⟨_, q_len_slice rfl rfl rfl rfl, ?_⟩
                     | refine ⟨_, q_makeFunc rfl rfl, ?_⟩
                     | refine ⟨_, q_build_struct rfl rfl rfl rfl rfl, ?_⟩
                     | refine ⟨_, q_build_arr rfl rfl rfl rfl rfl, ?_⟩
                     | refine ⟨_, q_nilCheck rfl rfl, ?_⟩
                     | refine ⟨_, q_field_ext rfl rfl rfl rfl rfl, ?_⟩
                     | refine ⟨_, q_quo rfl rfl rfl (by omega), ?_⟩
                     | refine ⟨_, q_rem rfl rfl rfl (by omega), ?_⟩
                     | refine ⟨_, q_quot rfl rfl rfl (by omega), ?_⟩
                     | refine ⟨_, q_remt rfl rfl rfl (by omega), ?_⟩
                     | refine ⟨_, q_addu8 rfl rfl rfl (by omega), ?_⟩
                     | refine ⟨_, q_quou8 rfl rfl rfl (by omega), ?_⟩
                     | refine ⟨_, q_shr1 rfl rfl rfl, ?_⟩
                     | refine ⟨_, q_shr rfl rfl rfl ⟨by omega, by decide⟩, ?_⟩
                     | refine ⟨_, q_shr rfl rfl rfl ⟨by omega, by show Int.toNat _ ≤ (8:Nat); omega⟩, ?_⟩
                     | refine ⟨_, q_and1 rfl rfl rfl (by first | assumption | omega), ?_⟩
                     | refine ⟨_, q_conv rfl rfl rfl rfl rfl rfl (by first | rfl | (exact i64_wrap (by omega) (by omega)) | (exact u8_wrap (by omega) (by omega)) | (exact u64_wrap (by omega) (by omega)) | (exact u16_wrap (by omega) (by omega))), ?_⟩)
                  | refine j_guard_undef rfl rfl rfl rfl rfl ?_
                  | (refine j_guard rfl rfl rfl rfl rfl ?_ ?_ <;> intro hc <;> (first | (exact absurd hc (by decide)) | ((try simp only [decide_eq_true_eq, decide_eq_false_iff_not, Bool.not_eq_true', Bool.not_eq_false', Bool.not_true, Bool.not_false, ne_eq, Decidable.not_not] at hc) <;> first | (exfalso; omega) | (exact absurd trivial hc) | skip))))
               | (refine gSC ?_
                  first
                  | refine sc_seq ?_
                  | refine sc_region ?_
                  | (refine sc_cond rfl ?_ ?_ <;> intro hc <;> (first | (exact absurd hc (by decide)) | ((try simp only [decide_eq_true_eq, decide_eq_false_iff_not, Bool.not_eq_true', Bool.not_eq_false', Bool.not_true, Bool.not_false, ne_eq, Decidable.not_not] at hc) <;> first | (exfalso; omega) | (exact absurd trivial hc) | skip)))
                  | refine sc_block ?_
                  | refine sc_ret ?_
                  | refine sc_exit ?_
                  | refine sc_skip ?_
                  | refine sc_draw rfl mixed (by kernel_rfl) ?_)
               | (refine gSQ ?_
                  first
                  | refine sq_seq ?_
                  | refine sq_blk ?_
                  | refine sq_seq_ret ?_
                  | refine sq_blk_ret ?_
                  | refine sq_loop_ret ?_
                  | refine sq_seq_exit ?_
                  | refine sq_blk_hit ?_
                  | refine sq_blk_miss rfl ?_
                  | refine sq_loop_exit ?_
                  | refine sq_ende (.inl rfl) rfl rfl ⟨_, (RVs.cons (RV.tmp rfl) (RVs.nil)), ?_⟩
                  | refine sq_ende (.inr rfl) rfl rfl ⟨_, (RVs.cons (RV.tmp rfl) (RVs.nil)), ?_⟩)
               | refine j_nil ?_
               )
              exact sq_loop (k + 1) (by omega) (by omega) (by repeat (first | exact FSub.nil | refine FSub.cons rfl ?_ | refine FSub.conse rfl (by congr 1; omega) ?_)) (by repeat (first | exact LSub.nil | refine LSub.cons (by repeat (first | exact Rem.here | apply Rem.there)) ?_))
          · repeat' (first
             | (refine gJ ?_
                first
                | refine jmv rfl rfl rfl rfl rfl ?_
                | (refine gload rfl rfl ?_
                   refine j_qe rfl rfl rfl ?_
                   first
                   | refine ⟨_, q_load_own rfl rfl rfl rfl (by (repeat (first | exact InL.here | apply InL.there))) (by first | rfl | assumption), ?_⟩
                   | refine ⟨_, q_loadA_own rfl rfl rfl rfl (by (repeat (first | exact InL.here | apply InL.there))) (by rfl), ?_⟩
                   | refine ⟨_, q_loadA_ext rfl rfl rfl rfl ⟨by assumption, (by first | exact id | assumption)⟩ (by rfl), ?_⟩
                   | refine ⟨_, q_load_ext rfl rfl rfl rfl ⟨by assumption, (by first | exact id | assumption)⟩ (by first | rfl | assumption), ?_⟩
                   | refine ⟨_, q_load_extb rfl rfl rfl rfl ⟨by assumption, (by first | exact id | assumption)⟩ (by rfl), ?_⟩
                   | refine ⟨_, q_loadA_extb rfl rfl rfl rfl ⟨by assumption, (by first | exact id | assumption)⟩ (by rfl), ?_⟩
                   | refine ⟨_, q_load_ext0 rfl rfl rfl rfl ⟨by assumption, (by first | exact id | assumption)⟩ (by rfl), ?_⟩)
                | refine jfield rfl rfl rfl rfl rfl rfl rfl rfl ?_
                | refine jcmp rfl rfl rfl rfl rfl rfl rfl ?_
                | refine jar rfl rfl rfl rfl rfl rfl rfl (by omega) ?_
                | refine jextract rfl rfl rfl rfl rfl rfl ?_
                | (refine gF ?_
                   first
                   | refine j_store rfl rfl rfl rfl rfl rfl rfl rfl (by (repeat (first | exact Upd.here | apply Upd.there))) (by rfl) ?_
                   | (refine j_alloc rfl rfl rfl rfl rfl ?_; intro b)
                   | (refine j_box rfl rfl rfl rfl rfl ?_; intro b)
                   | (refine j_buildSlice rfl rfl rfl rfl rfl rfl rfl rfl rfl rfl rfl rfl ?_; intro b)
                   | (refine j_append rfl rfl rfl rfl rfl rfl rfl rfl rfl rfl rfl (by (repeat (first | exact InL.here | apply InL.there))) (by (repeat (first | exact InL.here | apply InL.there))) (by rfl) (by rfl) (by omega) (fun _ => by (repeat (first | exact Upd.here | apply Upd.there))) ?_; intro v))
                | (refine j_qe rfl rfl rfl ?_
                   first
                   | refine ⟨_, q_pick_t rfl rfl rfl, ?_⟩
                   | refine ⟨_, q_pick_f rfl rfl rfl, ?_⟩
                   | refine ⟨_, q_not rfl rfl, ?_⟩
                   | refine ⟨_, q_index_nat rfl rfl rfl rfl rfl (by omega), ?_⟩
                   | refine ⟨_, q_index_slice rfl rfl rfl rfl rfl (by omega), ?_⟩
                   | refine ⟨_, q_index_arr rfl rfl rfl rfl rfl (by omega), ?_⟩
                   | refine ⟨_, q_index_arr_ext rfl rfl rfl rfl rfl (by omega), ?_⟩
                   | refine ⟨_, q_len_slice rfl rfl rfl rfl, ?_⟩
                   | refine ⟨_, q_makeFunc rfl rfl, ?_⟩
                   | refine ⟨_, q_build_struct rfl rfl rfl rfl rfl, ?_⟩
                   | refine ⟨_, q_build_arr rfl rfl rfl rfl rfl, ?_⟩
                   | refine ⟨_, q_nilCheck rfl rfl, ?_⟩
                   | refine ⟨_, q_field_ext rfl rfl rfl rfl rfl, ?_⟩
                   | refine ⟨_, q_quo rfl rfl rfl (by omega), ?_⟩
                   | refine ⟨_, q_rem rfl rfl rfl (by omega), ?_⟩
                   | refine ⟨_, q_quot rfl rfl rfl (by omega), ?_⟩
                   | refine ⟨_, q_remt rfl rfl rfl (by omega), ?_⟩
                   | refine ⟨_, q_addu8 rfl rfl rfl (by omega), ?_⟩
                   | refine ⟨_, q_quou8 rfl rfl rfl (by omega), ?_⟩
                   | refine ⟨_, q_shr1 rfl rfl rfl, ?_⟩
                   | refine ⟨_, q_shr rfl rfl rfl ⟨by omega, by decide⟩, ?_⟩
                   | refine ⟨_, q_shr rfl rfl rfl ⟨by omega, by show Int.toNat _ ≤ (8:Nat); omega⟩, ?_⟩
                   | refine ⟨_, q_and1 rfl rfl rfl (by first | assumption | omega), ?_⟩
                   | refine ⟨_, q_conv rfl rfl rfl rfl rfl rfl (by first | rfl | (exact i64_wrap (by omega) (by omega)) | (exact u8_wrap (by omega) (by omega)) | (exact u64_wrap (by omega) (by omega)) | (exact u16_wrap (by omega) (by omega))), ?_⟩)
                | refine j_guard_undef rfl rfl rfl rfl rfl ?_
                | (refine j_guard rfl rfl rfl rfl rfl ?_ ?_ <;> intro hc <;> (first | (exact absurd hc (by decide)) | ((try simp only [decide_eq_true_eq, decide_eq_false_iff_not, Bool.not_eq_true', Bool.not_eq_false', Bool.not_true, Bool.not_false, ne_eq, Decidable.not_not] at hc) <;> first | (exfalso; omega) | (exact absurd trivial hc) | skip))))
             | (refine gSC ?_
                first
                | refine sc_seq ?_
                | refine sc_region ?_
                | (refine sc_cond rfl ?_ ?_ <;> intro hc <;> (first | (exact absurd hc (by decide)) | ((try simp only [decide_eq_true_eq, decide_eq_false_iff_not, Bool.not_eq_true', Bool.not_eq_false', Bool.not_true, Bool.not_false, ne_eq, Decidable.not_not] at hc) <;> first | (exfalso; omega) | (exact absurd trivial hc) | skip)))
                | refine sc_block ?_
                | refine sc_ret ?_
                | refine sc_exit ?_
                | refine sc_skip ?_
                | refine sc_draw rfl mixed (by kernel_rfl) ?_)
             | (refine gSQ ?_
                first
                | refine sq_seq ?_
                | refine sq_blk ?_
                | refine sq_seq_ret ?_
                | refine sq_blk_ret ?_
                | refine sq_loop_ret ?_
                | refine sq_seq_exit ?_
                | refine sq_blk_hit ?_
                | refine sq_blk_miss rfl ?_
                | refine sq_loop_exit ?_
                | refine sq_ende (.inl rfl) rfl rfl ⟨_, (RVs.cons (RV.tmp rfl) (RVs.nil)), ?_⟩
                | refine sq_ende (.inr rfl) rfl rfl ⟨_, (RVs.cons (RV.tmp rfl) (RVs.nil)), ?_⟩)
             | refine j_nil ?_
             )
            exact sq_loop (j + 1) (by omega) (by omega) (by repeat (first | exact FSub.nil | refine FSub.cons rfl ?_ | refine FSub.conse rfl (by congr 1; omega) ?_)) (by repeat (first | exact LSub.nil | refine LSub.cons (by repeat (first | exact Rem.here | apply Rem.there)) ?_))
        · repeat' (first
           | (refine gJ ?_
              first
              | refine jmv rfl rfl rfl rfl rfl ?_
              | (refine gload rfl rfl ?_
                 refine j_qe rfl rfl rfl ?_
                 first
                 | refine ⟨_, q_load_own rfl rfl rfl rfl (by (repeat (first | exact InL.here | apply InL.there))) (by first | rfl | assumption), ?_⟩
                 | refine ⟨_, q_loadA_own rfl rfl rfl rfl (by (repeat (first | exact InL.here | apply InL.there))) (by rfl), ?_⟩
                 | refine ⟨_, q_loadA_ext rfl rfl rfl rfl ⟨by assumption, (by first | exact id | assumption)⟩ (by rfl), ?_⟩
                 | refine ⟨_, q_load_ext rfl rfl rfl rfl ⟨by assumption, (by first | exact id | assumption)⟩ (by first | rfl | assumption), ?_⟩
                 | refine ⟨_, q_load_extb rfl rfl rfl rfl ⟨by assumption, (by first | exact id | assumption)⟩ (by rfl), ?_⟩
                 | refine ⟨_, q_loadA_extb rfl rfl rfl rfl ⟨by assumption, (by first | exact id | assumption)⟩ (by rfl), ?_⟩
                 | refine ⟨_, q_load_ext0 rfl rfl rfl rfl ⟨by assumption, (by first | exact id | assumption)⟩ (by rfl), ?_⟩)
              | refine jfield rfl rfl rfl rfl rfl rfl rfl rfl ?_
              | refine jcmp rfl rfl rfl rfl rfl rfl rfl ?_
              | refine jar rfl rfl rfl rfl rfl rfl rfl (by omega) ?_
              | refine jextract rfl rfl rfl rfl rfl rfl ?_
              | (refine gF ?_
                 first
                 | refine j_store rfl rfl rfl rfl rfl rfl rfl rfl (by (repeat (first | exact Upd.here | apply Upd.there))) (by rfl) ?_
                 | (refine j_alloc rfl rfl rfl rfl rfl ?_; intro b)
                 | (refine j_box rfl rfl rfl rfl rfl ?_; intro b)
                 | (refine j_buildSlice rfl rfl rfl rfl rfl rfl rfl rfl rfl rfl rfl rfl ?_; intro b)
                 | (refine j_append rfl rfl rfl rfl rfl rfl rfl rfl rfl rfl rfl (by (repeat (first | exact InL.here | apply InL.there))) (by (repeat (first | exact InL.here | apply InL.there))) (by rfl) (by rfl) (by omega) (fun _ => by (repeat (first | exact Upd.here | apply Upd.there))) ?_; intro v))
              | (refine j_qe rfl rfl rfl ?_
                 first
                 | refine ⟨_, q_pick_t rfl rfl rfl, ?_⟩
                 | refine ⟨_, q_pick_f rfl rfl rfl, ?_⟩
                 | refine ⟨_, q_not rfl rfl, ?_⟩
                 | refine ⟨_, q_index_nat rfl rfl rfl rfl rfl (by omega), ?_⟩
                 | refine ⟨_, q_index_slice rfl rfl rfl rfl rfl (by omega), ?_⟩
                 | refine ⟨_, q_index_arr rfl rfl rfl rfl rfl (by omega), ?_⟩
                 | refine ⟨_, q_index_arr_ext rfl rfl rfl rfl rfl (by omega), ?_⟩
                 | refine ⟨_, q_len_slice rfl rfl rfl rfl, ?_⟩
                 | refine ⟨_, q_makeFunc rfl rfl, ?_⟩
                 | refine ⟨_, q_build_struct rfl rfl rfl rfl rfl, ?_⟩
                 | refine ⟨_, q_build_arr rfl rfl rfl rfl rfl, ?_⟩
                 | refine ⟨_, q_nilCheck rfl rfl, ?_⟩
                 | refine ⟨_, q_field_ext rfl rfl rfl rfl rfl, ?_⟩
                 | refine ⟨_, q_quo rfl rfl rfl (by omega), ?_⟩
                 | refine ⟨_, q_rem rfl rfl rfl (by omega), ?_⟩
                 | refine ⟨_, q_quot rfl rfl rfl (by omega), ?_⟩
                 | refine ⟨_, q_remt rfl rfl rfl (by omega), ?_⟩
                 | refine ⟨_, q_addu8 rfl rfl rfl (by omega), ?_⟩
                 | refine ⟨_, q_quou8 rfl rfl rfl (by omega), ?_⟩
                 | refine ⟨_, q_shr1 rfl rfl rfl, ?_⟩
                 | refine ⟨_, q_shr rfl rfl rfl ⟨by omega, by decide⟩, ?_⟩
                 | refine ⟨_, q_shr rfl rfl rfl ⟨by omega, by show Int.toNat _ ≤ (8:Nat); omega⟩, ?_⟩
                 | refine ⟨_, q_and1 rfl rfl rfl (by first | assumption | omega), ?_⟩
                 | refine ⟨_, q_conv rfl rfl rfl rfl rfl rfl (by first | rfl | (exact i64_wrap (by omega) (by omega)) | (exact u8_wrap (by omega) (by omega)) | (exact u64_wrap (by omega) (by omega)) | (exact u16_wrap (by omega) (by omega))), ?_⟩)
              | refine j_guard_undef rfl rfl rfl rfl rfl ?_
              | (refine j_guard rfl rfl rfl rfl rfl ?_ ?_ <;> intro hc <;> (first | (exact absurd hc (by decide)) | ((try simp only [decide_eq_true_eq, decide_eq_false_iff_not, Bool.not_eq_true', Bool.not_eq_false', Bool.not_true, Bool.not_false, ne_eq, Decidable.not_not] at hc) <;> first | (exfalso; omega) | (exact absurd trivial hc) | skip))))
           | (refine gSC ?_
              first
              | refine sc_seq ?_
              | refine sc_region ?_
              | (refine sc_cond rfl ?_ ?_ <;> intro hc <;> (first | (exact absurd hc (by decide)) | ((try simp only [decide_eq_true_eq, decide_eq_false_iff_not, Bool.not_eq_true', Bool.not_eq_false', Bool.not_true, Bool.not_false, ne_eq, Decidable.not_not] at hc) <;> first | (exfalso; omega) | (exact absurd trivial hc) | skip)))
              | refine sc_block ?_
              | refine sc_ret ?_
              | refine sc_exit ?_
              | refine sc_skip ?_
              | refine sc_draw rfl mixed (by kernel_rfl) ?_)
           | (refine gSQ ?_
              first
              | refine sq_seq ?_
              | refine sq_blk ?_
              | refine sq_seq_ret ?_
              | refine sq_blk_ret ?_
              | refine sq_loop_ret ?_
              | refine sq_seq_exit ?_
              | refine sq_blk_hit ?_
              | refine sq_blk_miss rfl ?_
              | refine sq_loop_exit ?_
              | refine sq_ende (.inl rfl) rfl rfl ⟨_, (RVs.cons (RV.tmp rfl) (RVs.nil)), ?_⟩
              | refine sq_ende (.inr rfl) rfl rfl ⟨_, (RVs.cons (RV.tmp rfl) (RVs.nil)), ?_⟩)
           | refine j_nil ?_
           )
          exact sq_loop (i + 1) (by omega) (by omega) (by repeat (first | exact FSub.nil | refine FSub.cons rfl ?_ | refine FSub.conse rfl (by congr 1; omega) ?_)) (by repeat (first | exact LSub.nil | refine LSub.cons (by repeat (first | exact Rem.here | apply Rem.there)) ?_))
      · repeat' (first
         | (refine gJ ?_
            first
            | refine jmv rfl rfl rfl rfl rfl ?_
            | (refine gload rfl rfl ?_
               refine j_qe rfl rfl rfl ?_
               first
               | refine ⟨_, q_load_own rfl rfl rfl rfl (by (repeat (first | exact InL.here | apply InL.there))) (by first | rfl | assumption), ?_⟩
               | refine ⟨_, q_loadA_own rfl rfl rfl rfl (by (repeat (first | exact InL.here | apply InL.there))) (by rfl), ?_⟩
               | refine ⟨_, q_loadA_ext rfl rfl rfl rfl ⟨by assumption, (by first | exact id | assumption)⟩ (by rfl), ?_⟩
               | refine ⟨_, q_load_ext rfl rfl rfl rfl ⟨by assumption, (by first | exact id | assumption)⟩ (by first | rfl | assumption), ?_⟩
               | refine ⟨_, q_load_extb rfl rfl rfl rfl ⟨by assumption, (by first | exact id | assumption)⟩ (by rfl), ?_⟩
               | refine ⟨_, q_loadA_extb rfl rfl rfl rfl ⟨by assumption, (by first | exact id | assumption)⟩ (by rfl), ?_⟩
               | refine ⟨_, q_load_ext0 rfl rfl rfl rfl ⟨by assumption, (by first | exact id | assumption)⟩ (by rfl), ?_⟩)
            | refine jfield rfl rfl rfl rfl rfl rfl rfl rfl ?_
            | refine jcmp rfl rfl rfl rfl rfl rfl rfl ?_
            | refine jar rfl rfl rfl rfl rfl rfl rfl (by omega) ?_
            | refine jextract rfl rfl rfl rfl rfl rfl ?_
            | (refine gcall rfl rfl ?_
               first
               | (refine j_qc (f := 15) rfl rfl rfl rfl rfl rfl rfl ?_; refine ⟨_, (fun w' _ => awake_c w'), ?_⟩))
            | (refine gF ?_
               first
               | refine j_store rfl rfl rfl rfl rfl rfl rfl rfl (by (repeat (first | exact Upd.here | apply Upd.there))) (by rfl) ?_
               | (refine j_alloc rfl rfl rfl rfl rfl ?_; intro b)
               | (refine j_box rfl rfl rfl rfl rfl ?_; intro b)
               | (refine j_buildSlice rfl rfl rfl rfl rfl rfl rfl rfl rfl rfl rfl rfl ?_; intro b)
               | (refine j_append rfl rfl rfl rfl rfl rfl rfl rfl rfl rfl rfl (by (repeat (first | exact InL.here | apply InL.there))) (by (repeat (first | exact InL.here | apply InL.there))) (by rfl) (by rfl) (by omega) (fun _ => by (repeat (first | exact Upd.here | apply Upd.there))) ?_; intro v))
            | (refine j_qe rfl rfl rfl ?_
               first
               | refine ⟨_, q_pick_t rfl rfl rfl, ?_⟩
               | refine ⟨_, q_pick_f rfl rfl rfl, ?_⟩
               | refine ⟨_, q_not rfl rfl, ?_⟩
               | refine ⟨_, q_index_nat rfl rfl rfl rfl rfl (by omega), ?_⟩
               | refine ⟨_, q_index_slice rfl rfl rfl rfl rfl (by omega), ?_⟩
               | refine ⟨_, q_index_arr rfl rfl rfl rfl rfl (by omega), ?_⟩
               | refine ⟨_, q_index_arr_ext rfl rfl rfl rfl rfl (by omega), ?_⟩
               | refine ⟨_, q_len_slice rfl rfl rfl rfl, ?_⟩
               | refine ⟨_, q_makeFunc rfl rfl, ?_⟩
               | refine ⟨_, q_build_struct rfl rfl rfl rfl rfl, ?_⟩
               | refine ⟨_, q_build_arr rfl rfl rfl rfl rfl, ?_⟩
               | refine ⟨_, q_nilCheck rfl rfl, ?_⟩
               | refine ⟨_, q_field_ext rfl rfl rfl rfl rfl, ?_⟩
               | refine ⟨_, q_quo rfl rfl rfl (by omega), ?_⟩
               | refine ⟨_, q_rem rfl rfl rfl (by omega), ?_⟩
               | refine ⟨_, q_quot rfl rfl rfl (by omega), ?_⟩
               | refine ⟨_, q_remt rfl rfl rfl (by omega), ?_⟩
               | refine ⟨_, q_addu8 rfl rfl rfl (by omega), ?_⟩
               | refine ⟨_, q_quou8 rfl rfl rfl (by omega), ?_⟩
               | refine ⟨_, q_shr1 rfl rfl rfl, ?_⟩
               | refine ⟨_, q_shr rfl rfl rfl ⟨by omega, by decide⟩, ?_⟩
               | refine ⟨_, q_shr rfl rfl rfl ⟨by omega, by show Int.toNat _ ≤ (8:Nat); omega⟩, ?_⟩
               | refine ⟨_, q_and1 rfl rfl rfl (by first | assumption | omega), ?_⟩
               | refine ⟨_, q_conv rfl rfl rfl rfl rfl rfl (by first | rfl | (exact i64_wrap (by omega) (by omega)) | (exact u8_wrap (by omega) (by omega)) | (exact u64_wrap (by omega) (by omega)) | (exact u16_wrap (by omega) (by omega))), ?_⟩)
            | refine j_guard_undef rfl rfl rfl rfl rfl ?_
            | (refine j_guard rfl rfl rfl rfl rfl ?_ ?_ <;> intro hc <;> (first | (exact absurd hc (by decide)) | ((try simp only [decide_eq_true_eq, decide_eq_false_iff_not, Bool.not_eq_true', Bool.not_eq_false', Bool.not_true, Bool.not_false, ne_eq, Decidable.not_not] at hc) <;> first | (exfalso; omega) | (exact absurd trivial hc) | skip))))
         | (refine gSC ?_
            first
            | refine sc_seq ?_
            | refine sc_region ?_
            | (refine sc_cond rfl ?_ ?_ <;> intro hc <;> (first | (exact absurd hc (by decide)) | ((try simp only [decide_eq_true_eq, decide_eq_false_iff_not, Bool.not_eq_true', Bool.not_eq_false', Bool.not_true, Bool.not_false, ne_eq, Decidable.not_not] at hc) <;> first | (exfalso; omega) | (exact absurd trivial hc) | skip)))
            | refine sc_block ?_
            | refine sc_ret ?_
            | refine sc_exit ?_
            | refine sc_skip ?_
            | refine sc_draw rfl mixed (by kernel_rfl) ?_)
         | (refine gSQ ?_
            first
            | refine sq_seq ?_
            | refine sq_blk ?_
            | refine sq_seq_ret ?_
            | refine sq_blk_ret ?_
            | refine sq_loop_ret ?_
            | refine sq_seq_exit ?_
            | refine sq_blk_hit ?_
            | refine sq_blk_miss rfl ?_
            | refine sq_loop_exit ?_
            | refine sq_ende (.inl rfl) rfl rfl ⟨_, (RVs.cons (RV.tmp rfl) (RVs.nil)), ?_⟩
            | refine sq_ende (.inr rfl) rfl rfl ⟨_, (RVs.cons (RV.tmp rfl) (RVs.nil)), ?_⟩)
         | refine j_nil ?_
         )
        (intro w' hS; refine ⟨?_, below_then hb2 hS⟩; simp only [pack])
end Go.Proofs.Ytbejfbekamikpaa
