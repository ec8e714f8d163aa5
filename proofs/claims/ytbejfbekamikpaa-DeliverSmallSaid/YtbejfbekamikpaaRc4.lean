/-
  letterbagref13: the walks of Status and Valid.
-/
import Derived.Test.YtbejfbekamikpaaRc3
namespace Go.Proofs.Ytbejfbekamikpaa
open Go.RowKit Eng
set_option linter.unusedVariables false
set_option linter.unusedSimpArgs false
set_option maxHeartbeats 8000000
attribute [local irreducible] SC SQ J Qt Calls Iterates
set_option maxRecDepth 4000 in
theorem statusR_c (v1 v2 v3 : Value) (P : Option Addr) (pc : Nat) (pts : List Pt) (A : Option Addr) (c : Nat) (l : List Ru) (B : Option Addr) (bc : Nat) (hol : List Int) (t d : Int) (w : World) (g1 : v1.oneCell' = true) (g2 : v2.oneCell' = true) (g3 : v3.oneCell' = true) (hpl : pts.length ≤ 9223372036854775807) (hP : RS w 8 ptC P pts)
    (hl : l.length ≤ 9223372036854775807) (hok : ∀ x ∈ l, ruOk x) (h : RS w 5 ruC A l) (hhl : hol.length ≤ 9223372036854775807) (hH : RS w 1 intC B hol) :
    Calls Try.prog 57 #[refV v1 v2 v3 P pts.length pc, .slice A l.length c, .slice B hol.length bc, .int .i64 t, .int .i64 d] w fun e w' => e = .returned (.tuple #[.int .u8 (statF pts l hol t d).1, .int .i64 (statF pts l hol t d).2]) ∧ Below w.heap.size w w' := by
  have hwr := fun w' hs => wrongR_c B bc hol d w' hhl hs
  have hpr := fun w' hs => pointR_c v1 v2 v3 P pc t pts w' hpl hs g1 g2 g3
  by_cases hck : checkF hol d = 0
  · obtain ⟨hr, h0, h1⟩ := check_zero hck
    simp only [statF, hck, ne_eq, not_true, if_false]
    rw [hck] at hwr
    cases hf : findP pts t with
    | none =>
      rw [idx_none pts t 0 hf] at hpr
      refine eng_start (n := 124) (args := [refV v1 v2 v3 P pts.length pc, .slice A l.length c, .slice B hol.length bc, .int .i64 t, .int .i64 d]) tab tab_ok fns fns_ok [.tmp 10, .tmp 11] Try.func57 rfl rfl rfl rfl ?_
      repeat' (first
       | (refine gJ ?_
          first
          | refine jmv rfl rfl rfl rfl rfl ?_
          | (refine gload rfl rfl ?_
             refine j_qe rfl rfl rfl ?_
             first
             | refine ⟨_, q_load_own rfl rfl rfl rfl (by (repeat (first | exact InL.here | apply InL.there))) (by first | rfl | assumption), ?_⟩
             | refine ⟨_, q_loadA_own rfl rfl rfl rfl (by (repeat (first | exact InL.here | apply InL.there))) (by rfl), ?_⟩
             | refine ⟨_, q_loadA_ext rfl rfl rfl rfl ⟨by assumption, (by first | exact id | assumption)⟩ (by rfl), ?_⟩
             | refine ⟨_, q_load_ext rfl rfl rfl rfl ⟨by assumption, (by first | exact id | assumption)⟩ (by first | rfl | assumption), ?_⟩
             | refine ⟨_, q_load_extb rfl rfl rfl rfl ⟨by assumption, (by first | exact id | assumption)⟩ (by rfl), ?_⟩
             | refine ⟨_, q_loadA_extb rfl rfl rfl rfl ⟨by assumption, (by first | exact id | assumption)⟩ (by rfl), ?_⟩
             | refine ⟨_, q_load_ext0 rfl rfl rfl rfl ⟨by assumption, (by first | exact id | assumption)⟩ (by rfl), ?_⟩)
          | refine jfield rfl rfl rfl rfl rfl rfl rfl rfl ?_
          | refine jcmp rfl rfl rfl rfl rfl rfl rfl ?_
          | refine jar rfl rfl rfl rfl rfl rfl rfl (by omega) ?_
          | refine jextract rfl rfl rfl rfl rfl rfl ?_
          | (refine gcall rfl rfl ?_
             first
             | (refine j_qc (f := 88) rfl rfl rfl rfl rfl rfl rfl ?_; refine ⟨_, (fun w' hs => hwr w' (hH.st hs)), ?_⟩)
             | (refine j_qc (f := 50) rfl rfl rfl rfl rfl rfl rfl ?_; refine ⟨_, (fun w' hs => hpr w' (hP.st hs)), ?_⟩))
          | (refine gF ?_
             first
             | refine j_store rfl rfl rfl rfl rfl rfl rfl rfl (by (repeat (first | exact Upd.here | apply Upd.there))) (by rfl) ?_
             | (refine j_alloc rfl rfl rfl rfl rfl ?_; intro b)
             | (refine j_box rfl rfl rfl rfl rfl ?_; intro b)
             | (refine j_buildSlice rfl rfl rfl rfl rfl rfl rfl rfl rfl rfl rfl rfl ?_; intro b)
             | (refine j_append rfl rfl rfl rfl rfl rfl rfl rfl rfl rfl rfl (by (repeat (first | exact InL.here | apply InL.there))) (by (repeat (first | exact InL.here | apply InL.there))) (by rfl) (by rfl) (by omega) (fun _ => by (repeat (first | exact Upd.here | apply Upd.there))) ?_; intro v))
          | (refine j_qe rfl rfl rfl ?_
             first
             | refine ⟨_, q_pick_t rfl rfl rfl, ?_⟩
             | refine ⟨_, q_pick_f rfl rfl rfl, ?_⟩
             | refine ⟨_, q_not rfl rfl, ?_⟩
             | refine ⟨_, q_index_nat rfl rfl rfl rfl rfl (by omega), ?_⟩
             | refine ⟨_, q_index_slice rfl rfl rfl rfl rfl (by omega), ?_⟩
             | refine ⟨_, q_index_arr rfl rfl rfl rfl rfl (by omega), ?_⟩
             | refine ⟨_, q_index_arr_ext rfl rfl rfl rfl rfl (by omega), ?_⟩
             | refine ⟨_, q_len_slice rfl rfl rfl rfl, ?_⟩
             | refine ⟨_, q_makeFunc rfl rfl, ?_⟩
             | refine ⟨_, q_build_struct rfl rfl rfl rfl rfl, ?_⟩
             | refine ⟨_, q_build_arr rfl rfl rfl rfl rfl, ?_⟩
             | refine ⟨_, q_nilCheck rfl rfl, ?_⟩
             | refine ⟨_, q_field_ext rfl rfl rfl rfl rfl, ?_⟩
             | refine ⟨_, q_quo rfl rfl rfl (by omega), ?_⟩
             | refine ⟨_, q_rem rfl rfl rfl (by omega), ?_⟩
             | refine ⟨_, q_quot rfl rfl rfl (by omega), ?_⟩
             | refine ⟨_, q_remt rfl rfl rfl (by omega), ?_⟩
             | refine ⟨_, q_addu8 rfl rfl rfl (by omega), ?_⟩
             | refine ⟨_, q_quou8 rfl rfl rfl (by omega), ?_⟩
             | refine ⟨_, q_shr1 rfl rfl rfl, ?_⟩
             | refine ⟨_, q_shr rfl rfl rfl ⟨by omega, by decide⟩, ?_⟩
             | refine ⟨_, q_shr rfl rfl rfl ⟨by omega, by show Int.toNat _ ≤ (8:Nat); omega⟩, ?_⟩
             | refine ⟨_, q_and1 rfl rfl rfl (by first | assumption | omega), ?_⟩
             | refine ⟨_, q_conv rfl rfl rfl rfl rfl rfl (by first | rfl | (exact i64_wrap (by omega) (by omega)) | (exact u8_wrap (by omega) (by omega)) | (exact u64_wrap (by omega) (by omega)) | (exact u16_wrap (by omega) (by omega))), ?_⟩)
          | refine j_guard_undef rfl rfl rfl rfl rfl ?_
          | (refine j_guard rfl rfl rfl rfl rfl ?_ ?_ <;> intro hc <;> (first | (exact absurd hc (by decide)) | ((try simp only [decide_eq_true_eq, decide_eq_false_iff_not, Bool.not_eq_true', Bool.not_eq_false', Bool.not_true, Bool.not_false, ne_eq, Decidable.not_not] at hc) <;> first | (exfalso; omega) | (exact absurd trivial hc) | skip))))
       | (refine gSC ?_
          first
          | refine sc_seq ?_
          | refine sc_region ?_
          | (refine sc_cond rfl ?_ ?_ <;> intro hc <;> (first | (exact absurd hc (by decide)) | ((try simp only [decide_eq_true_eq, decide_eq_false_iff_not, Bool.not_eq_true', Bool.not_eq_false', Bool.not_true, Bool.not_false, ne_eq, Decidable.not_not] at hc) <;> first | (exfalso; omega) | (exact absurd trivial hc) | skip)))
          | refine sc_block ?_
          | refine sc_ret ?_
          | refine sc_exit ?_
          | refine sc_skip ?_
          | refine sc_draw rfl mixed (by kernel_rfl) ?_)
       | (refine gSQ ?_
          first
          | refine sq_seq ?_
          | refine sq_blk ?_
          | refine sq_seq_ret ?_
          | refine sq_blk_ret ?_
          | refine sq_loop_ret ?_
          | refine sq_seq_exit ?_
          | refine sq_blk_hit ?_
          | refine sq_blk_miss rfl ?_
          | refine sq_loop_exit ?_
          | refine sq_ende (.inl rfl) rfl rfl ⟨_, (RVs.cons (RV.tmp rfl) (RVs.cons (RV.tmp rfl) (RVs.nil))), ?_⟩
          | refine sq_ende (.inr rfl) rfl rfl ⟨_, (RVs.cons (RV.tmp rfl) (RVs.cons (RV.tmp rfl) (RVs.nil))), ?_⟩)
       | refine j_nil ?_
       )
      all_goals (intro w' hS; refine ⟨?_, hS.below⟩; simp only [pack])
    | some p =>
      obtain ⟨k0, e0, hk0⟩ := idx_some pts t 0 p hf
      rw [Nat.zero_add] at e0
      rw [e0] at hpr
      obtain rfl := find_id hf
      dsimp only
      rw [← stat_eq p l hol d hr]
      have hk0l := (List.getElem?_eq_some_iff.1 hk0).1
      obtain ⟨adp, rfl, hXp⟩ := hP k0 p hk0
      obtain ⟨n, hn⟩ : ∃ n, l.length = n := ⟨_, rfl⟩
      obtain ⟨m, hm⟩ : ∃ m, hol.length = m := ⟨_, rfl⟩
      obtain ⟨np, hnp⟩ : ∃ np, pts.length = np := ⟨_, rfl⟩
      rw [hm] at hwr hhl
      rw [hnp] at hpr hpl hk0l
      rw [hn] at hl
      rw [hn, hm, hnp]
      refine eng_start (n := 124) (args := [refV v1 v2 v3 (some adp) np pc, .slice A n c, .slice B m bc, .int .i64 p.id, .int .i64 d]) tab tab_ok fns fns_ok [.tmp 10, .tmp 11] Try.func57 rfl rfl rfl rfl ?_
      repeat' (first
       | (refine gJ ?_
          first
          | refine jmv rfl rfl rfl rfl rfl ?_
          | (refine gload rfl rfl ?_
             refine j_qe rfl rfl rfl ?_
             first
             | refine ⟨_, q_load_own rfl rfl rfl rfl (by (repeat (first | exact InL.here | apply InL.there))) (by first | rfl | assumption), ?_⟩
             | refine ⟨_, q_loadA_own rfl rfl rfl rfl (by (repeat (first | exact InL.here | apply InL.there))) (by rfl), ?_⟩
             | refine ⟨_, q_loadA_ext rfl rfl rfl rfl ⟨by assumption, (by first | exact id | assumption)⟩ (by rfl), ?_⟩
             | refine ⟨_, q_load_ext rfl rfl rfl rfl ⟨by assumption, (by first | exact id | assumption)⟩ (by first | rfl | assumption), ?_⟩
             | refine ⟨_, q_load_extb rfl rfl rfl rfl ⟨by assumption, (by first | exact id | assumption)⟩ (by rfl), ?_⟩
             | refine ⟨_, q_loadA_extb rfl rfl rfl rfl ⟨by assumption, (by first | exact id | assumption)⟩ (by rfl), ?_⟩
             | refine ⟨_, q_load_ext0 rfl rfl rfl rfl ⟨by assumption, (by first | exact id | assumption)⟩ (by rfl), ?_⟩)
          | refine jfield rfl rfl rfl rfl rfl rfl rfl rfl ?_
          | refine jcmp rfl rfl rfl rfl rfl rfl rfl ?_
          | refine jar rfl rfl rfl rfl rfl rfl rfl (by omega) ?_
          | refine jextract rfl rfl rfl rfl rfl rfl ?_
          | (refine gcall rfl rfl ?_
             first
             | (refine j_qc (f := 88) rfl rfl rfl rfl rfl rfl rfl ?_; refine ⟨_, (fun w' hs => hwr w' (hH.st hs)), ?_⟩)
             | (refine j_qc (f := 50) rfl rfl rfl rfl rfl rfl rfl ?_; refine ⟨_, (fun w' hs => hpr w' (hP.st hs)), ?_⟩))
          | (refine gF ?_
             first
             | refine j_store rfl rfl rfl rfl rfl rfl rfl rfl (by (repeat (first | exact Upd.here | apply Upd.there))) (by rfl) ?_
             | (refine j_alloc rfl rfl rfl rfl rfl ?_; intro b)
             | (refine j_box rfl rfl rfl rfl rfl ?_; intro b)
             | (refine j_buildSlice rfl rfl rfl rfl rfl rfl rfl rfl rfl rfl rfl rfl ?_; intro b)
             | (refine j_append rfl rfl rfl rfl rfl rfl rfl rfl rfl rfl rfl (by (repeat (first | exact InL.here | apply InL.there))) (by (repeat (first | exact InL.here | apply InL.there))) (by rfl) (by rfl) (by omega) (fun _ => by (repeat (first | exact Upd.here | apply Upd.there))) ?_; intro v))
          | (refine j_qe rfl rfl rfl ?_
             first
             | refine ⟨_, q_pick_t rfl rfl rfl, ?_⟩
             | refine ⟨_, q_pick_f rfl rfl rfl, ?_⟩
             | refine ⟨_, q_not rfl rfl, ?_⟩
             | refine ⟨_, q_index_nat rfl rfl rfl rfl rfl (by omega), ?_⟩
             | refine ⟨_, q_index_slice rfl rfl rfl rfl rfl (by omega), ?_⟩
             | refine ⟨_, q_index_arr rfl rfl rfl rfl rfl (by omega), ?_⟩
             | refine ⟨_, q_index_arr_ext rfl rfl rfl rfl rfl (by omega), ?_⟩
             | refine ⟨_, q_len_slice rfl rfl rfl rfl, ?_⟩
             | refine ⟨_, q_makeFunc rfl rfl, ?_⟩
             | refine ⟨_, q_build_struct rfl rfl rfl rfl rfl, ?_⟩
             | refine ⟨_, q_build_arr rfl rfl rfl rfl rfl, ?_⟩
             | refine ⟨_, q_nilCheck rfl rfl, ?_⟩
             | refine ⟨_, q_field_ext rfl rfl rfl rfl rfl, ?_⟩
             | refine ⟨_, q_quo rfl rfl rfl (by omega), ?_⟩
             | refine ⟨_, q_rem rfl rfl rfl (by omega), ?_⟩
             | refine ⟨_, q_quot rfl rfl rfl (by omega), ?_⟩
             | refine ⟨_, q_remt rfl rfl rfl (by omega), ?_⟩
             | refine ⟨_, q_addu8 rfl rfl rfl (by omega), ?_⟩
             | refine ⟨_, q_quou8 rfl rfl rfl (by omega), ?_⟩
             | refine ⟨_, q_shr1 rfl rfl rfl, ?_⟩
             | refine ⟨_, q_shr rfl rfl rfl ⟨by omega, by decide⟩, ?_⟩
             | refine ⟨_, q_shr rfl rfl rfl ⟨by omega, by show Int.toNat _ ≤ (8:Nat); omega⟩, ?_⟩
             | refine ⟨_, q_and1 rfl rfl rfl (by first | assumption | omega), ?_⟩
             | refine ⟨_, q_conv rfl rfl rfl rfl rfl rfl (by first | rfl | (exact i64_wrap (by omega) (by omega)) | (exact u8_wrap (by omega) (by omega)) | (exact u64_wrap (by omega) (by omega)) | (exact u16_wrap (by omega) (by omega))), ?_⟩)
          | refine j_guard_undef rfl rfl rfl rfl rfl ?_
          | (refine j_guard rfl rfl rfl rfl rfl ?_ ?_ <;> intro hc <;> (first | (exact absurd hc (by decide)) | ((try simp only [decide_eq_true_eq, decide_eq_false_iff_not, Bool.not_eq_true', Bool.not_eq_false', Bool.not_true, Bool.not_false, ne_eq, Decidable.not_not] at hc) <;> first | (exfalso; omega) | (exact absurd trivial hc) | skip))))
       | (refine gSC ?_
          first
          | refine sc_seq ?_
          | refine sc_region ?_
          | (refine sc_cond rfl ?_ ?_ <;> intro hc <;> (first | (exact absurd hc (by decide)) | ((try simp only [decide_eq_true_eq, decide_eq_false_iff_not, Bool.not_eq_true', Bool.not_eq_false', Bool.not_true, Bool.not_false, ne_eq, Decidable.not_not] at hc) <;> first | (exfalso; omega) | (exact absurd trivial hc) | skip)))
          | refine sc_block ?_
          | refine sc_ret ?_
          | refine sc_exit ?_
          | refine sc_skip ?_
          | refine sc_draw rfl mixed (by kernel_rfl) ?_)
       | (refine gSQ ?_
          first
          | refine sq_seq ?_
          | refine sq_blk ?_
          | refine sq_seq_ret ?_
          | refine sq_blk_ret ?_
          | refine sq_loop_ret ?_
          | refine sq_seq_exit ?_
          | refine sq_blk_hit ?_
          | refine sq_blk_miss rfl ?_
          | refine sq_loop_exit ?_
          | refine sq_ende (.inl rfl) rfl rfl ⟨_, (RVs.cons (RV.tmp rfl) (RVs.cons (RV.tmp rfl) (RVs.nil))), ?_⟩
          | refine sq_ende (.inr rfl) rfl rfl ⟨_, (RVs.cons (RV.tmp rfl) (RVs.cons (RV.tmp rfl) (RVs.nil))), ?_⟩)
       | refine j_nil ?_
       )
      refine sc_loop (ι := Nat × Bool × Bool × Bool × Bool) (fun q => q.1 ≤ n ∧ goR p.id d l false false false false = goR p.id d (l.drop q.1) q.2.1 q.2.2.1 q.2.2.2.1 q.2.2.2.2) (fun q => n - q.1) (fun q => [(1, .slice A n c), (2, .slice B m bc), (3, .int .i64 p.id), (4, .int .i64 d), (5, .pointer (some ⟨b, 0, none⟩)), (13, .int .i64 k0), (14, .bool q.2.1), (15, .bool q.2.2.1), (16, .bool q.2.2.2.1), (17, .bool q.2.2.2.2), (18, .int .i64 q.1)]) (fun _ => [.cells b 30 [v1, v2, v3, .slice (some adp) np pc]]) (0, false, false, false, false) ⟨Nat.zero_le _, rfl⟩ (by repeat (first | exact FSub.nil | refine FSub.cons rfl ?_ | refine FSub.conse rfl (by congr 1; omega) ?_)) (by repeat (first | exact LSub.nil | refine LSub.cons (by repeat (first | exact Rem.here | apply Rem.there)) ?_)) ?_
      rintro ⟨k, s, i, u, z⟩ ⟨hk, hg⟩
      dsimp only at hk hg ⊢
      by_cases hlt : k < n
      · obtain ⟨x, hx⟩ : ∃ x, l[k]? = some x := ⟨_, List.getElem?_eq_getElem (by omega)⟩
        obtain ⟨ad, rfl, hX⟩ := h k x hx
        have hxo := hok x (List.mem_of_getElem? hx)
        have hdy := hxo.2.2.2.2
        rw [drop_cons hx] at hg
        simp only [goR] at hg
        by_cases hp : x.pt = p.id
        · rw [if_pos hp] at hg
          by_cases h2 : x.kd = 2
          · by_cases hv : x.fr ≤ d ∧ d ≤ x.to
            · rw [if_pos ⟨h2, by simp [vacB, hv.1, hv.2]⟩] at hg
              obtain ⟨hv1, hv2⟩ := hv
              repeat' (first
               | (refine gJ ?_
                  first
                  | refine jmv rfl rfl rfl rfl rfl ?_
                  | (refine gload rfl rfl ?_
                     refine j_qe rfl rfl rfl ?_
                     first
                     | refine ⟨_, q_load_own rfl rfl rfl rfl (by (repeat (first | exact InL.here | apply InL.there))) (by first | rfl | assumption), ?_⟩
                     | refine ⟨_, q_loadA_own rfl rfl rfl rfl (by (repeat (first | exact InL.here | apply InL.there))) (by rfl), ?_⟩
                     | refine ⟨_, q_loadA_ext rfl rfl rfl rfl ⟨by assumption, (by first | exact id | assumption)⟩ (by rfl), ?_⟩
                     | refine ⟨_, q_load_ext rfl rfl rfl rfl ⟨by assumption, (by first | exact id | assumption)⟩ (by first | rfl | assumption), ?_⟩
                     | refine ⟨_, q_load_extb rfl rfl rfl rfl ⟨by assumption, (by first | exact id | assumption)⟩ (by rfl), ?_⟩
                     | refine ⟨_, q_loadA_extb rfl rfl rfl rfl ⟨by assumption, (by first | exact id | assumption)⟩ (by rfl), ?_⟩
                     | refine ⟨_, q_load_ext0 rfl rfl rfl rfl ⟨by assumption, (by first | exact id | assumption)⟩ (by rfl), ?_⟩)
                  | refine jfield rfl rfl rfl rfl rfl rfl rfl rfl ?_
                  | refine jcmp rfl rfl rfl rfl rfl rfl rfl ?_
                  | refine jar rfl rfl rfl rfl rfl rfl rfl (by omega) ?_
                  | refine jextract rfl rfl rfl rfl rfl rfl ?_
                  | (refine gF ?_
                     first
                     | refine j_store rfl rfl rfl rfl rfl rfl rfl rfl (by (repeat (first | exact Upd.here | apply Upd.there))) (by rfl) ?_
                     | (refine j_alloc rfl rfl rfl rfl rfl ?_; intro b)
                     | (refine j_box rfl rfl rfl rfl rfl ?_; intro b)
                     | (refine j_buildSlice rfl rfl rfl rfl rfl rfl rfl rfl rfl rfl rfl rfl ?_; intro b)
                     | (refine j_append rfl rfl rfl rfl rfl rfl rfl rfl rfl rfl rfl (by (repeat (first | exact InL.here | apply InL.there))) (by (repeat (first | exact InL.here | apply InL.there))) (by rfl) (by rfl) (by omega) (fun _ => by (repeat (first | exact Upd.here | apply Upd.there))) ?_; intro v))
                  | (refine j_qe rfl rfl rfl ?_
                     first
                     | refine ⟨_, q_pick_t rfl rfl rfl, ?_⟩
                     | refine ⟨_, q_pick_f rfl rfl rfl, ?_⟩
                     | refine ⟨_, q_not rfl rfl, ?_⟩
                     | refine ⟨_, q_index_nat rfl rfl rfl rfl rfl (by omega), ?_⟩
                     | refine ⟨_, q_index_slice rfl rfl rfl rfl rfl (by omega), ?_⟩
                     | refine ⟨_, q_index_arr rfl rfl rfl rfl rfl (by omega), ?_⟩
                     | refine ⟨_, q_index_arr_ext rfl rfl rfl rfl rfl (by omega), ?_⟩
                     | refine ⟨_, q_len_slice rfl rfl rfl rfl, ?_⟩
                     | refine ⟨_, q_makeFunc rfl rfl, ?_⟩
                     | refine ⟨_, q_build_struct rfl rfl rfl rfl rfl, ?_⟩
                     | refine ⟨_, q_build_arr rfl rfl rfl rfl rfl, ?_⟩
                     | refine ⟨_, q_nilCheck rfl rfl, ?_⟩
                     | refine ⟨_, q_field_ext rfl rfl rfl rfl rfl, ?_⟩
                     | refine ⟨_, q_quo rfl rfl rfl (by omega), ?_⟩
                     | refine ⟨_, q_rem rfl rfl rfl (by omega), ?_⟩
                     | refine ⟨_, q_quot rfl rfl rfl (by omega), ?_⟩
                     | refine ⟨_, q_remt rfl rfl rfl (by omega), ?_⟩
                     | refine ⟨_, q_addu8 rfl rfl rfl (by omega), ?_⟩
                     | refine ⟨_, q_quou8 rfl rfl rfl (by omega), ?_⟩
                     | refine ⟨_, q_shr1 rfl rfl rfl, ?_⟩
                     | refine ⟨_, q_shr rfl rfl rfl ⟨by omega, by decide⟩, ?_⟩
                     | refine ⟨_, q_shr rfl rfl rfl ⟨by omega, by show Int.toNat _ ≤ (8:Nat); omega⟩, ?_⟩
                     | refine ⟨_, q_and1 rfl rfl rfl (by first | assumption | omega), ?_⟩
                     | refine ⟨_, q_conv rfl rfl rfl rfl rfl rfl (by first | rfl | (exact i64_wrap (by omega) (by omega)) | (exact u8_wrap (by omega) (by omega)) | (exact u64_wrap (by omega) (by omega)) | (exact u16_wrap (by omega) (by omega))), ?_⟩)
                  | refine j_guard_undef rfl rfl rfl rfl rfl ?_
                  | (refine j_guard rfl rfl rfl rfl rfl ?_ ?_ <;> intro hc <;> (first | (exact absurd hc (by decide)) | ((try simp only [decide_eq_true_eq, decide_eq_false_iff_not, Bool.not_eq_true', Bool.not_eq_false', Bool.not_true, Bool.not_false, ne_eq, Decidable.not_not] at hc) <;> first | (exfalso; omega) | (exact absurd trivial hc) | skip))))
               | (refine gSC ?_
                  first
                  | refine sc_seq ?_
                  | refine sc_region ?_
                  | (refine sc_cond rfl ?_ ?_ <;> intro hc <;> (first | (exact absurd hc (by decide)) | ((try simp only [decide_eq_true_eq, decide_eq_false_iff_not, Bool.not_eq_true', Bool.not_eq_false', Bool.not_true, Bool.not_false, ne_eq, Decidable.not_not] at hc) <;> first | (exfalso; omega) | (exact absurd trivial hc) | skip)))
                  | refine sc_block ?_
                  | refine sc_ret ?_
                  | refine sc_exit ?_
                  | refine sc_skip ?_
                  | refine sc_draw rfl mixed (by kernel_rfl) ?_)
               | (refine gSQ ?_
                  first
                  | refine sq_seq ?_
                  | refine sq_blk ?_
                  | refine sq_seq_ret ?_
                  | refine sq_blk_ret ?_
                  | refine sq_loop_ret ?_
                  | refine sq_seq_exit ?_
                  | refine sq_blk_hit ?_
                  | refine sq_blk_miss rfl ?_
                  | refine sq_loop_exit ?_
                  | refine sq_ende (.inl rfl) rfl rfl ⟨_, (RVs.cons (RV.tmp rfl) (RVs.cons (RV.tmp rfl) (RVs.nil))), ?_⟩
                  | refine sq_ende (.inr rfl) rfl rfl ⟨_, (RVs.cons (RV.tmp rfl) (RVs.cons (RV.tmp rfl) (RVs.nil))), ?_⟩)
               | refine j_nil ?_
               )
              (intro w' hS; refine ⟨?_, hS.below⟩; simp only [pack])
              unfold statR
              rw [hg]
            · rw [if_neg (by simp [vacB]; omega), if_neg (by omega), if_neg (by omega)] at hg
              repeat' (first
               | (refine gJ ?_
                  first
                  | refine jmv rfl rfl rfl rfl rfl ?_
                  | (refine gload rfl rfl ?_
                     refine j_qe rfl rfl rfl ?_
                     first
                     | refine ⟨_, q_load_own rfl rfl rfl rfl (by (repeat (first | exact InL.here | apply InL.there))) (by first | rfl | assumption), ?_⟩
                     | refine ⟨_, q_loadA_own rfl rfl rfl rfl (by (repeat (first | exact InL.here | apply InL.there))) (by rfl), ?_⟩
                     | refine ⟨_, q_loadA_ext rfl rfl rfl rfl ⟨by assumption, (by first | exact id | assumption)⟩ (by rfl), ?_⟩
                     | refine ⟨_, q_load_ext rfl rfl rfl rfl ⟨by assumption, (by first | exact id | assumption)⟩ (by first | rfl | assumption), ?_⟩
                     | refine ⟨_, q_load_extb rfl rfl rfl rfl ⟨by assumption, (by first | exact id | assumption)⟩ (by rfl), ?_⟩
                     | refine ⟨_, q_loadA_extb rfl rfl rfl rfl ⟨by assumption, (by first | exact id | assumption)⟩ (by rfl), ?_⟩
                     | refine ⟨_, q_load_ext0 rfl rfl rfl rfl ⟨by assumption, (by first | exact id | assumption)⟩ (by rfl), ?_⟩)
                  | refine jfield rfl rfl rfl rfl rfl rfl rfl rfl ?_
                  | refine jcmp rfl rfl rfl rfl rfl rfl rfl ?_
                  | refine jar rfl rfl rfl rfl rfl rfl rfl (by omega) ?_
                  | refine jextract rfl rfl rfl rfl rfl rfl ?_
                  | (refine gF ?_
                     first
                     | refine j_store rfl rfl rfl rfl rfl rfl rfl rfl (by (repeat (first | exact Upd.here | apply Upd.there))) (by rfl) ?_
                     | (refine j_alloc rfl rfl rfl rfl rfl ?_; intro b)
                     | (refine j_box rfl rfl rfl rfl rfl ?_; intro b)
                     | (refine j_buildSlice rfl rfl rfl rfl rfl rfl rfl rfl rfl rfl rfl rfl ?_; intro b)
                     | (refine j_append rfl rfl rfl rfl rfl rfl rfl rfl rfl rfl rfl (by (repeat (first | exact InL.here | apply InL.there))) (by (repeat (first | exact InL.here | apply InL.there))) (by rfl) (by rfl) (by omega) (fun _ => by (repeat (first | exact Upd.here | apply Upd.there))) ?_; intro v))
                  | (refine j_qe rfl rfl rfl ?_
                     first
                     | refine ⟨_, q_pick_t rfl rfl rfl, ?_⟩
                     | refine ⟨_, q_pick_f rfl rfl rfl, ?_⟩
                     | refine ⟨_, q_not rfl rfl, ?_⟩
                     | refine ⟨_, q_index_nat rfl rfl rfl rfl rfl (by omega), ?_⟩
                     | refine ⟨_, q_index_slice rfl rfl rfl rfl rfl (by omega), ?_⟩
                     | refine ⟨_, q_index_arr rfl rfl rfl rfl rfl (by omega), ?_⟩
                     | refine ⟨_, q_index_arr_ext rfl rfl rfl rfl rfl (by omega), ?_⟩
                     | refine ⟨_, q_len_slice rfl rfl rfl rfl, ?_⟩
                     | refine ⟨_, q_makeFunc rfl rfl, ?_⟩
                     | refine ⟨_, q_build_struct rfl rfl rfl rfl rfl, ?_⟩
                     | refine ⟨_, q_build_arr rfl rfl rfl rfl rfl, ?_⟩
                     | refine ⟨_, q_nilCheck rfl rfl, ?_⟩
                     | refine ⟨_, q_field_ext rfl rfl rfl rfl rfl, ?_⟩
                     | refine ⟨_, q_quo rfl rfl rfl (by omega), ?_⟩
                     | refine ⟨_, q_rem rfl rfl rfl (by omega), ?_⟩
                     | refine ⟨_, q_quot rfl rfl rfl (by omega), ?_⟩
                     | refine ⟨_, q_remt rfl rfl rfl (by omega), ?_⟩
                     | refine ⟨_, q_addu8 rfl rfl rfl (by omega), ?_⟩
                     | refine ⟨_, q_quou8 rfl rfl rfl (by omega), ?_⟩
                     | refine ⟨_, q_shr1 rfl rfl rfl, ?_⟩
                     | refine ⟨_, q_shr rfl rfl rfl ⟨by omega, by decide⟩, ?_⟩
                     | refine ⟨_, q_shr rfl rfl rfl ⟨by omega, by show Int.toNat _ ≤ (8:Nat); omega⟩, ?_⟩
                     | refine ⟨_, q_and1 rfl rfl rfl (by first | assumption | omega), ?_⟩
                     | refine ⟨_, q_conv rfl rfl rfl rfl rfl rfl (by first | rfl | (exact i64_wrap (by omega) (by omega)) | (exact u8_wrap (by omega) (by omega)) | (exact u64_wrap (by omega) (by omega)) | (exact u16_wrap (by omega) (by omega))), ?_⟩)
                  | refine j_guard_undef rfl rfl rfl rfl rfl ?_
                  | (refine j_guard rfl rfl rfl rfl rfl ?_ ?_ <;> intro hc <;> (first | (exact absurd hc (by decide)) | ((try simp only [decide_eq_true_eq, decide_eq_false_iff_not, Bool.not_eq_true', Bool.not_eq_false', Bool.not_true, Bool.not_false, ne_eq, Decidable.not_not] at hc) <;> first | (exfalso; omega) | (exact absurd trivial hc) | skip))))
               | (refine gSC ?_
                  first
                  | refine sc_seq ?_
                  | refine sc_region ?_
                  | (refine sc_cond rfl ?_ ?_ <;> intro hc <;> (first | (exact absurd hc (by decide)) | ((try simp only [decide_eq_true_eq, decide_eq_false_iff_not, Bool.not_eq_true', Bool.not_eq_false', Bool.not_true, Bool.not_false, ne_eq, Decidable.not_not] at hc) <;> first | (exfalso; omega) | (exact absurd trivial hc) | skip)))
                  | refine sc_block ?_
                  | refine sc_ret ?_
                  | refine sc_exit ?_
                  | refine sc_skip ?_
                  | refine sc_draw rfl mixed (by kernel_rfl) ?_)
               | (refine gSQ ?_
                  first
                  | refine sq_seq ?_
                  | refine sq_blk ?_
                  | refine sq_seq_ret ?_
                  | refine sq_blk_ret ?_
                  | refine sq_loop_ret ?_
                  | refine sq_seq_exit ?_
                  | refine sq_blk_hit ?_
                  | refine sq_blk_miss rfl ?_
                  | refine sq_loop_exit ?_
                  | refine sq_ende (.inl rfl) rfl rfl ⟨_, (RVs.cons (RV.tmp rfl) (RVs.cons (RV.tmp rfl) (RVs.nil))), ?_⟩
                  | refine sq_ende (.inr rfl) rfl rfl ⟨_, (RVs.cons (RV.tmp rfl) (RVs.cons (RV.tmp rfl) (RVs.nil))), ?_⟩)
               | refine j_nil ?_
               )
              all_goals exact sq_loop (k + 1, s, i, u, z) ⟨by show k + 1 ≤ n; omega, hg⟩ (by show n - (k + 1) < n - k; omega) (by repeat (first | exact FSub.nil | refine FSub.cons rfl ?_ | refine FSub.conse rfl (by congr 1; omega) ?_)) (by repeat (first | exact LSub.nil | refine LSub.cons (by repeat (first | exact Rem.here | apply Rem.there)) ?_))
          · rw [if_neg (by simp [h2])] at hg
            by_cases h1' : x.kd = 1
            · rw [if_pos h1'] at hg
              have hy : ∀ w, Calls Try.prog 49 #[.int .i64 d, .int .i64 x.fr, .int .i64 x.to] w fun e w' => e = .returned (.tuple #[.bool (seaB d x), .int .i64 (if checkDayF d = 0 then (if (ydB x.fr && ydB x.to) then 0 else 10) else checkDayF d)]) ∧ Below w.heap.size w w' := fun w => yearR_c d x.fr x.to w hxo.2.2.1.1 hxo.2.2.1.2 hxo.2.2.2.1.1 hxo.2.2.2.1.2
              generalize seaB d x = sb at *
              cases i
              all_goals
                repeat' (first
                 | (refine gJ ?_
                    first
                    | refine jmv rfl rfl rfl rfl rfl ?_
                    | (refine gload rfl rfl ?_
                       refine j_qe rfl rfl rfl ?_
                       first
                       | refine ⟨_, q_load_own rfl rfl rfl rfl (by (repeat (first | exact InL.here | apply InL.there))) (by first | rfl | assumption), ?_⟩
                       | refine ⟨_, q_loadA_own rfl rfl rfl rfl (by (repeat (first | exact InL.here | apply InL.there))) (by rfl), ?_⟩
                       | refine ⟨_, q_loadA_ext rfl rfl rfl rfl ⟨by assumption, (by first | exact id | assumption)⟩ (by rfl), ?_⟩
                       | refine ⟨_, q_load_ext rfl rfl rfl rfl ⟨by assumption, (by first | exact id | assumption)⟩ (by first | rfl | assumption), ?_⟩
                       | refine ⟨_, q_load_extb rfl rfl rfl rfl ⟨by assumption, (by first | exact id | assumption)⟩ (by rfl), ?_⟩
                       | refine ⟨_, q_loadA_extb rfl rfl rfl rfl ⟨by assumption, (by first | exact id | assumption)⟩ (by rfl), ?_⟩
                       | refine ⟨_, q_load_ext0 rfl rfl rfl rfl ⟨by assumption, (by first | exact id | assumption)⟩ (by rfl), ?_⟩)
                    | refine jfield rfl rfl rfl rfl rfl rfl rfl rfl ?_
                    | refine jcmp rfl rfl rfl rfl rfl rfl rfl ?_
                    | refine jar rfl rfl rfl rfl rfl rfl rfl (by omega) ?_
                    | refine jextract rfl rfl rfl rfl rfl rfl ?_
                    | (refine gcall rfl rfl ?_
                       first
                       | (refine j_qc (f := 49) rfl rfl rfl rfl rfl rfl rfl ?_; refine ⟨_, (fun w' _ => hy w'), ?_⟩))
                    | (refine gF ?_
                       first
                       | refine j_store rfl rfl rfl rfl rfl rfl rfl rfl (by (repeat (first | exact Upd.here | apply Upd.there))) (by rfl) ?_
                       | (refine j_alloc rfl rfl rfl rfl rfl ?_; intro b)
                       | (refine j_box rfl rfl rfl rfl rfl ?_; intro b)
                       | (refine j_buildSlice rfl rfl rfl rfl rfl rfl rfl rfl rfl rfl rfl rfl ?_; intro b)
                       | (refine j_append rfl rfl rfl rfl rfl rfl rfl rfl rfl rfl rfl (by (repeat (first | exact InL.here | apply InL.there))) (by (repeat (first | exact InL.here | apply InL.there))) (by rfl) (by rfl) (by omega) (fun _ => by (repeat (first | exact Upd.here | apply Upd.there))) ?_; intro v))
                    | (refine j_qe rfl rfl rfl ?_
                       first
                       | refine ⟨_, q_pick_t rfl rfl rfl, ?_⟩
                       | refine ⟨_, q_pick_f rfl rfl rfl, ?_⟩
                       | refine ⟨_, q_not rfl rfl, ?_⟩
                       | refine ⟨_, q_index_nat rfl rfl rfl rfl rfl (by omega), ?_⟩
                       | refine ⟨_, q_index_slice rfl rfl rfl rfl rfl (by omega), ?_⟩
                       | refine ⟨_, q_index_arr rfl rfl rfl rfl rfl (by omega), ?_⟩
                       | refine ⟨_, q_index_arr_ext rfl rfl rfl rfl rfl (by omega), ?_⟩
                       | refine ⟨_, q_len_slice rfl rfl rfl rfl, ?_⟩
                       | refine ⟨_, q_makeFunc rfl rfl, ?_⟩
                       | refine ⟨_, q_build_struct rfl rfl rfl rfl rfl, ?_⟩
                       | refine ⟨_, q_build_arr rfl rfl rfl rfl rfl, ?_⟩
                       | refine ⟨_, q_nilCheck rfl rfl, ?_⟩
                       | refine ⟨_, q_field_ext rfl rfl rfl rfl rfl, ?_⟩
                       | refine ⟨_, q_quo rfl rfl rfl (by omega), ?_⟩
                       | refine ⟨_, q_rem rfl rfl rfl (by omega), ?_⟩
                       | refine ⟨_, q_quot rfl rfl rfl (by omega), ?_⟩
                       | refine ⟨_, q_remt rfl rfl rfl (by omega), ?_⟩
                       | refine ⟨_, q_addu8 rfl rfl rfl (by omega), ?_⟩
                       | refine ⟨_, q_quou8 rfl rfl rfl (by omega), ?_⟩
                       | refine ⟨_, q_shr1 rfl rfl rfl, ?_⟩
                       | refine ⟨_, q_shr rfl rfl rfl ⟨by omega, by decide⟩, ?_⟩
                       | refine ⟨_, q_shr rfl rfl rfl ⟨by omega, by show Int.toNat _ ≤ (8:Nat); omega⟩, ?_⟩
                       | refine ⟨_, q_and1 rfl rfl rfl (by first | assumption | omega), ?_⟩
                       | refine ⟨_, q_conv rfl rfl rfl rfl rfl rfl (by first | rfl | (exact i64_wrap (by omega) (by omega)) | (exact u8_wrap (by omega) (by omega)) | (exact u64_wrap (by omega) (by omega)) | (exact u16_wrap (by omega) (by omega))), ?_⟩)
                    | refine j_guard_undef rfl rfl rfl rfl rfl ?_
                    | (refine j_guard rfl rfl rfl rfl rfl ?_ ?_ <;> intro hc <;> (first | (exact absurd hc (by decide)) | ((try simp only [decide_eq_true_eq, decide_eq_false_iff_not, Bool.not_eq_true', Bool.not_eq_false', Bool.not_true, Bool.not_false, ne_eq, Decidable.not_not] at hc) <;> first | (exfalso; omega) | (exact absurd trivial hc) | skip))))
                 | (refine gSC ?_
                    first
                    | refine sc_seq ?_
                    | refine sc_region ?_
                    | (refine sc_cond rfl ?_ ?_ <;> intro hc <;> (first | (exact absurd hc (by decide)) | ((try simp only [decide_eq_true_eq, decide_eq_false_iff_not, Bool.not_eq_true', Bool.not_eq_false', Bool.not_true, Bool.not_false, ne_eq, Decidable.not_not] at hc) <;> first | (exfalso; omega) | (exact absurd trivial hc) | skip)))
                    | refine sc_block ?_
                    | refine sc_ret ?_
                    | refine sc_exit ?_
                    | refine sc_skip ?_
                    | refine sc_draw rfl mixed (by kernel_rfl) ?_)
                 | (refine gSQ ?_
                    first
                    | refine sq_seq ?_
                    | refine sq_blk ?_
                    | refine sq_seq_ret ?_
                    | refine sq_blk_ret ?_
                    | refine sq_loop_ret ?_
                    | refine sq_seq_exit ?_
                    | refine sq_blk_hit ?_
                    | refine sq_blk_miss rfl ?_
                    | refine sq_loop_exit ?_
                    | refine sq_ende (.inl rfl) rfl rfl ⟨_, (RVs.cons (RV.tmp rfl) (RVs.cons (RV.tmp rfl) (RVs.nil))), ?_⟩
                    | refine sq_ende (.inr rfl) rfl rfl ⟨_, (RVs.cons (RV.tmp rfl) (RVs.cons (RV.tmp rfl) (RVs.nil))), ?_⟩)
                 | refine j_nil ?_
                 )
                all_goals exact sq_loop (k + 1, true, _, u, z) ⟨by show k + 1 ≤ n; omega, hg⟩ (by show n - (k + 1) < n - k; omega) (by repeat (first | exact FSub.nil | refine FSub.cons rfl ?_ | refine FSub.conse rfl (by congr 1; omega) ?_)) (by repeat (first | exact LSub.nil | refine LSub.cons (by repeat (first | exact Rem.here | apply Rem.there)) ?_))
            · rw [if_neg h1'] at hg
              by_cases h3 : x.kd = 3
              · rw [if_pos h3, ← band_week x (d % 7) (by omega) (by omega) hdy] at hg
                generalize hzz : bandF x.dy (p2 (d % 7)) = zz at *
                cases z
                all_goals
                  repeat' (first
                   | (refine gJ ?_
                      first
                      | refine jmv rfl rfl rfl rfl rfl ?_
                      | (refine gload rfl rfl ?_
                         refine j_qe rfl rfl rfl ?_
                         first
                         | refine ⟨_, q_load_own rfl rfl rfl rfl (by (repeat (first | exact InL.here | apply InL.there))) (by first | rfl | assumption), ?_⟩
                         | refine ⟨_, q_loadA_own rfl rfl rfl rfl (by (repeat (first | exact InL.here | apply InL.there))) (by rfl), ?_⟩
                         | refine ⟨_, q_loadA_ext rfl rfl rfl rfl ⟨by assumption, (by first | exact id | assumption)⟩ (by rfl), ?_⟩
                         | refine ⟨_, q_load_ext rfl rfl rfl rfl ⟨by assumption, (by first | exact id | assumption)⟩ (by first | rfl | assumption), ?_⟩
                         | refine ⟨_, q_load_extb rfl rfl rfl rfl ⟨by assumption, (by first | exact id | assumption)⟩ (by rfl), ?_⟩
                         | refine ⟨_, q_loadA_extb rfl rfl rfl rfl ⟨by assumption, (by first | exact id | assumption)⟩ (by rfl), ?_⟩
                         | refine ⟨_, q_load_ext0 rfl rfl rfl rfl ⟨by assumption, (by first | exact id | assumption)⟩ (by rfl), ?_⟩)
                      | refine jfield rfl rfl rfl rfl rfl rfl rfl rfl ?_
                      | refine jcmp rfl rfl rfl rfl rfl rfl rfl ?_
                      | refine jar rfl rfl rfl rfl rfl rfl rfl (by omega) ?_
                      | refine jextract rfl rfl rfl rfl rfl rfl ?_
                      | (refine gcall rfl rfl ?_
                         first
                         | (refine j_qc (f := 89) rfl rfl rfl rfl rfl rfl rfl ?_; refine ⟨_, (fun w' _ => bitR_c d w' h0 h1), ?_⟩))
                      | (refine j_qe rfl rfl rfl ?_; refine ⟨_, hzz ▸ q_and8 rfl rfl rfl, ?_⟩)
                      | (refine gF ?_
                         first
                         | refine j_store rfl rfl rfl rfl rfl rfl rfl rfl (by (repeat (first | exact Upd.here | apply Upd.there))) (by rfl) ?_
                         | (refine j_alloc rfl rfl rfl rfl rfl ?_; intro b)
                         | (refine j_box rfl rfl rfl rfl rfl ?_; intro b)
                         | (refine j_buildSlice rfl rfl rfl rfl rfl rfl rfl rfl rfl rfl rfl rfl ?_; intro b)
                         | (refine j_append rfl rfl rfl rfl rfl rfl rfl rfl rfl rfl rfl (by (repeat (first | exact InL.here | apply InL.there))) (by (repeat (first | exact InL.here | apply InL.there))) (by rfl) (by rfl) (by omega) (fun _ => by (repeat (first | exact Upd.here | apply Upd.there))) ?_; intro v))
                      | (refine j_qe rfl rfl rfl ?_
                         first
                         | refine ⟨_, q_pick_t rfl rfl rfl, ?_⟩
                         | refine ⟨_, q_pick_f rfl rfl rfl, ?_⟩
                         | refine ⟨_, q_not rfl rfl, ?_⟩
                         | refine ⟨_, q_index_nat rfl rfl rfl rfl rfl (by omega), ?_⟩
                         | refine ⟨_, q_index_slice rfl rfl rfl rfl rfl (by omega), ?_⟩
                         | refine ⟨_, q_index_arr rfl rfl rfl rfl rfl (by omega), ?_⟩
                         | refine ⟨_, q_index_arr_ext rfl rfl rfl rfl rfl (by omega), ?_⟩
                         | refine ⟨_, q_len_slice rfl rfl rfl rfl, ?_⟩
                         | refine ⟨_, q_makeFunc rfl rfl, ?_⟩
                         | refine ⟨_, q_build_struct rfl rfl rfl rfl rfl, ?_⟩
                         | refine ⟨_, q_build_arr rfl rfl rfl rfl rfl, ?_⟩
                         | refine ⟨_, q_nilCheck rfl rfl, ?_⟩
                         | refine ⟨_, q_field_ext rfl rfl rfl rfl rfl, ?_⟩
                         | refine ⟨_, q_quo rfl rfl rfl (by omega), ?_⟩
                         | refine ⟨_, q_rem rfl rfl rfl (by omega), ?_⟩
                         | refine ⟨_, q_quot rfl rfl rfl (by omega), ?_⟩
                         | refine ⟨_, q_remt rfl rfl rfl (by omega), ?_⟩
                         | refine ⟨_, q_addu8 rfl rfl rfl (by omega), ?_⟩
                         | refine ⟨_, q_quou8 rfl rfl rfl (by omega), ?_⟩
                         | refine ⟨_, q_shr1 rfl rfl rfl, ?_⟩
                         | refine ⟨_, q_shr rfl rfl rfl ⟨by omega, by decide⟩, ?_⟩
                         | refine ⟨_, q_shr rfl rfl rfl ⟨by omega, by show Int.toNat _ ≤ (8:Nat); omega⟩, ?_⟩
                         | refine ⟨_, q_and1 rfl rfl rfl (by first | assumption | omega), ?_⟩
                         | refine ⟨_, q_conv rfl rfl rfl rfl rfl rfl (by first | rfl | (exact i64_wrap (by omega) (by omega)) | (exact u8_wrap (by omega) (by omega)) | (exact u64_wrap (by omega) (by omega)) | (exact u16_wrap (by omega) (by omega))), ?_⟩)
                      | refine j_guard_undef rfl rfl rfl rfl rfl ?_
                      | (refine j_guard rfl rfl rfl rfl rfl ?_ ?_ <;> intro hc <;> (first | (exact absurd hc (by decide)) | ((try simp only [decide_eq_true_eq, decide_eq_false_iff_not, Bool.not_eq_true', Bool.not_eq_false', Bool.not_true, Bool.not_false, ne_eq, Decidable.not_not] at hc) <;> first | (exfalso; omega) | (exact absurd trivial hc) | skip))))
                   | (refine gSC ?_
                      first
                      | refine sc_seq ?_
                      | refine sc_region ?_
                      | (refine sc_cond rfl ?_ ?_ <;> intro hc <;> (first | (exact absurd hc (by decide)) | ((try simp only [decide_eq_true_eq, decide_eq_false_iff_not, Bool.not_eq_true', Bool.not_eq_false', Bool.not_true, Bool.not_false, ne_eq, Decidable.not_not] at hc) <;> first | (exfalso; omega) | (exact absurd trivial hc) | skip)))
                      | refine sc_block ?_
                      | refine sc_ret ?_
                      | refine sc_exit ?_
                      | refine sc_skip ?_
                      | refine sc_draw rfl mixed (by kernel_rfl) ?_)
                   | (refine gSQ ?_
                      first
                      | refine sq_seq ?_
                      | refine sq_blk ?_
                      | refine sq_seq_ret ?_
                      | refine sq_blk_ret ?_
                      | refine sq_loop_ret ?_
                      | refine sq_seq_exit ?_
                      | refine sq_blk_hit ?_
                      | refine sq_blk_miss rfl ?_
                      | refine sq_loop_exit ?_
                      | refine sq_ende (.inl rfl) rfl rfl ⟨_, (RVs.cons (RV.tmp rfl) (RVs.cons (RV.tmp rfl) (RVs.nil))), ?_⟩
                      | refine sq_ende (.inr rfl) rfl rfl ⟨_, (RVs.cons (RV.tmp rfl) (RVs.cons (RV.tmp rfl) (RVs.nil))), ?_⟩)
                   | refine j_nil ?_
                   )
                  all_goals exact sq_loop (k + 1, s, i, true, _) ⟨by show k + 1 ≤ n; omega, hg⟩ (by show n - (k + 1) < n - k; omega) (by repeat (first | exact FSub.nil | refine FSub.cons rfl ?_ | refine FSub.conse rfl (by congr 1; omega) ?_)) (by repeat (first | exact LSub.nil | refine LSub.cons (by repeat (first | exact Rem.here | apply Rem.there)) ?_))
              · rw [if_neg h3] at hg
                repeat' (first
                 | (refine gJ ?_
                    first
                    | refine jmv rfl rfl rfl rfl rfl ?_
                    | (refine gload rfl rfl ?_
                       refine j_qe rfl rfl rfl ?_
                       first
                       | refine ⟨_, q_load_own rfl rfl rfl rfl (by (repeat (first | exact InL.here | apply InL.there))) (by first | rfl | assumption), ?_⟩
                       | refine ⟨_, q_loadA_own rfl rfl rfl rfl (by (repeat (first | exact InL.here | apply InL.there))) (by rfl), ?_⟩
                       | refine ⟨_, q_loadA_ext rfl rfl rfl rfl ⟨by assumption, (by first | exact id | assumption)⟩ (by rfl), ?_⟩
                       | refine ⟨_, q_load_ext rfl rfl rfl rfl ⟨by assumption, (by first | exact id | assumption)⟩ (by first | rfl | assumption), ?_⟩
                       | refine ⟨_, q_load_extb rfl rfl rfl rfl ⟨by assumption, (by first | exact id | assumption)⟩ (by rfl), ?_⟩
                       | refine ⟨_, q_loadA_extb rfl rfl rfl rfl ⟨by assumption, (by first | exact id | assumption)⟩ (by rfl), ?_⟩
                       | refine ⟨_, q_load_ext0 rfl rfl rfl rfl ⟨by assumption, (by first | exact id | assumption)⟩ (by rfl), ?_⟩)
                    | refine jfield rfl rfl rfl rfl rfl rfl rfl rfl ?_
                    | refine jcmp rfl rfl rfl rfl rfl rfl rfl ?_
                    | refine jar rfl rfl rfl rfl rfl rfl rfl (by omega) ?_
                    | refine jextract rfl rfl rfl rfl rfl rfl ?_
                    | (refine gF ?_
                       first
                       | refine j_store rfl rfl rfl rfl rfl rfl rfl rfl (by (repeat (first | exact Upd.here | apply Upd.there))) (by rfl) ?_
                       | (refine j_alloc rfl rfl rfl rfl rfl ?_; intro b)
                       | (refine j_box rfl rfl rfl rfl rfl ?_; intro b)
                       | (refine j_buildSlice rfl rfl rfl rfl rfl rfl rfl rfl rfl rfl rfl rfl ?_; intro b)
                       | (refine j_append rfl rfl rfl rfl rfl rfl rfl rfl rfl rfl rfl (by (repeat (first | exact InL.here | apply InL.there))) (by (repeat (first | exact InL.here | apply InL.there))) (by rfl) (by rfl) (by omega) (fun _ => by (repeat (first | exact Upd.here | apply Upd.there))) ?_; intro v))
                    | (refine j_qe rfl rfl rfl ?_
                       first
                       | refine ⟨_, q_pick_t rfl rfl rfl, ?_⟩
                       | refine ⟨_, q_pick_f rfl rfl rfl, ?_⟩
                       | refine ⟨_, q_not rfl rfl, ?_⟩
                       | refine ⟨_, q_index_nat rfl rfl rfl rfl rfl (by omega), ?_⟩
                       | refine ⟨_, q_index_slice rfl rfl rfl rfl rfl (by omega), ?_⟩
                       | refine ⟨_, q_index_arr rfl rfl rfl rfl rfl (by omega), ?_⟩
                       | refine ⟨_, q_index_arr_ext rfl rfl rfl rfl rfl (by omega), ?_⟩
                       | refine ⟨_, q_len_slice rfl rfl rfl rfl, ?_⟩
                       | refine ⟨_, q_makeFunc rfl rfl, ?_⟩
                       | refine ⟨_, q_build_struct rfl rfl rfl rfl rfl, ?_⟩
                       | refine ⟨_, q_build_arr rfl rfl rfl rfl rfl, ?_⟩
                       | refine ⟨_, q_nilCheck rfl rfl, ?_⟩
                       | refine ⟨_, q_field_ext rfl rfl rfl rfl rfl, ?_⟩
                       | refine ⟨_, q_quo rfl rfl rfl (by omega), ?_⟩
                       | refine ⟨_, q_rem rfl rfl rfl (by omega), ?_⟩
                       | refine ⟨_, q_quot rfl rfl rfl (by omega), ?_⟩
                       | refine ⟨_, q_remt rfl rfl rfl (by omega), ?_⟩
                       | refine ⟨_, q_addu8 rfl rfl rfl (by omega), ?_⟩
                       | refine ⟨_, q_quou8 rfl rfl rfl (by omega), ?_⟩
                       | refine ⟨_, q_shr1 rfl rfl rfl, ?_⟩
                       | refine ⟨_, q_shr rfl rfl rfl ⟨by omega, by decide⟩, ?_⟩
                       | refine ⟨_, q_shr rfl rfl rfl ⟨by omega, by show Int.toNat _ ≤ (8:Nat); omega⟩, ?_⟩
                       | refine ⟨_, q_and1 rfl rfl rfl (by first | assumption | omega), ?_⟩
                       | refine ⟨_, q_conv rfl rfl rfl rfl rfl rfl (by first | rfl | (exact i64_wrap (by omega) (by omega)) | (exact u8_wrap (by omega) (by omega)) | (exact u64_wrap (by omega) (by omega)) | (exact u16_wrap (by omega) (by omega))), ?_⟩)
                    | refine j_guard_undef rfl rfl rfl rfl rfl ?_
                    | (refine j_guard rfl rfl rfl rfl rfl ?_ ?_ <;> intro hc <;> (first | (exact absurd hc (by decide)) | ((try simp only [decide_eq_true_eq, decide_eq_false_iff_not, Bool.not_eq_true', Bool.not_eq_false', Bool.not_true, Bool.not_false, ne_eq, Decidable.not_not] at hc) <;> first | (exfalso; omega) | (exact absurd trivial hc) | skip))))
                 | (refine gSC ?_
                    first
                    | refine sc_seq ?_
                    | refine sc_region ?_
                    | (refine sc_cond rfl ?_ ?_ <;> intro hc <;> (first | (exact absurd hc (by decide)) | ((try simp only [decide_eq_true_eq, decide_eq_false_iff_not, Bool.not_eq_true', Bool.not_eq_false', Bool.not_true, Bool.not_false, ne_eq, Decidable.not_not] at hc) <;> first | (exfalso; omega) | (exact absurd trivial hc) | skip)))
                    | refine sc_block ?_
                    | refine sc_ret ?_
                    | refine sc_exit ?_
                    | refine sc_skip ?_
                    | refine sc_draw rfl mixed (by kernel_rfl) ?_)
                 | (refine gSQ ?_
                    first
                    | refine sq_seq ?_
                    | refine sq_blk ?_
                    | refine sq_seq_ret ?_
                    | refine sq_blk_ret ?_
                    | refine sq_loop_ret ?_
                    | refine sq_seq_exit ?_
                    | refine sq_blk_hit ?_
                    | refine sq_blk_miss rfl ?_
                    | refine sq_loop_exit ?_
                    | refine sq_ende (.inl rfl) rfl rfl ⟨_, (RVs.cons (RV.tmp rfl) (RVs.cons (RV.tmp rfl) (RVs.nil))), ?_⟩
                    | refine sq_ende (.inr rfl) rfl rfl ⟨_, (RVs.cons (RV.tmp rfl) (RVs.cons (RV.tmp rfl) (RVs.nil))), ?_⟩)
                 | refine j_nil ?_
                 )
                all_goals exact sq_loop (k + 1, s, i, u, z) ⟨by show k + 1 ≤ n; omega, hg⟩ (by show n - (k + 1) < n - k; omega) (by repeat (first | exact FSub.nil | refine FSub.cons rfl ?_ | refine FSub.conse rfl (by congr 1; omega) ?_)) (by repeat (first | exact LSub.nil | refine LSub.cons (by repeat (first | exact Rem.here | apply Rem.there)) ?_))
        · rw [if_neg hp] at hg
          repeat' (first
           | (refine gJ ?_
              first
              | refine jmv rfl rfl rfl rfl rfl ?_
              | (refine gload rfl rfl ?_
                 refine j_qe rfl rfl rfl ?_
                 first
                 | refine ⟨_, q_load_own rfl rfl rfl rfl (by (repeat (first | exact InL.here | apply InL.there))) (by first | rfl | assumption), ?_⟩
                 | refine ⟨_, q_loadA_own rfl rfl rfl rfl (by (repeat (first | exact InL.here | apply InL.there))) (by rfl), ?_⟩
                 | refine ⟨_, q_loadA_ext rfl rfl rfl rfl ⟨by assumption, (by first | exact id | assumption)⟩ (by rfl), ?_⟩
                 | refine ⟨_, q_load_ext rfl rfl rfl rfl ⟨by assumption, (by first | exact id | assumption)⟩ (by first | rfl | assumption), ?_⟩
                 | refine ⟨_, q_load_extb rfl rfl rfl rfl ⟨by assumption, (by first | exact id | assumption)⟩ (by rfl), ?_⟩
                 | refine ⟨_, q_loadA_extb rfl rfl rfl rfl ⟨by assumption, (by first | exact id | assumption)⟩ (by rfl), ?_⟩
                 | refine ⟨_, q_load_ext0 rfl rfl rfl rfl ⟨by assumption, (by first | exact id | assumption)⟩ (by rfl), ?_⟩)
              | refine jfield rfl rfl rfl rfl rfl rfl rfl rfl ?_
              | refine jcmp rfl rfl rfl rfl rfl rfl rfl ?_
              | refine jar rfl rfl rfl rfl rfl rfl rfl (by omega) ?_
              | refine jextract rfl rfl rfl rfl rfl rfl ?_
              | (refine gF ?_
                 first
                 | refine j_store rfl rfl rfl rfl rfl rfl rfl rfl (by (repeat (first | exact Upd.here | apply Upd.there))) (by rfl) ?_
                 | (refine j_alloc rfl rfl rfl rfl rfl ?_; intro b)
                 | (refine j_box rfl rfl rfl rfl rfl ?_; intro b)
                 | (refine j_buildSlice rfl rfl rfl rfl rfl rfl rfl rfl rfl rfl rfl rfl ?_; intro b)
                 | (refine j_append rfl rfl rfl rfl rfl rfl rfl rfl rfl rfl rfl (by (repeat (first | exact InL.here | apply InL.there))) (by (repeat (first | exact InL.here | apply InL.there))) (by rfl) (by rfl) (by omega) (fun _ => by (repeat (first | exact Upd.here | apply Upd.there))) ?_; intro v))
              | (refine j_qe rfl rfl rfl ?_
                 first
                 | refine ⟨_, q_pick_t rfl rfl rfl, ?_⟩
                 | refine ⟨_, q_pick_f rfl rfl rfl, ?_⟩
                 | refine ⟨_, q_not rfl rfl, ?_⟩
                 | refine ⟨_, q_index_nat rfl rfl rfl rfl rfl (by omega), ?_⟩
                 | refine ⟨_, q_index_slice rfl rfl rfl rfl rfl (by omega), ?_⟩
                 | refine ⟨_, q_index_arr rfl rfl rfl rfl rfl (by omega), ?_⟩
                 | refine ⟨_, q_index_arr_ext rfl rfl rfl rfl rfl (by omega), ?_⟩
                 | refine ⟨_, q_len_slice rfl rfl rfl rfl, ?_⟩
                 | refine ⟨_, q_makeFunc rfl rfl, ?_⟩
                 | refine ⟨_, q_build_struct rfl rfl rfl rfl rfl, ?_⟩
                 | refine ⟨_, q_build_arr rfl rfl rfl rfl rfl, ?_⟩
                 | refine ⟨_, q_nilCheck rfl rfl, ?_⟩
                 | refine ⟨_, q_field_ext rfl rfl rfl rfl rfl, ?_⟩
                 | refine ⟨_, q_quo rfl rfl rfl (by omega), ?_⟩
                 | refine ⟨_, q_rem rfl rfl rfl (by omega), ?_⟩
                 | refine ⟨_, q_quot rfl rfl rfl (by omega), ?_⟩
                 | refine ⟨_, q_remt rfl rfl rfl (by omega), ?_⟩
                 | refine ⟨_, q_addu8 rfl rfl rfl (by omega), ?_⟩
                 | refine ⟨_, q_quou8 rfl rfl rfl (by omega), ?_⟩
                 | refine ⟨_, q_shr1 rfl rfl rfl, ?_⟩
                 | refine ⟨_, q_shr rfl rfl rfl ⟨by omega, by decide⟩, ?_⟩
                 | refine ⟨_, q_shr rfl rfl rfl ⟨by omega, by show Int.toNat _ ≤ (8:Nat); omega⟩, ?_⟩
                 | refine ⟨_, q_and1 rfl rfl rfl (by first | assumption | omega), ?_⟩
                 | refine ⟨_, q_conv rfl rfl rfl rfl rfl rfl (by first | rfl | (exact i64_wrap (by omega) (by omega)) | (exact u8_wrap (by omega) (by omega)) | (exact u64_wrap (by omega) (by omega)) | (exact u16_wrap (by omega) (by omega))), ?_⟩)
              | refine j_guard_undef rfl rfl rfl rfl rfl ?_
              | (refine j_guard rfl rfl rfl rfl rfl ?_ ?_ <;> intro hc <;> (first | (exact absurd hc (by decide)) | ((try simp only [decide_eq_true_eq, decide_eq_false_iff_not, Bool.not_eq_true', Bool.not_eq_false', Bool.not_true, Bool.not_false, ne_eq, Decidable.not_not] at hc) <;> first | (exfalso; omega) | (exact absurd trivial hc) | skip))))
           | (refine gSC ?_
              first
              | refine sc_seq ?_
              | refine sc_region ?_
              | (refine sc_cond rfl ?_ ?_ <;> intro hc <;> (first | (exact absurd hc (by decide)) | ((try simp only [decide_eq_true_eq, decide_eq_false_iff_not, Bool.not_eq_true', Bool.not_eq_false', Bool.not_true, Bool.not_false, ne_eq, Decidable.not_not] at hc) <;> first | (exfalso; omega) | (exact absurd trivial hc) | skip)))
              | refine sc_block ?_
              | refine sc_ret ?_
              | refine sc_exit ?_
              | refine sc_skip ?_
              | refine sc_draw rfl mixed (by kernel_rfl) ?_)
           | (refine gSQ ?_
              first
              | refine sq_seq ?_
              | refine sq_blk ?_
              | refine sq_seq_ret ?_
              | refine sq_blk_ret ?_
              | refine sq_loop_ret ?_
              | refine sq_seq_exit ?_
              | refine sq_blk_hit ?_
              | refine sq_blk_miss rfl ?_
              | refine sq_loop_exit ?_
              | refine sq_ende (.inl rfl) rfl rfl ⟨_, (RVs.cons (RV.tmp rfl) (RVs.cons (RV.tmp rfl) (RVs.nil))), ?_⟩
              | refine sq_ende (.inr rfl) rfl rfl ⟨_, (RVs.cons (RV.tmp rfl) (RVs.cons (RV.tmp rfl) (RVs.nil))), ?_⟩)
           | refine j_nil ?_
           )
          all_goals exact sq_loop (k + 1, s, i, u, z) ⟨by show k + 1 ≤ n; omega, hg⟩ (by show n - (k + 1) < n - k; omega) (by repeat (first | exact FSub.nil | refine FSub.cons rfl ?_ | refine FSub.conse rfl (by congr 1; omega) ?_)) (by repeat (first | exact LSub.nil | refine LSub.cons (by repeat (first | exact Rem.here | apply Rem.there)) ?_))
      · rw [List.drop_of_length_le (by omega)] at hg
        simp only [goR] at hg
        obtain ⟨q, hq⟩ : ∃ q, ((s && !i) || (u && !z)) = q := ⟨_, rfl⟩
        have hst : statR p l hol p.id d = if q then 2 else if (hol.any fun y => decide (y = d)) && decide (p.street = 0) then 2 else 1 := by unfold statR; rw [hg]; simp only [hq]
        rw [hst]
        cases q
        · simp only [Bool.false_eq_true, if_false]
          repeat' (first
           | (refine gJ ?_
              first
              | refine jmv rfl rfl rfl rfl rfl ?_
              | (refine gload rfl rfl ?_
                 refine j_qe rfl rfl rfl ?_
                 first
                 | refine ⟨_, q_load_own rfl rfl rfl rfl (by (repeat (first | exact InL.here | apply InL.there))) (by first | rfl | assumption), ?_⟩
                 | refine ⟨_, q_loadA_own rfl rfl rfl rfl (by (repeat (first | exact InL.here | apply InL.there))) (by rfl), ?_⟩
                 | refine ⟨_, q_loadA_ext rfl rfl rfl rfl ⟨by assumption, (by first | exact id | assumption)⟩ (by rfl), ?_⟩
                 | refine ⟨_, q_load_ext rfl rfl rfl rfl ⟨by assumption, (by first | exact id | assumption)⟩ (by first | rfl | assumption), ?_⟩
                 | refine ⟨_, q_load_extb rfl rfl rfl rfl ⟨by assumption, (by first | exact id | assumption)⟩ (by rfl), ?_⟩
                 | refine ⟨_, q_loadA_extb rfl rfl rfl rfl ⟨by assumption, (by first | exact id | assumption)⟩ (by rfl), ?_⟩
                 | refine ⟨_, q_load_ext0 rfl rfl rfl rfl ⟨by assumption, (by first | exact id | assumption)⟩ (by rfl), ?_⟩)
              | refine jfield rfl rfl rfl rfl rfl rfl rfl rfl ?_
              | refine jcmp rfl rfl rfl rfl rfl rfl rfl ?_
              | refine jar rfl rfl rfl rfl rfl rfl rfl (by omega) ?_
              | refine jextract rfl rfl rfl rfl rfl rfl ?_
              | (refine gF ?_
                 first
                 | refine j_store rfl rfl rfl rfl rfl rfl rfl rfl (by (repeat (first | exact Upd.here | apply Upd.there))) (by rfl) ?_
                 | (refine j_alloc rfl rfl rfl rfl rfl ?_; intro b)
                 | (refine j_box rfl rfl rfl rfl rfl ?_; intro b)
                 | (refine j_buildSlice rfl rfl rfl rfl rfl rfl rfl rfl rfl rfl rfl rfl ?_; intro b)
                 | (refine j_append rfl rfl rfl rfl rfl rfl rfl rfl rfl rfl rfl (by (repeat (first | exact InL.here | apply InL.there))) (by (repeat (first | exact InL.here | apply InL.there))) (by rfl) (by rfl) (by omega) (fun _ => by (repeat (first | exact Upd.here | apply Upd.there))) ?_; intro v))
              | (refine j_qe rfl rfl rfl ?_
                 first
                 | refine ⟨_, q_pick_t rfl rfl rfl, ?_⟩
                 | refine ⟨_, q_pick_f rfl rfl rfl, ?_⟩
                 | refine ⟨_, q_not rfl rfl, ?_⟩
                 | refine ⟨_, q_index_nat rfl rfl rfl rfl rfl (by omega), ?_⟩
                 | refine ⟨_, q_index_slice rfl rfl rfl rfl rfl (by omega), ?_⟩
                 | refine ⟨_, q_index_arr rfl rfl rfl rfl rfl (by omega), ?_⟩
                 | refine ⟨_, q_index_arr_ext rfl rfl rfl rfl rfl (by omega), ?_⟩
                 | refine ⟨_, q_len_slice rfl rfl rfl rfl, ?_⟩
                 | refine ⟨_, q_makeFunc rfl rfl, ?_⟩
                 | refine ⟨_, q_build_struct rfl rfl rfl rfl rfl, ?_⟩
                 | refine ⟨_, q_build_arr rfl rfl rfl rfl rfl, ?_⟩
                 | refine ⟨_, q_nilCheck rfl rfl, ?_⟩
                 | refine ⟨_, q_field_ext rfl rfl rfl rfl rfl, ?_⟩
                 | refine ⟨_, q_quo rfl rfl rfl (by omega), ?_⟩
                 | refine ⟨_, q_rem rfl rfl rfl (by omega), ?_⟩
                 | refine ⟨_, q_quot rfl rfl rfl (by omega), ?_⟩
                 | refine ⟨_, q_remt rfl rfl rfl (by omega), ?_⟩
                 | refine ⟨_, q_addu8 rfl rfl rfl (by omega), ?_⟩
                 | refine ⟨_, q_quou8 rfl rfl rfl (by omega), ?_⟩
                 | refine ⟨_, q_shr1 rfl rfl rfl, ?_⟩
                 | refine ⟨_, q_shr rfl rfl rfl ⟨by omega, by decide⟩, ?_⟩
                 | refine ⟨_, q_shr rfl rfl rfl ⟨by omega, by show Int.toNat _ ≤ (8:Nat); omega⟩, ?_⟩
                 | refine ⟨_, q_and1 rfl rfl rfl (by first | assumption | omega), ?_⟩
                 | refine ⟨_, q_conv rfl rfl rfl rfl rfl rfl (by first | rfl | (exact i64_wrap (by omega) (by omega)) | (exact u8_wrap (by omega) (by omega)) | (exact u64_wrap (by omega) (by omega)) | (exact u16_wrap (by omega) (by omega))), ?_⟩)
              | refine j_guard_undef rfl rfl rfl rfl rfl ?_
              | (refine j_guard rfl rfl rfl rfl rfl ?_ ?_ <;> intro hc <;> (first | (exact absurd hc (by decide)) | ((try simp only [decide_eq_true_eq, decide_eq_false_iff_not, Bool.not_eq_true', Bool.not_eq_false', Bool.not_true, Bool.not_false, ne_eq, Decidable.not_not] at hc) <;> first | (exfalso; omega) | (exact absurd trivial hc) | skip))))
           | (refine gSC ?_
              first
              | refine sc_seq ?_
              | refine sc_region ?_
              | (refine sc_cond rfl ?_ ?_ <;> intro hc <;> (first | (exact absurd hc (by decide)) | ((try simp only [decide_eq_true_eq, decide_eq_false_iff_not, Bool.not_eq_true', Bool.not_eq_false', Bool.not_true, Bool.not_false, ne_eq, Decidable.not_not] at hc) <;> first | (exfalso; omega) | (exact absurd trivial hc) | skip)))
              | refine sc_block ?_
              | refine sc_ret ?_
              | refine sc_exit ?_
              | refine sc_skip ?_
              | refine sc_draw rfl mixed (by kernel_rfl) ?_)
           | (refine gSQ ?_
              first
              | refine sq_seq ?_
              | refine sq_blk ?_
              | refine sq_seq_ret ?_
              | refine sq_blk_ret ?_
              | refine sq_loop_ret ?_
              | refine sq_seq_exit ?_
              | refine sq_blk_hit ?_
              | refine sq_blk_miss rfl ?_
              | refine sq_loop_exit ?_
              | refine sq_ende (.inl rfl) rfl rfl ⟨_, (RVs.cons (RV.tmp rfl) (RVs.cons (RV.tmp rfl) (RVs.nil))), ?_⟩
              | refine sq_ende (.inr rfl) rfl rfl ⟨_, (RVs.cons (RV.tmp rfl) (RVs.cons (RV.tmp rfl) (RVs.nil))), ?_⟩)
           | refine j_nil ?_
           )
          all_goals first
            | (exfalso; simp_all; done)
            | skip
          all_goals
            refine sc_loop (ι := Nat) (fun j => j ≤ m ∧ ((hol.any fun y => decide (y = d)) && decide (p.street = 0)) = (((hol.drop j).any fun y => decide (y = d)) && decide (p.street = 0))) (fun j => m - j) (fun j => [(2, .slice B m bc), (4, .int .i64 d), (5, .pointer (some ⟨b, 0, none⟩)), (13, .int .i64 k0), (22, .int .i64 j)]) (fun _ => [.cells b 30 [v1, v2, v3, .slice (some adp) np pc]]) 0 ⟨Nat.zero_le _, rfl⟩ (by repeat (first | exact FSub.nil | refine FSub.cons rfl ?_ | refine FSub.conse rfl (by congr 1; omega) ?_)) (by repeat (first | exact LSub.nil | refine LSub.cons (by repeat (first | exact Rem.here | apply Rem.there)) ?_)) ?_
            rintro j ⟨hj, hjr⟩
            by_cases hjm : j < m
            · obtain ⟨y, hy⟩ : ∃ y, hol[j]? = some y := ⟨_, List.getElem?_eq_getElem (by omega)⟩
              obtain ⟨ad, rfl, hY⟩ := hH j y hy
              rw [drop_cons hy, List.any_cons] at hjr
              by_cases hyd : y = d
              · by_cases hs0 : p.street = 0
                · rw [hjr]
                  repeat' (first
                   | (refine gJ ?_
                      first
                      | refine jmv rfl rfl rfl rfl rfl ?_
                      | (refine gload rfl rfl ?_
                         refine j_qe rfl rfl rfl ?_
                         first
                         | refine ⟨_, q_load_own rfl rfl rfl rfl (by (repeat (first | exact InL.here | apply InL.there))) (by first | rfl | assumption), ?_⟩
                         | refine ⟨_, q_loadA_own rfl rfl rfl rfl (by (repeat (first | exact InL.here | apply InL.there))) (by rfl), ?_⟩
                         | refine ⟨_, q_loadA_ext rfl rfl rfl rfl ⟨by assumption, (by first | exact id | assumption)⟩ (by rfl), ?_⟩
                         | refine ⟨_, q_load_ext rfl rfl rfl rfl ⟨by assumption, (by first | exact id | assumption)⟩ (by first | rfl | assumption), ?_⟩
                         | refine ⟨_, q_load_extb rfl rfl rfl rfl ⟨by assumption, (by first | exact id | assumption)⟩ (by rfl), ?_⟩
                         | refine ⟨_, q_loadA_extb rfl rfl rfl rfl ⟨by assumption, (by first | exact id | assumption)⟩ (by rfl), ?_⟩
                         | refine ⟨_, q_load_ext0 rfl rfl rfl rfl ⟨by assumption, (by first | exact id | assumption)⟩ (by rfl), ?_⟩)
                      | refine jfield rfl rfl rfl rfl rfl rfl rfl rfl ?_
                      | refine jcmp rfl rfl rfl rfl rfl rfl rfl ?_
                      | refine jar rfl rfl rfl rfl rfl rfl rfl (by omega) ?_
                      | refine jextract rfl rfl rfl rfl rfl rfl ?_
                      | (refine gF ?_
                         first
                         | refine j_store rfl rfl rfl rfl rfl rfl rfl rfl (by (repeat (first | exact Upd.here | apply Upd.there))) (by rfl) ?_
                         | (refine j_alloc rfl rfl rfl rfl rfl ?_; intro b)
                         | (refine j_box rfl rfl rfl rfl rfl ?_; intro b)
                         | (refine j_buildSlice rfl rfl rfl rfl rfl rfl rfl rfl rfl rfl rfl rfl ?_; intro b)
                         | (refine j_append rfl rfl rfl rfl rfl rfl rfl rfl rfl rfl rfl (by (repeat (first | exact InL.here | apply InL.there))) (by (repeat (first | exact InL.here | apply InL.there))) (by rfl) (by rfl) (by omega) (fun _ => by (repeat (first | exact Upd.here | apply Upd.there))) ?_; intro v))
                      | (refine j_qe rfl rfl rfl ?_
                         first
                         | refine ⟨_, q_pick_t rfl rfl rfl, ?_⟩
                         | refine ⟨_, q_pick_f rfl rfl rfl, ?_⟩
                         | refine ⟨_, q_not rfl rfl, ?_⟩
                         | refine ⟨_, q_index_nat rfl rfl rfl rfl rfl (by omega), ?_⟩
                         | refine ⟨_, q_index_slice rfl rfl rfl rfl rfl (by omega), ?_⟩
                         | refine ⟨_, q_index_arr rfl rfl rfl rfl rfl (by omega), ?_⟩
                         | refine ⟨_, q_index_arr_ext rfl rfl rfl rfl rfl (by omega), ?_⟩
                         | refine ⟨_, q_len_slice rfl rfl rfl rfl, ?_⟩
                         | refine ⟨_, q_makeFunc rfl rfl, ?_⟩
                         | refine ⟨_, q_build_struct rfl rfl rfl rfl rfl, ?_⟩
                         | refine ⟨_, q_build_arr rfl rfl rfl rfl rfl, ?_⟩
                         | refine ⟨_, q_nilCheck rfl rfl, ?_⟩
                         | refine ⟨_, q_field_ext rfl rfl rfl rfl rfl, ?_⟩
                         | refine ⟨_, q_quo rfl rfl rfl (by omega), ?_⟩
                         | refine ⟨_, q_rem rfl rfl rfl (by omega), ?_⟩
                         | refine ⟨_, q_quot rfl rfl rfl (by omega), ?_⟩
                         | refine ⟨_, q_remt rfl rfl rfl (by omega), ?_⟩
                         | refine ⟨_, q_addu8 rfl rfl rfl (by omega), ?_⟩
                         | refine ⟨_, q_quou8 rfl rfl rfl (by omega), ?_⟩
                         | refine ⟨_, q_shr1 rfl rfl rfl, ?_⟩
                         | refine ⟨_, q_shr rfl rfl rfl ⟨by omega, by decide⟩, ?_⟩
                         | refine ⟨_, q_shr rfl rfl rfl ⟨by omega, by show Int.toNat _ ≤ (8:Nat); omega⟩, ?_⟩
                         | refine ⟨_, q_and1 rfl rfl rfl (by first | assumption | omega), ?_⟩
                         | refine ⟨_, q_conv rfl rfl rfl rfl rfl rfl (by first | rfl | (exact i64_wrap (by omega) (by omega)) | (exact u8_wrap (by omega) (by omega)) | (exact u64_wrap (by omega) (by omega)) | (exact u16_wrap (by omega) (by omega))), ?_⟩)
                      | refine j_guard_undef rfl rfl rfl rfl rfl ?_
                      | (refine j_guard rfl rfl rfl rfl rfl ?_ ?_ <;> intro hc <;> (first | (exact absurd hc (by decide)) | ((try simp only [decide_eq_true_eq, decide_eq_false_iff_not, Bool.not_eq_true', Bool.not_eq_false', Bool.not_true, Bool.not_false, ne_eq, Decidable.not_not] at hc) <;> first | (exfalso; omega) | (exact absurd trivial hc) | skip))))
                   | (refine gSC ?_
                      first
                      | refine sc_seq ?_
                      | refine sc_region ?_
                      | (refine sc_cond rfl ?_ ?_ <;> intro hc <;> (first | (exact absurd hc (by decide)) | ((try simp only [decide_eq_true_eq, decide_eq_false_iff_not, Bool.not_eq_true', Bool.not_eq_false', Bool.not_true, Bool.not_false, ne_eq, Decidable.not_not] at hc) <;> first | (exfalso; omega) | (exact absurd trivial hc) | skip)))
                      | refine sc_block ?_
                      | refine sc_ret ?_
                      | refine sc_exit ?_
                      | refine sc_skip ?_
                      | refine sc_draw rfl mixed (by kernel_rfl) ?_)
                   | (refine gSQ ?_
                      first
                      | refine sq_seq ?_
                      | refine sq_blk ?_
                      | refine sq_seq_ret ?_
                      | refine sq_blk_ret ?_
                      | refine sq_loop_ret ?_
                      | refine sq_seq_exit ?_
                      | refine sq_blk_hit ?_
                      | refine sq_blk_miss rfl ?_
                      | refine sq_loop_exit ?_
                      | refine sq_ende (.inl rfl) rfl rfl ⟨_, (RVs.cons (RV.tmp rfl) (RVs.cons (RV.tmp rfl) (RVs.nil))), ?_⟩
                      | refine sq_ende (.inr rfl) rfl rfl ⟨_, (RVs.cons (RV.tmp rfl) (RVs.cons (RV.tmp rfl) (RVs.nil))), ?_⟩)
                   | refine j_nil ?_
                   )
                  all_goals ((intro w' hS; refine ⟨?_, hS.below⟩; simp only [pack]); simp [hyd, hs0])
                · repeat' (first
                   | (refine gJ ?_
                      first
                      | refine jmv rfl rfl rfl rfl rfl ?_
                      | (refine gload rfl rfl ?_
                         refine j_qe rfl rfl rfl ?_
                         first
                         | refine ⟨_, q_load_own rfl rfl rfl rfl (by (repeat (first | exact InL.here | apply InL.there))) (by first | rfl | assumption), ?_⟩
                         | refine ⟨_, q_loadA_own rfl rfl rfl rfl (by (repeat (first | exact InL.here | apply InL.there))) (by rfl), ?_⟩
                         | refine ⟨_, q_loadA_ext rfl rfl rfl rfl ⟨by assumption, (by first | exact id | assumption)⟩ (by rfl), ?_⟩
                         | refine ⟨_, q_load_ext rfl rfl rfl rfl ⟨by assumption, (by first | exact id | assumption)⟩ (by first | rfl | assumption), ?_⟩
                         | refine ⟨_, q_load_extb rfl rfl rfl rfl ⟨by assumption, (by first | exact id | assumption)⟩ (by rfl), ?_⟩
                         | refine ⟨_, q_loadA_extb rfl rfl rfl rfl ⟨by assumption, (by first | exact id | assumption)⟩ (by rfl), ?_⟩
                         | refine ⟨_, q_load_ext0 rfl rfl rfl rfl ⟨by assumption, (by first | exact id | assumption)⟩ (by rfl), ?_⟩)
                      | refine jfield rfl rfl rfl rfl rfl rfl rfl rfl ?_
                      | refine jcmp rfl rfl rfl rfl rfl rfl rfl ?_
                      | refine jar rfl rfl rfl rfl rfl rfl rfl (by omega) ?_
                      | refine jextract rfl rfl rfl rfl rfl rfl ?_
                      | (refine gF ?_
                         first
                         | refine j_store rfl rfl rfl rfl rfl rfl rfl rfl (by (repeat (first | exact Upd.here | apply Upd.there))) (by rfl) ?_
                         | (refine j_alloc rfl rfl rfl rfl rfl ?_; intro b)
                         | (refine j_box rfl rfl rfl rfl rfl ?_; intro b)
                         | (refine j_buildSlice rfl rfl rfl rfl rfl rfl rfl rfl rfl rfl rfl rfl ?_; intro b)
                         | (refine j_append rfl rfl rfl rfl rfl rfl rfl rfl rfl rfl rfl (by (repeat (first | exact InL.here | apply InL.there))) (by (repeat (first | exact InL.here | apply InL.there))) (by rfl) (by rfl) (by omega) (fun _ => by (repeat (first | exact Upd.here | apply Upd.there))) ?_; intro v))
                      | (refine j_qe rfl rfl rfl ?_
                         first
                         | refine ⟨_, q_pick_t rfl rfl rfl, ?_⟩
                         | refine ⟨_, q_pick_f rfl rfl rfl, ?_⟩
                         | refine ⟨_, q_not rfl rfl, ?_⟩
                         | refine ⟨_, q_index_nat rfl rfl rfl rfl rfl (by omega), ?_⟩
                         | refine ⟨_, q_index_slice rfl rfl rfl rfl rfl (by omega), ?_⟩
                         | refine ⟨_, q_index_arr rfl rfl rfl rfl rfl (by omega), ?_⟩
                         | refine ⟨_, q_index_arr_ext rfl rfl rfl rfl rfl (by omega), ?_⟩
                         | refine ⟨_, q_len_slice rfl rfl rfl rfl, ?_⟩
                         | refine ⟨_, q_makeFunc rfl rfl, ?_⟩
                         | refine ⟨_, q_build_struct rfl rfl rfl rfl rfl, ?_⟩
                         | refine ⟨_, q_build_arr rfl rfl rfl rfl rfl, ?_⟩
                         | refine ⟨_, q_nilCheck rfl rfl, ?_⟩
                         | refine ⟨_, q_field_ext rfl rfl rfl rfl rfl, ?_⟩
                         | refine ⟨_, q_quo rfl rfl rfl (by omega), ?_⟩
                         | refine ⟨_, q_rem rfl rfl rfl (by omega), ?_⟩
                         | refine ⟨_, q_quot rfl rfl rfl (by omega), ?_⟩
                         | refine ⟨_, q_remt rfl rfl rfl (by omega), ?_⟩
                         | refine ⟨_, q_addu8 rfl rfl rfl (by omega), ?_⟩
                         | refine ⟨_, q_quou8 rfl rfl rfl (by omega), ?_⟩
                         | refine ⟨_, q_shr1 rfl rfl rfl, ?_⟩
                         | refine ⟨_, q_shr rfl rfl rfl ⟨by omega, by decide⟩, ?_⟩
                         | refine ⟨_, q_shr rfl rfl rfl ⟨by omega, by show Int.toNat _ ≤ (8:Nat); omega⟩, ?_⟩
                         | refine ⟨_, q_and1 rfl rfl rfl (by first | assumption | omega), ?_⟩
                         | refine ⟨_, q_conv rfl rfl rfl rfl rfl rfl (by first | rfl | (exact i64_wrap (by omega) (by omega)) | (exact u8_wrap (by omega) (by omega)) | (exact u64_wrap (by omega) (by omega)) | (exact u16_wrap (by omega) (by omega))), ?_⟩)
                      | refine j_guard_undef rfl rfl rfl rfl rfl ?_
                      | (refine j_guard rfl rfl rfl rfl rfl ?_ ?_ <;> intro hc <;> (first | (exact absurd hc (by decide)) | ((try simp only [decide_eq_true_eq, decide_eq_false_iff_not, Bool.not_eq_true', Bool.not_eq_false', Bool.not_true, Bool.not_false, ne_eq, Decidable.not_not] at hc) <;> first | (exfalso; omega) | (exact absurd trivial hc) | skip))))
                   | (refine gSC ?_
                      first
                      | refine sc_seq ?_
                      | refine sc_region ?_
                      | (refine sc_cond rfl ?_ ?_ <;> intro hc <;> (first | (exact absurd hc (by decide)) | ((try simp only [decide_eq_true_eq, decide_eq_false_iff_not, Bool.not_eq_true', Bool.not_eq_false', Bool.not_true, Bool.not_false, ne_eq, Decidable.not_not] at hc) <;> first | (exfalso; omega) | (exact absurd trivial hc) | skip)))
                      | refine sc_block ?_
                      | refine sc_ret ?_
                      | refine sc_exit ?_
                      | refine sc_skip ?_
                      | refine sc_draw rfl mixed (by kernel_rfl) ?_)
                   | (refine gSQ ?_
                      first
                      | refine sq_seq ?_
                      | refine sq_blk ?_
                      | refine sq_seq_ret ?_
                      | refine sq_blk_ret ?_
                      | refine sq_loop_ret ?_
                      | refine sq_seq_exit ?_
                      | refine sq_blk_hit ?_
                      | refine sq_blk_miss rfl ?_
                      | refine sq_loop_exit ?_
                      | refine sq_ende (.inl rfl) rfl rfl ⟨_, (RVs.cons (RV.tmp rfl) (RVs.cons (RV.tmp rfl) (RVs.nil))), ?_⟩
                      | refine sq_ende (.inr rfl) rfl rfl ⟨_, (RVs.cons (RV.tmp rfl) (RVs.cons (RV.tmp rfl) (RVs.nil))), ?_⟩)
                   | refine j_nil ?_
                   )
                  all_goals exact sq_loop (j + 1) ⟨by omega, by rw [hjr]; simp [hs0]⟩ (by omega) (by repeat (first | exact FSub.nil | refine FSub.cons rfl ?_ | refine FSub.conse rfl (by congr 1; omega) ?_)) (by repeat (first | exact LSub.nil | refine LSub.cons (by repeat (first | exact Rem.here | apply Rem.there)) ?_))
              · repeat' (first
                 | (refine gJ ?_
                    first
                    | refine jmv rfl rfl rfl rfl rfl ?_
                    | (refine gload rfl rfl ?_
                       refine j_qe rfl rfl rfl ?_
                       first
                       | refine ⟨_, q_load_own rfl rfl rfl rfl (by (repeat (first | exact InL.here | apply InL.there))) (by first | rfl | assumption), ?_⟩
                       | refine ⟨_, q_loadA_own rfl rfl rfl rfl (by (repeat (first | exact InL.here | apply InL.there))) (by rfl), ?_⟩
                       | refine ⟨_, q_loadA_ext rfl rfl rfl rfl ⟨by assumption, (by first | exact id | assumption)⟩ (by rfl), ?_⟩
                       | refine ⟨_, q_load_ext rfl rfl rfl rfl ⟨by assumption, (by first | exact id | assumption)⟩ (by first | rfl | assumption), ?_⟩
                       | refine ⟨_, q_load_extb rfl rfl rfl rfl ⟨by assumption, (by first | exact id | assumption)⟩ (by rfl), ?_⟩
                       | refine ⟨_, q_loadA_extb rfl rfl rfl rfl ⟨by assumption, (by first | exact id | assumption)⟩ (by rfl), ?_⟩
                       | refine ⟨_, q_load_ext0 rfl rfl rfl rfl ⟨by assumption, (by first | exact id | assumption)⟩ (by rfl), ?_⟩)
                    | refine jfield rfl rfl rfl rfl rfl rfl rfl rfl ?_
                    | refine jcmp rfl rfl rfl rfl rfl rfl rfl ?_
                    | refine jar rfl rfl rfl rfl rfl rfl rfl (by omega) ?_
                    | refine jextract rfl rfl rfl rfl rfl rfl ?_
                    | (refine gF ?_
                       first
                       | refine j_store rfl rfl rfl rfl rfl rfl rfl rfl (by (repeat (first | exact Upd.here | apply Upd.there))) (by rfl) ?_
                       | (refine j_alloc rfl rfl rfl rfl rfl ?_; intro b)
                       | (refine j_box rfl rfl rfl rfl rfl ?_; intro b)
                       | (refine j_buildSlice rfl rfl rfl rfl rfl rfl rfl rfl rfl rfl rfl rfl ?_; intro b)
                       | (refine j_append rfl rfl rfl rfl rfl rfl rfl rfl rfl rfl rfl (by (repeat (first | exact InL.here | apply InL.there))) (by (repeat (first | exact InL.here | apply InL.there))) (by rfl) (by rfl) (by omega) (fun _ => by (repeat (first | exact Upd.here | apply Upd.there))) ?_; intro v))
                    | (refine j_qe rfl rfl rfl ?_
                       first
                       | refine ⟨_, q_pick_t rfl rfl rfl, ?_⟩
                       | refine ⟨_, q_pick_f rfl rfl rfl, ?_⟩
                       | refine ⟨_, q_not rfl rfl, ?_⟩
                       | refine ⟨_, q_index_nat rfl rfl rfl rfl rfl (by omega), ?_⟩
                       | refine ⟨_, q_index_slice rfl rfl rfl rfl rfl (by omega), ?_⟩
                       | refine ⟨_, q_index_arr rfl rfl rfl rfl rfl (by omega), ?_⟩
                       | refine ⟨_, q_index_arr_ext rfl rfl rfl rfl rfl (by omega), ?_⟩
                       | refine ⟨_, q_len_slice rfl rfl rfl rfl, ?_⟩
                       | refine ⟨_, q_makeFunc rfl rfl, ?_⟩
                       | refine ⟨_, q_build_struct rfl rfl rfl rfl rfl, ?_⟩
                       | refine ⟨_, q_build_arr rfl rfl rfl rfl rfl, ?_⟩
                       | refine ⟨_, q_nilCheck rfl rfl, ?_⟩
                       | refine ⟨_, q_field_ext rfl rfl rfl rfl rfl, ?_⟩
                       | refine ⟨_, q_quo rfl rfl rfl (by omega), ?_⟩
                       | refine ⟨_, q_rem rfl rfl rfl (by omega), ?_⟩
                       | refine ⟨_, q_quot rfl rfl rfl (by omega), ?_⟩
                       | refine ⟨_, q_remt rfl rfl rfl (by omega), ?_⟩
                       | refine ⟨_, q_addu8 rfl rfl rfl (by omega), ?_⟩
                       | refine ⟨_, q_quou8 rfl rfl rfl (by omega), ?_⟩
                       | refine ⟨_, q_shr1 rfl rfl rfl, ?_⟩
                       | refine ⟨_, q_shr rfl rfl rfl ⟨by omega, by decide⟩, ?_⟩
                       | refine ⟨_, q_shr rfl rfl rfl ⟨by omega, by show Int.toNat _ ≤ (8:Nat); omega⟩, ?_⟩
                       | refine ⟨_, q_and1 rfl rfl rfl (by first | assumption | omega), ?_⟩
                       | refine ⟨_, q_conv rfl rfl rfl rfl rfl rfl (by first | rfl | (exact i64_wrap (by omega) (by omega)) | (exact u8_wrap (by omega) (by omega)) | (exact u64_wrap (by omega) (by omega)) | (exact u16_wrap (by omega) (by omega))), ?_⟩)
                    | refine j_guard_undef rfl rfl rfl rfl rfl ?_
                    | (refine j_guard rfl rfl rfl rfl rfl ?_ ?_ <;> intro hc <;> (first | (exact absurd hc (by decide)) | ((try simp only [decide_eq_true_eq, decide_eq_false_iff_not, Bool.not_eq_true', Bool.not_eq_false', Bool.not_true, Bool.not_false, ne_eq, Decidable.not_not] at hc) <;> first | (exfalso; omega) | (exact absurd trivial hc) | skip))))
                 | (refine gSC ?_
                    first
                    | refine sc_seq ?_
                    | refine sc_region ?_
                    | (refine sc_cond rfl ?_ ?_ <;> intro hc <;> (first | (exact absurd hc (by decide)) | ((try simp only [decide_eq_true_eq, decide_eq_false_iff_not, Bool.not_eq_true', Bool.not_eq_false', Bool.not_true, Bool.not_false, ne_eq, Decidable.not_not] at hc) <;> first | (exfalso; omega) | (exact absurd trivial hc) | skip)))
                    | refine sc_block ?_
                    | refine sc_ret ?_
                    | refine sc_exit ?_
                    | refine sc_skip ?_
                    | refine sc_draw rfl mixed (by kernel_rfl) ?_)
                 | (refine gSQ ?_
                    first
                    | refine sq_seq ?_
                    | refine sq_blk ?_
                    | refine sq_seq_ret ?_
                    | refine sq_blk_ret ?_
                    | refine sq_loop_ret ?_
                    | refine sq_seq_exit ?_
                    | refine sq_blk_hit ?_
                    | refine sq_blk_miss rfl ?_
                    | refine sq_loop_exit ?_
                    | refine sq_ende (.inl rfl) rfl rfl ⟨_, (RVs.cons (RV.tmp rfl) (RVs.cons (RV.tmp rfl) (RVs.nil))), ?_⟩
                    | refine sq_ende (.inr rfl) rfl rfl ⟨_, (RVs.cons (RV.tmp rfl) (RVs.cons (RV.tmp rfl) (RVs.nil))), ?_⟩)
                 | refine j_nil ?_
                 )
                all_goals exact sq_loop (j + 1) ⟨by omega, by rw [hjr]; simp [hyd]⟩ (by omega) (by repeat (first | exact FSub.nil | refine FSub.cons rfl ?_ | refine FSub.conse rfl (by congr 1; omega) ?_)) (by repeat (first | exact LSub.nil | refine LSub.cons (by repeat (first | exact Rem.here | apply Rem.there)) ?_))
            · rw [List.drop_of_length_le (by omega)] at hjr
              rw [hjr]
              repeat' (first
               | (refine gJ ?_
                  first
                  | refine jmv rfl rfl rfl rfl rfl ?_
                  | (refine gload rfl rfl ?_
                     refine j_qe rfl rfl rfl ?_
                     first
                     | refine ⟨_, q_load_own rfl rfl rfl rfl (by (repeat (first | exact InL.here | apply InL.there))) (by first | rfl | assumption), ?_⟩
                     | refine ⟨_, q_loadA_own rfl rfl rfl rfl (by (repeat (first | exact InL.here | apply InL.there))) (by rfl), ?_⟩
                     | refine ⟨_, q_loadA_ext rfl rfl rfl rfl ⟨by assumption, (by first | exact id | assumption)⟩ (by rfl), ?_⟩
                     | refine ⟨_, q_load_ext rfl rfl rfl rfl ⟨by assumption, (by first | exact id | assumption)⟩ (by first | rfl | assumption), ?_⟩
                     | refine ⟨_, q_load_extb rfl rfl rfl rfl ⟨by assumption, (by first | exact id | assumption)⟩ (by rfl), ?_⟩
                     | refine ⟨_, q_loadA_extb rfl rfl rfl rfl ⟨by assumption, (by first | exact id | assumption)⟩ (by rfl), ?_⟩
                     | refine ⟨_, q_load_ext0 rfl rfl rfl rfl ⟨by assumption, (by first | exact id | assumption)⟩ (by rfl), ?_⟩)
                  | refine jfield rfl rfl rfl rfl rfl rfl rfl rfl ?_
                  | refine jcmp rfl rfl rfl rfl rfl rfl rfl ?_
                  | refine jar rfl rfl rfl rfl rfl rfl rfl (by omega) ?_
                  | refine jextract rfl rfl rfl rfl rfl rfl ?_
                  | (refine gF ?_
                     first
                     | refine j_store rfl rfl rfl rfl rfl rfl rfl rfl (by (repeat (first | exact Upd.here | apply Upd.there))) (by rfl) ?_
                     | (refine j_alloc rfl rfl rfl rfl rfl ?_; intro b)
                     | (refine j_box rfl rfl rfl rfl rfl ?_; intro b)
                     | (refine j_buildSlice rfl rfl rfl rfl rfl rfl rfl rfl rfl rfl rfl rfl ?_; intro b)
                     | (refine j_append rfl rfl rfl rfl rfl rfl rfl rfl rfl rfl rfl (by (repeat (first | exact InL.here | apply InL.there))) (by (repeat (first | exact InL.here | apply InL.there))) (by rfl) (by rfl) (by omega) (fun _ => by (repeat (first | exact Upd.here | apply Upd.there))) ?_; intro v))
                  | (refine j_qe rfl rfl rfl ?_
                     first
                     | refine ⟨_, q_pick_t rfl rfl rfl, ?_⟩
                     | refine ⟨_, q_pick_f rfl rfl rfl, ?_⟩
                     | refine ⟨_, q_not rfl rfl, ?_⟩
                     | refine ⟨_, q_index_nat rfl rfl rfl rfl rfl (by omega), ?_⟩
                     | refine ⟨_, q_index_slice rfl rfl rfl rfl rfl (by omega), ?_⟩
                     | refine ⟨_, q_index_arr rfl rfl rfl rfl rfl (by omega), ?_⟩
                     | refine ⟨_, q_index_arr_ext rfl rfl rfl rfl rfl (by omega), ?_⟩
                     | refine ⟨_, q_len_slice rfl rfl rfl rfl, ?_⟩
                     | refine ⟨_, q_makeFunc rfl rfl, ?_⟩
                     | refine ⟨_, q_build_struct rfl rfl rfl rfl rfl, ?_⟩
                     | refine ⟨_, q_build_arr rfl rfl rfl rfl rfl, ?_⟩
                     | refine ⟨_, q_nilCheck rfl rfl, ?_⟩
                     | refine ⟨_, q_field_ext rfl rfl rfl rfl rfl, ?_⟩
                     | refine ⟨_, q_quo rfl rfl rfl (by omega), ?_⟩
                     | refine ⟨_, q_rem rfl rfl rfl (by omega), ?_⟩
                     | refine ⟨_, q_quot rfl rfl rfl (by omega), ?_⟩
                     | refine ⟨_, q_remt rfl rfl rfl (by omega), ?_⟩
                     | refine ⟨_, q_addu8 rfl rfl rfl (by omega), ?_⟩
                     | refine ⟨_, q_quou8 rfl rfl rfl (by omega), ?_⟩
                     | refine ⟨_, q_shr1 rfl rfl rfl, ?_⟩
                     | refine ⟨_, q_shr rfl rfl rfl ⟨by omega, by decide⟩, ?_⟩
                     | refine ⟨_, q_shr rfl rfl rfl ⟨by omega, by show Int.toNat _ ≤ (8:Nat); omega⟩, ?_⟩
                     | refine ⟨_, q_and1 rfl rfl rfl (by first | assumption | omega), ?_⟩
                     | refine ⟨_, q_conv rfl rfl rfl rfl rfl rfl (by first | rfl | (exact i64_wrap (by omega) (by omega)) | (exact u8_wrap (by omega) (by omega)) | (exact u64_wrap (by omega) (by omega)) | (exact u16_wrap (by omega) (by omega))), ?_⟩)
                  | refine j_guard_undef rfl rfl rfl rfl rfl ?_
                  | (refine j_guard rfl rfl rfl rfl rfl ?_ ?_ <;> intro hc <;> (first | (exact absurd hc (by decide)) | ((try simp only [decide_eq_true_eq, decide_eq_false_iff_not, Bool.not_eq_true', Bool.not_eq_false', Bool.not_true, Bool.not_false, ne_eq, Decidable.not_not] at hc) <;> first | (exfalso; omega) | (exact absurd trivial hc) | skip))))
               | (refine gSC ?_
                  first
                  | refine sc_seq ?_
                  | refine sc_region ?_
                  | (refine sc_cond rfl ?_ ?_ <;> intro hc <;> (first | (exact absurd hc (by decide)) | ((try simp only [decide_eq_true_eq, decide_eq_false_iff_not, Bool.not_eq_true', Bool.not_eq_false', Bool.not_true, Bool.not_false, ne_eq, Decidable.not_not] at hc) <;> first | (exfalso; omega) | (exact absurd trivial hc) | skip)))
                  | refine sc_block ?_
                  | refine sc_ret ?_
                  | refine sc_exit ?_
                  | refine sc_skip ?_
                  | refine sc_draw rfl mixed (by kernel_rfl) ?_)
               | (refine gSQ ?_
                  first
                  | refine sq_seq ?_
                  | refine sq_blk ?_
                  | refine sq_seq_ret ?_
                  | refine sq_blk_ret ?_
                  | refine sq_loop_ret ?_
                  | refine sq_seq_exit ?_
                  | refine sq_blk_hit ?_
                  | refine sq_blk_miss rfl ?_
                  | refine sq_loop_exit ?_
                  | refine sq_ende (.inl rfl) rfl rfl ⟨_, (RVs.cons (RV.tmp rfl) (RVs.cons (RV.tmp rfl) (RVs.nil))), ?_⟩
                  | refine sq_ende (.inr rfl) rfl rfl ⟨_, (RVs.cons (RV.tmp rfl) (RVs.cons (RV.tmp rfl) (RVs.nil))), ?_⟩)
               | refine j_nil ?_
               )
              all_goals ((intro w' hS; refine ⟨?_, hS.below⟩; simp only [pack]); rfl)
        · repeat' (first
           | (refine gJ ?_
              first
              | refine jmv rfl rfl rfl rfl rfl ?_
              | (refine gload rfl rfl ?_
                 refine j_qe rfl rfl rfl ?_
                 first
                 | refine ⟨_, q_load_own rfl rfl rfl rfl (by (repeat (first | exact InL.here | apply InL.there))) (by first | rfl | assumption), ?_⟩
                 | refine ⟨_, q_loadA_own rfl rfl rfl rfl (by (repeat (first | exact InL.here | apply InL.there))) (by rfl), ?_⟩
                 | refine ⟨_, q_loadA_ext rfl rfl rfl rfl ⟨by assumption, (by first | exact id | assumption)⟩ (by rfl), ?_⟩
                 | refine ⟨_, q_load_ext rfl rfl rfl rfl ⟨by assumption, (by first | exact id | assumption)⟩ (by first | rfl | assumption), ?_⟩
                 | refine ⟨_, q_load_extb rfl rfl rfl rfl ⟨by assumption, (by first | exact id | assumption)⟩ (by rfl), ?_⟩
                 | refine ⟨_, q_loadA_extb rfl rfl rfl rfl ⟨by assumption, (by first | exact id | assumption)⟩ (by rfl), ?_⟩
                 | refine ⟨_, q_load_ext0 rfl rfl rfl rfl ⟨by assumption, (by first | exact id | assumption)⟩ (by rfl), ?_⟩)
              | refine jfield rfl rfl rfl rfl rfl rfl rfl rfl ?_
              | refine jcmp rfl rfl rfl rfl rfl rfl rfl ?_
              | refine jar rfl rfl rfl rfl rfl rfl rfl (by omega) ?_
              | refine jextract rfl rfl rfl rfl rfl rfl ?_
              | (refine gF ?_
                 first
                 | refine j_store rfl rfl rfl rfl rfl rfl rfl rfl (by (repeat (first | exact Upd.here | apply Upd.there))) (by rfl) ?_
                 | (refine j_alloc rfl rfl rfl rfl rfl ?_; intro b)
                 | (refine j_box rfl rfl rfl rfl rfl ?_; intro b)
                 | (refine j_buildSlice rfl rfl rfl rfl rfl rfl rfl rfl rfl rfl rfl rfl ?_; intro b)
                 | (refine j_append rfl rfl rfl rfl rfl rfl rfl rfl rfl rfl rfl (by (repeat (first | exact InL.here | apply InL.there))) (by (repeat (first | exact InL.here | apply InL.there))) (by rfl) (by rfl) (by omega) (fun _ => by (repeat (first | exact Upd.here | apply Upd.there))) ?_; intro v))
              | (refine j_qe rfl rfl rfl ?_
                 first
                 | refine ⟨_, q_pick_t rfl rfl rfl, ?_⟩
                 | refine ⟨_, q_pick_f rfl rfl rfl, ?_⟩
                 | refine ⟨_, q_not rfl rfl, ?_⟩
                 | refine ⟨_, q_index_nat rfl rfl rfl rfl rfl (by omega), ?_⟩
                 | refine ⟨_, q_index_slice rfl rfl rfl rfl rfl (by omega), ?_⟩
                 | refine ⟨_, q_index_arr rfl rfl rfl rfl rfl (by omega), ?_⟩
                 | refine ⟨_, q_index_arr_ext rfl rfl rfl rfl rfl (by omega), ?_⟩
                 | refine ⟨_, q_len_slice rfl rfl rfl rfl, ?_⟩
                 | refine ⟨_, q_makeFunc rfl rfl, ?_⟩
                 | refine ⟨_, q_build_struct rfl rfl rfl rfl rfl, ?_⟩
                 | refine ⟨_, q_build_arr rfl rfl rfl rfl rfl, ?_⟩
                 | refine ⟨_, q_nilCheck rfl rfl, ?_⟩
                 | refine ⟨_, q_field_ext rfl rfl rfl rfl rfl, ?_⟩
                 | refine ⟨_, q_quo rfl rfl rfl (by omega), ?_⟩
                 | refine ⟨_, q_rem rfl rfl rfl (by omega), ?_⟩
                 | refine ⟨_, q_quot rfl rfl rfl (by omega), ?_⟩
                 | refine ⟨_, q_remt rfl rfl rfl (by omega), ?_⟩
                 | refine ⟨_, q_addu8 rfl rfl rfl (by omega), ?_⟩
                 | refine ⟨_, q_quou8 rfl rfl rfl (by omega), ?_⟩
                 | refine ⟨_, q_shr1 rfl rfl rfl, ?_⟩
                 | refine ⟨_, q_shr rfl rfl rfl ⟨by omega, by decide⟩, ?_⟩
                 | refine ⟨_, q_shr rfl rfl rfl ⟨by omega, by show Int.toNat _ ≤ (8:Nat); omega⟩, ?_⟩
                 | refine ⟨_, q_and1 rfl rfl rfl (by first | assumption | omega), ?_⟩
                 | refine ⟨_, q_conv rfl rfl rfl rfl rfl rfl (by first | rfl | (exact i64_wrap (by omega) (by omega)) | (exact u8_wrap (by omega) (by omega)) | (exact u64_wrap (by omega) (by omega)) | (exact u16_wrap (by omega) (by omega))), ?_⟩)
              | refine j_guard_undef rfl rfl rfl rfl rfl ?_
              | (refine j_guard rfl rfl rfl rfl rfl ?_ ?_ <;> intro hc <;> (first | (exact absurd hc (by decide)) | ((try simp only [decide_eq_true_eq, decide_eq_false_iff_not, Bool.not_eq_true', Bool.not_eq_false', Bool.not_true, Bool.not_false, ne_eq, Decidable.not_not] at hc) <;> first | (exfalso; omega) | (exact absurd trivial hc) | skip))))
           | (refine gSC ?_
              first
              | refine sc_seq ?_
              | refine sc_region ?_
              | (refine sc_cond rfl ?_ ?_ <;> intro hc <;> (first | (exact absurd hc (by decide)) | ((try simp only [decide_eq_true_eq, decide_eq_false_iff_not, Bool.not_eq_true', Bool.not_eq_false', Bool.not_true, Bool.not_false, ne_eq, Decidable.not_not] at hc) <;> first | (exfalso; omega) | (exact absurd trivial hc) | skip)))
              | refine sc_block ?_
              | refine sc_ret ?_
              | refine sc_exit ?_
              | refine sc_skip ?_
              | refine sc_draw rfl mixed (by kernel_rfl) ?_)
           | (refine gSQ ?_
              first
              | refine sq_seq ?_
              | refine sq_blk ?_
              | refine sq_seq_ret ?_
              | refine sq_blk_ret ?_
              | refine sq_loop_ret ?_
              | refine sq_seq_exit ?_
              | refine sq_blk_hit ?_
              | refine sq_blk_miss rfl ?_
              | refine sq_loop_exit ?_
              | refine sq_ende (.inl rfl) rfl rfl ⟨_, (RVs.cons (RV.tmp rfl) (RVs.cons (RV.tmp rfl) (RVs.nil))), ?_⟩
              | refine sq_ende (.inr rfl) rfl rfl ⟨_, (RVs.cons (RV.tmp rfl) (RVs.cons (RV.tmp rfl) (RVs.nil))), ?_⟩)
           | refine j_nil ?_
           )
          all_goals first
            | (exfalso; simp_all; done)
            | ((intro w' hS; refine ⟨?_, hS.below⟩; simp only [pack]); done)
            | ((intro w' hS; refine ⟨?_, hS.below⟩; simp only [pack]); rfl)
  · simp only [statF, hck, ne_eq, not_false_eq_true, if_true]
    refine eng_start (n := 124) (args := [refV v1 v2 v3 P pts.length pc, .slice A l.length c, .slice B hol.length bc, .int .i64 t, .int .i64 d]) tab tab_ok fns fns_ok [.tmp 10, .tmp 11] Try.func57 rfl rfl rfl rfl ?_
    repeat' (first
     | (refine gJ ?_
        first
        | refine jmv rfl rfl rfl rfl rfl ?_
        | (refine gload rfl rfl ?_
           refine j_qe rfl rfl rfl ?_
           first
           | refine ⟨_, q_load_own rfl rfl rfl rfl (by (repeat (first | exact InL.here | apply InL.there))) (by first | rfl | assumption), ?_⟩
           | refine ⟨_, q_loadA_own rfl rfl rfl rfl (by (repeat (first | exact InL.here | apply InL.there))) (by rfl), ?_⟩
           | refine ⟨_, q_loadA_ext rfl rfl rfl rfl ⟨by assumption, (by first | exact id | assumption)⟩ (by rfl), ?_⟩
           | refine ⟨_, q_load_ext rfl rfl rfl rfl ⟨by assumption, (by first | exact id | assumption)⟩ (by first | rfl | assumption), ?_⟩
           | refine ⟨_, q_load_extb rfl rfl rfl rfl ⟨by assumption, (by first | exact id | assumption)⟩ (by rfl), ?_⟩
           | refine ⟨_, q_loadA_extb rfl rfl rfl rfl ⟨by assumption, (by first | exact id | assumption)⟩ (by rfl), ?_⟩
           | refine ⟨_, q_load_ext0 rfl rfl rfl rfl ⟨by assumption, (by first | exact id | assumption)⟩ (by rfl), ?_⟩)
        | refine jfield rfl rfl rfl rfl rfl rfl rfl rfl ?_
        | refine jcmp rfl rfl rfl rfl rfl rfl rfl ?_
        | refine jar rfl rfl rfl rfl rfl rfl rfl (by omega) ?_
        | refine jextract rfl rfl rfl rfl rfl rfl ?_
        | (refine gcall rfl rfl ?_
           first
           | (refine j_qc (f := 88) rfl rfl rfl rfl rfl rfl rfl ?_; refine ⟨_, (fun w' hs => hwr w' (hH.st hs)), ?_⟩))
        | (refine gF ?_
           first
           | refine j_store rfl rfl rfl rfl rfl rfl rfl rfl (by (repeat (first | exact Upd.here | apply Upd.there))) (by rfl) ?_
           | (refine j_alloc rfl rfl rfl rfl rfl ?_; intro b)
           | (refine j_box rfl rfl rfl rfl rfl ?_; intro b)
           | (refine j_buildSlice rfl rfl rfl rfl rfl rfl rfl rfl rfl rfl rfl rfl ?_; intro b)
           | (refine j_append rfl rfl rfl rfl rfl rfl rfl rfl rfl rfl rfl (by (repeat (first | exact InL.here | apply InL.there))) (by (repeat (first | exact InL.here | apply InL.there))) (by rfl) (by rfl) (by omega) (fun _ => by (repeat (first | exact Upd.here | apply Upd.there))) ?_; intro v))
        | (refine j_qe rfl rfl rfl ?_
           first
           | refine ⟨_, q_pick_t rfl rfl rfl, ?_⟩
           | refine ⟨_, q_pick_f rfl rfl rfl, ?_⟩
           | refine ⟨_, q_not rfl rfl, ?_⟩
           | refine ⟨_, q_index_nat rfl rfl rfl rfl rfl (by omega), ?_⟩
           | refine ⟨_, q_index_slice rfl rfl rfl rfl rfl (by omega), ?_⟩
           | refine ⟨_, q_index_arr rfl rfl rfl rfl rfl (by omega), ?_⟩
           | refine ⟨_, q_index_arr_ext rfl rfl rfl rfl rfl (by omega), ?_⟩
           | refine ⟨_, q_len_slice rfl rfl rfl rfl, ?_⟩
           | refine ⟨_, q_makeFunc rfl rfl, ?_⟩
           | refine ⟨_, q_build_struct rfl rfl rfl rfl rfl, ?_⟩
           | refine ⟨_, q_build_arr rfl rfl rfl rfl rfl, ?_⟩
           | refine ⟨_, q_nilCheck rfl rfl, ?_⟩
           | refine ⟨_, q_field_ext rfl rfl rfl rfl rfl, ?_⟩
           | refine ⟨_, q_quo rfl rfl rfl (by omega), ?_⟩
           | refine ⟨_, q_rem rfl rfl rfl (by omega), ?_⟩
           | refine ⟨_, q_quot rfl rfl rfl (by omega), ?_⟩
           | refine ⟨_, q_remt rfl rfl rfl (by omega), ?_⟩
           | refine ⟨_, q_addu8 rfl rfl rfl (by omega), ?_⟩
           | refine ⟨_, q_quou8 rfl rfl rfl (by omega), ?_⟩
           | refine ⟨_, q_shr1 rfl rfl rfl, ?_⟩
           | refine ⟨_, q_shr rfl rfl rfl ⟨by omega, by decide⟩, ?_⟩
           | refine ⟨_, q_shr rfl rfl rfl ⟨by omega, by show Int.toNat _ ≤ (8:Nat); omega⟩, ?_⟩
           | refine ⟨_, q_and1 rfl rfl rfl (by first | assumption | omega), ?_⟩
           | refine ⟨_, q_conv rfl rfl rfl rfl rfl rfl (by first | rfl | (exact i64_wrap (by omega) (by omega)) | (exact u8_wrap (by omega) (by omega)) | (exact u64_wrap (by omega) (by omega)) | (exact u16_wrap (by omega) (by omega))), ?_⟩)
        | refine j_guard_undef rfl rfl rfl rfl rfl ?_
        | (refine j_guard rfl rfl rfl rfl rfl ?_ ?_ <;> intro hc <;> (first | (exact absurd hc (by decide)) | ((try simp only [decide_eq_true_eq, decide_eq_false_iff_not, Bool.not_eq_true', Bool.not_eq_false', Bool.not_true, Bool.not_false, ne_eq, Decidable.not_not] at hc) <;> first | (exfalso; omega) | (exact absurd trivial hc) | skip))))
     | (refine gSC ?_
        first
        | refine sc_seq ?_
        | refine sc_region ?_
        | (refine sc_cond rfl ?_ ?_ <;> intro hc <;> (first | (exact absurd hc (by decide)) | ((try simp only [decide_eq_true_eq, decide_eq_false_iff_not, Bool.not_eq_true', Bool.not_eq_false', Bool.not_true, Bool.not_false, ne_eq, Decidable.not_not] at hc) <;> first | (exfalso; omega) | (exact absurd trivial hc) | skip)))
        | refine sc_block ?_
        | refine sc_ret ?_
        | refine sc_exit ?_
        | refine sc_skip ?_
        | refine sc_draw rfl mixed (by kernel_rfl) ?_)
     | (refine gSQ ?_
        first
        | refine sq_seq ?_
        | refine sq_blk ?_
        | refine sq_seq_ret ?_
        | refine sq_blk_ret ?_
        | refine sq_loop_ret ?_
        | refine sq_seq_exit ?_
        | refine sq_blk_hit ?_
        | refine sq_blk_miss rfl ?_
        | refine sq_loop_exit ?_
        | refine sq_ende (.inl rfl) rfl rfl ⟨_, (RVs.cons (RV.tmp rfl) (RVs.cons (RV.tmp rfl) (RVs.nil))), ?_⟩
        | refine sq_ende (.inr rfl) rfl rfl ⟨_, (RVs.cons (RV.tmp rfl) (RVs.cons (RV.tmp rfl) (RVs.nil))), ?_⟩)
     | refine j_nil ?_
     )
    (intro w' hS; refine ⟨?_, hS.below⟩; simp only [pack])
end Go.Proofs.Ytbejfbekamikpaa
