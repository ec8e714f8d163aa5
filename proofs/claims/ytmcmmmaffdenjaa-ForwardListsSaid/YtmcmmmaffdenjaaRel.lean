/-
  forward: Release.
-/
import Derived.Test.YtmcmmmaffdenjaaCha
import Derived.Test.YtmcmmmaffdenjaaEngCoreB
namespace Go.Proofs.Ytmcmmmaffdenjaa
open Go.RowKit Eng
set_option linter.unusedVariables false
set_option linter.unusedSimpArgs false
set_option maxHeartbeats 8000000
attribute [local irreducible] SC SQ J Qt Calls Iterates
def firstFree (l : List Od) (p : Int) : List Int → Int × Int
  | [] => (0, 6)
  | x :: xs => if (wayF l p x).kd = 2 then firstFree l p xs else (x, 0)
def releaseF (l : List Od) (p d : Int) : Int × Int := if rightB l = true ∧ idI p ∧ dayI d then firstFree l p (sortI (keysOf (chgL l d))) else (0, 2)
theorem release_bad {l : List Od} {p d : Int} (h : ¬ (rightB l = true ∧ idI p ∧ dayI d)) : releaseF l p d = (0, 2) := by unfold releaseF; rw [if_neg h]
theorem release_ok {l : List Od} {p d : Int} (h : rightB l = true ∧ idI p ∧ dayI d) : releaseF l p d = firstFree l p (sortI (keysOf (chgL l d))) := by unfold releaseF; rw [if_pos h]
theorem chg_day {l : List Od} (h : okL l) {d : Int} (hd : dayI d) : ∀ x ∈ sortI (keysOf (chgL l d)), dayI x ∧ d ≤ x := fun x hx => by
  rw [mem_sortI, mem_keysOf] at hx
  unfold chgL at hx
  rcases List.mem_cons.1 hx with rfl | hx
  · exact ⟨hd, Int.le_refl _⟩
  · obtain ⟨o, ho, hx⟩ := List.mem_flatMap.1 hx
    have hk := (okL_ok h o ho).1
    unfold chg at hx
    unfold dayI idI at *
    rcases List.mem_append.1 hx with hx | hx
    · split at hx
      · rw [List.mem_singleton] at hx; subst hx; omega
      · cases hx
    · split at hx
      · rw [List.mem_singleton] at hx; subst hx; omega
      · cases hx
theorem Release_c (A : Option Addr) (c : Nat) (l : List Od) (p d : Int) (w : World) (hl : l.length ≤ 9223372036854775807) (h : RS w 6 odC A l) :
    Calls Try.prog 40 #[.slice A l.length c, .int .i64 p, .int .i64 d] w fun e w' => e = .returned (.tuple #[.int .i64 (releaseF l p d).1, .int .i64 (releaseF l p d).2]) ∧ Below w.heap.size w w' := by
  have hR : ∀ w', RS w' 6 odC A l → Calls Try.prog 25 #[.slice A l.length c] w' fun e w'' => e = .returned (.bool (rightB l)) ∧ Below w'.heap.size w' w'' := fun w' h' => Right_c A c l w' hl h'
  have hle : rightB l = true → l.length ≤ 500 := fun h => ((rightB_iff l).1 h).1
  have hB : ∀ w', rightB l = true → RS w' 6 odC A l → Calls Try.prog 71 #[.slice A l.length c] w' _ := fun w' h1 h' => byPoint_c A c l w' (by have := hle h1; omega) h'
  have hC : ∀ w', rightB l = true → dayI d → RS w' 6 odC A l → Calls Try.prog 73 #[.slice A l.length c, .int .i64 d] w' _ := fun w' h1 h2 h' => changes_c A c l d w' (by have := hle h1; omega) h2.1 h'
  have hcl : (chgL l d).length ≤ 2 * l.length + 1 := chgL_len l d
  have hkl : (sortI (keysOf (chgL l d))).length ≤ (chgL l d).length := by rw [sort_len]; have := len_metM (chgL l d); unfold keysOf; rw [List.length_map]; exact this
  have hdays : rightB l = true → dayI d → ∀ x ∈ sortI (keysOf (chgL l d)), dayI x := fun h1 h2 x hx => (chg_day ((rightB_iff l).1 h1).2 h2 x hx).1
  have hok : rightB l = true ∧ idI p ∧ dayI d → releaseF l p d = firstFree l p (sortI (keysOf (chgL l d))) := fun h => release_ok h
  generalize hn : l.length = n at *
  generalize hK : sortI (keysOf (chgL l d)) = D at *
  refine eng_start (n := 43) (args := [.slice A n c, .int .i64 p, .int .i64 d]) tab tab_ok fns fns_ok [.tmp 6, .tmp 7] Try.func40 rfl rfl rfl rfl ?_
  repeat' (first
   | (refine gJ ?_
      first
      | refine jmv rfl rfl rfl rfl rfl ?_
      | (refine gload rfl rfl ?_
         refine j_qe rfl rfl rfl ?_
         first
         | refine ⟨_, q_load_own rfl rfl rfl rfl (by (repeat (first | exact InL.here | apply InL.there))) (by first | rfl | assumption), ?_⟩
         | refine ⟨_, q_loadA_own rfl rfl rfl rfl (by (repeat (first | exact InL.here | apply InL.there))) (by rfl), ?_⟩
         | refine ⟨_, q_loadA_ext rfl rfl rfl rfl ⟨by assumption, (by first | exact id | assumption)⟩ (by rfl), ?_⟩
         | refine ⟨_, q_load_ext rfl rfl rfl rfl ⟨by assumption, (by first | exact id | assumption)⟩ (by first | rfl | assumption), ?_⟩
         | refine ⟨_, q_load_extb rfl rfl rfl rfl ⟨by assumption, (by first | exact id | assumption)⟩ (by rfl), ?_⟩
         | refine ⟨_, q_loadA_extb rfl rfl rfl rfl ⟨by assumption, (by first | exact id | assumption)⟩ (by rfl), ?_⟩
         | refine ⟨_, q_load_ext0 rfl rfl rfl rfl ⟨by assumption, (by first | exact id | assumption)⟩ (by rfl), ?_⟩)
      | refine jcmp rfl rfl rfl rfl rfl rfl rfl ?_
      | refine jar rfl rfl rfl rfl rfl rfl rfl (by omega) ?_
      | (refine gcall rfl rfl ?_
         first
         | (refine j_qc (f := 25) rfl rfl rfl rfl rfl rfl rfl ?_; refine ⟨_, (fun w' hs => hR w' (h.st hs)), ?_⟩)
         | (refine j_qc (f := 68) rfl rfl rfl rfl rfl rfl rfl ?_; refine ⟨_, (fun w' _ => isID2_c _ w'), ?_⟩)
         | (refine j_qc (f := 69) rfl rfl rfl rfl rfl rfl rfl ?_; refine ⟨_, (fun w' _ => isDay2_c _ w'), ?_⟩))
      | (refine gcall rfl rfl ?_; refine gF ?_; refine j_callN (f := 71) rfl rfl rfl rfl rfl rfl rfl bpV (fun x => bpI l x.2) bpL (fun w' hs => hB w' (by assumption) (h.st hs)) bpL_plain ?_; rintro ⟨bm, M⟩ hM; refine j_perm bp_perm0 ?_)
      | (refine gcall rfl rfl ?_; refine gF ?_; refine j_callN (f := 73) rfl rfl rfl rfl rfl rfl rfl (fun v : Value => v) (fun _ => True) (fun v => [.own v 3 1 D.length (D.flatMap intC)]) (fun w' hs => hC w' (by assumption) (by assumption) (h.st hs)) (fun _ => trivial) ?_; rintro v9 _; refine j_owns (v := v9) (by (repeat (first | exact InL.here | apply InL.there))) ?_; rintro A9 c9 rfl hs9)
      | (refine j_qe rfl rfl rfl ?_
         first
         | refine ⟨_, q_pick_t rfl rfl rfl, ?_⟩
         | refine ⟨_, q_pick_f rfl rfl rfl, ?_⟩
         | refine ⟨_, q_not rfl rfl, ?_⟩
         | refine ⟨_, q_index_nat rfl rfl rfl rfl rfl (by omega), ?_⟩
         | refine ⟨_, q_index_slice rfl rfl rfl rfl rfl (by omega), ?_⟩
         | refine ⟨_, q_index_arr rfl rfl rfl rfl rfl (by omega), ?_⟩
         | refine ⟨_, q_index_arr_ext rfl rfl rfl rfl rfl (by omega), ?_⟩
         | refine ⟨_, q_len_slice rfl rfl rfl rfl, ?_⟩
         | refine ⟨_, q_addu8 rfl rfl rfl (by omega), ?_⟩)
      | refine j_guard_undef rfl rfl rfl rfl rfl ?_
      | (refine j_guard rfl rfl rfl rfl rfl ?_ ?_ <;> intro hc <;> (first | (exact absurd hc (by decide)) | ((try simp only [decide_eq_true_eq, decide_eq_false_iff_not, Bool.not_eq_true', Bool.not_eq_false', Bool.not_true, Bool.not_false, ne_eq, Decidable.not_not] at hc) <;> first | (exfalso; omega) | (exact absurd trivial hc) | skip))))
   | (refine gSC ?_
      first
      | refine sc_seq ?_
      | refine sc_region ?_
      | (refine sc_cond rfl ?_ ?_ <;> intro hc <;> (first | (exact absurd hc (by decide)) | ((try simp only [decide_eq_true_eq, decide_eq_false_iff_not, Bool.not_eq_true', Bool.not_eq_false', Bool.not_true, Bool.not_false, ne_eq, Decidable.not_not] at hc) <;> first | (exfalso; omega) | (exact absurd trivial hc) | skip)))
      | refine sc_block ?_
      | refine sc_ret ?_
      | refine sc_exit ?_
      | refine sc_skip ?_)
   | (refine gSQ ?_
      first
      | refine sq_seq ?_
      | refine sq_blk ?_
      | refine sq_seq_ret ?_
      | refine sq_blk_ret ?_
      | refine sq_loop_ret ?_
      | refine sq_seq_exit ?_
      | refine sq_blk_hit ?_
      | refine sq_blk_miss rfl ?_
      | refine sq_loop_exit ?_
      | refine sq_ende (.inl rfl) rfl rfl ⟨_, (RVs.cons (RV.tmp rfl) (RVs.cons (RV.tmp rfl) (RVs.nil))), ?_⟩
      | refine sq_ende (.inr rfl) rfl rfl ⟨_, (RVs.cons (RV.tmp rfl) (RVs.cons (RV.tmp rfl) (RVs.nil))), ?_⟩)
   | refine j_nil ?_
   )
  · (intro w' hS; refine ⟨?_, hS.below⟩; simp only [pack])
    rw [release_bad (by simp [*])]
  · rw [hok ⟨by assumption, by assumption, by assumption⟩]
    have hdd := hdays (by assumption) (by assumption)
    have hnn := hle (by assumption)
    refine sc_loop (ι := Nat) (fun i => i ≤ D.length ∧ firstFree l p D = firstFree l p (D.drop i)) (fun i => D.length - i) (fun i => [(1, .int .i64 p), (8, .map (some bm)), (28, .slice A9 D.length c9), (29, .int .i64 D.length), (30, .int .i64 i)]) (fun _ => .own (.slice A9 D.length c9) 3 1 D.length (D.flatMap intC) :: haMap bm .i64 (valsG rowV M) :: rowsH M) 0 ⟨by omega, rfl⟩ (by repeat (first | exact FSub.nil | refine FSub.cons rfl ?_ | refine FSub.conse rfl (by congr 1; omega) ?_)) (by repeat (first | exact LSub.refl | refine LSub.cons (by repeat (first | exact Rem.here | apply Rem.there)) ?_ | apply LSub.skip)) ?_
    rintro i ⟨hi, hr⟩
    by_cases hlt : i < D.length
    · obtain ⟨x, hx⟩ : ∃ x, D[i]? = some x := ⟨_, List.getElem?_eq_getElem hlt⟩
      have hxd := hdd x (List.mem_of_getElem? hx)
      rw [drop_cons hx, firstFree] at hr
      obtain ⟨ad, rfl⟩ : ∃ ad, A9 = some ad := by
        cases A9 with
        | none => have := (hs9.nil rfl).1; omega
        | some ad => exact ⟨ad, rfl⟩
      repeat' (first
       | (refine gJ ?_
          first
          | refine jmv rfl rfl rfl rfl rfl ?_
          | refine jcmp rfl rfl rfl rfl rfl rfl rfl ?_
          | refine jar rfl rfl rfl rfl rfl rfl rfl (by omega) ?_
          | (refine j_qe rfl rfl rfl ?_; refine ⟨_, q_row1 (f := intC) rfl rfl rfl rfl (by (repeat (first | exact InL.here | apply InL.there))) (fun _ => rfl) hx rfl, ?_⟩)
          | (refine gcall rfl rfl ?_; refine gF ?_; refine j_callN (f := 70) rfl rfl rfl rfl rfl rfl rfl chV (fun y => ChartP (fun k => fo l k x) y.2) chL (fun w' hs => on_f l x M bm hs (by (repeat (first | exact InL.here | apply InL.there))) (fun y hy => List.mem_cons_of_mem _ (List.mem_cons_of_mem _ hy)) (by assumption) hxd hM) chL_plain ?_; rintro ⟨bn, N⟩ hN)
          | (refine gcall rfl rfl ?_; refine gF ?_; refine j_callN (f := 72) rfl rfl rfl rfl rfl rfl rfl (fun y => wyV y (wayF l p x)) (fun _ => True) (wyL (wayF l p x)) (fun w' hs => path_f l p x N bn hs (by (repeat (first | exact InL.here | apply InL.there))) (by assumption) hN) (fun _ => trivial) ?_; rintro ⟨v1, v2⟩ _)
          | (refine j_qe rfl rfl rfl ?_; refine ⟨_, q_fieldv rfl Try.underlying62 rfl rfl rfl rfl rfl, ?_⟩)
          | (refine j_qe rfl rfl rfl ?_
             first
             | refine ⟨_, q_pick_t rfl rfl rfl, ?_⟩
             | refine ⟨_, q_pick_f rfl rfl rfl, ?_⟩
             | refine ⟨_, q_not rfl rfl, ?_⟩
             | refine ⟨_, q_index_nat rfl rfl rfl rfl rfl (by omega), ?_⟩
             | refine ⟨_, q_index_slice rfl rfl rfl rfl rfl (by omega), ?_⟩
             | refine ⟨_, q_index_arr rfl rfl rfl rfl rfl (by omega), ?_⟩
             | refine ⟨_, q_index_arr_ext rfl rfl rfl rfl rfl (by omega), ?_⟩
             | refine ⟨_, q_len_slice rfl rfl rfl rfl, ?_⟩
             | refine ⟨_, q_addu8 rfl rfl rfl (by omega), ?_⟩)
          | refine j_guard_undef rfl rfl rfl rfl rfl ?_
          | (refine j_guard rfl rfl rfl rfl rfl ?_ ?_ <;> intro hc <;> (first | (exact absurd hc (by decide)) | ((try simp only [decide_eq_true_eq, decide_eq_false_iff_not, Bool.not_eq_true', Bool.not_eq_false', Bool.not_true, Bool.not_false, ne_eq, Decidable.not_not] at hc) <;> first | (exfalso; omega) | (exact absurd trivial hc) | skip))))
       | (refine gSC ?_
          first
          | refine sc_seq ?_
          | refine sc_region ?_
          | (refine sc_cond rfl ?_ ?_ <;> intro hc <;> (first | (exact absurd hc (by decide)) | ((try simp only [decide_eq_true_eq, decide_eq_false_iff_not, Bool.not_eq_true', Bool.not_eq_false', Bool.not_true, Bool.not_false, ne_eq, Decidable.not_not] at hc) <;> first | (exfalso; omega) | (exact absurd trivial hc) | skip)))
          | refine sc_block ?_
          | refine sc_ret ?_
          | refine sc_exit ?_
          | refine sc_skip ?_)
       | (refine gSQ ?_
          first
          | refine sq_seq ?_
          | refine sq_blk ?_
          | refine sq_seq_ret ?_
          | refine sq_blk_ret ?_
          | refine sq_loop_ret ?_
          | refine sq_seq_exit ?_
          | refine sq_blk_hit ?_
          | refine sq_blk_miss rfl ?_
          | refine sq_loop_exit ?_
          | refine sq_ende (.inl rfl) rfl rfl ⟨_, (RVs.cons (RV.tmp rfl) (RVs.cons (RV.tmp rfl) (RVs.nil))), ?_⟩
          | refine sq_ende (.inr rfl) rfl rfl ⟨_, (RVs.cons (RV.tmp rfl) (RVs.cons (RV.tmp rfl) (RVs.nil))), ?_⟩)
       | refine j_nil ?_
       )
      · (intro w' hS; refine ⟨?_, hS.below⟩; simp only [pack])
        rw [hr, if_neg (by assumption)]
      · exact sq_loop (i + 1) ⟨by show i + 1 ≤ D.length; omega, by rw [hr, if_pos (by omega)]⟩ (by show D.length - (i + 1) < D.length - i; omega) (by repeat (first | exact FSub.nil | refine FSub.cons rfl ?_ | refine FSub.conse rfl (by congr 1; omega) ?_)) (by repeat (first | exact LSub.refl | refine LSub.cons (by repeat (first | exact Rem.here | apply Rem.there)) ?_ | apply LSub.skip))
    · rw [List.drop_of_length_le (by omega)] at hr
      repeat' (first
       | (refine gJ ?_
          first
          | refine jmv rfl rfl rfl rfl rfl ?_
          | (refine gload rfl rfl ?_
             refine j_qe rfl rfl rfl ?_
             first
             | refine ⟨_, q_load_own rfl rfl rfl rfl (by (repeat (first | exact InL.here | apply InL.there))) (by first | rfl | assumption), ?_⟩
             | refine ⟨_, q_loadA_own rfl rfl rfl rfl (by (repeat (first | exact InL.here | apply InL.there))) (by rfl), ?_⟩
             | refine ⟨_, q_loadA_ext rfl rfl rfl rfl ⟨by assumption, (by first | exact id | assumption)⟩ (by rfl), ?_⟩
             | refine ⟨_, q_load_ext rfl rfl rfl rfl ⟨by assumption, (by first | exact id | assumption)⟩ (by first | rfl | assumption), ?_⟩
             | refine ⟨_, q_load_extb rfl rfl rfl rfl ⟨by assumption, (by first | exact id | assumption)⟩ (by rfl), ?_⟩
             | refine ⟨_, q_loadA_extb rfl rfl rfl rfl ⟨by assumption, (by first | exact id | assumption)⟩ (by rfl), ?_⟩
             | refine ⟨_, q_load_ext0 rfl rfl rfl rfl ⟨by assumption, (by first | exact id | assumption)⟩ (by rfl), ?_⟩)
          | refine jcmp rfl rfl rfl rfl rfl rfl rfl ?_
          | refine jar rfl rfl rfl rfl rfl rfl rfl (by omega) ?_
          | (refine j_qe rfl rfl rfl ?_
             first
             | refine ⟨_, q_pick_t rfl rfl rfl, ?_⟩
             | refine ⟨_, q_pick_f rfl rfl rfl, ?_⟩
             | refine ⟨_, q_not rfl rfl, ?_⟩
             | refine ⟨_, q_index_nat rfl rfl rfl rfl rfl (by omega), ?_⟩
             | refine ⟨_, q_index_slice rfl rfl rfl rfl rfl (by omega), ?_⟩
             | refine ⟨_, q_index_arr rfl rfl rfl rfl rfl (by omega), ?_⟩
             | refine ⟨_, q_index_arr_ext rfl rfl rfl rfl rfl (by omega), ?_⟩
             | refine ⟨_, q_len_slice rfl rfl rfl rfl, ?_⟩
             | refine ⟨_, q_addu8 rfl rfl rfl (by omega), ?_⟩)
          | refine j_guard_undef rfl rfl rfl rfl rfl ?_
          | (refine j_guard rfl rfl rfl rfl rfl ?_ ?_ <;> intro hc <;> (first | (exact absurd hc (by decide)) | ((try simp only [decide_eq_true_eq, decide_eq_false_iff_not, Bool.not_eq_true', Bool.not_eq_false', Bool.not_true, Bool.not_false, ne_eq, Decidable.not_not] at hc) <;> first | (exfalso; omega) | (exact absurd trivial hc) | skip))))
       | (refine gSC ?_
          first
          | refine sc_seq ?_
          | refine sc_region ?_
          | (refine sc_cond rfl ?_ ?_ <;> intro hc <;> (first | (exact absurd hc (by decide)) | ((try simp only [decide_eq_true_eq, decide_eq_false_iff_not, Bool.not_eq_true', Bool.not_eq_false', Bool.not_true, Bool.not_false, ne_eq, Decidable.not_not] at hc) <;> first | (exfalso; omega) | (exact absurd trivial hc) | skip)))
          | refine sc_block ?_
          | refine sc_ret ?_
          | refine sc_exit ?_
          | refine sc_skip ?_)
       | (refine gSQ ?_
          first
          | refine sq_seq ?_
          | refine sq_blk ?_
          | refine sq_seq_ret ?_
          | refine sq_blk_ret ?_
          | refine sq_loop_ret ?_
          | refine sq_seq_exit ?_
          | refine sq_blk_hit ?_
          | refine sq_blk_miss rfl ?_
          | refine sq_loop_exit ?_
          | refine sq_ende (.inl rfl) rfl rfl ⟨_, (RVs.cons (RV.tmp rfl) (RVs.cons (RV.tmp rfl) (RVs.nil))), ?_⟩
          | refine sq_ende (.inr rfl) rfl rfl ⟨_, (RVs.cons (RV.tmp rfl) (RVs.cons (RV.tmp rfl) (RVs.nil))), ?_⟩)
       | refine j_nil ?_
       )
      (intro w' hS; refine ⟨?_, hS.below⟩; simp only [pack])
      rw [hr]
      rfl
  · (intro w' hS; refine ⟨?_, hS.below⟩; simp only [pack])
    rw [release_bad (by simp [*])]
  · (intro w' hS; refine ⟨?_, hS.below⟩; simp only [pack])
    rw [release_bad (by simp [*])]
end Go.Proofs.Ytmcmmmaffdenjaa
