/-
  forward: Sources.
-/
import Derived.Test.YtmcmmmaffdenjaaLps
namespace Go.Proofs.Ytmcmmmaffdenjaa
open Go.RowKit Eng
set_option linter.unusedVariables false
set_option linter.unusedSimpArgs false
set_option maxHeartbeats 8000000
attribute [local irreducible] SC SQ J Qt Calls Iterates
def allI : List Int → Bool
  | [] => true
  | q :: l => decide (idI q) && allI l
theorem allI_iff : ∀ l : List Int, allI l = true ↔ ∀ q ∈ l, idI q
  | [] => by simp [allI]
  | q :: l => by simp [allI, allI_iff l]
def srcF (l : List Od) (p d : Int) (pts : List Int) : List Int := pts.filter fun q => decide (lastD (wayF l q d).pts = p)
def sourcesF (l : List Od) (pts : List Int) (p d : Int) : List Int × Int :=
  if ¬ rightB l = true then ([], 2) else if 1000 < pts.length then ([], 5) else if ¬ (idI p ∧ dayI d) then ([], 2) else if ¬ allI pts = true then ([], 2) else (srcF l p d pts, 0)
theorem src_yes {l : List Od} {p d : Int} {D : List Int} {i : Nat} {x : Int} (hx : D[i]? = some x) (h : lastD (wayF l x d).pts = p) : srcF l p d (D.take (i + 1)) = srcF l p d (D.take i) ++ [x] := by
  unfold srcF
  rw [take_snocG hx, List.filter_append]
  simp [h]
theorem src_no {l : List Od} {p d : Int} {D : List Int} {i : Nat} {x : Int} (hx : D[i]? = some x) (h : ¬ lastD (wayF l x d).pts = p) : srcF l p d (D.take (i + 1)) = srcF l p d (D.take i) := by
  unfold srcF
  rw [take_snocG hx, List.filter_append]
  simp [h]
abbrev SrcR (w : World) (r : List Int × Int) : Ending → World → Prop := fun e w' => ∃ v : Value, True ∧ e = .returned (.tuple #[v, .int .i64 r.2]) ∧ St w Cold [.own v 3 1 r.1.length (r.1.flatMap intC)] w'
theorem Sources_c (A : Option Addr) (c : Nat) (l : List Od) (B : Option Addr) (bc : Nat) (pts : List Int) (p d : Int) (w : World) (hl : l.length ≤ 9223372036854775807) (hpl : pts.length ≤ 9223372036854775807) (h : RS w 6 odC A l) (hP : RS w 1 intC B pts) :
    Calls Try.prog 48 #[.slice A l.length c, .slice B pts.length bc, .int .i64 p, .int .i64 d] w (SrcR w (sourcesF l pts p d)) := by
  have hR : ∀ w', RS w' 6 odC A l → Calls Try.prog 25 #[.slice A l.length c] w' fun e w'' => e = .returned (.bool (rightB l)) ∧ Below w'.heap.size w' w'' := fun w' h' => Right_c A c l w' hl h'
  have hle : rightB l = true → l.length ≤ 500 := fun h => ((rightB_iff l).1 h).1
  have hB : ∀ w', rightB l = true → RS w' 6 odC A l → Calls Try.prog 71 #[.slice A l.length c] w' _ := fun w' h1 h' => byPoint_c A c l w' (by have := hle h1; omega) h'
  have hall : ∀ i x, pts[i]? = some x → allI (pts.drop i) = (decide (idI x) && allI (pts.drop (i + 1))) := fun i x hx => by rw [drop_cons hx, allI]
  have hend : ∀ i, pts.length ≤ i → allI (pts.drop i) = true := fun i hi => by rw [List.drop_of_length_le hi]; rfl
  have htk : ∀ i, pts.length ≤ i → pts.take i = pts := fun i hi => List.take_of_length_le hi
  generalize hn : l.length = n at *
  have e0 : ¬ rightB l = true → sourcesF l pts p d = ([], 2) := fun h => by unfold sourcesF; rw [if_pos h]
  have e1 : rightB l = true → 1000 < pts.length → sourcesF l pts p d = ([], 5) := fun h h1 => by unfold sourcesF; rw [if_neg (fun g => g h), if_pos h1]
  have e2 : rightB l = true → ¬ 1000 < pts.length → ¬ (idI p ∧ dayI d) → sourcesF l pts p d = ([], 2) := fun h h1 h2 => by unfold sourcesF; rw [if_neg (fun g => g h), if_neg h1, if_pos h2]
  have e3 : rightB l = true → ¬ 1000 < pts.length → (idI p ∧ dayI d) → ¬ allI pts = true → sourcesF l pts p d = ([], 2) := fun h h1 h2 h3 => by unfold sourcesF; rw [if_neg (fun g => g h), if_neg h1, if_neg (fun g => g h2), if_pos h3]
  have e4 : rightB l = true → ¬ 1000 < pts.length → (idI p ∧ dayI d) → allI pts = true → sourcesF l pts p d = (srcF l p d pts, 0) := fun h h1 h2 h3 => by unfold sourcesF; rw [if_neg (fun g => g h), if_neg h1, if_neg (fun g => g h2), if_neg (fun g => g h3)]
  generalize hK : sourcesF l pts p d = Z at *
  generalize hm : pts.length = m at *
  refine eng_start (n := 62) (args := [.slice A n c, .slice B m bc, .int .i64 p, .int .i64 d]) tab tab_ok fns fns_ok [.tmp 8, .tmp 9] Try.func48 rfl rfl rfl rfl ?_
  repeat' (first
   | (refine gJ ?_
      first
      | refine jmv rfl rfl rfl rfl rfl ?_
      | (refine gload rfl rfl ?_
         refine j_qe rfl rfl rfl ?_
         first
         | refine ⟨_, q_load_own rfl rfl rfl rfl (by (repeat (first | exact InL.here | apply InL.there))) (by first | rfl | assumption), ?_⟩
         | refine ⟨_, q_loadA_own rfl rfl rfl rfl (by (repeat (first | exact InL.here | apply InL.there))) (by rfl), ?_⟩
         | refine ⟨_, q_loadA_ext rfl rfl rfl rfl ⟨by assumption, (by first | exact id | assumption)⟩ (by rfl), ?_⟩
         | refine ⟨_, q_load_ext rfl rfl rfl rfl ⟨by assumption, (by first | exact id | assumption)⟩ (by first | rfl | assumption), ?_⟩
         | refine ⟨_, q_load_extb rfl rfl rfl rfl ⟨by assumption, (by first | exact id | assumption)⟩ (by rfl), ?_⟩
         | refine ⟨_, q_loadA_extb rfl rfl rfl rfl ⟨by assumption, (by first | exact id | assumption)⟩ (by rfl), ?_⟩
         | refine ⟨_, q_load_ext0 rfl rfl rfl rfl ⟨by assumption, (by first | exact id | assumption)⟩ (by rfl), ?_⟩)
      | refine jcmp rfl rfl rfl rfl rfl rfl rfl ?_
      | refine jar rfl rfl rfl rfl rfl rfl rfl (by omega) ?_
      | (refine gcall rfl rfl ?_
         first
         | (refine j_qc (f := 25) rfl rfl rfl rfl rfl rfl rfl ?_; refine ⟨_, (fun w' hs => hR w' (h.st hs)), ?_⟩)
         | (refine j_qc (f := 68) rfl rfl rfl rfl rfl rfl rfl ?_; refine ⟨_, (fun w' _ => isID2_c _ w'), ?_⟩)
         | (refine j_qc (f := 69) rfl rfl rfl rfl rfl rfl rfl ?_; refine ⟨_, (fun w' _ => isDay2_c _ w'), ?_⟩))
      | (refine gF ?_
         first
         | (refine j_buildSlice rfl rfl rfl rfl rfl rfl rfl rfl rfl rfl rfl rfl ?_; intro b)
         | (refine j_append rfl rfl rfl rfl rfl rfl rfl rfl rfl rfl rfl (by (repeat (first | exact InL.here | apply InL.there))) (by (repeat (first | exact InL.here | apply InL.there))) (by rfl) (by rfl) (by omega) (fun _ => by (repeat (first | exact Upd.here | apply Upd.there))) ?_; intro v))
      | (refine j_qe rfl rfl rfl ?_
         first
         | refine ⟨_, q_pick_t rfl rfl rfl, ?_⟩
         | refine ⟨_, q_pick_f rfl rfl rfl, ?_⟩
         | refine ⟨_, q_not rfl rfl, ?_⟩
         | refine ⟨_, q_index_nat rfl rfl rfl rfl rfl (by omega), ?_⟩
         | refine ⟨_, q_index_slice rfl rfl rfl rfl rfl (by omega), ?_⟩
         | refine ⟨_, q_index_arr rfl rfl rfl rfl rfl (by omega), ?_⟩
         | refine ⟨_, q_index_arr_ext rfl rfl rfl rfl rfl (by omega), ?_⟩
         | refine ⟨_, q_len_slice rfl rfl rfl rfl, ?_⟩
         | refine ⟨_, q_addu8 rfl rfl rfl (by omega), ?_⟩)
      | refine j_guard_undef rfl rfl rfl rfl rfl ?_
      | (refine j_guard rfl rfl rfl rfl rfl ?_ ?_ <;> intro hc <;> (first | (exact absurd hc (by decide)) | ((try simp only [decide_eq_true_eq, decide_eq_false_iff_not, Bool.not_eq_true', Bool.not_eq_false', Bool.not_true, Bool.not_false, ne_eq, Decidable.not_not] at hc) <;> first | (exfalso; omega) | (exact absurd trivial hc) | skip))))
   | (refine gSC ?_
      first
      | refine sc_seq ?_
      | refine sc_region ?_
      | (refine sc_cond rfl ?_ ?_ <;> intro hc <;> (first | (exact absurd hc (by decide)) | ((try simp only [decide_eq_true_eq, decide_eq_false_iff_not, Bool.not_eq_true', Bool.not_eq_false', Bool.not_true, Bool.not_false, ne_eq, Decidable.not_not] at hc) <;> first | (exfalso; omega) | (exact absurd trivial hc) | skip)))
      | refine sc_block ?_
      | refine sc_ret ?_
      | refine sc_exit ?_
      | refine sc_skip ?_)
   | (refine gSQ ?_
      first
      | refine sq_seq ?_
      | refine sq_blk ?_
      | refine sq_seq_ret ?_
      | refine sq_blk_ret ?_
      | refine sq_loop_ret ?_
      | refine sq_seq_exit ?_
      | refine sq_blk_hit ?_
      | refine sq_blk_miss rfl ?_
      | refine sq_loop_exit ?_
      | refine sq_ende (.inl rfl) rfl rfl ⟨_, (RVs.cons (RV.tmp rfl) (RVs.cons (RV.tmp rfl) (RVs.nil))), ?_⟩
      | refine sq_ende (.inr rfl) rfl rfl ⟨_, (RVs.cons (RV.tmp rfl) (RVs.cons (RV.tmp rfl) (RVs.nil))), ?_⟩)
   | refine j_nil ?_
   )
  · rw [e0 (by simp [*])]
    intro w' hS
    exact ⟨.slice none 0 0, trivial, rfl, hS.own_nil.sub (by repeat (first | exact LSub.refl | refine LSub.cons (by repeat (first | exact Rem.here | apply Rem.there)) ?_ | apply LSub.skip))⟩
  · rw [e1 (by assumption) (by omega)]
    intro w' hS
    exact ⟨.slice none 0 0, trivial, rfl, hS.own_nil.sub (by repeat (first | exact LSub.refl | refine LSub.cons (by repeat (first | exact Rem.here | apply Rem.there)) ?_ | apply LSub.skip))⟩
  · rw [e2 (by assumption) (by omega) (by simp [*])]
    intro w' hS
    exact ⟨.slice none 0 0, trivial, rfl, hS.own_nil.sub (by repeat (first | exact LSub.refl | refine LSub.cons (by repeat (first | exact Rem.here | apply Rem.there)) ?_ | apply LSub.skip))⟩
  · have hrt : rightB l = true := by assumption
    have hid : idI p := by assumption
    have hdy : dayI d := by assumption
    have hrl := (rightB_iff l).1 hrt
    have hm1 : ¬ 1000 < m := by omega
    refine sc_loop (ι := Nat) (fun i => i ≤ m ∧ allI pts = allI (pts.drop i)) (fun i => m - i) (fun i => [(0, .slice A n c), (1, .slice B m bc), (2, .int .i64 p), (3, .int .i64 d), (30, .slice B m bc), (31, .int .i64 m), (32, .int .i64 i)]) (fun _ => []) 0 ⟨by omega, rfl⟩ (by repeat (first | exact FSub.nil | refine FSub.cons rfl ?_ | refine FSub.conse rfl (by congr 1; omega) ?_)) (by repeat (first | exact LSub.nil | refine LSub.cons (by repeat (first | exact Rem.here | apply Rem.there)) ?_)) ?_
    rintro i ⟨hi, hr⟩
    by_cases hlt : i < m
    · obtain ⟨x, hx⟩ : ∃ x, pts[i]? = some x := ⟨_, List.getElem?_eq_getElem (by omega)⟩
      obtain ⟨ad, rfl, hX⟩ := hP i x hx
      rw [hall i x hx] at hr
      repeat' (first
       | (refine gJ ?_
          first
          | refine jmv rfl rfl rfl rfl rfl ?_
          | (refine gload rfl rfl ?_
             refine j_qe rfl rfl rfl ?_
             first
             | refine ⟨_, q_load_own rfl rfl rfl rfl (by (repeat (first | exact InL.here | apply InL.there))) (by first | rfl | assumption), ?_⟩
             | refine ⟨_, q_loadA_own rfl rfl rfl rfl (by (repeat (first | exact InL.here | apply InL.there))) (by rfl), ?_⟩
             | refine ⟨_, q_loadA_ext rfl rfl rfl rfl ⟨by assumption, (by first | exact id | assumption)⟩ (by rfl), ?_⟩
             | refine ⟨_, q_load_ext rfl rfl rfl rfl ⟨by assumption, (by first | exact id | assumption)⟩ (by first | rfl | assumption), ?_⟩
             | refine ⟨_, q_load_extb rfl rfl rfl rfl ⟨by assumption, (by first | exact id | assumption)⟩ (by rfl), ?_⟩
             | refine ⟨_, q_loadA_extb rfl rfl rfl rfl ⟨by assumption, (by first | exact id | assumption)⟩ (by rfl), ?_⟩
             | refine ⟨_, q_load_ext0 rfl rfl rfl rfl ⟨by assumption, (by first | exact id | assumption)⟩ (by rfl), ?_⟩)
          | refine jcmp rfl rfl rfl rfl rfl rfl rfl ?_
          | refine jar rfl rfl rfl rfl rfl rfl rfl (by omega) ?_
          | (refine gcall rfl rfl ?_
             first
             | (refine j_qc (f := 68) rfl rfl rfl rfl rfl rfl rfl ?_; refine ⟨_, (fun w' _ => isID2_c _ w'), ?_⟩))
          | (refine gF ?_
             first
             | (refine j_buildSlice rfl rfl rfl rfl rfl rfl rfl rfl rfl rfl rfl rfl ?_; intro b)
             | (refine j_append rfl rfl rfl rfl rfl rfl rfl rfl rfl rfl rfl (by (repeat (first | exact InL.here | apply InL.there))) (by (repeat (first | exact InL.here | apply InL.there))) (by rfl) (by rfl) (by omega) (fun _ => by (repeat (first | exact Upd.here | apply Upd.there))) ?_; intro v))
          | (refine j_qe rfl rfl rfl ?_
             first
             | refine ⟨_, q_pick_t rfl rfl rfl, ?_⟩
             | refine ⟨_, q_pick_f rfl rfl rfl, ?_⟩
             | refine ⟨_, q_not rfl rfl, ?_⟩
             | refine ⟨_, q_index_nat rfl rfl rfl rfl rfl (by omega), ?_⟩
             | refine ⟨_, q_index_slice rfl rfl rfl rfl rfl (by omega), ?_⟩
             | refine ⟨_, q_index_arr rfl rfl rfl rfl rfl (by omega), ?_⟩
             | refine ⟨_, q_index_arr_ext rfl rfl rfl rfl rfl (by omega), ?_⟩
             | refine ⟨_, q_len_slice rfl rfl rfl rfl, ?_⟩
             | refine ⟨_, q_addu8 rfl rfl rfl (by omega), ?_⟩)
          | refine j_guard_undef rfl rfl rfl rfl rfl ?_
          | (refine j_guard rfl rfl rfl rfl rfl ?_ ?_ <;> intro hc <;> (first | (exact absurd hc (by decide)) | ((try simp only [decide_eq_true_eq, decide_eq_false_iff_not, Bool.not_eq_true', Bool.not_eq_false', Bool.not_true, Bool.not_false, ne_eq, Decidable.not_not] at hc) <;> first | (exfalso; omega) | (exact absurd trivial hc) | skip))))
       | (refine gSC ?_
          first
          | refine sc_seq ?_
          | refine sc_region ?_
          | (refine sc_cond rfl ?_ ?_ <;> intro hc <;> (first | (exact absurd hc (by decide)) | ((try simp only [decide_eq_true_eq, decide_eq_false_iff_not, Bool.not_eq_true', Bool.not_eq_false', Bool.not_true, Bool.not_false, ne_eq, Decidable.not_not] at hc) <;> first | (exfalso; omega) | (exact absurd trivial hc) | skip)))
          | refine sc_block ?_
          | refine sc_ret ?_
          | refine sc_exit ?_
          | refine sc_skip ?_)
       | (refine gSQ ?_
          first
          | refine sq_seq ?_
          | refine sq_blk ?_
          | refine sq_seq_ret ?_
          | refine sq_blk_ret ?_
          | refine sq_loop_ret ?_
          | refine sq_seq_exit ?_
          | refine sq_blk_hit ?_
          | refine sq_blk_miss rfl ?_
          | refine sq_loop_exit ?_
          | refine sq_ende (.inl rfl) rfl rfl ⟨_, (RVs.cons (RV.tmp rfl) (RVs.cons (RV.tmp rfl) (RVs.nil))), ?_⟩
          | refine sq_ende (.inr rfl) rfl rfl ⟨_, (RVs.cons (RV.tmp rfl) (RVs.cons (RV.tmp rfl) (RVs.nil))), ?_⟩)
       | refine j_nil ?_
       )
      · rw [e3 hrt hm1 ⟨hid, hdy⟩ (by rw [hr, decide_eq_false (by assumption)]; simp)]
        intro w' hS
        exact ⟨.slice none 0 0, trivial, rfl, hS.own_nil.sub (by repeat (first | exact LSub.refl | refine LSub.cons (by repeat (first | exact Rem.here | apply Rem.there)) ?_ | apply LSub.skip))⟩
      · exact sq_loop (i + 1) ⟨by show i + 1 ≤ m; omega, by rw [hr, decide_eq_true (by assumption)]; rfl⟩ (by show m - (i + 1) < m - i; omega) (by repeat (first | exact FSub.nil | refine FSub.cons rfl ?_ | refine FSub.conse rfl (by congr 1; omega) ?_)) (by repeat (first | exact LSub.nil | refine LSub.cons (by repeat (first | exact Rem.here | apply Rem.there)) ?_))
    · rw [hend i (by omega)] at hr
      rw [e4 hrt hm1 ⟨hid, hdy⟩ hr]
      repeat' (first
       | (refine gJ ?_
          first
          | refine jmv rfl rfl rfl rfl rfl ?_
          | (refine gload rfl rfl ?_
             refine j_qe rfl rfl rfl ?_
             first
             | refine ⟨_, q_load_own rfl rfl rfl rfl (by (repeat (first | exact InL.here | apply InL.there))) (by first | rfl | assumption), ?_⟩
             | refine ⟨_, q_loadA_own rfl rfl rfl rfl (by (repeat (first | exact InL.here | apply InL.there))) (by rfl), ?_⟩
             | refine ⟨_, q_loadA_ext rfl rfl rfl rfl ⟨by assumption, (by first | exact id | assumption)⟩ (by rfl), ?_⟩
             | refine ⟨_, q_load_ext rfl rfl rfl rfl ⟨by assumption, (by first | exact id | assumption)⟩ (by first | rfl | assumption), ?_⟩
             | refine ⟨_, q_load_extb rfl rfl rfl rfl ⟨by assumption, (by first | exact id | assumption)⟩ (by rfl), ?_⟩
             | refine ⟨_, q_loadA_extb rfl rfl rfl rfl ⟨by assumption, (by first | exact id | assumption)⟩ (by rfl), ?_⟩
             | refine ⟨_, q_load_ext0 rfl rfl rfl rfl ⟨by assumption, (by first | exact id | assumption)⟩ (by rfl), ?_⟩)
          | refine jcmp rfl rfl rfl rfl rfl rfl rfl ?_
          | refine jar rfl rfl rfl rfl rfl rfl rfl (by omega) ?_
          | (refine gcall rfl rfl ?_; refine gF ?_; refine j_callN (f := 71) rfl rfl rfl rfl rfl rfl rfl bpV (fun x => bpI l x.2) bpL (fun w' hs => hB w' hrt (h.st hs)) bpL_plain ?_; rintro ⟨bm, M⟩ hM; refine j_perm bp_perm0 ?_)
          | (refine gcall rfl rfl ?_; refine gF ?_; refine j_callN (f := 70) rfl rfl rfl rfl rfl rfl rfl chV (fun y => ChartP (fun k => fo l k d) y.2) chL (fun w' hs => on_f l d M bm hs (by (repeat (first | exact InL.here | apply InL.there))) (fun y hy => List.mem_cons_of_mem _ (List.mem_append_right _ hy)) hrt hdy hM) chL_plain ?_; rintro ⟨bn, N⟩ hN)
          | (refine gF ?_
             first
             | (refine j_buildSlice rfl rfl rfl rfl rfl rfl rfl rfl rfl rfl rfl rfl ?_; intro b)
             | (refine j_append rfl rfl rfl rfl rfl rfl rfl rfl rfl rfl rfl (by (repeat (first | exact InL.here | apply InL.there))) (by (repeat (first | exact InL.here | apply InL.there))) (by rfl) (by rfl) (by omega) (fun _ => by (repeat (first | exact Upd.here | apply Upd.there))) ?_; intro v))
          | (refine j_qe rfl rfl rfl ?_
             first
             | refine ⟨_, q_pick_t rfl rfl rfl, ?_⟩
             | refine ⟨_, q_pick_f rfl rfl rfl, ?_⟩
             | refine ⟨_, q_not rfl rfl, ?_⟩
             | refine ⟨_, q_index_nat rfl rfl rfl rfl rfl (by omega), ?_⟩
             | refine ⟨_, q_index_slice rfl rfl rfl rfl rfl (by omega), ?_⟩
             | refine ⟨_, q_index_arr rfl rfl rfl rfl rfl (by omega), ?_⟩
             | refine ⟨_, q_index_arr_ext rfl rfl rfl rfl rfl (by omega), ?_⟩
             | refine ⟨_, q_len_slice rfl rfl rfl rfl, ?_⟩
             | refine ⟨_, q_addu8 rfl rfl rfl (by omega), ?_⟩)
          | refine j_guard_undef rfl rfl rfl rfl rfl ?_
          | (refine j_guard rfl rfl rfl rfl rfl ?_ ?_ <;> intro hc <;> (first | (exact absurd hc (by decide)) | ((try simp only [decide_eq_true_eq, decide_eq_false_iff_not, Bool.not_eq_true', Bool.not_eq_false', Bool.not_true, Bool.not_false, ne_eq, Decidable.not_not] at hc) <;> first | (exfalso; omega) | (exact absurd trivial hc) | skip))))
       | (refine gSC ?_
          first
          | refine sc_seq ?_
          | refine sc_region ?_
          | (refine sc_cond rfl ?_ ?_ <;> intro hc <;> (first | (exact absurd hc (by decide)) | ((try simp only [decide_eq_true_eq, decide_eq_false_iff_not, Bool.not_eq_true', Bool.not_eq_false', Bool.not_true, Bool.not_false, ne_eq, Decidable.not_not] at hc) <;> first | (exfalso; omega) | (exact absurd trivial hc) | skip)))
          | refine sc_block ?_
          | refine sc_ret ?_
          | refine sc_exit ?_
          | refine sc_skip ?_)
       | (refine gSQ ?_
          first
          | refine sq_seq ?_
          | refine sq_blk ?_
          | refine sq_seq_ret ?_
          | refine sq_blk_ret ?_
          | refine sq_loop_ret ?_
          | refine sq_seq_exit ?_
          | refine sq_blk_hit ?_
          | refine sq_blk_miss rfl ?_
          | refine sq_loop_exit ?_
          | refine sq_ende (.inl rfl) rfl rfl ⟨_, (RVs.cons (RV.tmp rfl) (RVs.cons (RV.tmp rfl) (RVs.nil))), ?_⟩
          | refine sq_ende (.inr rfl) rfl rfl ⟨_, (RVs.cons (RV.tmp rfl) (RVs.cons (RV.tmp rfl) (RVs.nil))), ?_⟩)
       | refine j_nil ?_
       )
      refine sc_own_nil_at 3 1 ?_
      refine sc_loop (ι := Nat × Value × List Int) (fun i => i.1 ≤ m ∧ i.2.2.length ≤ i.1 ∧ i.2.2 = srcF l p d (pts.take i.1)) (fun i => m - i.1) (fun i => [(2, .int .i64 p), (12, .map (some bn)), (13, i.2.1), (44, .slice B m bc), (45, .int .i64 m), (46, .int .i64 i.1)]) (fun i => [.own i.2.1 3 1 i.2.2.length (i.2.2.flatMap intC), haMap bn .i64 (valsG odV N)]) (0, .slice none 0 0, []) ⟨by omega, by simp, rfl⟩ (by repeat (first | exact FSub.nil | refine FSub.cons rfl ?_ | refine FSub.conse rfl (by congr 1; omega) ?_)) (by repeat (first | exact LSub.nil | refine LSub.cons (by repeat (first | exact Rem.here | apply Rem.there)) ?_)) ?_
      rintro ⟨i, vr, R⟩ ⟨hi, hRl, hR2⟩
      dsimp only at hi hRl hR2 ⊢
      by_cases hlt : i < m
      · obtain ⟨x, hx⟩ : ∃ x, pts[i]? = some x := ⟨_, List.getElem?_eq_getElem (by omega)⟩
        obtain ⟨ad, rfl, hX⟩ := hP i x hx
        have hhd := isW_head (way_isW hrl x d)
        have hwl := way_len l x d
        have hyes := src_yes (l := l) (d := d) (p := p) hx
        have hno := src_no (l := l) (d := d) (p := p) hx
        have hpath : ∀ (w' : World) (L : List HA) (w0 : World), St w0 Cold L w' → InL L (haMap bn .i64 (valsG odV N)) → Calls Try.prog 72 #[.map (some bn), .int .i64 x] w' fun e w'' => ∃ y : Value × Value, True ∧ e = .returned (wyV y (wayF l x d)) ∧ St w' Cold (wyL (wayF l x d) y) w'' := fun w' L w0 hs hin => path_f l x d N bn hs hin hrt hN
        generalize wayF l x d = W at *
        obtain ⟨y, hy⟩ : ∃ y, W.pts[W.pts.length - 1]? = some y := ⟨_, List.getElem?_eq_getElem (by have := (List.getElem?_eq_some_iff.1 hhd).1; omega)⟩
        have hly : lastD W.pts = y := by unfold lastD; rw [hy]; rfl
        rw [hly] at hyes hno
        repeat' (first
         | (refine gJ ?_
            first
            | refine jmv rfl rfl rfl rfl rfl ?_
            | (refine gload rfl rfl ?_
               refine j_qe rfl rfl rfl ?_
               first
               | refine ⟨_, q_load_own rfl rfl rfl rfl (by (repeat (first | exact InL.here | apply InL.there))) (by first | rfl | assumption), ?_⟩
               | refine ⟨_, q_loadA_own rfl rfl rfl rfl (by (repeat (first | exact InL.here | apply InL.there))) (by rfl), ?_⟩
               | refine ⟨_, q_loadA_ext rfl rfl rfl rfl ⟨by assumption, (by first | exact id | assumption)⟩ (by rfl), ?_⟩
               | refine ⟨_, q_load_ext rfl rfl rfl rfl ⟨by assumption, (by first | exact id | assumption)⟩ (by first | rfl | assumption), ?_⟩
               | refine ⟨_, q_load_extb rfl rfl rfl rfl ⟨by assumption, (by first | exact id | assumption)⟩ (by rfl), ?_⟩
               | refine ⟨_, q_loadA_extb rfl rfl rfl rfl ⟨by assumption, (by first | exact id | assumption)⟩ (by rfl), ?_⟩
               | refine ⟨_, q_load_ext0 rfl rfl rfl rfl ⟨by assumption, (by first | exact id | assumption)⟩ (by rfl), ?_⟩)
            | refine jcmp rfl rfl rfl rfl rfl rfl rfl ?_
            | refine jar rfl rfl rfl rfl rfl rfl rfl (by omega) ?_
            | (refine gcall rfl rfl ?_
               first
               | (refine j_qc (f := 77) rfl rfl rfl rfl rfl rfl rfl ?_; refine ⟨_, (fun w' hs => last_c A1 c1 W.pts A2 W.ords.length c2 _ _ y w' (by omega) hy (rs_own (f := intC) (fun _ => rfl) hs (by (repeat (first | exact InL.here | apply InL.there))) rfl rfl)), ?_⟩))
            | (refine gcall rfl rfl ?_; refine gF ?_; refine j_callN (f := 72) rfl rfl rfl rfl rfl rfl rfl (fun y => wyV y W) (fun _ => True) (wyL W) (fun w' hs => hpath w' _ _ hs (by (repeat (first | exact InL.here | apply InL.there)))) (fun _ => trivial) ?_; rintro ⟨v1, v2⟩ _; refine j_owns (v := v1) (by (repeat (first | exact InL.here | apply InL.there))) ?_; rintro A1 c1 rfl hs1; refine j_owns (v := v2) (by (repeat (first | exact InL.here | apply InL.there))) ?_; rintro A2 c2 rfl hs2)
            | (refine gF ?_; refine j_append (xs := R.flatMap intC) rfl rfl rfl rfl rfl rfl rfl rfl rfl rfl rfl (by (repeat (first | exact InL.here | apply InL.there))) (by (repeat (first | exact InL.here | apply InL.there))) (by rfl) (by rfl) (by omega) (fun _ => by (repeat (first | exact Upd.here | apply Upd.there))) ?_; intro v)
            | (refine gF ?_
               first
               | (refine j_buildSlice rfl rfl rfl rfl rfl rfl rfl rfl rfl rfl rfl rfl ?_; intro b)
               | (refine j_append rfl rfl rfl rfl rfl rfl rfl rfl rfl rfl rfl (by (repeat (first | exact InL.here | apply InL.there))) (by (repeat (first | exact InL.here | apply InL.there))) (by rfl) (by rfl) (by omega) (fun _ => by (repeat (first | exact Upd.here | apply Upd.there))) ?_; intro v))
            | (refine j_qe rfl rfl rfl ?_
               first
               | refine ⟨_, q_pick_t rfl rfl rfl, ?_⟩
               | refine ⟨_, q_pick_f rfl rfl rfl, ?_⟩
               | refine ⟨_, q_not rfl rfl, ?_⟩
               | refine ⟨_, q_index_nat rfl rfl rfl rfl rfl (by omega), ?_⟩
               | refine ⟨_, q_index_slice rfl rfl rfl rfl rfl (by omega), ?_⟩
               | refine ⟨_, q_index_arr rfl rfl rfl rfl rfl (by omega), ?_⟩
               | refine ⟨_, q_index_arr_ext rfl rfl rfl rfl rfl (by omega), ?_⟩
               | refine ⟨_, q_len_slice rfl rfl rfl rfl, ?_⟩
               | refine ⟨_, q_addu8 rfl rfl rfl (by omega), ?_⟩)
            | refine j_guard_undef rfl rfl rfl rfl rfl ?_
            | (refine j_guard rfl rfl rfl rfl rfl ?_ ?_ <;> intro hc <;> (first | (exact absurd hc (by decide)) | ((try simp only [decide_eq_true_eq, decide_eq_false_iff_not, Bool.not_eq_true', Bool.not_eq_false', Bool.not_true, Bool.not_false, ne_eq, Decidable.not_not] at hc) <;> first | (exfalso; omega) | (exact absurd trivial hc) | skip))))
         | (refine gSC ?_
            first
            | refine sc_seq ?_
            | refine sc_region ?_
            | (refine sc_cond rfl ?_ ?_ <;> intro hc <;> (first | (exact absurd hc (by decide)) | ((try simp only [decide_eq_true_eq, decide_eq_false_iff_not, Bool.not_eq_true', Bool.not_eq_false', Bool.not_true, Bool.not_false, ne_eq, Decidable.not_not] at hc) <;> first | (exfalso; omega) | (exact absurd trivial hc) | skip)))
            | refine sc_block ?_
            | refine sc_ret ?_
            | refine sc_exit ?_
            | refine sc_skip ?_)
         | (refine gSQ ?_
            first
            | refine sq_seq ?_
            | refine sq_blk ?_
            | refine sq_seq_ret ?_
            | refine sq_blk_ret ?_
            | refine sq_loop_ret ?_
            | refine sq_seq_exit ?_
            | refine sq_blk_hit ?_
            | refine sq_blk_miss rfl ?_
            | refine sq_loop_exit ?_
            | refine sq_ende (.inl rfl) rfl rfl ⟨_, (RVs.cons (RV.tmp rfl) (RVs.cons (RV.tmp rfl) (RVs.nil))), ?_⟩
            | refine sq_ende (.inr rfl) rfl rfl ⟨_, (RVs.cons (RV.tmp rfl) (RVs.cons (RV.tmp rfl) (RVs.nil))), ?_⟩)
         | refine j_nil ?_
         )
        · exact sq_loop (i + 1, v, R ++ [x]) ⟨by show i + 1 ≤ m; omega, by simp; omega, by rw [hyes (by assumption), hR2]⟩ (by show m - (i + 1) < m - i; omega) (by repeat (first | exact FSub.nil | refine FSub.cons rfl ?_ | refine FSub.conse rfl (by congr 1; omega) ?_)) (by dsimp only; rw [own_snoc]; exact (by repeat (first | exact LSub.refl | refine LSub.cons (by repeat (first | exact Rem.here | apply Rem.there)) ?_ | apply LSub.skip)))
        · exact sq_loop (i + 1, vr, R) ⟨by show i + 1 ≤ m; omega, by show R.length ≤ i + 1; omega, by rw [hno (by assumption), hR2]⟩ (by show m - (i + 1) < m - i; omega) (by repeat (first | exact FSub.nil | refine FSub.cons rfl ?_ | refine FSub.conse rfl (by congr 1; omega) ?_)) (by repeat (first | exact LSub.refl | refine LSub.cons (by repeat (first | exact Rem.here | apply Rem.there)) ?_ | apply LSub.skip))
      · rw [htk i (by omega)] at hR2
        repeat' (first
         | (refine gJ ?_
            first
            | refine jmv rfl rfl rfl rfl rfl ?_
            | (refine gload rfl rfl ?_
               refine j_qe rfl rfl rfl ?_
               first
               | refine ⟨_, q_load_own rfl rfl rfl rfl (by (repeat (first | exact InL.here | apply InL.there))) (by first | rfl | assumption), ?_⟩
               | refine ⟨_, q_loadA_own rfl rfl rfl rfl (by (repeat (first | exact InL.here | apply InL.there))) (by rfl), ?_⟩
               | refine ⟨_, q_loadA_ext rfl rfl rfl rfl ⟨by assumption, (by first | exact id | assumption)⟩ (by rfl), ?_⟩
               | refine ⟨_, q_load_ext rfl rfl rfl rfl ⟨by assumption, (by first | exact id | assumption)⟩ (by first | rfl | assumption), ?_⟩
               | refine ⟨_, q_load_extb rfl rfl rfl rfl ⟨by assumption, (by first | exact id | assumption)⟩ (by rfl), ?_⟩
               | refine ⟨_, q_loadA_extb rfl rfl rfl rfl ⟨by assumption, (by first | exact id | assumption)⟩ (by rfl), ?_⟩
               | refine ⟨_, q_load_ext0 rfl rfl rfl rfl ⟨by assumption, (by first | exact id | assumption)⟩ (by rfl), ?_⟩)
            | refine jcmp rfl rfl rfl rfl rfl rfl rfl ?_
            | refine jar rfl rfl rfl rfl rfl rfl rfl (by omega) ?_
            | (refine gF ?_
               first
               | (refine j_buildSlice rfl rfl rfl rfl rfl rfl rfl rfl rfl rfl rfl rfl ?_; intro b)
               | (refine j_append rfl rfl rfl rfl rfl rfl rfl rfl rfl rfl rfl (by (repeat (first | exact InL.here | apply InL.there))) (by (repeat (first | exact InL.here | apply InL.there))) (by rfl) (by rfl) (by omega) (fun _ => by (repeat (first | exact Upd.here | apply Upd.there))) ?_; intro v))
            | (refine j_qe rfl rfl rfl ?_
               first
               | refine ⟨_, q_pick_t rfl rfl rfl, ?_⟩
               | refine ⟨_, q_pick_f rfl rfl rfl, ?_⟩
               | refine ⟨_, q_not rfl rfl, ?_⟩
               | refine ⟨_, q_index_nat rfl rfl rfl rfl rfl (by omega), ?_⟩
               | refine ⟨_, q_index_slice rfl rfl rfl rfl rfl (by omega), ?_⟩
               | refine ⟨_, q_index_arr rfl rfl rfl rfl rfl (by omega), ?_⟩
               | refine ⟨_, q_index_arr_ext rfl rfl rfl rfl rfl (by omega), ?_⟩
               | refine ⟨_, q_len_slice rfl rfl rfl rfl, ?_⟩
               | refine ⟨_, q_addu8 rfl rfl rfl (by omega), ?_⟩)
            | refine j_guard_undef rfl rfl rfl rfl rfl ?_
            | (refine j_guard rfl rfl rfl rfl rfl ?_ ?_ <;> intro hc <;> (first | (exact absurd hc (by decide)) | ((try simp only [decide_eq_true_eq, decide_eq_false_iff_not, Bool.not_eq_true', Bool.not_eq_false', Bool.not_true, Bool.not_false, ne_eq, Decidable.not_not] at hc) <;> first | (exfalso; omega) | (exact absurd trivial hc) | skip))))
         | (refine gSC ?_
            first
            | refine sc_seq ?_
            | refine sc_region ?_
            | (refine sc_cond rfl ?_ ?_ <;> intro hc <;> (first | (exact absurd hc (by decide)) | ((try simp only [decide_eq_true_eq, decide_eq_false_iff_not, Bool.not_eq_true', Bool.not_eq_false', Bool.not_true, Bool.not_false, ne_eq, Decidable.not_not] at hc) <;> first | (exfalso; omega) | (exact absurd trivial hc) | skip)))
            | refine sc_block ?_
            | refine sc_ret ?_
            | refine sc_exit ?_
            | refine sc_skip ?_)
         | (refine gSQ ?_
            first
            | refine sq_seq ?_
            | refine sq_blk ?_
            | refine sq_seq_ret ?_
            | refine sq_blk_ret ?_
            | refine sq_loop_ret ?_
            | refine sq_seq_exit ?_
            | refine sq_blk_hit ?_
            | refine sq_blk_miss rfl ?_
            | refine sq_loop_exit ?_
            | refine sq_ende (.inl rfl) rfl rfl ⟨_, (RVs.cons (RV.tmp rfl) (RVs.cons (RV.tmp rfl) (RVs.nil))), ?_⟩
            | refine sq_ende (.inr rfl) rfl rfl ⟨_, (RVs.cons (RV.tmp rfl) (RVs.cons (RV.tmp rfl) (RVs.nil))), ?_⟩)
         | refine j_nil ?_
         )
        intro w' hS
        refine ⟨vr, trivial, rfl, ?_⟩
        rw [← hR2]
        exact hS.sub (by repeat (first | exact LSub.refl | refine LSub.cons (by repeat (first | exact Rem.here | apply Rem.there)) ?_ | apply LSub.skip))
  · rw [e2 (by assumption) (by omega) (by simp [*])]
    intro w' hS
    exact ⟨.slice none 0 0, trivial, rfl, hS.own_nil.sub (by repeat (first | exact LSub.refl | refine LSub.cons (by repeat (first | exact Rem.here | apply Rem.there)) ?_ | apply LSub.skip))⟩
end Go.Proofs.Ytmcmmmaffdenjaa
