/-
  forward: on.
-/
import Derived.Test.YtmcmmmaffdenjaaByp
import Derived.Test.YtmcmmmaffdenjaaEngCoreB
namespace Go.Proofs.Ytmcmmmaffdenjaa
open Go.RowKit Eng
set_option linter.unusedVariables false
set_option linter.unusedSimpArgs false
set_option maxHeartbeats 8000000
attribute [local irreducible] SC SQ J Qt Calls Iterates
/-- The rows of a map that is given. -/
def RowsG (w : World) (M : List (Int × Row)) : Prop := ∀ q ∈ M, ∃ A c, q.2.1 = .slice A q.2.2.length c ∧ RS w 6 odC A q.2.2
/-- A chart: what is in force at the points at which something is. -/
structure ChartP (f : Int → Od) (N : List (Int × Od)) : Prop where
  lk : ∀ k, lkG N k = if (f k).idn = 0 then none else some (f k)
  nd : (N.map (·.1)).Nodup
theorem ofP_ofP (l : List Od) (k : Int) : ofP (ofP l k) k = ofP l k := by
  unfold ofP
  rw [List.filter_filter]
  congr 1
  funext o
  simp
theorem fo_ofP (l : List Od) (k d : Int) : fo (ofP l k) k d = fo l k d := by
  unfold fo
  rw [ofP_ofP]
theorem fo_nil {l : List Od} {k d : Int} (h : ofP l k = []) : fo l k d = odZ := by
  unfold fo
  rw [h]
  rfl
/-- Behind the points of P. -/
structure onI (f : Int → Od) (M : List (Int × Row)) (left : List (Int × Row)) (N : List (Int × Od)) : Prop where
  perm : ∃ P, (P ++ left).Perm M ∧ (∀ k, lkG N k = if k ∈ P.map (·.1) then (if (f k).idn = 0 then none else some (f k)) else none)
  nd : (N.map (·.1)).Nodup
theorem onI_no {f : Int → Od} {M l1 l2 : List (Int × Row)} {N : List (Int × Od)} {k : Int} {r : Row} (h : onI f M (l1 ++ (k, r) :: l2) N) (h0 : (f k).idn = 0) (hM : (M.map (·.1)).Nodup) : onI f M (l1 ++ l2) N := by
  obtain ⟨⟨P, hP, hl⟩, hn⟩ := h
  refine ⟨⟨P ++ [(k, r)], ?_, fun k' => ?_⟩, hn⟩
  · refine List.Perm.trans ?_ hP
    rw [List.append_assoc]
    exact List.Perm.append_left P (List.perm_middle (l₁ := l1)).symm
  · rw [hl k']
    simp only [List.map_append, List.map_cons, List.map_nil, List.mem_append, List.mem_singleton]
    by_cases e : k' = k
    · subst e
      rw [h0]
      simp
    · simp only [e, or_false]
theorem onI_new {f : Int → Od} {M l1 l2 : List (Int × Row)} {N : List (Int × Od)} {k : Int} {r : Row} (h : onI f M (l1 ++ (k, r) :: l2) N) (hM : (M.map (·.1)).Nodup) : lkG N k = none := by
  obtain ⟨⟨P, hP, hl⟩, hn⟩ := h
  rw [hl k, if_neg]
  have h1 := (hP.map (·.1)).nodup_iff.2 hM
  rw [List.map_append, List.nodup_append] at h1
  intro hk
  exact h1.2.2 k hk k (by simp) rfl
theorem onI_yes {f : Int → Od} {M l1 l2 : List (Int × Row)} {N : List (Int × Od)} {k : Int} {r : Row} (h : onI f M (l1 ++ (k, r) :: l2) N) (h0 : ¬ (f k).idn = 0) (hM : (M.map (·.1)).Nodup) : onI f M (l1 ++ l2) (N ++ [(k, f k)]) := by
  have hk := onI_new h hM
  obtain ⟨⟨P, hP, hl⟩, hn⟩ := h
  refine ⟨⟨P ++ [(k, r)], ?_, fun k' => ?_⟩, ?_⟩
  · refine List.Perm.trans ?_ hP
    rw [List.append_assoc]
    exact List.Perm.append_left P (List.perm_middle (l₁ := l1)).symm
  · rw [lkG_app]
    simp only [List.map_append, List.map_cons, List.map_nil, List.mem_append, List.mem_singleton, lkG]
    by_cases e : k' = k
    · subst e; simp [h0, hk]
    · have e' : ¬ k = k' := fun h => e h.symm
      have hlk := hl k'
      simp only [e, or_false, if_neg e']
      cases h : lkG N k' with
      | none => rw [h] at hlk; exact hlk
      | some v => rw [h] at hlk; exact hlk
  · rw [List.map_append, List.nodup_append]
    refine ⟨hn, by simp, fun a ha b hb e => ?_⟩
    simp only [List.map_cons, List.map_nil, List.mem_singleton] at hb
    subst hb; subst e
    exact lkG_none.1 hk ha
theorem onI_end {f : Int → Od} {M : List (Int × Row)} {N : List (Int × Od)} (h : onI f M [] N) (h0 : ∀ k, k ∉ M.map (·.1) → (f k).idn = 0) : ChartP f N := by
  obtain ⟨⟨P, hP, hl⟩, hn⟩ := h
  refine ⟨fun k => ?_, hn⟩
  rw [hl k]
  rw [List.append_nil] at hP
  have hm : k ∈ P.map (·.1) ↔ k ∈ M.map (·.1) := (hP.map _).mem_iff
  by_cases hk : k ∈ P.map (·.1)
  · rw [if_pos hk]
  · rw [if_neg hk, if_pos (h0 k (fun h => hk (hm.2 h)))]
theorem on_c (b : Nat) (M : List (Int × Row)) (es : Array MapEntry) (clk : Nat) (l : List Od) (d : Int) (w : World) (hG : MapG w b .i64 (valsG rowV M) es clk) (hb : bpI l M) (hrow : RowsG w M) (hr : rightB l = true) (hd : dayI d) :
    Calls Try.prog 70 #[.map (some b), .int .i64 d] w fun e w' => ∃ x : Nat × List (Int × Od), ChartP (fun k => fo l k d) x.2 ∧ e = .returned (.map (some x.1)) ∧ St w Cold [haMap x.1 .i64 (valsG odV x.2)] w' := by
  have hrl := (rightB_iff l).1 hr
  have hrows : ∀ q ∈ M, q.2.2 = ofP l q.1 := fun q hq => by
    have h1 := hb.1 q.1
    rw [lkG_mem hb.2 hq] at h1
    exact h1
  have hnone : ∀ k, k ∉ M.map (·.1) → (fo l k d).idn = 0 := fun k hk => by
    have h1 := hb.1 k
    rw [lkG_none.2 hk] at h1
    rw [fo_nil h1.symm]
    rfl
  have hid : ∀ k, (fo l k d).idn ≠ 0 → idI k := fun k hk => by
    rcases fo_spec hrl.2 k d with ⟨h1, _⟩ | ⟨h1, h2, _⟩
    · rw [h1] at hk; exact absurd rfl hk
    · rw [← h2]; exact (okL_ok hrl.2 _ h1).1.2.1
  have hforce : ∀ q ∈ M, forceF (ofP l q.1) q.1 d = if (fo l q.1 d).idn = 0 then ((forceF (ofP l q.1) q.1 d).1, (forceF (ofP l q.1) q.1 d).2) else (fo l q.1 d, 0) := fun q hq => by
    split
    · rfl
    · rename_i h
      have hok : rightB (ofP l q.1) = true := (rightB_iff _).2 ⟨Nat.le_trans (ofP_len l q.1) hrl.1, okL_filter _ hrl.2⟩
      rw [forceF_ok ⟨hok, hid _ h, hd⟩ (by rw [fo_ofP]; exact h), fo_ofP]
  have hforce0 : ∀ q ∈ M, (fo l q.1 d).idn = 0 → (forceF (ofP l q.1) q.1 d).2 ≠ 0 := fun q hq h => by
    unfold forceF
    rw [fo_ofP, if_pos h]
    split <;> decide
  refine eng_start (n := 33) (args := [.map (some b), .int .i64 d]) tab tab_ok fns fns_ok [.tmp 4] Try.func70 rfl rfl rfl rfl ?_
  repeat' (first
   | (refine gJ ?_
      first
      | refine jmv rfl rfl rfl rfl rfl ?_
      | (refine gload rfl rfl ?_
         refine j_qe rfl rfl rfl ?_
         first
         | refine ⟨_, q_load_own rfl rfl rfl rfl (by (repeat (first | exact InL.here | apply InL.there))) (by first | rfl | assumption), ?_⟩
         | refine ⟨_, q_loadA_own rfl rfl rfl rfl (by (repeat (first | exact InL.here | apply InL.there))) (by rfl), ?_⟩
         | refine ⟨_, q_loadA_ext rfl rfl rfl rfl ⟨by assumption, (by first | exact id | assumption)⟩ (by rfl), ?_⟩
         | refine ⟨_, q_load_ext rfl rfl rfl rfl ⟨by assumption, (by first | exact id | assumption)⟩ (by first | rfl | assumption), ?_⟩
         | refine ⟨_, q_load_extb rfl rfl rfl rfl ⟨by assumption, (by first | exact id | assumption)⟩ (by rfl), ?_⟩
         | refine ⟨_, q_loadA_extb rfl rfl rfl rfl ⟨by assumption, (by first | exact id | assumption)⟩ (by rfl), ?_⟩
         | refine ⟨_, q_load_ext0 rfl rfl rfl rfl ⟨by assumption, (by first | exact id | assumption)⟩ (by rfl), ?_⟩)
      | refine jcmp rfl rfl rfl rfl rfl rfl rfl ?_
      | refine jextract rfl rfl rfl rfl rfl rfl ?_
      | (refine j_qe rfl rfl rfl ?_; refine ⟨_, q_len_mapG rfl rfl rfl rfl ⟨hG, fun h => h⟩, ?_⟩)
      | (refine gF ?_; refine j_makeMapN .i64 rfl rfl rfl rfl rfl rfl rfl ?_; intro bn)
      | (refine gF ?_; refine j_rangeG rfl rfl rfl rfl rfl rfl rfl ⟨hG, fun h => h⟩ ?_; intro br)
      | (refine gF ?_
         first
         | refine j_store rfl rfl rfl rfl rfl rfl rfl rfl (by (repeat (first | exact Upd.here | apply Upd.there))) (by rfl) ?_
         | (refine j_alloc rfl rfl rfl rfl rfl ?_; intro b))
      | (refine j_qe rfl rfl rfl ?_
         first
         | refine ⟨_, q_len_slice rfl rfl rfl rfl, ?_⟩))
   | (refine gSC ?_
      first
      | refine sc_seq ?_
      | refine sc_region ?_
      | (refine sc_cond rfl ?_ ?_ <;> intro hc <;> (first | (exact absurd hc (by decide)) | ((try simp only [decide_eq_true_eq, decide_eq_false_iff_not, Bool.not_eq_true', Bool.not_eq_false', Bool.not_true, Bool.not_false, ne_eq, Decidable.not_not] at hc) <;> first | (exfalso; omega) | (exact absurd trivial hc) | skip)))
      | refine sc_block ?_
      | refine sc_ret ?_
      | refine sc_exit ?_
      | refine sc_skip ?_)
   | (refine gSQ ?_
      first
      | refine sq_seq ?_
      | refine sq_blk ?_
      | refine sq_seq_ret ?_
      | refine sq_blk_ret ?_
      | refine sq_loop_ret ?_
      | refine sq_seq_exit ?_
      | refine sq_blk_hit ?_
      | refine sq_blk_miss rfl ?_
      | refine sq_loop_exit ?_
      | refine sq_ende (.inl rfl) rfl rfl ⟨_, (RVs.cons (RV.tmp rfl) (RVs.nil)), ?_⟩
      | refine sq_ende (.inr rfl) rfl rfl ⟨_, (RVs.cons (RV.tmp rfl) (RVs.nil)), ?_⟩)
   | refine j_nil ?_
   )
  refine sc_loop (ι := List (Int × Row) × Option (Int × Value) × List (Int × Od)) (fun i => (∀ x ∈ i.1, x ∈ M) ∧ onI (fun k => fo l k d) M i.1 i.2.2) (fun i => i.1.length) (fun i => [(1, .int .i64 d), (5, .map (some bn)), (14, .pointer (some ⟨br, 0, none⟩))]) (fun i => [haItG b br .i64 es clk (valsG rowV i.1) i.2.1, haMap bn .i64 (valsG odV i.2.2)]) (M, none, []) ⟨fun x hx => hx, ⟨[], List.Perm.refl _, fun k => by simp [lkG]⟩, by simp⟩ (by repeat (first | exact FSub.nil | refine FSub.cons rfl ?_ | refine FSub.conse rfl (by congr 1; omega) ?_)) (by repeat (first | exact LSub.nil | refine LSub.cons (by repeat (first | exact Rem.here | apply Rem.there)) ?_)) ?_
  rintro ⟨left, cur, N⟩ ⟨hsub, hI⟩
  dsimp only at hsub hI ⊢
  repeat' (first
   | (refine gJ ?_
      first
      | refine jmv rfl rfl rfl rfl rfl ?_
      | (refine gload rfl rfl ?_
         refine j_qe rfl rfl rfl ?_
         first
         | refine ⟨_, q_load_own rfl rfl rfl rfl (by (repeat (first | exact InL.here | apply InL.there))) (by first | rfl | assumption), ?_⟩
         | refine ⟨_, q_loadA_own rfl rfl rfl rfl (by (repeat (first | exact InL.here | apply InL.there))) (by rfl), ?_⟩
         | refine ⟨_, q_loadA_ext rfl rfl rfl rfl ⟨by assumption, (by first | exact id | assumption)⟩ (by rfl), ?_⟩
         | refine ⟨_, q_load_ext rfl rfl rfl rfl ⟨by assumption, (by first | exact id | assumption)⟩ (by first | rfl | assumption), ?_⟩
         | refine ⟨_, q_load_extb rfl rfl rfl rfl ⟨by assumption, (by first | exact id | assumption)⟩ (by rfl), ?_⟩
         | refine ⟨_, q_loadA_extb rfl rfl rfl rfl ⟨by assumption, (by first | exact id | assumption)⟩ (by rfl), ?_⟩
         | refine ⟨_, q_load_ext0 rfl rfl rfl rfl ⟨by assumption, (by first | exact id | assumption)⟩ (by rfl), ?_⟩)
      | refine jcmp rfl rfl rfl rfl rfl rfl rfl ?_
      | refine jextract rfl rfl rfl rfl rfl rfl ?_
      | (refine gF ?_
         first
         | refine j_store rfl rfl rfl rfl rfl rfl rfl rfl (by (repeat (first | exact Upd.here | apply Upd.there))) (by rfl) ?_
         | (refine j_alloc rfl rfl rfl rfl rfl ?_; intro b))
      | (refine j_qe rfl rfl rfl ?_
         first
         | refine ⟨_, q_len_slice rfl rfl rfl rfl, ?_⟩))
   | (refine gSC ?_
      first
      | refine sc_seq ?_
      | refine sc_region ?_
      | (refine sc_cond rfl ?_ ?_ <;> intro hc <;> (first | (exact absurd hc (by decide)) | ((try simp only [decide_eq_true_eq, decide_eq_false_iff_not, Bool.not_eq_true', Bool.not_eq_false', Bool.not_true, Bool.not_false, ne_eq, Decidable.not_not] at hc) <;> first | (exfalso; omega) | (exact absurd trivial hc) | skip)))
      | refine sc_block ?_
      | refine sc_ret ?_
      | refine sc_exit ?_
      | refine sc_skip ?_)
   | (refine gSQ ?_
      first
      | refine sq_seq ?_
      | refine sq_blk ?_
      | refine sq_seq_ret ?_
      | refine sq_blk_ret ?_
      | refine sq_loop_ret ?_
      | refine sq_seq_exit ?_
      | refine sq_blk_hit ?_
      | refine sq_blk_miss rfl ?_
      | refine sq_loop_exit ?_
      | refine sq_ende (.inl rfl) rfl rfl ⟨_, (RVs.cons (RV.tmp rfl) (RVs.nil)), ?_⟩
      | refine sq_ende (.inr rfl) rfl rfl ⟨_, (RVs.cons (RV.tmp rfl) (RVs.nil)), ?_⟩)
   | refine j_nil ?_
   )
  refine gJ ?_
  refine j_nextG rfl rfl rfl rfl rfl ⟨hG, fun h => h⟩ (by (repeat (first | exact InL.here | apply InL.there))) (fun _ _ _ => by (repeat (first | exact Upd.here | apply Upd.there))) ?_ ?_
  · intro hl0
    have : left = [] := List.map_eq_nil_iff.1 hl0
    subst this
    repeat' (first
     | (refine gJ ?_
        first
        | refine jmv rfl rfl rfl rfl rfl ?_
        | (refine gload rfl rfl ?_
           refine j_qe rfl rfl rfl ?_
           first
           | refine ⟨_, q_load_own rfl rfl rfl rfl (by (repeat (first | exact InL.here | apply InL.there))) (by first | rfl | assumption), ?_⟩
           | refine ⟨_, q_loadA_own rfl rfl rfl rfl (by (repeat (first | exact InL.here | apply InL.there))) (by rfl), ?_⟩
           | refine ⟨_, q_loadA_ext rfl rfl rfl rfl ⟨by assumption, (by first | exact id | assumption)⟩ (by rfl), ?_⟩
           | refine ⟨_, q_load_ext rfl rfl rfl rfl ⟨by assumption, (by first | exact id | assumption)⟩ (by first | rfl | assumption), ?_⟩
           | refine ⟨_, q_load_extb rfl rfl rfl rfl ⟨by assumption, (by first | exact id | assumption)⟩ (by rfl), ?_⟩
           | refine ⟨_, q_loadA_extb rfl rfl rfl rfl ⟨by assumption, (by first | exact id | assumption)⟩ (by rfl), ?_⟩
           | refine ⟨_, q_load_ext0 rfl rfl rfl rfl ⟨by assumption, (by first | exact id | assumption)⟩ (by rfl), ?_⟩)
        | refine jcmp rfl rfl rfl rfl rfl rfl rfl ?_
        | refine jextract rfl rfl rfl rfl rfl rfl ?_
        | (refine gF ?_
           first
           | refine j_store rfl rfl rfl rfl rfl rfl rfl rfl (by (repeat (first | exact Upd.here | apply Upd.there))) (by rfl) ?_
           | (refine j_alloc rfl rfl rfl rfl rfl ?_; intro b))
        | (refine j_qe rfl rfl rfl ?_
           first
           | refine ⟨_, q_len_slice rfl rfl rfl rfl, ?_⟩))
     | (refine gSC ?_
        first
        | refine sc_seq ?_
        | refine sc_region ?_
        | (refine sc_cond rfl ?_ ?_ <;> intro hc <;> (first | (exact absurd hc (by decide)) | ((try simp only [decide_eq_true_eq, decide_eq_false_iff_not, Bool.not_eq_true', Bool.not_eq_false', Bool.not_true, Bool.not_false, ne_eq, Decidable.not_not] at hc) <;> first | (exfalso; omega) | (exact absurd trivial hc) | skip)))
        | refine sc_block ?_
        | refine sc_ret ?_
        | refine sc_exit ?_
        | refine sc_skip ?_)
     | (refine gSQ ?_
        first
        | refine sq_seq ?_
        | refine sq_blk ?_
        | refine sq_seq_ret ?_
        | refine sq_blk_ret ?_
        | refine sq_loop_ret ?_
        | refine sq_seq_exit ?_
        | refine sq_blk_hit ?_
        | refine sq_blk_miss rfl ?_
        | refine sq_loop_exit ?_
        | refine sq_ende (.inl rfl) rfl rfl ⟨_, (RVs.cons (RV.tmp rfl) (RVs.nil)), ?_⟩
        | refine sq_ende (.inr rfl) rfl rfl ⟨_, (RVs.cons (RV.tmp rfl) (RVs.nil)), ?_⟩)
     | refine j_nil ?_
     )
    intro w' hS
    exact ⟨(bn, N), onI_end hI hnone, rfl, hS.sub (by repeat (first | exact LSub.refl | refine LSub.cons (by repeat (first | exact Rem.here | apply Rem.there)) ?_ | apply LSub.skip))⟩
  · intro l1 k v0 l2 hsp
    obtain ⟨l1', l2', rfl, h1', h2'⟩ := List.map_eq_append_iff.1 hsp
    obtain ⟨⟨k', r⟩, l3, rfl, h3, h4⟩ := List.map_eq_cons_iff.1 h2'
    injection h3 with h3 h5
    dsimp only at h3 h5
    subst h3; subst h5; subst h1'; subst h4
    have hq := hsub (k', r) (by simp)
    have hsub2 : ∀ x ∈ l1' ++ l3, x ∈ M := fun x hx => hsub x (by simp at hx ⊢; rcases hx with h | h <;> simp [h])
    obtain ⟨A2, c2, hv, hRS⟩ := hrow _ hq
    have hrk := hrows _ hq
    obtain ⟨v2, rs⟩ := r
    dsimp only at hv hrk hRS
    subst hv
    have hf := hforce _ hq
    have hf0 := hforce0 _ hq
    dsimp only at hf hf0
    have hlen : rs.length ≤ 1000000 := by rw [hrk]; have := ofP_len l k'; have := hrl.1; omega
    have hcall : ∀ w', RS w' 6 odC A2 rs → Calls Try.prog 23 #[.slice A2 rs.length c2, .int .i64 k', .int .i64 d] w' _ := fun w' h' => Force_c A2 c2 rs k' d w' (by omega) h'
    rw [← hrk] at hf hf0
    by_cases h0 : (fo l k' d).idn = 0
    · have hf1 := hf0 h0
      repeat' (first
       | (refine gJ ?_
          first
          | refine jmv rfl rfl rfl rfl rfl ?_
          | (refine gload rfl rfl ?_
             refine j_qe rfl rfl rfl ?_
             first
             | refine ⟨_, q_load_own rfl rfl rfl rfl (by (repeat (first | exact InL.here | apply InL.there))) (by first | rfl | assumption), ?_⟩
             | refine ⟨_, q_loadA_own rfl rfl rfl rfl (by (repeat (first | exact InL.here | apply InL.there))) (by rfl), ?_⟩
             | refine ⟨_, q_loadA_ext rfl rfl rfl rfl ⟨by assumption, (by first | exact id | assumption)⟩ (by rfl), ?_⟩
             | refine ⟨_, q_load_ext rfl rfl rfl rfl ⟨by assumption, (by first | exact id | assumption)⟩ (by first | rfl | assumption), ?_⟩
             | refine ⟨_, q_load_extb rfl rfl rfl rfl ⟨by assumption, (by first | exact id | assumption)⟩ (by rfl), ?_⟩
             | refine ⟨_, q_loadA_extb rfl rfl rfl rfl ⟨by assumption, (by first | exact id | assumption)⟩ (by rfl), ?_⟩
             | refine ⟨_, q_load_ext0 rfl rfl rfl rfl ⟨by assumption, (by first | exact id | assumption)⟩ (by rfl), ?_⟩)
          | refine jcmp rfl rfl rfl rfl rfl rfl rfl ?_
          | refine jextract rfl rfl rfl rfl rfl rfl ?_
          | (refine gcall rfl rfl ?_
             first
             | (refine j_qc (f := 23) rfl rfl rfl rfl rfl rfl rfl ?_; refine ⟨_, (fun w' hs => hcall w' (hRS.st hs)), ?_⟩))
          | (refine j_qe rfl rfl rfl ?_; refine ⟨_, q_entryG rfl rfl ⟨hG, fun h => h⟩ (by (repeat (first | exact InL.here | apply InL.there))), ?_⟩)
          | (refine gF ?_
             first
             | refine j_store rfl rfl rfl rfl rfl rfl rfl rfl (by (repeat (first | exact Upd.here | apply Upd.there))) (by rfl) ?_
             | (refine j_alloc rfl rfl rfl rfl rfl ?_; intro b))
          | (refine j_qe rfl rfl rfl ?_
             first
             | refine ⟨_, q_len_slice rfl rfl rfl rfl, ?_⟩))
       | (refine gSC ?_
          first
          | refine sc_seq ?_
          | refine sc_region ?_
          | (refine sc_cond rfl ?_ ?_ <;> intro hc <;> (first | (exact absurd hc (by decide)) | ((try simp only [decide_eq_true_eq, decide_eq_false_iff_not, Bool.not_eq_true', Bool.not_eq_false', Bool.not_true, Bool.not_false, ne_eq, Decidable.not_not] at hc) <;> first | (exfalso; omega) | (exact absurd trivial hc) | skip)))
          | refine sc_block ?_
          | refine sc_ret ?_
          | refine sc_exit ?_
          | refine sc_skip ?_)
       | (refine gSQ ?_
          first
          | refine sq_seq ?_
          | refine sq_blk ?_
          | refine sq_seq_ret ?_
          | refine sq_blk_ret ?_
          | refine sq_loop_ret ?_
          | refine sq_seq_exit ?_
          | refine sq_blk_hit ?_
          | refine sq_blk_miss rfl ?_
          | refine sq_loop_exit ?_
          | refine sq_ende (.inl rfl) rfl rfl ⟨_, (RVs.cons (RV.tmp rfl) (RVs.nil)), ?_⟩
          | refine sq_ende (.inr rfl) rfl rfl ⟨_, (RVs.cons (RV.tmp rfl) (RVs.nil)), ?_⟩)
       | refine j_nil ?_
       )
      exact sq_loop (l1' ++ l3, some (k', .slice A2 rs.length c2), N) ⟨hsub2, onI_no hI h0 hb.2⟩ (by simp) (by repeat (first | exact FSub.nil | refine FSub.cons rfl ?_ | refine FSub.conse rfl (by congr 1; omega) ?_)) (by dsimp only; rw [show valsG rowV (l1' ++ l3) = List.map (fun q => (q.1, rowV q.2)) l1' ++ List.map (fun q => (q.1, rowV q.2)) l3 from List.map_append]; exact (by repeat (first | exact LSub.refl | refine LSub.cons (by repeat (first | exact Rem.here | apply Rem.there)) ?_ | apply LSub.skip)))
    · rw [if_neg h0] at hf
      rw [hf] at hcall
      have hnew := onI_new hI hb.2
      have hms := mset_new odV N k' (fo l k' d) hnew
      repeat' (first
       | (refine gJ ?_
          first
          | refine jmv rfl rfl rfl rfl rfl ?_
          | (refine gload rfl rfl ?_
             refine j_qe rfl rfl rfl ?_
             first
             | refine ⟨_, q_load_own rfl rfl rfl rfl (by (repeat (first | exact InL.here | apply InL.there))) (by first | rfl | assumption), ?_⟩
             | refine ⟨_, q_loadA_own rfl rfl rfl rfl (by (repeat (first | exact InL.here | apply InL.there))) (by rfl), ?_⟩
             | refine ⟨_, q_loadA_ext rfl rfl rfl rfl ⟨by assumption, (by first | exact id | assumption)⟩ (by rfl), ?_⟩
             | refine ⟨_, q_load_ext rfl rfl rfl rfl ⟨by assumption, (by first | exact id | assumption)⟩ (by first | rfl | assumption), ?_⟩
             | refine ⟨_, q_load_extb rfl rfl rfl rfl ⟨by assumption, (by first | exact id | assumption)⟩ (by rfl), ?_⟩
             | refine ⟨_, q_loadA_extb rfl rfl rfl rfl ⟨by assumption, (by first | exact id | assumption)⟩ (by rfl), ?_⟩
             | refine ⟨_, q_load_ext0 rfl rfl rfl rfl ⟨by assumption, (by first | exact id | assumption)⟩ (by rfl), ?_⟩)
          | refine jcmp rfl rfl rfl rfl rfl rfl rfl ?_
          | refine jextract rfl rfl rfl rfl rfl rfl ?_
          | (refine gcall rfl rfl ?_
             first
             | (refine j_qc (f := 23) rfl rfl rfl rfl rfl rfl rfl ?_; refine ⟨_, (fun w' hs => hcall w' (hRS.st hs)), ?_⟩))
          | (refine j_qe rfl rfl rfl ?_; refine ⟨_, q_entryG rfl rfl ⟨hG, fun h => h⟩ (by (repeat (first | exact InL.here | apply InL.there))), ?_⟩)
          | (refine gF ?_; refine j_mapUpdate (v := odV (fo l k' d)) rfl rfl rfl rfl rfl rfl rfl rfl rfl rfl (by (repeat (first | exact Upd.here | apply Upd.there))) ?_; rw [hms])
          | (refine gF ?_
             first
             | refine j_store rfl rfl rfl rfl rfl rfl rfl rfl (by (repeat (first | exact Upd.here | apply Upd.there))) (by rfl) ?_
             | (refine j_alloc rfl rfl rfl rfl rfl ?_; intro b))
          | (refine j_qe rfl rfl rfl ?_
             first
             | refine ⟨_, q_len_slice rfl rfl rfl rfl, ?_⟩))
       | (refine gSC ?_
          first
          | refine sc_seq ?_
          | refine sc_region ?_
          | (refine sc_cond rfl ?_ ?_ <;> intro hc <;> (first | (exact absurd hc (by decide)) | ((try simp only [decide_eq_true_eq, decide_eq_false_iff_not, Bool.not_eq_true', Bool.not_eq_false', Bool.not_true, Bool.not_false, ne_eq, Decidable.not_not] at hc) <;> first | (exfalso; omega) | (exact absurd trivial hc) | skip)))
          | refine sc_block ?_
          | refine sc_ret ?_
          | refine sc_exit ?_
          | refine sc_skip ?_)
       | (refine gSQ ?_
          first
          | refine sq_seq ?_
          | refine sq_blk ?_
          | refine sq_seq_ret ?_
          | refine sq_blk_ret ?_
          | refine sq_loop_ret ?_
          | refine sq_seq_exit ?_
          | refine sq_blk_hit ?_
          | refine sq_blk_miss rfl ?_
          | refine sq_loop_exit ?_
          | refine sq_ende (.inl rfl) rfl rfl ⟨_, (RVs.cons (RV.tmp rfl) (RVs.nil)), ?_⟩
          | refine sq_ende (.inr rfl) rfl rfl ⟨_, (RVs.cons (RV.tmp rfl) (RVs.nil)), ?_⟩)
       | refine j_nil ?_
       )
      exact sq_loop (l1' ++ l3, some (k', .slice A2 rs.length c2), N ++ [(k', fo l k' d)]) ⟨hsub2, onI_yes hI h0 hb.2⟩ (by simp) (by repeat (first | exact FSub.nil | refine FSub.cons rfl ?_ | refine FSub.conse rfl (by congr 1; omega) ?_)) (by dsimp only; rw [show valsG rowV (l1' ++ l3) = List.map (fun q => (q.1, rowV q.2)) l1' ++ List.map (fun q => (q.1, rowV q.2)) l3 from List.map_append]; exact (by repeat (first | exact LSub.refl | refine LSub.cons (by repeat (first | exact Rem.here | apply Rem.there)) ?_ | apply LSub.skip)))
end Go.Proofs.Ytmcmmmaffdenjaa
