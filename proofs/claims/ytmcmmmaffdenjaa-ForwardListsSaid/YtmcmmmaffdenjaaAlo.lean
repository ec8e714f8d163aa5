/-
  forward: along.
-/
import Derived.Test.YtmcmmmaffdenjaaOn
import Derived.Test.YtmcmmmaffdenjaaEngCoreB
namespace Go.Proofs.Ytmcmmmaffdenjaa
open Go.RowKit Eng
set_option linter.unusedVariables false
set_option linter.unusedSimpArgs false
set_option maxHeartbeats 8000000
attribute [local irreducible] SC SQ J Qt Calls Iterates
def chF (N : List (Int × Od)) (k : Int) : Od := (lkG N k).getD odZ
abbrev encP (x : Int × Od) : List Value := [.int .i64 x.1, odV x.2]
theorem chF_v (N : List (Int × Od)) (k : Int) (z : Value) (hz : z = odV odZ) : (mlk (valsG odV N) k).getD z = odV (chF N k) := by
  rw [mlk_vals, hz]
  unfold chF
  cases lkG N k <;> rfl
theorem along_c (b : Nat) (p : Int) (w : World) :
    Calls Try.prog 87 #[.map (some b), .int .i64 p] w fun e w' => ∃ x : Nat × Nat, True ∧ e = .returned (.func (.func 96) #[] #[.pointer (some ⟨x.1, 0, none⟩), .pointer (some ⟨x.2, 0, none⟩)]) ∧ St w Cold [.cells x.2 3 [.int .i64 p], .cells x.1 108 [.map (some b)]] w' := by
  revert b
  intro bm
  refine eng_start (n := 6) (args := [.map (some bm), .int .i64 p]) tab tab_ok fns fns_ok [.tmp 4] Try.func87 rfl rfl rfl rfl ?_
  repeat' (first
   | (refine gJ ?_
      first
      | refine jmv rfl rfl rfl rfl rfl ?_
      | (refine gF ?_
         first
         | (refine j_box rfl rfl rfl rfl rfl ?_; intro b))
      | (refine j_qe rfl rfl rfl ?_
         first
         | refine ⟨_, q_makeFunc rfl rfl, ?_⟩))
   | (refine gSC ?_
      first
      | refine sc_seq ?_
      | refine sc_region ?_
      | (refine sc_cond rfl ?_ ?_ <;> intro hc <;> (first | (exact absurd hc (by decide)) | ((try simp only [decide_eq_true_eq, decide_eq_false_iff_not, Bool.not_eq_true', Bool.not_eq_false', Bool.not_true, Bool.not_false, ne_eq, Decidable.not_not] at hc) <;> first | (exfalso; omega) | (exact absurd trivial hc) | skip)))
      | refine sc_block ?_
      | refine sc_ret ?_
      | refine sc_exit ?_
      | refine sc_skip ?_)
   | (refine gSQ ?_
      first
      | refine sq_seq ?_
      | refine sq_blk ?_
      | refine sq_seq_ret ?_
      | refine sq_blk_ret ?_
      | refine sq_loop_ret ?_
      | refine sq_seq_exit ?_
      | refine sq_blk_hit ?_
      | refine sq_blk_miss rfl ?_
      | refine sq_loop_exit ?_
      | refine sq_ende (.inl rfl) rfl rfl ⟨_, (RVs.cons (RV.tmp rfl) (RVs.nil)), ?_⟩
      | refine sq_ende (.inr rfl) rfl rfl ⟨_, (RVs.cons (RV.tmp rfl) (RVs.nil)), ?_⟩)
   | refine j_nil ?_
   )
  revert b; intro bp; revert b; intro bc
  intro w' hS
  exact ⟨(bc, bp), trivial, rfl, hS.sub (by repeat (first | exact LSub.nil | refine LSub.cons (by repeat (first | exact Rem.here | apply Rem.there)) ?_))⟩
theorem along1_it (w0 W : World) (bc bp b : Nat) (p : Int) (N : List (Int × Od)) (es : Array MapEntry) (clk : Nat) (n : Nat) (LL : List HA) (hS : St w0 Cold ([.cells bp 3 [.int .i64 p], .cells bc 108 [.map (some b)]] ++ LL) W) (hG : MapG w0 b .i64 (valsG odV N) es clk) :
    IteratesE Try.prog 96 [.pointer (some ⟨bc, 0, none⟩), .pointer (some ⟨bp, 0, none⟩)] encP (fun _ => True) (along (chF N) n p) W (foots LL) (foots [.cells bp 3 [.int .i64 p], .cells bc 108 [.map (some b)]]) := by
  intro τ Jn stp live s0 la hcons hl0 hJ0 hstop
  have hGW : MapG W b .i64 (valsG odV N) es clk := hG.st hS
  have hcold : ¬ (foots LL b ∨ foots [.cells bp 3 [.int .i64 p], .cells bc 108 [.map (some b)]] b) := by
    intro h
    have h1 : foots ([.cells bp 3 [.int .i64 p], .cells bc 108 [.map (some b)]] ++ LL) b := by
      rcases h with ⟨x, hx, hb⟩ | ⟨x, hx, hb⟩
      · exact ⟨x, List.mem_append_right _ hx, hb⟩
      · exact ⟨x, List.mem_append_left _ hx, hb⟩
    rcases (foots_old (B := 0) hS h1).1 with h2 | h2
    · have := hG.lt; omega
    · exact h2
  have hab : ∀ S q, HA.abs S q ∈ [HA.cells bp 3 [.int .i64 p], .cells bc 108 [.map (some b)]] → ∀ u u' : World, q u → (∀ b, S b → u'.heap[b]? = u.heap[b]?) → q u' := fun S q hm => by simp at hm
  have hout : ∀ (s : τ) (S' : Nat → Prop) (q : Int) (L1 : List HA) (w' : World), St W (fun k => foots LL k ∨ foots [.cells bp 3 [.int .i64 p], .cells bc 108 [.map (some b)]] k) (.abs S' (Jn s S') :: .cells bp 3 [.int .i64 q] :: .cells bc 108 [.map (some b)] :: []) w' → ∃ S', Jn s S' w' ∧ ∀ k, S' k → foots LL k ∨ W.heap.size ≤ k := by
    intro s S' q L1 w' hs
    have h9 := hs.at (x := .abs S' (Jn s S')) (by (repeat (first | exact InL.here | apply InL.there)))
    refine ⟨S', h9.2.1, fun k hk => ?_⟩
    rcases (h9.1 k hk).1 with h | h | ⟨x, hx, hxk⟩
    · exact .inr h
    · exact .inl h
    · exfalso
      simp only [List.mem_cons, List.mem_nil_iff, or_false] at hx
      rcases hx with rfl | rfl
      · exact pw_apart hs.sep (x := .abs S' (Jn s S')) (y := .cells bp 3 [.int .i64 q]) (by simp) (by simp) (fun e => by cases e) k hk hxk
      · exact pw_apart hs.sep (x := .abs S' (Jn s S')) (y := .cells bc 108 [.map (some b)]) (by simp) (by simp) (fun e => by cases e) k hk hxk
  refine eng_start_lent (n := 20) (args := [.func (.yield la) #[] #[], .pointer (some ⟨bc, 0, none⟩), .pointer (some ⟨bp, 0, none⟩)]) tab tab_ok fns fns_ok [] _ _ Try.func96 rfl rfl rfl rfl (hcons.startE hS hab hJ0) ?_
  repeat' (first
   | (refine gJ ?_
      first
      | refine jmv rfl rfl rfl rfl rfl ?_
      | (refine gload rfl rfl ?_
         refine j_qe rfl rfl rfl ?_
         first
         | refine ⟨_, q_load_own rfl rfl rfl rfl (by (repeat (first | exact InL.here | apply InL.there))) (by first | rfl | assumption), ?_⟩
         | refine ⟨_, q_loadA_own rfl rfl rfl rfl (by (repeat (first | exact InL.here | apply InL.there))) (by rfl), ?_⟩
         | refine ⟨_, q_loadA_ext rfl rfl rfl rfl ⟨by assumption, (by first | exact id | assumption)⟩ (by rfl), ?_⟩
         | refine ⟨_, q_load_ext rfl rfl rfl rfl ⟨by assumption, (by first | exact id | assumption)⟩ (by first | rfl | assumption), ?_⟩
         | refine ⟨_, q_load_extb rfl rfl rfl rfl ⟨by assumption, (by first | exact id | assumption)⟩ (by rfl), ?_⟩
         | refine ⟨_, q_loadA_extb rfl rfl rfl rfl ⟨by assumption, (by first | exact id | assumption)⟩ (by rfl), ?_⟩
         | refine ⟨_, q_load_ext0 rfl rfl rfl rfl ⟨by assumption, (by first | exact id | assumption)⟩ (by rfl), ?_⟩)
      | refine jfield rfl rfl rfl rfl rfl rfl rfl rfl ?_
      | refine jcmp rfl rfl rfl rfl rfl rfl rfl ?_
      | (refine gF ?_
         first
         | refine j_store rfl rfl rfl rfl rfl rfl rfl rfl (by (repeat (first | exact Upd.here | apply Upd.there))) (by rfl) ?_
         | (refine j_alloc rfl rfl rfl rfl rfl ?_; intro b))
      | (refine j_qe rfl rfl rfl ?_
         first
         | refine ⟨_, q_pick_t rfl rfl rfl, ?_⟩
         | refine ⟨_, q_pick_f rfl rfl rfl, ?_⟩
         | refine ⟨_, q_not rfl rfl, ?_⟩
         | refine ⟨_, q_field_ext rfl rfl rfl rfl rfl, ?_⟩)
      | refine j_guard_undef rfl rfl rfl rfl rfl ?_
      | (refine j_guard rfl rfl rfl rfl rfl ?_ ?_ <;> intro hc <;> (first | (exact absurd hc (by decide)) | ((try simp only [decide_eq_true_eq, decide_eq_false_iff_not, Bool.not_eq_true', Bool.not_eq_false', Bool.not_true, Bool.not_false, ne_eq, Decidable.not_not] at hc) <;> first | (exfalso; omega) | (exact absurd trivial hc) | skip))))
   | (refine gSC ?_
      first
      | refine sc_seq ?_
      | refine sc_region ?_
      | (refine sc_cond rfl ?_ ?_ <;> intro hc <;> (first | (exact absurd hc (by decide)) | ((try simp only [decide_eq_true_eq, decide_eq_false_iff_not, Bool.not_eq_true', Bool.not_eq_false', Bool.not_true, Bool.not_false, ne_eq, Decidable.not_not] at hc) <;> first | (exfalso; omega) | (exact absurd trivial hc) | skip)))
      | refine sc_block ?_
      | refine sc_ret ?_
      | refine sc_exit ?_
      | refine sc_skip ?_)
   | (refine gSQ ?_
      first
      | refine sq_seq ?_
      | refine sq_blk ?_
      | refine sq_seq_ret ?_
      | refine sq_blk_ret ?_
      | refine sq_loop_ret ?_
      | refine sq_seq_exit ?_
      | refine sq_blk_hit ?_
      | refine sq_blk_miss rfl ?_
      | refine sq_loop_exit ?_
      | refine sq_ende (.inl rfl) rfl rfl ⟨_, (RVs.nil), ?_⟩
      | refine sq_ende (.inr rfl) rfl rfl ⟨_, (RVs.nil), ?_⟩)
   | refine j_nil ?_
   )
  refine sc_loop (ι := Nat × Int × τ × (Nat → Prop)) (fun i => (∃ j, (along (chF N) n p).drop j = along (chF N) i.1 i.2.1 ∧ i.2.2.1 = trc stp s0 ((along (chF N) n p).take j)) ∧ live i.2.2.1 ∧ stopsB stp i.2.2.1 (along (chF N) i.1 i.2.1) ∧ runsB stp s0 (along (chF N) n p) = runsB stp i.2.2.1 (along (chF N) i.1 i.2.1)) (fun i => i.1) (fun i => [(0, .func (.yield la) #[] #[]), (1, .pointer (some ⟨bc, 0, none⟩)), (2, .pointer (some ⟨bp, 0, none⟩))]) (fun i => [.abs i.2.2.2 (Jn i.2.2.1 i.2.2.2), .cells bp 3 [.int .i64 i.2.1], .cells bc 108 [.map (some b)]]) (n, p, s0, foots LL) ⟨⟨0, rfl, rfl⟩, hl0, hstop, rfl⟩ (by repeat (first | exact FSub.nil | refine FSub.cons rfl ?_ | refine FSub.conse rfl (by congr 1; omega) ?_)) (by repeat (first | exact LSub.nil | refine LSub.cons (by repeat (first | exact Rem.here | apply Rem.there)) ?_)) ?_
  rintro ⟨m, q, s, S⟩ ⟨⟨ix, hdr, htr⟩, hlive, hst, hr⟩
  dsimp only at hlive hst hr hdr htr ⊢
  have hget : (along (chF N) n p)[ix]? = some (q, chF N q) := by
    have h : ((along (chF N) n p).drop ix)[0]? = some (q, chF N q) := by rw [hdr]; cases m <;> rfl
    rw [List.getElem?_drop] at h
    exact h
  have hat : Att stp s0 (along (chF N) n p) s (q, chF N q) := ⟨ix, hget, htr⟩
  have hval := chF_v N q (odV odZ) rfl
  cases hsq : (stp s (q, chF N q)).2 with
  | false =>
    have hres : runsB stp s0 (along (chF N) n p) = (stp s (q, chF N q)).1 := by
      rw [hr]
      cases m with
      | zero => exact runsB_cons_f hsq
      | succ m => exact runsB_cons_f hsq
    repeat' (first
     | (refine gJ ?_
        first
        | refine jmv rfl rfl rfl rfl rfl ?_
        | (refine gload rfl rfl ?_
           refine j_qe rfl rfl rfl ?_
           first
           | refine ⟨_, q_load_own rfl rfl rfl rfl (by (repeat (first | exact InL.here | apply InL.there))) (by first | rfl | assumption), ?_⟩
           | refine ⟨_, q_loadA_own rfl rfl rfl rfl (by (repeat (first | exact InL.here | apply InL.there))) (by rfl), ?_⟩
           | refine ⟨_, q_loadA_ext rfl rfl rfl rfl ⟨by assumption, (by first | exact id | assumption)⟩ (by rfl), ?_⟩
           | refine ⟨_, q_load_ext rfl rfl rfl rfl ⟨by assumption, (by first | exact id | assumption)⟩ (by first | rfl | assumption), ?_⟩
           | refine ⟨_, q_load_extb rfl rfl rfl rfl ⟨by assumption, (by first | exact id | assumption)⟩ (by rfl), ?_⟩
           | refine ⟨_, q_loadA_extb rfl rfl rfl rfl ⟨by assumption, (by first | exact id | assumption)⟩ (by rfl), ?_⟩
           | refine ⟨_, q_load_ext0 rfl rfl rfl rfl ⟨by assumption, (by first | exact id | assumption)⟩ (by rfl), ?_⟩)
        | refine jfield rfl rfl rfl rfl rfl rfl rfl rfl ?_
        | refine jcmp rfl rfl rfl rfl rfl rfl rfl ?_
        | (refine j_qe rfl rfl rfl ?_; refine ⟨_, q_lookupG rfl rfl rfl rfl rfl rfl rfl rfl ⟨hGW, hcold⟩ hval, ?_⟩)
        | (refine j_yieldW hcons rfl rfl rfl rfl rfl rfl (x := (q, chF N q)) hlive hat (fun w' hs => ⟨rfl, trivial⟩) (by (repeat (first | exact InL.here | apply InL.there))) (fun _ => by (repeat (first | exact Upd.here | apply Upd.there))) ?_; intro S'; rw [hsq])
        | (refine gF ?_
           first
           | refine j_store rfl rfl rfl rfl rfl rfl rfl rfl (by (repeat (first | exact Upd.here | apply Upd.there))) (by rfl) ?_
           | (refine j_alloc rfl rfl rfl rfl rfl ?_; intro b))
        | (refine j_qe rfl rfl rfl ?_
           first
           | refine ⟨_, q_pick_t rfl rfl rfl, ?_⟩
           | refine ⟨_, q_pick_f rfl rfl rfl, ?_⟩
           | refine ⟨_, q_not rfl rfl, ?_⟩
           | refine ⟨_, q_field_ext rfl rfl rfl rfl rfl, ?_⟩)
        | refine j_guard_undef rfl rfl rfl rfl rfl ?_
        | (refine j_guard rfl rfl rfl rfl rfl ?_ ?_ <;> intro hc <;> (first | (exact absurd hc (by decide)) | ((try simp only [decide_eq_true_eq, decide_eq_false_iff_not, Bool.not_eq_true', Bool.not_eq_false', Bool.not_true, Bool.not_false, ne_eq, Decidable.not_not] at hc) <;> first | (exfalso; omega) | (exact absurd trivial hc) | skip))))
     | (refine gSC ?_
        first
        | refine sc_seq ?_
        | refine sc_region ?_
        | (refine sc_cond rfl ?_ ?_ <;> intro hc <;> (first | (exact absurd hc (by decide)) | ((try simp only [decide_eq_true_eq, decide_eq_false_iff_not, Bool.not_eq_true', Bool.not_eq_false', Bool.not_true, Bool.not_false, ne_eq, Decidable.not_not] at hc) <;> first | (exfalso; omega) | (exact absurd trivial hc) | skip)))
        | refine sc_block ?_
        | refine sc_ret ?_
        | refine sc_exit ?_
        | refine sc_skip ?_)
     | (refine gSQ ?_
        first
        | refine sq_seq ?_
        | refine sq_blk ?_
        | refine sq_seq_ret ?_
        | refine sq_blk_ret ?_
        | refine sq_loop_ret ?_
        | refine sq_seq_exit ?_
        | refine sq_blk_hit ?_
        | refine sq_blk_miss rfl ?_
        | refine sq_loop_exit ?_
        | refine sq_ende (.inl rfl) rfl rfl ⟨_, (RVs.nil), ?_⟩
        | refine sq_ende (.inr rfl) rfl rfl ⟨_, (RVs.nil), ?_⟩)
     | refine j_nil ?_
     )
    intro w' hS'
    refine ⟨⟨_, rfl⟩, hS'.near, ?_⟩
    rw [hres]
    exact hout _ S' q [] w' (hS'.sub (by repeat (first | exact LSub.refl | refine LSub.cons (by repeat (first | exact Rem.here | apply Rem.there)) ?_ | apply LSub.skip)))
  | true =>
    cases m with
    | zero =>
      exfalso
      rcases hst with h | ⟨_, h⟩
      · rw [hsq] at h; cases h
      · exact h
    | succ m =>
      have h0 : ¬ (chF N q).to = 0 := by
        intro h0
        simp only [along, if_pos h0] at hst
        rcases hst with h | ⟨_, h⟩
        · rw [hsq] at h; cases h
        · exact h
      simp only [along, if_neg h0] at hst hr
      have hst2 : stopsB stp (stp s (q, chF N q)).1 (along (chF N) m (chF N q).to) := by
        rcases hst with h | ⟨_, h⟩
        · rw [hsq] at h; cases h
        · exact h
      rw [runsB_cons_t hsq] at hr
      have htr2 : (stp s (q, chF N q)).1 = trc stp s0 ((along (chF N) n p).take (ix + 1)) := by rw [trc_succ hget, ← htr]
      have hdr2 : (along (chF N) n p).drop (ix + 1) = along (chF N) m (chF N q).to := by
        rw [← List.tail_drop, hdr]
        simp only [along, if_neg h0, List.tail_cons]
      repeat' (first
       | (refine gJ ?_
          first
          | refine jmv rfl rfl rfl rfl rfl ?_
          | (refine gload rfl rfl ?_
             refine j_qe rfl rfl rfl ?_
             first
             | refine ⟨_, q_load_own rfl rfl rfl rfl (by (repeat (first | exact InL.here | apply InL.there))) (by first | rfl | assumption), ?_⟩
             | refine ⟨_, q_loadA_own rfl rfl rfl rfl (by (repeat (first | exact InL.here | apply InL.there))) (by rfl), ?_⟩
             | refine ⟨_, q_loadA_ext rfl rfl rfl rfl ⟨by assumption, (by first | exact id | assumption)⟩ (by rfl), ?_⟩
             | refine ⟨_, q_load_ext rfl rfl rfl rfl ⟨by assumption, (by first | exact id | assumption)⟩ (by first | rfl | assumption), ?_⟩
             | refine ⟨_, q_load_extb rfl rfl rfl rfl ⟨by assumption, (by first | exact id | assumption)⟩ (by rfl), ?_⟩
             | refine ⟨_, q_loadA_extb rfl rfl rfl rfl ⟨by assumption, (by first | exact id | assumption)⟩ (by rfl), ?_⟩
             | refine ⟨_, q_load_ext0 rfl rfl rfl rfl ⟨by assumption, (by first | exact id | assumption)⟩ (by rfl), ?_⟩)
          | refine jfield rfl rfl rfl rfl rfl rfl rfl rfl ?_
          | refine jcmp rfl rfl rfl rfl rfl rfl rfl ?_
          | (refine j_qe rfl rfl rfl ?_; refine ⟨_, q_lookupG rfl rfl rfl rfl rfl rfl rfl rfl ⟨hGW, hcold⟩ hval, ?_⟩)
          | (refine j_yieldW hcons rfl rfl rfl rfl rfl rfl (x := (q, chF N q)) hlive hat (fun w' hs => ⟨rfl, trivial⟩) (by (repeat (first | exact InL.here | apply InL.there))) (fun _ => by (repeat (first | exact Upd.here | apply Upd.there))) ?_; intro S'; rw [hsq])
          | (refine gF ?_
             first
             | refine j_store rfl rfl rfl rfl rfl rfl rfl rfl (by (repeat (first | exact Upd.here | apply Upd.there))) (by rfl) ?_
             | (refine j_alloc rfl rfl rfl rfl rfl ?_; intro b))
          | (refine j_qe rfl rfl rfl ?_
             first
             | refine ⟨_, q_pick_t rfl rfl rfl, ?_⟩
             | refine ⟨_, q_pick_f rfl rfl rfl, ?_⟩
             | refine ⟨_, q_not rfl rfl, ?_⟩
             | refine ⟨_, q_field_ext rfl rfl rfl rfl rfl, ?_⟩)
          | refine j_guard_undef rfl rfl rfl rfl rfl ?_
          | (refine j_guard rfl rfl rfl rfl rfl ?_ ?_ <;> intro hc <;> (first | (exact absurd hc (by decide)) | ((try simp only [decide_eq_true_eq, decide_eq_false_iff_not, Bool.not_eq_true', Bool.not_eq_false', Bool.not_true, Bool.not_false, ne_eq, Decidable.not_not] at hc) <;> first | (exfalso; omega) | (exact absurd trivial hc) | skip))))
       | (refine gSC ?_
          first
          | refine sc_seq ?_
          | refine sc_region ?_
          | (refine sc_cond rfl ?_ ?_ <;> intro hc <;> (first | (exact absurd hc (by decide)) | ((try simp only [decide_eq_true_eq, decide_eq_false_iff_not, Bool.not_eq_true', Bool.not_eq_false', Bool.not_true, Bool.not_false, ne_eq, Decidable.not_not] at hc) <;> first | (exfalso; omega) | (exact absurd trivial hc) | skip)))
          | refine sc_block ?_
          | refine sc_ret ?_
          | refine sc_exit ?_
          | refine sc_skip ?_)
       | (refine gSQ ?_
          first
          | refine sq_seq ?_
          | refine sq_blk ?_
          | refine sq_seq_ret ?_
          | refine sq_blk_ret ?_
          | refine sq_loop_ret ?_
          | refine sq_seq_exit ?_
          | refine sq_blk_hit ?_
          | refine sq_blk_miss rfl ?_
          | refine sq_loop_exit ?_
          | refine sq_ende (.inl rfl) rfl rfl ⟨_, (RVs.nil), ?_⟩
          | refine sq_ende (.inr rfl) rfl rfl ⟨_, (RVs.nil), ?_⟩)
       | refine j_nil ?_
       )
      exact sq_loop (m, (chF N q).to, (stp s (q, chF N q)).1, S') ⟨⟨ix + 1, hdr2, htr2⟩, hcons.goes _ _ hlive hsq, hst2, hr⟩ (by show m < m + 1; omega) (by repeat (first | exact FSub.nil | refine FSub.cons rfl ?_ | refine FSub.conse rfl (by congr 1; omega) ?_)) (by repeat (first | exact LSub.refl | refine LSub.cons (by repeat (first | exact Rem.here | apply Rem.there)) ?_ | apply LSub.skip))
end Go.Proofs.Ytmcmmmaffdenjaa
