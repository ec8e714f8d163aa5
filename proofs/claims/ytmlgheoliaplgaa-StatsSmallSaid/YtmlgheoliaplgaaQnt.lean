/-
  StatsQuantiles.
-/
import Derived.Test.YtmlgheoliaplgaaLnt
import Derived.Test.YtmlgheoliaplgaaRqu
import Derived.Test.YtmlgheoliaplgaaAw
namespace Go.Proofs.Ytmlgheoliaplgaa
open Go.RowKit Eng
set_option linter.unusedVariables false
set_option linter.unusedSimpArgs false
attribute [local irreducible] SC SQ J Qt Calls Iterates
attribute [local irreducible] sortI
theorem quantF_ok {l : List Int} {q : Nat} {x : Int} (h1 : l.length ≤ 10000) (h2 : 0 < l.length) (h3 : q ≤ 10000) (hx : (sortI l)[rank l.length q]? = some x) : quantF l q = (x, 0) := by
  unfold quantF
  rw [if_neg (by omega), if_neg (by omega), if_neg (by omega), show (q : Int).toNat = q from rfl, hx]
  rfl
theorem quant_all (A : Option Addr) (c : Nat) (l : List Int) (q : Int) (w : World) (hl : l.length ≤ 9223372036854775807) (h : SI w A c l) :
    Calls Try.prog 37 #[.slice A l.length c, .int .i64 q] w fun e w' => e = .returned (.tuple #[.int .i64 (quantF l q).1, .int .i64 (quantF l q).2]) ∧ Below w.heap.size w w' := by
  by_cases hb : 10000 < l.length ∨ (q < 0 ∨ 10000 < q) ∨ l.length = 0
  · exact quant_e A c l q w hl hb
  · obtain ⟨p, rfl⟩ : ∃ p : Nat, q = p := ⟨q.toNat, by omega⟩
    have hr := rank_lt (n := l.length) (q := p) (by omega) (by omega)
    obtain ⟨x, hx⟩ : ∃ x, (sortI l)[rank l.length p]? = some x := ⟨_, List.getElem?_eq_getElem (by rw [sort_len]; exact hr)⟩
    have h1 := quant_c A c l p w (by omega) (by omega) (by omega) h
    rw [quantF_ok (by omega) (by omega) (by omega) hx]
    rw [hx] at h1
    exact h1
theorem rquant_all (A : Option Addr) (c : Nat) (l : List Int) (q : Int) (w : World) (hl : l.length ≤ 9223372036854775807) (hsm : l.length ≤ 300 ∨ 10000 < l.length) (h : RS w 1 intC A l) :
    Calls Try.prog 48 #[.slice A l.length c, .int .i64 q] w fun e w' => e = .returned (.tuple #[.int .i64 (quantF l q).1, .int .i64 (quantF l q).2]) ∧ Below w.heap.size w w' := by
  by_cases hb : 10000 < l.length ∨ (q < 0 ∨ 10000 < q) ∨ l.length = 0
  · exact rquant_e A c l q w hl hb
  · obtain ⟨p, rfl⟩ : ∃ p : Nat, q = p := ⟨q.toNat, by omega⟩
    have hr := rank_lt (n := l.length) (q := p) (by omega) (by omega)
    obtain ⟨x, hx⟩ : ∃ x, (sortI l)[rank l.length p]? = some x := ⟨_, List.getElem?_eq_getElem (by rw [sort_len]; exact hr)⟩
    rw [quantF_ok (by omega) (by omega) (by omega) hx]
    exact rquant_c A c l p x w (by omega) (by omega) (by omega) h hx
set_option maxHeartbeats 4000000 in
theorem squant_c (A : Option Addr) (c : Nat) (l : List Int) (q : Int) (w : World) (hb : l.length * 8 ≤ 140737488351232) (hs : Sl A l.length c) (h : RS w 1 intC A l) :
    Calls Try.prog 17 #[.slice A l.length c, .int .i64 q] w fun e w' => e = .returned (.bool true) ∧ Below w.heap.size w w' := by
  by_cases hbig : 300 < l.length ∧ l.length ≤ 10000
  · generalize l.length = n at *
    refine eng_start (n := 45) (args := [.slice A n c, .int .i64 q]) tab tab_ok fns fns_ok [.tmp 4] Try.func17 rfl rfl rfl rfl ?_
    repeat' (first
     | (refine gJ ?_
        first
        | refine jmv rfl rfl rfl rfl rfl ?_
        | refine jcmp rfl rfl rfl rfl rfl rfl rfl ?_
        | refine jextract rfl rfl rfl rfl rfl rfl ?_
        | (refine j_qe rfl rfl rfl ?_
           first
           | refine ⟨_, q_pick_t rfl rfl rfl, ?_⟩
           | refine ⟨_, q_pick_f rfl rfl rfl, ?_⟩
           | refine ⟨_, q_len_slice rfl rfl rfl rfl, ?_⟩)
        | refine j_guard_undef rfl rfl rfl rfl rfl ?_
        | (refine j_guard rfl rfl rfl rfl rfl ?_ ?_ <;> intro hc <;> (first | (exact absurd hc (by decide)) | ((try simp only [decide_eq_true_eq, decide_eq_false_iff_not, Bool.not_eq_true', Bool.not_eq_false', Bool.not_true, Bool.not_false, ne_eq, Decidable.not_not] at hc) <;> first | (exfalso; omega) | (exact absurd trivial hc) | skip))))
     | (refine gSC ?_
        first
        | refine sc_seq ?_
        | refine sc_region ?_
        | (refine sc_cond rfl ?_ ?_ <;> intro hc <;> (first | (exact absurd hc (by decide)) | ((try simp only [decide_eq_true_eq, decide_eq_false_iff_not, Bool.not_eq_true', Bool.not_eq_false', Bool.not_true, Bool.not_false, ne_eq, Decidable.not_not] at hc) <;> first | (exfalso; omega) | (exact absurd trivial hc) | skip)))
        | refine sc_block ?_
        | refine sc_ret ?_
        | refine sc_exit ?_
        | refine sc_skip ?_)
     | (refine gSQ ?_
        first
        | refine sq_seq ?_
        | refine sq_blk ?_
        | refine sq_seq_ret ?_
        | refine sq_blk_ret ?_
        | refine sq_loop_ret ?_
        | refine sq_seq_exit ?_
        | refine sq_blk_hit ?_
        | refine sq_blk_miss rfl ?_
        | refine sq_loop_exit ?_
        | refine sq_ende (.inl rfl) rfl rfl ⟨_, (RVs.cons (RV.tmp rfl) (RVs.nil)), ?_⟩
        | refine sq_ende (.inr rfl) rfl rfl ⟨_, (RVs.cons (RV.tmp rfl) (RVs.nil)), ?_⟩)
     | refine j_nil ?_
     )
    (intro w' hS; refine ⟨?_, hS.below⟩; simp only [pack])
  · have hlent := fun w' h => lent_c A c l w' hb hs h
    have hkept := fun ad c2 w' (hc : l.length + 12 ≤ c2) hL h => kept_c ad c2 A c l w' (by omega) hc hL h
    have hq := fun A c w' h => quant_all A c l q w' (by omega) h
    have hr := fun w' h => rquant_all A c l q w' (by omega) (by omega) h
    have hlm : (l ++ marks).length = l.length + 12 := by rw [List.length_append]; rfl
    generalize quantF l q = X at *
    obtain ⟨n, hn⟩ : ∃ n, l.length = n := ⟨_, rfl⟩
    have htk : (l ++ marks).take n = l := by rw [← hn]; exact List.take_left
    rw [hn] at hlent hkept hq hr hlm hbig hb ⊢
    refine eng_start (n := 45) (args := [.slice A n c, .int .i64 q]) tab tab_ok fns fns_ok [.tmp 4] Try.func17 rfl rfl rfl rfl ?_
    repeat' (first
     | (refine gJ ?_
        first
        | refine jmv rfl rfl rfl rfl rfl ?_
        | refine jcmp rfl rfl rfl rfl rfl rfl rfl ?_
        | refine jextract rfl rfl rfl rfl rfl rfl ?_
        | (refine gcall rfl rfl ?_
           first
           | (refine j_qc (f := 37) rfl rfl rfl rfl rfl rfl rfl ?_; refine ⟨_, (fun w' hs => hq _ _ w' (by have h9 := (rs_own (f := intC) (fun _ => rfl) hs (n := n + 12) (l := l ++ marks) (by (repeat (first | exact InL.here | apply InL.there))) hlm.symm rfl).take n; rw [htk] at h9; exact ⟨h9, fun e => by cases e⟩)), ?_⟩)
           | (refine j_qc (f := 48) rfl rfl rfl rfl rfl rfl rfl ?_; refine ⟨_, (fun w' hs => hr w' (h.st hs)), ?_⟩)
           | (refine j_qc (f := 49) rfl rfl rfl rfl rfl rfl rfl ?_; refine ⟨_, (fun w' hs => hkept ad2 c2 w' hc2 (rs_own (f := intC) (fun _ => rfl) hs (n := n + 12) (l := l ++ marks) (by (repeat (first | exact InL.here | apply InL.there))) hlm.symm rfl) (h.st hs)), ?_⟩))
        | (refine gcall rfl rfl ?_; refine j_callN (f := 47) rfl rfl rfl rfl rfl rfl rfl (fun x : Addr × Nat => .slice (some x.1) n x.2) (fun x => n + 12 ≤ x.2) (fun x => [.own (.slice (some x.1) (n + 12) x.2) 3 1 (n + 12) ((l ++ marks).flatMap intC)]) (fun w' hs => hlent w' (h.st hs)) (fun _ => trivial) ?_; rintro ⟨ad2, c2⟩ hc2)
        | (refine j_qe rfl rfl rfl ?_
           first
           | refine ⟨_, q_pick_t rfl rfl rfl, ?_⟩
           | refine ⟨_, q_pick_f rfl rfl rfl, ?_⟩
           | refine ⟨_, q_len_slice rfl rfl rfl rfl, ?_⟩)
        | refine j_guard_undef rfl rfl rfl rfl rfl ?_
        | (refine j_guard rfl rfl rfl rfl rfl ?_ ?_ <;> intro hc <;> (first | (exact absurd hc (by decide)) | ((try simp only [decide_eq_true_eq, decide_eq_false_iff_not, Bool.not_eq_true', Bool.not_eq_false', Bool.not_true, Bool.not_false, ne_eq, Decidable.not_not] at hc) <;> first | (exfalso; omega) | (exact absurd trivial hc) | skip))))
     | (refine gSC ?_
        first
        | refine sc_seq ?_
        | refine sc_region ?_
        | (refine sc_cond rfl ?_ ?_ <;> intro hc <;> (first | (exact absurd hc (by decide)) | ((try simp only [decide_eq_true_eq, decide_eq_false_iff_not, Bool.not_eq_true', Bool.not_eq_false', Bool.not_true, Bool.not_false, ne_eq, Decidable.not_not] at hc) <;> first | (exfalso; omega) | (exact absurd trivial hc) | skip)))
        | refine sc_block ?_
        | refine sc_ret ?_
        | refine sc_exit ?_
        | refine sc_skip ?_)
     | (refine gSQ ?_
        first
        | refine sq_seq ?_
        | refine sq_blk ?_
        | refine sq_seq_ret ?_
        | refine sq_blk_ret ?_
        | refine sq_loop_ret ?_
        | refine sq_seq_exit ?_
        | refine sq_blk_hit ?_
        | refine sq_blk_miss rfl ?_
        | refine sq_loop_exit ?_
        | refine sq_ende (.inl rfl) rfl rfl ⟨_, (RVs.cons (RV.tmp rfl) (RVs.nil)), ?_⟩
        | refine sq_ende (.inr rfl) rfl rfl ⟨_, (RVs.cons (RV.tmp rfl) (RVs.nil)), ?_⟩)
     | refine j_nil ?_
     )
    all_goals (intro w' hS; refine ⟨?_, hS.below⟩; simp only [pack])
theorem quants_c (A : Option Addr) (c : Nat) (l : List Int) (q : Int) (w : World) (hb : l.length * 8 ≤ 140737488351232) (hs : Sl A l.length c) (h : RS w 1 intC A l) :
    Calls Try.prog 5 #[.slice A l.length c, .int .i64 q] w fun e w' => e = .returned (.bool true) ∧ Below w.heap.size w w' := by
  have hcl := fun w' h => squant_c A c l q w' hb hs h
  generalize l.length = n at *
  refine eng_start (n := 11) (args := [.slice A n c, .int .i64 q]) tab tab_ok fns fns_ok [.tmp 4] Try.func5 rfl rfl rfl rfl ?_
  repeat' (first
   | (refine gJ ?_
      first
      | refine jmv rfl rfl rfl rfl rfl ?_
      | (refine gcall rfl rfl ?_
         first
         | (refine j_qc (f := 14) rfl rfl rfl rfl rfl rfl rfl ?_; refine ⟨_, (fun w' _ => awake_c w'), ?_⟩)
         | (refine j_qc (f := 17) rfl rfl rfl rfl rfl rfl rfl ?_; refine ⟨_, (fun w' hs => hcl w' (h.st hs)), ?_⟩))
      | (refine j_qe rfl rfl rfl ?_
         first
         | refine ⟨_, q_pick_t rfl rfl rfl, ?_⟩
         | refine ⟨_, q_pick_f rfl rfl rfl, ?_⟩)
      | refine j_guard_undef rfl rfl rfl rfl rfl ?_
      | (refine j_guard rfl rfl rfl rfl rfl ?_ ?_ <;> intro hc <;> (first | (exact absurd hc (by decide)) | ((try simp only [decide_eq_true_eq, decide_eq_false_iff_not, Bool.not_eq_true', Bool.not_eq_false', Bool.not_true, Bool.not_false, ne_eq, Decidable.not_not] at hc) <;> first | (exfalso; omega) | (exact absurd trivial hc) | skip))))
   | (refine gSC ?_
      first
      | refine sc_seq ?_
      | refine sc_region ?_
      | (refine sc_cond rfl ?_ ?_ <;> intro hc <;> (first | (exact absurd hc (by decide)) | ((try simp only [decide_eq_true_eq, decide_eq_false_iff_not, Bool.not_eq_true', Bool.not_eq_false', Bool.not_true, Bool.not_false, ne_eq, Decidable.not_not] at hc) <;> first | (exfalso; omega) | (exact absurd trivial hc) | skip)))
      | refine sc_block ?_
      | refine sc_ret ?_
      | refine sc_exit ?_
      | refine sc_skip ?_)
   | (refine gSQ ?_
      first
      | refine sq_seq ?_
      | refine sq_blk ?_
      | refine sq_seq_ret ?_
      | refine sq_blk_ret ?_
      | refine sq_loop_ret ?_
      | refine sq_seq_exit ?_
      | refine sq_blk_hit ?_
      | refine sq_blk_miss rfl ?_
      | refine sq_loop_exit ?_
      | refine sq_ende (.inl rfl) rfl rfl ⟨_, (RVs.cons (RV.tmp rfl) (RVs.nil)), ?_⟩
      | refine sq_ende (.inr rfl) rfl rfl ⟨_, (RVs.cons (RV.tmp rfl) (RVs.nil)), ?_⟩)
   | refine j_nil ?_
   )
  (intro w' hS; refine ⟨?_, hS.below⟩; simp only [pack])
end Go.Proofs.Ytmlgheoliaplgaa
