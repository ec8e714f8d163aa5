/-
  The reference's Quantile.
-/
import Derived.Test.YtmlgheoliaplgaaRk
import Derived.Test.YtmlgheoliaplgaaEngOwn
namespace Go.Proofs.Ytmlgheoliaplgaa
open Go.RowKit Eng
set_option linter.unusedVariables false
set_option linter.unusedSimpArgs false
attribute [local irreducible] SC SQ J Qt Calls Iterates
attribute [local irreducible] sortI
/-- Whether enough numbers are at most as great. -/
def okQ (l : List Int) (q : Nat) (x : Int) : Bool := decide (q * l.length ≤ mostN l x * 10000)
def stQ (l : List Int) (q : Nat) (b : Option Int) (x : Int) : Option Int := if okQ l q x = true ∧ (∀ m, b = some m → x < m) then some x else b
theorem stQ_inv (l : List Int) (q : Nat) : ∀ (t : List Int) (b : Option Int), (∀ m, b = some m → okQ l q m = true) →
    (∀ m, t.foldl (stQ l q) b = some m → okQ l q m = true ∧ (m ∈ t ∨ b = some m) ∧ (∀ y ∈ t, okQ l q y = true → m ≤ y) ∧ (∀ m', b = some m' → m ≤ m')) ∧ (t.foldl (stQ l q) b = none → b = none ∧ ∀ y ∈ t, okQ l q y = false)
  | [], b, hb => ⟨fun m h => ⟨hb m h, .inr h, fun y hy => (by cases hy), fun m' h' => by rw [List.foldl_nil] at h; rw [h] at h'; injection h' with h'; omega⟩, fun h => ⟨h, fun y hy => by cases hy⟩⟩
  | x :: t, b, hb => by
    rw [List.foldl_cons]
    by_cases h : okQ l q x = true ∧ (∀ m, b = some m → x < m)
    · have e : stQ l q b x = some x := by unfold stQ; rw [if_pos h]
      rw [e]
      obtain ⟨h1, h2⟩ := stQ_inv l q t (some x) (fun m hm => by injection hm with hm; rw [← hm]; exact h.1)
      refine ⟨fun m hm => ?_, fun hn => ?_⟩
      · obtain ⟨a1, a2, a3, a4⟩ := h1 m hm
        have := a4 x rfl
        refine ⟨a1, ?_, fun y hy ho => ?_, fun m' hm' => ?_⟩
        · rcases a2 with a2 | a2
          · exact .inl (List.mem_cons_of_mem _ a2)
          · injection a2 with a2; exact .inl (a2 ▸ List.mem_cons_self)
        · rcases List.mem_cons.1 hy with rfl | hy
          · exact this
          · exact a3 y hy ho
        · have := h.2 m' hm'; omega
      · exact absurd (h2 hn).1 (by simp)
    · have e : stQ l q b x = b := by unfold stQ; rw [if_neg h]
      rw [e]
      obtain ⟨h1, h2⟩ := stQ_inv l q t b hb
      have hx : ∀ m, (∀ m', b = some m' → m ≤ m') → okQ l q x = true → (∃ m', b = some m') → m ≤ x := fun m hm ho ⟨m', hm'⟩ => by
        have h3 : ¬ ∀ m, b = some m → x < m := fun h4 => h ⟨ho, h4⟩
        have h5 : ¬ x < m' := fun h6 => h3 fun m'' h7 => by rw [hm'] at h7; injection h7 with h7; omega
        have := hm m' hm'
        omega
      refine ⟨fun m hm => ?_, fun hn => ?_⟩
      · obtain ⟨a1, a2, a3, a4⟩ := h1 m hm
        refine ⟨a1, a2.imp (List.mem_cons_of_mem _) id, fun y hy ho => ?_, a4⟩
        rcases List.mem_cons.1 hy with rfl | hy
        · cases hb' : b with
          | none => exact absurd ⟨ho, fun m h9 => by rw [hb'] at h9; cases h9⟩ h
          | some m' => exact hx m a4 ho ⟨m', hb'⟩
        · exact a3 y hy ho
      · obtain ⟨b1, b2⟩ := h2 hn
        refine ⟨b1, fun y hy => ?_⟩
        rcases List.mem_cons.1 hy with rfl | hy
        · cases hok : okQ l q y with
          | false => rfl
          | true => exact absurd ⟨hok, fun m h9 => by rw [b1] at h9; cases h9⟩ h
        · exact b2 y hy
theorem stQ_quant {l : List Int} {q : Nat} {x : Int} (hx : (sortI l)[rank l.length q]? = some x) : l.foldl (stQ l q) none = some x := by
  obtain ⟨_, hm, h3, h4⟩ := rank_facts (Nat.le_refl q) hx hx
  obtain ⟨h1, h2⟩ := stQ_inv l q l none (fun m h => by cases h)
  have hok : okQ l q x = true := by unfold okQ; rw [decide_eq_true_eq]; exact h3
  cases hf : l.foldl (stQ l q) none with
  | none => rw [(h2 hf).2 x hm] at hok; cases hok
  | some m =>
    obtain ⟨a1, a2, a3, _⟩ := h1 m hf
    have hmx := a3 x hm hok
    have hml : m ∈ l := a2.resolve_right (by simp)
    rcases Int.lt_or_le m x with h | h
    · exfalso
      have h5 := most_less l h
      unfold okQ at a1
      rw [decide_eq_true_eq] at a1
      have h6 : 0 < mostN l m := by
        unfold mostN
        rw [List.countP_pos_iff]
        exact ⟨m, hml, by simp⟩
      have := h4 (by omega)
      omega
    · rw [show m = x by omega]
theorem qmul (q n : Nat) (hq : q ≤ 10000) (hn : n ≤ 10000) : (q : Int) * n ≤ 100000000 ∧ 0 ≤ (q : Int) * n ∧ (q : Int) * n = ((q * n : Nat) : Int) := by
  refine ⟨?_, Int.mul_nonneg (by omega) (by omega), by rw [Int.natCast_mul]⟩
  have := Int.mul_le_mul (by omega : (q : Int) ≤ 10000) (by omega : (n : Int) ≤ 10000) (by omega) (by omega)
  omega
set_option maxHeartbeats 4000000 in
theorem rquant_c (A : Option Addr) (c : Nat) (l : List Int) (q : Nat) (x : Int) (w : World) (hl : l.length ≤ 300) (h0 : 0 < l.length) (hq : q ≤ 10000) (h : RS w 1 intC A l) (hx : (sortI l)[rank l.length q]? = some x) :
    Calls Try.prog 48 #[.slice A l.length c, .int .i64 q] w fun e w' => e = .returned (.tuple #[.int .i64 x, .int .i64 0]) ∧ Below w.heap.size w w' := by
  have hfold := stQ_quant hx
  clear hx
  obtain ⟨n, hn⟩ : ∃ n, l.length = n := ⟨_, rfl⟩
  obtain ⟨m1, m2, m3⟩ := qmul q n hq (by omega)
  have hokd : ∀ y, okQ l q y = decide ((q : Int) * n ≤ (mostN l y : Int) * 10000) := fun y => by
    unfold okQ
    rw [hn, decide_eq_decide, m3]
    omega
  have hmle := fun y => mostN_le l y
  rw [hn] at hl h0 hmle ⊢
  refine eng_start (n := 70) (args := [.slice A n c, .int .i64 q]) tab tab_ok fns fns_ok [.tmp 4, .tmp 5] Try.func48 rfl rfl rfl rfl ?_
  repeat' (first
   | (refine gJ ?_
      first
      | refine jmv rfl rfl rfl rfl rfl ?_
      | (refine gload rfl rfl ?_
         refine j_qe rfl rfl rfl ?_
         first
         | refine ⟨_, q_load_own rfl rfl rfl rfl (by (repeat (first | exact InL.here | apply InL.there))) (by first | rfl | assumption), ?_⟩
         | refine ⟨_, q_loadA_own rfl rfl rfl rfl (by (repeat (first | exact InL.here | apply InL.there))) (by rfl), ?_⟩
         | refine ⟨_, q_loadA_ext rfl rfl rfl rfl ⟨by assumption, (by first | exact id | assumption)⟩ (by rfl), ?_⟩
         | refine ⟨_, q_load_ext rfl rfl rfl rfl ⟨by assumption, (by first | exact id | assumption)⟩ (by first | rfl | assumption), ?_⟩
         | refine ⟨_, q_load_extb rfl rfl rfl rfl ⟨by assumption, (by first | exact id | assumption)⟩ (by rfl), ?_⟩
         | refine ⟨_, q_loadA_extb rfl rfl rfl rfl ⟨by assumption, (by first | exact id | assumption)⟩ (by rfl), ?_⟩
         | refine ⟨_, q_load_ext0 rfl rfl rfl rfl ⟨by assumption, (by first | exact id | assumption)⟩ (by rfl), ?_⟩)
      | refine jcmp rfl rfl rfl rfl rfl rfl rfl ?_
      | refine jar rfl rfl rfl rfl rfl rfl rfl (by omega) ?_
      | (refine j_qe rfl rfl rfl ?_
         first
         | refine ⟨_, q_pick_t rfl rfl rfl, ?_⟩
         | refine ⟨_, q_pick_f rfl rfl rfl, ?_⟩
         | refine ⟨_, q_not rfl rfl, ?_⟩
         | refine ⟨_, q_index_nat rfl rfl rfl rfl rfl (by omega), ?_⟩
         | refine ⟨_, q_index_slice rfl rfl rfl rfl rfl (by omega), ?_⟩
         | refine ⟨_, q_index_arr rfl rfl rfl rfl rfl (by omega), ?_⟩
         | refine ⟨_, q_index_arr_ext rfl rfl rfl rfl rfl (by omega), ?_⟩
         | refine ⟨_, q_len_slice rfl rfl rfl rfl, ?_⟩
         | refine ⟨_, q_addu8 rfl rfl rfl (by omega), ?_⟩)
      | refine j_guard_undef rfl rfl rfl rfl rfl ?_
      | (refine j_guard rfl rfl rfl rfl rfl ?_ ?_ <;> intro hc <;> (first | (exact absurd hc (by decide)) | ((try simp only [decide_eq_true_eq, decide_eq_false_iff_not, Bool.not_eq_true', Bool.not_eq_false', Bool.not_true, Bool.not_false, ne_eq, Decidable.not_not] at hc) <;> first | (exfalso; omega) | (exact absurd trivial hc) | skip))))
   | (refine gSC ?_
      first
      | refine sc_seq ?_
      | refine sc_region ?_
      | (refine sc_cond rfl ?_ ?_ <;> intro hc <;> (first | (exact absurd hc (by decide)) | ((try simp only [decide_eq_true_eq, decide_eq_false_iff_not, Bool.not_eq_true', Bool.not_eq_false', Bool.not_true, Bool.not_false, ne_eq, Decidable.not_not] at hc) <;> first | (exfalso; omega) | (exact absurd trivial hc) | skip)))
      | refine sc_block ?_
      | refine sc_ret ?_
      | refine sc_exit ?_
      | refine sc_skip ?_
      | refine sc_draw rfl mixed (by kernel_rfl) ?_)
   | (refine gSQ ?_
      first
      | refine sq_seq ?_
      | refine sq_blk ?_
      | refine sq_seq_ret ?_
      | refine sq_blk_ret ?_
      | refine sq_loop_ret ?_
      | refine sq_seq_exit ?_
      | refine sq_blk_hit ?_
      | refine sq_blk_miss rfl ?_
      | refine sq_loop_exit ?_
      | refine sq_ende (.inl rfl) rfl rfl ⟨_, (RVs.cons (RV.tmp rfl) (RVs.cons (RV.tmp rfl) (RVs.nil))), ?_⟩
      | refine sq_ende (.inr rfl) rfl rfl ⟨_, (RVs.cons (RV.tmp rfl) (RVs.cons (RV.tmp rfl) (RVs.nil))), ?_⟩)
   | refine j_nil ?_
   )
  refine sc_loop (ι := Nat) (fun k => k ≤ n) (fun k => n - k) (fun k => [(0, .slice A n c), (1, .int .i64 q), (6, .int .i64 (((l.take k).foldl (stQ l q) none).getD 0)), (7, .bool ((l.take k).foldl (stQ l q) none).isSome), (8, .int .i64 k)]) (fun _ => []) 0 (Nat.zero_le _) (by repeat (first | exact FSub.nil | refine FSub.cons rfl ?_ | refine FSub.conse rfl (by congr 1; omega) ?_)) (by repeat (first | exact LSub.nil | refine LSub.cons (by repeat (first | exact Rem.here | apply Rem.there)) ?_)) ?_
  intro k hk
  by_cases hlt : k < n
  · obtain ⟨y, hy⟩ : ∃ y, l[k]? = some y := ⟨_, List.getElem?_eq_getElem (by omega)⟩
    obtain ⟨ad, rfl, hX⟩ := h k y hy
    have hnext : (l.take (k + 1)).foldl (stQ l q) none = stQ l q ((l.take k).foldl (stQ l q) none) y := by rw [take_snoc hy, List.foldl_append]; rfl
    generalize (l.take k).foldl (stQ l q) none = b at *
    have hmy := hmle y
    have hoy := hokd y
    repeat' (first
     | (refine gJ ?_
        first
        | refine jmv rfl rfl rfl rfl rfl ?_
        | (refine gload rfl rfl ?_
           refine j_qe rfl rfl rfl ?_
           first
           | refine ⟨_, q_load_own rfl rfl rfl rfl (by (repeat (first | exact InL.here | apply InL.there))) (by first | rfl | assumption), ?_⟩
           | refine ⟨_, q_loadA_own rfl rfl rfl rfl (by (repeat (first | exact InL.here | apply InL.there))) (by rfl), ?_⟩
           | refine ⟨_, q_loadA_ext rfl rfl rfl rfl ⟨by assumption, (by first | exact id | assumption)⟩ (by rfl), ?_⟩
           | refine ⟨_, q_load_ext rfl rfl rfl rfl ⟨by assumption, (by first | exact id | assumption)⟩ (by first | rfl | assumption), ?_⟩
           | refine ⟨_, q_load_extb rfl rfl rfl rfl ⟨by assumption, (by first | exact id | assumption)⟩ (by rfl), ?_⟩
           | refine ⟨_, q_loadA_extb rfl rfl rfl rfl ⟨by assumption, (by first | exact id | assumption)⟩ (by rfl), ?_⟩
           | refine ⟨_, q_load_ext0 rfl rfl rfl rfl ⟨by assumption, (by first | exact id | assumption)⟩ (by rfl), ?_⟩)
        | refine jcmp rfl rfl rfl rfl rfl rfl rfl ?_
        | refine jar rfl rfl rfl rfl rfl rfl rfl (by omega) ?_
        | (refine j_qe rfl rfl rfl ?_
           first
           | refine ⟨_, q_pick_t rfl rfl rfl, ?_⟩
           | refine ⟨_, q_pick_f rfl rfl rfl, ?_⟩
           | refine ⟨_, q_not rfl rfl, ?_⟩
           | refine ⟨_, q_index_nat rfl rfl rfl rfl rfl (by omega), ?_⟩
           | refine ⟨_, q_index_slice rfl rfl rfl rfl rfl (by omega), ?_⟩
           | refine ⟨_, q_index_arr rfl rfl rfl rfl rfl (by omega), ?_⟩
           | refine ⟨_, q_index_arr_ext rfl rfl rfl rfl rfl (by omega), ?_⟩
           | refine ⟨_, q_len_slice rfl rfl rfl rfl, ?_⟩
           | refine ⟨_, q_addu8 rfl rfl rfl (by omega), ?_⟩)
        | refine j_guard_undef rfl rfl rfl rfl rfl ?_
        | (refine j_guard rfl rfl rfl rfl rfl ?_ ?_ <;> intro hc <;> (first | (exact absurd hc (by decide)) | ((try simp only [decide_eq_true_eq, decide_eq_false_iff_not, Bool.not_eq_true', Bool.not_eq_false', Bool.not_true, Bool.not_false, ne_eq, Decidable.not_not] at hc) <;> first | (exfalso; omega) | (exact absurd trivial hc) | skip))))
     | (refine gSC ?_
        first
        | refine sc_seq ?_
        | refine sc_region ?_
        | (refine sc_cond rfl ?_ ?_ <;> intro hc <;> (first | (exact absurd hc (by decide)) | ((try simp only [decide_eq_true_eq, decide_eq_false_iff_not, Bool.not_eq_true', Bool.not_eq_false', Bool.not_true, Bool.not_false, ne_eq, Decidable.not_not] at hc) <;> first | (exfalso; omega) | (exact absurd trivial hc) | skip)))
        | refine sc_block ?_
        | refine sc_ret ?_
        | refine sc_exit ?_
        | refine sc_skip ?_
        | refine sc_draw rfl mixed (by kernel_rfl) ?_)
     | (refine gSQ ?_
        first
        | refine sq_seq ?_
        | refine sq_blk ?_
        | refine sq_seq_ret ?_
        | refine sq_blk_ret ?_
        | refine sq_loop_ret ?_
        | refine sq_seq_exit ?_
        | refine sq_blk_hit ?_
        | refine sq_blk_miss rfl ?_
        | refine sq_loop_exit ?_
        | refine sq_ende (.inl rfl) rfl rfl ⟨_, (RVs.cons (RV.tmp rfl) (RVs.cons (RV.tmp rfl) (RVs.nil))), ?_⟩
        | refine sq_ende (.inr rfl) rfl rfl ⟨_, (RVs.cons (RV.tmp rfl) (RVs.cons (RV.tmp rfl) (RVs.nil))), ?_⟩)
     | refine j_nil ?_
     )
    refine sc_loop (ι := Nat) (fun j => j ≤ n) (fun j => n - j) (fun j => [(0, .slice (some ad) n c), (1, .int .i64 q), (6, .int .i64 (b.getD 0)), (7, .bool b.isSome), (8, .int .i64 k), (9, .int .i64 (mostN (l.take j) y : Nat)), (10, .int .i64 j)]) (fun _ => []) 0 (Nat.zero_le _) (by repeat (first | exact FSub.nil | refine FSub.cons rfl ?_ | refine FSub.conse rfl (by congr 1; omega) ?_)) (by repeat (first | exact LSub.nil | refine LSub.cons (by repeat (first | exact Rem.here | apply Rem.there)) ?_)) ?_
    intro j hj
    by_cases hjl : j < n
    · obtain ⟨z, hz⟩ : ∃ z, l[j]? = some z := ⟨_, List.getElem?_eq_getElem (by omega)⟩
      obtain ⟨ad', had, hZ⟩ := h j z hz
      obtain rfl : ad = ad' := by injection had
      have g := mostN_take y hz
      have g2 := mostN_le (l.take j) y
      rw [List.length_take] at g2
      by_cases hzy : z ≤ y
      · rw [if_pos hzy] at g
        repeat' (first
         | (refine gJ ?_
            first
            | refine jmv rfl rfl rfl rfl rfl ?_
            | (refine gload rfl rfl ?_
               refine j_qe rfl rfl rfl ?_
               first
               | refine ⟨_, q_load_own rfl rfl rfl rfl (by (repeat (first | exact InL.here | apply InL.there))) (by first | rfl | assumption), ?_⟩
               | refine ⟨_, q_loadA_own rfl rfl rfl rfl (by (repeat (first | exact InL.here | apply InL.there))) (by rfl), ?_⟩
               | refine ⟨_, q_loadA_ext rfl rfl rfl rfl ⟨by assumption, (by first | exact id | assumption)⟩ (by rfl), ?_⟩
               | refine ⟨_, q_load_ext rfl rfl rfl rfl ⟨by assumption, (by first | exact id | assumption)⟩ (by first | rfl | assumption), ?_⟩
               | refine ⟨_, q_load_extb rfl rfl rfl rfl ⟨by assumption, (by first | exact id | assumption)⟩ (by rfl), ?_⟩
               | refine ⟨_, q_loadA_extb rfl rfl rfl rfl ⟨by assumption, (by first | exact id | assumption)⟩ (by rfl), ?_⟩
               | refine ⟨_, q_load_ext0 rfl rfl rfl rfl ⟨by assumption, (by first | exact id | assumption)⟩ (by rfl), ?_⟩)
            | refine jcmp rfl rfl rfl rfl rfl rfl rfl ?_
            | refine jar rfl rfl rfl rfl rfl rfl rfl (by omega) ?_
            | (refine j_qe rfl rfl rfl ?_
               first
               | refine ⟨_, q_pick_t rfl rfl rfl, ?_⟩
               | refine ⟨_, q_pick_f rfl rfl rfl, ?_⟩
               | refine ⟨_, q_not rfl rfl, ?_⟩
               | refine ⟨_, q_index_nat rfl rfl rfl rfl rfl (by omega), ?_⟩
               | refine ⟨_, q_index_slice rfl rfl rfl rfl rfl (by omega), ?_⟩
               | refine ⟨_, q_index_arr rfl rfl rfl rfl rfl (by omega), ?_⟩
               | refine ⟨_, q_index_arr_ext rfl rfl rfl rfl rfl (by omega), ?_⟩
               | refine ⟨_, q_len_slice rfl rfl rfl rfl, ?_⟩
               | refine ⟨_, q_addu8 rfl rfl rfl (by omega), ?_⟩)
            | refine j_guard_undef rfl rfl rfl rfl rfl ?_
            | (refine j_guard rfl rfl rfl rfl rfl ?_ ?_ <;> intro hc <;> (first | (exact absurd hc (by decide)) | ((try simp only [decide_eq_true_eq, decide_eq_false_iff_not, Bool.not_eq_true', Bool.not_eq_false', Bool.not_true, Bool.not_false, ne_eq, Decidable.not_not] at hc) <;> first | (exfalso; omega) | (exact absurd trivial hc) | skip))))
         | (refine gSC ?_
            first
            | refine sc_seq ?_
            | refine sc_region ?_
            | (refine sc_cond rfl ?_ ?_ <;> intro hc <;> (first | (exact absurd hc (by decide)) | ((try simp only [decide_eq_true_eq, decide_eq_false_iff_not, Bool.not_eq_true', Bool.not_eq_false', Bool.not_true, Bool.not_false, ne_eq, Decidable.not_not] at hc) <;> first | (exfalso; omega) | (exact absurd trivial hc) | skip)))
            | refine sc_block ?_
            | refine sc_ret ?_
            | refine sc_exit ?_
            | refine sc_skip ?_
            | refine sc_draw rfl mixed (by kernel_rfl) ?_)
         | (refine gSQ ?_
            first
            | refine sq_seq ?_
            | refine sq_blk ?_
            | refine sq_seq_ret ?_
            | refine sq_blk_ret ?_
            | refine sq_loop_ret ?_
            | refine sq_seq_exit ?_
            | refine sq_blk_hit ?_
            | refine sq_blk_miss rfl ?_
            | refine sq_loop_exit ?_
            | refine sq_ende (.inl rfl) rfl rfl ⟨_, (RVs.cons (RV.tmp rfl) (RVs.cons (RV.tmp rfl) (RVs.nil))), ?_⟩
            | refine sq_ende (.inr rfl) rfl rfl ⟨_, (RVs.cons (RV.tmp rfl) (RVs.cons (RV.tmp rfl) (RVs.nil))), ?_⟩)
         | refine j_nil ?_
         )
        exact sq_loop (j + 1) (by omega) (by omega) (by repeat (first | exact FSub.nil | refine FSub.cons rfl ?_ | refine FSub.conse rfl (by congr 1; omega) ?_)) (by repeat (first | exact LSub.nil | refine LSub.cons (by repeat (first | exact Rem.here | apply Rem.there)) ?_))
      · rw [if_neg hzy] at g
        repeat' (first
         | (refine gJ ?_
            first
            | refine jmv rfl rfl rfl rfl rfl ?_
            | (refine gload rfl rfl ?_
               refine j_qe rfl rfl rfl ?_
               first
               | refine ⟨_, q_load_own rfl rfl rfl rfl (by (repeat (first | exact InL.here | apply InL.there))) (by first | rfl | assumption), ?_⟩
               | refine ⟨_, q_loadA_own rfl rfl rfl rfl (by (repeat (first | exact InL.here | apply InL.there))) (by rfl), ?_⟩
               | refine ⟨_, q_loadA_ext rfl rfl rfl rfl ⟨by assumption, (by first | exact id | assumption)⟩ (by rfl), ?_⟩
               | refine ⟨_, q_load_ext rfl rfl rfl rfl ⟨by assumption, (by first | exact id | assumption)⟩ (by first | rfl | assumption), ?_⟩
               | refine ⟨_, q_load_extb rfl rfl rfl rfl ⟨by assumption, (by first | exact id | assumption)⟩ (by rfl), ?_⟩
               | refine ⟨_, q_loadA_extb rfl rfl rfl rfl ⟨by assumption, (by first | exact id | assumption)⟩ (by rfl), ?_⟩
               | refine ⟨_, q_load_ext0 rfl rfl rfl rfl ⟨by assumption, (by first | exact id | assumption)⟩ (by rfl), ?_⟩)
            | refine jcmp rfl rfl rfl rfl rfl rfl rfl ?_
            | refine jar rfl rfl rfl rfl rfl rfl rfl (by omega) ?_
            | (refine j_qe rfl rfl rfl ?_
               first
               | refine ⟨_, q_pick_t rfl rfl rfl, ?_⟩
               | refine ⟨_, q_pick_f rfl rfl rfl, ?_⟩
               | refine ⟨_, q_not rfl rfl, ?_⟩
               | refine ⟨_, q_index_nat rfl rfl rfl rfl rfl (by omega), ?_⟩
               | refine ⟨_, q_index_slice rfl rfl rfl rfl rfl (by omega), ?_⟩
               | refine ⟨_, q_index_arr rfl rfl rfl rfl rfl (by omega), ?_⟩
               | refine ⟨_, q_index_arr_ext rfl rfl rfl rfl rfl (by omega), ?_⟩
               | refine ⟨_, q_len_slice rfl rfl rfl rfl, ?_⟩
               | refine ⟨_, q_addu8 rfl rfl rfl (by omega), ?_⟩)
            | refine j_guard_undef rfl rfl rfl rfl rfl ?_
            | (refine j_guard rfl rfl rfl rfl rfl ?_ ?_ <;> intro hc <;> (first | (exact absurd hc (by decide)) | ((try simp only [decide_eq_true_eq, decide_eq_false_iff_not, Bool.not_eq_true', Bool.not_eq_false', Bool.not_true, Bool.not_false, ne_eq, Decidable.not_not] at hc) <;> first | (exfalso; omega) | (exact absurd trivial hc) | skip))))
         | (refine gSC ?_
            first
            | refine sc_seq ?_
            | refine sc_region ?_
            | (refine sc_cond rfl ?_ ?_ <;> intro hc <;> (first | (exact absurd hc (by decide)) | ((try simp only [decide_eq_true_eq, decide_eq_false_iff_not, Bool.not_eq_true', Bool.not_eq_false', Bool.not_true, Bool.not_false, ne_eq, Decidable.not_not] at hc) <;> first | (exfalso; omega) | (exact absurd trivial hc) | skip)))
            | refine sc_block ?_
            | refine sc_ret ?_
            | refine sc_exit ?_
            | refine sc_skip ?_
            | refine sc_draw rfl mixed (by kernel_rfl) ?_)
         | (refine gSQ ?_
            first
            | refine sq_seq ?_
            | refine sq_blk ?_
            | refine sq_seq_ret ?_
            | refine sq_blk_ret ?_
            | refine sq_loop_ret ?_
            | refine sq_seq_exit ?_
            | refine sq_blk_hit ?_
            | refine sq_blk_miss rfl ?_
            | refine sq_loop_exit ?_
            | refine sq_ende (.inl rfl) rfl rfl ⟨_, (RVs.cons (RV.tmp rfl) (RVs.cons (RV.tmp rfl) (RVs.nil))), ?_⟩
            | refine sq_ende (.inr rfl) rfl rfl ⟨_, (RVs.cons (RV.tmp rfl) (RVs.cons (RV.tmp rfl) (RVs.nil))), ?_⟩)
         | refine j_nil ?_
         )
        exact sq_loop (j + 1) (by omega) (by omega) (by repeat (first | exact FSub.nil | refine FSub.cons rfl ?_ | refine FSub.conse rfl (by congr 1; omega) ?_)) (by repeat (first | exact LSub.nil | refine LSub.cons (by repeat (first | exact Rem.here | apply Rem.there)) ?_))
    · obtain rfl : j = n := by omega
      rw [List.take_of_length_le (by omega)]
      cases hok : okQ l q y with
      | false =>
        rw [hok] at hoy
        have hoy' := of_decide_eq_false hoy.symm
        have e1 : stQ l q b y = b := by unfold stQ; rw [if_neg (by rw [hok]; simp)]
        rw [e1] at hnext
        repeat' (first
         | (refine gJ ?_
            first
            | refine jmv rfl rfl rfl rfl rfl ?_
            | (refine gload rfl rfl ?_
               refine j_qe rfl rfl rfl ?_
               first
               | refine ⟨_, q_load_own rfl rfl rfl rfl (by (repeat (first | exact InL.here | apply InL.there))) (by first | rfl | assumption), ?_⟩
               | refine ⟨_, q_loadA_own rfl rfl rfl rfl (by (repeat (first | exact InL.here | apply InL.there))) (by rfl), ?_⟩
               | refine ⟨_, q_loadA_ext rfl rfl rfl rfl ⟨by assumption, (by first | exact id | assumption)⟩ (by rfl), ?_⟩
               | refine ⟨_, q_load_ext rfl rfl rfl rfl ⟨by assumption, (by first | exact id | assumption)⟩ (by first | rfl | assumption), ?_⟩
               | refine ⟨_, q_load_extb rfl rfl rfl rfl ⟨by assumption, (by first | exact id | assumption)⟩ (by rfl), ?_⟩
               | refine ⟨_, q_loadA_extb rfl rfl rfl rfl ⟨by assumption, (by first | exact id | assumption)⟩ (by rfl), ?_⟩
               | refine ⟨_, q_load_ext0 rfl rfl rfl rfl ⟨by assumption, (by first | exact id | assumption)⟩ (by rfl), ?_⟩)
            | refine jcmp rfl rfl rfl rfl rfl rfl rfl ?_
            | refine jar rfl rfl rfl rfl rfl rfl rfl (by omega) ?_
            | (refine j_qe rfl rfl rfl ?_
               first
               | refine ⟨_, q_pick_t rfl rfl rfl, ?_⟩
               | refine ⟨_, q_pick_f rfl rfl rfl, ?_⟩
               | refine ⟨_, q_not rfl rfl, ?_⟩
               | refine ⟨_, q_index_nat rfl rfl rfl rfl rfl (by omega), ?_⟩
               | refine ⟨_, q_index_slice rfl rfl rfl rfl rfl (by omega), ?_⟩
               | refine ⟨_, q_index_arr rfl rfl rfl rfl rfl (by omega), ?_⟩
               | refine ⟨_, q_index_arr_ext rfl rfl rfl rfl rfl (by omega), ?_⟩
               | refine ⟨_, q_len_slice rfl rfl rfl rfl, ?_⟩
               | refine ⟨_, q_addu8 rfl rfl rfl (by omega), ?_⟩)
            | refine j_guard_undef rfl rfl rfl rfl rfl ?_
            | (refine j_guard rfl rfl rfl rfl rfl ?_ ?_ <;> intro hc <;> (first | (exact absurd hc (by decide)) | ((try simp only [decide_eq_true_eq, decide_eq_false_iff_not, Bool.not_eq_true', Bool.not_eq_false', Bool.not_true, Bool.not_false, ne_eq, Decidable.not_not] at hc) <;> first | (exfalso; omega) | (exact absurd trivial hc) | skip))))
         | (refine gSC ?_
            first
            | refine sc_seq ?_
            | refine sc_region ?_
            | (refine sc_cond rfl ?_ ?_ <;> intro hc <;> (first | (exact absurd hc (by decide)) | ((try simp only [decide_eq_true_eq, decide_eq_false_iff_not, Bool.not_eq_true', Bool.not_eq_false', Bool.not_true, Bool.not_false, ne_eq, Decidable.not_not] at hc) <;> first | (exfalso; omega) | (exact absurd trivial hc) | skip)))
            | refine sc_block ?_
            | refine sc_ret ?_
            | refine sc_exit ?_
            | refine sc_skip ?_
            | refine sc_draw rfl mixed (by kernel_rfl) ?_)
         | (refine gSQ ?_
            first
            | refine sq_seq ?_
            | refine sq_blk ?_
            | refine sq_seq_ret ?_
            | refine sq_blk_ret ?_
            | refine sq_loop_ret ?_
            | refine sq_seq_exit ?_
            | refine sq_blk_hit ?_
            | refine sq_blk_miss rfl ?_
            | refine sq_loop_exit ?_
            | refine sq_ende (.inl rfl) rfl rfl ⟨_, (RVs.cons (RV.tmp rfl) (RVs.cons (RV.tmp rfl) (RVs.nil))), ?_⟩
            | refine sq_ende (.inr rfl) rfl rfl ⟨_, (RVs.cons (RV.tmp rfl) (RVs.cons (RV.tmp rfl) (RVs.nil))), ?_⟩)
         | refine j_nil ?_
         )
        refine sq_loop (k + 1) (by omega) (by omega) ?_ (by repeat (first | exact LSub.nil | refine LSub.cons (by repeat (first | exact Rem.here | apply Rem.there)) ?_))
        rw [hnext]
        exact (by repeat (first | exact FSub.nil | refine FSub.cons rfl ?_ | refine FSub.conse rfl (by congr 1; omega) ?_))
      | true =>
        rw [hok] at hoy
        have hoy' := of_decide_eq_true hoy.symm
        cases b with
        | none =>
          have e1 : stQ l q none y = some y := by unfold stQ; rw [if_pos ⟨hok, fun m h => by cases h⟩]
          rw [e1] at hnext
          simp only [Option.getD_none, Option.isSome_none]
          repeat' (first
           | (refine gJ ?_
              first
              | refine jmv rfl rfl rfl rfl rfl ?_
              | (refine gload rfl rfl ?_
                 refine j_qe rfl rfl rfl ?_
                 first
                 | refine ⟨_, q_load_own rfl rfl rfl rfl (by (repeat (first | exact InL.here | apply InL.there))) (by first | rfl | assumption), ?_⟩
                 | refine ⟨_, q_loadA_own rfl rfl rfl rfl (by (repeat (first | exact InL.here | apply InL.there))) (by rfl), ?_⟩
                 | refine ⟨_, q_loadA_ext rfl rfl rfl rfl ⟨by assumption, (by first | exact id | assumption)⟩ (by rfl), ?_⟩
                 | refine ⟨_, q_load_ext rfl rfl rfl rfl ⟨by assumption, (by first | exact id | assumption)⟩ (by first | rfl | assumption), ?_⟩
                 | refine ⟨_, q_load_extb rfl rfl rfl rfl ⟨by assumption, (by first | exact id | assumption)⟩ (by rfl), ?_⟩
                 | refine ⟨_, q_loadA_extb rfl rfl rfl rfl ⟨by assumption, (by first | exact id | assumption)⟩ (by rfl), ?_⟩
                 | refine ⟨_, q_load_ext0 rfl rfl rfl rfl ⟨by assumption, (by first | exact id | assumption)⟩ (by rfl), ?_⟩)
              | refine jcmp rfl rfl rfl rfl rfl rfl rfl ?_
              | refine jar rfl rfl rfl rfl rfl rfl rfl (by omega) ?_
              | (refine j_qe rfl rfl rfl ?_
                 first
                 | refine ⟨_, q_pick_t rfl rfl rfl, ?_⟩
                 | refine ⟨_, q_pick_f rfl rfl rfl, ?_⟩
                 | refine ⟨_, q_not rfl rfl, ?_⟩
                 | refine ⟨_, q_index_nat rfl rfl rfl rfl rfl (by omega), ?_⟩
                 | refine ⟨_, q_index_slice rfl rfl rfl rfl rfl (by omega), ?_⟩
                 | refine ⟨_, q_index_arr rfl rfl rfl rfl rfl (by omega), ?_⟩
                 | refine ⟨_, q_index_arr_ext rfl rfl rfl rfl rfl (by omega), ?_⟩
                 | refine ⟨_, q_len_slice rfl rfl rfl rfl, ?_⟩
                 | refine ⟨_, q_addu8 rfl rfl rfl (by omega), ?_⟩)
              | refine j_guard_undef rfl rfl rfl rfl rfl ?_
              | (refine j_guard rfl rfl rfl rfl rfl ?_ ?_ <;> intro hc <;> (first | (exact absurd hc (by decide)) | ((try simp only [decide_eq_true_eq, decide_eq_false_iff_not, Bool.not_eq_true', Bool.not_eq_false', Bool.not_true, Bool.not_false, ne_eq, Decidable.not_not] at hc) <;> first | (exfalso; omega) | (exact absurd trivial hc) | skip))))
           | (refine gSC ?_
              first
              | refine sc_seq ?_
              | refine sc_region ?_
              | (refine sc_cond rfl ?_ ?_ <;> intro hc <;> (first | (exact absurd hc (by decide)) | ((try simp only [decide_eq_true_eq, decide_eq_false_iff_not, Bool.not_eq_true', Bool.not_eq_false', Bool.not_true, Bool.not_false, ne_eq, Decidable.not_not] at hc) <;> first | (exfalso; omega) | (exact absurd trivial hc) | skip)))
              | refine sc_block ?_
              | refine sc_ret ?_
              | refine sc_exit ?_
              | refine sc_skip ?_
              | refine sc_draw rfl mixed (by kernel_rfl) ?_)
           | (refine gSQ ?_
              first
              | refine sq_seq ?_
              | refine sq_blk ?_
              | refine sq_seq_ret ?_
              | refine sq_blk_ret ?_
              | refine sq_loop_ret ?_
              | refine sq_seq_exit ?_
              | refine sq_blk_hit ?_
              | refine sq_blk_miss rfl ?_
              | refine sq_loop_exit ?_
              | refine sq_ende (.inl rfl) rfl rfl ⟨_, (RVs.cons (RV.tmp rfl) (RVs.cons (RV.tmp rfl) (RVs.nil))), ?_⟩
              | refine sq_ende (.inr rfl) rfl rfl ⟨_, (RVs.cons (RV.tmp rfl) (RVs.cons (RV.tmp rfl) (RVs.nil))), ?_⟩)
           | refine j_nil ?_
           )
          refine sq_loop (k + 1) (by omega) (by omega) ?_ (by repeat (first | exact LSub.nil | refine LSub.cons (by repeat (first | exact Rem.here | apply Rem.there)) ?_))
          rw [hnext]
          exact (by repeat (first | exact FSub.nil | refine FSub.cons rfl ?_ | refine FSub.conse rfl (by congr 1; omega) ?_))
        | some m =>
          simp only [Option.getD_some, Option.isSome_some]
          by_cases hym : y < m
          · have e1 : stQ l q (some m) y = some y := by unfold stQ; rw [if_pos ⟨hok, fun m' h => by injection h with h; omega⟩]
            rw [e1] at hnext
            repeat' (first
             | (refine gJ ?_
                first
                | refine jmv rfl rfl rfl rfl rfl ?_
                | (refine gload rfl rfl ?_
                   refine j_qe rfl rfl rfl ?_
                   first
                   | refine ⟨_, q_load_own rfl rfl rfl rfl (by (repeat (first | exact InL.here | apply InL.there))) (by first | rfl | assumption), ?_⟩
                   | refine ⟨_, q_loadA_own rfl rfl rfl rfl (by (repeat (first | exact InL.here | apply InL.there))) (by rfl), ?_⟩
                   | refine ⟨_, q_loadA_ext rfl rfl rfl rfl ⟨by assumption, (by first | exact id | assumption)⟩ (by rfl), ?_⟩
                   | refine ⟨_, q_load_ext rfl rfl rfl rfl ⟨by assumption, (by first | exact id | assumption)⟩ (by first | rfl | assumption), ?_⟩
                   | refine ⟨_, q_load_extb rfl rfl rfl rfl ⟨by assumption, (by first | exact id | assumption)⟩ (by rfl), ?_⟩
                   | refine ⟨_, q_loadA_extb rfl rfl rfl rfl ⟨by assumption, (by first | exact id | assumption)⟩ (by rfl), ?_⟩
                   | refine ⟨_, q_load_ext0 rfl rfl rfl rfl ⟨by assumption, (by first | exact id | assumption)⟩ (by rfl), ?_⟩)
                | refine jcmp rfl rfl rfl rfl rfl rfl rfl ?_
                | refine jar rfl rfl rfl rfl rfl rfl rfl (by omega) ?_
                | (refine j_qe rfl rfl rfl ?_
                   first
                   | refine ⟨_, q_pick_t rfl rfl rfl, ?_⟩
                   | refine ⟨_, q_pick_f rfl rfl rfl, ?_⟩
                   | refine ⟨_, q_not rfl rfl, ?_⟩
                   | refine ⟨_, q_index_nat rfl rfl rfl rfl rfl (by omega), ?_⟩
                   | refine ⟨_, q_index_slice rfl rfl rfl rfl rfl (by omega), ?_⟩
                   | refine ⟨_, q_index_arr rfl rfl rfl rfl rfl (by omega), ?_⟩
                   | refine ⟨_, q_index_arr_ext rfl rfl rfl rfl rfl (by omega), ?_⟩
                   | refine ⟨_, q_len_slice rfl rfl rfl rfl, ?_⟩
                   | refine ⟨_, q_addu8 rfl rfl rfl (by omega), ?_⟩)
                | refine j_guard_undef rfl rfl rfl rfl rfl ?_
                | (refine j_guard rfl rfl rfl rfl rfl ?_ ?_ <;> intro hc <;> (first | (exact absurd hc (by decide)) | ((try simp only [decide_eq_true_eq, decide_eq_false_iff_not, Bool.not_eq_true', Bool.not_eq_false', Bool.not_true, Bool.not_false, ne_eq, Decidable.not_not] at hc) <;> first | (exfalso; omega) | (exact absurd trivial hc) | skip))))
             | (refine gSC ?_
                first
                | refine sc_seq ?_
                | refine sc_region ?_
                | (refine sc_cond rfl ?_ ?_ <;> intro hc <;> (first | (exact absurd hc (by decide)) | ((try simp only [decide_eq_true_eq, decide_eq_false_iff_not, Bool.not_eq_true', Bool.not_eq_false', Bool.not_true, Bool.not_false, ne_eq, Decidable.not_not] at hc) <;> first | (exfalso; omega) | (exact absurd trivial hc) | skip)))
                | refine sc_block ?_
                | refine sc_ret ?_
                | refine sc_exit ?_
                | refine sc_skip ?_
                | refine sc_draw rfl mixed (by kernel_rfl) ?_)
             | (refine gSQ ?_
                first
                | refine sq_seq ?_
                | refine sq_blk ?_
                | refine sq_seq_ret ?_
                | refine sq_blk_ret ?_
                | refine sq_loop_ret ?_
                | refine sq_seq_exit ?_
                | refine sq_blk_hit ?_
                | refine sq_blk_miss rfl ?_
                | refine sq_loop_exit ?_
                | refine sq_ende (.inl rfl) rfl rfl ⟨_, (RVs.cons (RV.tmp rfl) (RVs.cons (RV.tmp rfl) (RVs.nil))), ?_⟩
                | refine sq_ende (.inr rfl) rfl rfl ⟨_, (RVs.cons (RV.tmp rfl) (RVs.cons (RV.tmp rfl) (RVs.nil))), ?_⟩)
             | refine j_nil ?_
             )
            refine sq_loop (k + 1) (by omega) (by omega) ?_ (by repeat (first | exact LSub.nil | refine LSub.cons (by repeat (first | exact Rem.here | apply Rem.there)) ?_))
            rw [hnext]
            exact (by repeat (first | exact FSub.nil | refine FSub.cons rfl ?_ | refine FSub.conse rfl (by congr 1; omega) ?_))
          · have e1 : stQ l q (some m) y = some m := by unfold stQ; rw [if_neg (fun h => hym (h.2 m rfl))]
            rw [e1] at hnext
            repeat' (first
             | (refine gJ ?_
                first
                | refine jmv rfl rfl rfl rfl rfl ?_
                | (refine gload rfl rfl ?_
                   refine j_qe rfl rfl rfl ?_
                   first
                   | refine ⟨_, q_load_own rfl rfl rfl rfl (by (repeat (first | exact InL.here | apply InL.there))) (by first | rfl | assumption), ?_⟩
                   | refine ⟨_, q_loadA_own rfl rfl rfl rfl (by (repeat (first | exact InL.here | apply InL.there))) (by rfl), ?_⟩
                   | refine ⟨_, q_loadA_ext rfl rfl rfl rfl ⟨by assumption, (by first | exact id | assumption)⟩ (by rfl), ?_⟩
                   | refine ⟨_, q_load_ext rfl rfl rfl rfl ⟨by assumption, (by first | exact id | assumption)⟩ (by first | rfl | assumption), ?_⟩
                   | refine ⟨_, q_load_extb rfl rfl rfl rfl ⟨by assumption, (by first | exact id | assumption)⟩ (by rfl), ?_⟩
                   | refine ⟨_, q_loadA_extb rfl rfl rfl rfl ⟨by assumption, (by first | exact id | assumption)⟩ (by rfl), ?_⟩
                   | refine ⟨_, q_load_ext0 rfl rfl rfl rfl ⟨by assumption, (by first | exact id | assumption)⟩ (by rfl), ?_⟩)
                | refine jcmp rfl rfl rfl rfl rfl rfl rfl ?_
                | refine jar rfl rfl rfl rfl rfl rfl rfl (by omega) ?_
                | (refine j_qe rfl rfl rfl ?_
                   first
                   | refine ⟨_, q_pick_t rfl rfl rfl, ?_⟩
                   | refine ⟨_, q_pick_f rfl rfl rfl, ?_⟩
                   | refine ⟨_, q_not rfl rfl, ?_⟩
                   | refine ⟨_, q_index_nat rfl rfl rfl rfl rfl (by omega), ?_⟩
                   | refine ⟨_, q_index_slice rfl rfl rfl rfl rfl (by omega), ?_⟩
                   | refine ⟨_, q_index_arr rfl rfl rfl rfl rfl (by omega), ?_⟩
                   | refine ⟨_, q_index_arr_ext rfl rfl rfl rfl rfl (by omega), ?_⟩
                   | refine ⟨_, q_len_slice rfl rfl rfl rfl, ?_⟩
                   | refine ⟨_, q_addu8 rfl rfl rfl (by omega), ?_⟩)
                | refine j_guard_undef rfl rfl rfl rfl rfl ?_
                | (refine j_guard rfl rfl rfl rfl rfl ?_ ?_ <;> intro hc <;> (first | (exact absurd hc (by decide)) | ((try simp only [decide_eq_true_eq, decide_eq_false_iff_not, Bool.not_eq_true', Bool.not_eq_false', Bool.not_true, Bool.not_false, ne_eq, Decidable.not_not] at hc) <;> first | (exfalso; omega) | (exact absurd trivial hc) | skip))))
             | (refine gSC ?_
                first
                | refine sc_seq ?_
                | refine sc_region ?_
                | (refine sc_cond rfl ?_ ?_ <;> intro hc <;> (first | (exact absurd hc (by decide)) | ((try simp only [decide_eq_true_eq, decide_eq_false_iff_not, Bool.not_eq_true', Bool.not_eq_false', Bool.not_true, Bool.not_false, ne_eq, Decidable.not_not] at hc) <;> first | (exfalso; omega) | (exact absurd trivial hc) | skip)))
                | refine sc_block ?_
                | refine sc_ret ?_
                | refine sc_exit ?_
                | refine sc_skip ?_
                | refine sc_draw rfl mixed (by kernel_rfl) ?_)
             | (refine gSQ ?_
                first
                | refine sq_seq ?_
                | refine sq_blk ?_
                | refine sq_seq_ret ?_
                | refine sq_blk_ret ?_
                | refine sq_loop_ret ?_
                | refine sq_seq_exit ?_
                | refine sq_blk_hit ?_
                | refine sq_blk_miss rfl ?_
                | refine sq_loop_exit ?_
                | refine sq_ende (.inl rfl) rfl rfl ⟨_, (RVs.cons (RV.tmp rfl) (RVs.cons (RV.tmp rfl) (RVs.nil))), ?_⟩
                | refine sq_ende (.inr rfl) rfl rfl ⟨_, (RVs.cons (RV.tmp rfl) (RVs.cons (RV.tmp rfl) (RVs.nil))), ?_⟩)
             | refine j_nil ?_
             )
            refine sq_loop (k + 1) (by omega) (by omega) ?_ (by repeat (first | exact LSub.nil | refine LSub.cons (by repeat (first | exact Rem.here | apply Rem.there)) ?_))
            rw [hnext]
            exact (by repeat (first | exact FSub.nil | refine FSub.cons rfl ?_ | refine FSub.conse rfl (by congr 1; omega) ?_))
  · obtain rfl : k = n := by omega
    rw [List.take_of_length_le (by omega), hfold]
    repeat' (first
     | (refine gJ ?_
        first
        | refine jmv rfl rfl rfl rfl rfl ?_
        | (refine gload rfl rfl ?_
           refine j_qe rfl rfl rfl ?_
           first
           | refine ⟨_, q_load_own rfl rfl rfl rfl (by (repeat (first | exact InL.here | apply InL.there))) (by first | rfl | assumption), ?_⟩
           | refine ⟨_, q_loadA_own rfl rfl rfl rfl (by (repeat (first | exact InL.here | apply InL.there))) (by rfl), ?_⟩
           | refine ⟨_, q_loadA_ext rfl rfl rfl rfl ⟨by assumption, (by first | exact id | assumption)⟩ (by rfl), ?_⟩
           | refine ⟨_, q_load_ext rfl rfl rfl rfl ⟨by assumption, (by first | exact id | assumption)⟩ (by first | rfl | assumption), ?_⟩
           | refine ⟨_, q_load_extb rfl rfl rfl rfl ⟨by assumption, (by first | exact id | assumption)⟩ (by rfl), ?_⟩
           | refine ⟨_, q_loadA_extb rfl rfl rfl rfl ⟨by assumption, (by first | exact id | assumption)⟩ (by rfl), ?_⟩
           | refine ⟨_, q_load_ext0 rfl rfl rfl rfl ⟨by assumption, (by first | exact id | assumption)⟩ (by rfl), ?_⟩)
        | refine jcmp rfl rfl rfl rfl rfl rfl rfl ?_
        | refine jar rfl rfl rfl rfl rfl rfl rfl (by omega) ?_
        | (refine j_qe rfl rfl rfl ?_
           first
           | refine ⟨_, q_pick_t rfl rfl rfl, ?_⟩
           | refine ⟨_, q_pick_f rfl rfl rfl, ?_⟩
           | refine ⟨_, q_not rfl rfl, ?_⟩
           | refine ⟨_, q_index_nat rfl rfl rfl rfl rfl (by omega), ?_⟩
           | refine ⟨_, q_index_slice rfl rfl rfl rfl rfl (by omega), ?_⟩
           | refine ⟨_, q_index_arr rfl rfl rfl rfl rfl (by omega), ?_⟩
           | refine ⟨_, q_index_arr_ext rfl rfl rfl rfl rfl (by omega), ?_⟩
           | refine ⟨_, q_len_slice rfl rfl rfl rfl, ?_⟩
           | refine ⟨_, q_addu8 rfl rfl rfl (by omega), ?_⟩)
        | refine j_guard_undef rfl rfl rfl rfl rfl ?_
        | (refine j_guard rfl rfl rfl rfl rfl ?_ ?_ <;> intro hc <;> (first | (exact absurd hc (by decide)) | ((try simp only [decide_eq_true_eq, decide_eq_false_iff_not, Bool.not_eq_true', Bool.not_eq_false', Bool.not_true, Bool.not_false, ne_eq, Decidable.not_not] at hc) <;> first | (exfalso; omega) | (exact absurd trivial hc) | skip))))
     | (refine gSC ?_
        first
        | refine sc_seq ?_
        | refine sc_region ?_
        | (refine sc_cond rfl ?_ ?_ <;> intro hc <;> (first | (exact absurd hc (by decide)) | ((try simp only [decide_eq_true_eq, decide_eq_false_iff_not, Bool.not_eq_true', Bool.not_eq_false', Bool.not_true, Bool.not_false, ne_eq, Decidable.not_not] at hc) <;> first | (exfalso; omega) | (exact absurd trivial hc) | skip)))
        | refine sc_block ?_
        | refine sc_ret ?_
        | refine sc_exit ?_
        | refine sc_skip ?_
        | refine sc_draw rfl mixed (by kernel_rfl) ?_)
     | (refine gSQ ?_
        first
        | refine sq_seq ?_
        | refine sq_blk ?_
        | refine sq_seq_ret ?_
        | refine sq_blk_ret ?_
        | refine sq_loop_ret ?_
        | refine sq_seq_exit ?_
        | refine sq_blk_hit ?_
        | refine sq_blk_miss rfl ?_
        | refine sq_loop_exit ?_
        | refine sq_ende (.inl rfl) rfl rfl ⟨_, (RVs.cons (RV.tmp rfl) (RVs.cons (RV.tmp rfl) (RVs.nil))), ?_⟩
        | refine sq_ende (.inr rfl) rfl rfl ⟨_, (RVs.cons (RV.tmp rfl) (RVs.cons (RV.tmp rfl) (RVs.nil))), ?_⟩)
     | refine j_nil ?_
     )
    (intro w' hS; refine ⟨?_, hS.below⟩; simp only [pack])
    rfl
theorem rquant_e (A : Option Addr) (c : Nat) (l : List Int) (q : Int) (w : World) (hl : l.length ≤ 9223372036854775807) (hbad : 10000 < l.length ∨ (q < 0 ∨ 10000 < q) ∨ l.length = 0) :
    Calls Try.prog 48 #[.slice A l.length c, .int .i64 q] w fun e w' => e = .returned (.tuple #[.int .i64 (quantF l q).1, .int .i64 (quantF l q).2]) ∧ Below w.heap.size w w' := by
  generalize hn : l.length = n at *
  refine eng_start (n := 70) (args := [.slice A n c, .int .i64 q]) tab tab_ok fns fns_ok [.tmp 4, .tmp 5] Try.func48 rfl rfl rfl rfl ?_
  repeat' (first
   | (refine gJ ?_
      first
      | refine jmv rfl rfl rfl rfl rfl ?_
      | (refine gload rfl rfl ?_
         refine j_qe rfl rfl rfl ?_
         first
         | refine ⟨_, q_load_own rfl rfl rfl rfl (by (repeat (first | exact InL.here | apply InL.there))) (by first | rfl | assumption), ?_⟩
         | refine ⟨_, q_loadA_own rfl rfl rfl rfl (by (repeat (first | exact InL.here | apply InL.there))) (by rfl), ?_⟩
         | refine ⟨_, q_loadA_ext rfl rfl rfl rfl ⟨by assumption, (by first | exact id | assumption)⟩ (by rfl), ?_⟩
         | refine ⟨_, q_load_ext rfl rfl rfl rfl ⟨by assumption, (by first | exact id | assumption)⟩ (by first | rfl | assumption), ?_⟩
         | refine ⟨_, q_load_extb rfl rfl rfl rfl ⟨by assumption, (by first | exact id | assumption)⟩ (by rfl), ?_⟩
         | refine ⟨_, q_loadA_extb rfl rfl rfl rfl ⟨by assumption, (by first | exact id | assumption)⟩ (by rfl), ?_⟩
         | refine ⟨_, q_load_ext0 rfl rfl rfl rfl ⟨by assumption, (by first | exact id | assumption)⟩ (by rfl), ?_⟩)
      | refine jcmp rfl rfl rfl rfl rfl rfl rfl ?_
      | refine jar rfl rfl rfl rfl rfl rfl rfl (by omega) ?_
      | (refine j_qe rfl rfl rfl ?_
         first
         | refine ⟨_, q_pick_t rfl rfl rfl, ?_⟩
         | refine ⟨_, q_pick_f rfl rfl rfl, ?_⟩
         | refine ⟨_, q_not rfl rfl, ?_⟩
         | refine ⟨_, q_index_nat rfl rfl rfl rfl rfl (by omega), ?_⟩
         | refine ⟨_, q_index_slice rfl rfl rfl rfl rfl (by omega), ?_⟩
         | refine ⟨_, q_index_arr rfl rfl rfl rfl rfl (by omega), ?_⟩
         | refine ⟨_, q_index_arr_ext rfl rfl rfl rfl rfl (by omega), ?_⟩
         | refine ⟨_, q_len_slice rfl rfl rfl rfl, ?_⟩
         | refine ⟨_, q_addu8 rfl rfl rfl (by omega), ?_⟩)
      | refine j_guard_undef rfl rfl rfl rfl rfl ?_
      | (refine j_guard rfl rfl rfl rfl rfl ?_ ?_ <;> intro hc <;> (first | (exact absurd hc (by decide)) | ((try simp only [decide_eq_true_eq, decide_eq_false_iff_not, Bool.not_eq_true', Bool.not_eq_false', Bool.not_true, Bool.not_false, ne_eq, Decidable.not_not] at hc) <;> first | (exfalso; omega) | (exact absurd trivial hc) | skip))))
   | (refine gSC ?_
      first
      | refine sc_seq ?_
      | refine sc_region ?_
      | (refine sc_cond rfl ?_ ?_ <;> intro hc <;> (first | (exact absurd hc (by decide)) | ((try simp only [decide_eq_true_eq, decide_eq_false_iff_not, Bool.not_eq_true', Bool.not_eq_false', Bool.not_true, Bool.not_false, ne_eq, Decidable.not_not] at hc) <;> first | (exfalso; omega) | (exact absurd trivial hc) | skip)))
      | refine sc_block ?_
      | refine sc_ret ?_
      | refine sc_exit ?_
      | refine sc_skip ?_
      | refine sc_draw rfl mixed (by kernel_rfl) ?_)
   | (refine gSQ ?_
      first
      | refine sq_seq ?_
      | refine sq_blk ?_
      | refine sq_seq_ret ?_
      | refine sq_blk_ret ?_
      | refine sq_loop_ret ?_
      | refine sq_seq_exit ?_
      | refine sq_blk_hit ?_
      | refine sq_blk_miss rfl ?_
      | refine sq_loop_exit ?_
      | refine sq_ende (.inl rfl) rfl rfl ⟨_, (RVs.cons (RV.tmp rfl) (RVs.cons (RV.tmp rfl) (RVs.nil))), ?_⟩
      | refine sq_ende (.inr rfl) rfl rfl ⟨_, (RVs.cons (RV.tmp rfl) (RVs.cons (RV.tmp rfl) (RVs.nil))), ?_⟩)
   | refine j_nil ?_
   )
  all_goals (try (exfalso; omega))
  all_goals ((intro w' hS; refine ⟨?_, hS.below⟩; simp only [pack]); unfold quantF; rw [hn]; (repeat' split) <;> first | rfl | (exfalso; omega))
end Go.Proofs.Ytmlgheoliaplgaa
