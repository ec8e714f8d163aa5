/-
  The examples of the chapter.
-/
import Derived.Test.YtmlgheoliaplgaaHlp
import Derived.Test.YtmlgheoliaplgaaEngIter
namespace Go.Proofs.Ytmlgheoliaplgaa
open Go.RowKit Eng
set_option linter.unusedVariables false
set_option linter.unusedSimpArgs false
attribute [local irreducible] SC SQ J Qt Calls Iterates
set_option exponentiation.threshold 600
section
variable {C : Cx} {F : Fr} {L : List HA} {o : Oper} {K : List KI} {ops : Array Oper} {m : Bool} {rest : List Oper}
attribute [local semireducible] SC J
theorem j_insert {t kt et : Nat} {x y z : Operand} {ti tk : TI} {ik : IntKind} {b : Nat} {M : List (Int × Value)} {k : Int} {v : Value} {L' : List HA} (ho : o.op = .insert t x y z) (hg : o.guard = none) (hd : o.dst = none) (ht : tget C.tab t = some ti)
    (hk : ti.kind = .map kt et) (htk : tget C.tab kt = some tk) (hkk : tk.kind = .int ik) (hx : ev F x = some (.map (some b))) (hy : ev F y = some (.int ik k)) (hz : ev F z = some v) (hup : Upd L (haMap b ik M) (haMap b ik (mset M k v)) L')
    (h : J C ops false rest K F L') : J C ops false (o :: rest) K F L := by
  intro a w hf hs
  obtain ⟨N, hp1, hp2⟩ := hup.perm
  have hA := (hs.perm hp1).head
  obtain ⟨ob, h1, h2⟩ := hA.2.1
  obtain ⟨ob', hr, hM'⟩ := run_mapUpdate (C.ok.get ht) hk (C.ok.get htk) hkk h1 h2 k v
  have hrun : (execOp a.eval o).run C.P w = .ok .skip { w with heap := w.heap.setIfInBounds b ob' } := by
    simp [execOp, ho, hf.ev hx, hf.ev hy, hf.ev hz, hr]
  refine wpListIn_run (by simp [Region.wanted, hg]) (wpIn_skip_ hrun ?_)
  rw [hd]
  have hlt := (hA.1 b rfl).2
  refine h a _ (hf.put_none undef) (hs.upd hup ⟨rfl, rfl, rfl, by simp, fun k hk => by omega⟩ ?_ (haMap_holds (hA.1 b rfl).1 (by simp [hlt]) hM') (fun c hc => .inl hc))
  intro c hc hne
  simp only [Array.getElem?_setIfInBounds]
  rw [if_neg (fun e => hne e.symm)]
end
theorem low_is {n k r L : Nat} (h1 : L = 0 ∨ posB n k r (L - 1) = false) (h2 : posB n k r L = true) (hL : L ≤ 10000) : lowF n k r = L := by
  refine lowest_eq (fun p hp => ?_) (fun _ => h2) hL
  rcases h1 with h | h
  · omega
  · cases hpp : posB n k r p with
    | false => rfl
    | true =>
      have := posB_mono n k r p (L - 1) (by omega) (by omega) hpp
      rw [h] at this
      cases this
theorem lowA : lowF 10 10 500 = 7412 := low_is (.inr (by decide +kernel)) (by decide +kernel) (by decide)
theorem lowB : lowF 10 0 500 = 0 := low_is (.inl rfl) (by decide +kernel) (by decide)
theorem lowC : lowF 0 0 500 = 0 := low_is (.inl rfl) (by decide +kernel) (by decide)
theorem chA : ch 5 2 = 10 := by decide +kernel
theorem bnA : bn 2500 (10000 - 2500) 2 1 = 37500000 := by decide +kernel
theorem upA : up 2500 (10000 - 2500) 2 1 = 43750000 := by decide +kernel
theorem sort_eq {a b : List Int} (h : a.Perm b) : sortI a = sortI b := by
  have ht : ∀ (x y z : Int), decide (x ≤ y) = true → decide (y ≤ z) = true → decide (x ≤ z) = true := by intro x y z; simp; omega
  have hto : ∀ (x y : Int), (decide (x ≤ y) || decide (y ≤ x)) = true := by intro x y; simp; omega
  refine List.Perm.eq_of_pairwise (le := fun x y => decide (x ≤ y) = true) (fun x y _ _ h1 h2 => by simp at h1 h2; omega) (List.pairwise_mergeSort ht hto a) (List.pairwise_mergeSort ht hto b) ?_
  exact (List.mergeSort_perm a _).trans (h.trans (List.mergeSort_perm b _).symm)
theorem sort4 : sortI [5, 1, 4, 2] = [1, 2, 4, 5] := by
  rw [sort_eq (show List.Perm [5, 1, 4, 2] [1, 2, 4, 5] by decide)]
  exact List.mergeSort_of_pairwise (by decide)
theorem same_one (A : Option Addr) (c a : Nat) (B : Option Addr) (v : Nat) (w : World) (ha : a ≤ cap) (h0 : 0 < v) (h1 : v ≤ 5000000000) (h2 : v < 4294967296) (h3 : v ≤ cap) (hA : SL w A c (limbs a)) (hB : SL w B 1 [(v : Int)]) :
    Calls Try.prog 30 #[.slice A (limbs a).length c, .slice B 1 1] w fun e w' => e = .returned (.bool (decide (a = v))) ∧ Below w.heap.size w w' := by
  have h := same1_c A c a B 1 v w ha h3 hA (by rw [limbs_one h0 h2]; exact hB)
  rw [limbs_one h0 h2] at h
  exact h
theorem sl_cells {w0 w : World} {hot : Nat → Prop} {L : List HA} {b u v : Nat} (hs : St w0 hot L w) (hin : InL L (.cells b u [.int .u32 (v : Int)])) : SL w (some ⟨b, 0, none⟩) 1 [(v : Int)] :=
  ⟨rs_of_cells (l := [(v : Int)]) hs hin, (fun h => by cases h), Nat.le_refl _⟩
theorem rs_of_cellsI {w0 w : World} {hot : Nat → Prop} {L : List HA} {u b : Nat} {l : List Int} (hs : St w0 hot L w) (hin : InL L (.cells b u (l.flatMap intC))) : RS w 1 intC (some ⟨b, 0, none⟩) l := fun i x hx => by
  have hE := hs.ext hin
  refine ⟨_, rfl, by rw [block_add]; exact hE.lt, fun j v hv => ?_⟩
  rw [nth_eq] at hv
  have hfl := flat_at intC 1 (fun _ => rfl) l i x j v hx hv
  rw [Eng.add_add]
  exact hE.cell _ _ (by rw [nth_eq]; exact hfl)
theorem quant4 {w0 w : World} {hot : Nat → Prop} {L : List HA} {u b : Nat} (q : Nat) (want : Int) (hs : St w0 hot L w) (hin : InL L (.cells b u (([5, 1, 4, 2] : List Int).flatMap intC))) (hq : q ≤ 10000) (hr : ([1, 2, 4, 5] : List Int)[rank 4 q]? = some want) :
    Calls Try.prog 37 #[.slice (some ⟨b, 0, none⟩) 4 4, .int .i64 q] w fun e w' => e = .returned (.tuple #[.int .i64 want, .int .i64 0]) ∧ Below w.heap.size w w' := by
  have h := quant_c (some ⟨b, 0, none⟩) 4 [5, 1, 4, 2] q w (by simp) (by simp) hq ⟨rs_of_cellsI hs hin, fun h => by cases h⟩
  rw [sort4, show ([5, 1, 4, 2] : List Int).length = 4 from rfl, hr] at h
  exact h
abbrev exM : List (Int × Value) := [(0, .int .i64 1), (5000, .int .i64 2), (9000, .int .i64 5), (10000, .int .i64 5)]
theorem awake_c (w : World) : Calls Try.prog 14 #[] w fun e w' => e = .returned (.bool true) ∧ Below w.heap.size w w' := by
  have k1 : ∀ w', Calls Try.prog 32 #[.int .i64 5, .int .i64 2] w' fun e w'' => ∃ v : Value, True ∧ e = .returned (.tuple #[v, .int .i64 0]) ∧ St w' Cold [haN v 10] w'' := fun w' => by have h := choose_c 5 2 w' (by omega) (by omega); rw [chA] at h; exact h
  have k2 : ∀ w', Calls Try.prog 22 #[.int .i64 2, .int .i64 1, .int .i64 2500] w' fun e w'' => ∃ v : Value, True ∧ e = .returned (.tuple #[v, .int .i64 0]) ∧ St w' Cold [haN v 37500000] w'' := fun w' => by have h := chance_c 2 1 2500 w' (by omega) (by omega) (by omega); rw [bnA] at h; exact h
  have k3 : ∀ w', Calls Try.prog 28 #[.int .i64 2, .int .i64 1, .int .i64 2500] w' fun e w'' => ∃ v : Value, True ∧ e = .returned (.tuple #[v, .int .i64 0]) ∧ St w' Cold [haN v 43750000] w'' := fun w' => by have h := upper_c 2 1 2500 w' (by omega) (by omega) (by omega); rw [upA] at h; exact h
  have k4 : ∀ w', Calls Try.prog 23 #[.int .i64 10, .int .i64 10, .int .i64 500] w' fun e w'' => e = .returned (.tuple #[.int .i64 7412, .int .i64 0]) ∧ Below w'.heap.size w' w'' := fun w' => by have h := least_c 10 10 500 w' (by omega) (by omega) (by omega); rw [lowA] at h; exact h
  have k5 : ∀ w', Calls Try.prog 24 #[.int .i64 10, .int .i64 0, .int .i64 500] w' fun e w'' => e = .returned (.tuple #[.int .i64 2588, .int .i64 0]) ∧ Below w'.heap.size w' w'' := fun w' => by have h := greatest_c 10 0 500 w' (by omega) (by omega) (by omega); rw [show 10 - 0 = 10 from rfl, lowA] at h; exact h
  have k6 : ∀ w', Calls Try.prog 23 #[.int .i64 10, .int .i64 0, .int .i64 500] w' fun e w'' => e = .returned (.tuple #[.int .i64 0, .int .i64 0]) ∧ Below w'.heap.size w' w'' := fun w' => by have h := least_c 10 0 500 w' (by omega) (by omega) (by omega); rw [lowB] at h; exact h
  have k7 : ∀ w', Calls Try.prog 24 #[.int .i64 0, .int .i64 0, .int .i64 500] w' fun e w'' => e = .returned (.tuple #[.int .i64 10000, .int .i64 0]) ∧ Below w'.heap.size w' w'' := fun w' => by have h := greatest_c 0 0 500 w' (by omega) (by omega) (by omega); rw [show 0 - 0 = 0 from rfl, lowC] at h; exact h
  have small := fun (a : Nat) (h : a ≤ 5000000) => small_cap h
  have q1 : 37500000 ≤ cap := Nat.le_trans (by decide : 37500000 ≤ 10000 ^ 2) (pow_cap (Nat.le_refl _) (by omega))
  have q2 : 43750000 ≤ cap := Nat.le_trans (by decide : 43750000 ≤ 10000 ^ 2) (pow_cap (Nat.le_refl _) (by omega))
  refine eng_start (n := 113) (args := []) tab tab_ok fns fns_ok [.tmp 0] Try.func14 rfl rfl rfl rfl ?_
  repeat' (first
   | (refine gJ ?_
      first
      | refine jmv rfl rfl rfl rfl rfl ?_
      | refine jcmp rfl rfl rfl rfl rfl rfl rfl ?_
      | refine jar rfl rfl rfl rfl rfl rfl rfl (by omega) ?_
      | refine jextract rfl rfl rfl rfl rfl rfl ?_
      | (refine gcall rfl rfl ?_
         first
         | (refine j_qc (f := 23) rfl rfl rfl rfl rfl rfl rfl ?_; refine ⟨_, (fun w' hs => k4 w'), ?_⟩)
         | (refine j_qc (f := 24) rfl rfl rfl rfl rfl rfl rfl ?_; refine ⟨_, (fun w' hs => k5 w'), ?_⟩)
         | (refine j_qc (f := 23) rfl rfl rfl rfl rfl rfl rfl ?_; refine ⟨_, (fun w' hs => k6 w'), ?_⟩)
         | (refine j_qc (f := 24) rfl rfl rfl rfl rfl rfl rfl ?_; refine ⟨_, (fun w' hs => k7 w'), ?_⟩)
         | (refine j_qc (f := 30) rfl rfl rfl rfl rfl rfl rfl ?_; refine ⟨_, (fun w' hs => same_one A1 c1 10 (some ⟨b, 0, none⟩) 10 w' (small_cap (by omega)) (by omega) (by omega) (by omega) (small_cap (by omega)) (sl_of_own hs (by (repeat (first | exact InL.here | apply InL.there))) rfl rfl) (sl_cells hs (by (repeat (first | exact InL.here | apply InL.there))))), ?_⟩)
         | (refine j_qc (f := 30) rfl rfl rfl rfl rfl rfl rfl ?_; refine ⟨_, (fun w' hs => same_one A2 c2 37500000 (some ⟨b, 0, none⟩) 37500000 w' q1 (by omega) (by omega) (by omega) q1 (sl_of_own hs (by (repeat (first | exact InL.here | apply InL.there))) rfl rfl) (sl_cells hs (by (repeat (first | exact InL.here | apply InL.there))))), ?_⟩)
         | (refine j_qc (f := 30) rfl rfl rfl rfl rfl rfl rfl ?_; refine ⟨_, (fun w' hs => same_one A3 c3 43750000 (some ⟨b, 0, none⟩) 43750000 w' q2 (by omega) (by omega) (by omega) q2 (sl_of_own hs (by (repeat (first | exact InL.here | apply InL.there))) rfl rfl) (sl_cells hs (by (repeat (first | exact InL.here | apply InL.there))))), ?_⟩))
      | (refine gcall rfl rfl ?_; refine j_nat2 (f := 32) rfl rfl rfl rfl rfl rfl rfl (fun w' hs => k1 w') ?_; intro A1 c1)
      | (refine gcall rfl rfl ?_; refine j_nat2 (f := 22) rfl rfl rfl rfl rfl rfl rfl (fun w' hs => k2 w') ?_; intro A2 c2)
      | (refine gcall rfl rfl ?_; refine j_nat2 (f := 28) rfl rfl rfl rfl rfl rfl rfl (fun w' hs => k3 w') ?_; intro A3 c3)
      | (refine j_makeMap .i64 rfl rfl rfl rfl ?_; intro bm)
      | (refine j_insert rfl rfl rfl rfl rfl rfl rfl rfl rfl rfl (by (repeat (first | exact Upd.here | apply Upd.there))) ?_)
      | (refine j_range rfl rfl rfl rfl rfl rfl rfl (fun _ => by (repeat (first | exact Upd.here | apply Upd.there))) ?_; intro br)
      | (refine j_qe rfl rfl rfl ?_
         first
         | refine ⟨_, q_pick_t rfl rfl rfl, ?_⟩
         | refine ⟨_, q_pick_f rfl rfl rfl, ?_⟩
         | refine ⟨_, q_not rfl rfl, ?_⟩
         | refine ⟨_, q_addu8 rfl rfl rfl (by omega), ?_⟩)
      | refine j_guard_undef rfl rfl rfl rfl rfl ?_
      | (refine j_guard rfl rfl rfl rfl rfl ?_ ?_ <;> intro hc <;> (first | (exact absurd hc (by decide)) | ((try simp only [decide_eq_true_eq, decide_eq_false_iff_not, Bool.not_eq_true', Bool.not_eq_false', Bool.not_true, Bool.not_false, ne_eq, Decidable.not_not] at hc) <;> first | (exfalso; omega) | (exact absurd trivial hc) | skip)))
      | (refine j_buildSlice rfl rfl rfl rfl rfl rfl rfl rfl rfl rfl rfl rfl ?_; intro b))
   | (refine gSC ?_
      first
      | refine sc_seq ?_
      | refine sc_region ?_
      | (refine sc_cond rfl ?_ ?_ <;> intro hc <;> (first | (exact absurd hc (by decide)) | ((try simp only [decide_eq_true_eq, decide_eq_false_iff_not, Bool.not_eq_true', Bool.not_eq_false', Bool.not_true, Bool.not_false, ne_eq, Decidable.not_not] at hc) <;> first | (exfalso; omega) | (exact absurd trivial hc) | skip)))
      | refine sc_block ?_
      | refine sc_ret ?_
      | refine sc_exit ?_
      | refine sc_skip ?_)
   | (refine gSQ ?_
      first
      | refine sq_seq ?_
      | refine sq_blk ?_
      | refine sq_seq_ret ?_
      | refine sq_blk_ret ?_
      | refine sq_loop_ret ?_
      | refine sq_seq_exit ?_
      | refine sq_blk_hit ?_
      | refine sq_blk_miss rfl ?_
      | refine sq_loop_exit ?_
      | refine sq_ende (.inl rfl) rfl rfl ⟨_, (RVs.cons (RV.tmp rfl) (RVs.nil)), ?_⟩
      | refine sq_ende (.inr rfl) rfl rfl ⟨_, (RVs.cons (RV.tmp rfl) (RVs.nil)), ?_⟩)
   | refine j_nil ?_
   )
  refine sc_loop (ι := List (Int × Value) × Option (Int × Value)) (fun i => ∀ x ∈ i.1, x ∈ exM) (fun i => i.1.length) (fun i => [(94, .pointer (some ⟨br, 0, none⟩))]) (fun i => [haIt bm br .i64 exM i.1 i.2]) (exM, none) (fun x hx => hx) (by repeat (first | exact FSub.nil | refine FSub.cons rfl ?_ | refine FSub.conse rfl (by congr 1; omega) ?_)) (by repeat (first | exact LSub.nil | refine LSub.cons (by repeat (first | exact Rem.here | apply Rem.there)) ?_)) ?_
  rintro ⟨left, cur⟩ hsub
  dsimp only at hsub ⊢
  repeat' (first
   | (refine gJ ?_
      first
      | refine jmv rfl rfl rfl rfl rfl ?_
      | refine jcmp rfl rfl rfl rfl rfl rfl rfl ?_
      | refine jar rfl rfl rfl rfl rfl rfl rfl (by omega) ?_
      | refine jextract rfl rfl rfl rfl rfl rfl ?_
      | (refine j_qe rfl rfl rfl ?_
         first
         | refine ⟨_, q_pick_t rfl rfl rfl, ?_⟩
         | refine ⟨_, q_pick_f rfl rfl rfl, ?_⟩
         | refine ⟨_, q_not rfl rfl, ?_⟩
         | refine ⟨_, q_addu8 rfl rfl rfl (by omega), ?_⟩)
      | refine j_guard_undef rfl rfl rfl rfl rfl ?_
      | (refine j_guard rfl rfl rfl rfl rfl ?_ ?_ <;> intro hc <;> (first | (exact absurd hc (by decide)) | ((try simp only [decide_eq_true_eq, decide_eq_false_iff_not, Bool.not_eq_true', Bool.not_eq_false', Bool.not_true, Bool.not_false, ne_eq, Decidable.not_not] at hc) <;> first | (exfalso; omega) | (exact absurd trivial hc) | skip)))
      | (refine j_buildSlice rfl rfl rfl rfl rfl rfl rfl rfl rfl rfl rfl rfl ?_; intro b))
   | (refine gSC ?_
      first
      | refine sc_seq ?_
      | refine sc_region ?_
      | (refine sc_cond rfl ?_ ?_ <;> intro hc <;> (first | (exact absurd hc (by decide)) | ((try simp only [decide_eq_true_eq, decide_eq_false_iff_not, Bool.not_eq_true', Bool.not_eq_false', Bool.not_true, Bool.not_false, ne_eq, Decidable.not_not] at hc) <;> first | (exfalso; omega) | (exact absurd trivial hc) | skip)))
      | refine sc_block ?_
      | refine sc_ret ?_
      | refine sc_exit ?_
      | refine sc_skip ?_)
   | (refine gSQ ?_
      first
      | refine sq_seq ?_
      | refine sq_blk ?_
      | refine sq_seq_ret ?_
      | refine sq_blk_ret ?_
      | refine sq_loop_ret ?_
      | refine sq_seq_exit ?_
      | refine sq_blk_hit ?_
      | refine sq_blk_miss rfl ?_
      | refine sq_loop_exit ?_
      | refine sq_ende (.inl rfl) rfl rfl ⟨_, (RVs.cons (RV.tmp rfl) (RVs.nil)), ?_⟩
      | refine sq_ende (.inr rfl) rfl rfl ⟨_, (RVs.cons (RV.tmp rfl) (RVs.nil)), ?_⟩)
   | refine j_nil ?_
   )
  refine gJ ?_
  refine j_next rfl rfl rfl rfl rfl (by (repeat (first | exact InL.here | apply InL.there))) (fun _ _ _ => by (repeat (first | exact Upd.here | apply Upd.there))) ?_ ?_
  · intro hl0
    subst hl0
    repeat' (first
     | (refine gJ ?_
        first
        | refine jmv rfl rfl rfl rfl rfl ?_
        | refine jcmp rfl rfl rfl rfl rfl rfl rfl ?_
        | refine jar rfl rfl rfl rfl rfl rfl rfl (by omega) ?_
        | refine jextract rfl rfl rfl rfl rfl rfl ?_
        | (refine j_qe rfl rfl rfl ?_
           first
           | refine ⟨_, q_pick_t rfl rfl rfl, ?_⟩
           | refine ⟨_, q_pick_f rfl rfl rfl, ?_⟩
           | refine ⟨_, q_not rfl rfl, ?_⟩
           | refine ⟨_, q_addu8 rfl rfl rfl (by omega), ?_⟩)
        | refine j_guard_undef rfl rfl rfl rfl rfl ?_
        | (refine j_guard rfl rfl rfl rfl rfl ?_ ?_ <;> intro hc <;> (first | (exact absurd hc (by decide)) | ((try simp only [decide_eq_true_eq, decide_eq_false_iff_not, Bool.not_eq_true', Bool.not_eq_false', Bool.not_true, Bool.not_false, ne_eq, Decidable.not_not] at hc) <;> first | (exfalso; omega) | (exact absurd trivial hc) | skip)))
        | (refine j_buildSlice rfl rfl rfl rfl rfl rfl rfl rfl rfl rfl rfl rfl ?_; intro b))
     | (refine gSC ?_
        first
        | refine sc_seq ?_
        | refine sc_region ?_
        | (refine sc_cond rfl ?_ ?_ <;> intro hc <;> (first | (exact absurd hc (by decide)) | ((try simp only [decide_eq_true_eq, decide_eq_false_iff_not, Bool.not_eq_true', Bool.not_eq_false', Bool.not_true, Bool.not_false, ne_eq, Decidable.not_not] at hc) <;> first | (exfalso; omega) | (exact absurd trivial hc) | skip)))
        | refine sc_block ?_
        | refine sc_ret ?_
        | refine sc_exit ?_
        | refine sc_skip ?_)
     | (refine gSQ ?_
        first
        | refine sq_seq ?_
        | refine sq_blk ?_
        | refine sq_seq_ret ?_
        | refine sq_blk_ret ?_
        | refine sq_loop_ret ?_
        | refine sq_seq_exit ?_
        | refine sq_blk_hit ?_
        | refine sq_blk_miss rfl ?_
        | refine sq_loop_exit ?_
        | refine sq_ende (.inl rfl) rfl rfl ⟨_, (RVs.cons (RV.tmp rfl) (RVs.nil)), ?_⟩
        | refine sq_ende (.inr rfl) rfl rfl ⟨_, (RVs.cons (RV.tmp rfl) (RVs.nil)), ?_⟩)
     | refine j_nil ?_
     )
    (intro w' hS; refine ⟨?_, hS.below⟩; simp only [pack])
  · intro l1 k v0 l2 hsp
    subst hsp
    have hk : (k, v0) ∈ exM := hsub (k, v0) (by simp)
    have hsub2 : ∀ x ∈ l1 ++ l2, x ∈ exM := fun x hx => hsub x (by simp at hx ⊢; rcases hx with h | h <;> simp [h])
    simp only [exM, List.mem_cons, List.mem_nil_iff, or_false, Prod.mk.injEq] at hk
    rcases hk with ⟨rfl, rfl⟩ | ⟨rfl, rfl⟩ | ⟨rfl, rfl⟩ | ⟨rfl, rfl⟩
    · repeat' (first
       | (refine gJ ?_
          first
          | refine jmv rfl rfl rfl rfl rfl ?_
          | refine jcmp rfl rfl rfl rfl rfl rfl rfl ?_
          | refine jar rfl rfl rfl rfl rfl rfl rfl (by omega) ?_
          | refine jextract rfl rfl rfl rfl rfl rfl ?_
          | (refine gcall rfl rfl ?_
             first
             | (refine j_qc (f := 37) rfl rfl rfl rfl rfl rfl rfl ?_; refine ⟨_, (fun w' hs => quant4 0 1 hs (by (repeat (first | exact InL.here | apply InL.there))) (by omega) (by decide +kernel)), ?_⟩))
          | (refine j_qe rfl rfl rfl ?_; refine ⟨_, q_entry rfl rfl (by (repeat (first | exact InL.here | apply InL.there))), ?_⟩)
          | (refine j_qe rfl rfl rfl ?_
             first
             | refine ⟨_, q_pick_t rfl rfl rfl, ?_⟩
             | refine ⟨_, q_pick_f rfl rfl rfl, ?_⟩
             | refine ⟨_, q_not rfl rfl, ?_⟩
             | refine ⟨_, q_addu8 rfl rfl rfl (by omega), ?_⟩)
          | refine j_guard_undef rfl rfl rfl rfl rfl ?_
          | (refine j_guard rfl rfl rfl rfl rfl ?_ ?_ <;> intro hc <;> (first | (exact absurd hc (by decide)) | ((try simp only [decide_eq_true_eq, decide_eq_false_iff_not, Bool.not_eq_true', Bool.not_eq_false', Bool.not_true, Bool.not_false, ne_eq, Decidable.not_not] at hc) <;> first | (exfalso; omega) | (exact absurd trivial hc) | skip)))
          | (refine j_buildSlice rfl rfl rfl rfl rfl rfl rfl rfl rfl rfl rfl rfl ?_; intro b))
       | (refine gSC ?_
          first
          | refine sc_seq ?_
          | refine sc_region ?_
          | (refine sc_cond rfl ?_ ?_ <;> intro hc <;> (first | (exact absurd hc (by decide)) | ((try simp only [decide_eq_true_eq, decide_eq_false_iff_not, Bool.not_eq_true', Bool.not_eq_false', Bool.not_true, Bool.not_false, ne_eq, Decidable.not_not] at hc) <;> first | (exfalso; omega) | (exact absurd trivial hc) | skip)))
          | refine sc_block ?_
          | refine sc_ret ?_
          | refine sc_exit ?_
          | refine sc_skip ?_)
       | (refine gSQ ?_
          first
          | refine sq_seq ?_
          | refine sq_blk ?_
          | refine sq_seq_ret ?_
          | refine sq_blk_ret ?_
          | refine sq_loop_ret ?_
          | refine sq_seq_exit ?_
          | refine sq_blk_hit ?_
          | refine sq_blk_miss rfl ?_
          | refine sq_loop_exit ?_
          | refine sq_ende (.inl rfl) rfl rfl ⟨_, (RVs.cons (RV.tmp rfl) (RVs.nil)), ?_⟩
          | refine sq_ende (.inr rfl) rfl rfl ⟨_, (RVs.cons (RV.tmp rfl) (RVs.nil)), ?_⟩)
       | refine j_nil ?_
       )
      exact sq_loop (l1 ++ l2, some (0, .int .i64 1)) hsub2 (by simp) (by repeat (first | exact FSub.nil | refine FSub.cons rfl ?_ | refine FSub.conse rfl (by congr 1; omega) ?_)) (by repeat (first | exact LSub.nil | refine LSub.cons (by repeat (first | exact Rem.here | apply Rem.there)) ?_))
    · repeat' (first
       | (refine gJ ?_
          first
          | refine jmv rfl rfl rfl rfl rfl ?_
          | refine jcmp rfl rfl rfl rfl rfl rfl rfl ?_
          | refine jar rfl rfl rfl rfl rfl rfl rfl (by omega) ?_
          | refine jextract rfl rfl rfl rfl rfl rfl ?_
          | (refine gcall rfl rfl ?_
             first
             | (refine j_qc (f := 37) rfl rfl rfl rfl rfl rfl rfl ?_; refine ⟨_, (fun w' hs => quant4 5000 2 hs (by (repeat (first | exact InL.here | apply InL.there))) (by omega) (by decide +kernel)), ?_⟩))
          | (refine j_qe rfl rfl rfl ?_; refine ⟨_, q_entry rfl rfl (by (repeat (first | exact InL.here | apply InL.there))), ?_⟩)
          | (refine j_qe rfl rfl rfl ?_
             first
             | refine ⟨_, q_pick_t rfl rfl rfl, ?_⟩
             | refine ⟨_, q_pick_f rfl rfl rfl, ?_⟩
             | refine ⟨_, q_not rfl rfl, ?_⟩
             | refine ⟨_, q_addu8 rfl rfl rfl (by omega), ?_⟩)
          | refine j_guard_undef rfl rfl rfl rfl rfl ?_
          | (refine j_guard rfl rfl rfl rfl rfl ?_ ?_ <;> intro hc <;> (first | (exact absurd hc (by decide)) | ((try simp only [decide_eq_true_eq, decide_eq_false_iff_not, Bool.not_eq_true', Bool.not_eq_false', Bool.not_true, Bool.not_false, ne_eq, Decidable.not_not] at hc) <;> first | (exfalso; omega) | (exact absurd trivial hc) | skip)))
          | (refine j_buildSlice rfl rfl rfl rfl rfl rfl rfl rfl rfl rfl rfl rfl ?_; intro b))
       | (refine gSC ?_
          first
          | refine sc_seq ?_
          | refine sc_region ?_
          | (refine sc_cond rfl ?_ ?_ <;> intro hc <;> (first | (exact absurd hc (by decide)) | ((try simp only [decide_eq_true_eq, decide_eq_false_iff_not, Bool.not_eq_true', Bool.not_eq_false', Bool.not_true, Bool.not_false, ne_eq, Decidable.not_not] at hc) <;> first | (exfalso; omega) | (exact absurd trivial hc) | skip)))
          | refine sc_block ?_
          | refine sc_ret ?_
          | refine sc_exit ?_
          | refine sc_skip ?_)
       | (refine gSQ ?_
          first
          | refine sq_seq ?_
          | refine sq_blk ?_
          | refine sq_seq_ret ?_
          | refine sq_blk_ret ?_
          | refine sq_loop_ret ?_
          | refine sq_seq_exit ?_
          | refine sq_blk_hit ?_
          | refine sq_blk_miss rfl ?_
          | refine sq_loop_exit ?_
          | refine sq_ende (.inl rfl) rfl rfl ⟨_, (RVs.cons (RV.tmp rfl) (RVs.nil)), ?_⟩
          | refine sq_ende (.inr rfl) rfl rfl ⟨_, (RVs.cons (RV.tmp rfl) (RVs.nil)), ?_⟩)
       | refine j_nil ?_
       )
      exact sq_loop (l1 ++ l2, some (5000, .int .i64 2)) hsub2 (by simp) (by repeat (first | exact FSub.nil | refine FSub.cons rfl ?_ | refine FSub.conse rfl (by congr 1; omega) ?_)) (by repeat (first | exact LSub.nil | refine LSub.cons (by repeat (first | exact Rem.here | apply Rem.there)) ?_))
    · repeat' (first
       | (refine gJ ?_
          first
          | refine jmv rfl rfl rfl rfl rfl ?_
          | refine jcmp rfl rfl rfl rfl rfl rfl rfl ?_
          | refine jar rfl rfl rfl rfl rfl rfl rfl (by omega) ?_
          | refine jextract rfl rfl rfl rfl rfl rfl ?_
          | (refine gcall rfl rfl ?_
             first
             | (refine j_qc (f := 37) rfl rfl rfl rfl rfl rfl rfl ?_; refine ⟨_, (fun w' hs => quant4 9000 5 hs (by (repeat (first | exact InL.here | apply InL.there))) (by omega) (by decide +kernel)), ?_⟩))
          | (refine j_qe rfl rfl rfl ?_; refine ⟨_, q_entry rfl rfl (by (repeat (first | exact InL.here | apply InL.there))), ?_⟩)
          | (refine j_qe rfl rfl rfl ?_
             first
             | refine ⟨_, q_pick_t rfl rfl rfl, ?_⟩
             | refine ⟨_, q_pick_f rfl rfl rfl, ?_⟩
             | refine ⟨_, q_not rfl rfl, ?_⟩
             | refine ⟨_, q_addu8 rfl rfl rfl (by omega), ?_⟩)
          | refine j_guard_undef rfl rfl rfl rfl rfl ?_
          | (refine j_guard rfl rfl rfl rfl rfl ?_ ?_ <;> intro hc <;> (first | (exact absurd hc (by decide)) | ((try simp only [decide_eq_true_eq, decide_eq_false_iff_not, Bool.not_eq_true', Bool.not_eq_false', Bool.not_true, Bool.not_false, ne_eq, Decidable.not_not] at hc) <;> first | (exfalso; omega) | (exact absurd trivial hc) | skip)))
          | (refine j_buildSlice rfl rfl rfl rfl rfl rfl rfl rfl rfl rfl rfl rfl ?_; intro b))
       | (refine gSC ?_
          first
          | refine sc_seq ?_
          | refine sc_region ?_
          | (refine sc_cond rfl ?_ ?_ <;> intro hc <;> (first | (exact absurd hc (by decide)) | ((try simp only [decide_eq_true_eq, decide_eq_false_iff_not, Bool.not_eq_true', Bool.not_eq_false', Bool.not_true, Bool.not_false, ne_eq, Decidable.not_not] at hc) <;> first | (exfalso; omega) | (exact absurd trivial hc) | skip)))
          | refine sc_block ?_
          | refine sc_ret ?_
          | refine sc_exit ?_
          | refine sc_skip ?_)
       | (refine gSQ ?_
          first
          | refine sq_seq ?_
          | refine sq_blk ?_
          | refine sq_seq_ret ?_
          | refine sq_blk_ret ?_
          | refine sq_loop_ret ?_
          | refine sq_seq_exit ?_
          | refine sq_blk_hit ?_
          | refine sq_blk_miss rfl ?_
          | refine sq_loop_exit ?_
          | refine sq_ende (.inl rfl) rfl rfl ⟨_, (RVs.cons (RV.tmp rfl) (RVs.nil)), ?_⟩
          | refine sq_ende (.inr rfl) rfl rfl ⟨_, (RVs.cons (RV.tmp rfl) (RVs.nil)), ?_⟩)
       | refine j_nil ?_
       )
      exact sq_loop (l1 ++ l2, some (9000, .int .i64 5)) hsub2 (by simp) (by repeat (first | exact FSub.nil | refine FSub.cons rfl ?_ | refine FSub.conse rfl (by congr 1; omega) ?_)) (by repeat (first | exact LSub.nil | refine LSub.cons (by repeat (first | exact Rem.here | apply Rem.there)) ?_))
    · repeat' (first
       | (refine gJ ?_
          first
          | refine jmv rfl rfl rfl rfl rfl ?_
          | refine jcmp rfl rfl rfl rfl rfl rfl rfl ?_
          | refine jar rfl rfl rfl rfl rfl rfl rfl (by omega) ?_
          | refine jextract rfl rfl rfl rfl rfl rfl ?_
          | (refine gcall rfl rfl ?_
             first
             | (refine j_qc (f := 37) rfl rfl rfl rfl rfl rfl rfl ?_; refine ⟨_, (fun w' hs => quant4 10000 5 hs (by (repeat (first | exact InL.here | apply InL.there))) (by omega) (by decide +kernel)), ?_⟩))
          | (refine j_qe rfl rfl rfl ?_; refine ⟨_, q_entry rfl rfl (by (repeat (first | exact InL.here | apply InL.there))), ?_⟩)
          | (refine j_qe rfl rfl rfl ?_
             first
             | refine ⟨_, q_pick_t rfl rfl rfl, ?_⟩
             | refine ⟨_, q_pick_f rfl rfl rfl, ?_⟩
             | refine ⟨_, q_not rfl rfl, ?_⟩
             | refine ⟨_, q_addu8 rfl rfl rfl (by omega), ?_⟩)
          | refine j_guard_undef rfl rfl rfl rfl rfl ?_
          | (refine j_guard rfl rfl rfl rfl rfl ?_ ?_ <;> intro hc <;> (first | (exact absurd hc (by decide)) | ((try simp only [decide_eq_true_eq, decide_eq_false_iff_not, Bool.not_eq_true', Bool.not_eq_false', Bool.not_true, Bool.not_false, ne_eq, Decidable.not_not] at hc) <;> first | (exfalso; omega) | (exact absurd trivial hc) | skip)))
          | (refine j_buildSlice rfl rfl rfl rfl rfl rfl rfl rfl rfl rfl rfl rfl ?_; intro b))
       | (refine gSC ?_
          first
          | refine sc_seq ?_
          | refine sc_region ?_
          | (refine sc_cond rfl ?_ ?_ <;> intro hc <;> (first | (exact absurd hc (by decide)) | ((try simp only [decide_eq_true_eq, decide_eq_false_iff_not, Bool.not_eq_true', Bool.not_eq_false', Bool.not_true, Bool.not_false, ne_eq, Decidable.not_not] at hc) <;> first | (exfalso; omega) | (exact absurd trivial hc) | skip)))
          | refine sc_block ?_
          | refine sc_ret ?_
          | refine sc_exit ?_
          | refine sc_skip ?_)
       | (refine gSQ ?_
          first
          | refine sq_seq ?_
          | refine sq_blk ?_
          | refine sq_seq_ret ?_
          | refine sq_blk_ret ?_
          | refine sq_loop_ret ?_
          | refine sq_seq_exit ?_
          | refine sq_blk_hit ?_
          | refine sq_blk_miss rfl ?_
          | refine sq_loop_exit ?_
          | refine sq_ende (.inl rfl) rfl rfl ⟨_, (RVs.cons (RV.tmp rfl) (RVs.nil)), ?_⟩
          | refine sq_ende (.inr rfl) rfl rfl ⟨_, (RVs.cons (RV.tmp rfl) (RVs.nil)), ?_⟩)
       | refine j_nil ?_
       )
      exact sq_loop (l1 ++ l2, some (10000, .int .i64 5)) hsub2 (by simp) (by repeat (first | exact FSub.nil | refine FSub.cons rfl ?_ | refine FSub.conse rfl (by congr 1; omega) ?_)) (by repeat (first | exact LSub.nil | refine LSub.cons (by repeat (first | exact Rem.here | apply Rem.there)) ?_))
end Go.Proofs.Ytmlgheoliaplgaa
