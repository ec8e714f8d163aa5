/-
  stats: chances, summed, Chance, Upper, Lower.
-/
import Derived.Test.YtmlgheoliaplgaaSta2
namespace Go.Proofs.Ytmlgheoliaplgaa
open Go.RowKit Eng
set_option linter.unusedVariables false
set_option linter.unusedSimpArgs false
attribute [local irreducible] SC SQ J Qt Calls Iterates
attribute [local irreducible] IteratesW
set_option exponentiation.threshold 600
theorem Ext.near {w0 w : World} {hot : Nat → Prop} {ad : Addr} {cs : List Value} (h : Ext w0 ad cs) (hn : Near w0.heap.size hot w0 w) (hc : ¬ hot ad.block) : Ext w ad cs :=
  ⟨Nat.lt_of_lt_of_le h.lt hn.size, fun j u hu => (hn.cell (by rw [block_add]; exact h.lt) (by rw [block_add]; exact hc)).trans (h.cell j u hu)⟩
theorem SL.near {w0 w : World} {hot : Nat → Prop} {A : Option Addr} {c : Nat} {l : List Int} (h : SL w0 A c l) (hn : Near w0.heap.size hot w0 w) (hc : ∀ ad, A = some ad → ¬ hot ad.block) : SL w A c l :=
  ⟨fun i x hx => by
    obtain ⟨ad, e, hE⟩ := h.rs i x hx
    exact ⟨ad, e, Ext.near hE hn (by rw [block_add]; exact hc ad e)⟩, h.nil, h.le⟩
section
variable {C : Cx} {F : Fr} {L : List HA} {K : List KI}
attribute [local semireducible] SC J
/-- A new beginning, in which a part of the call's own memory may still be written. -/
theorem sc_nowk {c : Code} (L1 : List HA) (hsub : LSub L1 L) (h : ∀ w1, St C.w0 C.hot L w1 → SC ⟨C.P, C.tab, C.ok, C.fns, C.fok, C.fn, C.R, C.rs, C.hrs, C.Qr, w1, C.n, foots L1, C.rd, C.ds⟩ c K F L1) : SC C c K F L := fun a w hf hs => by
  have h1 := h w hs a w hf (hs.sub hsub).round
  have e : ∀ (hot : Nat → Prop) K, kpost (⟨C.P, C.tab, C.ok, C.fns, C.fok, C.fn, C.R, C.rs, C.hrs, C.Qr, w, C.n, hot, C.rd, C.ds⟩ : Cx) K = kpost C K := by
    intro hot K
    induction K with
    | nil => rfl
    | cons x K ih =>
      cases x with
      | seq c => simp only [kpost, ih]
      | blk id => simp only [kpost, ih]
      | loop J => simp only [kpost, ih]
      | fin J => rfl
  rw [e] at h1
  exact h1
end
theorem chances_c (n p : Nat) (w : World) :
    Calls Try.prog 74 #[.int .i64 n, .int .i64 p] w fun e w' => ∃ x : Nat × Nat, True ∧ e = .returned (.func (.func 85) #[] #[.pointer (some ⟨x.1, 0, none⟩), .pointer (some ⟨x.2, 0, none⟩)]) ∧ St w Cold [.cells x.1 3 [.int .i64 p], .cells x.2 3 [.int .i64 n]] w' := by
  refine eng_start (n := 6) (args := [.int .i64 n, .int .i64 p]) tab tab_ok fns fns_ok [.tmp 4] Try.func74 rfl rfl rfl rfl ?_
  repeat' (first
   | (refine gJ ?_
      first
      | refine jmv rfl rfl rfl rfl rfl ?_
      | (refine j_box rfl rfl rfl rfl rfl ?_; intro b)
      | (refine j_qe rfl rfl rfl ?_
         first
         | refine ⟨_, q_makeFunc rfl rfl, ?_⟩))
   | (refine gSC ?_
      first
      | refine sc_seq ?_
      | refine sc_region ?_
      | (refine sc_cond rfl ?_ ?_ <;> intro hc <;> (first | (exact absurd hc (by decide)) | ((try simp only [decide_eq_true_eq, decide_eq_false_iff_not, Bool.not_eq_true', Bool.not_eq_false', Bool.not_true, Bool.not_false, ne_eq, Decidable.not_not] at hc) <;> first | (exfalso; omega) | (exact absurd trivial hc) | skip)))
      | refine sc_block ?_
      | refine sc_ret ?_
      | refine sc_exit ?_
      | refine sc_skip ?_)
   | (refine gSQ ?_
      first
      | refine sq_seq ?_
      | refine sq_blk ?_
      | refine sq_seq_ret ?_
      | refine sq_blk_ret ?_
      | refine sq_loop_ret ?_
      | refine sq_seq_exit ?_
      | refine sq_blk_hit ?_
      | refine sq_blk_miss rfl ?_
      | refine sq_loop_exit ?_
      | refine sq_ende (.inl rfl) rfl rfl ⟨_, (RVs.cons (RV.tmp rfl) (RVs.nil)), ?_⟩
      | refine sq_ende (.inr rfl) rfl rfl ⟨_, (RVs.cons (RV.tmp rfl) (RVs.nil)), ?_⟩)
   | refine j_nil ?_
   )
  rename_i b1
  intro w' hS
  exact ⟨(b, b1), trivial, rfl, hS.sub (by repeat (first | exact LSub.nil | refine LSub.cons (by repeat (first | exact Rem.here | apply Rem.there)) ?_))⟩
theorem summed_e (n k x first last : Int) (w : World) (hc : checkF n k x 0 10000 ≠ 0) :
    Calls Try.prog 50 #[.int .i64 n, .int .i64 k, .int .i64 x, .int .i64 first, .int .i64 last] w fun e w' => e = .returned (.tuple #[.slice none 0 0, .int .i64 (checkF n k x 0 10000)]) ∧ Below w.heap.size w w' := by
  have hcc := fun w' => checked_c n k x 0 10000 w'
  have hr := check_range n k x 0 10000
  generalize checkF n k x 0 10000 = e at *
  refine eng_start (n := 39) (args := [.int .i64 n, .int .i64 k, .int .i64 x, .int .i64 first, .int .i64 last]) tab tab_ok fns fns_ok [.tmp 10, .tmp 11] Try.func50 rfl rfl rfl rfl ?_
  repeat' (first
   | (refine gJ ?_
      first
      | refine jmv rfl rfl rfl rfl rfl ?_
      | (refine gload rfl rfl ?_
         refine j_qe rfl rfl rfl ?_
         first
         | refine ⟨_, q_load_own rfl rfl rfl rfl (by (repeat (first | exact InL.here | apply InL.there))) (by first | rfl | assumption), ?_⟩
         | refine ⟨_, q_loadA_own rfl rfl rfl rfl (by (repeat (first | exact InL.here | apply InL.there))) (by rfl), ?_⟩
         | refine ⟨_, q_loadA_ext rfl rfl rfl rfl ⟨by assumption, (by first | exact id | assumption)⟩ (by rfl), ?_⟩
         | refine ⟨_, q_load_ext rfl rfl rfl rfl ⟨by assumption, (by first | exact id | assumption)⟩ (by first | rfl | assumption), ?_⟩
         | refine ⟨_, q_load_extb rfl rfl rfl rfl ⟨by assumption, (by first | exact id | assumption)⟩ (by rfl), ?_⟩
         | refine ⟨_, q_loadA_extb rfl rfl rfl rfl ⟨by assumption, (by first | exact id | assumption)⟩ (by rfl), ?_⟩
         | refine ⟨_, q_load_ext0 rfl rfl rfl rfl ⟨by assumption, (by first | exact id | assumption)⟩ (by rfl), ?_⟩)
      | refine jcmp rfl rfl rfl rfl rfl rfl rfl ?_
      | (refine gcall rfl rfl ?_
         first
         | (refine j_qc (f := 51) rfl rfl rfl rfl rfl rfl rfl ?_; refine ⟨_, (fun w' _ => hcc w'), ?_⟩))
      | refine j_store rfl rfl rfl rfl rfl rfl rfl rfl (by (repeat (first | exact Upd.here | apply Upd.there))) (by rfl) ?_
      | (refine j_alloc rfl rfl rfl rfl rfl ?_; intro b)
      | (refine j_box rfl rfl rfl rfl rfl ?_; intro b))
   | (refine gSC ?_
      first
      | refine sc_seq ?_
      | refine sc_region ?_
      | (refine sc_cond rfl ?_ ?_ <;> intro hc <;> (first | (exact absurd hc (by decide)) | ((try simp only [decide_eq_true_eq, decide_eq_false_iff_not, Bool.not_eq_true', Bool.not_eq_false', Bool.not_true, Bool.not_false, ne_eq, Decidable.not_not] at hc) <;> first | (exfalso; omega) | (exact absurd trivial hc) | skip)))
      | refine sc_block ?_
      | refine sc_ret ?_
      | refine sc_exit ?_
      | refine sc_skip ?_)
   | (refine gSQ ?_
      first
      | refine sq_seq ?_
      | refine sq_blk ?_
      | refine sq_seq_ret ?_
      | refine sq_blk_ret ?_
      | refine sq_loop_ret ?_
      | refine sq_seq_exit ?_
      | refine sq_blk_hit ?_
      | refine sq_blk_miss rfl ?_
      | refine sq_loop_exit ?_
      | refine sq_ende (.inl rfl) rfl rfl ⟨_, (RVs.cons (RV.tmp rfl) (RVs.cons (RV.tmp rfl) (RVs.nil))), ?_⟩
      | refine sq_ende (.inr rfl) rfl rfl ⟨_, (RVs.cons (RV.tmp rfl) (RVs.cons (RV.tmp rfl) (RVs.nil))), ?_⟩)
   | refine j_nil ?_
   )
  all_goals (intro w' hS; refine ⟨?_, hS.below⟩; simp only [pack])
abbrev sumS (first last : Nat) (s : Nat) (x : Nat × Nat) : Nat × Option Code := (s + (if first ≤ x.1 then x.2 else 0), if x.1 = last then some (.exit 0) else none)
theorem sum_runs (p n first last : Nat) (hl : last ≤ n) : ∀ d j, j + d = last → runsJ (sumS first last) (part p (10000 - p) n first j) ((chs p n).drop j) = (part p (10000 - p) n first (last + 1), some (.exit 0))
  | 0, j, h => by
    have : j = last := by omega
    subst this
    rw [chs_drop p n j hl]
    simp [runsJ, sumS, part]
  | d + 1, j, h => by
    rw [chs_drop p n j (by omega)]
    have := sum_runs p n first last hl d (j + 1) (by omega)
    rw [show part p (10000 - p) n first (j + 1) = (part p (10000 - p) n first j + if first ≤ j then bn p (10000 - p) n j else 0) from rfl] at this
    simp only [runsJ]
    rw [show sumS first last (part p (10000 - p) n first j) (j, bn p (10000 - p) n j) = ((part p (10000 - p) n first j + if first ≤ j then bn p (10000 - p) n j else 0), none) by simp only [sumS]; rw [if_neg (by omega : ¬ j = last)]]
    exact this
theorem chs_at {p n j : Nat} {x : Nat × Nat} (h : (chs p n)[j]? = some x) : j ≤ n ∧ x = (j, bn p (10000 - p) n j) := by
  have hj : j ≤ n := by
    have := (List.getElem?_eq_some_iff.1 h).1
    simp [chs] at this
    omega
  rw [chs_get p n j hj] at h
  injection h with h
  exact ⟨hj, h.symm⟩
theorem sum_fold (p n first last : Nat) : ∀ j, j ≤ n + 1 → ((chs p n).take j).foldl (fun s y => (sumS first last s y).1) 0 = part p (10000 - p) n first j
  | 0, _ => rfl
  | j + 1, h => by
    rw [List.take_add_one, chs_get p n j (by omega), List.foldl_append, sum_fold p n first last j (by omega)]
    rfl
theorem sep_foots {w0 w : World} {hot : Nat → Prop} {L L1 L' : List HA} {x : HA} {b : Nat} (hs : St w0 hot L w) (hr : Rem L x L') (hx : x.foot b) (hsub : LSub L1 L') : ¬ foots L1 b := by
  rintro ⟨y, hy, hyb⟩
  have h1 := (hs.perm hr.perm).sep
  rw [List.pairwise_cons] at h1
  obtain ⟨M, hM⟩ := hsub
  exact h1.1 y (hM.symm.mem_iff.1 (List.mem_append_left _ hy)) b hx hyb
theorem cap_sum {p n f k : Nat} (hp : p ≤ 10000) (hn : n ≤ 500) : part p (10000 - p) n f k ≤ 10000 ^ 500 := by
  refine Nat.le_trans (part_le _ _ _ _ _) ?_
  rw [show p + (10000 - p) = 10000 by omega]
  exact Nat.pow_le_pow_right (by omega) hn
set_option maxHeartbeats 4000000 in
theorem summed_c (n k p first last : Nat) (w : World) (hk : k ≤ n) (hn : n ≤ 500) (hp : p ≤ 10000) (hf : first ≤ n) (hl : last ≤ n) :
    Calls Try.prog 50 #[.int .i64 n, .int .i64 k, .int .i64 p, .int .i64 first, .int .i64 last] w fun e w' => ∃ v : Value, True ∧ e = .returned (.tuple #[v, .int .i64 0]) ∧ St w Cold [haN v (part p (10000 - p) n first (last + 1))] w' := by
  have hcc := fun w' => checked_c n k p 0 10000 w'
  have hr : checkF n k p 0 10000 = 0 := by unfold checkF; rw [if_neg (by omega), if_neg (by omega)]
  rw [hr] at hcc
  refine eng_start (n := 39) (args := [.int .i64 n, .int .i64 k, .int .i64 p, .int .i64 first, .int .i64 last]) tab tab_ok fns fns_ok [.tmp 10, .tmp 11] Try.func50 rfl rfl rfl rfl ?_
  repeat' (first
   | (refine gJ ?_
      first
      | refine jmv rfl rfl rfl rfl rfl ?_
      | (refine gload rfl rfl ?_
         refine j_qe rfl rfl rfl ?_
         first
         | refine ⟨_, q_load_own rfl rfl rfl rfl (by (repeat (first | exact InL.here | apply InL.there))) (by first | rfl | assumption), ?_⟩
         | refine ⟨_, q_loadA_own rfl rfl rfl rfl (by (repeat (first | exact InL.here | apply InL.there))) (by rfl), ?_⟩
         | refine ⟨_, q_loadA_ext rfl rfl rfl rfl ⟨by assumption, (by first | exact id | assumption)⟩ (by rfl), ?_⟩
         | refine ⟨_, q_load_ext rfl rfl rfl rfl ⟨by assumption, (by first | exact id | assumption)⟩ (by first | rfl | assumption), ?_⟩
         | refine ⟨_, q_load_extb rfl rfl rfl rfl ⟨by assumption, (by first | exact id | assumption)⟩ (by rfl), ?_⟩
         | refine ⟨_, q_loadA_extb rfl rfl rfl rfl ⟨by assumption, (by first | exact id | assumption)⟩ (by rfl), ?_⟩
         | refine ⟨_, q_load_ext0 rfl rfl rfl rfl ⟨by assumption, (by first | exact id | assumption)⟩ (by rfl), ?_⟩)
      | refine jcmp rfl rfl rfl rfl rfl rfl rfl ?_
      | (refine gcall rfl rfl ?_
         first
         | (refine j_qc (f := 51) rfl rfl rfl rfl rfl rfl rfl ?_; refine ⟨_, (fun w' _ => hcc w'), ?_⟩))
      | (refine gcall rfl rfl ?_; refine j_nat (f := 60) rfl rfl rfl rfl rfl rfl rfl (fun w' hs => number_c 0 w' (by omega)) ?_; intro A2 c2)
      | (refine gcall rfl rfl ?_; refine j_callN (f := 74) rfl rfl rfl rfl rfl rfl rfl (fun x : Nat × Nat => .func (.func 85) #[] #[.pointer (some ⟨x.1, 0, none⟩), .pointer (some ⟨x.2, 0, none⟩)]) (fun _ => True) (fun x => [.cells x.1 3 [.int .i64 p], .cells x.2 3 [.int .i64 n]]) (fun w' _ => chances_c n p w') (fun _ => trivial) ?_; rintro ⟨bP, bN⟩ _)
      | refine j_store rfl rfl rfl rfl rfl rfl rfl rfl (by (repeat (first | exact Upd.here | apply Upd.there))) (by rfl) ?_
      | (refine j_alloc rfl rfl rfl rfl rfl ?_; intro b)
      | (refine j_box rfl rfl rfl rfl rfl ?_; intro b))
   | (refine gSC ?_
      first
      | refine sc_seq ?_
      | refine sc_region ?_
      | (refine sc_cond rfl ?_ ?_ <;> intro hc <;> (first | (exact absurd hc (by decide)) | ((try simp only [decide_eq_true_eq, decide_eq_false_iff_not, Bool.not_eq_true', Bool.not_eq_false', Bool.not_true, Bool.not_false, ne_eq, Decidable.not_not] at hc) <;> first | (exfalso; omega) | (exact absurd trivial hc) | skip)))
      | refine sc_block ?_
      | refine sc_ret ?_
      | refine sc_exit ?_
      | refine sc_skip ?_)
   | (refine gSQ ?_
      first
      | refine sq_seq ?_
      | refine sq_blk ?_
      | refine sq_seq_ret ?_
      | refine sq_blk_ret ?_
      | refine sq_loop_ret ?_
      | refine sq_seq_exit ?_
      | refine sq_blk_hit ?_
      | refine sq_blk_miss rfl ?_
      | refine sq_loop_exit ?_
      | refine sq_ende (.inl rfl) rfl rfl ⟨_, (RVs.cons (RV.tmp rfl) (RVs.cons (RV.tmp rfl) (RVs.nil))), ?_⟩
      | refine sq_ende (.inr rfl) rfl rfl ⟨_, (RVs.cons (RV.tmp rfl) (RVs.cons (RV.tmp rfl) (RVs.nil))), ?_⟩)
   | refine j_nil ?_
   )
  rename_i bF bL _
  refine sc_nowk [.cells b 29 [.slice A2 (limbs 0).length c2], haN (.slice A2 (limbs 0).length c2) 0, .cells bL 3 [.int .i64 last], .cells bF 3 [.int .i64 first]] (by repeat (first | exact LSub.nil | refine LSub.cons (by repeat (first | exact Rem.here | apply Rem.there)) ?_)) ?_
  intro w1 hw1
  have hw2 : St w Cold _ w1 := hw1
  clear hw1
  have hP := hw2.ext (b := bP) (cs := [.int .i64 p]) (u := 3) (by (repeat (first | exact InL.here | apply InL.there)))
  have hN := hw2.ext (b := bN) (cs := [.int .i64 n]) (u := 3) (by (repeat (first | exact InL.here | apply InL.there)))
  have nP : ¬ foots [.cells b 29 [.slice A2 (limbs 0).length c2], haN (.slice A2 (limbs 0).length c2) 0, .cells bL 3 [.int .i64 last], .cells bF 3 [.int .i64 first]] bP := sep_foots (x := .cells bP 3 [.int .i64 p]) hw2 (by repeat (first | exact Rem.here | apply Rem.there)) rfl (by repeat (first | exact LSub.nil | refine LSub.cons (by repeat (first | exact Rem.here | apply Rem.there)) ?_))
  have nN : ¬ foots [.cells b 29 [.slice A2 (limbs 0).length c2], haN (.slice A2 (limbs 0).length c2) 0, .cells bL 3 [.int .i64 last], .cells bF 3 [.int .i64 first]] bN := sep_foots (x := .cells bN 3 [.int .i64 n]) hw2 (by repeat (first | exact Rem.here | apply Rem.there)) rfl (by repeat (first | exact LSub.nil | refine LSub.cons (by repeat (first | exact Rem.here | apply Rem.there)) ?_))
  have hback := hw2.sub (L' := [.cells b 29 [.slice A2 (limbs 0).length c2], haN (.slice A2 (limbs 0).length c2) 0, .cells bL 3 [.int .i64 last], .cells bF 3 [.int .i64 first]]) (by repeat (first | exact LSub.nil | refine LSub.cons (by repeat (first | exact Rem.here | apply Rem.there)) ?_))
  clear hw2
  refine sc_rangeW (σ := Nat) (ξ := Option Addr × Nat) encC (chs p n) (sumS first last) (fun s i => [.cells b 29 [.slice i.1 (limbs s).length i.2], haN (.slice i.1 (limbs s).length i.2) s, .cells bL 3 [.int .i64 last], .cells bF 3 [.int .i64 first]]) 0 (A2, c2) rfl rfl rfl (fun x S vs w' h => by obtain ⟨_, A, c, e, _⟩ := h; rw [e]; rfl) (parsLt rfl) (by repeat (first | exact LSub.nil | refine LSub.cons (by repeat (first | exact Rem.here | apply Rem.there)) ?_)) ?_ ?_ ?_ ?_ ?_
  · intro s i S p hm; simp at hm
  · intro w' l D r hS
    have hnear : Near w1.heap.size (foots [.cells b 29 [.slice A2 (limbs 0).length c2], haN (.slice A2 (limbs 0).length c2) 0, .cells bL 3 [.int .i64 last], .cells bF 3 [.int .i64 first]]) w1 w' := hS.near
    refine chances1_it ⟨bP, 0, none⟩ ⟨bN, 0, none⟩ n p w' _ hn hp (Ext.near hP hnear nP) (Ext.near hN hnear nN) (fun h => ?_) (fun h => ?_)
    · rcases (foots_old (B := 0) hS h).1 with h3 | h3
      · exact absurd hP.lt (Nat.not_lt.2 h3)
      · exact nP h3
    · rcases (foots_old (B := 0) hS h).1 with h3 | h3
      · exact absurd hN.lt (Nat.not_lt.2 h3)
      · exact nN h3
  · intro l D r W1 s i x vs Q henc hat hready hS1 hend
    clear hS1
    obtain ⟨⟨hx1, hx2⟩, A3, c3, rfl, hSL, hnot⟩ := henc
    obtain ⟨j, hj, hsj⟩ := hat
    obtain ⟨hjn, rfl⟩ := chs_at hj
    rw [sum_fold _ _ _ _ _ (by omega)] at hsj
    have hs1 : s ≤ 10000 ^ 500 := by rw [hsj]; exact cap_sum hp hn
    have h500 := cap_500
    obtain ⟨A1, c1⟩ := i
    dsimp only at hnot hSL hx1 hx2 hend ⊢
    clear hsj hj
    generalize bn p (10000 - p) n j = v at *
    by_cases h1 : first ≤ j
    · by_cases h2 : j = last
      · repeat' (first
         | (refine gJ ?_
            first
            | refine jmv rfl rfl rfl rfl rfl ?_
            | (refine gload rfl rfl ?_
               refine j_qe rfl rfl rfl ?_
               first
               | refine ⟨_, q_load_own rfl rfl rfl rfl (by (repeat (first | exact InL.here | apply InL.there))) (by first | rfl | assumption), ?_⟩
               | refine ⟨_, q_loadA_own rfl rfl rfl rfl (by (repeat (first | exact InL.here | apply InL.there))) (by rfl), ?_⟩
               | refine ⟨_, q_loadA_ext rfl rfl rfl rfl ⟨by assumption, (by first | exact id | assumption)⟩ (by rfl), ?_⟩
               | refine ⟨_, q_load_ext rfl rfl rfl rfl ⟨by assumption, (by first | exact id | assumption)⟩ (by first | rfl | assumption), ?_⟩
               | refine ⟨_, q_load_extb rfl rfl rfl rfl ⟨by assumption, (by first | exact id | assumption)⟩ (by rfl), ?_⟩
               | refine ⟨_, q_loadA_extb rfl rfl rfl rfl ⟨by assumption, (by first | exact id | assumption)⟩ (by rfl), ?_⟩
               | refine ⟨_, q_load_ext0 rfl rfl rfl rfl ⟨by assumption, (by first | exact id | assumption)⟩ (by rfl), ?_⟩)
            | refine jcmp rfl rfl rfl rfl rfl rfl rfl ?_
            | refine j_store rfl rfl rfl rfl rfl rfl rfl rfl (by (repeat (first | exact Upd.here | apply Upd.there))) (by rfl) ?_
            | (refine j_alloc rfl rfl rfl rfl rfl ?_; intro b)
            | (refine j_box rfl rfl rfl rfl rfl ?_; intro b))
         | (refine gSC ?_
            first
            | refine sc_seq ?_
            | refine sc_region ?_
            | (refine sc_cond rfl ?_ ?_ <;> intro hc <;> (first | (exact absurd hc (by decide)) | ((try simp only [decide_eq_true_eq, decide_eq_false_iff_not, Bool.not_eq_true', Bool.not_eq_false', Bool.not_true, Bool.not_false, ne_eq, Decidable.not_not] at hc) <;> first | (exfalso; omega) | (exact absurd trivial hc) | skip)))
            | refine sc_block ?_
            | refine sc_ret ?_
            | refine sc_exit ?_
            | refine sc_skip ?_)
         | (refine gSQ ?_
            first
            | refine sq_seq ?_
            | refine sq_blk ?_
            | refine sq_seq_ret ?_
            | refine sq_blk_ret ?_
            | refine sq_loop_ret ?_
            | refine sq_seq_exit ?_
            | refine sq_blk_hit ?_
            | refine sq_blk_miss rfl ?_
            | refine sq_loop_exit ?_
            | refine sq_ende (.inl rfl) rfl rfl ⟨_, (RVs.cons (RV.tmp rfl) (RVs.cons (RV.tmp rfl) (RVs.nil))), ?_⟩
            | refine sq_ende (.inr rfl) rfl rfl ⟨_, (RVs.cons (RV.tmp rfl) (RVs.cons (RV.tmp rfl) (RVs.nil))), ?_⟩)
         | refine j_nil ?_
         )
        refine sq_begin rfl hready (by (repeat (first | exact Upd.here | apply Upd.there))) ?_
        repeat' (first
         | (refine gJ ?_
            first
            | refine jmv rfl rfl rfl rfl rfl ?_
            | (refine gload rfl rfl ?_
               refine j_qe rfl rfl rfl ?_
               first
               | refine ⟨_, q_load_own rfl rfl rfl rfl (by (repeat (first | exact InL.here | apply InL.there))) (by first | rfl | assumption), ?_⟩
               | refine ⟨_, q_loadA_own rfl rfl rfl rfl (by (repeat (first | exact InL.here | apply InL.there))) (by rfl), ?_⟩
               | refine ⟨_, q_loadA_ext rfl rfl rfl rfl ⟨by assumption, (by first | exact id | assumption)⟩ (by rfl), ?_⟩
               | refine ⟨_, q_load_ext rfl rfl rfl rfl ⟨by assumption, (by first | exact id | assumption)⟩ (by first | rfl | assumption), ?_⟩
               | refine ⟨_, q_load_extb rfl rfl rfl rfl ⟨by assumption, (by first | exact id | assumption)⟩ (by rfl), ?_⟩
               | refine ⟨_, q_loadA_extb rfl rfl rfl rfl ⟨by assumption, (by first | exact id | assumption)⟩ (by rfl), ?_⟩
               | refine ⟨_, q_load_ext0 rfl rfl rfl rfl ⟨by assumption, (by first | exact id | assumption)⟩ (by rfl), ?_⟩)
            | refine jcmp rfl rfl rfl rfl rfl rfl rfl ?_
            | (refine gcall rfl rfl ?_; refine j_nat (f := 75) rfl rfl rfl rfl rfl rfl rfl (fun w' hs => plus_c A1 c1 s A3 c3 v w' (by omega) (by omega) (sl_of_own hs (by (repeat (first | exact InL.here | apply InL.there))) rfl rfl) (hSL.near hs.near hnot)) ?_; intro A4 c4)
            | refine j_store rfl rfl rfl rfl rfl rfl rfl rfl (by (repeat (first | exact Upd.here | apply Upd.there))) (by rfl) ?_
            | (refine j_alloc rfl rfl rfl rfl rfl ?_; intro b)
            | (refine j_box rfl rfl rfl rfl rfl ?_; intro b))
         | (refine gSC ?_
            first
            | refine sc_seq ?_
            | refine sc_region ?_
            | (refine sc_cond rfl ?_ ?_ <;> intro hc <;> (first | (exact absurd hc (by decide)) | ((try simp only [decide_eq_true_eq, decide_eq_false_iff_not, Bool.not_eq_true', Bool.not_eq_false', Bool.not_true, Bool.not_false, ne_eq, Decidable.not_not] at hc) <;> first | (exfalso; omega) | (exact absurd trivial hc) | skip)))
            | refine sc_block ?_
            | refine sc_ret ?_
            | refine sc_exit ?_
            | refine sc_skip ?_)
         | (refine gSQ ?_
            first
            | refine sq_seq ?_
            | refine sq_blk ?_
            | refine sq_seq_ret ?_
            | refine sq_blk_ret ?_
            | refine sq_loop_ret ?_
            | refine sq_seq_exit ?_
            | refine sq_blk_hit ?_
            | refine sq_blk_miss rfl ?_
            | refine sq_loop_exit ?_
            | refine sq_ende (.inl rfl) rfl rfl ⟨_, (RVs.cons (RV.tmp rfl) (RVs.cons (RV.tmp rfl) (RVs.nil))), ?_⟩
            | refine sq_ende (.inr rfl) rfl rfl ⟨_, (RVs.cons (RV.tmp rfl) (RVs.cons (RV.tmp rfl) (RVs.nil))), ?_⟩)
         | refine j_nil ?_
         )
        refine hend (.exit 0) (some (.exit 0)) (A4, c4) _ _ _ rfl (if_pos h2) (by repeat (first | exact Rem.here | apply Rem.there)) ?_
        simp only [sumS]
        rw [if_pos h1]
        exact (by repeat (first | exact LSub.nil | refine LSub.cons (by repeat (first | exact Rem.here | apply Rem.there)) ?_))
      · repeat' (first
         | (refine gJ ?_
            first
            | refine jmv rfl rfl rfl rfl rfl ?_
            | (refine gload rfl rfl ?_
               refine j_qe rfl rfl rfl ?_
               first
               | refine ⟨_, q_load_own rfl rfl rfl rfl (by (repeat (first | exact InL.here | apply InL.there))) (by first | rfl | assumption), ?_⟩
               | refine ⟨_, q_loadA_own rfl rfl rfl rfl (by (repeat (first | exact InL.here | apply InL.there))) (by rfl), ?_⟩
               | refine ⟨_, q_loadA_ext rfl rfl rfl rfl ⟨by assumption, (by first | exact id | assumption)⟩ (by rfl), ?_⟩
               | refine ⟨_, q_load_ext rfl rfl rfl rfl ⟨by assumption, (by first | exact id | assumption)⟩ (by first | rfl | assumption), ?_⟩
               | refine ⟨_, q_load_extb rfl rfl rfl rfl ⟨by assumption, (by first | exact id | assumption)⟩ (by rfl), ?_⟩
               | refine ⟨_, q_loadA_extb rfl rfl rfl rfl ⟨by assumption, (by first | exact id | assumption)⟩ (by rfl), ?_⟩
               | refine ⟨_, q_load_ext0 rfl rfl rfl rfl ⟨by assumption, (by first | exact id | assumption)⟩ (by rfl), ?_⟩)
            | refine jcmp rfl rfl rfl rfl rfl rfl rfl ?_
            | refine j_store rfl rfl rfl rfl rfl rfl rfl rfl (by (repeat (first | exact Upd.here | apply Upd.there))) (by rfl) ?_
            | (refine j_alloc rfl rfl rfl rfl rfl ?_; intro b)
            | (refine j_box rfl rfl rfl rfl rfl ?_; intro b))
         | (refine gSC ?_
            first
            | refine sc_seq ?_
            | refine sc_region ?_
            | (refine sc_cond rfl ?_ ?_ <;> intro hc <;> (first | (exact absurd hc (by decide)) | ((try simp only [decide_eq_true_eq, decide_eq_false_iff_not, Bool.not_eq_true', Bool.not_eq_false', Bool.not_true, Bool.not_false, ne_eq, Decidable.not_not] at hc) <;> first | (exfalso; omega) | (exact absurd trivial hc) | skip)))
            | refine sc_block ?_
            | refine sc_ret ?_
            | refine sc_exit ?_
            | refine sc_skip ?_)
         | (refine gSQ ?_
            first
            | refine sq_seq ?_
            | refine sq_blk ?_
            | refine sq_seq_ret ?_
            | refine sq_blk_ret ?_
            | refine sq_loop_ret ?_
            | refine sq_seq_exit ?_
            | refine sq_blk_hit ?_
            | refine sq_blk_miss rfl ?_
            | refine sq_loop_exit ?_
            | refine sq_ende (.inl rfl) rfl rfl ⟨_, (RVs.cons (RV.tmp rfl) (RVs.cons (RV.tmp rfl) (RVs.nil))), ?_⟩
            | refine sq_ende (.inr rfl) rfl rfl ⟨_, (RVs.cons (RV.tmp rfl) (RVs.cons (RV.tmp rfl) (RVs.nil))), ?_⟩)
         | refine j_nil ?_
         )
        refine sq_begin rfl hready (by (repeat (first | exact Upd.here | apply Upd.there))) ?_
        repeat' (first
         | (refine gJ ?_
            first
            | refine jmv rfl rfl rfl rfl rfl ?_
            | (refine gload rfl rfl ?_
               refine j_qe rfl rfl rfl ?_
               first
               | refine ⟨_, q_load_own rfl rfl rfl rfl (by (repeat (first | exact InL.here | apply InL.there))) (by first | rfl | assumption), ?_⟩
               | refine ⟨_, q_loadA_own rfl rfl rfl rfl (by (repeat (first | exact InL.here | apply InL.there))) (by rfl), ?_⟩
               | refine ⟨_, q_loadA_ext rfl rfl rfl rfl ⟨by assumption, (by first | exact id | assumption)⟩ (by rfl), ?_⟩
               | refine ⟨_, q_load_ext rfl rfl rfl rfl ⟨by assumption, (by first | exact id | assumption)⟩ (by first | rfl | assumption), ?_⟩
               | refine ⟨_, q_load_extb rfl rfl rfl rfl ⟨by assumption, (by first | exact id | assumption)⟩ (by rfl), ?_⟩
               | refine ⟨_, q_loadA_extb rfl rfl rfl rfl ⟨by assumption, (by first | exact id | assumption)⟩ (by rfl), ?_⟩
               | refine ⟨_, q_load_ext0 rfl rfl rfl rfl ⟨by assumption, (by first | exact id | assumption)⟩ (by rfl), ?_⟩)
            | refine jcmp rfl rfl rfl rfl rfl rfl rfl ?_
            | (refine gcall rfl rfl ?_; refine j_nat (f := 75) rfl rfl rfl rfl rfl rfl rfl (fun w' hs => plus_c A1 c1 s A3 c3 v w' (by omega) (by omega) (sl_of_own hs (by (repeat (first | exact InL.here | apply InL.there))) rfl rfl) (hSL.near hs.near hnot)) ?_; intro A4 c4)
            | refine j_store rfl rfl rfl rfl rfl rfl rfl rfl (by (repeat (first | exact Upd.here | apply Upd.there))) (by rfl) ?_
            | (refine j_alloc rfl rfl rfl rfl rfl ?_; intro b)
            | (refine j_box rfl rfl rfl rfl rfl ?_; intro b))
         | (refine gSC ?_
            first
            | refine sc_seq ?_
            | refine sc_region ?_
            | (refine sc_cond rfl ?_ ?_ <;> intro hc <;> (first | (exact absurd hc (by decide)) | ((try simp only [decide_eq_true_eq, decide_eq_false_iff_not, Bool.not_eq_true', Bool.not_eq_false', Bool.not_true, Bool.not_false, ne_eq, Decidable.not_not] at hc) <;> first | (exfalso; omega) | (exact absurd trivial hc) | skip)))
            | refine sc_block ?_
            | refine sc_ret ?_
            | refine sc_exit ?_
            | refine sc_skip ?_)
         | (refine gSQ ?_
            first
            | refine sq_seq ?_
            | refine sq_blk ?_
            | refine sq_seq_ret ?_
            | refine sq_blk_ret ?_
            | refine sq_loop_ret ?_
            | refine sq_seq_exit ?_
            | refine sq_blk_hit ?_
            | refine sq_blk_miss rfl ?_
            | refine sq_loop_exit ?_
            | refine sq_ende (.inl rfl) rfl rfl ⟨_, (RVs.cons (RV.tmp rfl) (RVs.cons (RV.tmp rfl) (RVs.nil))), ?_⟩
            | refine sq_ende (.inr rfl) rfl rfl ⟨_, (RVs.cons (RV.tmp rfl) (RVs.cons (RV.tmp rfl) (RVs.nil))), ?_⟩)
         | refine j_nil ?_
         )
        refine hend .normal none (A4, c4) _ _ _ rfl (if_neg h2) (by repeat (first | exact Rem.here | apply Rem.there)) ?_
        simp only [sumS]
        rw [if_pos h1]
        exact (by repeat (first | exact LSub.nil | refine LSub.cons (by repeat (first | exact Rem.here | apply Rem.there)) ?_))
    · by_cases h2 : j = last
      · repeat' (first
         | (refine gJ ?_
            first
            | refine jmv rfl rfl rfl rfl rfl ?_
            | (refine gload rfl rfl ?_
               refine j_qe rfl rfl rfl ?_
               first
               | refine ⟨_, q_load_own rfl rfl rfl rfl (by (repeat (first | exact InL.here | apply InL.there))) (by first | rfl | assumption), ?_⟩
               | refine ⟨_, q_loadA_own rfl rfl rfl rfl (by (repeat (first | exact InL.here | apply InL.there))) (by rfl), ?_⟩
               | refine ⟨_, q_loadA_ext rfl rfl rfl rfl ⟨by assumption, (by first | exact id | assumption)⟩ (by rfl), ?_⟩
               | refine ⟨_, q_load_ext rfl rfl rfl rfl ⟨by assumption, (by first | exact id | assumption)⟩ (by first | rfl | assumption), ?_⟩
               | refine ⟨_, q_load_extb rfl rfl rfl rfl ⟨by assumption, (by first | exact id | assumption)⟩ (by rfl), ?_⟩
               | refine ⟨_, q_loadA_extb rfl rfl rfl rfl ⟨by assumption, (by first | exact id | assumption)⟩ (by rfl), ?_⟩
               | refine ⟨_, q_load_ext0 rfl rfl rfl rfl ⟨by assumption, (by first | exact id | assumption)⟩ (by rfl), ?_⟩)
            | refine jcmp rfl rfl rfl rfl rfl rfl rfl ?_
            | refine j_store rfl rfl rfl rfl rfl rfl rfl rfl (by (repeat (first | exact Upd.here | apply Upd.there))) (by rfl) ?_
            | (refine j_alloc rfl rfl rfl rfl rfl ?_; intro b)
            | (refine j_box rfl rfl rfl rfl rfl ?_; intro b))
         | (refine gSC ?_
            first
            | refine sc_seq ?_
            | refine sc_region ?_
            | (refine sc_cond rfl ?_ ?_ <;> intro hc <;> (first | (exact absurd hc (by decide)) | ((try simp only [decide_eq_true_eq, decide_eq_false_iff_not, Bool.not_eq_true', Bool.not_eq_false', Bool.not_true, Bool.not_false, ne_eq, Decidable.not_not] at hc) <;> first | (exfalso; omega) | (exact absurd trivial hc) | skip)))
            | refine sc_block ?_
            | refine sc_ret ?_
            | refine sc_exit ?_
            | refine sc_skip ?_)
         | (refine gSQ ?_
            first
            | refine sq_seq ?_
            | refine sq_blk ?_
            | refine sq_seq_ret ?_
            | refine sq_blk_ret ?_
            | refine sq_loop_ret ?_
            | refine sq_seq_exit ?_
            | refine sq_blk_hit ?_
            | refine sq_blk_miss rfl ?_
            | refine sq_loop_exit ?_
            | refine sq_ende (.inl rfl) rfl rfl ⟨_, (RVs.cons (RV.tmp rfl) (RVs.cons (RV.tmp rfl) (RVs.nil))), ?_⟩
            | refine sq_ende (.inr rfl) rfl rfl ⟨_, (RVs.cons (RV.tmp rfl) (RVs.cons (RV.tmp rfl) (RVs.nil))), ?_⟩)
         | refine j_nil ?_
         )
        refine sq_begin rfl hready (by (repeat (first | exact Upd.here | apply Upd.there))) ?_
        repeat' (first
         | (refine gJ ?_
            first
            | refine jmv rfl rfl rfl rfl rfl ?_
            | (refine gload rfl rfl ?_
               refine j_qe rfl rfl rfl ?_
               first
               | refine ⟨_, q_load_own rfl rfl rfl rfl (by (repeat (first | exact InL.here | apply InL.there))) (by first | rfl | assumption), ?_⟩
               | refine ⟨_, q_loadA_own rfl rfl rfl rfl (by (repeat (first | exact InL.here | apply InL.there))) (by rfl), ?_⟩
               | refine ⟨_, q_loadA_ext rfl rfl rfl rfl ⟨by assumption, (by first | exact id | assumption)⟩ (by rfl), ?_⟩
               | refine ⟨_, q_load_ext rfl rfl rfl rfl ⟨by assumption, (by first | exact id | assumption)⟩ (by first | rfl | assumption), ?_⟩
               | refine ⟨_, q_load_extb rfl rfl rfl rfl ⟨by assumption, (by first | exact id | assumption)⟩ (by rfl), ?_⟩
               | refine ⟨_, q_loadA_extb rfl rfl rfl rfl ⟨by assumption, (by first | exact id | assumption)⟩ (by rfl), ?_⟩
               | refine ⟨_, q_load_ext0 rfl rfl rfl rfl ⟨by assumption, (by first | exact id | assumption)⟩ (by rfl), ?_⟩)
            | refine jcmp rfl rfl rfl rfl rfl rfl rfl ?_
            | (refine gcall rfl rfl ?_; refine j_nat (f := 75) rfl rfl rfl rfl rfl rfl rfl (fun w' hs => plus_c A1 c1 s A3 c3 v w' (by omega) (by omega) (sl_of_own hs (by (repeat (first | exact InL.here | apply InL.there))) rfl rfl) (hSL.near hs.near hnot)) ?_; intro A4 c4)
            | refine j_store rfl rfl rfl rfl rfl rfl rfl rfl (by (repeat (first | exact Upd.here | apply Upd.there))) (by rfl) ?_
            | (refine j_alloc rfl rfl rfl rfl rfl ?_; intro b)
            | (refine j_box rfl rfl rfl rfl rfl ?_; intro b))
         | (refine gSC ?_
            first
            | refine sc_seq ?_
            | refine sc_region ?_
            | (refine sc_cond rfl ?_ ?_ <;> intro hc <;> (first | (exact absurd hc (by decide)) | ((try simp only [decide_eq_true_eq, decide_eq_false_iff_not, Bool.not_eq_true', Bool.not_eq_false', Bool.not_true, Bool.not_false, ne_eq, Decidable.not_not] at hc) <;> first | (exfalso; omega) | (exact absurd trivial hc) | skip)))
            | refine sc_block ?_
            | refine sc_ret ?_
            | refine sc_exit ?_
            | refine sc_skip ?_)
         | (refine gSQ ?_
            first
            | refine sq_seq ?_
            | refine sq_blk ?_
            | refine sq_seq_ret ?_
            | refine sq_blk_ret ?_
            | refine sq_loop_ret ?_
            | refine sq_seq_exit ?_
            | refine sq_blk_hit ?_
            | refine sq_blk_miss rfl ?_
            | refine sq_loop_exit ?_
            | refine sq_ende (.inl rfl) rfl rfl ⟨_, (RVs.cons (RV.tmp rfl) (RVs.cons (RV.tmp rfl) (RVs.nil))), ?_⟩
            | refine sq_ende (.inr rfl) rfl rfl ⟨_, (RVs.cons (RV.tmp rfl) (RVs.cons (RV.tmp rfl) (RVs.nil))), ?_⟩)
         | refine j_nil ?_
         )
        refine hend (.exit 0) (some (.exit 0)) (A1, c1) _ _ _ rfl (if_pos h2) (by repeat (first | exact Rem.here | apply Rem.there)) ?_
        simp only [sumS]
        rw [if_neg h1]
        exact (by repeat (first | exact LSub.nil | refine LSub.cons (by repeat (first | exact Rem.here | apply Rem.there)) ?_))
      · repeat' (first
         | (refine gJ ?_
            first
            | refine jmv rfl rfl rfl rfl rfl ?_
            | (refine gload rfl rfl ?_
               refine j_qe rfl rfl rfl ?_
               first
               | refine ⟨_, q_load_own rfl rfl rfl rfl (by (repeat (first | exact InL.here | apply InL.there))) (by first | rfl | assumption), ?_⟩
               | refine ⟨_, q_loadA_own rfl rfl rfl rfl (by (repeat (first | exact InL.here | apply InL.there))) (by rfl), ?_⟩
               | refine ⟨_, q_loadA_ext rfl rfl rfl rfl ⟨by assumption, (by first | exact id | assumption)⟩ (by rfl), ?_⟩
               | refine ⟨_, q_load_ext rfl rfl rfl rfl ⟨by assumption, (by first | exact id | assumption)⟩ (by first | rfl | assumption), ?_⟩
               | refine ⟨_, q_load_extb rfl rfl rfl rfl ⟨by assumption, (by first | exact id | assumption)⟩ (by rfl), ?_⟩
               | refine ⟨_, q_loadA_extb rfl rfl rfl rfl ⟨by assumption, (by first | exact id | assumption)⟩ (by rfl), ?_⟩
               | refine ⟨_, q_load_ext0 rfl rfl rfl rfl ⟨by assumption, (by first | exact id | assumption)⟩ (by rfl), ?_⟩)
            | refine jcmp rfl rfl rfl rfl rfl rfl rfl ?_
            | refine j_store rfl rfl rfl rfl rfl rfl rfl rfl (by (repeat (first | exact Upd.here | apply Upd.there))) (by rfl) ?_
            | (refine j_alloc rfl rfl rfl rfl rfl ?_; intro b)
            | (refine j_box rfl rfl rfl rfl rfl ?_; intro b))
         | (refine gSC ?_
            first
            | refine sc_seq ?_
            | refine sc_region ?_
            | (refine sc_cond rfl ?_ ?_ <;> intro hc <;> (first | (exact absurd hc (by decide)) | ((try simp only [decide_eq_true_eq, decide_eq_false_iff_not, Bool.not_eq_true', Bool.not_eq_false', Bool.not_true, Bool.not_false, ne_eq, Decidable.not_not] at hc) <;> first | (exfalso; omega) | (exact absurd trivial hc) | skip)))
            | refine sc_block ?_
            | refine sc_ret ?_
            | refine sc_exit ?_
            | refine sc_skip ?_)
         | (refine gSQ ?_
            first
            | refine sq_seq ?_
            | refine sq_blk ?_
            | refine sq_seq_ret ?_
            | refine sq_blk_ret ?_
            | refine sq_loop_ret ?_
            | refine sq_seq_exit ?_
            | refine sq_blk_hit ?_
            | refine sq_blk_miss rfl ?_
            | refine sq_loop_exit ?_
            | refine sq_ende (.inl rfl) rfl rfl ⟨_, (RVs.cons (RV.tmp rfl) (RVs.cons (RV.tmp rfl) (RVs.nil))), ?_⟩
            | refine sq_ende (.inr rfl) rfl rfl ⟨_, (RVs.cons (RV.tmp rfl) (RVs.cons (RV.tmp rfl) (RVs.nil))), ?_⟩)
         | refine j_nil ?_
         )
        refine sq_begin rfl hready (by (repeat (first | exact Upd.here | apply Upd.there))) ?_
        repeat' (first
         | (refine gJ ?_
            first
            | refine jmv rfl rfl rfl rfl rfl ?_
            | (refine gload rfl rfl ?_
               refine j_qe rfl rfl rfl ?_
               first
               | refine ⟨_, q_load_own rfl rfl rfl rfl (by (repeat (first | exact InL.here | apply InL.there))) (by first | rfl | assumption), ?_⟩
               | refine ⟨_, q_loadA_own rfl rfl rfl rfl (by (repeat (first | exact InL.here | apply InL.there))) (by rfl), ?_⟩
               | refine ⟨_, q_loadA_ext rfl rfl rfl rfl ⟨by assumption, (by first | exact id | assumption)⟩ (by rfl), ?_⟩
               | refine ⟨_, q_load_ext rfl rfl rfl rfl ⟨by assumption, (by first | exact id | assumption)⟩ (by first | rfl | assumption), ?_⟩
               | refine ⟨_, q_load_extb rfl rfl rfl rfl ⟨by assumption, (by first | exact id | assumption)⟩ (by rfl), ?_⟩
               | refine ⟨_, q_loadA_extb rfl rfl rfl rfl ⟨by assumption, (by first | exact id | assumption)⟩ (by rfl), ?_⟩
               | refine ⟨_, q_load_ext0 rfl rfl rfl rfl ⟨by assumption, (by first | exact id | assumption)⟩ (by rfl), ?_⟩)
            | refine jcmp rfl rfl rfl rfl rfl rfl rfl ?_
            | (refine gcall rfl rfl ?_; refine j_nat (f := 75) rfl rfl rfl rfl rfl rfl rfl (fun w' hs => plus_c A1 c1 s A3 c3 v w' (by omega) (by omega) (sl_of_own hs (by (repeat (first | exact InL.here | apply InL.there))) rfl rfl) (hSL.near hs.near hnot)) ?_; intro A4 c4)
            | refine j_store rfl rfl rfl rfl rfl rfl rfl rfl (by (repeat (first | exact Upd.here | apply Upd.there))) (by rfl) ?_
            | (refine j_alloc rfl rfl rfl rfl rfl ?_; intro b)
            | (refine j_box rfl rfl rfl rfl rfl ?_; intro b))
         | (refine gSC ?_
            first
            | refine sc_seq ?_
            | refine sc_region ?_
            | (refine sc_cond rfl ?_ ?_ <;> intro hc <;> (first | (exact absurd hc (by decide)) | ((try simp only [decide_eq_true_eq, decide_eq_false_iff_not, Bool.not_eq_true', Bool.not_eq_false', Bool.not_true, Bool.not_false, ne_eq, Decidable.not_not] at hc) <;> first | (exfalso; omega) | (exact absurd trivial hc) | skip)))
            | refine sc_block ?_
            | refine sc_ret ?_
            | refine sc_exit ?_
            | refine sc_skip ?_)
         | (refine gSQ ?_
            first
            | refine sq_seq ?_
            | refine sq_blk ?_
            | refine sq_seq_ret ?_
            | refine sq_blk_ret ?_
            | refine sq_loop_ret ?_
            | refine sq_seq_exit ?_
            | refine sq_blk_hit ?_
            | refine sq_blk_miss rfl ?_
            | refine sq_loop_exit ?_
            | refine sq_ende (.inl rfl) rfl rfl ⟨_, (RVs.cons (RV.tmp rfl) (RVs.cons (RV.tmp rfl) (RVs.nil))), ?_⟩
            | refine sq_ende (.inr rfl) rfl rfl ⟨_, (RVs.cons (RV.tmp rfl) (RVs.cons (RV.tmp rfl) (RVs.nil))), ?_⟩)
         | refine j_nil ?_
         )
        refine hend .normal none (A1, c1) _ _ _ rfl (if_neg h2) (by repeat (first | exact Rem.here | apply Rem.there)) ?_
        simp only [sumS]
        rw [if_neg h1]
        exact (by repeat (first | exact LSub.nil | refine LSub.cons (by repeat (first | exact Rem.here | apply Rem.there)) ?_))
  · intro D i hj
    have hrun := sum_runs p n first last hl last 0 (by omega)
    rw [show part p (10000 - p) n first 0 = 0 from rfl, List.drop_zero] at hrun
    rw [hrun] at hj
    cases hj
  · rintro D ⟨A9, c9⟩ c hj
    have hrun := sum_runs p n first last hl last 0 (by omega)
    rw [show part p (10000 - p) n first 0 = 0 from rfl, List.drop_zero] at hrun
    rw [hrun] at hj ⊢
    injection hj with hj
    subst hj
    repeat' (first
     | (refine gJ ?_
        first
        | refine jmv rfl rfl rfl rfl rfl ?_
        | (refine gload rfl rfl ?_
           refine j_qe rfl rfl rfl ?_
           first
           | refine ⟨_, q_load_own rfl rfl rfl rfl (by (repeat (first | exact InL.here | apply InL.there))) (by first | rfl | assumption), ?_⟩
           | refine ⟨_, q_loadA_own rfl rfl rfl rfl (by (repeat (first | exact InL.here | apply InL.there))) (by rfl), ?_⟩
           | refine ⟨_, q_loadA_ext rfl rfl rfl rfl ⟨by assumption, (by first | exact id | assumption)⟩ (by rfl), ?_⟩
           | refine ⟨_, q_load_ext rfl rfl rfl rfl ⟨by assumption, (by first | exact id | assumption)⟩ (by first | rfl | assumption), ?_⟩
           | refine ⟨_, q_load_extb rfl rfl rfl rfl ⟨by assumption, (by first | exact id | assumption)⟩ (by rfl), ?_⟩
           | refine ⟨_, q_loadA_extb rfl rfl rfl rfl ⟨by assumption, (by first | exact id | assumption)⟩ (by rfl), ?_⟩
           | refine ⟨_, q_load_ext0 rfl rfl rfl rfl ⟨by assumption, (by first | exact id | assumption)⟩ (by rfl), ?_⟩)
        | refine jcmp rfl rfl rfl rfl rfl rfl rfl ?_
        | refine j_store rfl rfl rfl rfl rfl rfl rfl rfl (by (repeat (first | exact Upd.here | apply Upd.there))) (by rfl) ?_
        | (refine j_alloc rfl rfl rfl rfl rfl ?_; intro b)
        | (refine j_box rfl rfl rfl rfl rfl ?_; intro b))
     | (refine gSC ?_
        first
        | refine sc_seq ?_
        | refine sc_region ?_
        | (refine sc_cond rfl ?_ ?_ <;> intro hc <;> (first | (exact absurd hc (by decide)) | ((try simp only [decide_eq_true_eq, decide_eq_false_iff_not, Bool.not_eq_true', Bool.not_eq_false', Bool.not_true, Bool.not_false, ne_eq, Decidable.not_not] at hc) <;> first | (exfalso; omega) | (exact absurd trivial hc) | skip)))
        | refine sc_block ?_
        | refine sc_ret ?_
        | refine sc_exit ?_
        | refine sc_skip ?_)
     | (refine gSQ ?_
        first
        | refine sq_seq ?_
        | refine sq_blk ?_
        | refine sq_seq_ret ?_
        | refine sq_blk_ret ?_
        | refine sq_loop_ret ?_
        | refine sq_seq_exit ?_
        | refine sq_blk_hit ?_
        | refine sq_blk_miss rfl ?_
        | refine sq_loop_exit ?_
        | refine sq_ende (.inl rfl) rfl rfl ⟨_, (RVs.cons (RV.tmp rfl) (RVs.cons (RV.tmp rfl) (RVs.nil))), ?_⟩
        | refine sq_ende (.inr rfl) rfl rfl ⟨_, (RVs.cons (RV.tmp rfl) (RVs.cons (RV.tmp rfl) (RVs.nil))), ?_⟩)
     | refine j_nil ?_
     )
    refine sq_endm (.inl rfl) rfl rfl (by repeat (first | exact Rem.here | apply Rem.there)) ⟨_, (RVs.cons (RV.tmp rfl) (RVs.cons (RV.tmp rfl) (RVs.nil))), ?_⟩
    intro w' hS
    exact ⟨_, trivial, rfl, St.unround hback (hS.sub (L' := [haN _ _]) (by repeat (first | exact LSub.nil | refine LSub.cons (by repeat (first | exact Rem.here | apply Rem.there)) ?_))) (fun S p hm => by simp at hm)⟩
end Go.Proofs.Ytmlgheoliaplgaa
