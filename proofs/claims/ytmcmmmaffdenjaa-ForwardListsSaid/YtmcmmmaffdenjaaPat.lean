/-
  forward: path.
-/
import Derived.Test.YtmcmmmaffdenjaaAlo
import Derived.Test.YtmcmmmaffdenjaaEngCoreB
namespace Go.Proofs.Ytmcmmmaffdenjaa
open Go.RowKit Eng
set_option linter.unusedVariables false
set_option linter.unusedSimpArgs false
set_option maxHeartbeats 8000000
attribute [local irreducible] SC SQ J Qt Calls Iterates
def metM (l : List Int) : List (Int × Value) := l.foldl (fun M k => mset M k (.bool true)) []
theorem mlk_mset : ∀ (M : List (Int × Value)) (k k' : Int) (v : Value), mlk (mset M k v) k' = if k = k' then some v else mlk M k'
  | [], k, k', v => by simp [mset, mlk]
  | (q, u) :: M, k, k', v => by
    have ih := mlk_mset M k k' v
    simp only [mset]
    by_cases h : q = k
    · rw [if_pos h]
      subst h
      simp only [mlk]
      by_cases e : q = k'
      · simp [e]
      · simp [e]
    · rw [if_neg h]
      simp only [mlk]
      by_cases e : q = k'
      · subst e
        have : ¬ k = q := fun e => h e.symm
        simp [this]
      · rw [if_neg e, ih, if_neg e]
theorem mlk_met (l : List Int) (k : Int) : mlk (metM l) k = if k ∈ l then some (.bool true) else none := by
  have key : ∀ (l : List Int) (M : List (Int × Value)), mlk (l.foldl (fun M k => mset M k (.bool true)) M) k = if k ∈ l then some (.bool true) else mlk M k := by
    intro l
    induction l with
    | nil => intro M; simp
    | cons x l ih =>
      intro M
      rw [List.foldl_cons, ih, mlk_mset]
      by_cases h1 : k ∈ l
      · simp [h1]
      · by_cases h2 : x = k
        · subst h2; simp
        · have : ¬ k = x := fun e => h2 e.symm
          simp [h1, h2, this]
  exact key l []
theorem met_snoc (l : List Int) (k : Int) : metM (l ++ [k]) = mset (metM l) k (.bool true) := by
  unfold metM
  rw [List.foldl_append]
  rfl
/-- A step, and whether the way ends. -/
def stW (s : Wy) (x : Int × Od) : Wy × Option Code := ((wst s x).1, if (wst s x).2 = true then some (.exit 0) else none)
theorem runsJ_W : ∀ (ys : List (Int × Od)) (s : Wy), runsJ stW s ys = ((wrun s ys).1, if (wrun s ys).2 = true then some (.exit 0) else none)
  | [], s => rfl
  | y :: ys, s => by
    obtain ⟨s', j, h⟩ : ∃ s' j, wst s y = (s', j) := ⟨_, _, rfl⟩
    have h2 : stW s y = (s', if j = true then some (.exit 0) else none) := by unfold stW; rw [h]
    simp only [runsJ, wrun, h2, h]
    cases j
    · simpa using runsJ_W ys s'
    · rfl
theorem wst_len (s : Wy) (x : Int × Od) : (wst s x).1.pts.length = s.pts.length + 1 ∧ (wst s x).1.ords.length ≤ s.ords.length + 1 := by
  unfold wst
  (repeat' split) <;> simp
theorem fold_len (ys : List (Int × Od)) : ∀ (s : Wy), (ys.foldl (fun s y => (stW s y).1) s).pts.length = s.pts.length + ys.length ∧ (ys.foldl (fun s y => (stW s y).1) s).ords.length ≤ s.ords.length + ys.length := by
  induction ys with
  | nil => intro s; simp
  | cons y ys ih =>
    intro s
    have h1 := ih (stW s y).1
    have h2 := wst_len s y
    simp only [List.foldl_cons, List.length_cons]
    unfold stW at h1
    dsimp only at h1
    constructor
    · have := h1.1; unfold stW; dsimp only; rw [h1.1, h2.1]; omega
    · have := h1.2; have := h2.2; unfold stW; dsimp only; omega
theorem along_len (f : Int → Od) : ∀ (n : Nat) (p : Int), (along f n p).length ≤ n + 1
  | 0, p => by simp [along]
  | n + 1, p => by
    simp only [along, List.length_cons]
    split
    · simp
    · have := along_len f n (f p).to; omega
theorem path_c (bk : Nat) (p : Int) (N : List (Int × Od)) (es : Array MapEntry) (clk : Nat) (n : Nat) (w : World) (hG : MapG w bk .i64 (valsG odV N) es clk) (hn : n ≤ 1000000) (hend : (wrun ⟨[], [], 0, 0⟩ (along (chF N) n p)).2 = true) :
    Calls Try.prog 72 #[.map (some bk), .int .i64 p] w fun e w' => ∃ x : Value × Value, True ∧ e = .returned (.agg #[x.1, x.2, .int .u8 (way (chF N) n p).kd, .int .i64 (way (chF N) n p).un]) ∧ St w Cold [.own x.1 3 1 (way (chF N) n p).pts.length ((way (chF N) n p).pts.flatMap intC), .own x.2 3 1 (way (chF N) n p).ords.length ((way (chF N) n p).ords.flatMap intC)] w' := by
  have hal := along_len (chF N) n p
  generalize hway : way (chF N) n p = W at *
  refine eng_start (n := 50) (args := [.map (some bk), .int .i64 p]) tab tab_ok fns fns_ok [.cell 4 62] Try.func72 rfl rfl rfl rfl ?_
  repeat' (first
   | (refine gJ ?_
      first
      | refine jmv rfl rfl rfl rfl rfl ?_
      | (refine gload rfl rfl ?_
         refine j_qe rfl rfl rfl ?_
         first
         | refine ⟨_, q_load_own rfl rfl rfl rfl (by (repeat (first | exact InL.here | apply InL.there))) (by first | rfl | assumption), ?_⟩
         | refine ⟨_, q_loadA_own rfl rfl rfl rfl (by (repeat (first | exact InL.here | apply InL.there))) (by rfl), ?_⟩
         | refine ⟨_, q_loadA_ext rfl rfl rfl rfl ⟨by assumption, (by first | exact id | assumption)⟩ (by rfl), ?_⟩
         | refine ⟨_, q_load_ext rfl rfl rfl rfl ⟨by assumption, (by first | exact id | assumption)⟩ (by first | rfl | assumption), ?_⟩
         | refine ⟨_, q_load_extb rfl rfl rfl rfl ⟨by assumption, (by first | exact id | assumption)⟩ (by rfl), ?_⟩
         | refine ⟨_, q_loadA_extb rfl rfl rfl rfl ⟨by assumption, (by first | exact id | assumption)⟩ (by rfl), ?_⟩
         | refine ⟨_, q_load_ext0 rfl rfl rfl rfl ⟨by assumption, (by first | exact id | assumption)⟩ (by rfl), ?_⟩)
      | refine jfield rfl rfl rfl rfl rfl rfl rfl rfl ?_
      | refine jcmp rfl rfl rfl rfl rfl rfl rfl ?_
      | (refine gF ?_; refine j_makeMap .i64 rfl rfl rfl rfl ?_; intro bm)
      | (refine gcall rfl rfl ?_; refine gF ?_; refine j_callN (f := 87) rfl rfl rfl rfl rfl rfl rfl (fun x : Nat × Nat => .func (.func 96) #[] #[.pointer (some ⟨x.1, 0, none⟩), .pointer (some ⟨x.2, 0, none⟩)]) (fun _ => True) (fun x => [.cells x.2 3 [.int .i64 p], .cells x.1 108 [.map (some bk)]]) (fun w' _ => along_c bk p w') (fun _ => trivial) ?_; rintro ⟨bc, bp⟩ _)
      | (refine gF ?_
         first
         | refine j_store rfl rfl rfl rfl rfl rfl rfl rfl (by (repeat (first | exact Upd.here | apply Upd.there))) (by rfl) ?_
         | (refine j_alloc rfl rfl rfl rfl rfl ?_; intro b)
         | (refine j_buildSlice rfl rfl rfl rfl rfl rfl rfl rfl rfl rfl rfl rfl ?_; intro b)
         | (refine j_append rfl rfl rfl rfl rfl rfl rfl rfl rfl rfl rfl (by (repeat (first | exact InL.here | apply InL.there))) (by (repeat (first | exact InL.here | apply InL.there))) (by rfl) (by rfl) (by omega) (fun _ => by (repeat (first | exact Upd.here | apply Upd.there))) ?_; intro v))
      | (refine j_qe rfl rfl rfl ?_
         first
         | refine ⟨_, q_field_ext rfl rfl rfl rfl rfl, ?_⟩))
   | (refine gSC ?_
      first
      | refine sc_seq ?_
      | refine sc_region ?_
      | (refine sc_cond rfl ?_ ?_ <;> intro hc <;> (first | (exact absurd hc (by decide)) | ((try simp only [decide_eq_true_eq, decide_eq_false_iff_not, Bool.not_eq_true', Bool.not_eq_false', Bool.not_true, Bool.not_false, ne_eq, Decidable.not_not] at hc) <;> first | (exfalso; omega) | (exact absurd trivial hc) | skip)))
      | refine sc_block ?_
      | refine sc_ret ?_
      | refine sc_exit ?_
      | refine sc_skip ?_
       | refine sc_scope rfl ?_
       | refine sc_label ?_
      | refine sc_draw rfl mixed (by kernel_rfl) ?_)
   | (refine gSQ ?_
      first
      | refine sq_seq ?_
      | refine sq_blk ?_
      | refine sq_seq_ret ?_
      | refine sq_blk_ret ?_
      | refine sq_loop_ret ?_
      | refine sq_seq_exit ?_
      | refine sq_blk_hit ?_
      | refine sq_blk_miss rfl ?_
      | refine sq_loop_exit ?_
      | refine sq_ende (.inl rfl) rfl rfl ⟨_, (RVs.cons (by first | exact RV.cell rfl rfl rfl (by (repeat (first | exact InL.here | apply InL.there))) (by rfl) | exact RV.cellA rfl rfl rfl (by (repeat (first | exact InL.here | apply InL.there))) (by rfl)) (RVs.nil)), ?_⟩
      | refine sq_ende (.inr rfl) rfl rfl ⟨_, (RVs.cons (by first | exact RV.cell rfl rfl rfl (by (repeat (first | exact InL.here | apply InL.there))) (by rfl) | exact RV.cellA rfl rfl rfl (by (repeat (first | exact InL.here | apply InL.there))) (by rfl)) (RVs.nil)), ?_⟩)
   | refine j_nil ?_
   )
  revert b; intro b6; revert b; intro b5; revert b; intro b4
  refine sc_own_nil_at 3 1 ?_
  refine sc_own_nil_at 3 1 ?_
  refine sc_rangeE (σ := Wy) (ξ := Value × Value) encP (fun _ => True) (along (chF N) n p) stW (fun s i => [.cells b5 62 [i.1, i.2, .int .u8 s.kd, .int .i64 s.un], .own i.1 3 1 s.pts.length (s.pts.flatMap intC), .own i.2 3 1 s.ords.length (s.ords.flatMap intC), .cells b6 103 [.map (some bm)], haMap bm .i64 (metM s.pts), .cells b4 62 [.slice none 0 0, .slice none 0 0, .int .u8 0, .int .i64 0]]) ⟨[], [], 0, 0⟩ (.slice none 0 0, .slice none 0 0) [.cells bp 3 [.int .i64 p], .cells bc 108 [.map (some bk)]] rfl rfl rfl (fun _ => rfl) (parsLt rfl) (by repeat (first | exact LSub.nil | refine LSub.cons (by repeat (first | exact Rem.here | apply Rem.there)) ?_)) ?_ ?_ ?_ ?_ ?_
  · intro s i S q hm
    simp only [List.mem_cons, List.mem_nil_iff, or_false, reduceCtorEq, false_or, haMap, HA.abs.injEq] at hm
    obtain ⟨rfl, rfl⟩ := hm
    exact fun u u' ⟨o, h1, h2⟩ hk => ⟨o, (hk _ rfl).trans h1, h2⟩
  · rw [runsJ_W]
    dsimp only
    rw [if_pos hend]
    rfl
  · intro w' l D r hS
    exact along1_it w w' bc bp bk p N es clk n _ hS hG
  · intro l D r W1 s i x Q _ hat hready hS1 hfin
    clear hS1
    obtain ⟨ix, hix, hsx⟩ := hat
    have hlen := fold_len ((along (chF N) n p).take ix) ⟨[], [], 0, 0⟩
    have hixl := (List.getElem?_eq_some_iff.1 hix).1
    rw [← hsx, List.length_take] at hlen
    have hl1 : s.pts.length ≤ 1000001 := by have := hlen.1; simp at this; omega
    have hl2 : s.ords.length ≤ 1000001 := by have := hlen.2; simp at this; omega
    clear hlen hsx
    obtain ⟨v1, v2⟩ := i
    obtain ⟨q, o⟩ := x
    dsimp only at hfin ⊢
    refine sc_owns (e := 3) (sz := 1) (n := s.pts.length) (xs := s.pts.flatMap intC) (by (repeat (first | exact InL.here | apply InL.there))) ?_
    rintro A1 c1 rfl hs1
    refine sc_owns (e := 3) (sz := 1) (n := s.ords.length) (xs := s.ords.flatMap intC) (by (repeat (first | exact InL.here | apply InL.there))) ?_
    rintro A2 c2 rfl hs2
    have hmv := mlk_met (s.pts ++ [q]) o.to
    by_cases h1 : o.idn = 0
    · have e : wst s (q, o) = (⟨s.pts ++ [q], s.ords, 1, s.un⟩, true) := by unfold wst; rw [if_pos h1]
      repeat' (first
       | (refine gJ ?_
          first
          | refine jmv rfl rfl rfl rfl rfl ?_
          | (refine gload rfl rfl ?_
             refine j_qe rfl rfl rfl ?_
             first
             | refine ⟨_, q_load_own rfl rfl rfl rfl (by (repeat (first | exact InL.here | apply InL.there))) (by first | rfl | assumption), ?_⟩
             | refine ⟨_, q_loadA_own rfl rfl rfl rfl (by (repeat (first | exact InL.here | apply InL.there))) (by rfl), ?_⟩
             | refine ⟨_, q_loadA_ext rfl rfl rfl rfl ⟨by assumption, (by first | exact id | assumption)⟩ (by rfl), ?_⟩
             | refine ⟨_, q_load_ext rfl rfl rfl rfl ⟨by assumption, (by first | exact id | assumption)⟩ (by first | rfl | assumption), ?_⟩
             | refine ⟨_, q_load_extb rfl rfl rfl rfl ⟨by assumption, (by first | exact id | assumption)⟩ (by rfl), ?_⟩
             | refine ⟨_, q_loadA_extb rfl rfl rfl rfl ⟨by assumption, (by first | exact id | assumption)⟩ (by rfl), ?_⟩
             | refine ⟨_, q_load_ext0 rfl rfl rfl rfl ⟨by assumption, (by first | exact id | assumption)⟩ (by rfl), ?_⟩)
          | refine jfield rfl rfl rfl rfl rfl rfl rfl rfl ?_
          | refine jcmp rfl rfl rfl rfl rfl rfl rfl ?_
          | (refine gF ?_
             first
             | refine j_store rfl rfl rfl rfl rfl rfl rfl rfl (by (repeat (first | exact Upd.here | apply Upd.there))) (by rfl) ?_
             | (refine j_alloc rfl rfl rfl rfl rfl ?_; intro b)
             | (refine j_buildSlice rfl rfl rfl rfl rfl rfl rfl rfl rfl rfl rfl rfl ?_; intro b)
             | (refine j_append rfl rfl rfl rfl rfl rfl rfl rfl rfl rfl rfl (by (repeat (first | exact InL.here | apply InL.there))) (by (repeat (first | exact InL.here | apply InL.there))) (by rfl) (by rfl) (by omega) (fun _ => by (repeat (first | exact Upd.here | apply Upd.there))) ?_; intro v))
          | (refine j_qe rfl rfl rfl ?_
             first
             | refine ⟨_, q_field_ext rfl rfl rfl rfl rfl, ?_⟩))
       | (refine gSC ?_
          first
          | refine sc_seq ?_
          | refine sc_region ?_
          | (refine sc_cond rfl ?_ ?_ <;> intro hc <;> (first | (exact absurd hc (by decide)) | ((try simp only [decide_eq_true_eq, decide_eq_false_iff_not, Bool.not_eq_true', Bool.not_eq_false', Bool.not_true, Bool.not_false, ne_eq, Decidable.not_not] at hc) <;> first | (exfalso; omega) | (exact absurd trivial hc) | skip)))
          | refine sc_block ?_
          | refine sc_ret ?_
          | refine sc_exit ?_
          | refine sc_skip ?_
          | refine sc_draw rfl mixed (by kernel_rfl) ?_)
       | (refine gSQ ?_
          first
          | refine sq_seq ?_
          | refine sq_blk ?_
          | refine sq_seq_ret ?_
          | refine sq_blk_ret ?_
          | refine sq_loop_ret ?_
          | refine sq_seq_exit ?_
          | refine sq_blk_hit ?_
          | refine sq_blk_miss rfl ?_
          | refine sq_loop_exit ?_
          | refine sq_ende (.inl rfl) rfl rfl ⟨_, (RVs.cons (by first | exact RV.cell rfl rfl rfl (by (repeat (first | exact InL.here | apply InL.there))) (by rfl) | exact RV.cellA rfl rfl rfl (by (repeat (first | exact InL.here | apply InL.there))) (by rfl)) (RVs.nil)), ?_⟩
          | refine sq_ende (.inr rfl) rfl rfl ⟨_, (RVs.cons (by first | exact RV.cell rfl rfl rfl (by (repeat (first | exact InL.here | apply InL.there))) (by rfl) | exact RV.cellA rfl rfl rfl (by (repeat (first | exact InL.here | apply InL.there))) (by rfl)) (RVs.nil)), ?_⟩)
       | refine j_nil ?_
       )
      refine sq_begin rfl hready (by (repeat (first | exact Upd.here | apply Upd.there))) ?_
      repeat' (first
       | (refine gJ ?_
          first
          | refine jmv rfl rfl rfl rfl rfl ?_
          | (refine gload rfl rfl ?_
             refine j_qe rfl rfl rfl ?_
             first
             | refine ⟨_, q_load_own rfl rfl rfl rfl (by (repeat (first | exact InL.here | apply InL.there))) (by first | rfl | assumption), ?_⟩
             | refine ⟨_, q_loadA_own rfl rfl rfl rfl (by (repeat (first | exact InL.here | apply InL.there))) (by rfl), ?_⟩
             | refine ⟨_, q_loadA_ext rfl rfl rfl rfl ⟨by assumption, (by first | exact id | assumption)⟩ (by rfl), ?_⟩
             | refine ⟨_, q_load_ext rfl rfl rfl rfl ⟨by assumption, (by first | exact id | assumption)⟩ (by first | rfl | assumption), ?_⟩
             | refine ⟨_, q_load_extb rfl rfl rfl rfl ⟨by assumption, (by first | exact id | assumption)⟩ (by rfl), ?_⟩
             | refine ⟨_, q_loadA_extb rfl rfl rfl rfl ⟨by assumption, (by first | exact id | assumption)⟩ (by rfl), ?_⟩
             | refine ⟨_, q_load_ext0 rfl rfl rfl rfl ⟨by assumption, (by first | exact id | assumption)⟩ (by rfl), ?_⟩)
          | refine jfield rfl rfl rfl rfl rfl rfl rfl rfl ?_
          | refine jcmp rfl rfl rfl rfl rfl rfl rfl ?_
          | (refine gF ?_; refine j_append (xs := s.pts.flatMap intC) rfl rfl rfl rfl rfl rfl rfl rfl rfl rfl rfl (by (repeat (first | exact InL.here | apply InL.there))) (by (repeat (first | exact InL.here | apply InL.there))) (by rfl) (by rfl) (by omega) (fun _ => by (repeat (first | exact Upd.here | apply Upd.there))) ?_; intro v; refine j_owns (v := v) (by (repeat (first | exact InL.here | apply InL.there))) ?_; rintro A3 c3 rfl hs3)
          | (refine gF ?_; refine j_append (xs := s.ords.flatMap intC) rfl rfl rfl rfl rfl rfl rfl rfl rfl rfl rfl (by (repeat (first | exact InL.here | apply InL.there))) (by (repeat (first | exact InL.here | apply InL.there))) (by rfl) (by rfl) (by omega) (fun _ => by (repeat (first | exact Upd.here | apply Upd.there))) ?_; intro v; refine j_owns (v := v) (by (repeat (first | exact InL.here | apply InL.there))) ?_; rintro A4 c4 rfl hs4)
          | (refine gF ?_; refine j_mapUpdate (v := .bool true) rfl rfl rfl rfl rfl rfl rfl rfl rfl rfl (by (repeat (first | exact Upd.here | apply Upd.there))) ?_; rw [← met_snoc])
          | (refine j_qe rfl rfl rfl ?_; refine ⟨_, q_lookup (v := .bool true) rfl rfl rfl rfl rfl rfl rfl rfl (by (repeat (first | exact InL.here | apply InL.there))) (by first | (rw [hmv]; done) | (rw [hmv]; rfl)), ?_⟩)
          | (refine gF ?_
             first
             | refine j_store rfl rfl rfl rfl rfl rfl rfl rfl (by (repeat (first | exact Upd.here | apply Upd.there))) (by rfl) ?_
             | (refine j_alloc rfl rfl rfl rfl rfl ?_; intro b)
             | (refine j_buildSlice rfl rfl rfl rfl rfl rfl rfl rfl rfl rfl rfl rfl ?_; intro b)
             | (refine j_append rfl rfl rfl rfl rfl rfl rfl rfl rfl rfl rfl (by (repeat (first | exact InL.here | apply InL.there))) (by (repeat (first | exact InL.here | apply InL.there))) (by rfl) (by rfl) (by omega) (fun _ => by (repeat (first | exact Upd.here | apply Upd.there))) ?_; intro v))
          | (refine j_qe rfl rfl rfl ?_
             first
             | refine ⟨_, q_field_ext rfl rfl rfl rfl rfl, ?_⟩))
       | (refine gSC ?_
          first
          | refine sc_seq ?_
          | refine sc_region ?_
          | (refine sc_cond rfl ?_ ?_ <;> intro hc <;> (first | (exact absurd hc (by decide)) | ((try simp only [decide_eq_true_eq, decide_eq_false_iff_not, Bool.not_eq_true', Bool.not_eq_false', Bool.not_true, Bool.not_false, ne_eq, Decidable.not_not] at hc) <;> first | (exfalso; omega) | (exact absurd trivial hc) | skip)))
          | refine sc_block ?_
          | refine sc_ret ?_
          | refine sc_exit ?_
          | refine sc_skip ?_)
       | (refine gSQ ?_
          first
          | refine sq_seq ?_
          | refine sq_blk ?_
          | refine sq_seq_ret ?_
          | refine sq_blk_ret ?_
          | refine sq_loop_ret ?_
          | refine sq_seq_exit ?_
          | refine sq_blk_hit ?_
          | refine sq_blk_miss rfl ?_
          | refine sq_loop_exit ?_
          | refine sq_ende (.inl rfl) rfl rfl ⟨_, (RVs.cons (by first | exact RV.cell rfl rfl rfl (by (repeat (first | exact InL.here | apply InL.there))) (by rfl) | exact RV.cellA rfl rfl rfl (by (repeat (first | exact InL.here | apply InL.there))) (by rfl)) (RVs.nil)), ?_⟩
          | refine sq_ende (.inr rfl) rfl rfl ⟨_, (RVs.cons (by first | exact RV.cell rfl rfl rfl (by (repeat (first | exact InL.here | apply InL.there))) (by rfl) | exact RV.cellA rfl rfl rfl (by (repeat (first | exact InL.here | apply InL.there))) (by rfl)) (RVs.nil)), ?_⟩)
       | refine j_nil ?_
       )
      refine hfin (.exit 0) (some (.exit 0)) (.slice A3 (s.pts.length + 1) c3, .slice A2 s.ords.length c2) _ _ _ rfl (by unfold stW; rw [e]; rfl) (by repeat (first | exact Rem.here | apply Rem.there)) ?_
      rw [show (stW s (q, o)).1 = ⟨s.pts ++ [q], s.ords, 1, s.un⟩ from by unfold stW; rw [e]]
      dsimp only
      rw [own_snoc]
      exact (by repeat (first | exact LSub.refl | refine LSub.cons (by repeat (first | exact Rem.here | apply Rem.there)) ?_ | apply LSub.skip))
    · by_cases h3 : o.kd = 3
      · have e : wst s (q, o) = (⟨s.pts ++ [q], s.ords, 2, o.en⟩, true) := by unfold wst; rw [if_neg h1, if_pos h3]
        repeat' (first
         | (refine gJ ?_
            first
            | refine jmv rfl rfl rfl rfl rfl ?_
            | (refine gload rfl rfl ?_
               refine j_qe rfl rfl rfl ?_
               first
               | refine ⟨_, q_load_own rfl rfl rfl rfl (by (repeat (first | exact InL.here | apply InL.there))) (by first | rfl | assumption), ?_⟩
               | refine ⟨_, q_loadA_own rfl rfl rfl rfl (by (repeat (first | exact InL.here | apply InL.there))) (by rfl), ?_⟩
               | refine ⟨_, q_loadA_ext rfl rfl rfl rfl ⟨by assumption, (by first | exact id | assumption)⟩ (by rfl), ?_⟩
               | refine ⟨_, q_load_ext rfl rfl rfl rfl ⟨by assumption, (by first | exact id | assumption)⟩ (by first | rfl | assumption), ?_⟩
               | refine ⟨_, q_load_extb rfl rfl rfl rfl ⟨by assumption, (by first | exact id | assumption)⟩ (by rfl), ?_⟩
               | refine ⟨_, q_loadA_extb rfl rfl rfl rfl ⟨by assumption, (by first | exact id | assumption)⟩ (by rfl), ?_⟩
               | refine ⟨_, q_load_ext0 rfl rfl rfl rfl ⟨by assumption, (by first | exact id | assumption)⟩ (by rfl), ?_⟩)
            | refine jfield rfl rfl rfl rfl rfl rfl rfl rfl ?_
            | refine jcmp rfl rfl rfl rfl rfl rfl rfl ?_
            | (refine gF ?_
               first
               | refine j_store rfl rfl rfl rfl rfl rfl rfl rfl (by (repeat (first | exact Upd.here | apply Upd.there))) (by rfl) ?_
               | (refine j_alloc rfl rfl rfl rfl rfl ?_; intro b)
               | (refine j_buildSlice rfl rfl rfl rfl rfl rfl rfl rfl rfl rfl rfl rfl ?_; intro b)
               | (refine j_append rfl rfl rfl rfl rfl rfl rfl rfl rfl rfl rfl (by (repeat (first | exact InL.here | apply InL.there))) (by (repeat (first | exact InL.here | apply InL.there))) (by rfl) (by rfl) (by omega) (fun _ => by (repeat (first | exact Upd.here | apply Upd.there))) ?_; intro v))
            | (refine j_qe rfl rfl rfl ?_
               first
               | refine ⟨_, q_field_ext rfl rfl rfl rfl rfl, ?_⟩))
         | (refine gSC ?_
            first
            | refine sc_seq ?_
            | refine sc_region ?_
            | (refine sc_cond rfl ?_ ?_ <;> intro hc <;> (first | (exact absurd hc (by decide)) | ((try simp only [decide_eq_true_eq, decide_eq_false_iff_not, Bool.not_eq_true', Bool.not_eq_false', Bool.not_true, Bool.not_false, ne_eq, Decidable.not_not] at hc) <;> first | (exfalso; omega) | (exact absurd trivial hc) | skip)))
            | refine sc_block ?_
            | refine sc_ret ?_
            | refine sc_exit ?_
            | refine sc_skip ?_
            | refine sc_draw rfl mixed (by kernel_rfl) ?_)
         | (refine gSQ ?_
            first
            | refine sq_seq ?_
            | refine sq_blk ?_
            | refine sq_seq_ret ?_
            | refine sq_blk_ret ?_
            | refine sq_loop_ret ?_
            | refine sq_seq_exit ?_
            | refine sq_blk_hit ?_
            | refine sq_blk_miss rfl ?_
            | refine sq_loop_exit ?_
            | refine sq_ende (.inl rfl) rfl rfl ⟨_, (RVs.cons (by first | exact RV.cell rfl rfl rfl (by (repeat (first | exact InL.here | apply InL.there))) (by rfl) | exact RV.cellA rfl rfl rfl (by (repeat (first | exact InL.here | apply InL.there))) (by rfl)) (RVs.nil)), ?_⟩
            | refine sq_ende (.inr rfl) rfl rfl ⟨_, (RVs.cons (by first | exact RV.cell rfl rfl rfl (by (repeat (first | exact InL.here | apply InL.there))) (by rfl) | exact RV.cellA rfl rfl rfl (by (repeat (first | exact InL.here | apply InL.there))) (by rfl)) (RVs.nil)), ?_⟩)
         | refine j_nil ?_
         )
        refine sq_begin rfl hready (by (repeat (first | exact Upd.here | apply Upd.there))) ?_
        repeat' (first
         | (refine gJ ?_
            first
            | refine jmv rfl rfl rfl rfl rfl ?_
            | (refine gload rfl rfl ?_
               refine j_qe rfl rfl rfl ?_
               first
               | refine ⟨_, q_load_own rfl rfl rfl rfl (by (repeat (first | exact InL.here | apply InL.there))) (by first | rfl | assumption), ?_⟩
               | refine ⟨_, q_loadA_own rfl rfl rfl rfl (by (repeat (first | exact InL.here | apply InL.there))) (by rfl), ?_⟩
               | refine ⟨_, q_loadA_ext rfl rfl rfl rfl ⟨by assumption, (by first | exact id | assumption)⟩ (by rfl), ?_⟩
               | refine ⟨_, q_load_ext rfl rfl rfl rfl ⟨by assumption, (by first | exact id | assumption)⟩ (by first | rfl | assumption), ?_⟩
               | refine ⟨_, q_load_extb rfl rfl rfl rfl ⟨by assumption, (by first | exact id | assumption)⟩ (by rfl), ?_⟩
               | refine ⟨_, q_loadA_extb rfl rfl rfl rfl ⟨by assumption, (by first | exact id | assumption)⟩ (by rfl), ?_⟩
               | refine ⟨_, q_load_ext0 rfl rfl rfl rfl ⟨by assumption, (by first | exact id | assumption)⟩ (by rfl), ?_⟩)
            | refine jfield rfl rfl rfl rfl rfl rfl rfl rfl ?_
            | refine jcmp rfl rfl rfl rfl rfl rfl rfl ?_
            | (refine gF ?_; refine j_append (xs := s.pts.flatMap intC) rfl rfl rfl rfl rfl rfl rfl rfl rfl rfl rfl (by (repeat (first | exact InL.here | apply InL.there))) (by (repeat (first | exact InL.here | apply InL.there))) (by rfl) (by rfl) (by omega) (fun _ => by (repeat (first | exact Upd.here | apply Upd.there))) ?_; intro v; refine j_owns (v := v) (by (repeat (first | exact InL.here | apply InL.there))) ?_; rintro A3 c3 rfl hs3)
            | (refine gF ?_; refine j_append (xs := s.ords.flatMap intC) rfl rfl rfl rfl rfl rfl rfl rfl rfl rfl rfl (by (repeat (first | exact InL.here | apply InL.there))) (by (repeat (first | exact InL.here | apply InL.there))) (by rfl) (by rfl) (by omega) (fun _ => by (repeat (first | exact Upd.here | apply Upd.there))) ?_; intro v; refine j_owns (v := v) (by (repeat (first | exact InL.here | apply InL.there))) ?_; rintro A4 c4 rfl hs4)
            | (refine gF ?_; refine j_mapUpdate (v := .bool true) rfl rfl rfl rfl rfl rfl rfl rfl rfl rfl (by (repeat (first | exact Upd.here | apply Upd.there))) ?_; rw [← met_snoc])
            | (refine j_qe rfl rfl rfl ?_; refine ⟨_, q_lookup (v := .bool true) rfl rfl rfl rfl rfl rfl rfl rfl (by (repeat (first | exact InL.here | apply InL.there))) (by first | (rw [hmv]; done) | (rw [hmv]; rfl)), ?_⟩)
            | (refine gF ?_
               first
               | refine j_store rfl rfl rfl rfl rfl rfl rfl rfl (by (repeat (first | exact Upd.here | apply Upd.there))) (by rfl) ?_
               | (refine j_alloc rfl rfl rfl rfl rfl ?_; intro b)
               | (refine j_buildSlice rfl rfl rfl rfl rfl rfl rfl rfl rfl rfl rfl rfl ?_; intro b)
               | (refine j_append rfl rfl rfl rfl rfl rfl rfl rfl rfl rfl rfl (by (repeat (first | exact InL.here | apply InL.there))) (by (repeat (first | exact InL.here | apply InL.there))) (by rfl) (by rfl) (by omega) (fun _ => by (repeat (first | exact Upd.here | apply Upd.there))) ?_; intro v))
            | (refine j_qe rfl rfl rfl ?_
               first
               | refine ⟨_, q_field_ext rfl rfl rfl rfl rfl, ?_⟩))
         | (refine gSC ?_
            first
            | refine sc_seq ?_
            | refine sc_region ?_
            | (refine sc_cond rfl ?_ ?_ <;> intro hc <;> (first | (exact absurd hc (by decide)) | ((try simp only [decide_eq_true_eq, decide_eq_false_iff_not, Bool.not_eq_true', Bool.not_eq_false', Bool.not_true, Bool.not_false, ne_eq, Decidable.not_not] at hc) <;> first | (exfalso; omega) | (exact absurd trivial hc) | skip)))
            | refine sc_block ?_
            | refine sc_ret ?_
            | refine sc_exit ?_
            | refine sc_skip ?_)
         | (refine gSQ ?_
            first
            | refine sq_seq ?_
            | refine sq_blk ?_
            | refine sq_seq_ret ?_
            | refine sq_blk_ret ?_
            | refine sq_loop_ret ?_
            | refine sq_seq_exit ?_
            | refine sq_blk_hit ?_
            | refine sq_blk_miss rfl ?_
            | refine sq_loop_exit ?_
            | refine sq_ende (.inl rfl) rfl rfl ⟨_, (RVs.cons (by first | exact RV.cell rfl rfl rfl (by (repeat (first | exact InL.here | apply InL.there))) (by rfl) | exact RV.cellA rfl rfl rfl (by (repeat (first | exact InL.here | apply InL.there))) (by rfl)) (RVs.nil)), ?_⟩
            | refine sq_ende (.inr rfl) rfl rfl ⟨_, (RVs.cons (by first | exact RV.cell rfl rfl rfl (by (repeat (first | exact InL.here | apply InL.there))) (by rfl) | exact RV.cellA rfl rfl rfl (by (repeat (first | exact InL.here | apply InL.there))) (by rfl)) (RVs.nil)), ?_⟩)
         | refine j_nil ?_
         )
        revert b; intro b9; revert b; intro b8
        refine sc_mixed [.cells b8 30 (odC o)] rfl mixed ?_
        (refine ja_take 0 rfl (by kernel_rfl) rfl rfl rfl (by repeat (first | exact LSub.nil | refine LSub.cons (by repeat (first | exact Rem.here | apply Rem.there)) ?_)) ?_; first | refine ⟨_, q_move rfl rfl, ?_⟩ | refine ⟨_, q_assign rfl rfl, ?_⟩ | refine ⟨_, q_field_own rfl rfl rfl rfl rfl, ?_⟩ | refine ⟨_, q_extract rfl rfl rfl, ?_⟩ | refine ⟨_, q_add rfl rfl rfl (by omega), ?_⟩ | refine ⟨_, q_sub rfl rfl rfl (by omega), ?_⟩ | refine ⟨_, q_mul rfl rfl rfl (by omega), ?_⟩ | refine ⟨_, q_lss rfl rfl rfl, ?_⟩ | refine ⟨_, q_leq rfl rfl rfl, ?_⟩ | refine ⟨_, q_gtr rfl rfl rfl, ?_⟩ | refine ⟨_, q_geq rfl rfl rfl, ?_⟩ | refine ⟨_, q_eql rfl rfl rfl, ?_⟩ | refine ⟨_, q_neq rfl rfl rfl, ?_⟩ | refine ⟨_, q_pick_t rfl rfl rfl, ?_⟩ | refine ⟨_, q_pick_f rfl rfl rfl, ?_⟩ | refine ⟨_, q_not rfl rfl, ?_⟩ | refine ⟨_, q_index_nat rfl rfl rfl rfl rfl (by omega), ?_⟩ | refine ⟨_, q_index_slice rfl rfl rfl rfl rfl (by omega), ?_⟩ | refine ⟨_, q_index_arr rfl rfl rfl rfl rfl (by omega), ?_⟩ | refine ⟨_, q_index_arr_ext rfl rfl rfl rfl rfl (by omega), ?_⟩ | refine ⟨_, q_len_slice rfl rfl rfl rfl, ?_⟩ | refine ⟨_, q_makeFunc rfl rfl, ?_⟩ | refine ⟨_, q_build_struct rfl rfl rfl rfl rfl, ?_⟩ | refine ⟨_, q_build_arr rfl rfl rfl rfl rfl, ?_⟩ | refine ⟨_, q_nilCheck rfl rfl, ?_⟩ | refine ⟨_, q_field_ext rfl rfl rfl rfl rfl, ?_⟩ | refine ⟨_, q_quo rfl rfl rfl (by omega), ?_⟩ | refine ⟨_, q_rem rfl rfl rfl (by omega), ?_⟩ | refine ⟨_, q_quot rfl rfl rfl (by omega), ?_⟩ | refine ⟨_, q_remt rfl rfl rfl (by omega), ?_⟩ | refine ⟨_, q_addu8 rfl rfl rfl (by omega), ?_⟩ | refine ⟨_, q_quou8 rfl rfl rfl (by omega), ?_⟩ | refine ⟨_, q_shr1 rfl rfl rfl, ?_⟩ | refine ⟨_, q_shr rfl rfl rfl ⟨by omega, by decide⟩, ?_⟩ | refine ⟨_, q_shr rfl rfl rfl ⟨by omega, by show Int.toNat _ ≤ (8:Nat); omega⟩, ?_⟩ | refine ⟨_, q_and1 rfl rfl rfl (by first | assumption | omega), ?_⟩ | refine ⟨_, q_conv rfl rfl rfl rfl rfl rfl (by first | rfl | (exact i64_wrap (by omega) (by omega)) | (exact u8_wrap (by omega) (by omega)) | (exact u64_wrap (by omega) (by omega)) | (exact u16_wrap (by omega) (by omega))), ?_⟩ | refine ⟨_, q_load_own rfl rfl rfl rfl (by (repeat (first | exact InL.here | apply InL.there))) (by first | rfl | assumption), ?_⟩ | refine ⟨_, q_loadA_own rfl rfl rfl rfl (by (repeat (first | exact InL.here | apply InL.there))) (by rfl), ?_⟩ | refine ⟨_, q_loadA_ext rfl rfl rfl rfl ⟨by assumption, (by first | exact id | assumption)⟩ (by rfl), ?_⟩ | refine ⟨_, q_load_ext rfl rfl rfl rfl ⟨by assumption, (by first | exact id | assumption)⟩ (by first | rfl | assumption), ?_⟩ | refine ⟨_, q_load_extb rfl rfl rfl rfl ⟨by assumption, (by first | exact id | assumption)⟩ (by rfl), ?_⟩ | refine ⟨_, q_loadA_extb rfl rfl rfl rfl ⟨by assumption, (by first | exact id | assumption)⟩ (by rfl), ?_⟩ | refine ⟨_, q_load_ext0 rfl rfl rfl rfl ⟨by assumption, (by first | exact id | assumption)⟩ (by rfl), ?_⟩)
        (refine ja_take 1 rfl (by kernel_rfl) rfl rfl rfl (by repeat (first | exact LSub.nil | refine LSub.cons (by repeat (first | exact Rem.here | apply Rem.there)) ?_)) ?_; first | refine ⟨_, q_move rfl rfl, ?_⟩ | refine ⟨_, q_assign rfl rfl, ?_⟩ | refine ⟨_, q_field_own rfl rfl rfl rfl rfl, ?_⟩ | refine ⟨_, q_extract rfl rfl rfl, ?_⟩ | refine ⟨_, q_add rfl rfl rfl (by omega), ?_⟩ | refine ⟨_, q_sub rfl rfl rfl (by omega), ?_⟩ | refine ⟨_, q_mul rfl rfl rfl (by omega), ?_⟩ | refine ⟨_, q_lss rfl rfl rfl, ?_⟩ | refine ⟨_, q_leq rfl rfl rfl, ?_⟩ | refine ⟨_, q_gtr rfl rfl rfl, ?_⟩ | refine ⟨_, q_geq rfl rfl rfl, ?_⟩ | refine ⟨_, q_eql rfl rfl rfl, ?_⟩ | refine ⟨_, q_neq rfl rfl rfl, ?_⟩ | refine ⟨_, q_pick_t rfl rfl rfl, ?_⟩ | refine ⟨_, q_pick_f rfl rfl rfl, ?_⟩ | refine ⟨_, q_not rfl rfl, ?_⟩ | refine ⟨_, q_index_nat rfl rfl rfl rfl rfl (by omega), ?_⟩ | refine ⟨_, q_index_slice rfl rfl rfl rfl rfl (by omega), ?_⟩ | refine ⟨_, q_index_arr rfl rfl rfl rfl rfl (by omega), ?_⟩ | refine ⟨_, q_index_arr_ext rfl rfl rfl rfl rfl (by omega), ?_⟩ | refine ⟨_, q_len_slice rfl rfl rfl rfl, ?_⟩ | refine ⟨_, q_makeFunc rfl rfl, ?_⟩ | refine ⟨_, q_build_struct rfl rfl rfl rfl rfl, ?_⟩ | refine ⟨_, q_build_arr rfl rfl rfl rfl rfl, ?_⟩ | refine ⟨_, q_nilCheck rfl rfl, ?_⟩ | refine ⟨_, q_field_ext rfl rfl rfl rfl rfl, ?_⟩ | refine ⟨_, q_quo rfl rfl rfl (by omega), ?_⟩ | refine ⟨_, q_rem rfl rfl rfl (by omega), ?_⟩ | refine ⟨_, q_quot rfl rfl rfl (by omega), ?_⟩ | refine ⟨_, q_remt rfl rfl rfl (by omega), ?_⟩ | refine ⟨_, q_addu8 rfl rfl rfl (by omega), ?_⟩ | refine ⟨_, q_quou8 rfl rfl rfl (by omega), ?_⟩ | refine ⟨_, q_shr1 rfl rfl rfl, ?_⟩ | refine ⟨_, q_shr rfl rfl rfl ⟨by omega, by decide⟩, ?_⟩ | refine ⟨_, q_shr rfl rfl rfl ⟨by omega, by show Int.toNat _ ≤ (8:Nat); omega⟩, ?_⟩ | refine ⟨_, q_and1 rfl rfl rfl (by first | assumption | omega), ?_⟩ | refine ⟨_, q_conv rfl rfl rfl rfl rfl rfl (by first | rfl | (exact i64_wrap (by omega) (by omega)) | (exact u8_wrap (by omega) (by omega)) | (exact u64_wrap (by omega) (by omega)) | (exact u16_wrap (by omega) (by omega))), ?_⟩ | refine ⟨_, q_load_own rfl rfl rfl rfl (by (repeat (first | exact InL.here | apply InL.there))) (by first | rfl | assumption), ?_⟩ | refine ⟨_, q_loadA_own rfl rfl rfl rfl (by (repeat (first | exact InL.here | apply InL.there))) (by rfl), ?_⟩ | refine ⟨_, q_loadA_ext rfl rfl rfl rfl ⟨by assumption, (by first | exact id | assumption)⟩ (by rfl), ?_⟩ | refine ⟨_, q_load_ext rfl rfl rfl rfl ⟨by assumption, (by first | exact id | assumption)⟩ (by first | rfl | assumption), ?_⟩ | refine ⟨_, q_load_extb rfl rfl rfl rfl ⟨by assumption, (by first | exact id | assumption)⟩ (by rfl), ?_⟩ | refine ⟨_, q_loadA_extb rfl rfl rfl rfl ⟨by assumption, (by first | exact id | assumption)⟩ (by rfl), ?_⟩ | refine ⟨_, q_load_ext0 rfl rfl rfl rfl ⟨by assumption, (by first | exact id | assumption)⟩ (by rfl), ?_⟩)
        (refine ja_take 2 rfl (by kernel_rfl) rfl rfl rfl (by repeat (first | exact LSub.nil | refine LSub.cons (by repeat (first | exact Rem.here | apply Rem.there)) ?_)) ?_; first | refine ⟨_, q_move rfl rfl, ?_⟩ | refine ⟨_, q_assign rfl rfl, ?_⟩ | refine ⟨_, q_field_own rfl rfl rfl rfl rfl, ?_⟩ | refine ⟨_, q_extract rfl rfl rfl, ?_⟩ | refine ⟨_, q_add rfl rfl rfl (by omega), ?_⟩ | refine ⟨_, q_sub rfl rfl rfl (by omega), ?_⟩ | refine ⟨_, q_mul rfl rfl rfl (by omega), ?_⟩ | refine ⟨_, q_lss rfl rfl rfl, ?_⟩ | refine ⟨_, q_leq rfl rfl rfl, ?_⟩ | refine ⟨_, q_gtr rfl rfl rfl, ?_⟩ | refine ⟨_, q_geq rfl rfl rfl, ?_⟩ | refine ⟨_, q_eql rfl rfl rfl, ?_⟩ | refine ⟨_, q_neq rfl rfl rfl, ?_⟩ | refine ⟨_, q_pick_t rfl rfl rfl, ?_⟩ | refine ⟨_, q_pick_f rfl rfl rfl, ?_⟩ | refine ⟨_, q_not rfl rfl, ?_⟩ | refine ⟨_, q_index_nat rfl rfl rfl rfl rfl (by omega), ?_⟩ | refine ⟨_, q_index_slice rfl rfl rfl rfl rfl (by omega), ?_⟩ | refine ⟨_, q_index_arr rfl rfl rfl rfl rfl (by omega), ?_⟩ | refine ⟨_, q_index_arr_ext rfl rfl rfl rfl rfl (by omega), ?_⟩ | refine ⟨_, q_len_slice rfl rfl rfl rfl, ?_⟩ | refine ⟨_, q_makeFunc rfl rfl, ?_⟩ | refine ⟨_, q_build_struct rfl rfl rfl rfl rfl, ?_⟩ | refine ⟨_, q_build_arr rfl rfl rfl rfl rfl, ?_⟩ | refine ⟨_, q_nilCheck rfl rfl, ?_⟩ | refine ⟨_, q_field_ext rfl rfl rfl rfl rfl, ?_⟩ | refine ⟨_, q_quo rfl rfl rfl (by omega), ?_⟩ | refine ⟨_, q_rem rfl rfl rfl (by omega), ?_⟩ | refine ⟨_, q_quot rfl rfl rfl (by omega), ?_⟩ | refine ⟨_, q_remt rfl rfl rfl (by omega), ?_⟩ | refine ⟨_, q_addu8 rfl rfl rfl (by omega), ?_⟩ | refine ⟨_, q_quou8 rfl rfl rfl (by omega), ?_⟩ | refine ⟨_, q_shr1 rfl rfl rfl, ?_⟩ | refine ⟨_, q_shr rfl rfl rfl ⟨by omega, by decide⟩, ?_⟩ | refine ⟨_, q_shr rfl rfl rfl ⟨by omega, by show Int.toNat _ ≤ (8:Nat); omega⟩, ?_⟩ | refine ⟨_, q_and1 rfl rfl rfl (by first | assumption | omega), ?_⟩ | refine ⟨_, q_conv rfl rfl rfl rfl rfl rfl (by first | rfl | (exact i64_wrap (by omega) (by omega)) | (exact u8_wrap (by omega) (by omega)) | (exact u64_wrap (by omega) (by omega)) | (exact u16_wrap (by omega) (by omega))), ?_⟩ | refine ⟨_, q_load_own rfl rfl rfl rfl (by (repeat (first | exact InL.here | apply InL.there))) (by first | rfl | assumption), ?_⟩ | refine ⟨_, q_loadA_own rfl rfl rfl rfl (by (repeat (first | exact InL.here | apply InL.there))) (by rfl), ?_⟩ | refine ⟨_, q_loadA_ext rfl rfl rfl rfl ⟨by assumption, (by first | exact id | assumption)⟩ (by rfl), ?_⟩ | refine ⟨_, q_load_ext rfl rfl rfl rfl ⟨by assumption, (by first | exact id | assumption)⟩ (by first | rfl | assumption), ?_⟩ | refine ⟨_, q_load_extb rfl rfl rfl rfl ⟨by assumption, (by first | exact id | assumption)⟩ (by rfl), ?_⟩ | refine ⟨_, q_loadA_extb rfl rfl rfl rfl ⟨by assumption, (by first | exact id | assumption)⟩ (by rfl), ?_⟩ | refine ⟨_, q_load_ext0 rfl rfl rfl rfl ⟨by assumption, (by first | exact id | assumption)⟩ (by rfl), ?_⟩)
        (refine ja_all [3] (by kernel_rfl) rfl ?_ rfl; intro i hi; simp only [List.mem_cons, List.mem_nil_iff, or_false] at hi; subst hi; refine ⟨_, rfl, rfl, ?_⟩)
        refine j_store rfl rfl rfl rfl rfl rfl rfl rfl (by (repeat (first | exact Upd.here | apply Upd.there))) (by rfl) ?_
        (refine j_nil ?_; refine sq_next (by repeat (first | exact LSub.nil | refine LSub.cons (by repeat (first | exact Rem.here | apply Rem.there)) ?_)) ?_)
        (refine ja_take 4 rfl (by kernel_rfl) rfl rfl rfl (by repeat (first | exact LSub.nil | refine LSub.cons (by repeat (first | exact Rem.here | apply Rem.there)) ?_)) ?_; first | refine ⟨_, q_move rfl rfl, ?_⟩ | refine ⟨_, q_assign rfl rfl, ?_⟩ | refine ⟨_, q_field_own rfl rfl rfl rfl rfl, ?_⟩ | refine ⟨_, q_extract rfl rfl rfl, ?_⟩ | refine ⟨_, q_add rfl rfl rfl (by omega), ?_⟩ | refine ⟨_, q_sub rfl rfl rfl (by omega), ?_⟩ | refine ⟨_, q_mul rfl rfl rfl (by omega), ?_⟩ | refine ⟨_, q_lss rfl rfl rfl, ?_⟩ | refine ⟨_, q_leq rfl rfl rfl, ?_⟩ | refine ⟨_, q_gtr rfl rfl rfl, ?_⟩ | refine ⟨_, q_geq rfl rfl rfl, ?_⟩ | refine ⟨_, q_eql rfl rfl rfl, ?_⟩ | refine ⟨_, q_neq rfl rfl rfl, ?_⟩ | refine ⟨_, q_pick_t rfl rfl rfl, ?_⟩ | refine ⟨_, q_pick_f rfl rfl rfl, ?_⟩ | refine ⟨_, q_not rfl rfl, ?_⟩ | refine ⟨_, q_index_nat rfl rfl rfl rfl rfl (by omega), ?_⟩ | refine ⟨_, q_index_slice rfl rfl rfl rfl rfl (by omega), ?_⟩ | refine ⟨_, q_index_arr rfl rfl rfl rfl rfl (by omega), ?_⟩ | refine ⟨_, q_index_arr_ext rfl rfl rfl rfl rfl (by omega), ?_⟩ | refine ⟨_, q_len_slice rfl rfl rfl rfl, ?_⟩ | refine ⟨_, q_makeFunc rfl rfl, ?_⟩ | refine ⟨_, q_build_struct rfl rfl rfl rfl rfl, ?_⟩ | refine ⟨_, q_build_arr rfl rfl rfl rfl rfl, ?_⟩ | refine ⟨_, q_nilCheck rfl rfl, ?_⟩ | refine ⟨_, q_field_ext rfl rfl rfl rfl rfl, ?_⟩ | refine ⟨_, q_quo rfl rfl rfl (by omega), ?_⟩ | refine ⟨_, q_rem rfl rfl rfl (by omega), ?_⟩ | refine ⟨_, q_quot rfl rfl rfl (by omega), ?_⟩ | refine ⟨_, q_remt rfl rfl rfl (by omega), ?_⟩ | refine ⟨_, q_addu8 rfl rfl rfl (by omega), ?_⟩ | refine ⟨_, q_quou8 rfl rfl rfl (by omega), ?_⟩ | refine ⟨_, q_shr1 rfl rfl rfl, ?_⟩ | refine ⟨_, q_shr rfl rfl rfl ⟨by omega, by decide⟩, ?_⟩ | refine ⟨_, q_shr rfl rfl rfl ⟨by omega, by show Int.toNat _ ≤ (8:Nat); omega⟩, ?_⟩ | refine ⟨_, q_and1 rfl rfl rfl (by first | assumption | omega), ?_⟩ | refine ⟨_, q_conv rfl rfl rfl rfl rfl rfl (by first | rfl | (exact i64_wrap (by omega) (by omega)) | (exact u8_wrap (by omega) (by omega)) | (exact u64_wrap (by omega) (by omega)) | (exact u16_wrap (by omega) (by omega))), ?_⟩ | refine ⟨_, q_load_own rfl rfl rfl rfl (by (repeat (first | exact InL.here | apply InL.there))) (by first | rfl | assumption), ?_⟩ | refine ⟨_, q_loadA_own rfl rfl rfl rfl (by (repeat (first | exact InL.here | apply InL.there))) (by rfl), ?_⟩ | refine ⟨_, q_loadA_ext rfl rfl rfl rfl ⟨by assumption, (by first | exact id | assumption)⟩ (by rfl), ?_⟩ | refine ⟨_, q_load_ext rfl rfl rfl rfl ⟨by assumption, (by first | exact id | assumption)⟩ (by first | rfl | assumption), ?_⟩ | refine ⟨_, q_load_extb rfl rfl rfl rfl ⟨by assumption, (by first | exact id | assumption)⟩ (by rfl), ?_⟩ | refine ⟨_, q_loadA_extb rfl rfl rfl rfl ⟨by assumption, (by first | exact id | assumption)⟩ (by rfl), ?_⟩ | refine ⟨_, q_load_ext0 rfl rfl rfl rfl ⟨by assumption, (by first | exact id | assumption)⟩ (by rfl), ?_⟩)
        (refine ja_all [5] (by kernel_rfl) rfl ?_ rfl; intro i hi; simp only [List.mem_cons, List.mem_nil_iff, or_false] at hi; subst hi; refine ⟨_, rfl, rfl, ?_⟩)
        refine j_store rfl rfl rfl rfl rfl rfl rfl rfl (by (repeat (first | exact Upd.here | apply Upd.there))) (by rfl) ?_
        (refine j_nil ?_; refine sq_next (by repeat (first | exact LSub.nil | refine LSub.cons (by repeat (first | exact Rem.here | apply Rem.there)) ?_)) ?_)
        refine ja_done (by kernel_rfl) ?_
        repeat' (first
         | (refine gJ ?_
            first
            | refine jmv rfl rfl rfl rfl rfl ?_
            | (refine gload rfl rfl ?_
               refine j_qe rfl rfl rfl ?_
               first
               | refine ⟨_, q_load_own rfl rfl rfl rfl (by (repeat (first | exact InL.here | apply InL.there))) (by first | rfl | assumption), ?_⟩
               | refine ⟨_, q_loadA_own rfl rfl rfl rfl (by (repeat (first | exact InL.here | apply InL.there))) (by rfl), ?_⟩
               | refine ⟨_, q_loadA_ext rfl rfl rfl rfl ⟨by assumption, (by first | exact id | assumption)⟩ (by rfl), ?_⟩
               | refine ⟨_, q_load_ext rfl rfl rfl rfl ⟨by assumption, (by first | exact id | assumption)⟩ (by first | rfl | assumption), ?_⟩
               | refine ⟨_, q_load_extb rfl rfl rfl rfl ⟨by assumption, (by first | exact id | assumption)⟩ (by rfl), ?_⟩
               | refine ⟨_, q_loadA_extb rfl rfl rfl rfl ⟨by assumption, (by first | exact id | assumption)⟩ (by rfl), ?_⟩
               | refine ⟨_, q_load_ext0 rfl rfl rfl rfl ⟨by assumption, (by first | exact id | assumption)⟩ (by rfl), ?_⟩)
            | refine jfield rfl rfl rfl rfl rfl rfl rfl rfl ?_
            | refine jcmp rfl rfl rfl rfl rfl rfl rfl ?_
            | (refine gF ?_
               first
               | refine j_store rfl rfl rfl rfl rfl rfl rfl rfl (by (repeat (first | exact Upd.here | apply Upd.there))) (by rfl) ?_
               | (refine j_alloc rfl rfl rfl rfl rfl ?_; intro b)
               | (refine j_buildSlice rfl rfl rfl rfl rfl rfl rfl rfl rfl rfl rfl rfl ?_; intro b)
               | (refine j_append rfl rfl rfl rfl rfl rfl rfl rfl rfl rfl rfl (by (repeat (first | exact InL.here | apply InL.there))) (by (repeat (first | exact InL.here | apply InL.there))) (by rfl) (by rfl) (by omega) (fun _ => by (repeat (first | exact Upd.here | apply Upd.there))) ?_; intro v))
            | (refine j_qe rfl rfl rfl ?_
               first
               | refine ⟨_, q_field_ext rfl rfl rfl rfl rfl, ?_⟩))
         | (refine gSC ?_
            first
            | refine sc_seq ?_
            | refine sc_region ?_
            | (refine sc_cond rfl ?_ ?_ <;> intro hc <;> (first | (exact absurd hc (by decide)) | ((try simp only [decide_eq_true_eq, decide_eq_false_iff_not, Bool.not_eq_true', Bool.not_eq_false', Bool.not_true, Bool.not_false, ne_eq, Decidable.not_not] at hc) <;> first | (exfalso; omega) | (exact absurd trivial hc) | skip)))
            | refine sc_block ?_
            | refine sc_ret ?_
            | refine sc_exit ?_
            | refine sc_skip ?_
            | refine sc_draw rfl mixed (by kernel_rfl) ?_)
         | (refine gSQ ?_
            first
            | refine sq_seq ?_
            | refine sq_blk ?_
            | refine sq_seq_ret ?_
            | refine sq_blk_ret ?_
            | refine sq_loop_ret ?_
            | refine sq_seq_exit ?_
            | refine sq_blk_hit ?_
            | refine sq_blk_miss rfl ?_
            | refine sq_loop_exit ?_
            | refine sq_ende (.inl rfl) rfl rfl ⟨_, (RVs.cons (by first | exact RV.cell rfl rfl rfl (by (repeat (first | exact InL.here | apply InL.there))) (by rfl) | exact RV.cellA rfl rfl rfl (by (repeat (first | exact InL.here | apply InL.there))) (by rfl)) (RVs.nil)), ?_⟩
            | refine sq_ende (.inr rfl) rfl rfl ⟨_, (RVs.cons (by first | exact RV.cell rfl rfl rfl (by (repeat (first | exact InL.here | apply InL.there))) (by rfl) | exact RV.cellA rfl rfl rfl (by (repeat (first | exact InL.here | apply InL.there))) (by rfl)) (RVs.nil)), ?_⟩)
         | refine j_nil ?_
         )
        refine hfin (.exit 0) (some (.exit 0)) (.slice A3 (s.pts.length + 1) c3, .slice A2 s.ords.length c2) _ _ _ rfl (by unfold stW; rw [e]; rfl) (by repeat (first | exact Rem.here | apply Rem.there)) ?_
        rw [show (stW s (q, o)).1 = ⟨s.pts ++ [q], s.ords, 2, o.en⟩ from by unfold stW; rw [e]]
        dsimp only
        rw [own_snoc]
        exact (by repeat (first | exact LSub.refl | refine LSub.cons (by repeat (first | exact Rem.here | apply Rem.there)) ?_ | apply LSub.skip))
      · by_cases hm : o.to ∈ s.pts ++ [q]
        · have e : wst s (q, o) = (⟨s.pts ++ [q], s.ords, 3, s.un⟩, true) := by unfold wst; rw [if_neg h1, if_neg h3, if_pos hm]
          rw [if_pos hm] at hmv
          repeat' (first
           | (refine gJ ?_
              first
              | refine jmv rfl rfl rfl rfl rfl ?_
              | (refine gload rfl rfl ?_
                 refine j_qe rfl rfl rfl ?_
                 first
                 | refine ⟨_, q_load_own rfl rfl rfl rfl (by (repeat (first | exact InL.here | apply InL.there))) (by first | rfl | assumption), ?_⟩
                 | refine ⟨_, q_loadA_own rfl rfl rfl rfl (by (repeat (first | exact InL.here | apply InL.there))) (by rfl), ?_⟩
                 | refine ⟨_, q_loadA_ext rfl rfl rfl rfl ⟨by assumption, (by first | exact id | assumption)⟩ (by rfl), ?_⟩
                 | refine ⟨_, q_load_ext rfl rfl rfl rfl ⟨by assumption, (by first | exact id | assumption)⟩ (by first | rfl | assumption), ?_⟩
                 | refine ⟨_, q_load_extb rfl rfl rfl rfl ⟨by assumption, (by first | exact id | assumption)⟩ (by rfl), ?_⟩
                 | refine ⟨_, q_loadA_extb rfl rfl rfl rfl ⟨by assumption, (by first | exact id | assumption)⟩ (by rfl), ?_⟩
                 | refine ⟨_, q_load_ext0 rfl rfl rfl rfl ⟨by assumption, (by first | exact id | assumption)⟩ (by rfl), ?_⟩)
              | refine jfield rfl rfl rfl rfl rfl rfl rfl rfl ?_
              | refine jcmp rfl rfl rfl rfl rfl rfl rfl ?_
              | (refine gF ?_
                 first
                 | refine j_store rfl rfl rfl rfl rfl rfl rfl rfl (by (repeat (first | exact Upd.here | apply Upd.there))) (by rfl) ?_
                 | (refine j_alloc rfl rfl rfl rfl rfl ?_; intro b)
                 | (refine j_buildSlice rfl rfl rfl rfl rfl rfl rfl rfl rfl rfl rfl rfl ?_; intro b)
                 | (refine j_append rfl rfl rfl rfl rfl rfl rfl rfl rfl rfl rfl (by (repeat (first | exact InL.here | apply InL.there))) (by (repeat (first | exact InL.here | apply InL.there))) (by rfl) (by rfl) (by omega) (fun _ => by (repeat (first | exact Upd.here | apply Upd.there))) ?_; intro v))
              | (refine j_qe rfl rfl rfl ?_
                 first
                 | refine ⟨_, q_field_ext rfl rfl rfl rfl rfl, ?_⟩))
           | (refine gSC ?_
              first
              | refine sc_seq ?_
              | refine sc_region ?_
              | (refine sc_cond rfl ?_ ?_ <;> intro hc <;> (first | (exact absurd hc (by decide)) | ((try simp only [decide_eq_true_eq, decide_eq_false_iff_not, Bool.not_eq_true', Bool.not_eq_false', Bool.not_true, Bool.not_false, ne_eq, Decidable.not_not] at hc) <;> first | (exfalso; omega) | (exact absurd trivial hc) | skip)))
              | refine sc_block ?_
              | refine sc_ret ?_
              | refine sc_exit ?_
              | refine sc_skip ?_
              | refine sc_draw rfl mixed (by kernel_rfl) ?_)
           | (refine gSQ ?_
              first
              | refine sq_seq ?_
              | refine sq_blk ?_
              | refine sq_seq_ret ?_
              | refine sq_blk_ret ?_
              | refine sq_loop_ret ?_
              | refine sq_seq_exit ?_
              | refine sq_blk_hit ?_
              | refine sq_blk_miss rfl ?_
              | refine sq_loop_exit ?_
              | refine sq_ende (.inl rfl) rfl rfl ⟨_, (RVs.cons (by first | exact RV.cell rfl rfl rfl (by (repeat (first | exact InL.here | apply InL.there))) (by rfl) | exact RV.cellA rfl rfl rfl (by (repeat (first | exact InL.here | apply InL.there))) (by rfl)) (RVs.nil)), ?_⟩
              | refine sq_ende (.inr rfl) rfl rfl ⟨_, (RVs.cons (by first | exact RV.cell rfl rfl rfl (by (repeat (first | exact InL.here | apply InL.there))) (by rfl) | exact RV.cellA rfl rfl rfl (by (repeat (first | exact InL.here | apply InL.there))) (by rfl)) (RVs.nil)), ?_⟩)
           | refine j_nil ?_
           )
          refine sq_begin rfl hready (by (repeat (first | exact Upd.here | apply Upd.there))) ?_
          repeat' (first
           | (refine gJ ?_
              first
              | refine jmv rfl rfl rfl rfl rfl ?_
              | (refine gload rfl rfl ?_
                 refine j_qe rfl rfl rfl ?_
                 first
                 | refine ⟨_, q_load_own rfl rfl rfl rfl (by (repeat (first | exact InL.here | apply InL.there))) (by first | rfl | assumption), ?_⟩
                 | refine ⟨_, q_loadA_own rfl rfl rfl rfl (by (repeat (first | exact InL.here | apply InL.there))) (by rfl), ?_⟩
                 | refine ⟨_, q_loadA_ext rfl rfl rfl rfl ⟨by assumption, (by first | exact id | assumption)⟩ (by rfl), ?_⟩
                 | refine ⟨_, q_load_ext rfl rfl rfl rfl ⟨by assumption, (by first | exact id | assumption)⟩ (by first | rfl | assumption), ?_⟩
                 | refine ⟨_, q_load_extb rfl rfl rfl rfl ⟨by assumption, (by first | exact id | assumption)⟩ (by rfl), ?_⟩
                 | refine ⟨_, q_loadA_extb rfl rfl rfl rfl ⟨by assumption, (by first | exact id | assumption)⟩ (by rfl), ?_⟩
                 | refine ⟨_, q_load_ext0 rfl rfl rfl rfl ⟨by assumption, (by first | exact id | assumption)⟩ (by rfl), ?_⟩)
              | refine jfield rfl rfl rfl rfl rfl rfl rfl rfl ?_
              | refine jcmp rfl rfl rfl rfl rfl rfl rfl ?_
              | (refine gF ?_; refine j_append (xs := s.pts.flatMap intC) rfl rfl rfl rfl rfl rfl rfl rfl rfl rfl rfl (by (repeat (first | exact InL.here | apply InL.there))) (by (repeat (first | exact InL.here | apply InL.there))) (by rfl) (by rfl) (by omega) (fun _ => by (repeat (first | exact Upd.here | apply Upd.there))) ?_; intro v; refine j_owns (v := v) (by (repeat (first | exact InL.here | apply InL.there))) ?_; rintro A3 c3 rfl hs3)
              | (refine gF ?_; refine j_append (xs := s.ords.flatMap intC) rfl rfl rfl rfl rfl rfl rfl rfl rfl rfl rfl (by (repeat (first | exact InL.here | apply InL.there))) (by (repeat (first | exact InL.here | apply InL.there))) (by rfl) (by rfl) (by omega) (fun _ => by (repeat (first | exact Upd.here | apply Upd.there))) ?_; intro v; refine j_owns (v := v) (by (repeat (first | exact InL.here | apply InL.there))) ?_; rintro A4 c4 rfl hs4)
              | (refine gF ?_; refine j_mapUpdate (v := .bool true) rfl rfl rfl rfl rfl rfl rfl rfl rfl rfl (by (repeat (first | exact Upd.here | apply Upd.there))) ?_; rw [← met_snoc])
              | (refine j_qe rfl rfl rfl ?_; refine ⟨_, q_lookup (v := .bool true) rfl rfl rfl rfl rfl rfl rfl rfl (by (repeat (first | exact InL.here | apply InL.there))) (by first | (rw [hmv]; done) | (rw [hmv]; rfl)), ?_⟩)
              | (refine gF ?_
                 first
                 | refine j_store rfl rfl rfl rfl rfl rfl rfl rfl (by (repeat (first | exact Upd.here | apply Upd.there))) (by rfl) ?_
                 | (refine j_alloc rfl rfl rfl rfl rfl ?_; intro b)
                 | (refine j_buildSlice rfl rfl rfl rfl rfl rfl rfl rfl rfl rfl rfl rfl ?_; intro b)
                 | (refine j_append rfl rfl rfl rfl rfl rfl rfl rfl rfl rfl rfl (by (repeat (first | exact InL.here | apply InL.there))) (by (repeat (first | exact InL.here | apply InL.there))) (by rfl) (by rfl) (by omega) (fun _ => by (repeat (first | exact Upd.here | apply Upd.there))) ?_; intro v))
              | (refine j_qe rfl rfl rfl ?_
                 first
                 | refine ⟨_, q_field_ext rfl rfl rfl rfl rfl, ?_⟩))
           | (refine gSC ?_
              first
              | refine sc_seq ?_
              | refine sc_region ?_
              | (refine sc_cond rfl ?_ ?_ <;> intro hc <;> (first | (exact absurd hc (by decide)) | ((try simp only [decide_eq_true_eq, decide_eq_false_iff_not, Bool.not_eq_true', Bool.not_eq_false', Bool.not_true, Bool.not_false, ne_eq, Decidable.not_not] at hc) <;> first | (exfalso; omega) | (exact absurd trivial hc) | skip)))
              | refine sc_block ?_
              | refine sc_ret ?_
              | refine sc_exit ?_
              | refine sc_skip ?_)
           | (refine gSQ ?_
              first
              | refine sq_seq ?_
              | refine sq_blk ?_
              | refine sq_seq_ret ?_
              | refine sq_blk_ret ?_
              | refine sq_loop_ret ?_
              | refine sq_seq_exit ?_
              | refine sq_blk_hit ?_
              | refine sq_blk_miss rfl ?_
              | refine sq_loop_exit ?_
              | refine sq_ende (.inl rfl) rfl rfl ⟨_, (RVs.cons (by first | exact RV.cell rfl rfl rfl (by (repeat (first | exact InL.here | apply InL.there))) (by rfl) | exact RV.cellA rfl rfl rfl (by (repeat (first | exact InL.here | apply InL.there))) (by rfl)) (RVs.nil)), ?_⟩
              | refine sq_ende (.inr rfl) rfl rfl ⟨_, (RVs.cons (by first | exact RV.cell rfl rfl rfl (by (repeat (first | exact InL.here | apply InL.there))) (by rfl) | exact RV.cellA rfl rfl rfl (by (repeat (first | exact InL.here | apply InL.there))) (by rfl)) (RVs.nil)), ?_⟩)
           | refine j_nil ?_
           )
          refine hfin (.exit 0) (some (.exit 0)) (.slice A3 (s.pts.length + 1) c3, .slice A2 s.ords.length c2) _ _ _ rfl (by unfold stW; rw [e]; rfl) (by repeat (first | exact Rem.here | apply Rem.there)) ?_
          rw [show (stW s (q, o)).1 = ⟨s.pts ++ [q], s.ords, 3, s.un⟩ from by unfold stW; rw [e]]
          dsimp only
          rw [own_snoc]
          exact (by repeat (first | exact LSub.refl | refine LSub.cons (by repeat (first | exact Rem.here | apply Rem.there)) ?_ | apply LSub.skip))
        · have e : wst s (q, o) = (⟨s.pts ++ [q], s.ords ++ [o.idn], s.kd, s.un⟩, false) := by unfold wst; rw [if_neg h1, if_neg h3, if_neg hm]
          rw [if_neg hm] at hmv
          repeat' (first
           | (refine gJ ?_
              first
              | refine jmv rfl rfl rfl rfl rfl ?_
              | (refine gload rfl rfl ?_
                 refine j_qe rfl rfl rfl ?_
                 first
                 | refine ⟨_, q_load_own rfl rfl rfl rfl (by (repeat (first | exact InL.here | apply InL.there))) (by first | rfl | assumption), ?_⟩
                 | refine ⟨_, q_loadA_own rfl rfl rfl rfl (by (repeat (first | exact InL.here | apply InL.there))) (by rfl), ?_⟩
                 | refine ⟨_, q_loadA_ext rfl rfl rfl rfl ⟨by assumption, (by first | exact id | assumption)⟩ (by rfl), ?_⟩
                 | refine ⟨_, q_load_ext rfl rfl rfl rfl ⟨by assumption, (by first | exact id | assumption)⟩ (by first | rfl | assumption), ?_⟩
                 | refine ⟨_, q_load_extb rfl rfl rfl rfl ⟨by assumption, (by first | exact id | assumption)⟩ (by rfl), ?_⟩
                 | refine ⟨_, q_loadA_extb rfl rfl rfl rfl ⟨by assumption, (by first | exact id | assumption)⟩ (by rfl), ?_⟩
                 | refine ⟨_, q_load_ext0 rfl rfl rfl rfl ⟨by assumption, (by first | exact id | assumption)⟩ (by rfl), ?_⟩)
              | refine jfield rfl rfl rfl rfl rfl rfl rfl rfl ?_
              | refine jcmp rfl rfl rfl rfl rfl rfl rfl ?_
              | (refine gF ?_
                 first
                 | refine j_store rfl rfl rfl rfl rfl rfl rfl rfl (by (repeat (first | exact Upd.here | apply Upd.there))) (by rfl) ?_
                 | (refine j_alloc rfl rfl rfl rfl rfl ?_; intro b)
                 | (refine j_buildSlice rfl rfl rfl rfl rfl rfl rfl rfl rfl rfl rfl rfl ?_; intro b)
                 | (refine j_append rfl rfl rfl rfl rfl rfl rfl rfl rfl rfl rfl (by (repeat (first | exact InL.here | apply InL.there))) (by (repeat (first | exact InL.here | apply InL.there))) (by rfl) (by rfl) (by omega) (fun _ => by (repeat (first | exact Upd.here | apply Upd.there))) ?_; intro v))
              | (refine j_qe rfl rfl rfl ?_
                 first
                 | refine ⟨_, q_field_ext rfl rfl rfl rfl rfl, ?_⟩))
           | (refine gSC ?_
              first
              | refine sc_seq ?_
              | refine sc_region ?_
              | (refine sc_cond rfl ?_ ?_ <;> intro hc <;> (first | (exact absurd hc (by decide)) | ((try simp only [decide_eq_true_eq, decide_eq_false_iff_not, Bool.not_eq_true', Bool.not_eq_false', Bool.not_true, Bool.not_false, ne_eq, Decidable.not_not] at hc) <;> first | (exfalso; omega) | (exact absurd trivial hc) | skip)))
              | refine sc_block ?_
              | refine sc_ret ?_
              | refine sc_exit ?_
              | refine sc_skip ?_
              | refine sc_draw rfl mixed (by kernel_rfl) ?_)
           | (refine gSQ ?_
              first
              | refine sq_seq ?_
              | refine sq_blk ?_
              | refine sq_seq_ret ?_
              | refine sq_blk_ret ?_
              | refine sq_loop_ret ?_
              | refine sq_seq_exit ?_
              | refine sq_blk_hit ?_
              | refine sq_blk_miss rfl ?_
              | refine sq_loop_exit ?_
              | refine sq_ende (.inl rfl) rfl rfl ⟨_, (RVs.cons (by first | exact RV.cell rfl rfl rfl (by (repeat (first | exact InL.here | apply InL.there))) (by rfl) | exact RV.cellA rfl rfl rfl (by (repeat (first | exact InL.here | apply InL.there))) (by rfl)) (RVs.nil)), ?_⟩
              | refine sq_ende (.inr rfl) rfl rfl ⟨_, (RVs.cons (by first | exact RV.cell rfl rfl rfl (by (repeat (first | exact InL.here | apply InL.there))) (by rfl) | exact RV.cellA rfl rfl rfl (by (repeat (first | exact InL.here | apply InL.there))) (by rfl)) (RVs.nil)), ?_⟩)
           | refine j_nil ?_
           )
          refine sq_begin rfl hready (by (repeat (first | exact Upd.here | apply Upd.there))) ?_
          repeat' (first
           | (refine gJ ?_
              first
              | refine jmv rfl rfl rfl rfl rfl ?_
              | (refine gload rfl rfl ?_
                 refine j_qe rfl rfl rfl ?_
                 first
                 | refine ⟨_, q_load_own rfl rfl rfl rfl (by (repeat (first | exact InL.here | apply InL.there))) (by first | rfl | assumption), ?_⟩
                 | refine ⟨_, q_loadA_own rfl rfl rfl rfl (by (repeat (first | exact InL.here | apply InL.there))) (by rfl), ?_⟩
                 | refine ⟨_, q_loadA_ext rfl rfl rfl rfl ⟨by assumption, (by first | exact id | assumption)⟩ (by rfl), ?_⟩
                 | refine ⟨_, q_load_ext rfl rfl rfl rfl ⟨by assumption, (by first | exact id | assumption)⟩ (by first | rfl | assumption), ?_⟩
                 | refine ⟨_, q_load_extb rfl rfl rfl rfl ⟨by assumption, (by first | exact id | assumption)⟩ (by rfl), ?_⟩
                 | refine ⟨_, q_loadA_extb rfl rfl rfl rfl ⟨by assumption, (by first | exact id | assumption)⟩ (by rfl), ?_⟩
                 | refine ⟨_, q_load_ext0 rfl rfl rfl rfl ⟨by assumption, (by first | exact id | assumption)⟩ (by rfl), ?_⟩)
              | refine jfield rfl rfl rfl rfl rfl rfl rfl rfl ?_
              | refine jcmp rfl rfl rfl rfl rfl rfl rfl ?_
              | (refine gF ?_; refine j_append (xs := s.pts.flatMap intC) rfl rfl rfl rfl rfl rfl rfl rfl rfl rfl rfl (by (repeat (first | exact InL.here | apply InL.there))) (by (repeat (first | exact InL.here | apply InL.there))) (by rfl) (by rfl) (by omega) (fun _ => by (repeat (first | exact Upd.here | apply Upd.there))) ?_; intro v; refine j_owns (v := v) (by (repeat (first | exact InL.here | apply InL.there))) ?_; rintro A3 c3 rfl hs3)
              | (refine gF ?_; refine j_append (xs := s.ords.flatMap intC) rfl rfl rfl rfl rfl rfl rfl rfl rfl rfl rfl (by (repeat (first | exact InL.here | apply InL.there))) (by (repeat (first | exact InL.here | apply InL.there))) (by rfl) (by rfl) (by omega) (fun _ => by (repeat (first | exact Upd.here | apply Upd.there))) ?_; intro v; refine j_owns (v := v) (by (repeat (first | exact InL.here | apply InL.there))) ?_; rintro A4 c4 rfl hs4)
              | (refine gF ?_; refine j_mapUpdate (v := .bool true) rfl rfl rfl rfl rfl rfl rfl rfl rfl rfl (by (repeat (first | exact Upd.here | apply Upd.there))) ?_; rw [← met_snoc])
              | (refine j_qe rfl rfl rfl ?_; refine ⟨_, q_lookup (v := .bool false) rfl rfl rfl rfl rfl rfl rfl rfl (by (repeat (first | exact InL.here | apply InL.there))) (by first | (rw [hmv]; done) | (rw [hmv]; rfl)), ?_⟩)
              | (refine gF ?_
                 first
                 | refine j_store rfl rfl rfl rfl rfl rfl rfl rfl (by (repeat (first | exact Upd.here | apply Upd.there))) (by rfl) ?_
                 | (refine j_alloc rfl rfl rfl rfl rfl ?_; intro b)
                 | (refine j_buildSlice rfl rfl rfl rfl rfl rfl rfl rfl rfl rfl rfl rfl ?_; intro b)
                 | (refine j_append rfl rfl rfl rfl rfl rfl rfl rfl rfl rfl rfl (by (repeat (first | exact InL.here | apply InL.there))) (by (repeat (first | exact InL.here | apply InL.there))) (by rfl) (by rfl) (by omega) (fun _ => by (repeat (first | exact Upd.here | apply Upd.there))) ?_; intro v))
              | (refine j_qe rfl rfl rfl ?_
                 first
                 | refine ⟨_, q_field_ext rfl rfl rfl rfl rfl, ?_⟩))
           | (refine gSC ?_
              first
              | refine sc_seq ?_
              | refine sc_region ?_
              | (refine sc_cond rfl ?_ ?_ <;> intro hc <;> (first | (exact absurd hc (by decide)) | ((try simp only [decide_eq_true_eq, decide_eq_false_iff_not, Bool.not_eq_true', Bool.not_eq_false', Bool.not_true, Bool.not_false, ne_eq, Decidable.not_not] at hc) <;> first | (exfalso; omega) | (exact absurd trivial hc) | skip)))
              | refine sc_block ?_
              | refine sc_ret ?_
              | refine sc_exit ?_
              | refine sc_skip ?_)
           | (refine gSQ ?_
              first
              | refine sq_seq ?_
              | refine sq_blk ?_
              | refine sq_seq_ret ?_
              | refine sq_blk_ret ?_
              | refine sq_loop_ret ?_
              | refine sq_seq_exit ?_
              | refine sq_blk_hit ?_
              | refine sq_blk_miss rfl ?_
              | refine sq_loop_exit ?_
              | refine sq_ende (.inl rfl) rfl rfl ⟨_, (RVs.cons (by first | exact RV.cell rfl rfl rfl (by (repeat (first | exact InL.here | apply InL.there))) (by rfl) | exact RV.cellA rfl rfl rfl (by (repeat (first | exact InL.here | apply InL.there))) (by rfl)) (RVs.nil)), ?_⟩
              | refine sq_ende (.inr rfl) rfl rfl ⟨_, (RVs.cons (by first | exact RV.cell rfl rfl rfl (by (repeat (first | exact InL.here | apply InL.there))) (by rfl) | exact RV.cellA rfl rfl rfl (by (repeat (first | exact InL.here | apply InL.there))) (by rfl)) (RVs.nil)), ?_⟩)
           | refine j_nil ?_
           )
          refine hfin .normal none (.slice A3 (s.pts.length + 1) c3, .slice A4 (s.ords.length + 1) c4) _ _ _ rfl (by unfold stW; rw [e]; rfl) (by repeat (first | exact Rem.here | apply Rem.there)) ?_
          rw [show (stW s (q, o)).1 = ⟨s.pts ++ [q], s.ords ++ [o.idn], s.kd, s.un⟩ from by unfold stW; rw [e]]
          dsimp only
          rw [own_snoc, own_snoc]
          exact (by repeat (first | exact LSub.refl | refine LSub.cons (by repeat (first | exact Rem.here | apply Rem.there)) ?_ | apply LSub.skip))
  · intro D i c hj
    rw [runsJ_W] at hj ⊢
    dsimp only at hj ⊢
    rw [if_pos hend] at hj
    injection hj with hj
    subst hj
    have hw : (wrun ⟨[], [], 0, 0⟩ (along (chF N) n p)).1 = W := hway
    rw [hw]
    obtain ⟨v1, v2⟩ := i
    dsimp only
    refine sc_owns (e := 3) (sz := 1) (n := W.pts.length) (xs := W.pts.flatMap intC) (by (repeat (first | exact InL.here | apply InL.there))) ?_
    rintro A1 c1 rfl hs1
    refine sc_owns (e := 3) (sz := 1) (n := W.ords.length) (xs := W.ords.flatMap intC) (by (repeat (first | exact InL.here | apply InL.there))) ?_
    rintro A2 c2 rfl hs2
    repeat' (first
     | (refine gJ ?_
        first
        | refine jmv rfl rfl rfl rfl rfl ?_
        | (refine gload rfl rfl ?_
           refine j_qe rfl rfl rfl ?_
           first
           | refine ⟨_, q_load_own rfl rfl rfl rfl (by (repeat (first | exact InL.here | apply InL.there))) (by first | rfl | assumption), ?_⟩
           | refine ⟨_, q_loadA_own rfl rfl rfl rfl (by (repeat (first | exact InL.here | apply InL.there))) (by rfl), ?_⟩
           | refine ⟨_, q_loadA_ext rfl rfl rfl rfl ⟨by assumption, (by first | exact id | assumption)⟩ (by rfl), ?_⟩
           | refine ⟨_, q_load_ext rfl rfl rfl rfl ⟨by assumption, (by first | exact id | assumption)⟩ (by first | rfl | assumption), ?_⟩
           | refine ⟨_, q_load_extb rfl rfl rfl rfl ⟨by assumption, (by first | exact id | assumption)⟩ (by rfl), ?_⟩
           | refine ⟨_, q_loadA_extb rfl rfl rfl rfl ⟨by assumption, (by first | exact id | assumption)⟩ (by rfl), ?_⟩
           | refine ⟨_, q_load_ext0 rfl rfl rfl rfl ⟨by assumption, (by first | exact id | assumption)⟩ (by rfl), ?_⟩)
        | refine jfield rfl rfl rfl rfl rfl rfl rfl rfl ?_
        | refine jcmp rfl rfl rfl rfl rfl rfl rfl ?_
        | (refine gF ?_
           first
           | refine j_store rfl rfl rfl rfl rfl rfl rfl rfl (by (repeat (first | exact Upd.here | apply Upd.there))) (by rfl) ?_
           | (refine j_alloc rfl rfl rfl rfl rfl ?_; intro b)
           | (refine j_buildSlice rfl rfl rfl rfl rfl rfl rfl rfl rfl rfl rfl rfl ?_; intro b)
           | (refine j_append rfl rfl rfl rfl rfl rfl rfl rfl rfl rfl rfl (by (repeat (first | exact InL.here | apply InL.there))) (by (repeat (first | exact InL.here | apply InL.there))) (by rfl) (by rfl) (by omega) (fun _ => by (repeat (first | exact Upd.here | apply Upd.there))) ?_; intro v))
        | (refine j_qe rfl rfl rfl ?_
           first
           | refine ⟨_, q_field_ext rfl rfl rfl rfl rfl, ?_⟩))
     | (refine gSC ?_
        first
        | refine sc_seq ?_
        | refine sc_region ?_
        | (refine sc_cond rfl ?_ ?_ <;> intro hc <;> (first | (exact absurd hc (by decide)) | ((try simp only [decide_eq_true_eq, decide_eq_false_iff_not, Bool.not_eq_true', Bool.not_eq_false', Bool.not_true, Bool.not_false, ne_eq, Decidable.not_not] at hc) <;> first | (exfalso; omega) | (exact absurd trivial hc) | skip)))
        | refine sc_block ?_
        | refine sc_ret ?_
        | refine sc_exit ?_
        | refine sc_skip ?_
        | refine sc_draw rfl mixed (by kernel_rfl) ?_)
     | (refine gSQ ?_
        first
        | refine sq_seq ?_
        | refine sq_blk ?_
        | refine sq_seq_ret ?_
        | refine sq_blk_ret ?_
        | refine sq_loop_ret ?_
        | refine sq_seq_exit ?_
        | refine sq_blk_hit ?_
        | refine sq_blk_miss rfl ?_
        | refine sq_loop_exit ?_
        | refine sq_ende (.inl rfl) rfl rfl ⟨_, (RVs.cons (by first | exact RV.cell rfl rfl rfl (by (repeat (first | exact InL.here | apply InL.there))) (by rfl) | exact RV.cellA rfl rfl rfl (by (repeat (first | exact InL.here | apply InL.there))) (by rfl)) (RVs.nil)), ?_⟩
        | refine sq_ende (.inr rfl) rfl rfl ⟨_, (RVs.cons (by first | exact RV.cell rfl rfl rfl (by (repeat (first | exact InL.here | apply InL.there))) (by rfl) | exact RV.cellA rfl rfl rfl (by (repeat (first | exact InL.here | apply InL.there))) (by rfl)) (RVs.nil)), ?_⟩)
     | refine j_nil ?_
     )
    refine sq_endm (.inl rfl) rfl rfl (by repeat (first | exact Rem.here | apply Rem.there)) ⟨_, (RVs.cons (by first | exact RV.cell rfl rfl rfl (by (repeat (first | exact InL.here | apply InL.there))) (by rfl) | exact RV.cellA rfl rfl rfl (by (repeat (first | exact InL.here | apply InL.there))) (by rfl)) (RVs.nil)), ?_⟩
    intro w' hS
    exact ⟨(.slice A1 W.pts.length c1, .slice A2 W.ords.length c2), trivial, rfl, hS.sub (by repeat (first | exact LSub.refl | refine LSub.cons (by repeat (first | exact Rem.here | apply Rem.there)) ?_ | apply LSub.skip))⟩
end Go.Proofs.Ytmcmmmaffdenjaa
