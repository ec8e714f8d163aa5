/-
  deliver: byPoint.
-/
import Derived.Test.YtbejfbekamikpaaMaps
import Derived.Test.YtbejfbekamikpaaEngCoreB
namespace Go.Proofs.Ytbejfbekamikpaa
open Go.RowKit Eng
set_option linter.unusedVariables false
set_option linter.unusedSimpArgs false
set_option maxHeartbeats 8000000
attribute [local irreducible] SC SQ J Qt Calls Iterates LSub FSub
theorem lkG_split {α : Type} : ∀ {M : List (Int × α)} {k : Int} {v : α}, lkG M k = some v → ∃ M1 M2, M = M1 ++ (k, v) :: M2 ∧ lkG M1 k = none
  | [], k, v, h => by simp [lkG] at h
  | (k', u) :: M, k, v, h => by
    simp only [lkG] at h
    split at h
    · rename_i hk
      simp only [Option.some.injEq] at h
      subst hk; subst h
      exact ⟨[], M, rfl, rfl⟩
    · rename_i hk
      obtain ⟨M1, M2, rfl, h1⟩ := lkG_split h
      exact ⟨(k', u) :: M1, M2, rfl, by simp only [lkG, if_neg hk]; exact h1⟩
theorem mset_old {α : Type} (f : α → Value) : ∀ (M1 M2 : List (Int × α)) (k : Int) (v u : α), lkG M1 k = none → mset (valsG f (M1 ++ (k, v) :: M2)) k (f u) = valsG f (M1 ++ (k, u) :: M2)
  | [], M2, k, v, u, _ => by simp [valsG, mset]
  | (k', x) :: M1, M2, k, v, u, h => by
    simp only [lkG] at h
    split at h
    · cases h
    · rename_i hk
      have ih := mset_old f M1 M2 k v u h
      simp only [valsG, List.map_cons, List.cons_append, mset, if_neg hk] at ih ⊢
      rw [ih]
theorem lkG_app {α : Type} : ∀ (M1 M2 : List (Int × α)) (k : Int), lkG (M1 ++ M2) k = (match lkG M1 k with | some v => some v | none => lkG M2 k)
  | [], M2, k => rfl
  | (k', x) :: M1, M2, k => by
    simp only [List.cons_append, lkG]
    split
    · rfl
    · exact lkG_app M1 M2 k
abbrev Row := Value × List Ru
abbrev rowsH (M : List (Int × Row)) : List HA := M.map fun q => .own q.2.1 37 5 q.2.2.length (q.2.2.flatMap ruC)
abbrev rowV (r : Row) : Value := r.1
/-- What the map holds behind the first rules. -/
def bpI (l : List Ru) (M : List (Int × Row)) : Prop := ∀ k, ((lkG M k).map (·.2)).getD [] = l.filter (fun x => decide (x.pt = k))
theorem bpI_old {l : List Ru} {M1 M2 : List (Int × Row)} {x : Ru} {v v' : Value} {rs : List Ru} (h : bpI l (M1 ++ (x.pt, (v, rs)) :: M2)) (h1 : lkG M1 x.pt = none) : bpI (l ++ [x]) (M1 ++ (x.pt, (v', rs ++ [x])) :: M2) := by
  intro k
  have hk := h k
  rw [lkG_app] at hk ⊢
  rw [List.filter_append]
  by_cases e : x.pt = k
  · subst e
    rw [h1] at hk ⊢
    simp only [lkG, if_true, Option.map_some, Option.getD_some] at hk ⊢
    rw [← hk]
    simp
  · simp only [lkG, if_neg e] at hk ⊢
    rw [hk]
    simp [e]
theorem bpI_new {l : List Ru} {M : List (Int × Row)} {x : Ru} {v' : Value} (h : bpI l M) (h1 : lkG M x.pt = none) : bpI (l ++ [x]) (M ++ [(x.pt, (v', [x]))]) := by
  intro k
  have hk := h k
  rw [lkG_app]
  rw [List.filter_append]
  by_cases e : x.pt = k
  · subst e
    rw [h1] at hk ⊢
    simp only [lkG, if_true, Option.map_some, Option.getD_some, Option.map_none, Option.getD_none] at hk ⊢
    rw [← hk]
    simp
  · cases hq : lkG M k with
    | some q => rw [hq] at hk; simp only [Option.map_some, Option.getD_some] at hk ⊢; rw [hk]; simp [e]
    | none => rw [hq] at hk; simp only [lkG, if_neg e, Option.map_none, Option.getD_none] at hk ⊢; rw [← hk]; simp [e]
theorem byPoint_c (A : Option Addr) (c : Nat) (l : List Ru) (w : World) (hl : l.length ≤ 1000000) (h : RS w 5 ruC A l) :
    Calls Try.prog 35 #[.slice A l.length c] w fun e w' => ∃ b : Nat × List (Int × Row), bpI l b.2 ∧ e = .returned (.map (some b.1)) ∧ St w Cold (haMap b.1 .i64 (valsG rowV b.2) :: rowsH b.2) w' := by
  generalize hn : l.length = n at *
  refine eng_start (n := 25) (args := [.slice A n c]) tab tab_ok fns fns_ok [.tmp 2] Try.func35 rfl rfl rfl rfl ?_
  repeat' (first | (refine gJ ?_; first | refine js rfl rfl rfl rfl ?_ | (refine gload rfl rfl ?_; refine j_qe rfl rfl rfl ?_; first | refine ⟨_, q_load_own rfl rfl rfl rfl (by (repeat constructor)) (by first | rfl | assumption), ?_⟩ | refine ⟨_, q_loadA_own rfl rfl rfl rfl (by (repeat constructor)) (by rfl), ?_⟩ | refine ⟨_, q_loadA_ext rfl rfl rfl rfl ⟨by assumption, (by first | exact id | assumption)⟩ (by rfl), ?_⟩ | refine ⟨_, q_load_ext rfl rfl rfl rfl ⟨by assumption, (by first | exact id | assumption)⟩ (by first | rfl | assumption), ?_⟩ | refine ⟨_, q_load_extb rfl rfl rfl rfl ⟨by assumption, (by first | exact id | assumption)⟩ (by rfl), ?_⟩ | refine ⟨_, q_loadA_extb rfl rfl rfl rfl ⟨by assumption, (by first | exact id | assumption)⟩ (by rfl), ?_⟩ | refine ⟨_, q_load_ext0 rfl rfl rfl rfl ⟨by assumption, (by first | exact id | assumption)⟩ (by rfl), ?_⟩) | refine jfield rfl rfl rfl rfl rfl rfl rfl rfl ?_ | refine jar rfl rfl rfl rfl rfl rfl rfl (by omega) ?_ | (refine gF ?_; refine j_makeMap .i64 rfl rfl rfl rfl ?_; intro bm) | (refine gF ?_; first | refine j_store rfl rfl rfl rfl rfl rfl rfl rfl (by (repeat constructor)) (by rfl) ?_ | (refine j_alloc rfl rfl rfl rfl rfl ?_; intro b) | (refine j_buildSlice rfl rfl rfl rfl rfl rfl rfl rfl rfl rfl rfl rfl ?_; intro b) | (refine j_append rfl rfl rfl rfl rfl rfl rfl rfl rfl rfl rfl (by (repeat constructor)) (by (repeat constructor)) (by rfl) (by rfl) (by omega) (fun _ => by (repeat constructor)) ?_; intro v)) | (refine j_qe rfl rfl rfl ?_; first | refine ⟨_, q_index_nat rfl rfl rfl rfl rfl (by omega), ?_⟩ | refine ⟨_, q_index_slice rfl rfl rfl rfl rfl (by omega), ?_⟩ | refine ⟨_, q_index_arr rfl rfl rfl rfl rfl (by omega), ?_⟩ | refine ⟨_, q_index_arr_ext rfl rfl rfl rfl rfl (by omega), ?_⟩ | refine ⟨_, q_len_slice rfl rfl rfl rfl, ?_⟩ | refine ⟨_, q_field_ext rfl rfl rfl rfl rfl, ?_⟩ | refine ⟨_, q_addu8 rfl rfl rfl (by omega), ?_⟩)) | (refine gSC ?_; first | refine sc_mv rfl ?_ | refine sc_q rfl ?_ | refine sc_region ?_ | refine sc_draw rfl mixed (by kernel_rfl) ?_) | (refine gSQ ?_; first | refine sq_go rfl ?_ | refine sq_mv rfl ?_ | refine sq_ende (by first | exact .inl rfl | exact .inr rfl) rfl rfl ⟨_, (RVs.cons (RV.tmp rfl) (RVs.nil)), ?_⟩) | refine j_nil ?_ | ((refine sc_cond rfl ?_ ?_) <;> intro hc <;> (first | exact absurd hc (by decide) | ((try simp only [engHC] at hc) <;> first | (exfalso; omega) | exact absurd trivial hc | skip))))
  refine sc_loop (ι := Nat × List (Int × Row)) (fun i => i.1 ≤ n ∧ bpI (l.take i.1) i.2) (fun i => n - i.1) (fun i => [(3, .map (some bm)), (7, .slice A n c), (8, .int .i64 n), (9, .int .i64 i.1)]) (fun i => haMap bm .i64 (valsG rowV i.2) :: rowsH i.2) (0, []) ⟨by omega, fun k => by simp [lkG]⟩ (by repeat (first | exact FSub.nil | refine FSub.cons rfl ?_ | refine FSub.conse rfl (by congr 1; omega) ?_)) (by repeat (first | exact LSub.nil | refine LSub.cons (by repeat (first | exact Rem.here | apply Rem.there)) ?_)) ?_
  rintro ⟨k, M⟩ ⟨hk, hr⟩
  dsimp only at hk hr ⊢
  by_cases hlt : k < n
  · obtain ⟨x, hx⟩ : ∃ x, l[k]? = some x := ⟨_, List.getElem?_eq_getElem (by omega)⟩
    obtain ⟨ad, rfl, hX⟩ := h k x hx
    have hmv := mlk_vals rowV M x.pt
    have htk : l.take (k + 1) = l.take k ++ [x] := by rw [List.take_add_one, hx]; rfl
    cases hlk : lkG M x.pt with
    | some q =>
      obtain ⟨v, rs⟩ := q
      rw [hlk] at hmv
      obtain ⟨M1, M2, rfl, h1⟩ := lkG_split hlk
      have hpm : (rowsH (M1 ++ (x.pt, (v, rs)) :: M2)).Perm (.own v 37 5 rs.length (rs.flatMap ruC) :: (rowsH M1 ++ rowsH M2)) := by
        simp only [rowsH, List.map_append, List.map_cons]
        exact List.perm_middle
      refine sc_perm ((hpm.cons _).trans (List.Perm.swap _ _ _)) ?_
      generalize hT : rowsH M1 ++ rowsH M2 = T
      repeat' (first | (refine gJ ?_; first | refine js rfl rfl rfl rfl ?_ | (refine gload rfl rfl ?_; refine j_qe rfl rfl rfl ?_; first | refine ⟨_, q_load_own rfl rfl rfl rfl (by (repeat constructor)) (by first | rfl | assumption), ?_⟩ | refine ⟨_, q_loadA_own rfl rfl rfl rfl (by (repeat constructor)) (by rfl), ?_⟩ | refine ⟨_, q_loadA_ext rfl rfl rfl rfl ⟨by assumption, (by first | exact id | assumption)⟩ (by rfl), ?_⟩ | refine ⟨_, q_load_ext rfl rfl rfl rfl ⟨by assumption, (by first | exact id | assumption)⟩ (by first | rfl | assumption), ?_⟩ | refine ⟨_, q_load_extb rfl rfl rfl rfl ⟨by assumption, (by first | exact id | assumption)⟩ (by rfl), ?_⟩ | refine ⟨_, q_loadA_extb rfl rfl rfl rfl ⟨by assumption, (by first | exact id | assumption)⟩ (by rfl), ?_⟩ | refine ⟨_, q_load_ext0 rfl rfl rfl rfl ⟨by assumption, (by first | exact id | assumption)⟩ (by rfl), ?_⟩) | refine jfield rfl rfl rfl rfl rfl rfl rfl rfl ?_ | refine jar rfl rfl rfl rfl rfl rfl rfl (by omega) ?_ | (refine gF ?_; first | refine j_store rfl rfl rfl rfl rfl rfl rfl rfl (by (repeat constructor)) (by rfl) ?_ | (refine j_alloc rfl rfl rfl rfl rfl ?_; intro b) | (refine j_buildSlice rfl rfl rfl rfl rfl rfl rfl rfl rfl rfl rfl rfl ?_; intro b) | (refine j_append rfl rfl rfl rfl rfl rfl rfl rfl rfl rfl rfl (by (repeat constructor)) (by (repeat constructor)) (by rfl) (by rfl) (by omega) (fun _ => by (repeat constructor)) ?_; intro v)) | (refine j_qe rfl rfl rfl ?_; first | refine ⟨_, q_index_nat rfl rfl rfl rfl rfl (by omega), ?_⟩ | refine ⟨_, q_index_slice rfl rfl rfl rfl rfl (by omega), ?_⟩ | refine ⟨_, q_index_arr rfl rfl rfl rfl rfl (by omega), ?_⟩ | refine ⟨_, q_index_arr_ext rfl rfl rfl rfl rfl (by omega), ?_⟩ | refine ⟨_, q_len_slice rfl rfl rfl rfl, ?_⟩ | refine ⟨_, q_field_ext rfl rfl rfl rfl rfl, ?_⟩ | refine ⟨_, q_addu8 rfl rfl rfl (by omega), ?_⟩)) | (refine gSC ?_; first | refine sc_mv rfl ?_ | refine sc_q rfl ?_ | refine sc_region ?_ | (refine sc_mixed [.cells b 37 (ruC x)] rfl mixed ?_) | refine sc_draw rfl mixed (by kernel_rfl) ?_) | (refine gSQ ?_; first | refine sq_go rfl ?_ | refine sq_mv rfl ?_ | refine sq_ende (by first | exact .inl rfl | exact .inr rfl) rfl rfl ⟨_, (RVs.cons (RV.tmp rfl) (RVs.nil)), ?_⟩) | refine j_nil ?_ | ((refine sc_cond rfl ?_ ?_) <;> intro hc <;> (first | exact absurd hc (by decide) | ((try simp only [engHC] at hc) <;> first | (exfalso; omega) | exact absurd trivial hc | skip))))
      (refine ja_take 0 rfl (by kernel_rfl) rfl rfl rfl (by repeat (first | exact LSub.nil | refine LSub.cons (by repeat (first | exact Rem.here | apply Rem.there)) ?_)) ?_; refine ⟨_, q_move rfl rfl, ?_⟩)
      (refine ja_take 1 rfl (by kernel_rfl) rfl rfl rfl (by repeat (first | exact LSub.nil | refine LSub.cons (by repeat (first | exact Rem.here | apply Rem.there)) ?_)) ?_; refine ⟨_, q_field_own rfl rfl rfl rfl rfl, ?_⟩)
      (refine ja_take 2 rfl (by kernel_rfl) rfl rfl rfl (by repeat (first | exact LSub.nil | refine LSub.cons (by repeat (first | exact Rem.here | apply Rem.there)) ?_)) ?_; refine ⟨_, q_load_own rfl rfl rfl rfl (by (repeat constructor)) (by first | rfl | assumption), ?_⟩)
      (refine ja_take 3 rfl (by kernel_rfl) rfl rfl rfl (by repeat (first | exact LSub.nil | refine LSub.cons (by repeat (first | exact Rem.here | apply Rem.there)) ?_)) ?_; refine ⟨_, q_move rfl rfl, ?_⟩)
      (refine ja_take 4 rfl (by kernel_rfl) rfl rfl rfl (by repeat (first | exact LSub.nil | refine LSub.cons (by repeat (first | exact Rem.here | apply Rem.there)) ?_)) ?_; refine ⟨_, q_field_own rfl rfl rfl rfl rfl, ?_⟩)
      (refine ja_take 5 rfl (by kernel_rfl) rfl rfl rfl (by repeat (first | exact LSub.nil | refine LSub.cons (by repeat (first | exact Rem.here | apply Rem.there)) ?_)) ?_; refine ⟨_, q_load_own rfl rfl rfl rfl (by (repeat constructor)) (by first | rfl | assumption), ?_⟩)
      (refine ja_take 7 rfl (by kernel_rfl) rfl rfl rfl (by repeat (first | exact LSub.nil | refine LSub.cons (by repeat (first | exact Rem.here | apply Rem.there)) ?_)) ?_; refine ⟨_, q_loadA_own rfl rfl rfl rfl (by (repeat constructor)) (by rfl), ?_⟩)
      have hrl : rs.length ≤ 1000000 := by
        have h9 := hr x.pt
        rw [hlk] at h9
        simp only [Option.map_some, Option.getD_some] at h9
        rw [h9]
        exact Nat.le_trans (List.length_filter_le _ _) (by rw [List.length_take]; omega)
      (refine ja_all [6, 8] (by kernel_rfl) rfl ?_ rfl; intro i hi; simp only [List.mem_cons, List.mem_nil_iff, or_false] at hi; rcases hi with rfl | rfl <;> refine ⟨_, rfl, rfl, ?_⟩)
      · (refine j_qe rfl rfl rfl ?_; refine ⟨_, q_lookup (v := v) rfl rfl rfl rfl rfl rfl rfl rfl (by (repeat constructor)) (by first | (rw [hmv]; done) | (rw [hmv]; rfl)), ?_⟩)
        (refine j_nil ?_; refine sq_next (by repeat (first | exact LSub.nil | refine LSub.cons (by repeat (first | exact Rem.here | apply Rem.there)) ?_)) ?_)
        (refine ja_all [8] (by kernel_rfl) rfl ?_ rfl; intro i hi; simp only [List.mem_cons, List.mem_nil_iff, or_false] at hi; subst hi; refine ⟨_, rfl, rfl, ?_⟩)
        (refine j_buildSlice rfl rfl rfl rfl rfl rfl rfl rfl rfl rfl rfl rfl ?_; intro b8)
        (refine j_nil ?_; refine sq_next (by repeat (first | exact LSub.nil | refine LSub.cons (by repeat (first | exact Rem.here | apply Rem.there)) ?_)) ?_)
        (refine ja_all [9] (by kernel_rfl) rfl ?_ rfl; intro i hi; simp only [List.mem_cons, List.mem_nil_iff, or_false] at hi; subst hi; refine ⟨_, rfl, rfl, ?_⟩)
        (refine j_append rfl rfl rfl rfl rfl rfl rfl rfl rfl rfl rfl (by (repeat constructor)) (by (repeat constructor)) (by rfl) (by rfl) (by omega) (fun _ => by (repeat constructor)) ?_; intro u)
        (refine j_nil ?_; refine sq_next (by repeat (first | exact LSub.nil | refine LSub.cons (by repeat (first | exact Rem.here | apply Rem.there)) ?_)) ?_)
        (refine ja_all [10] (by kernel_rfl) rfl ?_ rfl; intro i hi; simp only [List.mem_cons, List.mem_nil_iff, or_false] at hi; subst hi; refine ⟨_, rfl, rfl, ?_⟩)
        refine j_mapUpdate (v := u) rfl rfl rfl rfl rfl rfl rfl rfl rfl rfl (by (repeat constructor)) ?_
        (refine j_nil ?_; refine sq_next (by repeat (first | exact LSub.nil | refine LSub.cons (by repeat (first | exact Rem.here | apply Rem.there)) ?_)) ?_)
        refine ja_done (by kernel_rfl) ?_
        repeat' (first | (refine gJ ?_; first | refine js rfl rfl rfl rfl ?_ | (refine gload rfl rfl ?_; refine j_qe rfl rfl rfl ?_; first | refine ⟨_, q_load_own rfl rfl rfl rfl (by (repeat constructor)) (by first | rfl | assumption), ?_⟩ | refine ⟨_, q_loadA_own rfl rfl rfl rfl (by (repeat constructor)) (by rfl), ?_⟩ | refine ⟨_, q_loadA_ext rfl rfl rfl rfl ⟨by assumption, (by first | exact id | assumption)⟩ (by rfl), ?_⟩ | refine ⟨_, q_load_ext rfl rfl rfl rfl ⟨by assumption, (by first | exact id | assumption)⟩ (by first | rfl | assumption), ?_⟩ | refine ⟨_, q_load_extb rfl rfl rfl rfl ⟨by assumption, (by first | exact id | assumption)⟩ (by rfl), ?_⟩ | refine ⟨_, q_loadA_extb rfl rfl rfl rfl ⟨by assumption, (by first | exact id | assumption)⟩ (by rfl), ?_⟩ | refine ⟨_, q_load_ext0 rfl rfl rfl rfl ⟨by assumption, (by first | exact id | assumption)⟩ (by rfl), ?_⟩) | refine jfield rfl rfl rfl rfl rfl rfl rfl rfl ?_ | refine jar rfl rfl rfl rfl rfl rfl rfl (by omega) ?_ | (refine gF ?_; first | refine j_store rfl rfl rfl rfl rfl rfl rfl rfl (by (repeat constructor)) (by rfl) ?_ | (refine j_alloc rfl rfl rfl rfl rfl ?_; intro b) | (refine j_buildSlice rfl rfl rfl rfl rfl rfl rfl rfl rfl rfl rfl rfl ?_; intro b) | (refine j_append rfl rfl rfl rfl rfl rfl rfl rfl rfl rfl rfl (by (repeat constructor)) (by (repeat constructor)) (by rfl) (by rfl) (by omega) (fun _ => by (repeat constructor)) ?_; intro v)) | (refine j_qe rfl rfl rfl ?_; first | refine ⟨_, q_index_nat rfl rfl rfl rfl rfl (by omega), ?_⟩ | refine ⟨_, q_index_slice rfl rfl rfl rfl rfl (by omega), ?_⟩ | refine ⟨_, q_index_arr rfl rfl rfl rfl rfl (by omega), ?_⟩ | refine ⟨_, q_index_arr_ext rfl rfl rfl rfl rfl (by omega), ?_⟩ | refine ⟨_, q_len_slice rfl rfl rfl rfl, ?_⟩ | refine ⟨_, q_field_ext rfl rfl rfl rfl rfl, ?_⟩ | refine ⟨_, q_addu8 rfl rfl rfl (by omega), ?_⟩)) | (refine gSC ?_; first | refine sc_mv rfl ?_ | refine sc_q rfl ?_ | refine sc_region ?_ | refine sc_draw rfl mixed (by kernel_rfl) ?_) | (refine gSQ ?_; first | refine sq_go rfl ?_ | refine sq_mv rfl ?_ | refine sq_ende (by first | exact .inl rfl | exact .inr rfl) rfl rfl ⟨_, (RVs.cons (RV.tmp rfl) (RVs.nil)), ?_⟩) | refine j_nil ?_ | ((refine sc_cond rfl ?_ ?_) <;> intro hc <;> (first | exact absurd hc (by decide) | ((try simp only [engHC] at hc) <;> first | (exfalso; omega) | exact absurd trivial hc | skip))))
        refine sq_loop (k + 1, M1 ++ (x.pt, (u, rs ++ [x])) :: M2) ⟨by show k + 1 ≤ n; omega, by show bpI (l.take (k + 1)) _; rw [htk]; exact bpI_old hr h1⟩ (by show n - (k + 1) < n - k; omega) (by repeat (first | exact FSub.nil | refine FSub.cons rfl ?_ | refine FSub.conse rfl (by congr 1; omega) ?_)) ?_
        refine LSub.perm (L' := .own u 37 5 (rs.length + 1) (rs.flatMap ruC ++ ruC x) :: haMap bm .i64 (mset (valsG rowV (M1 ++ (x.pt, (v, rs)) :: M2)) x.pt u) :: T) (LSub.cons (by repeat (first | exact Rem.here | apply Rem.there)) (LSub.cons (by repeat (first | exact Rem.here | apply Rem.there)) (by repeat (first | exact LSub.refl | apply LSub.skip)))) ?_
        rw [mset_old rowV M1 M2 x.pt (v, rs) (u, rs ++ [x]) h1, ← hT]
        refine (List.Perm.swap _ _ _).trans (List.Perm.cons _ ?_)
        simp only [rowsH, List.map_append, List.map_cons, List.length_append, List.length_cons, List.length_nil, List.flatMap_append, List.flatMap_cons, List.flatMap_nil, List.append_nil]
        exact List.perm_middle.symm
      · (refine j_buildSlice rfl rfl rfl rfl rfl rfl rfl rfl rfl rfl rfl rfl ?_; intro b8)
        (refine j_nil ?_; refine sq_next (by repeat (first | exact LSub.nil | refine LSub.cons (by repeat (first | exact Rem.here | apply Rem.there)) ?_)) ?_)
        (refine ja_all [6] (by kernel_rfl) rfl ?_ rfl; intro i hi; simp only [List.mem_cons, List.mem_nil_iff, or_false] at hi; subst hi; refine ⟨_, rfl, rfl, ?_⟩)
        (refine j_qe rfl rfl rfl ?_; refine ⟨_, q_lookup (v := v) rfl rfl rfl rfl rfl rfl rfl rfl (by (repeat constructor)) (by first | (rw [hmv]; done) | (rw [hmv]; rfl)), ?_⟩)
        (refine j_nil ?_; refine sq_next (by repeat (first | exact LSub.nil | refine LSub.cons (by repeat (first | exact Rem.here | apply Rem.there)) ?_)) ?_)
        (refine ja_all [9] (by kernel_rfl) rfl ?_ rfl; intro i hi; simp only [List.mem_cons, List.mem_nil_iff, or_false] at hi; subst hi; refine ⟨_, rfl, rfl, ?_⟩)
        (refine j_append rfl rfl rfl rfl rfl rfl rfl rfl rfl rfl rfl (by (repeat constructor)) (by (repeat constructor)) (by rfl) (by rfl) (by omega) (fun _ => by (repeat constructor)) ?_; intro u)
        (refine j_nil ?_; refine sq_next (by repeat (first | exact LSub.nil | refine LSub.cons (by repeat (first | exact Rem.here | apply Rem.there)) ?_)) ?_)
        (refine ja_all [10] (by kernel_rfl) rfl ?_ rfl; intro i hi; simp only [List.mem_cons, List.mem_nil_iff, or_false] at hi; subst hi; refine ⟨_, rfl, rfl, ?_⟩)
        refine j_mapUpdate (v := u) rfl rfl rfl rfl rfl rfl rfl rfl rfl rfl (by (repeat constructor)) ?_
        (refine j_nil ?_; refine sq_next (by repeat (first | exact LSub.nil | refine LSub.cons (by repeat (first | exact Rem.here | apply Rem.there)) ?_)) ?_)
        refine ja_done (by kernel_rfl) ?_
        repeat' (first | (refine gJ ?_; first | refine js rfl rfl rfl rfl ?_ | (refine gload rfl rfl ?_; refine j_qe rfl rfl rfl ?_; first | refine ⟨_, q_load_own rfl rfl rfl rfl (by (repeat constructor)) (by first | rfl | assumption), ?_⟩ | refine ⟨_, q_loadA_own rfl rfl rfl rfl (by (repeat constructor)) (by rfl), ?_⟩ | refine ⟨_, q_loadA_ext rfl rfl rfl rfl ⟨by assumption, (by first | exact id | assumption)⟩ (by rfl), ?_⟩ | refine ⟨_, q_load_ext rfl rfl rfl rfl ⟨by assumption, (by first | exact id | assumption)⟩ (by first | rfl | assumption), ?_⟩ | refine ⟨_, q_load_extb rfl rfl rfl rfl ⟨by assumption, (by first | exact id | assumption)⟩ (by rfl), ?_⟩ | refine ⟨_, q_loadA_extb rfl rfl rfl rfl ⟨by assumption, (by first | exact id | assumption)⟩ (by rfl), ?_⟩ | refine ⟨_, q_load_ext0 rfl rfl rfl rfl ⟨by assumption, (by first | exact id | assumption)⟩ (by rfl), ?_⟩) | refine jfield rfl rfl rfl rfl rfl rfl rfl rfl ?_ | refine jar rfl rfl rfl rfl rfl rfl rfl (by omega) ?_ | (refine gF ?_; first | refine j_store rfl rfl rfl rfl rfl rfl rfl rfl (by (repeat constructor)) (by rfl) ?_ | (refine j_alloc rfl rfl rfl rfl rfl ?_; intro b) | (refine j_buildSlice rfl rfl rfl rfl rfl rfl rfl rfl rfl rfl rfl rfl ?_; intro b) | (refine j_append rfl rfl rfl rfl rfl rfl rfl rfl rfl rfl rfl (by (repeat constructor)) (by (repeat constructor)) (by rfl) (by rfl) (by omega) (fun _ => by (repeat constructor)) ?_; intro v)) | (refine j_qe rfl rfl rfl ?_; first | refine ⟨_, q_index_nat rfl rfl rfl rfl rfl (by omega), ?_⟩ | refine ⟨_, q_index_slice rfl rfl rfl rfl rfl (by omega), ?_⟩ | refine ⟨_, q_index_arr rfl rfl rfl rfl rfl (by omega), ?_⟩ | refine ⟨_, q_index_arr_ext rfl rfl rfl rfl rfl (by omega), ?_⟩ | refine ⟨_, q_len_slice rfl rfl rfl rfl, ?_⟩ | refine ⟨_, q_field_ext rfl rfl rfl rfl rfl, ?_⟩ | refine ⟨_, q_addu8 rfl rfl rfl (by omega), ?_⟩)) | (refine gSC ?_; first | refine sc_mv rfl ?_ | refine sc_q rfl ?_ | refine sc_region ?_ | refine sc_draw rfl mixed (by kernel_rfl) ?_) | (refine gSQ ?_; first | refine sq_go rfl ?_ | refine sq_mv rfl ?_ | refine sq_ende (by first | exact .inl rfl | exact .inr rfl) rfl rfl ⟨_, (RVs.cons (RV.tmp rfl) (RVs.nil)), ?_⟩) | refine j_nil ?_ | ((refine sc_cond rfl ?_ ?_) <;> intro hc <;> (first | exact absurd hc (by decide) | ((try simp only [engHC] at hc) <;> first | (exfalso; omega) | exact absurd trivial hc | skip))))
        refine sq_loop (k + 1, M1 ++ (x.pt, (u, rs ++ [x])) :: M2) ⟨by show k + 1 ≤ n; omega, by show bpI (l.take (k + 1)) _; rw [htk]; exact bpI_old hr h1⟩ (by show n - (k + 1) < n - k; omega) (by repeat (first | exact FSub.nil | refine FSub.cons rfl ?_ | refine FSub.conse rfl (by congr 1; omega) ?_)) ?_
        refine LSub.perm (L' := .own u 37 5 (rs.length + 1) (rs.flatMap ruC ++ ruC x) :: haMap bm .i64 (mset (valsG rowV (M1 ++ (x.pt, (v, rs)) :: M2)) x.pt u) :: T) (LSub.cons (by repeat (first | exact Rem.here | apply Rem.there)) (LSub.cons (by repeat (first | exact Rem.here | apply Rem.there)) (by repeat (first | exact LSub.refl | apply LSub.skip)))) ?_
        rw [mset_old rowV M1 M2 x.pt (v, rs) (u, rs ++ [x]) h1, ← hT]
        refine (List.Perm.swap _ _ _).trans (List.Perm.cons _ ?_)
        simp only [rowsH, List.map_append, List.map_cons, List.length_append, List.length_cons, List.length_nil, List.flatMap_append, List.flatMap_cons, List.flatMap_nil, List.append_nil]
        exact List.perm_middle.symm
    | none =>
      rw [hlk] at hmv
      generalize hT : rowsH M = T
      repeat' (first | (refine gJ ?_; first | refine js rfl rfl rfl rfl ?_ | (refine gload rfl rfl ?_; refine j_qe rfl rfl rfl ?_; first | refine ⟨_, q_load_own rfl rfl rfl rfl (by (repeat constructor)) (by first | rfl | assumption), ?_⟩ | refine ⟨_, q_loadA_own rfl rfl rfl rfl (by (repeat constructor)) (by rfl), ?_⟩ | refine ⟨_, q_loadA_ext rfl rfl rfl rfl ⟨by assumption, (by first | exact id | assumption)⟩ (by rfl), ?_⟩ | refine ⟨_, q_load_ext rfl rfl rfl rfl ⟨by assumption, (by first | exact id | assumption)⟩ (by first | rfl | assumption), ?_⟩ | refine ⟨_, q_load_extb rfl rfl rfl rfl ⟨by assumption, (by first | exact id | assumption)⟩ (by rfl), ?_⟩ | refine ⟨_, q_loadA_extb rfl rfl rfl rfl ⟨by assumption, (by first | exact id | assumption)⟩ (by rfl), ?_⟩ | refine ⟨_, q_load_ext0 rfl rfl rfl rfl ⟨by assumption, (by first | exact id | assumption)⟩ (by rfl), ?_⟩) | refine jfield rfl rfl rfl rfl rfl rfl rfl rfl ?_ | refine jar rfl rfl rfl rfl rfl rfl rfl (by omega) ?_ | (refine gF ?_; first | refine j_store rfl rfl rfl rfl rfl rfl rfl rfl (by (repeat constructor)) (by rfl) ?_ | (refine j_alloc rfl rfl rfl rfl rfl ?_; intro b) | (refine j_buildSlice rfl rfl rfl rfl rfl rfl rfl rfl rfl rfl rfl rfl ?_; intro b) | (refine j_append rfl rfl rfl rfl rfl rfl rfl rfl rfl rfl rfl (by (repeat constructor)) (by (repeat constructor)) (by rfl) (by rfl) (by omega) (fun _ => by (repeat constructor)) ?_; intro v)) | (refine j_qe rfl rfl rfl ?_; first | refine ⟨_, q_index_nat rfl rfl rfl rfl rfl (by omega), ?_⟩ | refine ⟨_, q_index_slice rfl rfl rfl rfl rfl (by omega), ?_⟩ | refine ⟨_, q_index_arr rfl rfl rfl rfl rfl (by omega), ?_⟩ | refine ⟨_, q_index_arr_ext rfl rfl rfl rfl rfl (by omega), ?_⟩ | refine ⟨_, q_len_slice rfl rfl rfl rfl, ?_⟩ | refine ⟨_, q_field_ext rfl rfl rfl rfl rfl, ?_⟩ | refine ⟨_, q_addu8 rfl rfl rfl (by omega), ?_⟩)) | (refine gSC ?_; first | refine sc_mv rfl ?_ | refine sc_q rfl ?_ | refine sc_region ?_ | (refine sc_mixed [.cells b 37 (ruC x)] rfl mixed ?_) | refine sc_draw rfl mixed (by kernel_rfl) ?_) | (refine gSQ ?_; first | refine sq_go rfl ?_ | refine sq_mv rfl ?_ | refine sq_ende (by first | exact .inl rfl | exact .inr rfl) rfl rfl ⟨_, (RVs.cons (RV.tmp rfl) (RVs.nil)), ?_⟩) | refine j_nil ?_ | ((refine sc_cond rfl ?_ ?_) <;> intro hc <;> (first | exact absurd hc (by decide) | ((try simp only [engHC] at hc) <;> first | (exfalso; omega) | exact absurd trivial hc | skip))))
      (refine ja_take 0 rfl (by kernel_rfl) rfl rfl rfl (by repeat (first | exact LSub.nil | refine LSub.cons (by repeat (first | exact Rem.here | apply Rem.there)) ?_)) ?_; refine ⟨_, q_move rfl rfl, ?_⟩)
      (refine ja_take 1 rfl (by kernel_rfl) rfl rfl rfl (by repeat (first | exact LSub.nil | refine LSub.cons (by repeat (first | exact Rem.here | apply Rem.there)) ?_)) ?_; refine ⟨_, q_field_own rfl rfl rfl rfl rfl, ?_⟩)
      (refine ja_take 2 rfl (by kernel_rfl) rfl rfl rfl (by repeat (first | exact LSub.nil | refine LSub.cons (by repeat (first | exact Rem.here | apply Rem.there)) ?_)) ?_; refine ⟨_, q_load_own rfl rfl rfl rfl (by (repeat constructor)) (by first | rfl | assumption), ?_⟩)
      (refine ja_take 3 rfl (by kernel_rfl) rfl rfl rfl (by repeat (first | exact LSub.nil | refine LSub.cons (by repeat (first | exact Rem.here | apply Rem.there)) ?_)) ?_; refine ⟨_, q_move rfl rfl, ?_⟩)
      (refine ja_take 4 rfl (by kernel_rfl) rfl rfl rfl (by repeat (first | exact LSub.nil | refine LSub.cons (by repeat (first | exact Rem.here | apply Rem.there)) ?_)) ?_; refine ⟨_, q_field_own rfl rfl rfl rfl rfl, ?_⟩)
      (refine ja_take 5 rfl (by kernel_rfl) rfl rfl rfl (by repeat (first | exact LSub.nil | refine LSub.cons (by repeat (first | exact Rem.here | apply Rem.there)) ?_)) ?_; refine ⟨_, q_load_own rfl rfl rfl rfl (by (repeat constructor)) (by first | rfl | assumption), ?_⟩)
      (refine ja_take 7 rfl (by kernel_rfl) rfl rfl rfl (by repeat (first | exact LSub.nil | refine LSub.cons (by repeat (first | exact Rem.here | apply Rem.there)) ?_)) ?_; refine ⟨_, q_loadA_own rfl rfl rfl rfl (by (repeat constructor)) (by rfl), ?_⟩)
      (refine ja_all [6, 8] (by kernel_rfl) rfl ?_ rfl; intro i hi; simp only [List.mem_cons, List.mem_nil_iff, or_false] at hi; rcases hi with rfl | rfl <;> refine ⟨_, rfl, rfl, ?_⟩)
      · (refine j_qe rfl rfl rfl ?_; refine ⟨_, q_lookup (v := .slice none 0 0) rfl rfl rfl rfl rfl rfl rfl rfl (by (repeat constructor)) (by first | (rw [hmv]; done) | (rw [hmv]; rfl)), ?_⟩)
        (refine j_nil ?_; refine sq_next (by repeat (first | exact LSub.nil | refine LSub.cons (by repeat (first | exact Rem.here | apply Rem.there)) ?_)) ?_)
        (refine ja_all [8] (by kernel_rfl) rfl ?_ rfl; intro i hi; simp only [List.mem_cons, List.mem_nil_iff, or_false] at hi; subst hi; refine ⟨_, rfl, rfl, ?_⟩)
        (refine j_buildSlice rfl rfl rfl rfl rfl rfl rfl rfl rfl rfl rfl rfl ?_; intro b8)
        (refine j_nil ?_; refine sq_next (by repeat (first | exact LSub.nil | refine LSub.cons (by repeat (first | exact Rem.here | apply Rem.there)) ?_)) ?_)
        (refine ja_all [9] (by kernel_rfl) rfl ?_ rfl; intro i hi; simp only [List.mem_cons, List.mem_nil_iff, or_false] at hi; subst hi; refine ⟨_, rfl, rfl, ?_⟩)
        refine j_own_nil 37 5 ?_
        (refine j_append rfl rfl rfl rfl rfl rfl rfl rfl rfl rfl rfl (by (repeat constructor)) (by (repeat constructor)) (by rfl) (by rfl) (by omega) (fun _ => by (repeat constructor)) ?_; intro u)
        (refine j_nil ?_; refine sq_next (by repeat (first | exact LSub.nil | refine LSub.cons (by repeat (first | exact Rem.here | apply Rem.there)) ?_)) ?_)
        (refine ja_all [10] (by kernel_rfl) rfl ?_ rfl; intro i hi; simp only [List.mem_cons, List.mem_nil_iff, or_false] at hi; subst hi; refine ⟨_, rfl, rfl, ?_⟩)
        refine j_mapUpdate (v := u) rfl rfl rfl rfl rfl rfl rfl rfl rfl rfl (by (repeat constructor)) ?_
        (refine j_nil ?_; refine sq_next (by repeat (first | exact LSub.nil | refine LSub.cons (by repeat (first | exact Rem.here | apply Rem.there)) ?_)) ?_)
        refine ja_done (by kernel_rfl) ?_
        repeat' (first | (refine gJ ?_; first | refine js rfl rfl rfl rfl ?_ | (refine gload rfl rfl ?_; refine j_qe rfl rfl rfl ?_; first | refine ⟨_, q_load_own rfl rfl rfl rfl (by (repeat constructor)) (by first | rfl | assumption), ?_⟩ | refine ⟨_, q_loadA_own rfl rfl rfl rfl (by (repeat constructor)) (by rfl), ?_⟩ | refine ⟨_, q_loadA_ext rfl rfl rfl rfl ⟨by assumption, (by first | exact id | assumption)⟩ (by rfl), ?_⟩ | refine ⟨_, q_load_ext rfl rfl rfl rfl ⟨by assumption, (by first | exact id | assumption)⟩ (by first | rfl | assumption), ?_⟩ | refine ⟨_, q_load_extb rfl rfl rfl rfl ⟨by assumption, (by first | exact id | assumption)⟩ (by rfl), ?_⟩ | refine ⟨_, q_loadA_extb rfl rfl rfl rfl ⟨by assumption, (by first | exact id | assumption)⟩ (by rfl), ?_⟩ | refine ⟨_, q_load_ext0 rfl rfl rfl rfl ⟨by assumption, (by first | exact id | assumption)⟩ (by rfl), ?_⟩) | refine jfield rfl rfl rfl rfl rfl rfl rfl rfl ?_ | refine jar rfl rfl rfl rfl rfl rfl rfl (by omega) ?_ | (refine gF ?_; first | refine j_store rfl rfl rfl rfl rfl rfl rfl rfl (by (repeat constructor)) (by rfl) ?_ | (refine j_alloc rfl rfl rfl rfl rfl ?_; intro b) | (refine j_buildSlice rfl rfl rfl rfl rfl rfl rfl rfl rfl rfl rfl rfl ?_; intro b) | (refine j_append rfl rfl rfl rfl rfl rfl rfl rfl rfl rfl rfl (by (repeat constructor)) (by (repeat constructor)) (by rfl) (by rfl) (by omega) (fun _ => by (repeat constructor)) ?_; intro v)) | (refine j_qe rfl rfl rfl ?_; first | refine ⟨_, q_index_nat rfl rfl rfl rfl rfl (by omega), ?_⟩ | refine ⟨_, q_index_slice rfl rfl rfl rfl rfl (by omega), ?_⟩ | refine ⟨_, q_index_arr rfl rfl rfl rfl rfl (by omega), ?_⟩ | refine ⟨_, q_index_arr_ext rfl rfl rfl rfl rfl (by omega), ?_⟩ | refine ⟨_, q_len_slice rfl rfl rfl rfl, ?_⟩ | refine ⟨_, q_field_ext rfl rfl rfl rfl rfl, ?_⟩ | refine ⟨_, q_addu8 rfl rfl rfl (by omega), ?_⟩)) | (refine gSC ?_; first | refine sc_mv rfl ?_ | refine sc_q rfl ?_ | refine sc_region ?_ | refine sc_draw rfl mixed (by kernel_rfl) ?_) | (refine gSQ ?_; first | refine sq_go rfl ?_ | refine sq_mv rfl ?_ | refine sq_ende (by first | exact .inl rfl | exact .inr rfl) rfl rfl ⟨_, (RVs.cons (RV.tmp rfl) (RVs.nil)), ?_⟩) | refine j_nil ?_ | ((refine sc_cond rfl ?_ ?_) <;> intro hc <;> (first | exact absurd hc (by decide) | ((try simp only [engHC] at hc) <;> first | (exfalso; omega) | exact absurd trivial hc | skip))))
        refine sq_loop (k + 1, M ++ [(x.pt, (u, [x]))]) ⟨by show k + 1 ≤ n; omega, by show bpI (l.take (k + 1)) _; rw [htk]; exact bpI_new hr hlk⟩ (by show n - (k + 1) < n - k; omega) (by repeat (first | exact FSub.nil | refine FSub.cons rfl ?_ | refine FSub.conse rfl (by congr 1; omega) ?_)) ?_
        refine LSub.perm (L' := .own u 37 5 1 (ruC x) :: haMap bm .i64 (mset (valsG rowV M) x.pt u) :: T) (LSub.cons (by repeat (first | exact Rem.here | apply Rem.there)) (LSub.cons (by repeat (first | exact Rem.here | apply Rem.there)) (by repeat (first | exact LSub.refl | apply LSub.skip)))) ?_
        rw [show mset (valsG rowV M) x.pt u = valsG rowV (M ++ [(x.pt, (u, [x]))]) from mset_new rowV M x.pt (u, [x]) hlk, ← hT]
        refine (List.Perm.swap _ _ _).trans (List.Perm.cons _ ?_)
        simp only [rowsH, List.map_append, List.map_cons, List.map_nil, List.length_cons, List.length_nil, List.flatMap_cons, List.flatMap_nil, List.append_nil]
        exact (List.perm_append_comm (l₁ := [_])).trans (List.Perm.refl _)
      · (refine j_buildSlice rfl rfl rfl rfl rfl rfl rfl rfl rfl rfl rfl rfl ?_; intro b8)
        (refine j_nil ?_; refine sq_next (by repeat (first | exact LSub.nil | refine LSub.cons (by repeat (first | exact Rem.here | apply Rem.there)) ?_)) ?_)
        (refine ja_all [6] (by kernel_rfl) rfl ?_ rfl; intro i hi; simp only [List.mem_cons, List.mem_nil_iff, or_false] at hi; subst hi; refine ⟨_, rfl, rfl, ?_⟩)
        (refine j_qe rfl rfl rfl ?_; refine ⟨_, q_lookup (v := .slice none 0 0) rfl rfl rfl rfl rfl rfl rfl rfl (by (repeat constructor)) (by first | (rw [hmv]; done) | (rw [hmv]; rfl)), ?_⟩)
        (refine j_nil ?_; refine sq_next (by repeat (first | exact LSub.nil | refine LSub.cons (by repeat (first | exact Rem.here | apply Rem.there)) ?_)) ?_)
        (refine ja_all [9] (by kernel_rfl) rfl ?_ rfl; intro i hi; simp only [List.mem_cons, List.mem_nil_iff, or_false] at hi; subst hi; refine ⟨_, rfl, rfl, ?_⟩)
        refine j_own_nil 37 5 ?_
        (refine j_append rfl rfl rfl rfl rfl rfl rfl rfl rfl rfl rfl (by (repeat constructor)) (by (repeat constructor)) (by rfl) (by rfl) (by omega) (fun _ => by (repeat constructor)) ?_; intro u)
        (refine j_nil ?_; refine sq_next (by repeat (first | exact LSub.nil | refine LSub.cons (by repeat (first | exact Rem.here | apply Rem.there)) ?_)) ?_)
        (refine ja_all [10] (by kernel_rfl) rfl ?_ rfl; intro i hi; simp only [List.mem_cons, List.mem_nil_iff, or_false] at hi; subst hi; refine ⟨_, rfl, rfl, ?_⟩)
        refine j_mapUpdate (v := u) rfl rfl rfl rfl rfl rfl rfl rfl rfl rfl (by (repeat constructor)) ?_
        (refine j_nil ?_; refine sq_next (by repeat (first | exact LSub.nil | refine LSub.cons (by repeat (first | exact Rem.here | apply Rem.there)) ?_)) ?_)
        refine ja_done (by kernel_rfl) ?_
        repeat' (first | (refine gJ ?_; first | refine js rfl rfl rfl rfl ?_ | (refine gload rfl rfl ?_; refine j_qe rfl rfl rfl ?_; first | refine ⟨_, q_load_own rfl rfl rfl rfl (by (repeat constructor)) (by first | rfl | assumption), ?_⟩ | refine ⟨_, q_loadA_own rfl rfl rfl rfl (by (repeat constructor)) (by rfl), ?_⟩ | refine ⟨_, q_loadA_ext rfl rfl rfl rfl ⟨by assumption, (by first | exact id | assumption)⟩ (by rfl), ?_⟩ | refine ⟨_, q_load_ext rfl rfl rfl rfl ⟨by assumption, (by first | exact id | assumption)⟩ (by first | rfl | assumption), ?_⟩ | refine ⟨_, q_load_extb rfl rfl rfl rfl ⟨by assumption, (by first | exact id | assumption)⟩ (by rfl), ?_⟩ | refine ⟨_, q_loadA_extb rfl rfl rfl rfl ⟨by assumption, (by first | exact id | assumption)⟩ (by rfl), ?_⟩ | refine ⟨_, q_load_ext0 rfl rfl rfl rfl ⟨by assumption, (by first | exact id | assumption)⟩ (by rfl), ?_⟩) | refine jfield rfl rfl rfl rfl rfl rfl rfl rfl ?_ | refine jar rfl rfl rfl rfl rfl rfl rfl (by omega) ?_ | (refine gF ?_; first | refine j_store rfl rfl rfl rfl rfl rfl rfl rfl (by (repeat constructor)) (by rfl) ?_ | (refine j_alloc rfl rfl rfl rfl rfl ?_; intro b) | (refine j_buildSlice rfl rfl rfl rfl rfl rfl rfl rfl rfl rfl rfl rfl ?_; intro b) | (refine j_append rfl rfl rfl rfl rfl rfl rfl rfl rfl rfl rfl (by (repeat constructor)) (by (repeat constructor)) (by rfl) (by rfl) (by omega) (fun _ => by (repeat constructor)) ?_; intro v)) | (refine j_qe rfl rfl rfl ?_; first | refine ⟨_, q_index_nat rfl rfl rfl rfl rfl (by omega), ?_⟩ | refine ⟨_, q_index_slice rfl rfl rfl rfl rfl (by omega), ?_⟩ | refine ⟨_, q_index_arr rfl rfl rfl rfl rfl (by omega), ?_⟩ | refine ⟨_, q_index_arr_ext rfl rfl rfl rfl rfl (by omega), ?_⟩ | refine ⟨_, q_len_slice rfl rfl rfl rfl, ?_⟩ | refine ⟨_, q_field_ext rfl rfl rfl rfl rfl, ?_⟩ | refine ⟨_, q_addu8 rfl rfl rfl (by omega), ?_⟩)) | (refine gSC ?_; first | refine sc_mv rfl ?_ | refine sc_q rfl ?_ | refine sc_region ?_ | refine sc_draw rfl mixed (by kernel_rfl) ?_) | (refine gSQ ?_; first | refine sq_go rfl ?_ | refine sq_mv rfl ?_ | refine sq_ende (by first | exact .inl rfl | exact .inr rfl) rfl rfl ⟨_, (RVs.cons (RV.tmp rfl) (RVs.nil)), ?_⟩) | refine j_nil ?_ | ((refine sc_cond rfl ?_ ?_) <;> intro hc <;> (first | exact absurd hc (by decide) | ((try simp only [engHC] at hc) <;> first | (exfalso; omega) | exact absurd trivial hc | skip))))
        refine sq_loop (k + 1, M ++ [(x.pt, (u, [x]))]) ⟨by show k + 1 ≤ n; omega, by show bpI (l.take (k + 1)) _; rw [htk]; exact bpI_new hr hlk⟩ (by show n - (k + 1) < n - k; omega) (by repeat (first | exact FSub.nil | refine FSub.cons rfl ?_ | refine FSub.conse rfl (by congr 1; omega) ?_)) ?_
        refine LSub.perm (L' := .own u 37 5 1 (ruC x) :: haMap bm .i64 (mset (valsG rowV M) x.pt u) :: T) (LSub.cons (by repeat (first | exact Rem.here | apply Rem.there)) (LSub.cons (by repeat (first | exact Rem.here | apply Rem.there)) (by repeat (first | exact LSub.refl | apply LSub.skip)))) ?_
        rw [show mset (valsG rowV M) x.pt u = valsG rowV (M ++ [(x.pt, (u, [x]))]) from mset_new rowV M x.pt (u, [x]) hlk, ← hT]
        refine (List.Perm.swap _ _ _).trans (List.Perm.cons _ ?_)
        simp only [rowsH, List.map_append, List.map_cons, List.map_nil, List.length_cons, List.length_nil, List.flatMap_cons, List.flatMap_nil, List.append_nil]
        exact (List.perm_append_comm (l₁ := [_])).trans (List.Perm.refl _)
  · repeat' (first | (refine gJ ?_; first | refine js rfl rfl rfl rfl ?_ | (refine gload rfl rfl ?_; refine j_qe rfl rfl rfl ?_; first | refine ⟨_, q_load_own rfl rfl rfl rfl (by (repeat constructor)) (by first | rfl | assumption), ?_⟩ | refine ⟨_, q_loadA_own rfl rfl rfl rfl (by (repeat constructor)) (by rfl), ?_⟩ | refine ⟨_, q_loadA_ext rfl rfl rfl rfl ⟨by assumption, (by first | exact id | assumption)⟩ (by rfl), ?_⟩ | refine ⟨_, q_load_ext rfl rfl rfl rfl ⟨by assumption, (by first | exact id | assumption)⟩ (by first | rfl | assumption), ?_⟩ | refine ⟨_, q_load_extb rfl rfl rfl rfl ⟨by assumption, (by first | exact id | assumption)⟩ (by rfl), ?_⟩ | refine ⟨_, q_loadA_extb rfl rfl rfl rfl ⟨by assumption, (by first | exact id | assumption)⟩ (by rfl), ?_⟩ | refine ⟨_, q_load_ext0 rfl rfl rfl rfl ⟨by assumption, (by first | exact id | assumption)⟩ (by rfl), ?_⟩) | refine jfield rfl rfl rfl rfl rfl rfl rfl rfl ?_ | refine jar rfl rfl rfl rfl rfl rfl rfl (by omega) ?_ | (refine gF ?_; first | refine j_store rfl rfl rfl rfl rfl rfl rfl rfl (by (repeat constructor)) (by rfl) ?_ | (refine j_alloc rfl rfl rfl rfl rfl ?_; intro b) | (refine j_buildSlice rfl rfl rfl rfl rfl rfl rfl rfl rfl rfl rfl rfl ?_; intro b) | (refine j_append rfl rfl rfl rfl rfl rfl rfl rfl rfl rfl rfl (by (repeat constructor)) (by (repeat constructor)) (by rfl) (by rfl) (by omega) (fun _ => by (repeat constructor)) ?_; intro v)) | (refine j_qe rfl rfl rfl ?_; first | refine ⟨_, q_index_nat rfl rfl rfl rfl rfl (by omega), ?_⟩ | refine ⟨_, q_index_slice rfl rfl rfl rfl rfl (by omega), ?_⟩ | refine ⟨_, q_index_arr rfl rfl rfl rfl rfl (by omega), ?_⟩ | refine ⟨_, q_index_arr_ext rfl rfl rfl rfl rfl (by omega), ?_⟩ | refine ⟨_, q_len_slice rfl rfl rfl rfl, ?_⟩ | refine ⟨_, q_field_ext rfl rfl rfl rfl rfl, ?_⟩ | refine ⟨_, q_addu8 rfl rfl rfl (by omega), ?_⟩)) | (refine gSC ?_; first | refine sc_mv rfl ?_ | refine sc_q rfl ?_ | refine sc_region ?_ | refine sc_draw rfl mixed (by kernel_rfl) ?_) | (refine gSQ ?_; first | refine sq_go rfl ?_ | refine sq_mv rfl ?_ | refine sq_ende (by first | exact .inl rfl | exact .inr rfl) rfl rfl ⟨_, (RVs.cons (RV.tmp rfl) (RVs.nil)), ?_⟩) | refine j_nil ?_ | ((refine sc_cond rfl ?_ ?_) <;> intro hc <;> (first | exact absurd hc (by decide) | ((try simp only [engHC] at hc) <;> first | (exfalso; omega) | exact absurd trivial hc | skip))))
    rw [List.take_of_length_le (by omega)] at hr
    intro w' hS
    exact ⟨(bm, M), hr, rfl, hS⟩
end Go.Proofs.Ytbejfbekamikpaa
