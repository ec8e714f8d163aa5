/-
  claim: numbers within their limits, the order of standards, Right.
-/
import Derived.Test.YtmakokbpadmfbaaGreatNat2
import Derived.Test.YtmakokbpadmfbaaGreatSta4
import Derived.Test.YtmakokbpadmfbaaGreatEngCoreB
namespace Go.Proofs.YtmakokbpadmfbaaGreat
open Go.RowKit Eng
set_option linter.unusedVariables false
set_option linter.unusedSimpArgs false
set_option maxHeartbeats 8000000
attribute [local irreducible] SC SQ J Qt Calls Iterates LSub FSub
abbrev int1 (x : Int) : List Value := [.int .i64 x]
theorem drop_cons {α : Type} {l : List α} {k : Nat} {x : α} (h : l[k]? = some x) : l.drop k = x :: l.drop (k + 1) := by
  obtain ⟨hlt, hx⟩ := List.getElem?_eq_some_iff.1 h
  rw [List.drop_eq_getElem_cons hlt, hx]
def cmpI (a b : Int) : Int := if a < b then -1 else if b < a then 1 else 0
def orF : List Int → Int
  | [] => 0
  | x :: l => if x = 0 then orF l else x
theorem isNaN8_c (n : Int) (w : World) : Calls Tryz.prog 117 #[.int .u8 n] w fun e w' => e = .returned (.bool false) ∧ Below w.heap.size w w' := by
  refine eng_start (n := 6) (args := [.int .u8 n]) tab tab_ok fns fns_ok [.tmp 2] Tryz.func117 rfl rfl rfl rfl ?_
  repeat' (first | (refine gJ ?_; refine js rfl rfl rfl rfl ?_) | (refine gSC ?_; first | refine sc_mv rfl ?_ | refine sc_q rfl ?_ | refine sc_region ?_) | (refine gSQ ?_; first | refine sq_go rfl ?_ | refine sq_ende (by first | exact .inl rfl | exact .inr rfl) rfl rfl ⟨_, (RVs.cons (RV.tmp rfl) (RVs.nil)), ?_⟩) | refine j_nil ?_)
  all_goals ((intro w' hS; refine ⟨?_, hS.below⟩; simp only [pack]); exact rb (by simp))
theorem isNaN_c (n : Int) (w : World) : Calls Tryz.prog 118 #[.int .i64 n] w fun e w' => e = .returned (.bool false) ∧ Below w.heap.size w w' := by
  refine eng_start (n := 6) (args := [.int .i64 n]) tab tab_ok fns fns_ok [.tmp 2] Tryz.func118 rfl rfl rfl rfl ?_
  repeat' (first | (refine gJ ?_; refine js rfl rfl rfl rfl ?_) | (refine gSC ?_; first | refine sc_mv rfl ?_ | refine sc_q rfl ?_ | refine sc_region ?_) | (refine gSQ ?_; first | refine sq_go rfl ?_ | refine sq_ende (by first | exact .inl rfl | exact .inr rfl) rfl rfl ⟨_, (RVs.cons (RV.tmp rfl) (RVs.nil)), ?_⟩) | refine j_nil ?_)
  all_goals ((intro w' hS; refine ⟨?_, hS.below⟩; simp only [pack]); exact rb (by simp))
theorem cmp8_c (a c : Int) (w : World) : Calls Tryz.prog 95 #[.int .u8 a, .int .u8 c] w fun e w' => e = .returned (.int .i64 (cmpI a c)) ∧ Below w.heap.size w w' := by
  refine eng_start (n := 20) (args := [.int .u8 a, .int .u8 c]) tab tab_ok fns fns_ok [.tmp 4] Tryz.func95 rfl rfl rfl rfl ?_
  repeat' (first | (refine gJ ?_; first | refine js rfl rfl rfl rfl ?_ | (refine gcall rfl rfl ?_; (refine j_qc (f := 117) rfl rfl rfl rfl rfl rfl rfl ?_; refine ⟨_, (fun w' _ => isNaN8_c _ w'), ?_⟩))) | (refine gSC ?_; first | refine sc_mv rfl ?_ | refine sc_q rfl ?_ | refine sc_region ?_) | (refine gSQ ?_; first | refine sq_go rfl ?_ | refine sq_mv rfl ?_ | refine sq_ende (by first | exact .inl rfl | exact .inr rfl) rfl rfl ⟨_, (RVs.cons (RV.tmp rfl) (RVs.nil)), ?_⟩) | refine j_nil ?_ | ((refine sc_cond rfl ?_ ?_) <;> intro hc <;> (first | exact absurd hc (by decide) | ((try simp only [engHC] at hc) <;> skip))))
  all_goals ((intro w' hS; refine ⟨?_, hS.below⟩; simp only [pack]); first | done | exact ri (by unfold cmpI; (repeat' split) <;> omega))
theorem cmpI_c (a c : Int) (w : World) : Calls Tryz.prog 96 #[.int .i64 a, .int .i64 c] w fun e w' => e = .returned (.int .i64 (cmpI a c)) ∧ Below w.heap.size w w' := by
  refine eng_start (n := 20) (args := [.int .i64 a, .int .i64 c]) tab tab_ok fns fns_ok [.tmp 4] Tryz.func96 rfl rfl rfl rfl ?_
  repeat' (first | (refine gJ ?_; first | refine js rfl rfl rfl rfl ?_ | (refine gcall rfl rfl ?_; (refine j_qc (f := 118) rfl rfl rfl rfl rfl rfl rfl ?_; refine ⟨_, (fun w' _ => isNaN_c _ w'), ?_⟩))) | (refine gSC ?_; first | refine sc_mv rfl ?_ | refine sc_q rfl ?_ | refine sc_region ?_) | (refine gSQ ?_; first | refine sq_go rfl ?_ | refine sq_mv rfl ?_ | refine sq_ende (by first | exact .inl rfl | exact .inr rfl) rfl rfl ⟨_, (RVs.cons (RV.tmp rfl) (RVs.nil)), ?_⟩) | refine j_nil ?_ | ((refine sc_cond rfl ?_ ?_) <;> intro hc <;> (first | exact absurd hc (by decide) | ((try simp only [engHC] at hc) <;> skip))))
  all_goals ((intro w' hS; refine ⟨?_, hS.below⟩; simp only [pack]); first | done | exact ri (by unfold cmpI; (repeat' split) <;> omega))
theorem or_c (A : Option Addr) (c : Nat) (l : List Int) (w : World) (hl : l.length ≤ 9223372036854775807) (h : RS w 1 int1 A l) : Calls Tryz.prog 94 #[.slice A l.length c] w fun e w' => e = .returned (.int .i64 (orF l)) ∧ Below w.heap.size w w' := by
  generalize hn : l.length = n at *
  refine eng_start (n := 18) (args := [.slice A n c]) tab tab_ok fns fns_ok [.tmp 2] Tryz.func94 rfl rfl rfl rfl ?_
  repeat' (first | (refine gJ ?_; first | refine js rfl rfl rfl rfl ?_ | (refine j_qe rfl rfl rfl ?_; refine ⟨_, q_len_slice rfl rfl rfl rfl, ?_⟩)) | (refine gSC ?_; first | refine sc_mv rfl ?_ | refine sc_region ?_) | (refine gSQ ?_; refine sq_go rfl ?_) | refine j_nil ?_)
  refine sc_loop (ι := Nat) (fun i => i ≤ n ∧ orF l = orF (l.drop i)) (fun i => n - i) (fun i => [(3, .int .i64 0), (6, .slice A n c), (7, .int .i64 n), (8, .int .i64 i)]) (fun _ => []) 0 ⟨by omega, rfl⟩ (by repeat (first | exact FSub.nil | refine FSub.cons rfl ?_ | refine FSub.conse rfl (by congr 1; omega) ?_)) (by repeat (first | exact LSub.nil | refine LSub.cons (by repeat (first | exact Rem.here | apply Rem.there)) ?_)) ?_
  rintro i ⟨hi, hr⟩
  by_cases hlt : i < n
  · obtain ⟨x, hx⟩ : ∃ x, l[i]? = some x := ⟨_, List.getElem?_eq_getElem (by omega)⟩
    obtain ⟨ad, rfl, hX⟩ := h i x hx
    rw [drop_cons hx, orF] at hr
    repeat' (first | (refine gJ ?_; first | refine js rfl rfl rfl rfl ?_ | (refine gload rfl rfl ?_; refine j_qe rfl rfl rfl ?_; refine ⟨_, q_load_ext0 rfl rfl rfl rfl ⟨by assumption, (by first | exact id | assumption)⟩ (by rfl), ?_⟩) | refine jar rfl rfl rfl rfl rfl rfl rfl (by omega) ?_ | (refine j_qe rfl rfl rfl ?_; refine ⟨_, q_index_nat rfl rfl rfl rfl rfl (by omega), ?_⟩)) | (refine gSC ?_; first | refine sc_mv rfl ?_ | refine sc_q rfl ?_ | refine sc_region ?_) | (refine gSQ ?_; first | refine sq_go rfl ?_ | refine sq_mv rfl ?_ | refine sq_ende (by first | exact .inl rfl | exact .inr rfl) rfl rfl ⟨_, (RVs.cons (RV.tmp rfl) (RVs.nil)), ?_⟩) | refine j_nil ?_ | ((refine sc_cond rfl ?_ ?_) <;> intro hc <;> (((try simp only [engHC] at hc) <;> first | (exfalso; omega) | skip))))
    · (intro w' hS; refine ⟨?_, hS.below⟩; simp only [pack])
      exact ri (by rw [hr, if_neg (by omega)])
    · exact sq_loop (i + 1) ⟨by show i + 1 ≤ n; omega, by rw [hr, if_pos (by omega)]⟩ (by show n - (i + 1) < n - i; omega) (by repeat (first | exact FSub.nil | refine FSub.cons rfl ?_ | refine FSub.conse rfl (by congr 1; omega) ?_)) (by repeat (first | exact LSub.nil | refine LSub.cons (by repeat (first | exact Rem.here | apply Rem.there)) ?_))
  · repeat' (first | (refine gJ ?_; refine js rfl rfl rfl rfl ?_) | (refine gSC ?_; first | refine sc_mv rfl ?_ | refine sc_q rfl ?_ | refine sc_region ?_) | (refine gSQ ?_; first | refine sq_go rfl ?_ | refine sq_mv rfl ?_ | refine sq_ende (by first | exact .inl rfl | exact .inr rfl) rfl rfl ⟨_, (RVs.cons (RV.tmp rfl) (RVs.nil)), ?_⟩) | refine j_nil ?_ | ((refine sc_cond rfl ?_ ?_) <;> intro hc <;> (((try simp only [engHC] at hc) <;> first | (exfalso; omega) | skip))))
    rw [List.drop_of_length_le (by omega)] at hr
    (intro w' hS; refine ⟨?_, hS.below⟩; simp only [pack])
    exact ri (by rw [hr]; rfl)
structure Sd where
  cl : Int
  fr : Int
  to : Int
  mi : Int
deriving Inhabited, DecidableEq
abbrev sdC (x : Sd) : List Value := [.int .u8 x.cl, .int .i64 x.fr, .int .i64 x.to, .int .i64 x.mi]
abbrev sdV (x : Sd) : Value := .agg (sdC x).toArray
def sdCmp (x y : Sd) : Int := orF [cmpI x.cl y.cl, cmpI x.fr y.fr, cmpI x.to y.to]
theorem sdcmp_c (x y : Sd) (w : World) : Calls Tryz.prog 76 #[sdV x, sdV y] w fun e w' => e = .returned (.int .i64 (sdCmp x y)) ∧ Below w.heap.size w w' := by
  refine eng_start (n := 22) (args := [sdV x, sdV y]) tab tab_ok fns fns_ok [.tmp 4] Tryz.func76 rfl rfl rfl rfl ?_
  repeat' (first | (refine gJ ?_; first | refine js rfl rfl rfl rfl ?_ | (refine gload rfl rfl ?_; refine j_qe rfl rfl rfl ?_; refine ⟨_, q_load_own rfl rfl rfl rfl (by (repeat constructor)) (by first | rfl | assumption), ?_⟩) | refine jfield rfl rfl rfl rfl rfl rfl rfl rfl ?_ | (refine gcall rfl rfl ?_; first | (refine j_qc (f := 95) rfl rfl rfl rfl rfl rfl rfl ?_; refine ⟨_, (fun w' _ => cmp8_c _ _ w'), ?_⟩) | (refine j_qc (f := 96) rfl rfl rfl rfl rfl rfl rfl ?_; refine ⟨_, (fun w' _ => cmpI_c _ _ w'), ?_⟩) | (refine j_qc (f := 94) rfl rfl rfl rfl rfl rfl rfl ?_; refine ⟨_, (fun w' hs => or_c (some ⟨b, 0, none⟩) 3 [cmpI x.cl y.cl, cmpI x.fr y.fr, cmpI x.to y.to] w' (by simp) (rs_lit (f := int1) _ (fun _ => rfl) hs (by (repeat constructor)) rfl)), ?_⟩)) | (refine gF ?_; first | (refine j_box rfl rfl rfl rfl rfl ?_; intro b) | (refine j_buildSlice rfl rfl rfl rfl rfl rfl rfl rfl rfl rfl rfl rfl ?_; intro b))) | (refine gSC ?_; first | refine sc_mv rfl ?_ | refine sc_q rfl ?_ | refine sc_region ?_ | refine sc_auto 1 (.q 0 (.q 1 (.q 2 (.q 3 (.q 4 (.q 5 (.q 6 (.q 7 (.q 8 (.q 9 (.q 10 (.q 11 (.q 12 (.q 13 (.q 14 (.e 15 (.e 16 (.q 17 (.z))))))))))))))))))) mixed ?_) | (refine gJG ?_; first | refine jg_q rfl (by kernel_rfl) ?_ | refine jg_e (by kernel_rfl) rfl ?_ | refine jg_done (by kernel_rfl) ?_) | (refine gSQ ?_; first | refine jg_next ?_ | (refine gFE ?_; first | refine jg_next0 ?_ | refine jg_next1 ?_) | refine sq_go rfl ?_ | refine sq_ende (by first | exact .inl rfl | exact .inr rfl) rfl rfl ⟨_, (RVs.cons (RV.tmp rfl) (RVs.nil)), ?_⟩) | refine j_nil ?_)
  (intro w' hS; refine ⟨?_, hS.below⟩; simp only [pack])
  exact ri rfl
structure Lm where
  n : Int
  lo : Int
  hi : Int
deriving Inhabited, DecidableEq
abbrev lmC (x : Lm) : List Value := [.int .i64 x.n, .int .i64 x.lo, .int .i64 x.hi]
abbrev lmV (x : Lm) : Value := .agg (lmC x).toArray
def idL (n : Int) : Lm := ⟨n, 1, 999999⟩
def withinL (l : List Lm) : Bool := l.all fun x => decide (x.lo ≤ x.n ∧ x.n ≤ x.hi)
theorem id_c (n : Int) (w : World) : Calls Tryz.prog 75 #[.int .i64 n] w fun e w' => e = .returned (lmV (idL n)) ∧ Below w.heap.size w w' := by
  refine eng_start (n := 5) (args := [.int .i64 n]) tab tab_ok fns fns_ok [.cell 2 119] Tryz.func75 rfl rfl rfl rfl ?_
  repeat' (first | (refine gJ ?_; first | refine js rfl rfl rfl rfl ?_ | (refine gF ?_; first | refine j_store rfl rfl rfl rfl rfl rfl rfl rfl (by (repeat constructor)) (by rfl) ?_ | (refine j_alloc rfl rfl rfl rfl rfl ?_; intro b)) | (refine j_qe rfl rfl rfl ?_; refine ⟨_, q_build_struct rfl rfl rfl rfl rfl, ?_⟩)) | (refine gSC ?_; first | refine sc_mv rfl ?_ | refine sc_q rfl ?_ | refine sc_region ?_) | (refine gSQ ?_; first | refine sq_go rfl ?_ | refine sq_ende (by first | exact .inl rfl | exact .inr rfl) rfl rfl ⟨_, (RVs.cons (by first | exact RV.cell rfl rfl rfl (by (repeat constructor)) (by rfl) | exact RV.cellA rfl rfl rfl (by (repeat constructor)) (by rfl)) (RVs.nil)), ?_⟩) | refine j_nil ?_)
  (intro w' hS; refine ⟨?_, hS.below⟩; simp only [pack])
  rfl
theorem within_c (A : Option Addr) (c : Nat) (l : List Lm) (w : World) (hl : l.length ≤ 9223372036854775807) (h : RS w 3 lmC A l) : Calls Tryz.prog 74 #[.slice A l.length c] w fun e w' => e = .returned (.bool (withinL l)) ∧ Below w.heap.size w w' := by
  generalize hn : l.length = n at *
  refine eng_start (n := 24) (args := [.slice A n c]) tab tab_ok fns fns_ok [.tmp 2] Tryz.func74 rfl rfl rfl rfl ?_
  repeat' (first | (refine gJ ?_; first | refine js rfl rfl rfl rfl ?_ | (refine j_qe rfl rfl rfl ?_; refine ⟨_, q_len_slice rfl rfl rfl rfl, ?_⟩)) | (refine gSC ?_; first | refine sc_mv rfl ?_ | refine sc_region ?_) | (refine gSQ ?_; refine sq_go rfl ?_) | refine j_nil ?_)
  refine sc_loop (ι := Nat) (fun i => i ≤ n ∧ withinL l = withinL (l.drop i)) (fun i => n - i) (fun i => [(5, .slice A n c), (6, .int .i64 n), (7, .int .i64 i)]) (fun _ => []) 0 ⟨by omega, rfl⟩ (by repeat (first | exact FSub.nil | refine FSub.cons rfl ?_ | refine FSub.conse rfl (by congr 1; omega) ?_)) (by repeat (first | exact LSub.nil | refine LSub.cons (by repeat (first | exact Rem.here | apply Rem.there)) ?_)) ?_
  rintro i ⟨hi, hr⟩
  by_cases hlt : i < n
  · obtain ⟨x, hx⟩ : ∃ x, l[i]? = some x := ⟨_, List.getElem?_eq_getElem (by omega)⟩
    obtain ⟨ad, rfl, hX⟩ := h i x hx
    rw [drop_cons hx] at hr
    have hr : withinL l = (decide (x.lo ≤ x.n ∧ x.n ≤ x.hi) && withinL (l.drop (i + 1))) := hr
    by_cases hxx : x.lo ≤ x.n ∧ x.n ≤ x.hi
    · rw [decide_eq_true hxx, Bool.true_and] at hr
      repeat' (first | (refine gJ ?_; first | refine js rfl rfl rfl rfl ?_ | (refine gload rfl rfl ?_; refine j_qe rfl rfl rfl ?_; first | refine ⟨_, q_load_own rfl rfl rfl rfl (by (repeat constructor)) (by first | rfl | assumption), ?_⟩ | refine ⟨_, q_loadA_ext rfl rfl rfl rfl ⟨by assumption, (by first | exact id | assumption)⟩ (by rfl), ?_⟩) | refine jfield rfl rfl rfl rfl rfl rfl rfl rfl ?_ | refine jar rfl rfl rfl rfl rfl rfl rfl (by omega) ?_ | (refine gF ?_; first | refine j_store rfl rfl rfl rfl rfl rfl rfl rfl (by (repeat constructor)) (by rfl) ?_ | (refine j_alloc rfl rfl rfl rfl rfl ?_; intro b)) | (refine j_qe rfl rfl rfl ?_; refine ⟨_, q_index_nat rfl rfl rfl rfl rfl (by omega), ?_⟩)) | (refine gSC ?_; first | refine sc_mv rfl ?_ | refine sc_q rfl ?_ | refine sc_region ?_) | (refine gSQ ?_; first | refine sq_go rfl ?_ | refine sq_mv rfl ?_) | refine j_nil ?_ | ((first | refine j_guard rfl rfl rfl rfl rfl ?_ ?_ | refine sc_cond rfl ?_ ?_) <;> intro hc <;> (first | exact absurd hc (by decide) | ((try simp only [engHC] at hc) <;> first | (exfalso; omega) | skip))))
      exact sq_loop (i + 1) ⟨by show i + 1 ≤ n; omega, hr⟩ (by show n - (i + 1) < n - i; omega) (by repeat (first | exact FSub.nil | refine FSub.cons rfl ?_ | refine FSub.conse rfl (by congr 1; omega) ?_)) (by repeat (first | exact LSub.refl | refine LSub.cons (by repeat (first | exact Rem.here | apply Rem.there)) ?_ | apply LSub.skip))
    · rw [decide_eq_false hxx, Bool.false_and] at hr
      repeat' (first | (refine gJ ?_; first | refine js rfl rfl rfl rfl ?_ | (refine gload rfl rfl ?_; refine j_qe rfl rfl rfl ?_; first | refine ⟨_, q_load_own rfl rfl rfl rfl (by (repeat constructor)) (by first | rfl | assumption), ?_⟩ | refine ⟨_, q_loadA_ext rfl rfl rfl rfl ⟨by assumption, (by first | exact id | assumption)⟩ (by rfl), ?_⟩) | refine jfield rfl rfl rfl rfl rfl rfl rfl rfl ?_ | (refine gF ?_; first | refine j_store rfl rfl rfl rfl rfl rfl rfl rfl (by (repeat constructor)) (by rfl) ?_ | (refine j_alloc rfl rfl rfl rfl rfl ?_; intro b)) | (refine j_qe rfl rfl rfl ?_; refine ⟨_, q_index_nat rfl rfl rfl rfl rfl (by omega), ?_⟩)) | (refine gSC ?_; first | refine sc_mv rfl ?_ | refine sc_q rfl ?_ | refine sc_region ?_) | (refine gSQ ?_; first | refine sq_go rfl ?_ | refine sq_mv rfl ?_ | refine sq_ende (by first | exact .inl rfl | exact .inr rfl) rfl rfl ⟨_, (RVs.cons (RV.tmp rfl) (RVs.nil)), ?_⟩) | refine j_nil ?_ | ((first | refine j_guard rfl rfl rfl rfl rfl ?_ ?_ | refine sc_cond rfl ?_ ?_) <;> intro hc <;> (first | exact absurd hc (by decide) | ((try simp only [engHC] at hc) <;> first | (exfalso; omega) | skip))))
      all_goals ((intro w' hS; refine ⟨?_, hS.below⟩; simp only [pack]); exact rb hr.symm)
  · repeat' (first | (refine gJ ?_; refine js rfl rfl rfl rfl ?_) | (refine gSC ?_; first | refine sc_mv rfl ?_ | refine sc_q rfl ?_ | refine sc_region ?_) | (refine gSQ ?_; first | refine sq_go rfl ?_ | refine sq_mv rfl ?_ | refine sq_ende (by first | exact .inl rfl | exact .inr rfl) rfl rfl ⟨_, (RVs.cons (RV.tmp rfl) (RVs.nil)), ?_⟩) | refine j_nil ?_ | ((refine sc_cond rfl ?_ ?_) <;> intro hc <;> (((try simp only [engHC] at hc) <;> first | (exfalso; omega) | skip))))
    rw [List.drop_of_length_le (by omega)] at hr
    (intro w' hS; refine ⟨?_, hS.below⟩; simp only [pack])
    exact rb hr.symm
/-- A standard by itself. -/
def okSd (x : Sd) : Prop := 1 ≤ x.cl ∧ 1 ≤ x.fr ∧ x.fr ≤ 999999 ∧ 1 ≤ x.to ∧ x.to ≤ 999999 ∧ 0 ≤ x.mi ∧ x.mi ≤ 100000
instance (x : Sd) : Decidable (okSd x) := by unfold okSd; exact inferInstance
def okAtB (l : List Sd) (i : Nat) : Bool := match l[i]? with
  | some x => decide (okSd x) && (if i = 0 then true else match l[i - 1]? with
    | some y => decide (sdCmp y x < 0)
    | none => true)
  | none => true
def sdsB (l : List Sd) : Bool := decide (l.length ≤ 500) && (List.range l.length).all (okAtB l)
theorem sdsB_no {l : List Sd} {i : Nat} (hi : i < l.length) (h : okAtB l i = false) : sdsB l = false := by
  unfold sdsB
  have : (List.range l.length).all (okAtB l) = false := List.all_eq_false.2 ⟨i, List.mem_range.2 hi, by rw [h]; decide⟩
  rw [this, Bool.and_false]
set_option maxHeartbeats 8000000 in
theorem Right_c (A : Option Addr) (c : Nat) (l : List Sd) (w : World) (hl : l.length ≤ 9223372036854775807) (h : RS w 4 sdC A l) : Calls Tryz.prog 44 #[.slice A l.length c] w fun e w' => e = .returned (.bool (sdsB l)) ∧ Below w.heap.size w w' := by
  have hno := fun i => sdsB_no (l := l) (i := i)
  have hyes : l.length ≤ 500 → (List.range l.length).all (okAtB l) = true → sdsB l = true := fun h1 h2 => by unfold sdsB; rw [decide_eq_true h1, h2]; rfl
  have hmany : ¬ l.length ≤ 500 → sdsB l = false := fun h1 => by unfold sdsB; rw [decide_eq_false h1]; rfl
  generalize hR : sdsB l = R at *
  clear hR
  generalize hn : l.length = n at *
  refine eng_start (n := 45) (args := [.slice A n c]) tab tab_ok fns fns_ok [.tmp 2] Tryz.func44 rfl rfl rfl rfl ?_
  repeat' (first | (refine gJ ?_; first | refine js rfl rfl rfl rfl ?_ | (refine j_qe rfl rfl rfl ?_; refine ⟨_, q_len_slice rfl rfl rfl rfl, ?_⟩)) | (refine gSC ?_; first | refine sc_mv rfl ?_ | refine sc_q rfl ?_ | refine sc_region ?_) | (refine gSQ ?_; first | refine sq_go rfl ?_ | refine sq_mv rfl ?_ | refine sq_ende (by first | exact .inl rfl | exact .inr rfl) rfl rfl ⟨_, (RVs.cons (RV.tmp rfl) (RVs.nil)), ?_⟩) | refine j_nil ?_ | ((refine sc_cond rfl ?_ ?_) <;> intro hc <;> (((try simp only [engHC] at hc) <;> skip))))
  · (intro w' hS; refine ⟨?_, hS.below⟩; simp only [pack])
    exact rb (hmany (by omega)).symm
  refine sc_loop (ι := Nat) (fun i => i ≤ n ∧ (List.range i).all (okAtB l) = true) (fun i => n - i) (fun i => [(0, .slice A n c), (8, .slice A n c), (9, .int .i64 n), (10, .int .i64 i)]) (fun _ => []) 0 ⟨by omega, rfl⟩ (by (try dsimp only); exact (by repeat (first | exact FSub.nil | refine FSub.cons rfl ?_ | refine FSub.conse rfl (by congr 1; omega) ?_))) (by repeat (first | exact LSub.refl | refine LSub.cons (by repeat (first | exact Rem.here | apply Rem.there)) ?_ | apply LSub.skip)) ?_
  rintro i ⟨hi, hr⟩
  dsimp only at hi hr ⊢
  by_cases hlt : i < n
  · obtain ⟨x, hx⟩ : ∃ x, l[i]? = some x := ⟨_, List.getElem?_eq_getElem (by omega)⟩
    obtain ⟨ad, rfl, hX⟩ := h i x hx
    have hat : okAtB l i = (decide (okSd x) && (if i = 0 then true else match l[i - 1]? with
      | some y => decide (sdCmp y x < 0)
      | none => true)) := by unfold okAtB; rw [hx]
    have hnext : okAtB l i = true → (List.range (i + 1)).all (okAtB l) = true := fun h1 => by
      rw [List.range_succ, List.all_append, hr]; simp [h1]
    have hwi : withinL [idL x.fr, idL x.to, ⟨x.mi, 0, 100000⟩] = decide (1 ≤ x.fr ∧ x.fr ≤ 999999 ∧ 1 ≤ x.to ∧ x.to ≤ 999999 ∧ 0 ≤ x.mi ∧ x.mi ≤ 100000) := by
      simp only [withinL, idL, List.all_cons, List.all_nil, Bool.and_true]
      rw [Bool.eq_iff_iff]
      simp only [Bool.and_eq_true, decide_eq_true_eq]
      omega
    by_cases hok : okSd x
    · have hok' := hok
      unfold okSd at hok'
      rw [decide_eq_true hok, Bool.true_and] at hat
      rw [decide_eq_true (by omega)] at hwi
      by_cases hi0 : i = 0
      · subst hi0
        rw [if_pos rfl] at hat
        repeat' (first | (refine gJ ?_; first | refine js rfl rfl rfl rfl ?_ | (refine gload rfl rfl ?_; refine j_qe rfl rfl rfl ?_; first | refine ⟨_, q_load_own rfl rfl rfl rfl (by (repeat constructor)) (by first | rfl | assumption), ?_⟩ | refine ⟨_, q_loadA_ext rfl rfl rfl rfl ⟨by assumption, (by first | exact id | assumption)⟩ (by rfl), ?_⟩) | refine jfield rfl rfl rfl rfl rfl rfl rfl rfl ?_ | refine jar rfl rfl rfl rfl rfl rfl rfl (by omega) ?_ | (refine gcall rfl rfl ?_; first | (refine j_qc (f := 75) rfl rfl rfl rfl rfl rfl rfl ?_; refine ⟨_, (fun w' _ => id_c _ w'), ?_⟩) | (refine j_qc (f := 74) rfl rfl rfl rfl rfl rfl rfl ?_; refine ⟨_, (fun w' hs => hwi ▸ within_c (some ⟨b, 0, none⟩) 3 [idL x.fr, idL x.to, ⟨x.mi, 0, 100000⟩] w' (by simp) (rs_lit (f := lmC) _ (fun _ => rfl) hs (by (repeat constructor)) rfl)), ?_⟩)) | (refine gF ?_; first | refine j_store rfl rfl rfl rfl rfl rfl rfl rfl (by (repeat constructor)) (by rfl) ?_ | (refine j_alloc rfl rfl rfl rfl rfl ?_; intro b) | (refine j_buildSlice rfl rfl rfl rfl rfl rfl rfl rfl rfl rfl rfl rfl ?_; intro b)) | (refine j_qe rfl rfl rfl ?_; first | refine ⟨_, q_index_nat rfl rfl rfl rfl rfl (by omega), ?_⟩ | refine ⟨_, q_build_struct rfl rfl rfl rfl rfl, ?_⟩)) | (refine gSC ?_; first | refine sc_mv rfl ?_ | refine sc_q rfl ?_ | refine sc_region ?_ | refine sc_auto 6 (.q 0 (.q 1 (.q 2 (.q 3 (.q 4 (.q 5 (.q 6 (.q 7 (.q 8 (.q 9 (.q 10 (.q 11 (.q 12 (.e 13 (.e 14 (.q 15 (.q 16 (.z)))))))))))))))))) mixed ?_ | refine sc_draw rfl mixed (by kernel_rfl) ?_) | (refine gJG ?_; first | refine jg_q rfl (by kernel_rfl) ?_ | refine jg_e (by kernel_rfl) rfl ?_ | refine jg_done (by kernel_rfl) ?_) | (refine gSQ ?_; first | refine jg_next ?_ | (refine gFE ?_; first | refine jg_next0 ?_ | refine jg_next1 ?_) | refine sq_go rfl ?_ | refine sq_mv rfl ?_) | refine j_nil ?_ | ((first | refine j_guard rfl rfl rfl rfl rfl ?_ ?_ | refine sc_cond rfl ?_ ?_) <;> intro hc <;> (first | exact absurd hc (by decide) | ((try simp only [engHC] at hc) <;> first | (exfalso; omega) | skip))))
        exact sq_loop 1 ⟨by show 1 ≤ n; omega, hnext hat⟩ (by show n - 1 < n - 0; omega) (by (try dsimp only); exact (by repeat (first | exact FSub.nil | refine FSub.cons rfl ?_ | refine FSub.conse rfl (by congr 1; omega) ?_))) (by repeat (first | exact LSub.refl | refine LSub.cons (by repeat (first | exact Rem.here | apply Rem.there)) ?_ | apply LSub.skip))
      · rw [if_neg hi0] at hat
        obtain ⟨y, hy⟩ : ∃ y, l[i - 1]? = some y := ⟨_, List.getElem?_eq_getElem (by omega)⟩
        obtain ⟨_, e9, hY⟩ := h (i - 1) y hy
        cases e9
        rw [hy] at hat
        dsimp only at hat
        repeat' (first | (refine gJ ?_; first | refine js rfl rfl rfl rfl ?_ | (refine gload rfl rfl ?_; refine j_qe rfl rfl rfl ?_; first | refine ⟨_, q_load_own rfl rfl rfl rfl (by (repeat constructor)) (by first | rfl | assumption), ?_⟩ | refine ⟨_, q_loadA_own rfl rfl rfl rfl (by (repeat constructor)) (by rfl), ?_⟩ | refine ⟨_, q_loadA_ext rfl rfl rfl rfl ⟨by assumption, (by first | exact id | assumption)⟩ (by rfl), ?_⟩) | refine jfield rfl rfl rfl rfl rfl rfl rfl rfl ?_ | refine jar rfl rfl rfl rfl rfl rfl rfl (by omega) ?_ | (refine gcall rfl rfl ?_; first | (refine j_qc (f := 75) rfl rfl rfl rfl rfl rfl rfl ?_; refine ⟨_, (fun w' _ => id_c _ w'), ?_⟩) | (refine j_qc (f := 74) rfl rfl rfl rfl rfl rfl rfl ?_; refine ⟨_, (fun w' hs => hwi ▸ within_c (some ⟨b, 0, none⟩) 3 [idL x.fr, idL x.to, ⟨x.mi, 0, 100000⟩] w' (by simp) (rs_lit (f := lmC) _ (fun _ => rfl) hs (by (repeat constructor)) rfl)), ?_⟩) | (refine j_qc (f := 76) rfl rfl rfl rfl rfl rfl rfl ?_; refine ⟨_, (fun w' _ => sdcmp_c _ _ w'), ?_⟩)) | (refine j_qe rfl rfl rfl ?_; refine ⟨_, q_index_at (i - 1) rfl rfl rfl rfl rfl (by omega), ?_⟩) | (refine gF ?_; first | refine j_store rfl rfl rfl rfl rfl rfl rfl rfl (by (repeat constructor)) (by rfl) ?_ | (refine j_alloc rfl rfl rfl rfl rfl ?_; intro b) | (refine j_buildSlice rfl rfl rfl rfl rfl rfl rfl rfl rfl rfl rfl rfl ?_; intro b)) | (refine j_qe rfl rfl rfl ?_; first | refine ⟨_, q_index_nat rfl rfl rfl rfl rfl (by omega), ?_⟩ | refine ⟨_, q_build_struct rfl rfl rfl rfl rfl, ?_⟩)) | (refine gSC ?_; first | refine sc_mv rfl ?_ | refine sc_q rfl ?_ | refine sc_region ?_ | refine sc_auto 6 (.q 0 (.q 1 (.q 2 (.q 3 (.q 4 (.q 5 (.q 6 (.q 7 (.q 8 (.q 9 (.q 10 (.q 11 (.q 12 (.e 13 (.e 14 (.q 15 (.q 16 (.z)))))))))))))))))) mixed ?_ | refine sc_draw rfl mixed (by kernel_rfl) ?_) | (refine gJG ?_; first | refine jg_q rfl (by kernel_rfl) ?_ | refine jg_e (by kernel_rfl) rfl ?_ | refine jg_done (by kernel_rfl) ?_) | (refine gSQ ?_; first | refine jg_next ?_ | (refine gFE ?_; first | refine jg_next0 ?_ | refine jg_next1 ?_) | refine sq_go rfl ?_ | refine sq_mv rfl ?_ | refine sq_ende (by first | exact .inl rfl | exact .inr rfl) rfl rfl ⟨_, (RVs.cons (RV.tmp rfl) (RVs.nil)), ?_⟩) | refine j_nil ?_ | ((first | refine j_guard rfl rfl rfl rfl rfl ?_ ?_ | refine sc_cond rfl ?_ ?_) <;> intro hc <;> (first | exact absurd hc (by decide) | ((try simp only [engHC] at hc) <;> first | (exfalso; omega) | skip))))
        · (intro w' hS; refine ⟨?_, hS.below⟩; simp only [pack])
          exact rb (hno i hlt (by rw [hat]; simp; omega)).symm
        · exact sq_loop (i + 1) ⟨by show i + 1 ≤ n; omega, hnext (by rw [hat]; simp; omega)⟩ (by show n - (i + 1) < n - i; omega) (by (try dsimp only); exact (by repeat (first | exact FSub.nil | refine FSub.cons rfl ?_ | refine FSub.conse rfl (by congr 1; omega) ?_))) (by repeat (first | exact LSub.refl | refine LSub.cons (by repeat (first | exact Rem.here | apply Rem.there)) ?_ | apply LSub.skip))
    · have hok' := hok
      unfold okSd at hok'
      rw [decide_eq_false hok, Bool.false_and] at hat
      by_cases hcl : x.cl < 1
      · repeat' (first | (refine gJ ?_; first | refine js rfl rfl rfl rfl ?_ | (refine gload rfl rfl ?_; refine j_qe rfl rfl rfl ?_; first | refine ⟨_, q_load_own rfl rfl rfl rfl (by (repeat constructor)) (by first | rfl | assumption), ?_⟩ | refine ⟨_, q_loadA_ext rfl rfl rfl rfl ⟨by assumption, (by first | exact id | assumption)⟩ (by rfl), ?_⟩) | refine jfield rfl rfl rfl rfl rfl rfl rfl rfl ?_ | (refine gF ?_; first | refine j_store rfl rfl rfl rfl rfl rfl rfl rfl (by (repeat constructor)) (by rfl) ?_ | (refine j_alloc rfl rfl rfl rfl rfl ?_; intro b)) | (refine j_qe rfl rfl rfl ?_; refine ⟨_, q_index_nat rfl rfl rfl rfl rfl (by omega), ?_⟩)) | (refine gSC ?_; first | refine sc_mv rfl ?_ | refine sc_q rfl ?_ | refine sc_region ?_ | refine sc_draw rfl mixed (by kernel_rfl) ?_) | (refine gSQ ?_; first | refine sq_go rfl ?_ | refine sq_mv rfl ?_ | refine sq_ende (by first | exact .inl rfl | exact .inr rfl) rfl rfl ⟨_, (RVs.cons (RV.tmp rfl) (RVs.nil)), ?_⟩) | refine j_nil ?_ | ((first | refine j_guard rfl rfl rfl rfl rfl ?_ ?_ | refine sc_cond rfl ?_ ?_) <;> intro hc <;> (first | exact absurd hc (by decide) | ((try simp only [engHC] at hc) <;> first | (exfalso; omega) | skip))))
        (intro w' hS; refine ⟨?_, hS.below⟩; simp only [pack])
        exact rb (hno i hlt hat).symm
      · rw [decide_eq_false (by omega)] at hwi
        repeat' (first | (refine gJ ?_; first | refine js rfl rfl rfl rfl ?_ | (refine gload rfl rfl ?_; refine j_qe rfl rfl rfl ?_; first | refine ⟨_, q_load_own rfl rfl rfl rfl (by (repeat constructor)) (by first | rfl | assumption), ?_⟩ | refine ⟨_, q_loadA_ext rfl rfl rfl rfl ⟨by assumption, (by first | exact id | assumption)⟩ (by rfl), ?_⟩) | refine jfield rfl rfl rfl rfl rfl rfl rfl rfl ?_ | (refine gcall rfl rfl ?_; first | (refine j_qc (f := 75) rfl rfl rfl rfl rfl rfl rfl ?_; refine ⟨_, (fun w' _ => id_c _ w'), ?_⟩) | (refine j_qc (f := 74) rfl rfl rfl rfl rfl rfl rfl ?_; refine ⟨_, (fun w' hs => hwi ▸ within_c (some ⟨b, 0, none⟩) 3 [idL x.fr, idL x.to, ⟨x.mi, 0, 100000⟩] w' (by simp) (rs_lit (f := lmC) _ (fun _ => rfl) hs (by (repeat constructor)) rfl)), ?_⟩)) | (refine gF ?_; first | refine j_store rfl rfl rfl rfl rfl rfl rfl rfl (by (repeat constructor)) (by rfl) ?_ | (refine j_alloc rfl rfl rfl rfl rfl ?_; intro b) | (refine j_buildSlice rfl rfl rfl rfl rfl rfl rfl rfl rfl rfl rfl rfl ?_; intro b)) | (refine j_qe rfl rfl rfl ?_; first | refine ⟨_, q_index_nat rfl rfl rfl rfl rfl (by omega), ?_⟩ | refine ⟨_, q_build_struct rfl rfl rfl rfl rfl, ?_⟩)) | (refine gSC ?_; first | refine sc_mv rfl ?_ | refine sc_q rfl ?_ | refine sc_region ?_ | refine sc_auto 6 (.q 0 (.q 1 (.q 2 (.q 3 (.q 4 (.q 5 (.q 6 (.q 7 (.q 8 (.q 9 (.q 10 (.q 11 (.q 12 (.e 13 (.e 14 (.q 15 (.q 16 (.z)))))))))))))))))) mixed ?_) | (refine gJG ?_; first | refine jg_q rfl (by kernel_rfl) ?_ | refine jg_e (by kernel_rfl) rfl ?_ | refine jg_done (by kernel_rfl) ?_) | (refine gSQ ?_; first | refine jg_next ?_ | (refine gFE ?_; first | refine jg_next0 ?_ | refine jg_next1 ?_) | refine sq_go rfl ?_ | refine sq_mv rfl ?_ | refine sq_ende (by first | exact .inl rfl | exact .inr rfl) rfl rfl ⟨_, (RVs.cons (RV.tmp rfl) (RVs.nil)), ?_⟩) | refine j_nil ?_ | ((first | refine j_guard rfl rfl rfl rfl rfl ?_ ?_ | refine sc_cond rfl ?_ ?_) <;> intro hc <;> (first | exact absurd hc (by decide) | ((try simp only [engHC] at hc) <;> first | (exfalso; omega) | skip))))
        (intro w' hS; refine ⟨?_, hS.below⟩; simp only [pack])
        exact rb (hno i hlt hat).symm
  · repeat' (first | (refine gJ ?_; refine js rfl rfl rfl rfl ?_) | (refine gSC ?_; first | refine sc_mv rfl ?_ | refine sc_q rfl ?_ | refine sc_region ?_) | (refine gSQ ?_; first | refine sq_go rfl ?_ | refine sq_mv rfl ?_ | refine sq_ende (by first | exact .inl rfl | exact .inr rfl) rfl rfl ⟨_, (RVs.cons (RV.tmp rfl) (RVs.nil)), ?_⟩) | refine j_nil ?_ | ((refine sc_cond rfl ?_ ?_) <;> intro hc <;> (((try simp only [engHC] at hc) <;> first | (exfalso; omega) | skip))))
    (intro w' hS; refine ⟨?_, hS.below⟩; simp only [pack])
    exact rb (hyes (by omega) (by rw [show n = i from by omega]; exact hr)).symm
end Go.Proofs.YtmakokbpadmfbaaGreat
