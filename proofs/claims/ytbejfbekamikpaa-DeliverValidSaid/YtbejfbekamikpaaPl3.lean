/-
  In one text: Law, Awk, Six, Rul, Rls, Pl1, Pl2, Pl3.
-/
import Derived.Test.YtbejfbekamikpaaOpn
/-
  The law's helpers: SameInts, example, is.
-/
namespace Go.Proofs.Ytbejfbekamikpaa
open Go.RowKit Eng
set_option linter.unusedVariables false
set_option linter.unusedSimpArgs false
set_option maxHeartbeats 8000000
attribute [local irreducible] SC SQ J Qt Calls Iterates LSub FSub
theorem same_c (A : Option Addr) (c : Nat) (l : List Int) (B : Option Addr) (bc : Nat) (r : List Int) (w : World) (hl : l.length ≤ 1000000) (h : RS w 1 intC A l) (hr : r.length ≤ 1000000) (hB : RS w 1 intC B r) :
    Calls Try.prog 19 #[.slice A l.length c, .slice B r.length bc] w fun e w' => e = .returned (.bool (decide (l = r))) ∧ Below w.heap.size w w' := by
  generalize hn : l.length = n at *
  generalize hm : r.length = m at *
  by_cases hnm : n = m
  · subst hnm
    refine eng_start (n := 26) (args := [.slice A n c, .slice B n bc]) tab tab_ok fns fns_ok [.tmp 4] Try.func19 rfl rfl rfl rfl ?_
    repeat' (first | (refine gJ ?_; first | refine js rfl rfl rfl rfl ?_ | (refine gload rfl rfl ?_; refine j_qe rfl rfl rfl ?_; first | refine ⟨_, q_load_own rfl rfl rfl rfl (by (repeat constructor)) (by first | rfl | assumption), ?_⟩ | refine ⟨_, q_loadA_own rfl rfl rfl rfl (by (repeat constructor)) (by rfl), ?_⟩ | refine ⟨_, q_loadA_ext rfl rfl rfl rfl ⟨by assumption, (by first | exact id | assumption)⟩ (by rfl), ?_⟩ | refine ⟨_, q_load_ext rfl rfl rfl rfl ⟨by assumption, (by first | exact id | assumption)⟩ (by first | rfl | assumption), ?_⟩ | refine ⟨_, q_load_extb rfl rfl rfl rfl ⟨by assumption, (by first | exact id | assumption)⟩ (by rfl), ?_⟩ | refine ⟨_, q_loadA_extb rfl rfl rfl rfl ⟨by assumption, (by first | exact id | assumption)⟩ (by rfl), ?_⟩ | refine ⟨_, q_load_ext0 rfl rfl rfl rfl ⟨by assumption, (by first | exact id | assumption)⟩ (by rfl), ?_⟩) | refine jar rfl rfl rfl rfl rfl rfl rfl (by omega) ?_ | (refine j_qe rfl rfl rfl ?_; first | refine ⟨_, q_index_nat rfl rfl rfl rfl rfl (by omega), ?_⟩ | refine ⟨_, q_index_slice rfl rfl rfl rfl rfl (by omega), ?_⟩ | refine ⟨_, q_index_arr rfl rfl rfl rfl rfl (by omega), ?_⟩ | refine ⟨_, q_index_arr_ext rfl rfl rfl rfl rfl (by omega), ?_⟩ | refine ⟨_, q_len_slice rfl rfl rfl rfl, ?_⟩ | refine ⟨_, q_addu8 rfl rfl rfl (by omega), ?_⟩)) | (refine gSC ?_; first | refine sc_mv rfl ?_ | refine sc_q rfl ?_ | refine sc_region ?_ | refine sc_draw rfl mixed (by kernel_rfl) ?_) | (refine gSQ ?_; first | refine sq_go rfl ?_ | refine sq_mv rfl ?_ | refine sq_ende (by first | exact .inl rfl | exact .inr rfl) rfl rfl ⟨_, (RVs.cons (RV.tmp rfl) (RVs.nil)), ?_⟩) | refine j_nil ?_ | ((refine sc_cond rfl ?_ ?_) <;> intro hc <;> (first | exact absurd hc (by decide) | ((try simp only [engHC] at hc) <;> first | (exfalso; omega) | exact absurd trivial hc | skip))))
    refine sc_loop (ι := Nat) (fun k => k ≤ n ∧ ∀ i, i < k → l[i]? = r[i]?) (fun k => n - k) (fun k => [(0, .slice A n c), (1, .slice B n bc), (5, .int .i64 k)]) (fun _ => []) 0 ⟨by omega, fun i hi => by omega⟩ (by repeat (first | exact FSub.nil | refine FSub.cons rfl ?_ | refine FSub.conse rfl (by congr 1; omega) ?_)) (by repeat (first | exact LSub.nil | refine LSub.cons (by repeat (first | exact Rem.here | apply Rem.there)) ?_)) ?_
    intro k ⟨hk, heq⟩
    by_cases hlt : k < n
    · obtain ⟨x, hx⟩ : ∃ x, l[k]? = some x := ⟨_, List.getElem?_eq_getElem (by omega)⟩
      obtain ⟨y, hy⟩ : ∃ y, r[k]? = some y := ⟨_, List.getElem?_eq_getElem (by omega)⟩
      obtain ⟨ad, rfl, hX⟩ := h k x hx
      obtain ⟨bd, rfl, hY⟩ := hB k y hy
      repeat' (first | (refine gJ ?_; first | refine js rfl rfl rfl rfl ?_ | (refine gload rfl rfl ?_; refine j_qe rfl rfl rfl ?_; first | refine ⟨_, q_load_own rfl rfl rfl rfl (by (repeat constructor)) (by first | rfl | assumption), ?_⟩ | refine ⟨_, q_loadA_own rfl rfl rfl rfl (by (repeat constructor)) (by rfl), ?_⟩ | refine ⟨_, q_loadA_ext rfl rfl rfl rfl ⟨by assumption, (by first | exact id | assumption)⟩ (by rfl), ?_⟩ | refine ⟨_, q_load_ext rfl rfl rfl rfl ⟨by assumption, (by first | exact id | assumption)⟩ (by first | rfl | assumption), ?_⟩ | refine ⟨_, q_load_extb rfl rfl rfl rfl ⟨by assumption, (by first | exact id | assumption)⟩ (by rfl), ?_⟩ | refine ⟨_, q_loadA_extb rfl rfl rfl rfl ⟨by assumption, (by first | exact id | assumption)⟩ (by rfl), ?_⟩ | refine ⟨_, q_load_ext0 rfl rfl rfl rfl ⟨by assumption, (by first | exact id | assumption)⟩ (by rfl), ?_⟩) | refine jar rfl rfl rfl rfl rfl rfl rfl (by omega) ?_ | (refine j_qe rfl rfl rfl ?_; first | refine ⟨_, q_index_nat rfl rfl rfl rfl rfl (by omega), ?_⟩ | refine ⟨_, q_index_slice rfl rfl rfl rfl rfl (by omega), ?_⟩ | refine ⟨_, q_index_arr rfl rfl rfl rfl rfl (by omega), ?_⟩ | refine ⟨_, q_index_arr_ext rfl rfl rfl rfl rfl (by omega), ?_⟩ | refine ⟨_, q_len_slice rfl rfl rfl rfl, ?_⟩ | refine ⟨_, q_addu8 rfl rfl rfl (by omega), ?_⟩)) | (refine gSC ?_; first | refine sc_mv rfl ?_ | refine sc_q rfl ?_ | refine sc_region ?_ | refine sc_draw rfl mixed (by kernel_rfl) ?_) | (refine gSQ ?_; first | refine sq_go rfl ?_ | refine sq_mv rfl ?_ | refine sq_ende (by first | exact .inl rfl | exact .inr rfl) rfl rfl ⟨_, (RVs.cons (RV.tmp rfl) (RVs.nil)), ?_⟩) | refine j_nil ?_ | ((refine sc_cond rfl ?_ ?_) <;> intro hc <;> (first | exact absurd hc (by decide) | ((try simp only [engHC] at hc) <;> first | (exfalso; omega) | exact absurd trivial hc | skip))))
      · (intro w' hS; refine ⟨?_, hS.below⟩; simp only [pack])
        refine rb ?_
        have hne : l ≠ r := fun e => by rw [e, hy] at hx; simp only [Option.some.injEq] at hx; exact absurd hx.symm (by assumption)
        simp [hne]
      · refine sq_loop (k + 1) ⟨by omega, fun i hi => ?_⟩ (by omega) (by repeat (first | exact FSub.nil | refine FSub.cons rfl ?_ | refine FSub.conse rfl (by congr 1; omega) ?_)) (by repeat (first | exact LSub.nil | refine LSub.cons (by repeat (first | exact Rem.here | apply Rem.there)) ?_))
        rcases Nat.lt_or_ge i k with hik | hik
        · exact heq i hik
        · have : i = k := by omega
          subst this
          rw [hx, hy]
          congr 1
    · repeat' (first | (refine gJ ?_; first | refine js rfl rfl rfl rfl ?_ | (refine gload rfl rfl ?_; refine j_qe rfl rfl rfl ?_; first | refine ⟨_, q_load_own rfl rfl rfl rfl (by (repeat constructor)) (by first | rfl | assumption), ?_⟩ | refine ⟨_, q_loadA_own rfl rfl rfl rfl (by (repeat constructor)) (by rfl), ?_⟩ | refine ⟨_, q_loadA_ext rfl rfl rfl rfl ⟨by assumption, (by first | exact id | assumption)⟩ (by rfl), ?_⟩ | refine ⟨_, q_load_ext rfl rfl rfl rfl ⟨by assumption, (by first | exact id | assumption)⟩ (by first | rfl | assumption), ?_⟩ | refine ⟨_, q_load_extb rfl rfl rfl rfl ⟨by assumption, (by first | exact id | assumption)⟩ (by rfl), ?_⟩ | refine ⟨_, q_loadA_extb rfl rfl rfl rfl ⟨by assumption, (by first | exact id | assumption)⟩ (by rfl), ?_⟩ | refine ⟨_, q_load_ext0 rfl rfl rfl rfl ⟨by assumption, (by first | exact id | assumption)⟩ (by rfl), ?_⟩) | refine jar rfl rfl rfl rfl rfl rfl rfl (by omega) ?_ | (refine j_qe rfl rfl rfl ?_; first | refine ⟨_, q_index_nat rfl rfl rfl rfl rfl (by omega), ?_⟩ | refine ⟨_, q_index_slice rfl rfl rfl rfl rfl (by omega), ?_⟩ | refine ⟨_, q_index_arr rfl rfl rfl rfl rfl (by omega), ?_⟩ | refine ⟨_, q_index_arr_ext rfl rfl rfl rfl rfl (by omega), ?_⟩ | refine ⟨_, q_len_slice rfl rfl rfl rfl, ?_⟩ | refine ⟨_, q_addu8 rfl rfl rfl (by omega), ?_⟩)) | (refine gSC ?_; first | refine sc_mv rfl ?_ | refine sc_q rfl ?_ | refine sc_region ?_ | refine sc_draw rfl mixed (by kernel_rfl) ?_) | (refine gSQ ?_; first | refine sq_go rfl ?_ | refine sq_mv rfl ?_ | refine sq_ende (by first | exact .inl rfl | exact .inr rfl) rfl rfl ⟨_, (RVs.cons (RV.tmp rfl) (RVs.nil)), ?_⟩) | refine j_nil ?_ | ((refine sc_cond rfl ?_ ?_) <;> intro hc <;> (first | exact absurd hc (by decide) | ((try simp only [engHC] at hc) <;> first | (exfalso; omega) | exact absurd trivial hc | skip))))
      (intro w' hS; refine ⟨?_, hS.below⟩; simp only [pack])
      refine rb ?_
      have : l = r := by
        apply List.ext_getElem?
        intro i
        rcases Nat.lt_or_ge i k with hik | hik
        · exact heq i hik
        · rw [List.getElem?_eq_none (by omega), List.getElem?_eq_none (by omega)]
      simp [this]
  · refine eng_start (n := 26) (args := [.slice A n c, .slice B m bc]) tab tab_ok fns fns_ok [.tmp 4] Try.func19 rfl rfl rfl rfl ?_
    repeat' (first | (refine gJ ?_; first | refine js rfl rfl rfl rfl ?_ | (refine gload rfl rfl ?_; refine j_qe rfl rfl rfl ?_; first | refine ⟨_, q_load_own rfl rfl rfl rfl (by (repeat constructor)) (by first | rfl | assumption), ?_⟩ | refine ⟨_, q_loadA_own rfl rfl rfl rfl (by (repeat constructor)) (by rfl), ?_⟩ | refine ⟨_, q_loadA_ext rfl rfl rfl rfl ⟨by assumption, (by first | exact id | assumption)⟩ (by rfl), ?_⟩ | refine ⟨_, q_load_ext rfl rfl rfl rfl ⟨by assumption, (by first | exact id | assumption)⟩ (by first | rfl | assumption), ?_⟩ | refine ⟨_, q_load_extb rfl rfl rfl rfl ⟨by assumption, (by first | exact id | assumption)⟩ (by rfl), ?_⟩ | refine ⟨_, q_loadA_extb rfl rfl rfl rfl ⟨by assumption, (by first | exact id | assumption)⟩ (by rfl), ?_⟩ | refine ⟨_, q_load_ext0 rfl rfl rfl rfl ⟨by assumption, (by first | exact id | assumption)⟩ (by rfl), ?_⟩) | refine jar rfl rfl rfl rfl rfl rfl rfl (by omega) ?_ | (refine j_qe rfl rfl rfl ?_; first | refine ⟨_, q_index_nat rfl rfl rfl rfl rfl (by omega), ?_⟩ | refine ⟨_, q_index_slice rfl rfl rfl rfl rfl (by omega), ?_⟩ | refine ⟨_, q_index_arr rfl rfl rfl rfl rfl (by omega), ?_⟩ | refine ⟨_, q_index_arr_ext rfl rfl rfl rfl rfl (by omega), ?_⟩ | refine ⟨_, q_len_slice rfl rfl rfl rfl, ?_⟩ | refine ⟨_, q_addu8 rfl rfl rfl (by omega), ?_⟩)) | (refine gSC ?_; first | refine sc_mv rfl ?_ | refine sc_q rfl ?_ | refine sc_region ?_ | refine sc_draw rfl mixed (by kernel_rfl) ?_) | (refine gSQ ?_; first | refine sq_go rfl ?_ | refine sq_mv rfl ?_ | refine sq_ende (by first | exact .inl rfl | exact .inr rfl) rfl rfl ⟨_, (RVs.cons (RV.tmp rfl) (RVs.nil)), ?_⟩) | refine j_nil ?_ | ((refine sc_cond rfl ?_ ?_) <;> intro hc <;> (first | exact absurd hc (by decide) | ((try simp only [engHC] at hc) <;> first | (exfalso; omega) | exact absurd trivial hc | skip))))
    (intro w' hS; refine ⟨?_, hS.below⟩; simp only [pack])
    have hne : l ≠ r := fun e => hnm (by rw [← hn, ← hm, e])
    exact rb (by simp [hne])
/-- What is read of own cells. -/
theorem rs_of_cells {w0 w : World} {hot : Nat → Prop} {L : List HA} {α : Type} {f : α → List Value} {u sz b : Nat} {l : List α} (hs : St w0 hot L w) (hf : ∀ x, (f x).length = sz) (hin : InL L (.cells b u (l.flatMap f))) : RS w sz f (some ⟨b, 0, none⟩) l := fun i x hx => by
  have hE := hs.ext hin
  refine ⟨_, rfl, by rw [block_add]; exact hE.lt, fun j v hv => ?_⟩
  rw [nth_get] at hv
  have hfl := flat_get f sz hf l i x j v hx hv
  rw [← nth_get] at hfl
  have := hE.cell _ _ hfl
  rw [add_own, Nat.zero_add] at this
  rw [add_own, add_own, Nat.zero_add]
  exact this
def exPts : List Pt := [⟨11, 1, 5, 12, ⟨#[]⟩, ⟨#[]⟩, 0, 1⟩, ⟨12, 1, 5, 12, ⟨#[]⟩, ⟨#[51]⟩, 0, 2⟩, ⟨13, 1, 0, 0, ⟨#[]⟩, ⟨#[]⟩, 9, 3⟩]
abbrev exV (b : Nat) : Value := refV (.slice none 0 0) (.slice none 0 0) (.slice none 0 0) (some ⟨b, 0, none⟩) 3 3
abbrev exL (b : Nat) : List HA := [.cells b 39 (exPts.flatMap ptC)]
theorem example_c (w : World) : Calls Try.prog 29 #[] w fun e w' => ∃ b : Nat, True ∧ e = .returned (exV b) ∧ St w Cold (exL b) w' := by
  refine eng_start (n := 6) (args := []) tab tab_ok fns fns_ok [.cell 0 30] Try.func29 rfl rfl rfl rfl ?_
  repeat' (first | (refine gJ ?_; first | refine js rfl rfl rfl rfl ?_ | (refine gF ?_; first | refine j_store rfl rfl rfl rfl rfl rfl rfl rfl (by (repeat constructor)) (by rfl) ?_ | (refine j_alloc rfl rfl rfl rfl rfl ?_; intro b) | (refine j_buildSlice rfl rfl rfl rfl rfl rfl rfl rfl rfl rfl rfl rfl ?_; intro b)) | (refine j_qe rfl rfl rfl ?_; first | refine ⟨_, q_build_struct rfl rfl rfl rfl rfl, ?_⟩ | refine ⟨_, q_build_arr rfl rfl rfl rfl rfl, ?_⟩)) | (refine gSC ?_; first | refine sc_mv rfl ?_ | refine sc_q rfl ?_ | refine sc_region ?_) | (refine gSQ ?_; first | refine sq_go rfl ?_ | refine sq_mv rfl ?_ | refine sq_ende (by first | exact .inl rfl | exact .inr rfl) rfl rfl ⟨_, (RVs.cons (by first | exact RV.cell rfl rfl rfl (by (repeat constructor)) (by rfl) | exact RV.cellA rfl rfl rfl (by (repeat constructor)) (by rfl)) (RVs.nil)), ?_⟩) | refine j_nil ?_ | ((refine sc_cond rfl ?_ ?_) <;> intro hc <;> (first | exact absurd hc (by decide) | ((try simp only [engHC] at hc) <;> first | (exfalso; omega) | exact absurd trivial hc | skip))))
  intro w' hS
  exact ⟨b, trivial, rfl, hS.sub (by repeat (first | exact LSub.nil | refine LSub.cons (by repeat (first | exact Rem.here | apply Rem.there)) ?_))⟩
theorem is_c (A : Option Addr) (c : Nat) (l : List Ru) (B : Option Addr) (bc : Nat) (hol : List Int) (t d want : Int) (w : World) (hl : l.length ≤ 1000000) (hok : ∀ x ∈ l, ruOk x) (h : RS w 5 ruC A l) (hhl : hol.length ≤ 1000000) (hH : RS w 1 intC B hol) {r : Bool} (hr : (decide ((statF exPts l hol t d).1 = want) && decide ((statF exPts l hol t d).2 = 0)) = r) :
    Calls Try.prog 32 #[.slice A l.length c, .slice B hol.length bc, .int .i64 t, .int .i64 d, .int .u8 want] w fun e w' => e = .returned (.bool r) ∧ Below w.heap.size w w' := by
  refine eng_start (n := 29) (args := [.slice A l.length c, .slice B hol.length bc, .int .i64 t, .int .i64 d, .int .u8 want]) tab tab_ok fns fns_ok [.tmp 10] Try.func32 rfl rfl rfl rfl ?_
  repeat' (first | (refine gJ ?_; first | refine js rfl rfl rfl rfl ?_ | (refine gcall rfl rfl ?_; first | (refine j_qc (f := 31) rfl rfl rfl rfl rfl rfl rfl ?_; refine ⟨_, (fun w' hs => Status_c (.slice none 0 0) (.slice none 0 0) (.slice none 0 0) (some ⟨bp, 0, none⟩) 3 exPts A c l B bc hol t d w' rfl rfl rfl (by decide) (rs_of_cells hs (fun _ => rfl) (by (repeat constructor))) (by omega) hok (h.st hs) (by omega) (hH.st hs)), ?_⟩)) | (refine gcall rfl rfl ?_; refine gF ?_; refine j_callN (f := 29) rfl rfl rfl rfl rfl rfl rfl exV (fun _ => True) exL (fun w' hs => example_c w') (fun _ => trivial) ?_; rintro bp _) | refine j_guard_undef rfl rfl rfl rfl rfl ?_) | (refine gSC ?_; first | refine sc_mv rfl ?_ | refine sc_q rfl ?_ | refine sc_region ?_) | (refine gSQ ?_; first | refine sq_go rfl ?_ | refine sq_mv rfl ?_ | refine sq_ende (by first | exact .inl rfl | exact .inr rfl) rfl rfl ⟨_, (RVs.cons (RV.tmp rfl) (RVs.nil)), ?_⟩) | refine j_nil ?_ | ((first | refine j_guard rfl rfl rfl rfl rfl ?_ ?_ | refine sc_cond rfl ?_ ?_) <;> intro hc <;> (first | exact absurd hc (by decide) | ((try simp only [engHC] at hc) <;> first | (exfalso; omega) | exact absurd trivial hc | skip))))
  all_goals ((intro w' hS; refine ⟨?_, hS.below⟩; simp only [pack]); refine rb ?_; rw [← hr]; simp_all)
end Go.Proofs.Ytbejfbekamikpaa

/-
  The law's examples.
-/
namespace Go.Proofs.Ytbejfbekamikpaa
open Go.RowKit Eng
set_option linter.unusedVariables false
set_option linter.unusedSimpArgs false
set_option maxHeartbeats 8000000
attribute [local irreducible] SC SQ J Qt Calls Iterates LSub FSub
def sumR : Ru := ⟨11, 1, 401, 930, 0⟩
def winR : Ru := ⟨11, 1, 1215, 115, 0⟩
def empR : Ru := ⟨12, 2, 0, 9, 0⟩
def wkR : Ru := ⟨12, 3, 0, 0, 31⟩
theorem nx1 : nextF exPts [sumR] [] 11 0 = (90, true, 0) := by kernel_rfl
theorem ip1 : openIds [] [0] 0 (firstsF exPts) = [11, 12] := by kernel_rfl
theorem ip2 : openIds [] [0] 1 (firstsF exPts) = [11, 12, 13] := by kernel_rfl
theorem ck0 : checkF [0] 0 = 0 := by kernel_rfl
theorem ck1 : checkF [0] 1 = 0 := by kernel_rfl
theorem op1 : openF exPts [] [0] 0 = [11, 12] := by
  simp only [openF, ck0, ip1, ne_eq, not_true, if_false]
  exact List.mergeSort_of_pairwise (by decide)
theorem op2 : openF exPts [] [0] 1 = [11, 12, 13] := by
  simp only [openF, ck1, ip2, ne_eq, not_true, if_false]
  exact List.mergeSort_of_pairwise (by decide)
theorem ok1 : ∀ x ∈ [sumR], ruOk x := by unfold ruOk; decide
theorem ok2 : ∀ x ∈ [sumR, winR], ruOk x := by unfold ruOk; decide
theorem ok3 : ∀ x ∈ [empR], ruOk x := by unfold ruOk; decide
theorem ok4 : ∀ x ∈ [wkR], ruOk x := by unfold ruOk; decide
theorem ok0 : ∀ x ∈ ([] : List Ru), ruOk x := fun x hx => by cases hx
theorem i1 : (decide ((statF exPts [sumR] [] 11 0).1 = 2) && decide ((statF exPts [sumR] [] 11 0).2 = 0)) = true := by kernel_rfl
theorem i2 : (decide ((statF exPts [sumR, winR] [] 11 0).1 = 1) && decide ((statF exPts [sumR, winR] [] 11 0).2 = 0)) = true := by kernel_rfl
theorem i3 : (decide ((statF exPts [empR] [] 12 0).1 = 3) && decide ((statF exPts [empR] [] 12 0).2 = 0)) = true := by kernel_rfl
theorem i4 : (decide ((statF exPts [empR] [] 12 9).1 = 3) && decide ((statF exPts [empR] [] 12 9).2 = 0)) = true := by kernel_rfl
theorem i5 : (decide ((statF exPts [empR] [] 12 10).1 = 1) && decide ((statF exPts [empR] [] 12 10).2 = 0)) = true := by kernel_rfl
theorem i6 : (decide ((statF exPts [wkR] [] 12 4).1 = 1) && decide ((statF exPts [wkR] [] 12 4).2 = 0)) = true := by kernel_rfl
theorem i7 : (decide ((statF exPts [wkR] [] 12 5).1 = 2) && decide ((statF exPts [wkR] [] 12 5).2 = 0)) = true := by kernel_rfl
theorem i8 : (decide ((statF exPts [wkR] [] 12 6).1 = 2) && decide ((statF exPts [wkR] [] 12 6).2 = 0)) = true := by kernel_rfl
theorem i9 : (decide ((statF exPts [] [0] 13 0).1 = 2) && decide ((statF exPts [] [0] 13 0).2 = 0)) = true := by kernel_rfl
theorem i10 : (decide ((statF exPts [] [0] 13 1).1 = 1) && decide ((statF exPts [] [0] 13 1).2 = 0)) = true := by kernel_rfl
theorem i11 : (decide ((statF exPts [] [] 99 0).1 = 0) && decide ((statF exPts [] [] 99 0).2 = 0)) = true := by kernel_rfl
abbrev opV (k : Int) (v : Value) : Value := .tuple #[v, .int .i64 k]
abbrev opL (l : List Int) (v : Value) : List HA := [.own v 3 1 l.length (l.map (Value.int .i64))]
theorem awake_c (w : World) : Calls Try.prog 15 #[] w fun e w' => e = .returned (.bool true) ∧ Below w.heap.size w w' := by
  refine eng_start (n := 115) (args := []) tab tab_ok fns fns_ok [.tmp 0] Try.func15 rfl rfl rfl rfl ?_
  repeat' (first | (refine gJ ?_; first | refine js rfl rfl rfl rfl ?_ | (refine gload rfl rfl ?_; refine j_qe rfl rfl rfl ?_; first | refine ⟨_, q_load_own rfl rfl rfl rfl (by (repeat constructor)) (by first | rfl | assumption), ?_⟩ | refine ⟨_, q_loadA_own rfl rfl rfl rfl (by (repeat constructor)) (by rfl), ?_⟩ | refine ⟨_, q_loadA_ext rfl rfl rfl rfl ⟨by assumption, (by first | exact id | assumption)⟩ (by rfl), ?_⟩ | refine ⟨_, q_load_ext rfl rfl rfl rfl ⟨by assumption, (by first | exact id | assumption)⟩ (by first | rfl | assumption), ?_⟩ | refine ⟨_, q_load_extb rfl rfl rfl rfl ⟨by assumption, (by first | exact id | assumption)⟩ (by rfl), ?_⟩ | refine ⟨_, q_loadA_extb rfl rfl rfl rfl ⟨by assumption, (by first | exact id | assumption)⟩ (by rfl), ?_⟩ | refine ⟨_, q_load_ext0 rfl rfl rfl rfl ⟨by assumption, (by first | exact id | assumption)⟩ (by rfl), ?_⟩) | refine jar rfl rfl rfl rfl rfl rfl rfl (by omega) ?_ | (refine gcall rfl rfl ?_; first | (refine j_qc (f := 17) rfl rfl rfl rfl rfl rfl rfl ?_; refine ⟨_, (fun w' hs => by have h9 := Next_c (.slice none 0 0) (.slice none 0 0) (.slice none 0 0) (some ⟨bp, 0, none⟩) 3 exPts _ 1 [sumR] none 0 [] 11 0 w' rfl rfl rfl (by decide) (rs_of_cells hs (fun _ => rfl) (by (repeat constructor))) (by decide) ok1 (rs_of_cells (l := [sumR]) (b := b) hs (fun _ => rfl) (by (repeat constructor))) (by decide) RS.nil; rw [nx1] at h9; exact h9), ?_⟩) | (refine j_qc (f := 32) rfl rfl rfl rfl rfl rfl rfl ?_; refine ⟨_, (fun w' hs => is_c _ _ ([sumR] : List Ru) _ _ ([] : List Int) 11 0 2 w' (by decide) ok1 (rs_of_cells (l := [sumR]) hs (fun _ => rfl) (by (repeat constructor))) (by decide) RS.nil i1), ?_⟩) | (refine j_qc (f := 32) rfl rfl rfl rfl rfl rfl rfl ?_; refine ⟨_, (fun w' hs => is_c _ _ ([sumR, winR] : List Ru) _ _ ([] : List Int) 11 0 1 w' (by decide) ok2 (rs_of_cells (l := [sumR, winR]) hs (fun _ => rfl) (by (repeat constructor))) (by decide) RS.nil i2), ?_⟩) | (refine j_qc (f := 32) rfl rfl rfl rfl rfl rfl rfl ?_; refine ⟨_, (fun w' hs => is_c _ _ ([empR] : List Ru) _ _ ([] : List Int) 12 0 3 w' (by decide) ok3 (rs_of_cells (l := [empR]) hs (fun _ => rfl) (by (repeat constructor))) (by decide) RS.nil i3), ?_⟩) | (refine j_qc (f := 32) rfl rfl rfl rfl rfl rfl rfl ?_; refine ⟨_, (fun w' hs => is_c _ _ ([empR] : List Ru) _ _ ([] : List Int) 12 9 3 w' (by decide) ok3 (rs_of_cells (l := [empR]) hs (fun _ => rfl) (by (repeat constructor))) (by decide) RS.nil i4), ?_⟩) | (refine j_qc (f := 32) rfl rfl rfl rfl rfl rfl rfl ?_; refine ⟨_, (fun w' hs => is_c _ _ ([empR] : List Ru) _ _ ([] : List Int) 12 10 1 w' (by decide) ok3 (rs_of_cells (l := [empR]) hs (fun _ => rfl) (by (repeat constructor))) (by decide) RS.nil i5), ?_⟩) | (refine j_qc (f := 32) rfl rfl rfl rfl rfl rfl rfl ?_; refine ⟨_, (fun w' hs => is_c _ _ ([wkR] : List Ru) _ _ ([] : List Int) 12 4 1 w' (by decide) ok4 (rs_of_cells (l := [wkR]) hs (fun _ => rfl) (by (repeat constructor))) (by decide) RS.nil i6), ?_⟩) | (refine j_qc (f := 32) rfl rfl rfl rfl rfl rfl rfl ?_; refine ⟨_, (fun w' hs => is_c _ _ ([wkR] : List Ru) _ _ ([] : List Int) 12 5 2 w' (by decide) ok4 (rs_of_cells (l := [wkR]) hs (fun _ => rfl) (by (repeat constructor))) (by decide) RS.nil i7), ?_⟩) | (refine j_qc (f := 32) rfl rfl rfl rfl rfl rfl rfl ?_; refine ⟨_, (fun w' hs => is_c _ _ ([wkR] : List Ru) _ _ ([] : List Int) 12 6 2 w' (by decide) ok4 (rs_of_cells (l := [wkR]) hs (fun _ => rfl) (by (repeat constructor))) (by decide) RS.nil i8), ?_⟩) | (refine j_qc (f := 32) rfl rfl rfl rfl rfl rfl rfl ?_; refine ⟨_, (fun w' hs => is_c _ _ ([] : List Ru) _ _ ([0] : List Int) 13 0 2 w' (by decide) ok0 RS.nil (by decide) (rs_of_cells (l := ([0] : List Int)) hs (fun _ => rfl) (by (repeat constructor))) i9), ?_⟩) | (refine j_qc (f := 32) rfl rfl rfl rfl rfl rfl rfl ?_; refine ⟨_, (fun w' hs => is_c _ _ ([] : List Ru) _ _ ([0] : List Int) 13 1 1 w' (by decide) ok0 RS.nil (by decide) (rs_of_cells (l := ([0] : List Int)) hs (fun _ => rfl) (by (repeat constructor))) i10), ?_⟩) | (refine j_qc (f := 32) rfl rfl rfl rfl rfl rfl rfl ?_; refine ⟨_, (fun w' hs => is_c _ _ ([] : List Ru) _ _ ([] : List Int) 99 0 0 w' (by decide) ok0 RS.nil (by decide) RS.nil i11), ?_⟩) | (refine j_qc (f := 19) rfl rfl rfl rfl rfl rfl rfl ?_; refine ⟨_, (fun w' hs => same_c A1 c1 [11, 12] (some ⟨b, 0, none⟩) 2 [11, 12] w' (by decide) (rs_of_own (l := [11, 12]) hs (fun _ => rfl) (by (repeat constructor))) (by decide) (rs_of_cells hs (fun _ => rfl) (by (repeat constructor)))), ?_⟩) | (refine j_qc (f := 19) rfl rfl rfl rfl rfl rfl rfl ?_; refine ⟨_, (fun w' hs => same_c A2 c2 [11, 12, 13] (some ⟨b, 0, none⟩) 3 [11, 12, 13] w' (by decide) (rs_of_own (l := [11, 12, 13]) hs (fun _ => rfl) (by (repeat constructor))) (by decide) (rs_of_cells hs (fun _ => rfl) (by (repeat constructor)))), ?_⟩)) | (refine gcall rfl rfl ?_; refine gF ?_; refine j_callN (f := 29) rfl rfl rfl rfl rfl rfl rfl exV (fun _ => True) exL (fun w' hs => example_c w') (fun _ => trivial) ?_; rintro bp _) | (refine gcall rfl rfl ?_; refine gF ?_; refine j_callN (f := 18) rfl rfl rfl rfl rfl rfl rfl (opV 0) (fun _ => True) (opL [11, 12]) (fun w' hs => by have h9 := Open_c (.slice none 0 0) (.slice none 0 0) (.slice none 0 0) (some ⟨bp, 0, none⟩) 3 exPts none 0 [] (some ⟨b, 0, none⟩) 1 [0] 0 w' rfl rfl rfl (by decide) (rs_of_cells hs (fun _ => rfl) (by (repeat constructor))) (by decide) ok0 RS.nil (by decide) (rs_of_cells hs (fun _ => rfl) (by (repeat constructor))); rw [op1, ck0] at h9; exact h9) (fun _ => trivial) ?_; rintro vo _; refine j_own (by exact InL.here) ?_; rintro A1 c1 rfl) | (refine gcall rfl rfl ?_; refine gF ?_; refine j_callN (f := 18) rfl rfl rfl rfl rfl rfl rfl (opV 0) (fun _ => True) (opL [11, 12, 13]) (fun w' hs => by have h9 := Open_c (.slice none 0 0) (.slice none 0 0) (.slice none 0 0) (some ⟨bp, 0, none⟩) 3 exPts none 0 [] (some ⟨b, 0, none⟩) 1 [0] 1 w' rfl rfl rfl (by decide) (rs_of_cells hs (fun _ => rfl) (by (repeat constructor))) (by decide) ok0 RS.nil (by decide) (rs_of_cells hs (fun _ => rfl) (by (repeat constructor))); rw [op2, ck1] at h9; exact h9) (fun _ => trivial) ?_; rintro vo _; refine j_own (by exact InL.here) ?_; rintro A2 c2 rfl) | (refine gF ?_; first | refine j_store rfl rfl rfl rfl rfl rfl rfl rfl (by (repeat constructor)) (by rfl) ?_ | (refine j_alloc rfl rfl rfl rfl rfl ?_; intro b) | (refine j_buildSlice rfl rfl rfl rfl rfl rfl rfl rfl rfl rfl rfl rfl ?_; intro b)) | (refine j_qe rfl rfl rfl ?_; first | refine ⟨_, q_build_struct rfl rfl rfl rfl rfl, ?_⟩ | refine ⟨_, q_build_arr rfl rfl rfl rfl rfl, ?_⟩ | refine ⟨_, q_addu8 rfl rfl rfl (by omega), ?_⟩) | refine j_guard_undef rfl rfl rfl rfl rfl ?_) | (refine gSC ?_; first | refine sc_mv rfl ?_ | refine sc_q rfl ?_ | refine sc_region ?_) | (refine gSQ ?_; first | refine sq_go rfl ?_ | refine sq_mv rfl ?_ | refine sq_ende (by first | exact .inl rfl | exact .inr rfl) rfl rfl ⟨_, (RVs.cons (RV.tmp rfl) (RVs.nil)), ?_⟩) | refine j_nil ?_ | ((first | refine j_guard rfl rfl rfl rfl rfl ?_ ?_ | refine sc_cond rfl ?_ ?_) <;> intro hc <;> (first | exact absurd hc (by decide) | ((try simp only [engHC] at hc) <;> first | (exfalso; omega) | exact absurd trivial hc | skip))))
  (intro w' hS; refine ⟨?_, hS.below⟩; simp only [pack])
  first | rfl | exact rb (by decide) | exact rb (by simp)
end Go.Proofs.Ytbejfbekamikpaa

/-
  The law's file of six points, and its status.
-/
namespace Go.Proofs.Ytbejfbekamikpaa
open Go.RowKit Eng
set_option linter.unusedVariables false
set_option linter.unusedSimpArgs false
set_option maxHeartbeats 8000000
attribute [local irreducible] SC SQ J Qt Calls Iterates LSub FSub
def lstF (pts : List Pt) (l : List Ru) (hol : List Int) (t d : Int) : Int := if (statF pts l hol t d).2 ≠ 0 then 9 else (statF pts l hol t d).1
def sixP (k : Nat) : Pt := if k ≤ 3 then ⟨k, 1, 2, k, ⟨#[]⟩, ⟨#[]⟩, 0, k⟩ else ⟨k, 1, 0, 0, ⟨#[]⟩, ⟨#[]⟩, k, k⟩
def sixU (k : Nat) : List Pt := (List.range k).map fun i => sixP (i + 1)
end Go.Proofs.Ytbejfbekamikpaa

/-
  The law's rules.
-/
namespace Go.Proofs.Ytbejfbekamikpaa
open Go.RowKit Eng
set_option linter.unusedVariables false
set_option linter.unusedSimpArgs false
set_option maxHeartbeats 8000000
attribute [local irreducible] SC SQ J Qt Calls Iterates LSub FSub
structure Nt where
  pt : Int
  kd : Int
  a : Int
  b : Int
abbrev ntC (n : Nt) : List Value := [.int .u8 n.pt, .int .u8 n.kd, .int .u8 n.a, .int .u8 n.b]
def ntOk (n : Nt) : Prop := (0 ≤ n.pt ∧ n.pt ≤ 255) ∧ (0 ≤ n.kd ∧ n.kd ≤ 255) ∧ (0 ≤ n.a ∧ n.a ≤ 255) ∧ (0 ≤ n.b ∧ n.b ≤ 255)
def mdayF (a : Int) : Int := 100 * (1 + a % 12) + 1 + a / 12
def ruledF (n : Nt) : Ru :=
  if n.kd % 3 = 0 then ⟨1 + n.pt % 6, 1 + n.kd % 3, mdayF n.a, mdayF n.b, 0⟩
  else if n.kd % 3 = 1 then ⟨1 + n.pt % 6, 1 + n.kd % 3, 2 * n.a, 2 * n.a + n.b % 200, 0⟩
  else ⟨1 + n.pt % 6, 1 + n.kd % 3, 0, 0, 1 + n.a % 127⟩
end Go.Proofs.Ytbejfbekamikpaa

/-
  The law's lists of rules and of holidays.
-/
namespace Go.Proofs.Ytbejfbekamikpaa
open Go.RowKit Eng
set_option linter.unusedVariables false
set_option linter.unusedSimpArgs false
set_option maxHeartbeats 8000000
attribute [local irreducible] SC SQ J Qt Calls Iterates LSub FSub
def rulesF (l : List Nt) : List Ru := (l.take 30).map ruledF
def offG (a : Int) : List Int → List Int
  | [] => []
  | x :: l => (a + (1 + x % 64)) :: offG (a + (1 + x % 64)) l
def offF (l : List Int) : List Int := offG (-1) (l.take 30)
def offA (a : Int) : List Int → Int
  | [] => a
  | x :: l => offA (a + (1 + x % 64)) l
abbrev u8C (x : Int) : List Value := [.int .u8 x]
end Go.Proofs.Ytbejfbekamikpaa

/-
  Plain facts about what a point is: statuses of the law's six points.
-/
namespace Go.Proofs.Ytbejfbekamikpaa
set_option linter.unusedVariables false
end Go.Proofs.Ytbejfbekamikpaa

/-
  Plain facts: the first open day, the points that are open.
-/
namespace Go.Proofs.Ytbejfbekamikpaa
set_option linter.unusedVariables false
end Go.Proofs.Ytbejfbekamikpaa
namespace Go.Proofs.Ytbejfbekamikpaa
def wantF (pts : List Pt) (l : List Ru) (hol : List Int) (d : Int) : List Int := (pts.filter fun p => decide (lstF (sixU 6) l hol p.id d = 1)).map (·.id)
end Go.Proofs.Ytbejfbekamikpaa

/-
  Plain facts: the same date in another year; rules of one kind.
-/
namespace Go.Proofs.Ytbejfbekamikpaa
set_option linter.unusedVariables false
def dayOfF (y m d : Int) : Int := ysF y + cumF m (leapB y) + d - 1
def kindF (k : Int) (l : List Ru) : List Ru := l.filter fun x => decide (x.kd = k)
end Go.Proofs.Ytbejfbekamikpaa
