/-
  In one text: Hl, Hm, Hn, Ex0, Awl, Lp, Fq.
-/
import Derived.Test.YtagndgidfaladaaNk
import Derived.Test.YtagndgidfaladaaEngCoreB
import Derived.Test.YtagndgidfaladaaNw0
import Derived.Test.YtagndgidfaladaaNu
import Derived.Test.YtagndgidfaladaaEd3
/-
  Helpers of the laws: Few, SameInts, HasPrefix, ones.
-/
namespace Go.Proofs.Ytagndgidfaladaa
open Go.RowKit Eng
set_option linter.unusedVariables false
set_option linter.unusedSimpArgs false
set_option maxHeartbeats 8000000
attribute [local irreducible] SC SQ J Qt Calls Iterates LSub FSub
def sameF : List Int → List Int → Bool
  | [], [] => true
  | x :: l, y :: m => decide (x = y) && sameF l m
  | _, _ => false
theorem sameF_iff : ∀ (l m : List Int), sameF l m = true ↔ l = m
  | [], [] => by simp [sameF]
  | [], y :: m => by simp [sameF]
  | x :: l, [] => by simp [sameF]
  | x :: l, y :: m => by simp [sameF, sameF_iff l m]
theorem sameF_len : ∀ (l m : List Int), l.length ≠ m.length → sameF l m = false
  | [], [], h => absurd rfl h
  | [], y :: m, _ => rfl
  | x :: l, [], _ => rfl
  | x :: l, y :: m, h => by simp only [sameF, sameF_len l m (by simpa using h), Bool.and_false]
theorem sameInts_c (A : Option Addr) (c : Nat) (l : List Int) (B : Option Addr) (bc : Nat) (m : List Int) (w : World) (hl : l.length ≤ 9223372036854775806) (hm : m.length ≤ 9223372036854775806) (h : RS w 1 intC A l) (h2 : RS w 1 intC B m) :
    Calls Try.prog 18 #[.slice A l.length c, .slice B m.length bc] w fun e w' => e = .returned (.bool (sameF l m)) ∧ Below w.heap.size w w' := by
  by_cases hne : l.length = m.length
  · generalize hn : l.length = n at *
    rw [← hne]
    have hm2 := hne.symm
    clear hm
    refine eng_start (n := 26) (args := [.slice A n c, .slice B n bc]) tab tab_ok fns fns_ok [.tmp 4] Try.func18 rfl rfl rfl rfl ?_
    repeat' (first | (refine gJ ?_; first | refine js rfl rfl rfl rfl ?_ | (refine gload rfl rfl ?_; refine j_qe rfl rfl rfl ?_; first | refine ⟨_, q_load_own rfl rfl rfl rfl (by (repeat constructor)) (by first | rfl | assumption), ?_⟩ | refine ⟨_, q_loadA_own rfl rfl rfl rfl (by (repeat constructor)) (by rfl), ?_⟩ | refine ⟨_, q_loadA_ext rfl rfl rfl rfl ⟨by assumption, (by first | exact id | assumption)⟩ (by rfl), ?_⟩ | refine ⟨_, q_load_ext rfl rfl rfl rfl ⟨by assumption, (by first | exact id | assumption)⟩ (by first | rfl | assumption), ?_⟩ | refine ⟨_, q_load_extb rfl rfl rfl rfl ⟨by assumption, (by first | exact id | assumption)⟩ (by rfl), ?_⟩ | refine ⟨_, q_loadA_extb rfl rfl rfl rfl ⟨by assumption, (by first | exact id | assumption)⟩ (by rfl), ?_⟩ | refine ⟨_, q_load_ext0 rfl rfl rfl rfl ⟨by assumption, (by first | exact id | assumption)⟩ (by rfl), ?_⟩) | refine jar rfl rfl rfl rfl rfl rfl rfl (by omega) ?_ | (refine j_qe rfl rfl rfl ?_; first | refine ⟨_, q_index_nat rfl rfl rfl rfl rfl (by omega), ?_⟩ | refine ⟨_, q_index_slice rfl rfl rfl rfl rfl (by omega), ?_⟩ | refine ⟨_, q_index_arr rfl rfl rfl rfl rfl (by omega), ?_⟩ | refine ⟨_, q_index_arr_ext rfl rfl rfl rfl rfl (by omega), ?_⟩ | refine ⟨_, q_len_slice rfl rfl rfl rfl, ?_⟩ | refine ⟨_, q_addu8 rfl rfl rfl (by omega), ?_⟩)) | (refine gSC ?_; first | refine sc_mv rfl ?_ | refine sc_q rfl ?_ | refine sc_region ?_ | refine sc_draw rfl mixed (by kernel_rfl) ?_) | (refine gSQ ?_; first | refine sq_go rfl ?_ | refine sq_mv rfl ?_ | refine sq_ende (by first | exact .inl rfl | exact .inr rfl) rfl rfl ⟨_, (RVs.cons (RV.tmp rfl) (RVs.nil)), ?_⟩) | refine j_nil ?_ | ((refine sc_cond rfl ?_ ?_) <;> intro hc <;> (first | exact absurd hc (by decide) | ((try simp only [engHC] at hc) <;> first | (exfalso; omega) | exact absurd trivial hc | skip))))
    refine sc_loop (ι := Nat) (fun i => i ≤ n ∧ sameF l m = sameF (l.drop i) (m.drop i)) (fun i => n - i) (fun i => [(0, .slice A n c), (1, .slice B n bc), (5, .int .i64 i)]) (fun _ => []) 0 ⟨by omega, rfl⟩ (by repeat (first | exact FSub.nil | refine FSub.cons rfl ?_ | refine FSub.conse rfl (by congr 1; omega) ?_)) (by repeat (first | exact LSub.nil | refine LSub.cons (by repeat (first | exact Rem.here | apply Rem.there)) ?_)) ?_
    rintro i ⟨hi, hr⟩
    by_cases hlt : i < n
    · obtain ⟨x, hx⟩ : ∃ x, l[i]? = some x := ⟨_, List.getElem?_eq_getElem (by omega)⟩
      obtain ⟨y, hy⟩ : ∃ y, m[i]? = some y := ⟨_, List.getElem?_eq_getElem (by omega)⟩
      obtain ⟨ad, rfl, hX⟩ := h i x hx
      obtain ⟨ad2, rfl, hY⟩ := h2 i y hy
      rw [drop_cons2 hx, drop_cons2 hy, sameF] at hr
      repeat' (first | (refine gJ ?_; first | refine js rfl rfl rfl rfl ?_ | (refine gload rfl rfl ?_; refine j_qe rfl rfl rfl ?_; first | refine ⟨_, q_load_own rfl rfl rfl rfl (by (repeat constructor)) (by first | rfl | assumption), ?_⟩ | refine ⟨_, q_loadA_own rfl rfl rfl rfl (by (repeat constructor)) (by rfl), ?_⟩ | refine ⟨_, q_loadA_ext rfl rfl rfl rfl ⟨by assumption, (by first | exact id | assumption)⟩ (by rfl), ?_⟩ | refine ⟨_, q_load_ext rfl rfl rfl rfl ⟨by assumption, (by first | exact id | assumption)⟩ (by first | rfl | assumption), ?_⟩ | refine ⟨_, q_load_extb rfl rfl rfl rfl ⟨by assumption, (by first | exact id | assumption)⟩ (by rfl), ?_⟩ | refine ⟨_, q_loadA_extb rfl rfl rfl rfl ⟨by assumption, (by first | exact id | assumption)⟩ (by rfl), ?_⟩ | refine ⟨_, q_load_ext0 rfl rfl rfl rfl ⟨by assumption, (by first | exact id | assumption)⟩ (by rfl), ?_⟩) | refine jar rfl rfl rfl rfl rfl rfl rfl (by omega) ?_ | (refine j_qe rfl rfl rfl ?_; first | refine ⟨_, q_index_nat rfl rfl rfl rfl rfl (by omega), ?_⟩ | refine ⟨_, q_index_slice rfl rfl rfl rfl rfl (by omega), ?_⟩ | refine ⟨_, q_index_arr rfl rfl rfl rfl rfl (by omega), ?_⟩ | refine ⟨_, q_index_arr_ext rfl rfl rfl rfl rfl (by omega), ?_⟩ | refine ⟨_, q_len_slice rfl rfl rfl rfl, ?_⟩ | refine ⟨_, q_addu8 rfl rfl rfl (by omega), ?_⟩)) | (refine gSC ?_; first | refine sc_mv rfl ?_ | refine sc_q rfl ?_ | refine sc_region ?_ | refine sc_draw rfl mixed (by kernel_rfl) ?_) | (refine gSQ ?_; first | refine sq_go rfl ?_ | refine sq_mv rfl ?_ | refine sq_ende (by first | exact .inl rfl | exact .inr rfl) rfl rfl ⟨_, (RVs.cons (RV.tmp rfl) (RVs.nil)), ?_⟩) | refine j_nil ?_ | ((refine sc_cond rfl ?_ ?_) <;> intro hc <;> (first | exact absurd hc (by decide) | ((try simp only [engHC] at hc) <;> first | (exfalso; omega) | exact absurd trivial hc | skip))))
      · (intro w' hS; refine ⟨?_, hS.below⟩; simp only [pack])
        exact rb (by rw [hr, decide_eq_false (by assumption)]; rfl)
      · exact sq_loop (i + 1) ⟨by show i + 1 ≤ n; omega, by rw [hr, decide_eq_true (by assumption)]; rfl⟩ (by show n - (i + 1) < n - i; omega) (by repeat (first | exact FSub.nil | refine FSub.cons rfl ?_ | refine FSub.conse rfl (by congr 1; omega) ?_)) (by repeat (first | exact LSub.nil | refine LSub.cons (by repeat (first | exact Rem.here | apply Rem.there)) ?_))
    · have e1 : l.drop i = [] := List.drop_of_length_le (by omega)
      have e2 : m.drop i = [] := List.drop_of_length_le (by omega)
      rw [e1, e2] at hr
      repeat' (first | (refine gJ ?_; first | refine js rfl rfl rfl rfl ?_ | (refine gload rfl rfl ?_; refine j_qe rfl rfl rfl ?_; first | refine ⟨_, q_load_own rfl rfl rfl rfl (by (repeat constructor)) (by first | rfl | assumption), ?_⟩ | refine ⟨_, q_loadA_own rfl rfl rfl rfl (by (repeat constructor)) (by rfl), ?_⟩ | refine ⟨_, q_loadA_ext rfl rfl rfl rfl ⟨by assumption, (by first | exact id | assumption)⟩ (by rfl), ?_⟩ | refine ⟨_, q_load_ext rfl rfl rfl rfl ⟨by assumption, (by first | exact id | assumption)⟩ (by first | rfl | assumption), ?_⟩ | refine ⟨_, q_load_extb rfl rfl rfl rfl ⟨by assumption, (by first | exact id | assumption)⟩ (by rfl), ?_⟩ | refine ⟨_, q_loadA_extb rfl rfl rfl rfl ⟨by assumption, (by first | exact id | assumption)⟩ (by rfl), ?_⟩ | refine ⟨_, q_load_ext0 rfl rfl rfl rfl ⟨by assumption, (by first | exact id | assumption)⟩ (by rfl), ?_⟩) | refine jar rfl rfl rfl rfl rfl rfl rfl (by omega) ?_ | (refine j_qe rfl rfl rfl ?_; first | refine ⟨_, q_index_nat rfl rfl rfl rfl rfl (by omega), ?_⟩ | refine ⟨_, q_index_slice rfl rfl rfl rfl rfl (by omega), ?_⟩ | refine ⟨_, q_index_arr rfl rfl rfl rfl rfl (by omega), ?_⟩ | refine ⟨_, q_index_arr_ext rfl rfl rfl rfl rfl (by omega), ?_⟩ | refine ⟨_, q_len_slice rfl rfl rfl rfl, ?_⟩ | refine ⟨_, q_addu8 rfl rfl rfl (by omega), ?_⟩)) | (refine gSC ?_; first | refine sc_mv rfl ?_ | refine sc_q rfl ?_ | refine sc_region ?_ | refine sc_draw rfl mixed (by kernel_rfl) ?_) | (refine gSQ ?_; first | refine sq_go rfl ?_ | refine sq_mv rfl ?_ | refine sq_ende (by first | exact .inl rfl | exact .inr rfl) rfl rfl ⟨_, (RVs.cons (RV.tmp rfl) (RVs.nil)), ?_⟩) | refine j_nil ?_ | ((refine sc_cond rfl ?_ ?_) <;> intro hc <;> (first | exact absurd hc (by decide) | ((try simp only [engHC] at hc) <;> first | (exfalso; omega) | exact absurd trivial hc | skip))))
      (intro w' hS; refine ⟨?_, hS.below⟩; simp only [pack])
      exact rb (by rw [hr]; rfl)
  · rw [sameF_len l m hne]
    generalize l.length = n at *
    generalize m.length = k at *
    refine eng_start (n := 26) (args := [.slice A n c, .slice B k bc]) tab tab_ok fns fns_ok [.tmp 4] Try.func18 rfl rfl rfl rfl ?_
    repeat' (first | (refine gJ ?_; first | refine js rfl rfl rfl rfl ?_ | (refine gload rfl rfl ?_; refine j_qe rfl rfl rfl ?_; first | refine ⟨_, q_load_own rfl rfl rfl rfl (by (repeat constructor)) (by first | rfl | assumption), ?_⟩ | refine ⟨_, q_loadA_own rfl rfl rfl rfl (by (repeat constructor)) (by rfl), ?_⟩ | refine ⟨_, q_loadA_ext rfl rfl rfl rfl ⟨by assumption, (by first | exact id | assumption)⟩ (by rfl), ?_⟩ | refine ⟨_, q_load_ext rfl rfl rfl rfl ⟨by assumption, (by first | exact id | assumption)⟩ (by first | rfl | assumption), ?_⟩ | refine ⟨_, q_load_extb rfl rfl rfl rfl ⟨by assumption, (by first | exact id | assumption)⟩ (by rfl), ?_⟩ | refine ⟨_, q_loadA_extb rfl rfl rfl rfl ⟨by assumption, (by first | exact id | assumption)⟩ (by rfl), ?_⟩ | refine ⟨_, q_load_ext0 rfl rfl rfl rfl ⟨by assumption, (by first | exact id | assumption)⟩ (by rfl), ?_⟩) | refine jar rfl rfl rfl rfl rfl rfl rfl (by omega) ?_ | (refine j_qe rfl rfl rfl ?_; first | refine ⟨_, q_index_nat rfl rfl rfl rfl rfl (by omega), ?_⟩ | refine ⟨_, q_index_slice rfl rfl rfl rfl rfl (by omega), ?_⟩ | refine ⟨_, q_index_arr rfl rfl rfl rfl rfl (by omega), ?_⟩ | refine ⟨_, q_index_arr_ext rfl rfl rfl rfl rfl (by omega), ?_⟩ | refine ⟨_, q_len_slice rfl rfl rfl rfl, ?_⟩ | refine ⟨_, q_addu8 rfl rfl rfl (by omega), ?_⟩)) | (refine gSC ?_; first | refine sc_mv rfl ?_ | refine sc_q rfl ?_ | refine sc_region ?_ | refine sc_draw rfl mixed (by kernel_rfl) ?_) | (refine gSQ ?_; first | refine sq_go rfl ?_ | refine sq_mv rfl ?_ | refine sq_ende (by first | exact .inl rfl | exact .inr rfl) rfl rfl ⟨_, (RVs.cons (RV.tmp rfl) (RVs.nil)), ?_⟩) | refine j_nil ?_ | ((refine sc_cond rfl ?_ ?_) <;> intro hc <;> (first | exact absurd hc (by decide) | ((try simp only [engHC] at hc) <;> first | (exfalso; omega) | exact absurd trivial hc | skip))))
    (intro w' hS; refine ⟨?_, hS.below⟩; simp only [pack])
def fewF (W : List (List UInt8)) : Bool := decide ((∀ u ∈ W, u.length ≤ 70) ∧ W.length ≤ 200)
set_option maxRecDepth 4000 in
theorem few_c (A : Option Addr) (c : Nat) (W : List (List UInt8)) (w : World) (hs : Sl A W.length c) (h : RS w 1 strC A W) : Calls Try.prog 8 #[.slice A W.length c] w fun e w' => e = .returned (.bool (fewF W)) ∧ Below w.heap.size w w' := by
  have htop := hs.top
  have hcn := hs.le
  generalize hn : W.length = n at *
  refine eng_start (n := 19) (args := [.slice A n c]) tab tab_ok fns fns_ok [.tmp 2] Try.func8 rfl rfl rfl rfl ?_
  repeat' (first | (refine gJ ?_; first | refine js rfl rfl rfl rfl ?_ | (refine gload rfl rfl ?_; refine j_qe rfl rfl rfl ?_; first | refine ⟨_, q_load_own rfl rfl rfl rfl (by (repeat constructor)) (by first | rfl | assumption), ?_⟩ | refine ⟨_, q_loadA_own rfl rfl rfl rfl (by (repeat constructor)) (by rfl), ?_⟩ | refine ⟨_, q_loadA_ext rfl rfl rfl rfl ⟨by assumption, (by first | exact id | assumption)⟩ (by rfl), ?_⟩ | refine ⟨_, q_load_ext rfl rfl rfl rfl ⟨by assumption, (by first | exact id | assumption)⟩ (by first | rfl | assumption), ?_⟩ | refine ⟨_, q_load_extb rfl rfl rfl rfl ⟨by assumption, (by first | exact id | assumption)⟩ (by rfl), ?_⟩ | refine ⟨_, q_loadA_extb rfl rfl rfl rfl ⟨by assumption, (by first | exact id | assumption)⟩ (by rfl), ?_⟩ | refine ⟨_, q_load_ext0 rfl rfl rfl rfl ⟨by assumption, (by first | exact id | assumption)⟩ (by rfl), ?_⟩) | refine jar rfl rfl rfl rfl rfl rfl rfl (by omega) ?_ | (refine j_qe rfl rfl rfl ?_; first | refine ⟨_, q_index_nat rfl rfl rfl rfl rfl (by omega), ?_⟩ | refine ⟨_, q_index_slice rfl rfl rfl rfl rfl (by omega), ?_⟩ | refine ⟨_, q_index_arr rfl rfl rfl rfl rfl (by omega), ?_⟩ | refine ⟨_, q_index_arr_ext rfl rfl rfl rfl rfl (by omega), ?_⟩ | refine ⟨_, q_len_slice rfl rfl rfl rfl, ?_⟩ | refine ⟨_, q_addu8 rfl rfl rfl (by omega), ?_⟩)) | (refine gSC ?_; first | refine sc_mv rfl ?_ | refine sc_q rfl ?_ | refine sc_region ?_) | (refine gSQ ?_; first | refine sq_go rfl ?_ | refine sq_mv rfl ?_ | refine sq_ende (by first | exact .inl rfl | exact .inr rfl) rfl rfl ⟨_, (RVs.cons (RV.tmp rfl) (RVs.nil)), ?_⟩) | refine j_nil ?_ | ((refine sc_cond rfl ?_ ?_) <;> intro hc <;> (first | exact absurd hc (by decide) | ((try simp only [engHC] at hc) <;> first | (exfalso; omega) | exact absurd trivial hc | skip))))
  refine sc_loop (ι := Nat) (fun i => i ≤ n ∧ ∀ (j : Nat) u, W[j]? = some u → j < i → u.length ≤ 70) (fun i => n - i) (fun i => [(0, .slice A n c), (3, .int .i64 i)]) (fun _ => []) 0 ⟨by omega, fun j u _ hj => by omega⟩ (by (try dsimp only); exact (by repeat (first | exact FSub.nil | refine FSub.cons rfl ?_ | refine FSub.conse rfl (by congr 1; omega) ?_))) (by repeat (first | exact LSub.refl | refine LSub.cons (by repeat (first | exact Rem.here | apply Rem.there)) ?_ | apply LSub.skip)) ?_
  rintro i ⟨hi, hr⟩
  dsimp only at hi hr ⊢
  by_cases hlt : i < n
  · obtain ⟨u, hu⟩ : ∃ u, W[i]? = some u := ⟨_, List.getElem?_eq_getElem (by omega)⟩
    obtain ⟨ad, rfl, hX⟩ := h i u hu
    by_cases hul : 70 < u.length
    · have e : fewF W = false := decide_eq_false fun g => by have := g.1 u (List.mem_of_getElem? hu); omega
      rw [e]
      repeat' (first | (refine gJ ?_; first | refine js rfl rfl rfl rfl ?_ | (refine gload rfl rfl ?_; refine j_qe rfl rfl rfl ?_; first | refine ⟨_, q_load_own rfl rfl rfl rfl (by (repeat constructor)) (by first | rfl | assumption), ?_⟩ | refine ⟨_, q_loadA_own rfl rfl rfl rfl (by (repeat constructor)) (by rfl), ?_⟩ | refine ⟨_, q_loadA_ext rfl rfl rfl rfl ⟨by assumption, (by first | exact id | assumption)⟩ (by rfl), ?_⟩ | refine ⟨_, q_load_ext rfl rfl rfl rfl ⟨by assumption, (by first | exact id | assumption)⟩ (by first | rfl | assumption), ?_⟩ | refine ⟨_, q_load_extb rfl rfl rfl rfl ⟨by assumption, (by first | exact id | assumption)⟩ (by rfl), ?_⟩ | refine ⟨_, q_loadA_extb rfl rfl rfl rfl ⟨by assumption, (by first | exact id | assumption)⟩ (by rfl), ?_⟩ | refine ⟨_, q_load_ext0 rfl rfl rfl rfl ⟨by assumption, (by first | exact id | assumption)⟩ (by rfl), ?_⟩) | refine jar rfl rfl rfl rfl rfl rfl rfl (by omega) ?_ | (refine j_qe rfl rfl rfl ?_; refine ⟨_, q_len_str rfl Try.underlying9 rfl, ?_⟩) | (refine j_qe rfl rfl rfl ?_; first | refine ⟨_, q_index_nat rfl rfl rfl rfl rfl (by omega), ?_⟩ | refine ⟨_, q_index_slice rfl rfl rfl rfl rfl (by omega), ?_⟩ | refine ⟨_, q_index_arr rfl rfl rfl rfl rfl (by omega), ?_⟩ | refine ⟨_, q_index_arr_ext rfl rfl rfl rfl rfl (by omega), ?_⟩ | refine ⟨_, q_len_slice rfl rfl rfl rfl, ?_⟩ | refine ⟨_, q_addu8 rfl rfl rfl (by omega), ?_⟩)) | (refine gSC ?_; first | refine sc_mv rfl ?_ | refine sc_q rfl ?_ | refine sc_region ?_) | (refine gSQ ?_; first | refine sq_go rfl ?_ | refine sq_mv rfl ?_ | refine sq_ende (by first | exact .inl rfl | exact .inr rfl) rfl rfl ⟨_, (RVs.cons (RV.tmp rfl) (RVs.nil)), ?_⟩) | refine j_nil ?_ | ((refine sc_cond rfl ?_ ?_) <;> intro hc <;> (first | exact absurd hc (by decide) | ((try simp only [engHC] at hc) <;> first | (exfalso; omega) | exact absurd trivial hc | skip))))
      all_goals first
        | (exfalso; omega)
        | (intro w' hS; refine ⟨?_, hS.below⟩; simp only [pack])
    · repeat' (first | (refine gJ ?_; first | refine js rfl rfl rfl rfl ?_ | (refine gload rfl rfl ?_; refine j_qe rfl rfl rfl ?_; first | refine ⟨_, q_load_own rfl rfl rfl rfl (by (repeat constructor)) (by first | rfl | assumption), ?_⟩ | refine ⟨_, q_loadA_own rfl rfl rfl rfl (by (repeat constructor)) (by rfl), ?_⟩ | refine ⟨_, q_loadA_ext rfl rfl rfl rfl ⟨by assumption, (by first | exact id | assumption)⟩ (by rfl), ?_⟩ | refine ⟨_, q_load_ext rfl rfl rfl rfl ⟨by assumption, (by first | exact id | assumption)⟩ (by first | rfl | assumption), ?_⟩ | refine ⟨_, q_load_extb rfl rfl rfl rfl ⟨by assumption, (by first | exact id | assumption)⟩ (by rfl), ?_⟩ | refine ⟨_, q_loadA_extb rfl rfl rfl rfl ⟨by assumption, (by first | exact id | assumption)⟩ (by rfl), ?_⟩ | refine ⟨_, q_load_ext0 rfl rfl rfl rfl ⟨by assumption, (by first | exact id | assumption)⟩ (by rfl), ?_⟩) | refine jar rfl rfl rfl rfl rfl rfl rfl (by omega) ?_ | (refine j_qe rfl rfl rfl ?_; refine ⟨_, q_len_str rfl Try.underlying9 rfl, ?_⟩) | (refine j_qe rfl rfl rfl ?_; first | refine ⟨_, q_index_nat rfl rfl rfl rfl rfl (by omega), ?_⟩ | refine ⟨_, q_index_slice rfl rfl rfl rfl rfl (by omega), ?_⟩ | refine ⟨_, q_index_arr rfl rfl rfl rfl rfl (by omega), ?_⟩ | refine ⟨_, q_index_arr_ext rfl rfl rfl rfl rfl (by omega), ?_⟩ | refine ⟨_, q_len_slice rfl rfl rfl rfl, ?_⟩ | refine ⟨_, q_addu8 rfl rfl rfl (by omega), ?_⟩)) | (refine gSC ?_; first | refine sc_mv rfl ?_ | refine sc_q rfl ?_ | refine sc_region ?_) | (refine gSQ ?_; first | refine sq_go rfl ?_ | refine sq_mv rfl ?_ | refine sq_ende (by first | exact .inl rfl | exact .inr rfl) rfl rfl ⟨_, (RVs.cons (RV.tmp rfl) (RVs.nil)), ?_⟩) | refine j_nil ?_ | ((refine sc_cond rfl ?_ ?_) <;> intro hc <;> (first | exact absurd hc (by decide) | ((try simp only [engHC] at hc) <;> first | (exfalso; omega) | exact absurd trivial hc | skip))))
      refine sq_loop (i + 1) ⟨hlt, fun j v hv hj => ?_⟩ (by show n - (i + 1) < n - i; omega) (by (try dsimp only); exact (by repeat (first | exact FSub.nil | refine FSub.cons rfl ?_ | refine FSub.conse rfl (by congr 1; omega) ?_))) (by repeat (first | exact LSub.refl | refine LSub.cons (by repeat (first | exact Rem.here | apply Rem.there)) ?_ | apply LSub.skip))
      by_cases e : j = i
      · subst e
        rw [hu] at hv
        injection hv with hv
        subst hv
        omega
      · exact hr j v hv (by omega)
  · have hall : ∀ u ∈ W, u.length ≤ 70 := fun u hu => by
      obtain ⟨j, hj, e⟩ := List.mem_iff_getElem.1 hu
      exact hr j u (by rw [List.getElem?_eq_getElem hj, e]) (by omega)
    have e : fewF W = decide ((n : Int) ≤ 200) := by
      unfold fewF
      rw [decide_eq_decide, hn]
      exact ⟨fun g => by omega, fun g => ⟨hall, by omega⟩⟩
    rw [e]
    repeat' (first | (refine gJ ?_; first | refine js rfl rfl rfl rfl ?_ | (refine gload rfl rfl ?_; refine j_qe rfl rfl rfl ?_; first | refine ⟨_, q_load_own rfl rfl rfl rfl (by (repeat constructor)) (by first | rfl | assumption), ?_⟩ | refine ⟨_, q_loadA_own rfl rfl rfl rfl (by (repeat constructor)) (by rfl), ?_⟩ | refine ⟨_, q_loadA_ext rfl rfl rfl rfl ⟨by assumption, (by first | exact id | assumption)⟩ (by rfl), ?_⟩ | refine ⟨_, q_load_ext rfl rfl rfl rfl ⟨by assumption, (by first | exact id | assumption)⟩ (by first | rfl | assumption), ?_⟩ | refine ⟨_, q_load_extb rfl rfl rfl rfl ⟨by assumption, (by first | exact id | assumption)⟩ (by rfl), ?_⟩ | refine ⟨_, q_loadA_extb rfl rfl rfl rfl ⟨by assumption, (by first | exact id | assumption)⟩ (by rfl), ?_⟩ | refine ⟨_, q_load_ext0 rfl rfl rfl rfl ⟨by assumption, (by first | exact id | assumption)⟩ (by rfl), ?_⟩) | refine jar rfl rfl rfl rfl rfl rfl rfl (by omega) ?_ | (refine j_qe rfl rfl rfl ?_; first | refine ⟨_, q_index_nat rfl rfl rfl rfl rfl (by omega), ?_⟩ | refine ⟨_, q_index_slice rfl rfl rfl rfl rfl (by omega), ?_⟩ | refine ⟨_, q_index_arr rfl rfl rfl rfl rfl (by omega), ?_⟩ | refine ⟨_, q_index_arr_ext rfl rfl rfl rfl rfl (by omega), ?_⟩ | refine ⟨_, q_len_slice rfl rfl rfl rfl, ?_⟩ | refine ⟨_, q_addu8 rfl rfl rfl (by omega), ?_⟩)) | (refine gSC ?_; first | refine sc_mv rfl ?_ | refine sc_q rfl ?_ | refine sc_region ?_) | (refine gSQ ?_; first | refine sq_go rfl ?_ | refine sq_mv rfl ?_ | refine sq_ende (by first | exact .inl rfl | exact .inr rfl) rfl rfl ⟨_, (RVs.cons (RV.tmp rfl) (RVs.nil)), ?_⟩) | refine j_nil ?_ | ((refine sc_cond rfl ?_ ?_) <;> intro hc <;> (first | exact absurd hc (by decide) | ((try simp only [engHC] at hc) <;> first | (exfalso; omega) | exact absurd trivial hc | skip))))
    (intro w' hS; refine ⟨?_, hS.below⟩; simp only [pack])
end Go.Proofs.Ytagndgidfaladaa

/-
  Helpers of the laws: HasPrefix, ones.
-/
namespace Go.Proofs.Ytagndgidfaladaa
open Go.RowKit Eng
set_option linter.unusedVariables false
set_option linter.unusedSimpArgs false
set_option maxHeartbeats 8000000
attribute [local irreducible] SC SQ J Qt Calls Iterates LSub FSub
def preB (s p : List UInt8) : Bool := decide (p <+: s)
theorem preS_c (s p : List UInt8) (w : World) : Calls Try.prog 35 #[strV s, strV p] w fun e w' => e = .returned (.bool (preB s p)) ∧ Below w.heap.size w w' := by
  by_cases hl : p.length ≤ s.length
  · have e : preB s p = decide (s.take p.length = p) := by
      unfold preB
      rw [decide_eq_decide]
      rw [List.prefix_iff_eq_take]
      exact eq_comm
    rw [e]
    refine eng_start (n := 18) (args := [strV s, strV p]) tab tab_ok fns fns_ok [.tmp 4] Try.func35 rfl rfl rfl rfl ?_
    repeat' (first | (refine gJ ?_; first | refine js rfl rfl rfl rfl ?_ | (refine j_qe rfl rfl rfl ?_; refine ⟨_, q_len_str rfl Try.underlying9 rfl, ?_⟩) | (refine j_qe rfl rfl rfl ?_; refine ⟨_, q_slice_strHi p.length rfl Try.underlying9 rfl rfl rfl hl, ?_⟩) | (refine j_qe rfl rfl rfl ?_; refine ⟨_, q_eql_str rfl rfl rfl, ?_⟩) | (refine j_qe rfl rfl rfl ?_; first | refine ⟨_, q_len_slice rfl rfl rfl rfl, ?_⟩) | refine j_guard_undef rfl rfl rfl rfl rfl ?_) | (refine gSC ?_; first | refine sc_mv rfl ?_ | refine sc_q rfl ?_ | refine sc_region ?_) | (refine gSQ ?_; first | refine sq_go rfl ?_ | refine sq_mv rfl ?_ | refine sq_ende (by first | exact .inl rfl | exact .inr rfl) rfl rfl ⟨_, (RVs.cons (RV.tmp rfl) (RVs.nil)), ?_⟩) | refine j_nil ?_ | ((first | refine j_guard rfl rfl rfl rfl rfl ?_ ?_ | refine sc_cond rfl ?_ ?_) <;> intro hc <;> (first | exact absurd hc (by decide) | ((try simp only [engHC] at hc) <;> first | (exfalso; omega) | exact absurd trivial hc | skip))))
    all_goals first
      | (exfalso; omega)
      | (intro w' hS; refine ⟨?_, hS.below⟩; simp only [pack])
  · have e : preB s p = false := decide_eq_false fun g => hl g.length_le
    rw [e]
    refine eng_start (n := 18) (args := [strV s, strV p]) tab tab_ok fns fns_ok [.tmp 4] Try.func35 rfl rfl rfl rfl ?_
    repeat' (first | (refine gJ ?_; first | refine js rfl rfl rfl rfl ?_ | (refine j_qe rfl rfl rfl ?_; refine ⟨_, q_len_str rfl Try.underlying9 rfl, ?_⟩) | (refine j_qe rfl rfl rfl ?_; first | refine ⟨_, q_len_slice rfl rfl rfl rfl, ?_⟩) | refine j_guard_undef rfl rfl rfl rfl rfl ?_) | (refine gSC ?_; first | refine sc_mv rfl ?_ | refine sc_q rfl ?_ | refine sc_region ?_) | (refine gSQ ?_; first | refine sq_go rfl ?_ | refine sq_mv rfl ?_ | refine sq_ende (by first | exact .inl rfl | exact .inr rfl) rfl rfl ⟨_, (RVs.cons (RV.tmp rfl) (RVs.nil)), ?_⟩) | refine j_nil ?_ | ((first | refine j_guard rfl rfl rfl rfl rfl ?_ ?_ | refine sc_cond rfl ?_ ?_) <;> intro hc <;> (first | exact absurd hc (by decide) | ((try simp only [engHC] at hc) <;> first | (exfalso; omega) | exact absurd trivial hc | skip))))
    all_goals first
      | (exfalso; omega)
      | (intro w' hS; refine ⟨?_, hS.below⟩; simp only [pack])
theorem hasPre_c (s p : List UInt8) (w : World) : Calls Try.prog 17 #[strV s, strV p] w fun e w' => e = .returned (.bool (preB s p)) ∧ Below w.heap.size w w' := by
  refine eng_start (n := 8) (args := [strV s, strV p]) tab tab_ok fns fns_ok [.tmp 4] Try.func17 rfl rfl rfl rfl ?_
  repeat' (first | (refine gJ ?_; first | refine js rfl rfl rfl rfl ?_ | (refine gcall rfl rfl ?_; first | (refine j_qc (f := 35) rfl rfl rfl rfl rfl rfl rfl ?_; refine ⟨_, (fun w' _ => preS_c s p w'), ?_⟩))) | (refine gSC ?_; first | refine sc_mv rfl ?_ | refine sc_q rfl ?_ | refine sc_region ?_) | (refine gSQ ?_; first | refine sq_go rfl ?_ | refine sq_mv rfl ?_ | refine sq_ende (by first | exact .inl rfl | exact .inr rfl) rfl rfl ⟨_, (RVs.cons (RV.tmp rfl) (RVs.nil)), ?_⟩) | refine j_nil ?_ | ((refine sc_cond rfl ?_ ?_) <;> intro hc <;> (first | exact absurd hc (by decide) | ((try simp only [engHC] at hc) <;> first | (exfalso; omega) | exact absurd trivial hc | skip))))
  (intro w' hS; refine ⟨?_, hS.below⟩; simp only [pack])
theorem ones_c (w : World) : Calls Try.prog 20 #[] w fun e w' => e = .returned (csV ⟨1, 1, 1, 1⟩) ∧ Below w.heap.size w w' := by
  refine eng_start (n := 2) (args := []) tab tab_ok fns fns_ok [.cell 0 24] Try.func20 rfl rfl rfl rfl ?_
  repeat' (first | (refine gJ ?_; first | refine js rfl rfl rfl rfl ?_ | (refine gF ?_; first | refine j_store rfl rfl rfl rfl rfl rfl rfl rfl (by (repeat constructor)) (by rfl) ?_ | (refine j_alloc rfl rfl rfl rfl rfl ?_; intro b)) | (refine j_qe rfl rfl rfl ?_; first | refine ⟨_, q_build_struct rfl rfl rfl rfl rfl, ?_⟩ | refine ⟨_, q_build_arr rfl rfl rfl rfl rfl, ?_⟩)) | (refine gSC ?_; first | refine sc_mv rfl ?_ | refine sc_q rfl ?_ | refine sc_region ?_) | (refine gSQ ?_; first | refine sq_go rfl ?_ | refine sq_mv rfl ?_ | refine sq_ende (by first | exact .inl rfl | exact .inr rfl) rfl rfl ⟨_, (RVs.cons (by first | exact RV.cell rfl rfl rfl (by (repeat constructor)) (by rfl) | exact RV.cellA rfl rfl rfl (by (repeat constructor)) (by rfl)) (RVs.nil)), ?_⟩) | refine j_nil ?_ | ((refine sc_cond rfl ?_ ?_) <;> intro hc <;> (first | exact absurd hc (by decide) | ((try simp only [engHC] at hc) <;> first | (exfalso; omega) | exact absurd trivial hc | skip))))
  ((intro w' hS; refine ⟨?_, hS.below⟩; simp only [pack]); rfl)
end Go.Proofs.Ytagndgidfaladaa

/-
  Helpers of the laws: the same hits.
-/
namespace Go.Proofs.Ytagndgidfaladaa
open Go.RowKit Eng
set_option linter.unusedVariables false
set_option linter.unusedSimpArgs false
set_option maxHeartbeats 8000000
attribute [local irreducible] SC SQ J Qt Calls Iterates LSub FSub
theorem H_eq (a b : Ht) : a = b ↔ a.w = b.w ∧ a.c = b.c := by
  cases a; cases b; simp
theorem eqm38 : Try.prog.eqGuardType Try.prog.depth 38 = false := by kernel_rfl
theorem eq38 (a b : Ht) (w : World) : (Op.equalIn 10000 38 (.agg (htC a).toArray) (.agg (htC b).toArray)).run Try.prog w = .ok (decide (a = b)) w := by
  have u3 := Try.underlying3
  have a3 := Try.isAgg3
  have z3 := Try.sizeOf3
  rw [run_equalIn_agg w 9999 38 _ _ (by kernel_rfl) (by kernel_rfl)]
  simp only [Program.fieldsOf, Try.underlying38]
  go_simp
  have e : decide (a = b) = decide (a.w = b.w ∧ a.c = b.c) := decide_eq_decide.2 (H_eq a b)
  rw [e]
  by_cases h0 : a.w = b.w <;> by_cases h1 : a.c = b.c <;> simp [h0, h1]
theorem eq38d (a b : Ht) (r : Bool) (h : decide (a = b) = r) (w : World) : (Op.equalIn 10000 38 (.agg (htC a).toArray) (.agg (htC b).toArray)).run Try.prog w = .ok r w := by rw [← h]; exact eq38 a b w
set_option maxRecDepth 4000 in
theorem sameH_c (A : Option Addr) (c : Nat) (l : List Ht) (B : Option Addr) (bc : Nat) (m : List Ht) (w : World) (hl : l.length ≤ 9223372036854775806) (hm : m.length ≤ 9223372036854775806) (h : RS w 2 htC A l) (h2 : RS w 2 htC B m) :
    Calls Try.prog 14 #[.slice A l.length c, .slice B m.length bc] w fun e w' => e = .returned (.bool (decide (l = m))) ∧ Below w.heap.size w w' := by
  by_cases hne : l.length = m.length
  · generalize hn : l.length = n at *
    rw [← hne]
    have hm2 := hne.symm
    clear hm
    refine eng_start (n := 26) (args := [.slice A n c, .slice B n bc]) tab tab_ok fns fns_ok [.tmp 4] Try.func14 rfl rfl rfl rfl ?_
    repeat' (first | (refine gJ ?_; first | refine js rfl rfl rfl rfl ?_ | (refine gload rfl rfl ?_; refine j_qe rfl rfl rfl ?_; first | refine ⟨_, q_load_own rfl rfl rfl rfl (by (repeat constructor)) (by first | rfl | assumption), ?_⟩ | refine ⟨_, q_loadA_own rfl rfl rfl rfl (by (repeat constructor)) (by rfl), ?_⟩ | refine ⟨_, q_loadA_ext rfl rfl rfl rfl ⟨by assumption, (by first | exact id | assumption)⟩ (by rfl), ?_⟩ | refine ⟨_, q_load_ext rfl rfl rfl rfl ⟨by assumption, (by first | exact id | assumption)⟩ (by first | rfl | assumption), ?_⟩ | refine ⟨_, q_load_extb rfl rfl rfl rfl ⟨by assumption, (by first | exact id | assumption)⟩ (by rfl), ?_⟩ | refine ⟨_, q_loadA_extb rfl rfl rfl rfl ⟨by assumption, (by first | exact id | assumption)⟩ (by rfl), ?_⟩ | refine ⟨_, q_load_ext0 rfl rfl rfl rfl ⟨by assumption, (by first | exact id | assumption)⟩ (by rfl), ?_⟩) | refine jar rfl rfl rfl rfl rfl rfl rfl (by omega) ?_ | (refine j_qe rfl rfl rfl ?_; first | refine ⟨_, q_index_nat rfl rfl rfl rfl rfl (by omega), ?_⟩ | refine ⟨_, q_index_slice rfl rfl rfl rfl rfl (by omega), ?_⟩ | refine ⟨_, q_index_arr rfl rfl rfl rfl rfl (by omega), ?_⟩ | refine ⟨_, q_index_arr_ext rfl rfl rfl rfl rfl (by omega), ?_⟩ | refine ⟨_, q_len_slice rfl rfl rfl rfl, ?_⟩ | refine ⟨_, q_addu8 rfl rfl rfl (by omega), ?_⟩)) | (refine gSC ?_; first | refine sc_mv rfl ?_ | refine sc_q rfl ?_ | refine sc_region ?_ | refine sc_draw rfl mixed (by kernel_rfl) ?_) | (refine gSQ ?_; first | refine sq_go rfl ?_ | refine sq_mv rfl ?_ | refine sq_ende (by first | exact .inl rfl | exact .inr rfl) rfl rfl ⟨_, (RVs.cons (RV.tmp rfl) (RVs.nil)), ?_⟩) | refine j_nil ?_ | ((refine sc_cond rfl ?_ ?_) <;> intro hc <;> (first | exact absurd hc (by decide) | ((try simp only [engHC] at hc) <;> first | (exfalso; omega) | exact absurd trivial hc | skip))))
    refine sc_loop (ι := Nat) (fun i => i ≤ n ∧ decide (l = m) = decide (l.drop i = m.drop i)) (fun i => n - i) (fun i => [(0, .slice A n c), (1, .slice B n bc), (5, .int .i64 i)]) (fun _ => []) 0 ⟨by omega, rfl⟩ (by repeat (first | exact FSub.nil | refine FSub.cons rfl ?_ | refine FSub.conse rfl (by congr 1; omega) ?_)) (by repeat (first | exact LSub.nil | refine LSub.cons (by repeat (first | exact Rem.here | apply Rem.there)) ?_)) ?_
    rintro i ⟨hi, hr⟩
    by_cases hlt : i < n
    · obtain ⟨x, hx⟩ : ∃ x, l[i]? = some x := ⟨_, List.getElem?_eq_getElem (by omega)⟩
      obtain ⟨y, hy⟩ : ∃ y, m[i]? = some y := ⟨_, List.getElem?_eq_getElem (by omega)⟩
      obtain ⟨ad, rfl, hX⟩ := h i x hx
      obtain ⟨ad2, rfl, hY⟩ := h2 i y hy
      rw [drop_cons2 hx, drop_cons2 hy] at hr
      by_cases hxy : x = y
      · have hd : decide (x = y) = true := decide_eq_true hxy
        repeat' (first | (refine gJ ?_; first | refine js rfl rfl rfl rfl ?_ | (refine gload rfl rfl ?_; refine j_qe rfl rfl rfl ?_; first | refine ⟨_, q_load_own rfl rfl rfl rfl (by (repeat constructor)) (by first | rfl | assumption), ?_⟩ | refine ⟨_, q_loadA_own rfl rfl rfl rfl (by (repeat constructor)) (by rfl), ?_⟩ | refine ⟨_, q_loadA_ext rfl rfl rfl rfl ⟨by assumption, (by first | exact id | assumption)⟩ (by rfl), ?_⟩ | refine ⟨_, q_load_ext rfl rfl rfl rfl ⟨by assumption, (by first | exact id | assumption)⟩ (by first | rfl | assumption), ?_⟩ | refine ⟨_, q_load_extb rfl rfl rfl rfl ⟨by assumption, (by first | exact id | assumption)⟩ (by rfl), ?_⟩ | refine ⟨_, q_loadA_extb rfl rfl rfl rfl ⟨by assumption, (by first | exact id | assumption)⟩ (by rfl), ?_⟩ | refine ⟨_, q_load_ext0 rfl rfl rfl rfl ⟨by assumption, (by first | exact id | assumption)⟩ (by rfl), ?_⟩) | refine jar rfl rfl rfl rfl rfl rfl rfl (by omega) ?_ | (refine j_qe rfl rfl rfl ?_; refine ⟨_, q_neS rfl eqm38 rfl rfl (eq38d x y true hd), ?_⟩) | (refine j_qe rfl rfl rfl ?_; first | refine ⟨_, q_index_nat rfl rfl rfl rfl rfl (by omega), ?_⟩ | refine ⟨_, q_index_slice rfl rfl rfl rfl rfl (by omega), ?_⟩ | refine ⟨_, q_index_arr rfl rfl rfl rfl rfl (by omega), ?_⟩ | refine ⟨_, q_index_arr_ext rfl rfl rfl rfl rfl (by omega), ?_⟩ | refine ⟨_, q_len_slice rfl rfl rfl rfl, ?_⟩ | refine ⟨_, q_addu8 rfl rfl rfl (by omega), ?_⟩)) | (refine gSC ?_; first | refine sc_mv rfl ?_ | refine sc_q rfl ?_ | refine sc_region ?_ | refine sc_draw rfl mixed (by kernel_rfl) ?_) | (refine gSQ ?_; first | refine sq_go rfl ?_ | refine sq_mv rfl ?_ | refine sq_ende (by first | exact .inl rfl | exact .inr rfl) rfl rfl ⟨_, (RVs.cons (RV.tmp rfl) (RVs.nil)), ?_⟩) | refine j_nil ?_ | ((refine sc_cond rfl ?_ ?_) <;> intro hc <;> (first | exact absurd hc (by decide) | ((try simp only [engHC] at hc) <;> first | (exfalso; omega) | exact absurd trivial hc | skip))))
        exact sq_loop (i + 1) ⟨by show i + 1 ≤ n; omega, by rw [hr, decide_eq_decide, hxy]; simp⟩ (by show n - (i + 1) < n - i; omega) (by repeat (first | exact FSub.nil | refine FSub.cons rfl ?_ | refine FSub.conse rfl (by congr 1; omega) ?_)) (by repeat (first | exact LSub.nil | refine LSub.cons (by repeat (first | exact Rem.here | apply Rem.there)) ?_))
      · have hd : decide (x = y) = false := decide_eq_false hxy
        have hlm : decide (l = m) = false := by rw [hr, decide_eq_false_iff_not]; intro e; injection e with e1; exact hxy e1
        rw [hlm]
        repeat' (first | (refine gJ ?_; first | refine js rfl rfl rfl rfl ?_ | (refine gload rfl rfl ?_; refine j_qe rfl rfl rfl ?_; first | refine ⟨_, q_load_own rfl rfl rfl rfl (by (repeat constructor)) (by first | rfl | assumption), ?_⟩ | refine ⟨_, q_loadA_own rfl rfl rfl rfl (by (repeat constructor)) (by rfl), ?_⟩ | refine ⟨_, q_loadA_ext rfl rfl rfl rfl ⟨by assumption, (by first | exact id | assumption)⟩ (by rfl), ?_⟩ | refine ⟨_, q_load_ext rfl rfl rfl rfl ⟨by assumption, (by first | exact id | assumption)⟩ (by first | rfl | assumption), ?_⟩ | refine ⟨_, q_load_extb rfl rfl rfl rfl ⟨by assumption, (by first | exact id | assumption)⟩ (by rfl), ?_⟩ | refine ⟨_, q_loadA_extb rfl rfl rfl rfl ⟨by assumption, (by first | exact id | assumption)⟩ (by rfl), ?_⟩ | refine ⟨_, q_load_ext0 rfl rfl rfl rfl ⟨by assumption, (by first | exact id | assumption)⟩ (by rfl), ?_⟩) | refine jar rfl rfl rfl rfl rfl rfl rfl (by omega) ?_ | (refine j_qe rfl rfl rfl ?_; refine ⟨_, q_neS rfl eqm38 rfl rfl (eq38d x y false hd), ?_⟩) | (refine j_qe rfl rfl rfl ?_; first | refine ⟨_, q_index_nat rfl rfl rfl rfl rfl (by omega), ?_⟩ | refine ⟨_, q_index_slice rfl rfl rfl rfl rfl (by omega), ?_⟩ | refine ⟨_, q_index_arr rfl rfl rfl rfl rfl (by omega), ?_⟩ | refine ⟨_, q_index_arr_ext rfl rfl rfl rfl rfl (by omega), ?_⟩ | refine ⟨_, q_len_slice rfl rfl rfl rfl, ?_⟩ | refine ⟨_, q_addu8 rfl rfl rfl (by omega), ?_⟩)) | (refine gSC ?_; first | refine sc_mv rfl ?_ | refine sc_q rfl ?_ | refine sc_region ?_ | refine sc_draw rfl mixed (by kernel_rfl) ?_) | (refine gSQ ?_; first | refine sq_go rfl ?_ | refine sq_mv rfl ?_ | refine sq_ende (by first | exact .inl rfl | exact .inr rfl) rfl rfl ⟨_, (RVs.cons (RV.tmp rfl) (RVs.nil)), ?_⟩) | refine j_nil ?_ | ((refine sc_cond rfl ?_ ?_) <;> intro hc <;> (first | exact absurd hc (by decide) | ((try simp only [engHC] at hc) <;> first | (exfalso; omega) | exact absurd trivial hc | skip))))
        (intro w' hS; refine ⟨?_, hS.below⟩; simp only [pack])
    · have e1 : l.drop i = [] := List.drop_of_length_le (by omega)
      have e2 : m.drop i = [] := List.drop_of_length_le (by omega)
      rw [e1, e2] at hr
      rw [hr, decide_eq_true rfl]
      repeat' (first | (refine gJ ?_; first | refine js rfl rfl rfl rfl ?_ | (refine gload rfl rfl ?_; refine j_qe rfl rfl rfl ?_; first | refine ⟨_, q_load_own rfl rfl rfl rfl (by (repeat constructor)) (by first | rfl | assumption), ?_⟩ | refine ⟨_, q_loadA_own rfl rfl rfl rfl (by (repeat constructor)) (by rfl), ?_⟩ | refine ⟨_, q_loadA_ext rfl rfl rfl rfl ⟨by assumption, (by first | exact id | assumption)⟩ (by rfl), ?_⟩ | refine ⟨_, q_load_ext rfl rfl rfl rfl ⟨by assumption, (by first | exact id | assumption)⟩ (by first | rfl | assumption), ?_⟩ | refine ⟨_, q_load_extb rfl rfl rfl rfl ⟨by assumption, (by first | exact id | assumption)⟩ (by rfl), ?_⟩ | refine ⟨_, q_loadA_extb rfl rfl rfl rfl ⟨by assumption, (by first | exact id | assumption)⟩ (by rfl), ?_⟩ | refine ⟨_, q_load_ext0 rfl rfl rfl rfl ⟨by assumption, (by first | exact id | assumption)⟩ (by rfl), ?_⟩) | refine jar rfl rfl rfl rfl rfl rfl rfl (by omega) ?_ | (refine j_qe rfl rfl rfl ?_; first | refine ⟨_, q_index_nat rfl rfl rfl rfl rfl (by omega), ?_⟩ | refine ⟨_, q_index_slice rfl rfl rfl rfl rfl (by omega), ?_⟩ | refine ⟨_, q_index_arr rfl rfl rfl rfl rfl (by omega), ?_⟩ | refine ⟨_, q_index_arr_ext rfl rfl rfl rfl rfl (by omega), ?_⟩ | refine ⟨_, q_len_slice rfl rfl rfl rfl, ?_⟩ | refine ⟨_, q_addu8 rfl rfl rfl (by omega), ?_⟩)) | (refine gSC ?_; first | refine sc_mv rfl ?_ | refine sc_q rfl ?_ | refine sc_region ?_ | refine sc_draw rfl mixed (by kernel_rfl) ?_) | (refine gSQ ?_; first | refine sq_go rfl ?_ | refine sq_mv rfl ?_ | refine sq_ende (by first | exact .inl rfl | exact .inr rfl) rfl rfl ⟨_, (RVs.cons (RV.tmp rfl) (RVs.nil)), ?_⟩) | refine j_nil ?_ | ((refine sc_cond rfl ?_ ?_) <;> intro hc <;> (first | exact absurd hc (by decide) | ((try simp only [engHC] at hc) <;> first | (exfalso; omega) | exact absurd trivial hc | skip))))
      (intro w' hS; refine ⟨?_, hS.below⟩; simp only [pack])
  · have hlm : decide (l = m) = false := decide_eq_false fun e => hne (by rw [e])
    rw [hlm]
    generalize l.length = n at *
    generalize m.length = k at *
    refine eng_start (n := 26) (args := [.slice A n c, .slice B k bc]) tab tab_ok fns fns_ok [.tmp 4] Try.func14 rfl rfl rfl rfl ?_
    repeat' (first | (refine gJ ?_; first | refine js rfl rfl rfl rfl ?_ | (refine gload rfl rfl ?_; refine j_qe rfl rfl rfl ?_; first | refine ⟨_, q_load_own rfl rfl rfl rfl (by (repeat constructor)) (by first | rfl | assumption), ?_⟩ | refine ⟨_, q_loadA_own rfl rfl rfl rfl (by (repeat constructor)) (by rfl), ?_⟩ | refine ⟨_, q_loadA_ext rfl rfl rfl rfl ⟨by assumption, (by first | exact id | assumption)⟩ (by rfl), ?_⟩ | refine ⟨_, q_load_ext rfl rfl rfl rfl ⟨by assumption, (by first | exact id | assumption)⟩ (by first | rfl | assumption), ?_⟩ | refine ⟨_, q_load_extb rfl rfl rfl rfl ⟨by assumption, (by first | exact id | assumption)⟩ (by rfl), ?_⟩ | refine ⟨_, q_loadA_extb rfl rfl rfl rfl ⟨by assumption, (by first | exact id | assumption)⟩ (by rfl), ?_⟩ | refine ⟨_, q_load_ext0 rfl rfl rfl rfl ⟨by assumption, (by first | exact id | assumption)⟩ (by rfl), ?_⟩) | refine jar rfl rfl rfl rfl rfl rfl rfl (by omega) ?_ | (refine j_qe rfl rfl rfl ?_; first | refine ⟨_, q_index_nat rfl rfl rfl rfl rfl (by omega), ?_⟩ | refine ⟨_, q_index_slice rfl rfl rfl rfl rfl (by omega), ?_⟩ | refine ⟨_, q_index_arr rfl rfl rfl rfl rfl (by omega), ?_⟩ | refine ⟨_, q_index_arr_ext rfl rfl rfl rfl rfl (by omega), ?_⟩ | refine ⟨_, q_len_slice rfl rfl rfl rfl, ?_⟩ | refine ⟨_, q_addu8 rfl rfl rfl (by omega), ?_⟩)) | (refine gSC ?_; first | refine sc_mv rfl ?_ | refine sc_q rfl ?_ | refine sc_region ?_ | refine sc_draw rfl mixed (by kernel_rfl) ?_) | (refine gSQ ?_; first | refine sq_go rfl ?_ | refine sq_mv rfl ?_ | refine sq_ende (by first | exact .inl rfl | exact .inr rfl) rfl rfl ⟨_, (RVs.cons (RV.tmp rfl) (RVs.nil)), ?_⟩) | refine j_nil ?_ | ((refine sc_cond rfl ?_ ?_) <;> intro hc <;> (first | exact absurd hc (by decide) | ((try simp only [engHC] at hc) <;> first | (exfalso; omega) | exact absurd trivial hc | skip))))
    (intro w' hS; refine ⟨?_, hS.below⟩; simp only [pack])
end Go.Proofs.Ytagndgidfaladaa

/-
  The examples of the chapter: what they come to. No program in sight.
-/
namespace Go.Proofs.Ytagndgidfaladaa
set_option linter.unusedVariables false
def exW : List (List UInt8) := [[77, 65, 73, 78], [77, 65, 73, 78, 69], [77, 73, 78, 69], [82, 79, 65, 68]]
def exC : Cs := ⟨1, 1, 1, 1⟩
theorem ex_num : numU exW [] = [0, 1, 2, 3] := by decide +kernel
theorem ex_is {s : List UInt8} {most : Int} {L : List Ht} (hL : L.Perm (([0, 1, 2, 3] : List Int).filterMap (hitO exW s exC most))) (hs : L.Pairwise fun a b => leH a b = true) : hitsF exW s exC most = L :=
  (hits_is (ns := [0, 1, 2, 3]) (by rw [ex_num]) hL hs).symm
theorem exA : hitsF exW [77, 65, 73, 78, 69] exC 1 = [⟨1, 0⟩, ⟨0, 1⟩, ⟨2, 1⟩] := ex_is (by decide +kernel) (by decide +kernel)
theorem exB : hitsF exW [77, 65, 78, 73] exC 1 = [⟨0, 1⟩] := ex_is (by decide +kernel) (by decide +kernel)
theorem exD : hitsF exW [77, 65, 73, 78, 83] exC 2 = [⟨0, 1⟩, ⟨1, 1⟩, ⟨2, 2⟩] := ex_is (by decide +kernel) (by decide +kernel)
theorem exE : hitsF exW [88] exC 0 = [] := ex_is (by decide +kernel) (by decide +kernel)
theorem ex_new : newF exW = 0 := by decide +kernel
theorem ex_new2 : newF [[65], [66], [65]] = 70 := by decide +kernel
theorem ex_find : wno exW [82, 79, 65, 68] = 3 := by decide +kernel
theorem ex_pre : numU exW [77, 65] = [0, 1] := by decide +kernel
theorem ex_ok : csOk exC := by decide +kernel
theorem ex_best : bestF [⟨0, 1⟩, ⟨1, 1⟩, ⟨2, 2⟩] = [⟨0, 1⟩, ⟨1, 1⟩] := by decide +kernel
theorem ex_fst : fstN [⟨0, 1⟩, ⟨1, 1⟩, ⟨2, 2⟩] = 2 := by decide +kernel
end Go.Proofs.Ytagndgidfaladaa

/-
  The examples of the chapter: awake returns true.
-/
namespace Go.Proofs.Ytagndgidfaladaa
open Go.RowKit Eng
set_option linter.unusedVariables false
set_option linter.unusedSimpArgs false
set_option maxHeartbeats 8000000
attribute [local irreducible] SC SQ J Qt Calls Iterates LSub FSub
theorem sameT_c (A : Option Addr) (c : Nat) (B : Option Addr) (d : Nat) (l : List Ht) (w : World) (hl : l.length ≤ 9223372036854775806) (h : RS w 2 htC A l) (h2 : RS w 2 htC B l) :
    Calls Try.prog 14 #[.slice A l.length c, .slice B l.length d] w fun e w' => e = .returned (.bool true) ∧ Below w.heap.size w w' := by
  have h3 := sameH_c A c l B d l w hl hl h h2
  rwa [decide_eq_true rfl] at h3
theorem sl1 (b n : Nat) (hn : n ≤ 1000) : Sl (some ⟨b, 0, none⟩) n n := ⟨(fun h => by cases h), Nat.le_refl _, (by omega)⟩
theorem rs_ownp {α : Type} {f : α → List Value} {sz n c e : Nat} {A : Option Addr} {xs : List Value} {w0 w : World} {hot : Nat → Prop} {L : List HA} (l : List α) (hf : ∀ x, (f x).length = sz) (hs : St w0 hot L w) (hin : InL L (.own (.slice A n c) e sz n xs)) (hn : l.length ≤ n) (hx : xs.take (l.length * sz) = l.flatMap f) : RS w sz f A l := by
  have hA := hs.at hin
  rcases hA.2.2 with ⟨hv, h0⟩ | ⟨g, cap, cur, hv, _, hg, hnc, _⟩
  · have : l = [] := List.length_eq_zero_iff.1 (by omega)
    subst this
    exact RS.nil
  · injection hv with h1 _ h3
    subst h1
    subst h3
    intro i x hx2
    have hlt := (Array.getElem?_eq_some_iff.1 hg).1
    refine ⟨_, rfl, by rw [block_add]; exact hlt, fun j u hu => ?_⟩
    rw [nth_eq] at hu
    rw [Eng.add_add]
    have h4 := flat_at f sz hf l i x j u hx2 hu
    rw [← hx, List.getElem?_take] at h4
    split at h4
    · exact own_cell hs hin h4
    · cases h4
def exA1 : List Ht := [⟨1, 0⟩, ⟨0, 1⟩, ⟨2, 1⟩]
def exB1 : List Ht := [⟨0, 1⟩]
def exD1 : List Ht := [⟨0, 1⟩, ⟨1, 1⟩]
set_option maxRecDepth 8000 in
set_option maxHeartbeats 16000000 in
theorem awake_c (w : World) : Calls Try.prog 7 #[] w fun e w' => e = .returned (.bool true) ∧ Below w.heap.size w w' := by
  have hok := newF_zero.1 ex_new
  refine eng_start (n := 125) (args := []) tab tab_ok fns fns_ok [.tmp 0] Try.func7 rfl rfl rfl rfl ?_
  repeat' (first | (refine gJ ?_; first | refine js rfl rfl rfl rfl ?_ | (refine gcall rfl rfl ?_; refine gF ?_; refine j_callN (f := 10) rfl rfl rfl rfl rfl rfl rfl (fun x : NewX => .tuple #[ptrV x.bx, .int .i64 0]) (NewX.ok exW) (newL exW) (fun w' hs => new_k (rs_lit (f := strC) exW (fun _ => rfl) hs (by (repeat constructor)) rfl) (sl1 _ 4 (by omega)) (by decide) ex_new) (newL_plain exW) ?_; rintro x hx) | (refine gF ?_; first | (refine j_buildSlice rfl rfl rfl rfl rfl rfl rfl rfl rfl rfl rfl rfl ?_; intro b)) | (refine j_qe rfl rfl rfl ?_; first | refine ⟨_, q_len_slice rfl rfl rfl rfl, ?_⟩ | refine ⟨_, q_build_struct rfl rfl rfl rfl rfl, ?_⟩ | refine ⟨_, q_build_arr rfl rfl rfl rfl rfl, ?_⟩) | refine j_guard_undef rfl rfl rfl rfl rfl ?_) | (refine gSC ?_; first | refine sc_stop 4 ?_ | refine sc_mv rfl ?_ | refine sc_q rfl ?_ | refine sc_region ?_) | (refine gSQ ?_; first | refine sq_go rfl ?_ | refine sq_mv rfl ?_ | refine sq_ende (by first | exact .inl rfl | exact .inr rfl) rfl rfl ⟨_, (RVs.cons (RV.tmp rfl) (RVs.nil)), ?_⟩) | refine j_nil ?_ | ((first | refine j_guard rfl rfl rfl rfl rfl ?_ ?_ | refine sc_cond rfl ?_ ?_) <;> intro hc <;> (first | exact absurd hc (by decide) | ((try simp only [engHC] at hc) <;> first | (exfalso; omega) | exact absurd trivial hc | skip))))
  refine stop_at [(1, ptrV x.bx)] (newL exW x) ?_ (by repeat (first | exact FSub.nil | refine FSub.cons rfl ?_ | refine FSub.conse rfl (by congr 1; omega) ?_)) LSub.left
  refine sc_now fun w1 hS1 => ?_
  have hB := hS1.below
  obtain ⟨A0, c0, hX⟩ := NewX.lx (L := []) hx (by rw [List.append_nil]; exact hS1)
  have n1 := fun w' (hl : LX w' exW x.bx x.rb x.rm A0 c0 x.ar) => Near_c hl hok [77, 65, 73, 78, 69] exC 1 ex_ok (by decide)
  have n2 := fun w' (hl : LX w' exW x.bx x.rb x.rm A0 c0 x.ar) => Near_c hl hok [77, 65, 78, 73] exC 1 ex_ok (by decide)
  have n3 := fun w' (hl : LX w' exW x.bx x.rb x.rm A0 c0 x.ar) => Best_c hl hok [77, 65, 73, 78, 83] exC 2 ex_ok (by decide)
  have n4 := fun w' (hl : LX w' exW x.bx x.rb x.rm A0 c0 x.ar) => Near_c hl hok [88] exC 0 ex_ok (by decide)
  have n5 := fun w' (hl : LX w' exW x.bx x.rb x.rm A0 c0 x.ar) => Find_c hl [82, 79, 65, 68] (by decide)
  have n6 := fun w' (hl : LX w' exW x.bx x.rb x.rm A0 c0 x.ar) => Prefix_c hl hok [77, 65] (by decide)
  rw [exA] at n1
  rw [exB] at n2
  rw [exD, ex_fst, ex_best] at n3
  rw [exE] at n4
  rw [ex_find] at n5
  rw [ex_pre] at n6
  repeat' (first | (refine gJ ?_; first | refine js rfl rfl rfl rfl ?_ | (refine gcall rfl rfl ?_; first | (refine j_qc (f := 20) rfl rfl rfl rfl rfl rfl rfl ?_; refine ⟨_, (fun w' _ => ones_c w'), ?_⟩) | (refine j_qc (f := 14) rfl rfl rfl rfl rfl rfl rfl ?_; refine ⟨_, (fun w' hs => sameT_c _ _ _ _ exA1 w' (by decide) (rs_own (f := htC) (l := exA1) (fun _ => rfl) hs (by (repeat constructor)) rfl rfl) (rs_lit (f := htC) exA1 (fun _ => rfl) hs (by (repeat constructor)) rfl)), ?_⟩) | (refine j_qc (f := 14) rfl rfl rfl rfl rfl rfl rfl ?_; refine ⟨_, (fun w' hs => sameT_c _ _ _ _ exB1 w' (by decide) (rs_own (f := htC) (l := exB1) (fun _ => rfl) hs (by (repeat constructor)) rfl rfl) (rs_lit (f := htC) exB1 (fun _ => rfl) hs (by (repeat constructor)) rfl)), ?_⟩) | (refine j_qc (f := 14) rfl rfl rfl rfl rfl rfl rfl ?_; refine ⟨_, (fun w' hs => sameT_c _ _ _ _ exD1 w' (by decide) (rs_ownp (f := htC) exD1 (fun _ => rfl) hs (by (repeat constructor)) (by decide) hx3) (rs_lit (f := htC) exD1 (fun _ => rfl) hs (by (repeat constructor)) rfl)), ?_⟩) | (refine j_qc (f := 15) rfl rfl rfl rfl rfl rfl rfl ?_; refine ⟨_, (fun w' hs => n5 w' (hX.later hs)), ?_⟩) | (refine j_qc (f := 10) rfl rfl rfl rfl rfl rfl rfl ?_; refine ⟨_, (fun w' hs => new_e (rs_lit (f := strC) [[65], []] (fun _ => rfl) hs (by (repeat constructor)) rfl) (sl1 _ 2 (by omega)) (by decide) (by decide)), ?_⟩) | (refine j_qc (f := 10) rfl rfl rfl rfl rfl rfl rfl ?_; refine ⟨_, (fun w' hs => new_e (rs_lit (f := strC) [[65], [66], [65]] (fun _ => rfl) hs (by (repeat constructor)) rfl) (sl1 _ 3 (by omega)) (by decide) (by decide)), ?_⟩) | (refine j_qc (f := 18) rfl rfl rfl rfl rfl rfl rfl ?_; refine ⟨_, (fun w' hs => sameInts_c _ _ [0, 1] _ _ [0, 1] w' (by decide) (by decide) (rs_own (f := intC) (l := [0, 1]) (fun _ => rfl) hs (by (repeat constructor)) rfl rfl) (rs_lit (f := intC) ([0, 1] : List Int) (fun _ => rfl) hs (by (repeat constructor)) rfl)), ?_⟩)) | (refine gcall rfl rfl ?_; refine gF ?_; refine j_callN (f := 11) rfl rfl rfl rfl rfl rfl rfl (fun v : Value => .tuple #[v, .int .i64 0]) (fun _ => True) (fun v => [.own v 38 2 3 (exA1.flatMap htC)]) (fun w' hs => n1 w' (hX.later hs)) (fun _ => trivial) ?_; rintro v1 _; refine j_owns (v := v1) (by (repeat constructor)) ?_; rintro A1 c1 rfl hs1) | (refine gcall rfl rfl ?_; refine gF ?_; refine j_callN (f := 11) rfl rfl rfl rfl rfl rfl rfl (fun v : Value => .tuple #[v, .int .i64 0]) (fun _ => True) (fun v => [.own v 38 2 1 (exB1.flatMap htC)]) (fun w' hs => n2 w' (hX.later hs)) (fun _ => trivial) ?_; rintro v2 _; refine j_owns (v := v2) (by (repeat constructor)) ?_; rintro A2 c2 rfl hs2) | (refine gcall rfl rfl ?_; refine gF ?_; refine j_callN (f := 12) rfl rfl rfl rfl rfl rfl rfl (fun i : Option Addr × Nat × List Value => .tuple #[.slice i.1 2 i.2.1, .int .i64 0]) (fun i => Sl i.1 3 i.2.1 ∧ i.2.2.take (2 * 2) = exD1.flatMap htC) (fun i => [.own (.slice i.1 3 i.2.1) 38 2 3 i.2.2]) (fun w' hs => n3 w' (hX.later hs)) (fun _ => trivial) ?_; rintro ⟨A3, c3, xs3⟩ ⟨hs3, hx3⟩; dsimp only at hs3 hx3 ⊢) | (refine gcall rfl rfl ?_; refine gF ?_; refine j_callN (f := 11) rfl rfl rfl rfl rfl rfl rfl (fun v : Value => .tuple #[v, .int .i64 0]) (fun _ => True) (fun v => [.own v 38 2 0 []]) (fun w' hs => n4 w' (hX.later hs)) (fun _ => trivial) ?_; rintro v4 _; refine j_owns (v := v4) (by (repeat constructor)) ?_; rintro A4 c4 rfl hs4) | (refine gcall rfl rfl ?_; refine gF ?_; refine j_callN (f := 19) rfl rfl rfl rfl rfl rfl rfl (fun v : Value => v) (fun _ => True) (fun v => [.own v 3 1 2 (([0, 1] : List Int).flatMap intC)]) (fun w' hs => n6 w' (hX.later hs)) (fun _ => trivial) ?_; rintro v6 _; refine j_owns (v := v6) (by (repeat constructor)) ?_; rintro A6 c6 rfl hs6) | (refine gF ?_; first | (refine j_buildSlice rfl rfl rfl rfl rfl rfl rfl rfl rfl rfl rfl rfl ?_; intro b)) | (refine j_qe rfl rfl rfl ?_; first | refine ⟨_, q_len_slice rfl rfl rfl rfl, ?_⟩ | refine ⟨_, q_build_struct rfl rfl rfl rfl rfl, ?_⟩ | refine ⟨_, q_build_arr rfl rfl rfl rfl rfl, ?_⟩) | refine j_guard_undef rfl rfl rfl rfl rfl ?_) | (refine gSC ?_; first | refine sc_mv rfl ?_ | refine sc_q rfl ?_ | refine sc_region ?_) | (refine gSQ ?_; first | refine sq_go rfl ?_ | refine sq_mv rfl ?_ | refine sq_ende (by first | exact .inl rfl | exact .inr rfl) rfl rfl ⟨_, (RVs.cons (RV.tmp rfl) (RVs.nil)), ?_⟩) | refine j_nil ?_ | ((first | refine j_guard rfl rfl rfl rfl rfl ?_ ?_ | refine sc_cond rfl ?_ ?_) <;> intro hc <;> (first | exact absurd hc (by decide) | ((try simp only [engHC] at hc) <;> first | (exfalso; omega) | exact absurd trivial hc | skip))))
  all_goals ((intro w' hS; refine ⟨?_, below_then hB hS⟩; simp only [pack]); rw [ex_new2]; rfl)
end Go.Proofs.Ytagndgidfaladaa

/-
  What the laws share: hits counted.
-/
namespace Go.Proofs.Ytagndgidfaladaa
open Go.RowKit Eng
set_option linter.unusedVariables false
set_option linter.unusedSimpArgs false
set_option maxHeartbeats 8000000
attribute [local irreducible] SC SQ J Qt Calls Iterates LSub FSub
def fstK (l : List Ht) (d : Int) : Nat := (l.filter fun x => decide (x.c = d)).length
theorem few_len {W : List (List UInt8)} (h : fewF W = true) : W.length ≤ 200 := (of_decide_eq_true h).2
theorem few_wd {W : List (List UInt8)} (h : fewF W = true) : ∀ u ∈ W, u.length ≤ 70 := (of_decide_eq_true h).1
end Go.Proofs.Ytagndgidfaladaa

/-
  Words that are right, one by one; the numbers of the words that begin with a text. No program in sight.
-/
namespace Go.Proofs.Ytagndgidfaladaa
set_option linter.unusedVariables false
def okB (l : List (List UInt8)) : Bool := decide ((∀ u ∈ l, u ≠ [] ∧ u.length ≤ 40) ∧ l.Nodup)
theorem okB_snoc (l : List (List UInt8)) (u : List UInt8) : okB (l ++ [u]) = true ↔ okB l = true ∧ u ≠ [] ∧ u.length ≤ 40 ∧ u ∉ l := by
  unfold okB
  rw [decide_eq_true_eq, decide_eq_true_eq]
  constructor
  · rintro ⟨h1, h2⟩
    have h3 := h1 u (by simp)
    obtain ⟨h4, _, h5⟩ := List.nodup_append.1 h2
    exact ⟨⟨fun v hv => h1 v (List.mem_append.2 (.inl hv)), h4⟩, h3.1, h3.2, fun hm => h5 u hm u (by simp) rfl⟩
  · rintro ⟨⟨h1, h2⟩, h3, h4, h5⟩
    refine ⟨fun v hv => ?_, List.nodup_append.2 ⟨h2, by simp, fun x hx y hy e => ?_⟩⟩
    · rcases List.mem_append.1 hv with hv | hv
      · exact h1 v hv
      · rw [List.mem_singleton] at hv
        subst hv
        exact ⟨h3, h4⟩
    · rw [List.mem_singleton] at hy
      subst hy
      subst e
      exact h5 hx
theorem okB_new {W : List (List UInt8)} (h : W.length ≤ 1000) : newF W = 0 ↔ okB W = true := by
  unfold okB
  rw [decide_eq_true_eq, newF_zero]
  exact ⟨fun h => ⟨h.wd, h.nd⟩, fun g => ⟨h, g.1, g.2⟩⟩
theorem numG_snoc : ∀ (W : List (List UInt8)) (u p : List UInt8) (i : Int), numG (W ++ [u]) p i = numG W p i ++ if p <+: u then [i + W.length] else []
  | [], u, p, i => by
    rw [List.nil_append]
    unfold numG
    show (if p <+: u then i :: numG [] p (i + 1) else numG [] p (i + 1)) = _
    rw [show numG [] p (i + 1) = [] from rfl]
    split <;> simp
  | v :: W, u, p, i => by
    rw [List.cons_append]
    unfold numG
    rw [numG_snoc W u p (i + 1), List.length_cons]
    have e : i + 1 + (W.length : Int) = i + ((W.length + 1 : Nat) : Int) := by push_cast; omega
    rw [e]
    split <;> simp
theorem numU_snoc (W : List (List UInt8)) (u p : List UInt8) : numU (W ++ [u]) p = numU W p ++ if p <+: u then [(W.length : Int)] else [] := by
  unfold numU
  rw [numG_snoc]
  congr 1
  split <;> simp
end Go.Proofs.Ytagndgidfaladaa
