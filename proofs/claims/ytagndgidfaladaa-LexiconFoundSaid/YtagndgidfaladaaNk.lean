/-
  In one text: Sr9, Sf, Nr, Bs, Dl, Bt, Lw, Nk.
-/
import Derived.Test.YtagndgidfaladaaSr8
import Derived.Test.YtagndgidfaladaaEngCoreB
/-
  slices.SortFunc.
-/
namespace Go.Proofs.Ytagndgidfaladaa
open Go.RowKit Eng
set_option linter.unusedVariables false
set_option linter.unusedSimpArgs false
set_option maxHeartbeats 8000000
attribute [local irreducible] SC SQ J Qt Calls Iterates LSub FSub
theorem insN_c (rc : List Value) (w : World) : Calls Try.prog 55 #[.slice none 0 0, .int .i64 0, .int .i64 0, cvS rc] w fun e w' => e = .returned (.tuple #[]) ∧ Below w.heap.size w w' := by
  refine eng_start (n := 53) (args := [.slice none 0 0, .int .i64 0, .int .i64 0, cvS rc]) tab tab_ok fns fns_ok [] Try.func55 rfl rfl rfl rfl ?_
  repeat' (first | (refine gJ ?_; first | refine js rfl rfl rfl rfl ?_ | (refine gload rfl rfl ?_; refine j_qe rfl rfl rfl ?_; first | refine ⟨_, q_load_own rfl rfl rfl rfl (by (repeat constructor)) (by first | rfl | assumption), ?_⟩ | refine ⟨_, q_loadA_own rfl rfl rfl rfl (by (repeat constructor)) (by rfl), ?_⟩ | refine ⟨_, q_loadA_ext rfl rfl rfl rfl ⟨by assumption, (by first | exact id | assumption)⟩ (by rfl), ?_⟩ | refine ⟨_, q_load_ext rfl rfl rfl rfl ⟨by assumption, (by first | exact id | assumption)⟩ (by first | rfl | assumption), ?_⟩ | refine ⟨_, q_load_extb rfl rfl rfl rfl ⟨by assumption, (by first | exact id | assumption)⟩ (by rfl), ?_⟩ | refine ⟨_, q_loadA_extb rfl rfl rfl rfl ⟨by assumption, (by first | exact id | assumption)⟩ (by rfl), ?_⟩ | refine ⟨_, q_load_ext0 rfl rfl rfl rfl ⟨by assumption, (by first | exact id | assumption)⟩ (by rfl), ?_⟩) | refine jar rfl rfl rfl rfl rfl rfl rfl (by omega) ?_ | (refine gF ?_; first | refine j_store rfl rfl rfl rfl rfl rfl rfl rfl (by (repeat constructor)) (by rfl) ?_) | (refine j_qe rfl rfl rfl ?_; first | refine ⟨_, q_index_nat rfl rfl rfl rfl rfl (by omega), ?_⟩ | refine ⟨_, q_index_slice rfl rfl rfl rfl rfl (by omega), ?_⟩ | refine ⟨_, q_index_arr rfl rfl rfl rfl rfl (by omega), ?_⟩ | refine ⟨_, q_index_arr_ext rfl rfl rfl rfl rfl (by omega), ?_⟩ | refine ⟨_, q_addu8 rfl rfl rfl (by omega), ?_⟩) | refine j_guard_undef rfl rfl rfl rfl rfl ?_) | (refine gSC ?_; first | refine sc_mv rfl ?_ | refine sc_q rfl ?_ | refine sc_region ?_ | refine sc_draw rfl mixed (by kernel_rfl) ?_) | (refine gSQ ?_; first | refine sq_go rfl ?_ | refine sq_mv rfl ?_ | refine sq_ende (by first | exact .inl rfl | exact .inr rfl) rfl rfl ⟨_, (RVs.nil), ?_⟩) | refine j_nil ?_ | ((first | refine j_guard rfl rfl rfl rfl rfl ?_ ?_ | refine sc_cond rfl ?_ ?_) <;> intro hc <;> (first | exact absurd hc (by decide) | ((try simp only [engHC] at hc) <;> first | (exfalso; omega) | exact absurd trivial hc | skip))))
  refine sc_loop (ι := Unit) (fun _ => True) (fun _ => 0) (fun _ => [(2, .int .i64 0), (8, .int .i64 1)]) (fun _ => []) () trivial (by (try dsimp only); exact (by repeat (first | exact FSub.nil | refine FSub.cons rfl ?_ | refine FSub.conse rfl (by congr 1; omega) ?_))) (by repeat (first | exact LSub.nil | refine LSub.cons (by repeat (first | exact Rem.here | apply Rem.there)) ?_)) ?_
  rintro _ _
  repeat' (first | (refine gJ ?_; first | refine js rfl rfl rfl rfl ?_ | (refine gload rfl rfl ?_; refine j_qe rfl rfl rfl ?_; first | refine ⟨_, q_load_own rfl rfl rfl rfl (by (repeat constructor)) (by first | rfl | assumption), ?_⟩ | refine ⟨_, q_loadA_own rfl rfl rfl rfl (by (repeat constructor)) (by rfl), ?_⟩ | refine ⟨_, q_loadA_ext rfl rfl rfl rfl ⟨by assumption, (by first | exact id | assumption)⟩ (by rfl), ?_⟩ | refine ⟨_, q_load_ext rfl rfl rfl rfl ⟨by assumption, (by first | exact id | assumption)⟩ (by first | rfl | assumption), ?_⟩ | refine ⟨_, q_load_extb rfl rfl rfl rfl ⟨by assumption, (by first | exact id | assumption)⟩ (by rfl), ?_⟩ | refine ⟨_, q_loadA_extb rfl rfl rfl rfl ⟨by assumption, (by first | exact id | assumption)⟩ (by rfl), ?_⟩ | refine ⟨_, q_load_ext0 rfl rfl rfl rfl ⟨by assumption, (by first | exact id | assumption)⟩ (by rfl), ?_⟩) | refine jar rfl rfl rfl rfl rfl rfl rfl (by omega) ?_ | (refine gF ?_; first | refine j_store rfl rfl rfl rfl rfl rfl rfl rfl (by (repeat constructor)) (by rfl) ?_) | (refine j_qe rfl rfl rfl ?_; first | refine ⟨_, q_index_nat rfl rfl rfl rfl rfl (by omega), ?_⟩ | refine ⟨_, q_index_slice rfl rfl rfl rfl rfl (by omega), ?_⟩ | refine ⟨_, q_index_arr rfl rfl rfl rfl rfl (by omega), ?_⟩ | refine ⟨_, q_index_arr_ext rfl rfl rfl rfl rfl (by omega), ?_⟩ | refine ⟨_, q_addu8 rfl rfl rfl (by omega), ?_⟩) | refine j_guard_undef rfl rfl rfl rfl rfl ?_) | (refine gSC ?_; first | refine sc_mv rfl ?_ | refine sc_q rfl ?_ | refine sc_region ?_ | refine sc_draw rfl mixed (by kernel_rfl) ?_) | (refine gSQ ?_; first | refine sq_go rfl ?_ | refine sq_mv rfl ?_ | refine sq_ende (by first | exact .inl rfl | exact .inr rfl) rfl rfl ⟨_, (RVs.nil), ?_⟩) | refine j_nil ?_ | ((first | refine j_guard rfl rfl rfl rfl rfl ?_ ?_ | refine sc_cond rfl ?_ ?_) <;> intro hc <;> (first | exact absurd hc (by decide) | ((try simp only [engHC] at hc) <;> first | (exfalso; omega) | exact absurd trivial hc | skip))))
  (intro w' hS; refine ⟨?_, hS.below⟩; simp only [pack])
theorem pdqN_c (rc : List Value) (z : Int) (w : World) : Calls Try.prog 50 #[.slice none 0 0, .int .i64 0, .int .i64 0, .int .i64 z, cvS rc] w fun e w' => e = .returned (.tuple #[]) ∧ Below w.heap.size w w' := by
  refine eng_start (n := 148) (args := [.slice none 0 0, .int .i64 0, .int .i64 0, .int .i64 z, cvS rc]) tab tab_ok fns fns_ok [] Try.func50 rfl rfl rfl rfl ?_
  repeat' (first | (refine gJ ?_; first | refine js rfl rfl rfl rfl ?_ | (refine gload rfl rfl ?_; refine j_qe rfl rfl rfl ?_; first | refine ⟨_, q_load_own rfl rfl rfl rfl (by (repeat constructor)) (by first | rfl | assumption), ?_⟩ | refine ⟨_, q_loadA_own rfl rfl rfl rfl (by (repeat constructor)) (by rfl), ?_⟩ | refine ⟨_, q_loadA_ext rfl rfl rfl rfl ⟨by assumption, (by first | exact id | assumption)⟩ (by rfl), ?_⟩ | refine ⟨_, q_load_ext rfl rfl rfl rfl ⟨by assumption, (by first | exact id | assumption)⟩ (by first | rfl | assumption), ?_⟩ | refine ⟨_, q_load_extb rfl rfl rfl rfl ⟨by assumption, (by first | exact id | assumption)⟩ (by rfl), ?_⟩ | refine ⟨_, q_loadA_extb rfl rfl rfl rfl ⟨by assumption, (by first | exact id | assumption)⟩ (by rfl), ?_⟩ | refine ⟨_, q_load_ext0 rfl rfl rfl rfl ⟨by assumption, (by first | exact id | assumption)⟩ (by rfl), ?_⟩) | refine jar rfl rfl rfl rfl rfl rfl rfl (by omega) ?_ | (refine j_qe rfl rfl rfl ?_; first | refine ⟨_, q_index_nat rfl rfl rfl rfl rfl (by omega), ?_⟩ | refine ⟨_, q_index_slice rfl rfl rfl rfl rfl (by omega), ?_⟩ | refine ⟨_, q_index_arr rfl rfl rfl rfl rfl (by omega), ?_⟩ | refine ⟨_, q_index_arr_ext rfl rfl rfl rfl rfl (by omega), ?_⟩ | refine ⟨_, q_quo rfl rfl rfl (by omega), ?_⟩ | refine ⟨_, q_quot rfl rfl rfl (by omega), ?_⟩ | refine ⟨_, q_addu8 rfl rfl rfl (by omega), ?_⟩ | refine ⟨_, q_quou8 rfl rfl rfl (by omega), ?_⟩) | refine j_guard_undef rfl rfl rfl rfl rfl ?_) | (refine gSC ?_; first | refine sc_mv rfl ?_ | refine sc_q rfl ?_ | refine sc_region ?_ | refine sc_draw rfl mixed (by kernel_rfl) ?_) | (refine gSQ ?_; first | refine sq_go rfl ?_ | refine sq_mv rfl ?_ | refine sq_ende (by first | exact .inl rfl | exact .inr rfl) rfl rfl ⟨_, (RVs.nil), ?_⟩) | refine j_nil ?_ | ((first | refine j_guard rfl rfl rfl rfl rfl ?_ ?_ | refine sc_cond rfl ?_ ?_) <;> intro hc <;> (first | exact absurd hc (by decide) | ((try simp only [engHC] at hc) <;> first | (exfalso; omega) | exact absurd trivial hc | skip))))
  refine sc_loop (ι := Unit) (fun _ => True) (fun _ => 0) (fun _ => [(0, .slice none 0 0), (1, .int .i64 0), (2, .int .i64 0), (4, cvS rc)]) (fun _ => []) () trivial (by (try dsimp only); exact (by repeat (first | exact FSub.nil | refine FSub.cons rfl ?_ | refine FSub.conse rfl (by congr 1; omega) ?_))) (by repeat (first | exact LSub.nil | refine LSub.cons (by repeat (first | exact Rem.here | apply Rem.there)) ?_)) ?_
  rintro _ _
  repeat' (first | (refine gJ ?_; first | refine js rfl rfl rfl rfl ?_ | (refine gload rfl rfl ?_; refine j_qe rfl rfl rfl ?_; first | refine ⟨_, q_load_own rfl rfl rfl rfl (by (repeat constructor)) (by first | rfl | assumption), ?_⟩ | refine ⟨_, q_loadA_own rfl rfl rfl rfl (by (repeat constructor)) (by rfl), ?_⟩ | refine ⟨_, q_loadA_ext rfl rfl rfl rfl ⟨by assumption, (by first | exact id | assumption)⟩ (by rfl), ?_⟩ | refine ⟨_, q_load_ext rfl rfl rfl rfl ⟨by assumption, (by first | exact id | assumption)⟩ (by first | rfl | assumption), ?_⟩ | refine ⟨_, q_load_extb rfl rfl rfl rfl ⟨by assumption, (by first | exact id | assumption)⟩ (by rfl), ?_⟩ | refine ⟨_, q_loadA_extb rfl rfl rfl rfl ⟨by assumption, (by first | exact id | assumption)⟩ (by rfl), ?_⟩ | refine ⟨_, q_load_ext0 rfl rfl rfl rfl ⟨by assumption, (by first | exact id | assumption)⟩ (by rfl), ?_⟩) | refine jar rfl rfl rfl rfl rfl rfl rfl (by omega) ?_ | (refine gcall rfl rfl ?_; first | (refine j_qc (f := 55) rfl rfl rfl rfl rfl rfl rfl ?_; refine ⟨_, (fun w' _ => insN_c rc w'), ?_⟩)) | (refine j_qe rfl rfl rfl ?_; first | refine ⟨_, q_index_nat rfl rfl rfl rfl rfl (by omega), ?_⟩ | refine ⟨_, q_index_slice rfl rfl rfl rfl rfl (by omega), ?_⟩ | refine ⟨_, q_index_arr rfl rfl rfl rfl rfl (by omega), ?_⟩ | refine ⟨_, q_index_arr_ext rfl rfl rfl rfl rfl (by omega), ?_⟩ | refine ⟨_, q_quo rfl rfl rfl (by omega), ?_⟩ | refine ⟨_, q_quot rfl rfl rfl (by omega), ?_⟩ | refine ⟨_, q_addu8 rfl rfl rfl (by omega), ?_⟩ | refine ⟨_, q_quou8 rfl rfl rfl (by omega), ?_⟩) | refine j_guard_undef rfl rfl rfl rfl rfl ?_) | (refine gSC ?_; first | refine sc_mv rfl ?_ | refine sc_q rfl ?_ | refine sc_region ?_) | (refine gSQ ?_; first | refine sq_go rfl ?_ | refine sq_mv rfl ?_ | refine sq_ende (by first | exact .inl rfl | exact .inr rfl) rfl rfl ⟨_, (RVs.nil), ?_⟩) | refine j_nil ?_ | ((first | refine j_guard rfl rfl rfl rfl rfl ?_ ?_ | refine sc_cond rfl ?_ ?_) <;> intro hc <;> (first | exact absurd hc (by decide) | ((try simp only [engHC] at hc) <;> first | (exfalso; omega) | exact absurd trivial hc | skip))))
  (intro w' hS; refine ⟨?_, hS.below⟩; simp only [pack])
theorem arr_of_perm {α : Type} [Inhabited α] {lt : α → α → Bool} {l : List α} {R : Array α} (hp : Go.Sort.PermIn 0 l.length l.toArray R) (hs : Go.Sort.SortedIn lt 0 l.length R) : R.toList.Perm l ∧ R.toList.Pairwise (fun x y => lt y x = false) := by
  have hsz : R.size = l.length := hp.1
  constructor
  · have h := hp.2.2
    rw [show R.extract 0 l.length = R from by rw [← hsz]; simp, show l.toArray.extract 0 l.length = l.toArray from by simp] at h
    simpa using h
  · rw [List.pairwise_iff_getElem]
    intro i j hi hj hij
    have hi' : i < R.size := by simpa using hi
    have hj' : j < R.size := by simpa using hj
    have h := hs i j (Nat.zero_le _) hij (by omega)
    rw [getElem!_pos R i hi', getElem!_pos R j hj'] at h
    simpa using h
theorem srt_c {w0 w : World} {hot : Nat → Prop} {L : List HA} {L' : List ELT → List HA} {v : Value} {l : List ELT} {rc : List Value} {cf : ELT → ELT → Int} (hcf : CmpS cf rc) (hsw : Go.Sort.SWO (ltS cf)) (hs : St w0 hot L w) (hn : l.length ≤ 65535)
    (hin : InL L (.own v 38 2 l.length (l.flatMap elC))) (hup : ∀ R : List ELT, R.length = l.length → Upd L (.own v 38 2 l.length (l.flatMap elC)) (.own v 38 2 R.length (R.flatMap elC)) (L' R)) :
    Calls Try.prog 40 #[v, cvS rc] w fun e' w' => ∃ R : List ELT, (R.Perm l ∧ R.Pairwise (fun x y => ltS cf y x = false)) ∧ e' = .returned (.tuple #[]) ∧ St w0 hot (L' R) w' := by
  have hA := hs.at hin
  rcases hA.2.2 with ⟨rfl, hn0⟩ | ⟨g, cap, cur, rfl, _⟩
  · have hl : l = [] := List.length_eq_zero_iff.1 hn0
    subst hl
    have hle : St w Cold [] w := St.start w Cold
    refine eng_start (n := 14) (args := [.slice none 0 0, cvS rc]) tab tab_ok fns fns_ok [] Try.func40 rfl rfl rfl rfl ?_
    have hlen := fun w' => lenS_c 0 w' (by omega)
    repeat' (first | (refine gJ ?_; first | refine js rfl rfl rfl rfl ?_ | (refine gcall rfl rfl ?_; first | (refine j_qc (f := 51) rfl rfl rfl rfl rfl rfl rfl ?_; refine ⟨_, (fun w' _ => hlen w'), ?_⟩) | (refine j_qc (f := 50) rfl rfl rfl rfl rfl rfl rfl ?_; refine ⟨_, (fun w' _ => pdqN_c rc _ w'), ?_⟩)) | (refine j_qe rfl rfl rfl ?_; first | refine ⟨_, q_len_slice rfl rfl rfl rfl, ?_⟩ | refine ⟨_, q_conv rfl rfl rfl rfl rfl rfl (by first | rfl | (exact i64_wrap (by omega) (by omega)) | (exact u8_wrap (by omega) (by omega)) | (exact u64_wrap (by omega) (by omega)) | (exact u16_wrap (by omega) (by omega))), ?_⟩)) | (refine gSC ?_; first | refine sc_mv rfl ?_ | refine sc_q rfl ?_ | refine sc_region ?_) | (refine gSQ ?_; first | refine sq_go rfl ?_ | refine sq_mv rfl ?_ | refine sq_ende (by first | exact .inl rfl | exact .inr rfl) rfl rfl ⟨_, (RVs.nil), ?_⟩) | refine j_nil ?_ | ((refine sc_cond rfl ?_ ?_) <;> intro hc <;> (first | exact absurd hc (by decide) | ((try simp only [engHC] at hc) <;> first | (exfalso; omega) | exact absurd trivial hc | skip))))
    intro w' hS
    refine ⟨[], ⟨List.Perm.refl _, List.Pairwise.nil⟩, rfl, ?_⟩
    exact (hs.later hS.below).upd (hup [] rfl) (Below.refl 0 w') (fun b _ _ => rfl) ((hs.later hS.below).at hin) (fun b hb => .inl hb)
  · generalize hnl : l.length = n at *
    have hle := hs.lent (x := rwS ⟨g, 0, none⟩ n cap l.toArray) hin trivial
    have hpdq := fun w' w9 hot9 z (h9 : St w9 hot9 [rwS ⟨g, 0, none⟩ n cap l.toArray] w') (hz : z ≤ 1000) => pdq_c (L' := fun x => [rwS ⟨g, 0, none⟩ n cap x]) hcf hsw hn n 0 n z h9 (by simpa using hnl) (Nat.zero_le _) (Nat.le_refl _) (by omega) hz (.inl rfl) InL.here (fun _ => Upd.here)
    have hk : Go.Lib.bitLen n ≤ 64 := by
      apply Classical.byContradiction
      intro hge
      by_cases h0 : n = 0
      · subst h0
        exact hge (by decide)
      · have h1 := blenS_le n n (Nat.le_refl _) h0 (by omega)
        have := Nat.pow_le_pow_right (show 0 < 2 by omega) (show 64 ≤ Go.Lib.bitLen n by omega)
        omega
    have hlen := fun w' => lenS_c n w' hn
    generalize Go.Lib.bitLen n = k at *
    refine eng_start_lent (n := 14) (args := [.slice (some ⟨g, 0, none⟩) n cap, cvS rc]) tab tab_ok fns fns_ok [] _ _ Try.func40 rfl rfl rfl rfl (hle) ?_
    repeat' (first | (refine gJ ?_; first | refine js rfl rfl rfl rfl ?_ | (refine gcall rfl rfl ?_; first | (refine j_qc (f := 51) rfl rfl rfl rfl rfl rfl rfl ?_; refine ⟨_, (fun w' _ => hlen w'), ?_⟩)) | (refine gcall rfl rfl ?_; refine gF ?_; refine j_call (f := 50) (ξ := Array ELT) (fun _ => .tuple #[]) _ (fun y => [rwS ⟨g, 0, none⟩ n cap y]) rfl rfl rfl rfl rfl rfl rfl (fun w' hs9 => hpdq w' _ _ k hs9 (by omega)) ?_; rintro R ⟨hR1, hR2⟩) | (refine j_qe rfl rfl rfl ?_; first | refine ⟨_, q_len_slice rfl rfl rfl rfl, ?_⟩ | refine ⟨_, q_conv rfl rfl rfl rfl rfl rfl (by first | rfl | (exact i64_wrap (by omega) (by omega)) | (exact u8_wrap (by omega) (by omega)) | (exact u64_wrap (by omega) (by omega)) | (exact u16_wrap (by omega) (by omega))), ?_⟩)) | (refine gSC ?_; first | refine sc_mv rfl ?_ | refine sc_q rfl ?_ | refine sc_region ?_) | (refine gSQ ?_; first | refine sq_go rfl ?_ | refine sq_mv rfl ?_ | refine sq_ende (by first | exact .inl rfl | exact .inr rfl) rfl rfl ⟨_, (RVs.nil), ?_⟩) | refine j_nil ?_ | ((refine sc_cond rfl ?_ ?_) <;> intro hc <;> (first | exact absurd hc (by decide) | ((try simp only [engHC] at hc) <;> first | (exfalso; omega) | exact absurd trivial hc | skip))))
    intro w' hS
    rw [← hnl] at hR1 hR2
    obtain ⟨h1, h2⟩ := arr_of_perm hR1 hR2
    refine ⟨R.toList, ⟨h1, h2⟩, rfl, ?_⟩
    have hlR : R.toList.length = n := by rw [h1.length_eq]; exact hnl
    have hu := hup R.toList hlR
    rw [hlR] at hu
    exact hs.back hu (hS.sub (by repeat (first | exact LSub.nil | refine LSub.cons (by repeat (first | exact Rem.here | apply Rem.there)) ?_))) trivial
end Go.Proofs.Ytagndgidfaladaa

/-
  The lexicon: slices.SortedFunc of hits, Near.
-/
namespace Go.Proofs.Ytagndgidfaladaa
open Go.RowKit Eng
set_option linter.unusedVariables false
set_option linter.unusedSimpArgs false
set_option maxHeartbeats 8000000
attribute [local irreducible] SC SQ J Qt Calls Iterates LSub FSub
theorem cmpS_H : CmpS cmpH [] := fun x y w => cmpH_c x y w
theorem ltS_H (x y : Ht) : ltS cmpH x y = decide (x.c < y.c ∨ (x.c = y.c ∧ x.w < y.w)) := by
  unfold ltS cmpH cmpI
  simp only [orF]
  apply decide_eq_decide.2
  (repeat' split) <;> omega
theorem swo_H : Go.Sort.SWO (ltS cmpH) := by
  refine ⟨fun x => ?_, fun x y z h1 h2 => ?_, fun x y z h1 h2 => ?_⟩
  · rw [ltS_H, decide_eq_false_iff_not]; omega
  · rw [ltS_H, decide_eq_true_eq] at *; omega
  · rw [ltS_H, decide_eq_false_iff_not] at *; omega
theorem PreH.len {W : List (List UInt8)} {s : List UInt8} {c : Cs} {most : Int} {l : List Ht} (h : PreH W s c most l) : l.length ≤ W.length := by
  obtain ⟨r, hr⟩ := h
  have h1 := hr.length_eq
  have h2 := numU_len W []
  have h3 := List.length_filterMap_le (hitO W s c most) (numU W [])
  rw [List.length_append] at h1
  omega
theorem YsH.len {W : List (List UInt8)} {s : List UInt8} {c : Cs} {most : Int} {l : List Ht} (h : YsH W s c most l) : l.length ≤ W.length := by
  have h1 := List.Perm.length_eq h
  have h2 := numU_len W []
  have h3 := List.length_filterMap_le (hitO W s c most) (numU W [])
  omega
theorem sortedF_c (gf : Nat) (lb : List Value) {W : List (List UInt8)} (hwl : W.length ≤ 1000) (s : List UInt8) (c : Cs) (most : Int) (w : World) (hcal : has fns gf = true) (hit : ∀ w' S0, Near w.heap.size Cold w w' → (∀ b, S0 b → w.heap.size ≤ b) → IteratesP Try.prog gf lb encH (PreH W s c most) (YsH W s c most) w' S0) :
    Calls Try.prog 27 #[.func (.func gf) #[] lb.toArray, .func (.func 24) #[] #[]] w fun e w' => ∃ v : Value, True ∧ e = .returned v ∧ St w Cold [.own v 38 2 (hitsF W s c most).length ((hitsF W s c most).flatMap htC)] w' := by
  have hlen : ∀ l, PreH W s c most l → l.length ≤ 1000000 := fun l hl => Nat.le_trans hl.len (by omega)
  refine eng_start (n := 12) (args := [.func (.func gf) #[] lb.toArray, .func (.func 24) #[] #[]]) tab tab_ok fns fns_ok [.tmp 4] Try.func27 rfl rfl rfl rfl ?_
  repeat' (first | (refine gJ ?_; first | refine js rfl rfl rfl rfl ?_ | (refine gcall rfl rfl ?_; refine gF ?_; refine j_callN (f := 39) rfl rfl rfl rfl rfl rfl rfl (fun x : Value × List Ht => x.1) (fun x => YsH W s c most x.2) (fun x => [.own x.1 38 2 x.2.length (x.2.flatMap htC)]) (fun w' hs => collectH_c gf lb (PreH W s c most) _ w' hcal hlen (fun w2 S0 hn hS0 => hit w2 S0 (near_le hs.near hn) (fun b hb => Nat.le_trans hs.near.size (hS0 b hb)))) (fun _ => trivial) ?_; rintro ⟨v1, ys⟩ hys; dsimp only at hys ⊢; have hyl := YsH.len hys; refine j_owns (v := v1) (by (repeat constructor)) ?_; rintro A3 c3 rfl hs3) | (refine gcall rfl rfl ?_; refine gF ?_; refine j_call (f := 40) (ξ := List Ht) (fun _ => .tuple #[]) _ (fun R => [.own (.slice A3 ys.length c3) 38 2 R.length (R.flatMap elC)]) rfl rfl rfl rfl rfl rfl rfl (fun w' hs9 => srt_c (l := ys) (rc := []) cmpS_H swo_H hs9 (by omega) InL.here (fun Q _ => Upd.here)) ?_; rintro R ⟨hR1, hR2⟩)) | (refine gSC ?_; first | refine sc_mv rfl ?_ | refine sc_q rfl ?_ | refine sc_region ?_) | (refine gSQ ?_; first | refine sq_go rfl ?_ | refine sq_mv rfl ?_ | refine sq_ende (by first | exact .inl rfl | exact .inr rfl) rfl rfl ⟨_, (RVs.cons (RV.tmp rfl) (RVs.nil)), ?_⟩) | refine j_nil ?_ | ((refine sc_cond rfl ?_ ?_) <;> intro hc <;> (first | exact absurd hc (by decide) | ((try simp only [engHC] at hc) <;> first | (exfalso; omega) | exact absurd trivial hc | skip))))
  have hR : R = hitsF W s c most := hits_is (List.Perm.refl _) (hR1.trans hys) (hR2.imp fun {a d} h => by
    rw [ltS_H, decide_eq_false_iff_not] at h
    rw [leH_iff]
    omega)
  subst hR
  intro w' hS
  exact ⟨_, trivial, rfl, hS.sub (by repeat (first | exact LSub.refl | refine LSub.cons (by repeat (first | exact Rem.here | apply Rem.there)) ?_ | apply LSub.skip))⟩
end Go.Proofs.Ytagndgidfaladaa

/-
  The lexicon: Near.
-/
namespace Go.Proofs.Ytagndgidfaladaa
open Go.RowKit Eng
set_option linter.unusedVariables false
set_option linter.unusedSimpArgs false
set_option maxHeartbeats 8000000
attribute [local irreducible] SC SQ J Qt Calls Iterates LSub FSub
set_option maxRecDepth 4000 in
theorem Near_c {w : World} {W : List (List UInt8)} {bx rb rm : Nat} {A0 : Option Addr} {c0 : Nat} {ar : List Nd} (h : LX w W bx rb rm A0 c0 ar) (hok : WsOk W) (s : List UInt8) (c : Cs) (most : Int) (hc9 : csOk c) (hsl : s.length ≤ 60) :
    Calls Try.prog 11 #[ptrV bx, strV s, csV c, .int .i64 most] w fun e w' => ∃ v : Value, True ∧ e = .returned (.tuple #[v, .int .i64 0]) ∧ St w Cold [.own v 38 2 (hitsF W s c most).length ((hitsF W s c most).flatMap htC)] w' := by
  have hr := fun (w' : World) (hl : LX w' W bx rb rm A0 c0 ar) => rightL_c hl
  have hri := fun w' => right_c c w'
  rw [decide_eq_true hc9] at hri
  have hwl := hok.len
  have hsf := fun (i : Nat × Nat × Nat × Nat) (w' : World) (hl : LX w' W bx rb rm A0 c0 ar) e1 e2 e3 e4 => sortedF_c 41 [ptrV i.1, ptrV i.2.1, ptrV i.2.2.1, ptrV i.2.2.2] hwl s c most w' rfl (hits_hit hl hok s c most hc9 hsl i.1 i.2.1 i.2.2.1 i.2.2.2 e1 e2 e3 e4)
  refine eng_start (n := 27) (args := [ptrV bx, strV s, csV c, .int .i64 most]) tab tab_ok fns fns_ok [.tmp 8, .tmp 9] Try.func11 rfl rfl rfl rfl ?_
  repeat' (first | (refine gJ ?_; first | refine js rfl rfl rfl rfl ?_ | (refine gload rfl rfl ?_; refine j_qe rfl rfl rfl ?_; first | refine ⟨_, q_load_own rfl rfl rfl rfl (by (repeat constructor)) (by first | rfl | assumption), ?_⟩ | refine ⟨_, q_loadA_own rfl rfl rfl rfl (by (repeat constructor)) (by rfl), ?_⟩ | refine ⟨_, q_loadA_ext rfl rfl rfl rfl ⟨by assumption, (by first | exact id | assumption)⟩ (by rfl), ?_⟩ | refine ⟨_, q_load_ext rfl rfl rfl rfl ⟨by assumption, (by first | exact id | assumption)⟩ (by first | rfl | assumption), ?_⟩ | refine ⟨_, q_load_extb rfl rfl rfl rfl ⟨by assumption, (by first | exact id | assumption)⟩ (by rfl), ?_⟩ | refine ⟨_, q_loadA_extb rfl rfl rfl rfl ⟨by assumption, (by first | exact id | assumption)⟩ (by rfl), ?_⟩ | refine ⟨_, q_load_ext0 rfl rfl rfl rfl ⟨by assumption, (by first | exact id | assumption)⟩ (by rfl), ?_⟩) | (refine gcall rfl rfl ?_; first | (refine j_qc (f := 23) rfl rfl rfl rfl rfl rfl rfl ?_; refine ⟨_, (fun w' hs => hr w' (h.later hs)), ?_⟩) | (refine j_qc (f := 9) rfl rfl rfl rfl rfl rfl rfl ?_; refine ⟨_, (fun w' _ => hri w'), ?_⟩)) | (refine j_qe rfl rfl rfl ?_; refine ⟨_, q_len_str rfl Try.underlying9 rfl, ?_⟩) | (refine gcall rfl rfl ?_; refine gF ?_; refine j_callN (f := 28) rfl rfl rfl rfl rfl rfl rfl (fun i : Nat × Nat × Nat × Nat => .func (.func 41) #[] #[ptrV i.1, ptrV i.2.1, ptrV i.2.2.1, ptrV i.2.2.2]) (fun _ => True) (fun i => [.cells i.1 28 [ptrV bx], .cells i.2.1 9 [strV s], .cells i.2.2.1 24 (csC c), .cells i.2.2.2 3 [.int .i64 most]]) (fun w' hs => hits_c bx s c most w') (fun _ => trivial) ?_; rintro ⟨z1, z2, z3, z4⟩ _; dsimp only) | (refine gcall rfl rfl ?_; refine gF ?_; refine j_callN (f := 27) rfl rfl rfl rfl rfl rfl rfl (fun v : Value => v) (fun _ => True) (fun v => [.own v 38 2 (hitsF W s c most).length ((hitsF W s c most).flatMap htC)]) (fun w' hs => hsf (z1, z2, z3, z4) w' (h.later hs) (hs.ext (u := 28) (by (repeat constructor))) (hs.ext (u := 9) (by (repeat constructor))) (hs.ext (u := 24) (by (repeat constructor))) (hs.ext (u := 3) (by (repeat constructor)))) (fun _ => trivial) ?_; rintro v9 _) | (refine gF ?_; first | (refine j_box rfl rfl rfl rfl rfl ?_; intro b)) | (refine j_qe rfl rfl rfl ?_; first | refine ⟨_, q_len_slice rfl rfl rfl rfl, ?_⟩)) | (refine gSC ?_; first | refine sc_mv rfl ?_ | refine sc_q rfl ?_ | refine sc_region ?_) | (refine gSQ ?_; first | refine sq_go rfl ?_ | refine sq_mv rfl ?_ | refine sq_ende (by first | exact .inl rfl | exact .inr rfl) rfl rfl ⟨_, (RVs.cons (RV.tmp rfl) (RVs.cons (RV.tmp rfl) (RVs.nil))), ?_⟩) | refine j_nil ?_ | ((refine sc_cond rfl ?_ ?_) <;> intro hc <;> (first | exact absurd hc (by decide) | ((try simp only [engHC] at hc) <;> first | (exfalso; omega) | exact absurd trivial hc | skip))))
  all_goals first
    | (exfalso; omega)
    | (intro w' hS
       exact ⟨v9, trivial, rfl, hS.sub (by repeat (first | exact LSub.refl | refine LSub.cons (by repeat (first | exact Rem.here | apply Rem.there)) ?_ | apply LSub.skip))⟩)
end Go.Proofs.Ytagndgidfaladaa

/-
  The lexicon: Best's predicate, IndexFunc.
-/
namespace Go.Proofs.Ytagndgidfaladaa
open Go.RowKit Eng
set_option linter.unusedVariables false
set_option linter.unusedSimpArgs false
set_option maxHeartbeats 8000000
attribute [local irreducible] SC SQ J Qt Calls Iterates LSub FSub
theorem best1_c (x y : Ht) (bz : Nat) (ad : Addr) (n cc : Nat) (w : World) (hE : Ext w ⟨bz, 0, none⟩ [.slice (some ad) n cc]) (hY : Ext w (ad.add (0 * 2)) (htC y)) (hn : 0 < n) :
    Calls Try.prog 30 #[.agg (htC x).toArray, ptrV bz] w fun e w' => e = .returned (.bool (decide (y.c < x.c))) ∧ Below w.heap.size w w' := by
  refine eng_start (n := 11) (args := [.agg (htC x).toArray, ptrV bz]) tab tab_ok fns fns_ok [.tmp 3] Try.func30 rfl rfl rfl rfl ?_
  repeat' (first | (refine gJ ?_; first | refine js rfl rfl rfl rfl ?_ | (refine gload rfl rfl ?_; refine j_qe rfl rfl rfl ?_; first | refine ⟨_, q_load_own rfl rfl rfl rfl (by (repeat constructor)) (by first | rfl | assumption), ?_⟩ | refine ⟨_, q_loadA_own rfl rfl rfl rfl (by (repeat constructor)) (by rfl), ?_⟩ | refine ⟨_, q_loadA_ext rfl rfl rfl rfl ⟨by assumption, (by first | exact id | assumption)⟩ (by rfl), ?_⟩ | refine ⟨_, q_load_ext rfl rfl rfl rfl ⟨by assumption, (by first | exact id | assumption)⟩ (by first | rfl | assumption), ?_⟩ | refine ⟨_, q_load_extb rfl rfl rfl rfl ⟨by assumption, (by first | exact id | assumption)⟩ (by rfl), ?_⟩ | refine ⟨_, q_loadA_extb rfl rfl rfl rfl ⟨by assumption, (by first | exact id | assumption)⟩ (by rfl), ?_⟩ | refine ⟨_, q_load_ext0 rfl rfl rfl rfl ⟨by assumption, (by first | exact id | assumption)⟩ (by rfl), ?_⟩) | refine jfield rfl rfl rfl rfl rfl rfl rfl rfl ?_ | (refine j_qe rfl rfl rfl ?_; refine ⟨_, q_index_at 0 rfl rfl rfl rfl rfl ⟨rfl, by omega⟩, ?_⟩) | (refine gF ?_; first | (refine j_box rfl rfl rfl rfl rfl ?_; intro b)) | (refine j_qe rfl rfl rfl ?_; first | refine ⟨_, q_index_nat rfl rfl rfl rfl rfl (by omega), ?_⟩ | refine ⟨_, q_index_slice rfl rfl rfl rfl rfl (by omega), ?_⟩ | refine ⟨_, q_index_arr rfl rfl rfl rfl rfl (by omega), ?_⟩ | refine ⟨_, q_index_arr_ext rfl rfl rfl rfl rfl (by omega), ?_⟩ | refine ⟨_, q_field_ext rfl rfl rfl rfl rfl, ?_⟩)) | (refine gSC ?_; first | refine sc_mv rfl ?_ | refine sc_q rfl ?_ | refine sc_region ?_ | refine sc_draw rfl mixed (by kernel_rfl) ?_) | (refine gSQ ?_; first | refine sq_go rfl ?_ | refine sq_mv rfl ?_ | refine sq_ende (by first | exact .inl rfl | exact .inr rfl) rfl rfl ⟨_, (RVs.cons (RV.tmp rfl) (RVs.nil)), ?_⟩) | refine j_nil ?_ | ((refine sc_cond rfl ?_ ?_) <;> intro hc <;> (first | exact absurd hc (by decide) | ((try simp only [engHC] at hc) <;> first | (exfalso; omega) | exact absurd trivial hc | skip))))
  all_goals first
    | ((intro w' hS; refine ⟨?_, hS.below⟩; simp only [pack]); rfl)
    | (intro w' hS; refine ⟨?_, hS.below⟩; simp only [pack])
theorem indexF_c (R : List Ht) (y : Ht) (m : Nat) (bz : Nat) (ad : Addr) (n cc : Nat) (w : World) (hn : R.length = n) (hnl : n ≤ 1000) (hE : Ext w ⟨bz, 0, none⟩ [.slice (some ad) n cc]) (hR : RS w 2 htC (some ad) R) (hy : R[0]? = some y) (hm : m ≤ n)
    (h1 : ∀ i x, R[i]? = some x → i < m → ¬ y.c < x.c) (h2 : ∀ i x, R[i]? = some x → m ≤ i → y.c < x.c) :
    Calls Try.prog 43 #[.slice (some ad) n cc, .func (.func 30) #[] #[ptrV bz]] w fun e w' => e = .returned (.int .i64 (if m < n then (m : Int) else -1)) ∧ Below w.heap.size w w' := by
  have hn0 : 0 < n := by have := (List.getElem?_eq_some_iff.1 hy).1; omega
  refine eng_start (n := 19) (args := [.slice (some ad) n cc, .func (.func 30) #[] #[ptrV bz]]) tab tab_ok fns fns_ok [.tmp 4] Try.func43 rfl rfl rfl rfl ?_
  repeat' (first | (refine gJ ?_; first | refine js rfl rfl rfl rfl ?_ | (refine gload rfl rfl ?_; refine j_qe rfl rfl rfl ?_; first | refine ⟨_, q_load_own rfl rfl rfl rfl (by (repeat constructor)) (by first | rfl | assumption), ?_⟩ | refine ⟨_, q_loadA_own rfl rfl rfl rfl (by (repeat constructor)) (by rfl), ?_⟩ | refine ⟨_, q_loadA_ext rfl rfl rfl rfl ⟨by assumption, (by first | exact id | assumption)⟩ (by rfl), ?_⟩ | refine ⟨_, q_load_ext rfl rfl rfl rfl ⟨by assumption, (by first | exact id | assumption)⟩ (by first | rfl | assumption), ?_⟩ | refine ⟨_, q_load_extb rfl rfl rfl rfl ⟨by assumption, (by first | exact id | assumption)⟩ (by rfl), ?_⟩ | refine ⟨_, q_loadA_extb rfl rfl rfl rfl ⟨by assumption, (by first | exact id | assumption)⟩ (by rfl), ?_⟩ | refine ⟨_, q_load_ext0 rfl rfl rfl rfl ⟨by assumption, (by first | exact id | assumption)⟩ (by rfl), ?_⟩) | refine jar rfl rfl rfl rfl rfl rfl rfl (by omega) ?_ | (refine j_qe rfl rfl rfl ?_; first | refine ⟨_, q_index_nat rfl rfl rfl rfl rfl (by omega), ?_⟩ | refine ⟨_, q_index_slice rfl rfl rfl rfl rfl (by omega), ?_⟩ | refine ⟨_, q_index_arr rfl rfl rfl rfl rfl (by omega), ?_⟩ | refine ⟨_, q_index_arr_ext rfl rfl rfl rfl rfl (by omega), ?_⟩ | refine ⟨_, q_len_slice rfl rfl rfl rfl, ?_⟩ | refine ⟨_, q_addu8 rfl rfl rfl (by omega), ?_⟩)) | (refine gSC ?_; first | refine sc_mv rfl ?_ | refine sc_q rfl ?_ | refine sc_region ?_) | (refine gSQ ?_; first | refine sq_go rfl ?_ | refine sq_mv rfl ?_ | refine sq_ende (by first | exact .inl rfl | exact .inr rfl) rfl rfl ⟨_, (RVs.cons (RV.tmp rfl) (RVs.nil)), ?_⟩) | refine j_nil ?_ | ((refine sc_cond rfl ?_ ?_) <;> intro hc <;> (first | exact absurd hc (by decide) | ((try simp only [engHC] at hc) <;> first | (exfalso; omega) | exact absurd trivial hc | skip))))
  refine sc_loop (ι := Nat) (fun i => i ≤ m) (fun i => n - i) (fun i => [(0, .slice (some ad) n cc), (1, .func (.func 30) #[] #[ptrV bz]), (7, .int .i64 n), (8, .int .i64 i)]) (fun _ => []) 0 (Nat.zero_le _) (by (try dsimp only); exact (by repeat (first | exact FSub.nil | refine FSub.cons rfl ?_ | refine FSub.conse rfl (by congr 1; omega) ?_))) (by repeat (first | exact LSub.refl | refine LSub.cons (by repeat (first | exact Rem.here | apply Rem.there)) ?_ | apply LSub.skip)) ?_
  intro i hi
  dsimp only at hi ⊢
  by_cases hlt : i < n
  · obtain ⟨x, hx⟩ : ∃ x, R[i]? = some x := ⟨_, List.getElem?_eq_getElem (by omega)⟩
    obtain ⟨ad1, e1, hX⟩ := hR i x hx
    cases e1
    obtain ⟨ad2, e2, hY⟩ := hR 0 y hy
    cases e2
    have hb := fun (w' : World) h3 h4 => best1_c x y bz ad n cc w' h3 h4 hn0
    by_cases him : i < m
    · rw [decide_eq_false (h1 i x hx him)] at hb
      repeat' (first | (refine gJ ?_; first | refine js rfl rfl rfl rfl ?_ | (refine gload rfl rfl ?_; refine j_qe rfl rfl rfl ?_; first | refine ⟨_, q_load_own rfl rfl rfl rfl (by (repeat constructor)) (by first | rfl | assumption), ?_⟩ | refine ⟨_, q_loadA_own rfl rfl rfl rfl (by (repeat constructor)) (by rfl), ?_⟩ | refine ⟨_, q_loadA_ext rfl rfl rfl rfl ⟨by assumption, (by first | exact id | assumption)⟩ (by rfl), ?_⟩ | refine ⟨_, q_load_ext rfl rfl rfl rfl ⟨by assumption, (by first | exact id | assumption)⟩ (by first | rfl | assumption), ?_⟩ | refine ⟨_, q_load_extb rfl rfl rfl rfl ⟨by assumption, (by first | exact id | assumption)⟩ (by rfl), ?_⟩ | refine ⟨_, q_loadA_extb rfl rfl rfl rfl ⟨by assumption, (by first | exact id | assumption)⟩ (by rfl), ?_⟩ | refine ⟨_, q_load_ext0 rfl rfl rfl rfl ⟨by assumption, (by first | exact id | assumption)⟩ (by rfl), ?_⟩) | refine jar rfl rfl rfl rfl rfl rfl rfl (by omega) ?_ | (refine gcall rfl rfl ?_; first | (refine j_qc (f := 30) rfl rfl rfl rfl rfl rfl rfl ?_; refine ⟨_, (fun w' hs => hb w' (hE.st hs) (hY.st hs)), ?_⟩)) | (refine j_qe rfl rfl rfl ?_; refine ⟨_, q_index_at i rfl rfl rfl rfl rfl ⟨rfl, by omega⟩, ?_⟩) | (refine j_qe rfl rfl rfl ?_; first | refine ⟨_, q_index_nat rfl rfl rfl rfl rfl (by omega), ?_⟩ | refine ⟨_, q_index_slice rfl rfl rfl rfl rfl (by omega), ?_⟩ | refine ⟨_, q_index_arr rfl rfl rfl rfl rfl (by omega), ?_⟩ | refine ⟨_, q_index_arr_ext rfl rfl rfl rfl rfl (by omega), ?_⟩ | refine ⟨_, q_len_slice rfl rfl rfl rfl, ?_⟩ | refine ⟨_, q_addu8 rfl rfl rfl (by omega), ?_⟩)) | (refine gSC ?_; first | refine sc_mv rfl ?_ | refine sc_q rfl ?_ | refine sc_region ?_) | (refine gSQ ?_; first | refine sq_go rfl ?_ | refine sq_mv rfl ?_ | refine sq_ende (by first | exact .inl rfl | exact .inr rfl) rfl rfl ⟨_, (RVs.cons (RV.tmp rfl) (RVs.nil)), ?_⟩) | refine j_nil ?_ | ((refine sc_cond rfl ?_ ?_) <;> intro hc <;> (first | exact absurd hc (by decide) | ((try simp only [engHC] at hc) <;> first | (exfalso; omega) | exact absurd trivial hc | skip))))
      exact sq_loop (i + 1) him (by show n - (i + 1) < n - i; omega) (by (try dsimp only); exact (by repeat (first | exact FSub.nil | refine FSub.cons rfl ?_ | refine FSub.conse rfl (by congr 1; omega) ?_))) (by repeat (first | exact LSub.refl | refine LSub.cons (by repeat (first | exact Rem.here | apply Rem.there)) ?_ | apply LSub.skip))
    · rw [decide_eq_true (h2 i x hx (by omega))] at hb
      have : i = m := by omega
      subst this
      rw [if_pos hlt]
      repeat' (first | (refine gJ ?_; first | refine js rfl rfl rfl rfl ?_ | (refine gload rfl rfl ?_; refine j_qe rfl rfl rfl ?_; first | refine ⟨_, q_load_own rfl rfl rfl rfl (by (repeat constructor)) (by first | rfl | assumption), ?_⟩ | refine ⟨_, q_loadA_own rfl rfl rfl rfl (by (repeat constructor)) (by rfl), ?_⟩ | refine ⟨_, q_loadA_ext rfl rfl rfl rfl ⟨by assumption, (by first | exact id | assumption)⟩ (by rfl), ?_⟩ | refine ⟨_, q_load_ext rfl rfl rfl rfl ⟨by assumption, (by first | exact id | assumption)⟩ (by first | rfl | assumption), ?_⟩ | refine ⟨_, q_load_extb rfl rfl rfl rfl ⟨by assumption, (by first | exact id | assumption)⟩ (by rfl), ?_⟩ | refine ⟨_, q_loadA_extb rfl rfl rfl rfl ⟨by assumption, (by first | exact id | assumption)⟩ (by rfl), ?_⟩ | refine ⟨_, q_load_ext0 rfl rfl rfl rfl ⟨by assumption, (by first | exact id | assumption)⟩ (by rfl), ?_⟩) | refine jar rfl rfl rfl rfl rfl rfl rfl (by omega) ?_ | (refine gcall rfl rfl ?_; first | (refine j_qc (f := 30) rfl rfl rfl rfl rfl rfl rfl ?_; refine ⟨_, (fun w' hs => hb w' (hE.st hs) (hY.st hs)), ?_⟩)) | (refine j_qe rfl rfl rfl ?_; refine ⟨_, q_index_at i rfl rfl rfl rfl rfl ⟨rfl, by omega⟩, ?_⟩) | (refine j_qe rfl rfl rfl ?_; first | refine ⟨_, q_index_nat rfl rfl rfl rfl rfl (by omega), ?_⟩ | refine ⟨_, q_index_slice rfl rfl rfl rfl rfl (by omega), ?_⟩ | refine ⟨_, q_index_arr rfl rfl rfl rfl rfl (by omega), ?_⟩ | refine ⟨_, q_index_arr_ext rfl rfl rfl rfl rfl (by omega), ?_⟩ | refine ⟨_, q_len_slice rfl rfl rfl rfl, ?_⟩ | refine ⟨_, q_addu8 rfl rfl rfl (by omega), ?_⟩)) | (refine gSC ?_; first | refine sc_mv rfl ?_ | refine sc_q rfl ?_ | refine sc_region ?_) | (refine gSQ ?_; first | refine sq_go rfl ?_ | refine sq_mv rfl ?_ | refine sq_ende (by first | exact .inl rfl | exact .inr rfl) rfl rfl ⟨_, (RVs.cons (RV.tmp rfl) (RVs.nil)), ?_⟩) | refine j_nil ?_ | ((refine sc_cond rfl ?_ ?_) <;> intro hc <;> (first | exact absurd hc (by decide) | ((try simp only [engHC] at hc) <;> first | (exfalso; omega) | exact absurd trivial hc | skip))))
      (intro w' hS; refine ⟨?_, hS.below⟩; simp only [pack])
  · rw [if_neg (by omega)]
    repeat' (first | (refine gJ ?_; first | refine js rfl rfl rfl rfl ?_ | (refine gload rfl rfl ?_; refine j_qe rfl rfl rfl ?_; first | refine ⟨_, q_load_own rfl rfl rfl rfl (by (repeat constructor)) (by first | rfl | assumption), ?_⟩ | refine ⟨_, q_loadA_own rfl rfl rfl rfl (by (repeat constructor)) (by rfl), ?_⟩ | refine ⟨_, q_loadA_ext rfl rfl rfl rfl ⟨by assumption, (by first | exact id | assumption)⟩ (by rfl), ?_⟩ | refine ⟨_, q_load_ext rfl rfl rfl rfl ⟨by assumption, (by first | exact id | assumption)⟩ (by first | rfl | assumption), ?_⟩ | refine ⟨_, q_load_extb rfl rfl rfl rfl ⟨by assumption, (by first | exact id | assumption)⟩ (by rfl), ?_⟩ | refine ⟨_, q_loadA_extb rfl rfl rfl rfl ⟨by assumption, (by first | exact id | assumption)⟩ (by rfl), ?_⟩ | refine ⟨_, q_load_ext0 rfl rfl rfl rfl ⟨by assumption, (by first | exact id | assumption)⟩ (by rfl), ?_⟩) | refine jar rfl rfl rfl rfl rfl rfl rfl (by omega) ?_ | (refine j_qe rfl rfl rfl ?_; first | refine ⟨_, q_index_nat rfl rfl rfl rfl rfl (by omega), ?_⟩ | refine ⟨_, q_index_slice rfl rfl rfl rfl rfl (by omega), ?_⟩ | refine ⟨_, q_index_arr rfl rfl rfl rfl rfl (by omega), ?_⟩ | refine ⟨_, q_index_arr_ext rfl rfl rfl rfl rfl (by omega), ?_⟩ | refine ⟨_, q_len_slice rfl rfl rfl rfl, ?_⟩ | refine ⟨_, q_addu8 rfl rfl rfl (by omega), ?_⟩)) | (refine gSC ?_; first | refine sc_mv rfl ?_ | refine sc_q rfl ?_ | refine sc_region ?_) | (refine gSQ ?_; first | refine sq_go rfl ?_ | refine sq_mv rfl ?_ | refine sq_ende (by first | exact .inl rfl | exact .inr rfl) rfl rfl ⟨_, (RVs.cons (RV.tmp rfl) (RVs.nil)), ?_⟩) | refine j_nil ?_ | ((refine sc_cond rfl ?_ ?_) <;> intro hc <;> (first | exact absurd hc (by decide) | ((try simp only [engHC] at hc) <;> first | (exfalso; omega) | exact absurd trivial hc | skip))))
    (intro w' hS; refine ⟨?_, hS.below⟩; simp only [pack])
end Go.Proofs.Ytagndgidfaladaa

/-
  The lexicon: DeleteFunc.
-/
namespace Go.Proofs.Ytagndgidfaladaa
open Go.RowKit Eng
set_option linter.unusedVariables false
set_option linter.unusedSimpArgs false
set_option maxHeartbeats 8000000
attribute [local irreducible] SC SQ J Qt Calls Iterates LSub FSub
theorem htC_len (R : List Ht) : (R.flatMap htC).length = R.length * 2 := by
  induction R with
  | nil => rfl
  | cons x R ih => rw [List.flatMap_cons, List.length_append, ih, List.length_cons]; show 2 + R.length * 2 = (R.length + 1) * 2; omega
theorem htC_take : ∀ (m : Nat) (R : List Ht), (R.flatMap htC).take (m * 2) = (R.take m).flatMap htC
  | 0, R => by simp
  | m + 1, [] => by simp
  | m + 1, x :: R => by
    rw [List.take_succ_cons, List.flatMap_cons, List.flatMap_cons, ← htC_take m R, show (m + 1) * 2 = m * 2 + 2 by omega]
    rfl
theorem q_sliceLoS {C : Cx} {F : Fr} {L : List HA} {o : Oper} {t n c e sz by_ : Nat} {x y : Operand} {ti : TI} {ad : Addr} {kl : IntKind} (a : Nat) (ho : o.op = .slice t x (some y) none none) (ht : tget C.tab t = some ti) (hk : ti.kind = .slice e sz by_) (hx : ev F x = some (.slice (some ad) n c)) (hy : ev F y = some (.int kl (a : Int))) (ha : a < n) (hnc : n ≤ c) :
    Qv C o F L (.slice (some (ad.add (a * sz))) (n - a) (c - a)) := by
  have := q_sliceLoG (L := L) a ho ht hk hx hy (by omega) hnc
  rwa [if_neg (by omega)] at this
set_option maxRecDepth 4000 in
set_option maxHeartbeats 8000000 in
theorem delF_c {w0 w : World} {hot : Nat → Prop} {L : List HA} {L' : List Value → List HA} (R : List Ht) (y : Ht) (m : Nat) (bz : Nat) (ad : Addr) (n cc : Nat) (hs : St w0 hot L w) (hsub : LSub [.cells bz 32 [.slice (some ad) n cc], .own (.slice (some ad) n cc) 38 2 n (R.flatMap htC)] L)
    (hup : ∀ xs, Upd L (.own (.slice (some ad) n cc) 38 2 n (R.flatMap htC)) (.own (.slice (some ad) n cc) 38 2 n xs) (L' xs)) (hn : R.length = n) (hnl : n ≤ 1000) (hnc : n ≤ cc) (hy : R[0]? = some y) (hm : m ≤ n) (hm0 : 0 < m)
    (h1 : ∀ i x, R[i]? = some x → i < m → ¬ y.c < x.c) (h2 : ∀ i x, R[i]? = some x → m ≤ i → y.c < x.c) :
    Calls Try.prog 29 #[.slice (some ad) n cc, .func (.func 30) #[] #[ptrV bz]] w fun e w' => ∃ xs : List Value, (xs.length = n * 2 ∧ xs.take (m * 2) = (R.take m).flatMap htC) ∧ e = .returned (.slice (some ad) m cc) ∧ St w0 hot (L' xs) w' := by
  have hle := hs.lent2 hsub trivial trivial
  have hix := fun (w' : World) h3 h4 => indexF_c R y m bz ad n cc w' hn hnl h3 h4 hy hm h1 h2
  have hn0 : 0 < n := by have := (List.getElem?_eq_some_iff.1 hy).1; omega
  refine eng_start_lent (n := 42) (args := [.slice (some ad) n cc, .func (.func 30) #[] #[ptrV bz]]) tab tab_ok fns fns_ok [.tmp 4] _ _ Try.func29 rfl rfl rfl rfl (hle) ?_
  by_cases hmn : m < n
  · rw [if_pos hmn] at hix
    repeat' (first | (refine gJ ?_; first | refine js rfl rfl rfl rfl ?_ | (refine gload rfl rfl ?_; refine j_qe rfl rfl rfl ?_; first | refine ⟨_, q_load_own rfl rfl rfl rfl (by (repeat constructor)) (by first | rfl | assumption), ?_⟩ | refine ⟨_, q_loadA_own rfl rfl rfl rfl (by (repeat constructor)) (by rfl), ?_⟩ | refine ⟨_, q_loadA_ext rfl rfl rfl rfl ⟨by assumption, (by first | exact id | assumption)⟩ (by rfl), ?_⟩ | refine ⟨_, q_load_ext rfl rfl rfl rfl ⟨by assumption, (by first | exact id | assumption)⟩ (by first | rfl | assumption), ?_⟩ | refine ⟨_, q_load_extb rfl rfl rfl rfl ⟨by assumption, (by first | exact id | assumption)⟩ (by rfl), ?_⟩ | refine ⟨_, q_loadA_extb rfl rfl rfl rfl ⟨by assumption, (by first | exact id | assumption)⟩ (by rfl), ?_⟩ | refine ⟨_, q_load_ext0 rfl rfl rfl rfl ⟨by assumption, (by first | exact id | assumption)⟩ (by rfl), ?_⟩) | refine jar rfl rfl rfl rfl rfl rfl rfl (by omega) ?_ | (refine gcall rfl rfl ?_; first | (refine j_qc (f := 43) rfl rfl rfl rfl rfl rfl rfl ?_; refine ⟨_, (fun w' hs => hix w' (hs.ext (by (repeat constructor))) (rs_own (f := htC) (l := R) (fun _ => rfl) hs (by (repeat constructor)) hn.symm rfl)), ?_⟩)) | (refine gF ?_; first | refine j_store rfl rfl rfl rfl rfl rfl rfl rfl (by (repeat constructor)) (by rfl) ?_ | (refine j_alloc rfl rfl rfl rfl rfl ?_; intro b)) | (refine j_qe rfl rfl rfl ?_; first | refine ⟨_, q_index_nat rfl rfl rfl rfl rfl (by omega), ?_⟩ | refine ⟨_, q_index_slice rfl rfl rfl rfl rfl (by omega), ?_⟩ | refine ⟨_, q_index_arr rfl rfl rfl rfl rfl (by omega), ?_⟩ | refine ⟨_, q_index_arr_ext rfl rfl rfl rfl rfl (by omega), ?_⟩ | refine ⟨_, q_len_slice rfl rfl rfl rfl, ?_⟩ | refine ⟨_, q_addu8 rfl rfl rfl (by omega), ?_⟩)) | (refine gSC ?_; first | refine sc_mv rfl ?_ | refine sc_q rfl ?_ | refine sc_region ?_) | (refine gSQ ?_; first | refine sq_go rfl ?_ | refine sq_mv rfl ?_ | refine sq_ende (by first | exact .inl rfl | exact .inr rfl) rfl rfl ⟨_, (RVs.cons (RV.tmp rfl) (RVs.nil)), ?_⟩) | refine j_nil ?_ | ((refine sc_cond rfl ?_ ?_) <;> intro hc <;> (first | exact absurd hc (by decide) | ((try simp only [engHC] at hc) <;> first | (exfalso; omega) | exact absurd trivial hc | skip))))
    refine sc_loop (ι := Nat) (fun i => m < i ∧ i ≤ n) (fun i => n - i) (fun i => [(0, .slice (some ad) n cc), (1, .func (.func 30) #[] #[ptrV bz]), (5, .int .i64 m), (6, .int .i64 i)]) (fun _ => [.cells bz 32 [.slice (some ad) n cc], .own (.slice (some ad) n cc) 38 2 n (R.flatMap htC)]) (m + 1) ⟨by omega, by omega⟩ (by (try dsimp only); exact (by repeat (first | exact FSub.nil | refine FSub.cons rfl ?_ | refine FSub.conse rfl (by congr 1; omega) ?_))) (by repeat (first | exact LSub.refl | refine LSub.cons (by repeat (first | exact Rem.here | apply Rem.there)) ?_ | apply LSub.skip)) ?_
    rintro i ⟨hi1, hi2⟩
    dsimp only at hi1 hi2 ⊢
    by_cases hlt : i < n
    · obtain ⟨x, hx⟩ : ∃ x, R[i]? = some x := ⟨_, List.getElem?_eq_getElem (by omega)⟩
      have hb := fun (w' : World) h3 (h4 : RS w' 2 htC (some ad) R) => best1_c x y bz ad n cc w' h3 (by obtain ⟨ad2, e2, hY⟩ := h4 0 y hy; cases e2; exact hY) hn0
      rw [decide_eq_true (h2 i x hx (by omega))] at hb
      repeat' (first | (refine gJ ?_; first | refine js rfl rfl rfl rfl ?_ | (refine gload rfl rfl ?_; refine j_qe rfl rfl rfl ?_; first | refine ⟨_, q_load_own rfl rfl rfl rfl (by (repeat constructor)) (by first | rfl | assumption), ?_⟩ | refine ⟨_, q_loadA_own rfl rfl rfl rfl (by (repeat constructor)) (by rfl), ?_⟩ | refine ⟨_, q_loadA_ext rfl rfl rfl rfl ⟨by assumption, (by first | exact id | assumption)⟩ (by rfl), ?_⟩ | refine ⟨_, q_load_ext rfl rfl rfl rfl ⟨by assumption, (by first | exact id | assumption)⟩ (by first | rfl | assumption), ?_⟩ | refine ⟨_, q_load_extb rfl rfl rfl rfl ⟨by assumption, (by first | exact id | assumption)⟩ (by rfl), ?_⟩ | refine ⟨_, q_loadA_extb rfl rfl rfl rfl ⟨by assumption, (by first | exact id | assumption)⟩ (by rfl), ?_⟩ | refine ⟨_, q_load_ext0 rfl rfl rfl rfl ⟨by assumption, (by first | exact id | assumption)⟩ (by rfl), ?_⟩) | refine jar rfl rfl rfl rfl rfl rfl rfl (by omega) ?_ | (refine gcall rfl rfl ?_; first | (refine j_qc (f := 30) rfl rfl rfl rfl rfl rfl rfl ?_; refine ⟨_, (fun w' hs => hb w' (hs.ext (by (repeat constructor))) (rs_own (f := htC) (l := R) (fun _ => rfl) hs (by (repeat constructor)) hn.symm rfl)), ?_⟩)) | (refine gF ?_; refine j_alloc (t := 38) rfl rfl rfl rfl rfl ?_; intro b7) | (refine j_qe rfl rfl rfl ?_; refine ⟨_, q_index_at i rfl rfl rfl rfl rfl ⟨rfl, by omega⟩, ?_⟩) | (refine j_qe rfl rfl rfl ?_; refine ⟨_, q_rowA (f := htC) (l := R) (i := i) rfl rfl rfl rfl (by (repeat constructor)) (fun _ => rfl) hx rfl, ?_⟩) | (refine gF ?_; first | refine j_store rfl rfl rfl rfl rfl rfl rfl rfl (by (repeat constructor)) (by rfl) ?_ | (refine j_alloc rfl rfl rfl rfl rfl ?_; intro b)) | (refine j_qe rfl rfl rfl ?_; first | refine ⟨_, q_index_nat rfl rfl rfl rfl rfl (by omega), ?_⟩ | refine ⟨_, q_index_slice rfl rfl rfl rfl rfl (by omega), ?_⟩ | refine ⟨_, q_index_arr rfl rfl rfl rfl rfl (by omega), ?_⟩ | refine ⟨_, q_index_arr_ext rfl rfl rfl rfl rfl (by omega), ?_⟩ | refine ⟨_, q_len_slice rfl rfl rfl rfl, ?_⟩ | refine ⟨_, q_addu8 rfl rfl rfl (by omega), ?_⟩)) | (refine gSC ?_; first | refine sc_mv rfl ?_ | refine sc_q rfl ?_ | refine sc_region ?_) | (refine gSQ ?_; first | refine sq_go rfl ?_ | refine sq_mv rfl ?_ | refine sq_ende (by first | exact .inl rfl | exact .inr rfl) rfl rfl ⟨_, (RVs.cons (RV.tmp rfl) (RVs.nil)), ?_⟩) | refine j_nil ?_ | ((refine sc_cond rfl ?_ ?_) <;> intro hc <;> (first | exact absurd hc (by decide) | ((try simp only [engHC] at hc) <;> first | (exfalso; omega) | exact absurd trivial hc | skip))))
      exact sq_loop (i + 1) ⟨by omega, by omega⟩ (by show n - (i + 1) < n - i; omega) (by (try dsimp only); exact (by repeat (first | exact FSub.nil | refine FSub.cons rfl ?_ | refine FSub.conse rfl (by congr 1; omega) ?_))) (by repeat (first | exact LSub.refl | refine LSub.cons (by repeat (first | exact Rem.here | apply Rem.there)) ?_ | apply LSub.skip))
    · repeat' (first | (refine gJ ?_; first | refine js rfl rfl rfl rfl ?_ | (refine gload rfl rfl ?_; refine j_qe rfl rfl rfl ?_; first | refine ⟨_, q_load_own rfl rfl rfl rfl (by (repeat constructor)) (by first | rfl | assumption), ?_⟩ | refine ⟨_, q_loadA_own rfl rfl rfl rfl (by (repeat constructor)) (by rfl), ?_⟩ | refine ⟨_, q_loadA_ext rfl rfl rfl rfl ⟨by assumption, (by first | exact id | assumption)⟩ (by rfl), ?_⟩ | refine ⟨_, q_load_ext rfl rfl rfl rfl ⟨by assumption, (by first | exact id | assumption)⟩ (by first | rfl | assumption), ?_⟩ | refine ⟨_, q_load_extb rfl rfl rfl rfl ⟨by assumption, (by first | exact id | assumption)⟩ (by rfl), ?_⟩ | refine ⟨_, q_loadA_extb rfl rfl rfl rfl ⟨by assumption, (by first | exact id | assumption)⟩ (by rfl), ?_⟩ | refine ⟨_, q_load_ext0 rfl rfl rfl rfl ⟨by assumption, (by first | exact id | assumption)⟩ (by rfl), ?_⟩) | refine jar rfl rfl rfl rfl rfl rfl rfl (by omega) ?_ | (refine j_qe rfl rfl rfl ?_; first | refine ⟨_, q_sliceLoS m rfl rfl rfl rfl rfl hmn hnc, ?_⟩ | refine ⟨_, q_sliceHi m rfl rfl rfl rfl rfl (by omega), ?_⟩) | (refine j_clear (p := m * 2) (k := n - m) rfl rfl rfl rfl rfl rfl rfl rfl (by omega) (by (repeat constructor)) (by rw [htC_len]; show m * 2 + (n - m) * 2 ≤ _; omega) (fun cs => by (repeat constructor)) ?_; intro cs hcs) | (refine gF ?_; first | refine j_store rfl rfl rfl rfl rfl rfl rfl rfl (by (repeat constructor)) (by rfl) ?_ | (refine j_alloc rfl rfl rfl rfl rfl ?_; intro b)) | (refine j_qe rfl rfl rfl ?_; first | refine ⟨_, q_index_nat rfl rfl rfl rfl rfl (by omega), ?_⟩ | refine ⟨_, q_index_slice rfl rfl rfl rfl rfl (by omega), ?_⟩ | refine ⟨_, q_index_arr rfl rfl rfl rfl rfl (by omega), ?_⟩ | refine ⟨_, q_index_arr_ext rfl rfl rfl rfl rfl (by omega), ?_⟩ | refine ⟨_, q_len_slice rfl rfl rfl rfl, ?_⟩ | refine ⟨_, q_addu8 rfl rfl rfl (by omega), ?_⟩)) | (refine gSC ?_; first | refine sc_mv rfl ?_ | refine sc_q rfl ?_ | refine sc_region ?_) | (refine gSQ ?_; first | refine sq_go rfl ?_ | refine sq_mv rfl ?_ | refine sq_ende (by first | exact .inl rfl | exact .inr rfl) rfl rfl ⟨_, (RVs.cons (RV.tmp rfl) (RVs.nil)), ?_⟩) | refine j_nil ?_ | ((refine sc_cond rfl ?_ ?_) <;> intro hc <;> (first | exact absurd hc (by decide) | ((try simp only [engHC] at hc) <;> first | (exfalso; omega) | exact absurd trivial hc | skip))))
      intro w' hS
      have hcs2 : cs.length = (n - m) * 2 := hcs
      have hpl : m * 2 + cs.length ≤ (R.flatMap htC).length := by rw [htC_len]; omega
      refine ⟨splice (R.flatMap htC) (m * 2) cs, ⟨?_, ?_⟩, rfl, hs.back2 hsub (hup _) hS trivial trivial (fun z hz => hz)⟩
      · rw [splice_length _ _ _ hpl, htC_len, hn]
      · rw [splice_eq _ _ _ hpl, List.append_assoc, List.take_append_of_le_length (by rw [List.length_take]; omega), List.take_take, Nat.min_self, htC_take]
  · have : m = n := by omega
    subst this
    rw [if_neg hmn] at hix
    repeat' (first | (refine gJ ?_; first | refine js rfl rfl rfl rfl ?_ | (refine gload rfl rfl ?_; refine j_qe rfl rfl rfl ?_; first | refine ⟨_, q_load_own rfl rfl rfl rfl (by (repeat constructor)) (by first | rfl | assumption), ?_⟩ | refine ⟨_, q_loadA_own rfl rfl rfl rfl (by (repeat constructor)) (by rfl), ?_⟩ | refine ⟨_, q_loadA_ext rfl rfl rfl rfl ⟨by assumption, (by first | exact id | assumption)⟩ (by rfl), ?_⟩ | refine ⟨_, q_load_ext rfl rfl rfl rfl ⟨by assumption, (by first | exact id | assumption)⟩ (by first | rfl | assumption), ?_⟩ | refine ⟨_, q_load_extb rfl rfl rfl rfl ⟨by assumption, (by first | exact id | assumption)⟩ (by rfl), ?_⟩ | refine ⟨_, q_loadA_extb rfl rfl rfl rfl ⟨by assumption, (by first | exact id | assumption)⟩ (by rfl), ?_⟩ | refine ⟨_, q_load_ext0 rfl rfl rfl rfl ⟨by assumption, (by first | exact id | assumption)⟩ (by rfl), ?_⟩) | refine jar rfl rfl rfl rfl rfl rfl rfl (by omega) ?_ | (refine gcall rfl rfl ?_; first | (refine j_qc (f := 43) rfl rfl rfl rfl rfl rfl rfl ?_; refine ⟨_, (fun w' hs => hix w' (hs.ext (by (repeat constructor))) (rs_own (f := htC) (l := R) (fun _ => rfl) hs (by (repeat constructor)) hn.symm rfl)), ?_⟩)) | (refine gF ?_; first | refine j_store rfl rfl rfl rfl rfl rfl rfl rfl (by (repeat constructor)) (by rfl) ?_ | (refine j_alloc rfl rfl rfl rfl rfl ?_; intro b)) | (refine j_qe rfl rfl rfl ?_; first | refine ⟨_, q_index_nat rfl rfl rfl rfl rfl (by omega), ?_⟩ | refine ⟨_, q_index_slice rfl rfl rfl rfl rfl (by omega), ?_⟩ | refine ⟨_, q_index_arr rfl rfl rfl rfl rfl (by omega), ?_⟩ | refine ⟨_, q_index_arr_ext rfl rfl rfl rfl rfl (by omega), ?_⟩ | refine ⟨_, q_len_slice rfl rfl rfl rfl, ?_⟩ | refine ⟨_, q_addu8 rfl rfl rfl (by omega), ?_⟩)) | (refine gSC ?_; first | refine sc_mv rfl ?_ | refine sc_q rfl ?_ | refine sc_region ?_) | (refine gSQ ?_; first | refine sq_go rfl ?_ | refine sq_mv rfl ?_ | refine sq_ende (by first | exact .inl rfl | exact .inr rfl) rfl rfl ⟨_, (RVs.cons (RV.tmp rfl) (RVs.nil)), ?_⟩) | refine j_nil ?_ | ((refine sc_cond rfl ?_ ?_) <;> intro hc <;> (first | exact absurd hc (by decide) | ((try simp only [engHC] at hc) <;> first | (exfalso; omega) | exact absurd trivial hc | skip))))
    intro w' hS
    refine ⟨R.flatMap htC, ⟨?_, ?_⟩, rfl, hs.back2 hsub (hup _) hS trivial trivial (fun z hz => hz)⟩
    · rw [htC_len, hn]
    · rw [htC_take]
end Go.Proofs.Ytagndgidfaladaa

/-
  The lexicon: Best.
-/
namespace Go.Proofs.Ytagndgidfaladaa
open Go.RowKit Eng
set_option linter.unusedVariables false
set_option linter.unusedSimpArgs false
set_option maxHeartbeats 8000000
attribute [local irreducible] SC SQ J Qt Calls Iterates LSub FSub
theorem index0_c (A : Option Addr) (cc bz : Nat) (w : World) : Calls Try.prog 43 #[.slice A 0 cc, .func (.func 30) #[] #[ptrV bz]] w fun e w' => e = .returned (.int .i64 (-1)) ∧ Below w.heap.size w w' := by
  refine eng_start (n := 19) (args := [.slice A 0 cc, .func (.func 30) #[] #[ptrV bz]]) tab tab_ok fns fns_ok [.tmp 4] Try.func43 rfl rfl rfl rfl ?_
  repeat' (first | (refine gJ ?_; first | refine js rfl rfl rfl rfl ?_ | (refine gload rfl rfl ?_; refine j_qe rfl rfl rfl ?_; first | refine ⟨_, q_load_own rfl rfl rfl rfl (by (repeat constructor)) (by first | rfl | assumption), ?_⟩ | refine ⟨_, q_loadA_own rfl rfl rfl rfl (by (repeat constructor)) (by rfl), ?_⟩ | refine ⟨_, q_loadA_ext rfl rfl rfl rfl ⟨by assumption, (by first | exact id | assumption)⟩ (by rfl), ?_⟩ | refine ⟨_, q_load_ext rfl rfl rfl rfl ⟨by assumption, (by first | exact id | assumption)⟩ (by first | rfl | assumption), ?_⟩ | refine ⟨_, q_load_extb rfl rfl rfl rfl ⟨by assumption, (by first | exact id | assumption)⟩ (by rfl), ?_⟩ | refine ⟨_, q_loadA_extb rfl rfl rfl rfl ⟨by assumption, (by first | exact id | assumption)⟩ (by rfl), ?_⟩ | refine ⟨_, q_load_ext0 rfl rfl rfl rfl ⟨by assumption, (by first | exact id | assumption)⟩ (by rfl), ?_⟩) | refine jar rfl rfl rfl rfl rfl rfl rfl (by omega) ?_ | (refine j_qe rfl rfl rfl ?_; first | refine ⟨_, q_index_nat rfl rfl rfl rfl rfl (by omega), ?_⟩ | refine ⟨_, q_index_slice rfl rfl rfl rfl rfl (by omega), ?_⟩ | refine ⟨_, q_index_arr rfl rfl rfl rfl rfl (by omega), ?_⟩ | refine ⟨_, q_index_arr_ext rfl rfl rfl rfl rfl (by omega), ?_⟩ | refine ⟨_, q_len_slice rfl rfl rfl rfl, ?_⟩ | refine ⟨_, q_addu8 rfl rfl rfl (by omega), ?_⟩)) | (refine gSC ?_; first | refine sc_mv rfl ?_ | refine sc_q rfl ?_ | refine sc_region ?_) | (refine gSQ ?_; first | refine sq_go rfl ?_ | refine sq_mv rfl ?_ | refine sq_ende (by first | exact .inl rfl | exact .inr rfl) rfl rfl ⟨_, (RVs.cons (RV.tmp rfl) (RVs.nil)), ?_⟩) | refine j_nil ?_ | ((refine sc_cond rfl ?_ ?_) <;> intro hc <;> (first | exact absurd hc (by decide) | ((try simp only [engHC] at hc) <;> first | (exfalso; omega) | exact absurd trivial hc | skip))))
  refine sc_loop (ι := Unit) (fun _ => True) (fun _ => 0) (fun _ => [(7, .int .i64 0), (8, .int .i64 0)]) (fun _ => []) () trivial (by (try dsimp only); exact (by repeat (first | exact FSub.nil | refine FSub.cons rfl ?_ | refine FSub.conse rfl (by congr 1; omega) ?_))) (by repeat (first | exact LSub.refl | refine LSub.cons (by repeat (first | exact Rem.here | apply Rem.there)) ?_ | apply LSub.skip)) ?_
  intro _ _
  repeat' (first | (refine gJ ?_; first | refine js rfl rfl rfl rfl ?_ | (refine gload rfl rfl ?_; refine j_qe rfl rfl rfl ?_; first | refine ⟨_, q_load_own rfl rfl rfl rfl (by (repeat constructor)) (by first | rfl | assumption), ?_⟩ | refine ⟨_, q_loadA_own rfl rfl rfl rfl (by (repeat constructor)) (by rfl), ?_⟩ | refine ⟨_, q_loadA_ext rfl rfl rfl rfl ⟨by assumption, (by first | exact id | assumption)⟩ (by rfl), ?_⟩ | refine ⟨_, q_load_ext rfl rfl rfl rfl ⟨by assumption, (by first | exact id | assumption)⟩ (by first | rfl | assumption), ?_⟩ | refine ⟨_, q_load_extb rfl rfl rfl rfl ⟨by assumption, (by first | exact id | assumption)⟩ (by rfl), ?_⟩ | refine ⟨_, q_loadA_extb rfl rfl rfl rfl ⟨by assumption, (by first | exact id | assumption)⟩ (by rfl), ?_⟩ | refine ⟨_, q_load_ext0 rfl rfl rfl rfl ⟨by assumption, (by first | exact id | assumption)⟩ (by rfl), ?_⟩) | refine jar rfl rfl rfl rfl rfl rfl rfl (by omega) ?_ | (refine j_qe rfl rfl rfl ?_; first | refine ⟨_, q_index_nat rfl rfl rfl rfl rfl (by omega), ?_⟩ | refine ⟨_, q_index_slice rfl rfl rfl rfl rfl (by omega), ?_⟩ | refine ⟨_, q_index_arr rfl rfl rfl rfl rfl (by omega), ?_⟩ | refine ⟨_, q_index_arr_ext rfl rfl rfl rfl rfl (by omega), ?_⟩ | refine ⟨_, q_len_slice rfl rfl rfl rfl, ?_⟩ | refine ⟨_, q_addu8 rfl rfl rfl (by omega), ?_⟩)) | (refine gSC ?_; first | refine sc_mv rfl ?_ | refine sc_q rfl ?_ | refine sc_region ?_) | (refine gSQ ?_; first | refine sq_go rfl ?_ | refine sq_mv rfl ?_ | refine sq_ende (by first | exact .inl rfl | exact .inr rfl) rfl rfl ⟨_, (RVs.cons (RV.tmp rfl) (RVs.nil)), ?_⟩) | refine j_nil ?_ | ((refine sc_cond rfl ?_ ?_) <;> intro hc <;> (first | exact absurd hc (by decide) | ((try simp only [engHC] at hc) <;> first | (exfalso; omega) | exact absurd trivial hc | skip))))
  all_goals first
    | (exfalso; omega)
    | (intro w' hS; refine ⟨?_, hS.below⟩; simp only [pack])
theorem sl_some {A : Option Addr} {n c : Nat} (h : Sl A n c) (hn : 0 < n) : ∃ a, A = some a := by
  cases A with
  | none => have := (h.nil rfl).1; omega
  | some q => exact ⟨q, rfl⟩
theorem del0_c (A : Option Addr) (cc bz : Nat) (w : World) : Calls Try.prog 29 #[.slice A 0 cc, .func (.func 30) #[] #[ptrV bz]] w fun e w' => e = .returned (.slice A 0 cc) ∧ Below w.heap.size w w' := by
  refine eng_start (n := 42) (args := [.slice A 0 cc, .func (.func 30) #[] #[ptrV bz]]) tab tab_ok fns fns_ok [.tmp 4] Try.func29 rfl rfl rfl rfl ?_
  repeat' (first | (refine gJ ?_; first | refine js rfl rfl rfl rfl ?_ | (refine gload rfl rfl ?_; refine j_qe rfl rfl rfl ?_; first | refine ⟨_, q_load_own rfl rfl rfl rfl (by (repeat constructor)) (by first | rfl | assumption), ?_⟩ | refine ⟨_, q_loadA_own rfl rfl rfl rfl (by (repeat constructor)) (by rfl), ?_⟩ | refine ⟨_, q_loadA_ext rfl rfl rfl rfl ⟨by assumption, (by first | exact id | assumption)⟩ (by rfl), ?_⟩ | refine ⟨_, q_load_ext rfl rfl rfl rfl ⟨by assumption, (by first | exact id | assumption)⟩ (by first | rfl | assumption), ?_⟩ | refine ⟨_, q_load_extb rfl rfl rfl rfl ⟨by assumption, (by first | exact id | assumption)⟩ (by rfl), ?_⟩ | refine ⟨_, q_loadA_extb rfl rfl rfl rfl ⟨by assumption, (by first | exact id | assumption)⟩ (by rfl), ?_⟩ | refine ⟨_, q_load_ext0 rfl rfl rfl rfl ⟨by assumption, (by first | exact id | assumption)⟩ (by rfl), ?_⟩) | refine jar rfl rfl rfl rfl rfl rfl rfl (by omega) ?_ | (refine gcall rfl rfl ?_; first | (refine j_qc (f := 43) rfl rfl rfl rfl rfl rfl rfl ?_; refine ⟨_, (fun w' hs => index0_c A cc bz w'), ?_⟩)) | (refine gF ?_; first | refine j_store rfl rfl rfl rfl rfl rfl rfl rfl (by (repeat constructor)) (by rfl) ?_ | (refine j_alloc rfl rfl rfl rfl rfl ?_; intro b)) | (refine j_qe rfl rfl rfl ?_; first | refine ⟨_, q_index_nat rfl rfl rfl rfl rfl (by omega), ?_⟩ | refine ⟨_, q_index_slice rfl rfl rfl rfl rfl (by omega), ?_⟩ | refine ⟨_, q_index_arr rfl rfl rfl rfl rfl (by omega), ?_⟩ | refine ⟨_, q_index_arr_ext rfl rfl rfl rfl rfl (by omega), ?_⟩ | refine ⟨_, q_len_slice rfl rfl rfl rfl, ?_⟩ | refine ⟨_, q_addu8 rfl rfl rfl (by omega), ?_⟩)) | (refine gSC ?_; first | refine sc_mv rfl ?_ | refine sc_q rfl ?_ | refine sc_region ?_) | (refine gSQ ?_; first | refine sq_go rfl ?_ | refine sq_mv rfl ?_ | refine sq_ende (by first | exact .inl rfl | exact .inr rfl) rfl rfl ⟨_, (RVs.cons (RV.tmp rfl) (RVs.nil)), ?_⟩) | refine j_nil ?_ | ((refine sc_cond rfl ?_ ?_) <;> intro hc <;> (first | exact absurd hc (by decide) | ((try simp only [engHC] at hc) <;> first | (exfalso; omega) | exact absurd trivial hc | skip))))
  all_goals first
    | (exfalso; omega)
    | (intro w' hS; refine ⟨?_, hS.below⟩; simp only [pack])
set_option maxRecDepth 4000 in
set_option maxHeartbeats 8000000 in
theorem Best_c {w : World} {W : List (List UInt8)} {bx rb rm : Nat} {A0 : Option Addr} {c0 : Nat} {ar : List Nd} (h : LX w W bx rb rm A0 c0 ar) (hok : WsOk W) (s : List UInt8) (c : Cs) (most : Int) (hc9 : csOk c) (hsl : s.length ≤ 60) :
    Calls Try.prog 12 #[ptrV bx, strV s, csV c, .int .i64 most] w fun e w' => ∃ i : Option Addr × Nat × List Value, (Sl i.1 (hitsF W s c most).length i.2.1 ∧ i.2.2.take (fstN (hitsF W s c most) * 2) = (bestF (hitsF W s c most)).flatMap htC) ∧ e = .returned (.tuple #[.slice i.1 (fstN (hitsF W s c most)) i.2.1, .int .i64 0]) ∧ St w Cold [.own (.slice i.1 (hitsF W s c most).length i.2.1) 38 2 (hitsF W s c most).length i.2.2] w' := by
  have hnr := fun (w' : World) (hl : LX w' W bx rb rm A0 c0 ar) => Near_c hl hok s c most hc9 hsl
  have hbt := best_take (hits_le (W := W) (s := s) (c := c) (most := most))
  have hup0 := hits_le (W := W) (s := s) (c := c) (most := most)
  have hlen : (hitsF W s c most).length ≤ 1000 := by
    have h1 := (hits_perm W s c most).length_eq
    have h2 := List.length_filterMap_le (hitO W s c most) (numU W [])
    have h3 := numU_len W []
    have := hok.len
    omega
  generalize hitsF W s c most = H at *
  cases H with
  | nil =>
    refine eng_start (n := 26) (args := [ptrV bx, strV s, csV c, .int .i64 most]) tab tab_ok fns fns_ok [.tmp 8, .tmp 9] Try.func12 rfl rfl rfl rfl ?_
    repeat' (first | (refine gJ ?_; first | refine js rfl rfl rfl rfl ?_ | (refine gload rfl rfl ?_; refine j_qe rfl rfl rfl ?_; first | refine ⟨_, q_load_own rfl rfl rfl rfl (by (repeat constructor)) (by first | rfl | assumption), ?_⟩ | refine ⟨_, q_loadA_own rfl rfl rfl rfl (by (repeat constructor)) (by rfl), ?_⟩ | refine ⟨_, q_loadA_ext rfl rfl rfl rfl ⟨by assumption, (by first | exact id | assumption)⟩ (by rfl), ?_⟩ | refine ⟨_, q_load_ext rfl rfl rfl rfl ⟨by assumption, (by first | exact id | assumption)⟩ (by first | rfl | assumption), ?_⟩ | refine ⟨_, q_load_extb rfl rfl rfl rfl ⟨by assumption, (by first | exact id | assumption)⟩ (by rfl), ?_⟩ | refine ⟨_, q_loadA_extb rfl rfl rfl rfl ⟨by assumption, (by first | exact id | assumption)⟩ (by rfl), ?_⟩ | refine ⟨_, q_load_ext0 rfl rfl rfl rfl ⟨by assumption, (by first | exact id | assumption)⟩ (by rfl), ?_⟩) | (refine gcall rfl rfl ?_; first | (refine j_qc (f := 29) rfl rfl rfl rfl rfl rfl rfl ?_; refine ⟨_, (fun w' _ => del0_c _ _ _ w'), ?_⟩)) | (refine gcall rfl rfl ?_; refine gF ?_; refine j_callN (f := 11) rfl rfl rfl rfl rfl rfl rfl (fun v : Value => .tuple #[v, .int .i64 0]) (fun _ => True) (fun v => [.own v 38 2 0 []]) (fun w' hs => hnr w' (h.later hs)) (fun _ => trivial) ?_; rintro v9 _; refine j_owns (v := v9) (by (repeat constructor)) ?_; rintro A3 c3 rfl hs3) | (refine gF ?_; refine j_alloc (t := 32) rfl rfl rfl rfl rfl ?_; intro b7) | (refine gF ?_; first | refine j_store rfl rfl rfl rfl rfl rfl rfl rfl (by (repeat constructor)) (by rfl) ?_ | (refine j_alloc rfl rfl rfl rfl rfl ?_; intro b) | (refine j_box rfl rfl rfl rfl rfl ?_; intro b)) | (refine j_qe rfl rfl rfl ?_; first | refine ⟨_, q_makeFunc rfl rfl, ?_⟩)) | (refine gSC ?_; first | refine sc_mv rfl ?_ | refine sc_q rfl ?_ | refine sc_region ?_) | (refine gSQ ?_; first | refine sq_go rfl ?_ | refine sq_mv rfl ?_ | refine sq_ende (by first | exact .inl rfl | exact .inr rfl) rfl rfl ⟨_, (RVs.cons (RV.tmp rfl) (RVs.cons (RV.tmp rfl) (RVs.nil))), ?_⟩) | refine j_nil ?_ | ((refine sc_cond rfl ?_ ?_) <;> intro hc <;> (first | exact absurd hc (by decide) | ((try simp only [engHC] at hc) <;> first | (exfalso; omega) | exact absurd trivial hc | skip))))
    all_goals first
      | (exfalso; omega)
      | (intro w' hS
         exact ⟨(A3, c3, []), ⟨hs3, rfl⟩, rfl, hS.sub (by repeat (first | exact LSub.refl | refine LSub.cons (by repeat (first | exact Rem.here | apply Rem.there)) ?_ | apply LSub.skip))⟩)
  | cons y T =>
    obtain ⟨hb1, hb2⟩ := hbt
    have hpm : ∀ i x, (y :: T)[i]? = some x → i < fstN (y :: T) → ¬ y.c < x.c := fun i x hx hi => by
      have h3 : x ∈ bestF (y :: T) := by
        rw [hb1]
        refine List.mem_of_getElem? (i := i) ?_
        rw [List.getElem?_take, if_pos hi]
        exact hx
      have := (List.mem_filter.1 h3).2
      rw [decide_eq_true_eq] at this
      omega
    have hpm2 : ∀ i x, (y :: T)[i]? = some x → fstN (y :: T) ≤ i → y.c < x.c := fun i x hx hi => by
      have e1 : bestF (y :: T) = ((y :: T).take (fstN (y :: T))).filter (fun x => decide (x.c ≤ y.c)) ++ ((y :: T).drop (fstN (y :: T))).filter (fun x => decide (x.c ≤ y.c)) := by
        rw [← List.filter_append, List.take_append_drop]
        rfl
      have e2 : ((y :: T).take (fstN (y :: T))).filter (fun x => decide (x.c ≤ y.c)) = (y :: T).take (fstN (y :: T)) := by
        rw [← hb1]
        refine List.filter_eq_self.2 fun z hz => (List.mem_filter.1 hz).2
      rw [e2, ← hb1] at e1
      have e3 := congrArg List.length e1
      rw [List.length_append] at e3
      have e4 : ((y :: T).drop (fstN (y :: T))).filter (fun x => decide (x.c ≤ y.c)) = [] := List.length_eq_zero_iff.1 (by omega)
      have h5 := List.filter_eq_nil_iff.1 e4 x (List.mem_of_getElem? (i := i - fstN (y :: T)) (by rw [List.getElem?_drop, show fstN (y :: T) + (i - fstN (y :: T)) = i by omega]; exact hx))
      rw [decide_eq_true_eq] at h5
      omega
    obtain ⟨m, hm⟩ : ∃ m, m = fstN (y :: T) := ⟨_, rfl⟩
    have hm0 : 0 < m := by
      rw [hm, ← hb2]
      exact List.length_pos_of_mem (a := y) (List.mem_filter.2 ⟨List.mem_cons_self, by simp⟩)
    have hmle : m ≤ (y :: T).length := by rw [hm, ← hb2, hb1]; exact List.length_take_le' _ _
    rw [hb1]
    rw [← hm] at hpm hpm2 ⊢
    generalize hH : y :: T = H at *
    have hy0 : H[0]? = some y := by rw [← hH]; rfl
    obtain ⟨n, hn⟩ : ∃ n, n = H.length := ⟨_, rfl⟩
    rw [← hn] at hnr hlen hmle ⊢
    refine eng_start (n := 26) (args := [ptrV bx, strV s, csV c, .int .i64 most]) tab tab_ok fns fns_ok [.tmp 8, .tmp 9] Try.func12 rfl rfl rfl rfl ?_
    repeat' (first | (refine gJ ?_; first | refine js rfl rfl rfl rfl ?_ | (refine gload rfl rfl ?_; refine j_qe rfl rfl rfl ?_; first | refine ⟨_, q_load_own rfl rfl rfl rfl (by (repeat constructor)) (by first | rfl | assumption), ?_⟩ | refine ⟨_, q_loadA_own rfl rfl rfl rfl (by (repeat constructor)) (by rfl), ?_⟩ | refine ⟨_, q_loadA_ext rfl rfl rfl rfl ⟨by assumption, (by first | exact id | assumption)⟩ (by rfl), ?_⟩ | refine ⟨_, q_load_ext rfl rfl rfl rfl ⟨by assumption, (by first | exact id | assumption)⟩ (by first | rfl | assumption), ?_⟩ | refine ⟨_, q_load_extb rfl rfl rfl rfl ⟨by assumption, (by first | exact id | assumption)⟩ (by rfl), ?_⟩ | refine ⟨_, q_loadA_extb rfl rfl rfl rfl ⟨by assumption, (by first | exact id | assumption)⟩ (by rfl), ?_⟩ | refine ⟨_, q_load_ext0 rfl rfl rfl rfl ⟨by assumption, (by first | exact id | assumption)⟩ (by rfl), ?_⟩) | (refine gcall rfl rfl ?_; refine gF ?_; refine j_callN (f := 11) rfl rfl rfl rfl rfl rfl rfl (fun v : Value => .tuple #[v, .int .i64 0]) (fun _ => True) (fun v => [.own v 38 2 n (H.flatMap htC)]) (fun w' hs => hnr w' (h.later hs)) (fun _ => trivial) ?_; rintro v9 _; refine j_owns (v := v9) (by (repeat constructor)) ?_; rintro A3 c3 rfl hs3; have hA3 := sl_some hs3 (by omega); obtain ⟨ad3, rfl⟩ := hA3; have hnc := hs3.le) | (refine gF ?_; refine j_alloc (t := 32) rfl rfl rfl rfl rfl ?_; intro b7) | (refine gcall rfl rfl ?_; refine gF ?_; refine j_call (f := 29) (ξ := List Value) (fun _ => .slice (some ad3) m c3) (fun xs => xs.length = n * 2 ∧ xs.take (m * 2) = (H.take m).flatMap htC) _ rfl rfl rfl rfl rfl rfl rfl (fun w' hs9 => delF_c H y m b7 ad3 n c3 hs9 (by repeat (first | exact LSub.refl | refine LSub.cons (by repeat (first | exact Rem.here | apply Rem.there)) ?_ | apply LSub.skip)) (fun xs => by (repeat constructor)) hn.symm hlen hnc hy0 hmle hm0 hpm hpm2) ?_; rintro xs ⟨hx1, hx2⟩) | (refine gF ?_; first | refine j_store rfl rfl rfl rfl rfl rfl rfl rfl (by (repeat constructor)) (by rfl) ?_ | (refine j_alloc rfl rfl rfl rfl rfl ?_; intro b) | (refine j_box rfl rfl rfl rfl rfl ?_; intro b)) | (refine j_qe rfl rfl rfl ?_; first | refine ⟨_, q_makeFunc rfl rfl, ?_⟩)) | (refine gSC ?_; first | refine sc_mv rfl ?_ | refine sc_q rfl ?_ | refine sc_region ?_) | (refine gSQ ?_; first | refine sq_go rfl ?_ | refine sq_mv rfl ?_ | refine sq_ende (by first | exact .inl rfl | exact .inr rfl) rfl rfl ⟨_, (RVs.cons (RV.tmp rfl) (RVs.cons (RV.tmp rfl) (RVs.nil))), ?_⟩) | refine j_nil ?_ | ((refine sc_cond rfl ?_ ?_) <;> intro hc <;> (first | exact absurd hc (by decide) | ((try simp only [engHC] at hc) <;> first | (exfalso; omega) | exact absurd trivial hc | skip))))
    all_goals first
      | (exfalso; omega)
      | (intro w' hS
         exact ⟨(some ad3, c3, xs), ⟨hs3, hx2⟩, rfl, hS.sub (by repeat (first | exact LSub.refl | refine LSub.cons (by repeat (first | exact Rem.here | apply Rem.there)) ?_ | apply LSub.skip))⟩)
end Go.Proofs.Ytagndgidfaladaa

/-
  The lexicon that New has made, taken as given.
-/
namespace Go.Proofs.Ytagndgidfaladaa
open Go.RowKit Eng
set_option linter.unusedVariables false
set_option linter.unusedSimpArgs false
set_option maxHeartbeats 8000000
attribute [local irreducible] SC SQ J Qt Calls Iterates LSub FSub
theorem lx_of {w0 w : World} {W : List (List UInt8)} {bx rb rm : Nat} {v : Value} {ar : List Nd} (ha : ArW ar W) (hh : ar.head? = some ⟨[], rb, rm⟩) (hs : St w0 Cold (.cells bx 59 [v, ptrV rb] :: .own v 9 1 W.length (W.flatMap strC) :: arHA 63 ar W) w) : ∃ A0 c0, LX w W bx rb rm A0 c0 ar := by
  have hO := hs.at (x := .own v 9 1 W.length (W.flatMap strC)) (by (repeat constructor))
  obtain ⟨A0, c0, rfl, hsl⟩ : ∃ A0 c0, v = .slice A0 W.length c0 ∧ Sl A0 W.length c0 := by
    rcases hO.2.2 with ⟨hv, h0⟩ | ⟨g, cap, cur, hv, _, _, hnc, hcm, _⟩
    · exact ⟨none, 0, by rw [hv, h0], fun _ => ⟨h0, rfl⟩, by omega, by omega⟩
    · exact ⟨_, _, hv, fun e => (by cases e), hnc, by unfold maxLen at hcm; omega⟩
  refine ⟨A0, c0, ha, hh, hs.ext (u := 59) (by (repeat constructor)), rs_own (f := strC) (fun _ => rfl) hs (by (repeat constructor)) rfl rfl, hsl, fun x hx => ?_⟩
  obtain ⟨pre, post, e⟩ := mem_split hx
  have hs2 : St w0 Cold (.cells bx 59 [.slice A0 W.length c0, ptrV rb] :: .own (.slice A0 W.length c0) 9 1 W.length (W.flatMap strC) :: .cells x.b 63 (ndC W x) :: haMap x.m .u8 (kvs ar x.path) :: (pre.flatMap (ndHA 63 ar W) ++ post.flatMap (ndHA 63 ar W))) w := hs.perm (List.Perm.cons _ (List.Perm.cons _ (arHA_at 63 W e)))
  exact ⟨hs2.ext (u := 63) (by (repeat constructor)), hs2.mapG (by (repeat constructor))⟩
end Go.Proofs.Ytagndgidfaladaa

/-
  New in another function's code: both of its ways; a lexicon that was made is given from then on.
-/
namespace Go.Proofs.Ytagndgidfaladaa
open Go.RowKit Eng
set_option linter.unusedVariables false
set_option linter.unusedSimpArgs false
set_option maxHeartbeats 8000000
attribute [local irreducible] SC SQ J Qt Calls Iterates LSub FSub
theorem plain_nds (ar : List Nd) (W : List (List UInt8)) : ∀ l : List Nd, plainHA (l.flatMap (ndHA 63 ar W))
  | [] => trivial
  | x :: l => by
    rw [List.flatMap_cons]
    exact ⟨fun u u' ⟨ob, h1, h2⟩ hk => ⟨ob, (hk _ rfl).trans h1, h2⟩, plain_nds ar W l⟩
structure NewX where
  bx : Nat
  rb : Nat
  rm : Nat
  v : Value
  ar : List Nd
def NewX.ok (W : List (List UInt8)) (x : NewX) : Prop := ArW x.ar W ∧ x.ar.head? = some ⟨[], x.rb, x.rm⟩
abbrev newL (W : List (List UInt8)) (x : NewX) : List HA := .cells x.bx 59 [x.v, ptrV x.rb] :: .own x.v 9 1 W.length (W.flatMap strC) :: arHA 63 x.ar W
theorem newL_plain (W : List (List UInt8)) (x : NewX) : plainHA (newL W x) := plain_nds x.ar W x.ar
section
variable {w : World} {A : Option Addr} {c : Nat} {W : List (List UInt8)} (hR : RS w 1 strC A W) (hs : Sl A W.length c) (hmax : W.length ≤ 1000)
include hR hs hmax
theorem new_e (h0 : newF W ≠ 0) : Calls Try.prog 10 #[.slice A W.length c] w fun e w' => e = .returned (.tuple #[.pointer none, .int .i64 (newF W)]) ∧ Below w.heap.size w w' := by
  refine (New_c hR hs hmax).mono fun e w' h => ?_
  rcases h with ⟨_, h1, h2⟩ | ⟨h, _⟩
  · exact ⟨h1, h2⟩
  · exact absurd h h0
theorem new_k (h0 : newF W = 0) : Calls Try.prog 10 #[.slice A W.length c] w fun e w' => ∃ x : NewX, x.ok W ∧ e = .returned (.tuple #[ptrV x.bx, .int .i64 0]) ∧ St w Cold (newL W x) w' := by
  refine (New_c hR hs hmax).mono fun e w' h => ?_
  rcases h with ⟨h, _⟩ | ⟨_, bx, rb, rm, v, ar, h1, h2, h3⟩
  · exact absurd h0 h
  · exact ⟨⟨bx, rb, rm, v, ar⟩, h1, h2, h3⟩
end
theorem NewX.lx {w0 w : World} {W : List (List UInt8)} {x : NewX} {L : List HA} (h : x.ok W) (hs : St w0 Cold (newL W x ++ L) w) : ∃ A0 c0, LX w W x.bx x.rb x.rm A0 c0 x.ar :=
  lx_of h.1 h.2 (hs.sub LSub.left)
end Go.Proofs.Ytagndgidfaladaa
