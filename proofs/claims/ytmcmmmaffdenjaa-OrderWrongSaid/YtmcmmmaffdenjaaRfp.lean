/-
  In one text: Sr9, Rfo, Eqs, Lno, Raf, Wyp, Rfp.
-/
import Derived.Test.YtmcmmmaffdenjaaSr8
import Derived.Test.YtmcmmmaffdenjaaOr3
import Derived.Test.YtmcmmmaffdenjaaOr1
import Derived.Test.YtmcmmmaffdenjaaEngCoreB
import Derived.Test.YtmcmmmaffdenjaaLcm
/-
  slices.SortFunc.
-/
namespace Go.Proofs.Ytmcmmmaffdenjaa
open Go.RowKit Eng
set_option linter.unusedVariables false
set_option linter.unusedSimpArgs false
set_option maxHeartbeats 8000000
attribute [local irreducible] SC SQ J Qt Calls Iterates
theorem insN_c (rc : List Value) (w : World) : Calls Try.prog 100 #[.slice none 0 0, .int .i64 0, .int .i64 0, cvS rc] w fun e w' => e = .returned (.tuple #[]) ∧ Below w.heap.size w w' := by
  refine eng_start (n := 53) (args := [.slice none 0 0, .int .i64 0, .int .i64 0, cvS rc]) tab tab_ok fns fns_ok [] Try.func100 rfl rfl rfl rfl ?_
  repeat' (first | (refine gJ ?_; first | refine js rfl rfl rfl rfl ?_ | (refine gload rfl rfl ?_; refine j_qe rfl rfl rfl ?_; first | refine ⟨_, q_load_own rfl rfl rfl rfl (by (repeat constructor)) (by first | rfl | assumption), ?_⟩ | refine ⟨_, q_loadA_own rfl rfl rfl rfl (by (repeat constructor)) (by rfl), ?_⟩ | refine ⟨_, q_loadA_ext rfl rfl rfl rfl ⟨by assumption, (by first | exact id | assumption)⟩ (by rfl), ?_⟩ | refine ⟨_, q_load_ext rfl rfl rfl rfl ⟨by assumption, (by first | exact id | assumption)⟩ (by first | rfl | assumption), ?_⟩ | refine ⟨_, q_load_extb rfl rfl rfl rfl ⟨by assumption, (by first | exact id | assumption)⟩ (by rfl), ?_⟩ | refine ⟨_, q_loadA_extb rfl rfl rfl rfl ⟨by assumption, (by first | exact id | assumption)⟩ (by rfl), ?_⟩ | refine ⟨_, q_load_ext0 rfl rfl rfl rfl ⟨by assumption, (by first | exact id | assumption)⟩ (by rfl), ?_⟩) | refine jar rfl rfl rfl rfl rfl rfl rfl (by omega) ?_ | (refine gF ?_; first | refine j_store rfl rfl rfl rfl rfl rfl rfl rfl (by (repeat constructor)) (by rfl) ?_) | (refine j_qe rfl rfl rfl ?_; first | refine ⟨_, q_index_nat rfl rfl rfl rfl rfl (by omega), ?_⟩ | refine ⟨_, q_index_slice rfl rfl rfl rfl rfl (by omega), ?_⟩ | refine ⟨_, q_index_arr rfl rfl rfl rfl rfl (by omega), ?_⟩ | refine ⟨_, q_index_arr_ext rfl rfl rfl rfl rfl (by omega), ?_⟩ | refine ⟨_, q_addu8 rfl rfl rfl (by omega), ?_⟩) | refine j_guard_undef rfl rfl rfl rfl rfl ?_) | (refine gSC ?_; first | refine sc_mv rfl ?_ | refine sc_q rfl ?_ | refine sc_region ?_ | refine sc_draw rfl mixed (by kernel_rfl) ?_) | (refine gSQ ?_; first | refine sq_go rfl ?_ | refine sq_mv rfl ?_ | refine sq_ende (by first | exact .inl rfl | exact .inr rfl) rfl rfl ⟨_, (RVs.nil), ?_⟩) | refine j_nil ?_ | ((first | refine j_guard rfl rfl rfl rfl rfl ?_ ?_ | refine sc_cond rfl ?_ ?_) <;> intro hc <;> (first | exact absurd hc (by decide) | ((try simp only [engHC] at hc) <;> first | (exfalso; omega) | exact absurd trivial hc | skip))))
  refine sc_loop (ι := Unit) (fun _ => True) (fun _ => 0) (fun _ => [(2, .int .i64 0), (8, .int .i64 1)]) (fun _ => []) () trivial (by (try dsimp only); exact (by repeat (first | exact FSub.nil | refine FSub.cons rfl ?_ | refine FSub.conse rfl (by congr 1; omega) ?_))) (by repeat (first | exact LSub.nil | refine LSub.cons (by repeat (first | exact Rem.here | apply Rem.there)) ?_)) ?_
  rintro _ _
  repeat' (first | (refine gJ ?_; first | refine js rfl rfl rfl rfl ?_ | (refine gload rfl rfl ?_; refine j_qe rfl rfl rfl ?_; first | refine ⟨_, q_load_own rfl rfl rfl rfl (by (repeat constructor)) (by first | rfl | assumption), ?_⟩ | refine ⟨_, q_loadA_own rfl rfl rfl rfl (by (repeat constructor)) (by rfl), ?_⟩ | refine ⟨_, q_loadA_ext rfl rfl rfl rfl ⟨by assumption, (by first | exact id | assumption)⟩ (by rfl), ?_⟩ | refine ⟨_, q_load_ext rfl rfl rfl rfl ⟨by assumption, (by first | exact id | assumption)⟩ (by first | rfl | assumption), ?_⟩ | refine ⟨_, q_load_extb rfl rfl rfl rfl ⟨by assumption, (by first | exact id | assumption)⟩ (by rfl), ?_⟩ | refine ⟨_, q_loadA_extb rfl rfl rfl rfl ⟨by assumption, (by first | exact id | assumption)⟩ (by rfl), ?_⟩ | refine ⟨_, q_load_ext0 rfl rfl rfl rfl ⟨by assumption, (by first | exact id | assumption)⟩ (by rfl), ?_⟩) | refine jar rfl rfl rfl rfl rfl rfl rfl (by omega) ?_ | (refine gF ?_; first | refine j_store rfl rfl rfl rfl rfl rfl rfl rfl (by (repeat constructor)) (by rfl) ?_) | (refine j_qe rfl rfl rfl ?_; first | refine ⟨_, q_index_nat rfl rfl rfl rfl rfl (by omega), ?_⟩ | refine ⟨_, q_index_slice rfl rfl rfl rfl rfl (by omega), ?_⟩ | refine ⟨_, q_index_arr rfl rfl rfl rfl rfl (by omega), ?_⟩ | refine ⟨_, q_index_arr_ext rfl rfl rfl rfl rfl (by omega), ?_⟩ | refine ⟨_, q_addu8 rfl rfl rfl (by omega), ?_⟩) | refine j_guard_undef rfl rfl rfl rfl rfl ?_) | (refine gSC ?_; first | refine sc_mv rfl ?_ | refine sc_q rfl ?_ | refine sc_region ?_ | refine sc_draw rfl mixed (by kernel_rfl) ?_) | (refine gSQ ?_; first | refine sq_go rfl ?_ | refine sq_mv rfl ?_ | refine sq_ende (by first | exact .inl rfl | exact .inr rfl) rfl rfl ⟨_, (RVs.nil), ?_⟩) | refine j_nil ?_ | ((first | refine j_guard rfl rfl rfl rfl rfl ?_ ?_ | refine sc_cond rfl ?_ ?_) <;> intro hc <;> (first | exact absurd hc (by decide) | ((try simp only [engHC] at hc) <;> first | (exfalso; omega) | exact absurd trivial hc | skip))))
  (intro w' hS; refine ⟨?_, hS.below⟩; simp only [pack])
theorem pdqN_c (rc : List Value) (z : Int) (w : World) : Calls Try.prog 92 #[.slice none 0 0, .int .i64 0, .int .i64 0, .int .i64 z, cvS rc] w fun e w' => e = .returned (.tuple #[]) ∧ Below w.heap.size w w' := by
  refine eng_start (n := 148) (args := [.slice none 0 0, .int .i64 0, .int .i64 0, .int .i64 z, cvS rc]) tab tab_ok fns fns_ok [] Try.func92 rfl rfl rfl rfl ?_
  repeat' (first | (refine gJ ?_; first | refine js rfl rfl rfl rfl ?_ | (refine gload rfl rfl ?_; refine j_qe rfl rfl rfl ?_; first | refine ⟨_, q_load_own rfl rfl rfl rfl (by (repeat constructor)) (by first | rfl | assumption), ?_⟩ | refine ⟨_, q_loadA_own rfl rfl rfl rfl (by (repeat constructor)) (by rfl), ?_⟩ | refine ⟨_, q_loadA_ext rfl rfl rfl rfl ⟨by assumption, (by first | exact id | assumption)⟩ (by rfl), ?_⟩ | refine ⟨_, q_load_ext rfl rfl rfl rfl ⟨by assumption, (by first | exact id | assumption)⟩ (by first | rfl | assumption), ?_⟩ | refine ⟨_, q_load_extb rfl rfl rfl rfl ⟨by assumption, (by first | exact id | assumption)⟩ (by rfl), ?_⟩ | refine ⟨_, q_loadA_extb rfl rfl rfl rfl ⟨by assumption, (by first | exact id | assumption)⟩ (by rfl), ?_⟩ | refine ⟨_, q_load_ext0 rfl rfl rfl rfl ⟨by assumption, (by first | exact id | assumption)⟩ (by rfl), ?_⟩) | refine jar rfl rfl rfl rfl rfl rfl rfl (by omega) ?_ | (refine j_qe rfl rfl rfl ?_; first | refine ⟨_, q_index_nat rfl rfl rfl rfl rfl (by omega), ?_⟩ | refine ⟨_, q_index_slice rfl rfl rfl rfl rfl (by omega), ?_⟩ | refine ⟨_, q_index_arr rfl rfl rfl rfl rfl (by omega), ?_⟩ | refine ⟨_, q_index_arr_ext rfl rfl rfl rfl rfl (by omega), ?_⟩ | refine ⟨_, q_quo rfl rfl rfl (by omega), ?_⟩ | refine ⟨_, q_quot rfl rfl rfl (by omega), ?_⟩ | refine ⟨_, q_addu8 rfl rfl rfl (by omega), ?_⟩ | refine ⟨_, q_quou8 rfl rfl rfl (by omega), ?_⟩) | refine j_guard_undef rfl rfl rfl rfl rfl ?_) | (refine gSC ?_; first | refine sc_mv rfl ?_ | refine sc_q rfl ?_ | refine sc_region ?_ | refine sc_draw rfl mixed (by kernel_rfl) ?_) | (refine gSQ ?_; first | refine sq_go rfl ?_ | refine sq_mv rfl ?_ | refine sq_ende (by first | exact .inl rfl | exact .inr rfl) rfl rfl ⟨_, (RVs.nil), ?_⟩) | refine j_nil ?_ | ((first | refine j_guard rfl rfl rfl rfl rfl ?_ ?_ | refine sc_cond rfl ?_ ?_) <;> intro hc <;> (first | exact absurd hc (by decide) | ((try simp only [engHC] at hc) <;> first | (exfalso; omega) | exact absurd trivial hc | skip))))
  refine sc_loop (ι := Unit) (fun _ => True) (fun _ => 0) (fun _ => [(0, .slice none 0 0), (1, .int .i64 0), (2, .int .i64 0), (4, cvS rc)]) (fun _ => []) () trivial (by (try dsimp only); exact (by repeat (first | exact FSub.nil | refine FSub.cons rfl ?_ | refine FSub.conse rfl (by congr 1; omega) ?_))) (by repeat (first | exact LSub.nil | refine LSub.cons (by repeat (first | exact Rem.here | apply Rem.there)) ?_)) ?_
  rintro _ _
  repeat' (first | (refine gJ ?_; first | refine js rfl rfl rfl rfl ?_ | (refine gload rfl rfl ?_; refine j_qe rfl rfl rfl ?_; first | refine ⟨_, q_load_own rfl rfl rfl rfl (by (repeat constructor)) (by first | rfl | assumption), ?_⟩ | refine ⟨_, q_loadA_own rfl rfl rfl rfl (by (repeat constructor)) (by rfl), ?_⟩ | refine ⟨_, q_loadA_ext rfl rfl rfl rfl ⟨by assumption, (by first | exact id | assumption)⟩ (by rfl), ?_⟩ | refine ⟨_, q_load_ext rfl rfl rfl rfl ⟨by assumption, (by first | exact id | assumption)⟩ (by first | rfl | assumption), ?_⟩ | refine ⟨_, q_load_extb rfl rfl rfl rfl ⟨by assumption, (by first | exact id | assumption)⟩ (by rfl), ?_⟩ | refine ⟨_, q_loadA_extb rfl rfl rfl rfl ⟨by assumption, (by first | exact id | assumption)⟩ (by rfl), ?_⟩ | refine ⟨_, q_load_ext0 rfl rfl rfl rfl ⟨by assumption, (by first | exact id | assumption)⟩ (by rfl), ?_⟩) | refine jar rfl rfl rfl rfl rfl rfl rfl (by omega) ?_ | (refine gcall rfl rfl ?_; first | (refine j_qc (f := 100) rfl rfl rfl rfl rfl rfl rfl ?_; refine ⟨_, (fun w' _ => insN_c rc w'), ?_⟩)) | (refine j_qe rfl rfl rfl ?_; first | refine ⟨_, q_index_nat rfl rfl rfl rfl rfl (by omega), ?_⟩ | refine ⟨_, q_index_slice rfl rfl rfl rfl rfl (by omega), ?_⟩ | refine ⟨_, q_index_arr rfl rfl rfl rfl rfl (by omega), ?_⟩ | refine ⟨_, q_index_arr_ext rfl rfl rfl rfl rfl (by omega), ?_⟩ | refine ⟨_, q_quo rfl rfl rfl (by omega), ?_⟩ | refine ⟨_, q_quot rfl rfl rfl (by omega), ?_⟩ | refine ⟨_, q_addu8 rfl rfl rfl (by omega), ?_⟩ | refine ⟨_, q_quou8 rfl rfl rfl (by omega), ?_⟩) | refine j_guard_undef rfl rfl rfl rfl rfl ?_) | (refine gSC ?_; first | refine sc_mv rfl ?_ | refine sc_q rfl ?_ | refine sc_region ?_) | (refine gSQ ?_; first | refine sq_go rfl ?_ | refine sq_mv rfl ?_ | refine sq_ende (by first | exact .inl rfl | exact .inr rfl) rfl rfl ⟨_, (RVs.nil), ?_⟩) | refine j_nil ?_ | ((first | refine j_guard rfl rfl rfl rfl rfl ?_ ?_ | refine sc_cond rfl ?_ ?_) <;> intro hc <;> (first | exact absurd hc (by decide) | ((try simp only [engHC] at hc) <;> first | (exfalso; omega) | exact absurd trivial hc | skip))))
  (intro w' hS; refine ⟨?_, hS.below⟩; simp only [pack])
theorem arr_of_perm {α : Type} [Inhabited α] {lt : α → α → Bool} {l : List α} {R : Array α} (hp : Go.Sort.PermIn 0 l.length l.toArray R) (hs : Go.Sort.SortedIn lt 0 l.length R) : R.toList.Perm l ∧ R.toList.Pairwise (fun x y => lt y x = false) := by
  have hsz : R.size = l.length := hp.1
  constructor
  · have h := hp.2.2
    rw [show R.extract 0 l.length = R from by rw [← hsz]; simp, show l.toArray.extract 0 l.length = l.toArray from by simp] at h
    simpa using h
  · rw [List.pairwise_iff_getElem]
    intro i j hi hj hij
    have hi' : i < R.size := by simpa using hi
    have hj' : j < R.size := by simpa using hj
    have h := hs i j (Nat.zero_le _) hij (by omega)
    rw [getElem!_pos R i hi', getElem!_pos R j hj'] at h
    simpa using h
theorem srt_c {w0 w : World} {hot : Nat → Prop} {L : List HA} {L' : List ELT → List HA} {v : Value} {l : List ELT} {rc : List Value} {cf : ELT → ELT → Int} (hcf : CmpS cf rc) (hsw : Go.Sort.SWO (ltS cf)) (hs : St w0 hot L w) (hn : l.length ≤ 65535)
    (hin : InL L (.own v 30 6 l.length (l.flatMap elC))) (hup : ∀ R : List ELT, R.length = l.length → Upd L (.own v 30 6 l.length (l.flatMap elC)) (.own v 30 6 R.length (R.flatMap elC)) (L' R)) :
    Calls Try.prog 82 #[v, cvS rc] w fun e' w' => ∃ R : List ELT, (R.Perm l ∧ R.Pairwise (fun x y => ltS cf y x = false)) ∧ e' = .returned (.tuple #[]) ∧ St w0 hot (L' R) w' := by
  have hA := hs.at hin
  rcases hA.2.2 with ⟨rfl, hn0⟩ | ⟨g, cap, cur, rfl, _⟩
  · have hl : l = [] := List.length_eq_zero_iff.1 hn0
    subst hl
    have hle : St w Cold [] w := St.start w Cold
    refine eng_start (n := 14) (args := [.slice none 0 0, cvS rc]) tab tab_ok fns fns_ok [] Try.func82 rfl rfl rfl rfl ?_
    have hlen := fun w' => lenS_c 0 w' (by omega)
    repeat' (first | (refine gJ ?_; first | refine js rfl rfl rfl rfl ?_ | (refine gcall rfl rfl ?_; first | (refine j_qc (f := 93) rfl rfl rfl rfl rfl rfl rfl ?_; refine ⟨_, (fun w' _ => hlen w'), ?_⟩) | (refine j_qc (f := 92) rfl rfl rfl rfl rfl rfl rfl ?_; refine ⟨_, (fun w' _ => pdqN_c rc _ w'), ?_⟩)) | (refine j_qe rfl rfl rfl ?_; first | refine ⟨_, q_len_slice rfl rfl rfl rfl, ?_⟩ | refine ⟨_, q_conv rfl rfl rfl rfl rfl rfl (by first | rfl | (exact i64_wrap (by omega) (by omega)) | (exact u8_wrap (by omega) (by omega)) | (exact u64_wrap (by omega) (by omega)) | (exact u16_wrap (by omega) (by omega))), ?_⟩)) | (refine gSC ?_; first | refine sc_mv rfl ?_ | refine sc_q rfl ?_ | refine sc_region ?_) | (refine gSQ ?_; first | refine sq_go rfl ?_ | refine sq_mv rfl ?_ | refine sq_ende (by first | exact .inl rfl | exact .inr rfl) rfl rfl ⟨_, (RVs.nil), ?_⟩) | refine j_nil ?_ | ((refine sc_cond rfl ?_ ?_) <;> intro hc <;> (first | exact absurd hc (by decide) | ((try simp only [engHC] at hc) <;> first | (exfalso; omega) | exact absurd trivial hc | skip))))
    intro w' hS
    refine ⟨[], ⟨List.Perm.refl _, List.Pairwise.nil⟩, rfl, ?_⟩
    exact (hs.later hS.below).upd (hup [] rfl) (Below.refl 0 w') (fun b _ _ => rfl) ((hs.later hS.below).at hin) (fun b hb => .inl hb)
  · generalize hnl : l.length = n at *
    have hle := hs.lent (x := rwS ⟨g, 0, none⟩ n cap l.toArray) hin trivial
    have hpdq := fun w' w9 hot9 z (h9 : St w9 hot9 [rwS ⟨g, 0, none⟩ n cap l.toArray] w') (hz : z ≤ 1000) => pdq_c (L' := fun x => [rwS ⟨g, 0, none⟩ n cap x]) hcf hsw hn n 0 n z h9 (by simpa using hnl) (Nat.zero_le _) (Nat.le_refl _) (by omega) hz (.inl rfl) InL.here (fun _ => Upd.here)
    have hk : Go.Lib.bitLen n ≤ 64 := by
      apply Classical.byContradiction
      intro hge
      by_cases h0 : n = 0
      · subst h0
        exact hge (by decide)
      · have h1 := blenS_le n n (Nat.le_refl _) h0 (by omega)
        have := Nat.pow_le_pow_right (show 0 < 2 by omega) (show 64 ≤ Go.Lib.bitLen n by omega)
        omega
    have hlen := fun w' => lenS_c n w' hn
    generalize Go.Lib.bitLen n = k at *
    refine eng_start_lent (n := 14) (args := [.slice (some ⟨g, 0, none⟩) n cap, cvS rc]) tab tab_ok fns fns_ok [] _ _ Try.func82 rfl rfl rfl rfl (hle) ?_
    repeat' (first | (refine gJ ?_; first | refine js rfl rfl rfl rfl ?_ | (refine gcall rfl rfl ?_; first | (refine j_qc (f := 93) rfl rfl rfl rfl rfl rfl rfl ?_; refine ⟨_, (fun w' _ => hlen w'), ?_⟩)) | (refine gcall rfl rfl ?_; refine gF ?_; refine j_call (f := 92) (ξ := Array ELT) (fun _ => .tuple #[]) _ (fun y => [rwS ⟨g, 0, none⟩ n cap y]) rfl rfl rfl rfl rfl rfl rfl (fun w' hs9 => hpdq w' _ _ k hs9 (by omega)) ?_; rintro R ⟨hR1, hR2⟩) | (refine j_qe rfl rfl rfl ?_; first | refine ⟨_, q_len_slice rfl rfl rfl rfl, ?_⟩ | refine ⟨_, q_conv rfl rfl rfl rfl rfl rfl (by first | rfl | (exact i64_wrap (by omega) (by omega)) | (exact u8_wrap (by omega) (by omega)) | (exact u64_wrap (by omega) (by omega)) | (exact u16_wrap (by omega) (by omega))), ?_⟩)) | (refine gSC ?_; first | refine sc_mv rfl ?_ | refine sc_q rfl ?_ | refine sc_region ?_) | (refine gSQ ?_; first | refine sq_go rfl ?_ | refine sq_mv rfl ?_ | refine sq_ende (by first | exact .inl rfl | exact .inr rfl) rfl rfl ⟨_, (RVs.nil), ?_⟩) | refine j_nil ?_ | ((refine sc_cond rfl ?_ ?_) <;> intro hc <;> (first | exact absurd hc (by decide) | ((try simp only [engHC] at hc) <;> first | (exfalso; omega) | exact absurd trivial hc | skip))))
    intro w' hS
    rw [← hnl] at hR1 hR2
    obtain ⟨h1, h2⟩ := arr_of_perm hR1 hR2
    refine ⟨R.toList, ⟨h1, h2⟩, rfl, ?_⟩
    have hlR : R.toList.length = n := by rw [h1.length_eq]; exact hnl
    have hu := hup R.toList hlR
    rw [hlR] at hu
    exact hs.back hu (hS.sub (by repeat (first | exact LSub.nil | refine LSub.cons (by repeat (first | exact Rem.here | apply Rem.there)) ?_))) trivial
end Go.Proofs.Ytmcmmmaffdenjaa

/-
  letterbagref35: One, Covers, Before, Right.
-/
namespace Go.Proofs.Ytmcmmmaffdenjaa
open Go.RowKit Eng
set_option linter.unusedVariables false
set_option linter.unusedSimpArgs false
set_option maxHeartbeats 8000000
attribute [local irreducible] SC SQ J Qt Calls Iterates
end Go.Proofs.Ytmcmmmaffdenjaa

/-
  Orders are equal just if their fields are.
-/
namespace Go.Proofs.Ytmcmmmaffdenjaa
open Go.RowKit Eng
set_option linter.unusedVariables false
set_option linter.unusedSimpArgs false
set_option maxHeartbeats 8000000
attribute [local irreducible] SC SQ J Qt Calls Iterates
instance : DecidableEq Od := fun a b =>
  if h : a.idn = b.idn ∧ a.frm = b.frm ∧ a.to = b.to ∧ a.st = b.st ∧ a.en = b.en ∧ a.kd = b.kd then .isTrue (Od.ext' h.1 h.2.1 h.2.2.1 h.2.2.2.1 h.2.2.2.2.1 h.2.2.2.2.2)
  else .isFalse (fun e => h (by subst e; exact ⟨rfl, rfl, rfl, rfl, rfl, rfl⟩))
theorem od_eq (a b : Od) : a = b ↔ a.idn = b.idn ∧ a.frm = b.frm ∧ a.to = b.to ∧ a.st = b.st ∧ a.en = b.en ∧ a.kd = b.kd :=
  ⟨fun e => by subst e; exact ⟨rfl, rfl, rfl, rfl, rfl, rfl⟩, fun h => Od.ext' h.1 h.2.1 h.2.2.1 h.2.2.2.1 h.2.2.2.2.1 h.2.2.2.2.2⟩
theorem eqm30 : Try.prog.eqGuardType Try.prog.depth 30 = false := by kernel_rfl
theorem eq30 (a b : Od) (w : World) : (Op.equalIn 10000 30 (odV a) (odV b)).run Try.prog w = .ok (decide (a = b)) w := by
  have u3 := Try.underlying3
  have a3 := Try.isAgg3
  have z3 := Try.sizeOf3
  have u5 := Try.underlying5
  have a5 := Try.isAgg5
  have z5 := Try.sizeOf5
  rw [run_equalIn_agg w 9999 30 _ _ (by kernel_rfl) (by kernel_rfl)]
  simp only [Program.fieldsOf, Try.underlying30]
  go_simp
  have e : decide (a = b) = decide (a.idn = b.idn ∧ a.frm = b.frm ∧ a.to = b.to ∧ a.st = b.st ∧ a.en = b.en ∧ a.kd = b.kd) := decide_eq_decide.2 (od_eq a b)
  rw [e]
  by_cases h1 : a.idn = b.idn <;> by_cases h2 : a.frm = b.frm <;> by_cases h3 : a.to = b.to <;> by_cases h4 : a.st = b.st <;> by_cases h5 : a.en = b.en <;> by_cases h6 : a.kd = b.kd <;> simp [h1, h2, h3, h4, h5, h6]
end Go.Proofs.Ytmcmmmaffdenjaa

/-
  letterbagkit: LentOrders, KeptOrders, SameOrders.
-/
namespace Go.Proofs.Ytmcmmmaffdenjaa
open Go.RowKit Eng
set_option linter.unusedVariables false
set_option linter.unusedSimpArgs false
set_option maxHeartbeats 8000000
attribute [local irreducible] SC SQ J Qt Calls Iterates
def mkO (k i : Int) : Od := ⟨1000003 * (k + 7) + i, 0, 0, 0, 0, 0⟩
def mksO (k : Int) : Nat → List Od
  | 0 => []
  | n + 1 => mksO k n ++ [mkO k n]
theorem eq30r (a : Od) (w : World) : (Op.equalIn 10000 30 (odV a) (odV a)).run Try.prog w = .ok true w := by rw [eq30, decide_eq_true rfl]
def sameOF : List Od → List Od → Bool
  | [], [] => true
  | x :: l, y :: m => decide (x = y) && sameOF l m
  | _, _ => false
end Go.Proofs.Ytmcmmmaffdenjaa

/-
  letterbagref35.All.
-/
namespace Go.Proofs.Ytmcmmmaffdenjaa
open Go.RowKit Eng
set_option linter.unusedVariables false
set_option linter.unusedSimpArgs false
set_option maxHeartbeats 8000000
attribute [local irreducible] SC SQ J Qt Calls Iterates
def insB (x : Od) : List Od → List Od
  | [] => [x]
  | y :: ys => if bef y x = true then y :: insB x ys else x :: y :: ys
def allS (p d : Int) (R : List Od) (x : Od) : List Od := if x.frm = p ∧ cov x d = true then insB x R else R
def allF (l : List Od) (p d : Int) : List Od := l.foldl (allS p d) []
end Go.Proofs.Ytmcmmmaffdenjaa

/-
  More of ways, plain.
-/
namespace Go.Proofs.Ytmcmmmaffdenjaa
open Go.RowKit Eng
set_option linter.unusedVariables false
set_option linter.unusedSimpArgs false
set_option maxHeartbeats 8000000
attribute [local irreducible] SC SQ J Qt Calls Iterates
/-- A set of points from which orders lead into the set. -/
def Closed (f : Int → Od) (S : Int → Prop) : Prop := ∀ q, S q → (f q).idn ≠ 0 ∧ (f q).kd ≠ 3 ∧ S (f q).to
end Go.Proofs.Ytmcmmmaffdenjaa

/-
  The reference's answers, plain.
-/
namespace Go.Proofs.Ytmcmmmaffdenjaa
open Go.RowKit Eng
set_option linter.unusedVariables false
set_option linter.unusedSimpArgs false
set_option maxHeartbeats 8000000
attribute [local irreducible] SC SQ J Qt Calls Iterates
theorem insB_mem (x : Od) : ∀ (R : List Od) (y : Od), y ∈ insB x R ↔ y = x ∨ y ∈ R
  | [], y => by simp [insB]
  | z :: ys, y => by
    simp only [insB]
    split
    · simp only [List.mem_cons, insB_mem x ys y]
      constructor
      · rintro (h | h | h)
        · exact .inr (.inl h)
        · exact .inl h
        · exact .inr (.inr h)
      · rintro (h | h | h)
        · exact .inr (.inl h)
        · exact .inl h
        · exact .inr (.inr h)
    · simp only [List.mem_cons]
theorem insB_sorted (x : Od) : ∀ (R : List Od), R.Pairwise (fun a b => bef a b = true) → (∀ y ∈ R, bef y x = true ∨ bef x y = true) → (insB x R).Pairwise (fun a b => bef a b = true)
  | [], _, _ => by simp [insB]
  | z :: ys, h, ht => by
    obtain ⟨h1, h2⟩ := List.pairwise_cons.1 h
    simp only [insB]
    split
    · rename_i hz
      refine List.pairwise_cons.2 ⟨fun y hy => ?_, insB_sorted x ys h2 (fun y hy => ht y (List.mem_cons_of_mem _ hy))⟩
      rcases (insB_mem x ys y).1 hy with rfl | hy
      · exact hz
      · exact h1 y hy
    · rename_i hz
      have hx : bef x z = true := by
        rcases ht z List.mem_cons_self with h9 | h9
        · exact absurd h9 hz
        · exact h9
      refine List.pairwise_cons.2 ⟨fun y hy => ?_, h⟩
      rcases List.mem_cons.1 hy with rfl | hy
      · exact hx
      · exact bef_trans hx (h1 y hy)
/-- All of the orders that cover a day, in order. -/
theorem allF_spec {l : List Od} (hl : okL l) (p d : Int) : (allF l p d).Pairwise (fun a b => bef a b = true) ∧ ∀ y, y ∈ allF l p d ↔ y ∈ l ∧ y.frm = p ∧ cov y d = true := by
  have key : ∀ (l R : List Od), okL l → (∀ a ∈ R, ∀ b ∈ l, a.idn ≠ b.idn) → R.Pairwise (fun a b => bef a b = true) → (l.foldl (allS p d) R).Pairwise (fun a b => bef a b = true) ∧ ∀ y, y ∈ l.foldl (allS p d) R ↔ y ∈ R ∨ (y ∈ l ∧ y.frm = p ∧ cov y d = true) := by
    intro l
    induction l with
    | nil => intro R _ _ hR; exact ⟨hR, fun y => by simp⟩
    | cons x l ih =>
      intro R hok hd hR
      rw [List.foldl_cons]
      by_cases hx : x.frm = p ∧ cov x d = true
      · have e : allS p d R x = insB x R := by unfold allS; rw [if_pos hx]
        rw [e]
        obtain ⟨h1, h2⟩ := ih (insB x R) hok.2.2 (fun a ha b hb => by
          rcases (insB_mem x R a).1 ha with rfl | ha
          · exact fun e => hok.2.1 b hb e.symm
          · exact hd a ha b (List.mem_cons_of_mem _ hb)) (insB_sorted x R hR fun y hy => bef_total y x (hd y hy x List.mem_cons_self))
        refine ⟨h1, fun y => ?_⟩
        rw [h2 y, insB_mem, List.mem_cons]
        constructor
        · rintro ((h | h) | h)
          · subst h; exact .inr ⟨.inl rfl, hx⟩
          · exact .inl h
          · exact .inr ⟨.inr h.1, h.2⟩
        · rintro (h | ⟨h | h, h3⟩)
          · exact .inl (.inr h)
          · exact .inl (.inl h)
          · exact .inr ⟨h, h3⟩
      · have e : allS p d R x = R := by unfold allS; rw [if_neg hx]
        rw [e]
        obtain ⟨h1, h2⟩ := ih R hok.2.2 (fun a ha b hb => hd a ha b (List.mem_cons_of_mem _ hb)) hR
        refine ⟨h1, fun y => ?_⟩
        rw [h2 y, List.mem_cons]
        constructor
        · rintro (h | h)
          · exact .inl h
          · exact .inr ⟨.inr h.1, h.2⟩
        · rintro (h | ⟨h | h, h3⟩)
          · exact .inl h
          · subst h; exact absurd h3 hx
          · exact .inr ⟨h, h3⟩
  obtain ⟨h1, h2⟩ := key l [] hl (fun a ha => by cases ha) List.Pairwise.nil
  exact ⟨h1, fun y => by rw [show allF l p d = l.foldl (allS p d) [] from rfl, h2 y]; simp⟩
end Go.Proofs.Ytmcmmmaffdenjaa
