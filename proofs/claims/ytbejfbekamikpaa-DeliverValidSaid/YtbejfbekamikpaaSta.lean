/-
  deliver: status and Status.
-/
import Derived.Test.YtbejfbekamikpaaDel
namespace Go.Proofs.Ytbejfbekamikpaa
open Go.RowKit Eng
set_option linter.unusedVariables false
set_option linter.unusedSimpArgs false
set_option maxHeartbeats 8000000
attribute [local irreducible] SC SQ J Qt Calls Iterates LSub FSub
def vacB (d : Int) (x : Ru) : Bool := decide (x.fr ≤ d) && decide (d ≤ x.to)
def seaB (d : Int) (x : Ru) : Bool := decide (checkDayF d = 0) && (ydB x.fr && (ydB x.to && yearlyB d x.fr x.to))
def weekB (wd : Int) (x : Ru) : Bool := decide (x.dy / (2 ^ wd.toNat : Nat) % 2 = 1)
theorem st1_c (ca : Addr) (d : Int) (x : Ru) (w : World) (hE : Ext w ca [.int .i64 d]) :
    Calls Try.prog 63 #[.agg (ruC x).toArray, .pointer (some ca)] w fun e w' => e = .returned (.bool (vacB d x)) ∧ Below w.heap.size w w' := by
  refine eng_start (n := 14) (args := [.agg (ruC x).toArray, .pointer (some ca)]) tab tab_ok fns fns_ok [.tmp 3] Try.func63 rfl rfl rfl rfl ?_
  repeat' (first | (refine gJ ?_; first | refine js rfl rfl rfl rfl ?_ | (refine gload rfl rfl ?_; refine j_qe rfl rfl rfl ?_; first | refine ⟨_, q_load_own rfl rfl rfl rfl (by (repeat constructor)) (by first | rfl | assumption), ?_⟩ | refine ⟨_, q_loadA_own rfl rfl rfl rfl (by (repeat constructor)) (by rfl), ?_⟩ | refine ⟨_, q_loadA_ext rfl rfl rfl rfl ⟨by assumption, (by first | exact id | assumption)⟩ (by rfl), ?_⟩ | refine ⟨_, q_load_ext rfl rfl rfl rfl ⟨by assumption, (by first | exact id | assumption)⟩ (by first | rfl | assumption), ?_⟩ | refine ⟨_, q_load_extb rfl rfl rfl rfl ⟨by assumption, (by first | exact id | assumption)⟩ (by rfl), ?_⟩ | refine ⟨_, q_loadA_extb rfl rfl rfl rfl ⟨by assumption, (by first | exact id | assumption)⟩ (by rfl), ?_⟩ | refine ⟨_, q_load_ext0 rfl rfl rfl rfl ⟨by assumption, (by first | exact id | assumption)⟩ (by rfl), ?_⟩) | refine jfield rfl rfl rfl rfl rfl rfl rfl rfl ?_ | (refine gF ?_; first | (refine j_box rfl rfl rfl rfl rfl ?_; intro b)) | (refine j_qe rfl rfl rfl ?_; first | refine ⟨_, q_field_ext rfl rfl rfl rfl rfl, ?_⟩) | refine j_guard_undef rfl rfl rfl rfl rfl ?_) | (refine gSC ?_; first | refine sc_mv rfl ?_ | refine sc_q rfl ?_ | refine sc_region ?_) | (refine gSQ ?_; first | refine sq_go rfl ?_ | refine sq_mv rfl ?_ | refine sq_ende (by first | exact .inl rfl | exact .inr rfl) rfl rfl ⟨_, (RVs.cons (RV.tmp rfl) (RVs.nil)), ?_⟩) | refine j_nil ?_ | ((first | refine j_guard rfl rfl rfl rfl rfl ?_ ?_ | refine sc_cond rfl ?_ ?_) <;> intro hc <;> (first | exact absurd hc (by decide) | ((try simp only [engHC] at hc) <;> first | (exfalso; omega) | exact absurd trivial hc | skip))))
  all_goals ((intro w' hS; refine ⟨?_, hS.below⟩; simp only [pack]); refine rb ?_; simp_all [vacB]; try (intros; omega))
theorem st2_c (ca : Addr) (d : Int) (x : Ru) (w : World) (hx : ruOk x) (hE : Ext w ca [.int .i64 d]) :
    Calls Try.prog 64 #[.agg (ruC x).toArray, .pointer (some ca)] w fun e w' => e = .returned (.bool (seaB d x)) ∧ Below w.heap.size w w' := by
  refine eng_start (n := 16) (args := [.agg (ruC x).toArray, .pointer (some ca)]) tab tab_ok fns fns_ok [.tmp 3] Try.func64 rfl rfl rfl rfl ?_
  repeat' (first | (refine gJ ?_; first | refine js rfl rfl rfl rfl ?_ | (refine gload rfl rfl ?_; refine j_qe rfl rfl rfl ?_; first | refine ⟨_, q_load_own rfl rfl rfl rfl (by (repeat constructor)) (by first | rfl | assumption), ?_⟩ | refine ⟨_, q_loadA_own rfl rfl rfl rfl (by (repeat constructor)) (by rfl), ?_⟩ | refine ⟨_, q_loadA_ext rfl rfl rfl rfl ⟨by assumption, (by first | exact id | assumption)⟩ (by rfl), ?_⟩ | refine ⟨_, q_load_ext rfl rfl rfl rfl ⟨by assumption, (by first | exact id | assumption)⟩ (by first | rfl | assumption), ?_⟩ | refine ⟨_, q_load_extb rfl rfl rfl rfl ⟨by assumption, (by first | exact id | assumption)⟩ (by rfl), ?_⟩ | refine ⟨_, q_loadA_extb rfl rfl rfl rfl ⟨by assumption, (by first | exact id | assumption)⟩ (by rfl), ?_⟩ | refine ⟨_, q_load_ext0 rfl rfl rfl rfl ⟨by assumption, (by first | exact id | assumption)⟩ (by rfl), ?_⟩) | refine jfield rfl rfl rfl rfl rfl rfl rfl rfl ?_ | (refine gcall rfl rfl ?_; first | (refine j_qc (f := 65) rfl rfl rfl rfl rfl rfl rfl ?_; refine ⟨_, (fun w _ => yearly_c d x.fr x.to w hx.2.2.1.1 hx.2.2.1.2 hx.2.2.2.1.1 hx.2.2.2.1.2), ?_⟩)) | (refine gF ?_; first | (refine j_box rfl rfl rfl rfl rfl ?_; intro b)) | (refine j_qe rfl rfl rfl ?_; first | refine ⟨_, q_field_ext rfl rfl rfl rfl rfl, ?_⟩)) | (refine gSC ?_; first | refine sc_mv rfl ?_ | refine sc_q rfl ?_ | refine sc_region ?_) | (refine gSQ ?_; first | refine sq_go rfl ?_ | refine sq_mv rfl ?_ | refine sq_ende (by first | exact .inl rfl | exact .inr rfl) rfl rfl ⟨_, (RVs.cons (RV.tmp rfl) (RVs.nil)), ?_⟩) | refine j_nil ?_ | ((refine sc_cond rfl ?_ ?_) <;> intro hc <;> (first | exact absurd hc (by decide) | ((try simp only [engHC] at hc) <;> first | (exfalso; omega) | exact absurd trivial hc | skip))))
  (intro w' hS; refine ⟨?_, hS.below⟩; simp only [pack])
  rfl
theorem st3_c (ca : Addr) (d : Int) (x : Ru) (w : World) (h0 : 0 ≤ d) (h1 : d ≤ 8) (hx : ruOk x) (hE : Ext w ca [.int .i64 d]) :
    Calls Try.prog 67 #[.agg (ruC x).toArray, .pointer (some ca)] w fun e w' => e = .returned (.bool (weekB d x)) ∧ Below w.heap.size w w' := by
  obtain ⟨hdy0, hdy1⟩ := hx.2.2.2.2
  have hq : 0 ≤ x.dy / (2 ^ d.toNat : Nat) ∧ x.dy / (2 ^ d.toNat : Nat) ≤ 255 := ⟨Int.ediv_nonneg hdy0 (Int.natCast_nonneg _), Int.le_trans (Int.ediv_le_self _ hdy0) hdy1⟩
  refine eng_start (n := 11) (args := [.agg (ruC x).toArray, .pointer (some ca)]) tab tab_ok fns fns_ok [.tmp 3] Try.func67 rfl rfl rfl rfl ?_
  repeat' (first | (refine gJ ?_; first | refine js rfl rfl rfl rfl ?_ | (refine gload rfl rfl ?_; refine j_qe rfl rfl rfl ?_; first | refine ⟨_, q_load_own rfl rfl rfl rfl (by (repeat constructor)) (by first | rfl | assumption), ?_⟩ | refine ⟨_, q_loadA_own rfl rfl rfl rfl (by (repeat constructor)) (by rfl), ?_⟩ | refine ⟨_, q_loadA_ext rfl rfl rfl rfl ⟨by assumption, (by first | exact id | assumption)⟩ (by rfl), ?_⟩ | refine ⟨_, q_load_ext rfl rfl rfl rfl ⟨by assumption, (by first | exact id | assumption)⟩ (by first | rfl | assumption), ?_⟩ | refine ⟨_, q_load_extb rfl rfl rfl rfl ⟨by assumption, (by first | exact id | assumption)⟩ (by rfl), ?_⟩ | refine ⟨_, q_loadA_extb rfl rfl rfl rfl ⟨by assumption, (by first | exact id | assumption)⟩ (by rfl), ?_⟩ | refine ⟨_, q_load_ext0 rfl rfl rfl rfl ⟨by assumption, (by first | exact id | assumption)⟩ (by rfl), ?_⟩) | refine jfield rfl rfl rfl rfl rfl rfl rfl rfl ?_ | (refine gF ?_; first | (refine j_box rfl rfl rfl rfl rfl ?_; intro b)) | (refine j_qe rfl rfl rfl ?_; first | refine ⟨_, q_field_ext rfl rfl rfl rfl rfl, ?_⟩ | refine ⟨_, q_shr1 rfl rfl rfl, ?_⟩ | refine ⟨_, q_shr rfl rfl rfl ⟨by omega, by decide⟩, ?_⟩ | refine ⟨_, q_shr rfl rfl rfl ⟨by omega, by show Int.toNat _ ≤ (8:Nat); omega⟩, ?_⟩ | refine ⟨_, q_and1 rfl rfl rfl (by first | assumption | omega), ?_⟩ | refine ⟨_, q_conv rfl rfl rfl rfl rfl rfl (by first | rfl | (exact i64_wrap (by omega) (by omega)) | (exact u8_wrap (by omega) (by omega)) | (exact u64_wrap (by omega) (by omega)) | (exact u16_wrap (by omega) (by omega))), ?_⟩)) | (refine gSC ?_; first | refine sc_mv rfl ?_ | refine sc_q rfl ?_ | refine sc_region ?_) | (refine gSQ ?_; first | refine sq_go rfl ?_ | refine sq_mv rfl ?_ | refine sq_ende (by first | exact .inl rfl | exact .inr rfl) rfl rfl ⟨_, (RVs.cons (RV.tmp rfl) (RVs.nil)), ?_⟩) | refine j_nil ?_ | ((refine sc_cond rfl ?_ ?_) <;> intro hc <;> (first | exact absurd hc (by decide) | ((try simp only [engHC] at hc) <;> first | (exfalso; omega) | exact absurd trivial hc | skip))))
  (intro w' hS; refine ⟨?_, hS.below⟩; simp only [pack])
  rfl
theorem nan112_c (a : Int) (w : World) :
    Calls Try.prog 112 #[.int .i64 a] w fun e w' => e = .returned (.bool false) ∧ Below w.heap.size w w' := by
  refine eng_start (n := 6) (args := [.int .i64 a]) tab tab_ok fns fns_ok [.tmp 2] Try.func112 rfl rfl rfl rfl ?_
  repeat' (first | (refine gJ ?_; first | refine js rfl rfl rfl rfl ?_) | (refine gSC ?_; first | refine sc_mv rfl ?_ | refine sc_q rfl ?_ | refine sc_region ?_) | (refine gSQ ?_; first | refine sq_go rfl ?_ | refine sq_mv rfl ?_ | refine sq_ende (by first | exact .inl rfl | exact .inr rfl) rfl rfl ⟨_, (RVs.cons (RV.tmp rfl) (RVs.nil)), ?_⟩) | refine j_nil ?_ | ((refine sc_cond rfl ?_ ?_) <;> intro hc <;> (first | exact absurd hc (by decide) | ((try simp only [engHC] at hc) <;> first | (exfalso; omega) | exact absurd trivial hc | skip))))
  (intro w' hS; refine ⟨?_, hS.below⟩; simp only [pack])
  exact rb (by simp)
theorem nan93_c (a : Int) (w : World) :
    Calls Try.prog 93 #[.int .i64 a] w fun e w' => e = .returned (.bool false) ∧ Below w.heap.size w w' := by
  refine eng_start (n := 6) (args := [.int .i64 a]) tab tab_ok fns fns_ok [.tmp 2] Try.func93 rfl rfl rfl rfl ?_
  repeat' (first | (refine gJ ?_; first | refine js rfl rfl rfl rfl ?_) | (refine gSC ?_; first | refine sc_mv rfl ?_ | refine sc_q rfl ?_ | refine sc_region ?_) | (refine gSQ ?_; first | refine sq_go rfl ?_ | refine sq_mv rfl ?_ | refine sq_ende (by first | exact .inl rfl | exact .inr rfl) rfl rfl ⟨_, (RVs.cons (RV.tmp rfl) (RVs.nil)), ?_⟩) | refine j_nil ?_ | ((refine sc_cond rfl ?_ ?_) <;> intro hc <;> (first | exact absurd hc (by decide) | ((try simp only [engHC] at hc) <;> first | (exfalso; omega) | exact absurd trivial hc | skip))))
  (intro w' hS; refine ⟨?_, hS.below⟩; simp only [pack])
  exact rb (by simp)
theorem less_c (a b : Int) (w : World) :
    Calls Try.prog 92 #[.int .i64 a, .int .i64 b] w fun e w' => e = .returned (.bool (decide (a < b))) ∧ Below w.heap.size w w' := by
  refine eng_start (n := 17) (args := [.int .i64 a, .int .i64 b]) tab tab_ok fns fns_ok [.tmp 4] Try.func92 rfl rfl rfl rfl ?_
  repeat' (first | (refine gJ ?_; first | refine js rfl rfl rfl rfl ?_ | (refine gcall rfl rfl ?_; first | (refine j_qc (f := 112) rfl rfl rfl rfl rfl rfl rfl ?_; refine ⟨_, (fun w _ => nan112_c a w), ?_⟩)) | refine j_guard_undef rfl rfl rfl rfl rfl ?_) | (refine gSC ?_; first | refine sc_mv rfl ?_ | refine sc_q rfl ?_ | refine sc_region ?_) | (refine gSQ ?_; first | refine sq_go rfl ?_ | refine sq_mv rfl ?_ | refine sq_ende (by first | exact .inl rfl | exact .inr rfl) rfl rfl ⟨_, (RVs.cons (RV.tmp rfl) (RVs.nil)), ?_⟩) | refine j_nil ?_ | ((first | refine j_guard rfl rfl rfl rfl rfl ?_ ?_ | refine sc_cond rfl ?_ ?_) <;> intro hc <;> (first | exact absurd hc (by decide) | ((try simp only [engHC] at hc) <;> first | (exfalso; omega) | exact absurd trivial hc | skip))))
  (intro w' hS; refine ⟨?_, hS.below⟩; simp only [pack])
def lbF (l : List Int) (t : Int) : Nat := (l.takeWhile fun x => decide (x < t)).length
theorem lb_of : ∀ (l : List Int) (t : Int) (i : Nat), (∀ k x, k < i → l[k]? = some x → x < t) → i ≤ l.length → (∀ x, l[i]? = some x → t ≤ x) → lbF l t = i
  | [], t, i, _, h2, _ => by simp at h2; subst h2; rfl
  | x :: l, t, 0, _, _, h3 => by
    have := h3 x rfl
    simp [lbF, List.takeWhile_cons]; omega
  | x :: l, t, i + 1, h1, h2, h3 => by
    have h := h1 0 x (by omega) rfl
    have ih := lb_of l t i (fun k y hk hy => h1 (k + 1) y (by omega) hy) (by simpa using h2) (fun y hy => h3 y hy)
    simp only [lbF, List.takeWhile_cons, h, decide_true, if_true, List.length_cons] at ih ⊢
    omega
def foundF (l : List Int) (t : Int) : Bool := match l[lbF l t]? with | some x => decide (x = t) | none => false
theorem bs_c (A : Option Addr) (c : Nat) (l : List Int) (t : Int) (w : World) (hl : l.length ≤ 1000) (h : RS w 1 intC A l) (hsort : ∀ (i j : Nat) (x y : Int), i < j → l[i]? = some x → l[j]? = some y → x < y) :
    Calls Try.prog 68 #[.slice A l.length c, .int .i64 t] w fun e w' => e = .returned (.tuple #[.int .i64 (lbF l t), .bool (foundF l t)]) ∧ Below w.heap.size w w' := by
  generalize hn : l.length = n at *
  refine eng_start (n := 54) (args := [.slice A n c, .int .i64 t]) tab tab_ok fns fns_ok [.tmp 4, .tmp 5] Try.func68 rfl rfl rfl rfl ?_
  repeat' (first | (refine gJ ?_; first | refine js rfl rfl rfl rfl ?_ | (refine gload rfl rfl ?_; refine j_qe rfl rfl rfl ?_; first | refine ⟨_, q_load_own rfl rfl rfl rfl (by (repeat constructor)) (by first | rfl | assumption), ?_⟩ | refine ⟨_, q_loadA_own rfl rfl rfl rfl (by (repeat constructor)) (by rfl), ?_⟩ | refine ⟨_, q_loadA_ext rfl rfl rfl rfl ⟨by assumption, (by first | exact id | assumption)⟩ (by rfl), ?_⟩ | refine ⟨_, q_load_ext rfl rfl rfl rfl ⟨by assumption, (by first | exact id | assumption)⟩ (by first | rfl | assumption), ?_⟩ | refine ⟨_, q_load_extb rfl rfl rfl rfl ⟨by assumption, (by first | exact id | assumption)⟩ (by rfl), ?_⟩ | refine ⟨_, q_loadA_extb rfl rfl rfl rfl ⟨by assumption, (by first | exact id | assumption)⟩ (by rfl), ?_⟩ | refine ⟨_, q_load_ext0 rfl rfl rfl rfl ⟨by assumption, (by first | exact id | assumption)⟩ (by rfl), ?_⟩) | refine jar rfl rfl rfl rfl rfl rfl rfl (by omega) ?_ | (refine j_qe rfl rfl rfl ?_; first | refine ⟨_, q_index_nat rfl rfl rfl rfl rfl (by omega), ?_⟩ | refine ⟨_, q_index_slice rfl rfl rfl rfl rfl (by omega), ?_⟩ | refine ⟨_, q_index_arr rfl rfl rfl rfl rfl (by omega), ?_⟩ | refine ⟨_, q_index_arr_ext rfl rfl rfl rfl rfl (by omega), ?_⟩ | refine ⟨_, q_len_slice rfl rfl rfl rfl, ?_⟩ | refine ⟨_, q_addu8 rfl rfl rfl (by omega), ?_⟩ | refine ⟨_, q_shr1 rfl rfl rfl, ?_⟩ | refine ⟨_, q_shr rfl rfl rfl ⟨by omega, by decide⟩, ?_⟩ | refine ⟨_, q_shr rfl rfl rfl ⟨by omega, by show Int.toNat _ ≤ (8:Nat); omega⟩, ?_⟩ | refine ⟨_, q_conv rfl rfl rfl rfl rfl rfl (by first | rfl | (exact i64_wrap (by omega) (by omega)) | (exact u8_wrap (by omega) (by omega)) | (exact u64_wrap (by omega) (by omega)) | (exact u16_wrap (by omega) (by omega))), ?_⟩) | refine j_guard_undef rfl rfl rfl rfl rfl ?_) | (refine gSC ?_; first | refine sc_mv rfl ?_ | refine sc_q rfl ?_ | refine sc_region ?_) | (refine gSQ ?_; first | refine sq_go rfl ?_ | refine sq_mv rfl ?_ | refine sq_ende (by first | exact .inl rfl | exact .inr rfl) rfl rfl ⟨_, (RVs.cons (RV.tmp rfl) (RVs.cons (RV.tmp rfl) (RVs.nil))), ?_⟩) | refine j_nil ?_ | ((first | refine j_guard rfl rfl rfl rfl rfl ?_ ?_ | refine sc_cond rfl ?_ ?_) <;> intro hc <;> (first | exact absurd hc (by decide) | ((try simp only [engHC] at hc) <;> first | (exfalso; omega) | exact absurd trivial hc | skip))))
  refine sc_loop (ι := Nat × Nat) (fun i => i.1 ≤ i.2 ∧ i.2 ≤ n ∧ (∀ k x, k < i.1 → l[k]? = some x → x < t) ∧ (∀ k x, i.2 ≤ k → l[k]? = some x → t ≤ x)) (fun i => i.2 - i.1) (fun i => [(0, .slice A n c), (1, .int .i64 t), (4, .int .i64 0), (5, .bool false), (6, .int .i64 n), (7, .int .i64 i.1), (8, .int .i64 i.2)]) (fun _ => []) (0, n) ⟨by omega, by show n ≤ n; omega, fun k x hk => by simp at hk, fun k x hk hx => by have := (List.getElem?_eq_some_iff.1 hx).1; simp only at hk; omega⟩ (by repeat (first | exact FSub.nil | refine FSub.cons rfl ?_ | refine FSub.conse rfl (by congr 1; omega) ?_)) (by repeat (first | exact LSub.nil | refine LSub.cons (by repeat (first | exact Rem.here | apply Rem.there)) ?_)) ?_
  rintro ⟨i, j⟩ ⟨h1, h2, h3, h4⟩
  dsimp only at h1 h2 h3 h4 ⊢
  by_cases hlt : i < j
  · obtain ⟨m, hm⟩ : ∃ m : Nat, m = (((i : Int) + (j : Int)) / 2).toNat := ⟨_, rfl⟩
    have hm' : ((i : Int) + (j : Int)) / 2 = (m : Int) := by omega
    obtain ⟨x, hx⟩ : ∃ x, l[m]? = some x := ⟨_, List.getElem?_eq_getElem (by omega)⟩
    obtain ⟨ad, rfl, hX⟩ := h m x hx
    rw [hm] at hX
    repeat' (first | (refine gJ ?_; first | refine js rfl rfl rfl rfl ?_ | (refine gload rfl rfl ?_; refine j_qe rfl rfl rfl ?_; first | refine ⟨_, q_load_own rfl rfl rfl rfl (by (repeat constructor)) (by first | rfl | assumption), ?_⟩ | refine ⟨_, q_loadA_own rfl rfl rfl rfl (by (repeat constructor)) (by rfl), ?_⟩ | refine ⟨_, q_loadA_ext rfl rfl rfl rfl ⟨by assumption, (by first | exact id | assumption)⟩ (by rfl), ?_⟩ | refine ⟨_, q_load_ext rfl rfl rfl rfl ⟨by assumption, (by first | exact id | assumption)⟩ (by first | rfl | assumption), ?_⟩ | refine ⟨_, q_load_extb rfl rfl rfl rfl ⟨by assumption, (by first | exact id | assumption)⟩ (by rfl), ?_⟩ | refine ⟨_, q_loadA_extb rfl rfl rfl rfl ⟨by assumption, (by first | exact id | assumption)⟩ (by rfl), ?_⟩ | refine ⟨_, q_load_ext0 rfl rfl rfl rfl ⟨by assumption, (by first | exact id | assumption)⟩ (by rfl), ?_⟩) | refine jar rfl rfl rfl rfl rfl rfl rfl (by omega) ?_ | (refine gcall rfl rfl ?_; first | (refine j_qc (f := 92) rfl rfl rfl rfl rfl rfl rfl ?_; refine ⟨_, (fun w _ => less_c x t w), ?_⟩)) | (refine j_qe rfl rfl rfl ?_; first | refine ⟨_, q_index_nat rfl rfl rfl rfl rfl (by omega), ?_⟩ | refine ⟨_, q_index_slice rfl rfl rfl rfl rfl (by omega), ?_⟩ | refine ⟨_, q_index_arr rfl rfl rfl rfl rfl (by omega), ?_⟩ | refine ⟨_, q_index_arr_ext rfl rfl rfl rfl rfl (by omega), ?_⟩ | refine ⟨_, q_len_slice rfl rfl rfl rfl, ?_⟩ | refine ⟨_, q_addu8 rfl rfl rfl (by omega), ?_⟩ | refine ⟨_, q_shr1 rfl rfl rfl, ?_⟩ | refine ⟨_, q_shr rfl rfl rfl ⟨by omega, by decide⟩, ?_⟩ | refine ⟨_, q_shr rfl rfl rfl ⟨by omega, by show Int.toNat _ ≤ (8:Nat); omega⟩, ?_⟩ | refine ⟨_, q_conv rfl rfl rfl rfl rfl rfl (by first | rfl | (exact i64_wrap (by omega) (by omega)) | (exact u8_wrap (by omega) (by omega)) | (exact u64_wrap (by omega) (by omega)) | (exact u16_wrap (by omega) (by omega))), ?_⟩) | refine j_guard_undef rfl rfl rfl rfl rfl ?_) | (refine gSC ?_; first | refine sc_mv rfl ?_ | refine sc_q rfl ?_ | refine sc_region ?_) | (refine gSQ ?_; first | refine sq_go rfl ?_ | refine sq_mv rfl ?_ | refine sq_ende (by first | exact .inl rfl | exact .inr rfl) rfl rfl ⟨_, (RVs.cons (RV.tmp rfl) (RVs.cons (RV.tmp rfl) (RVs.nil))), ?_⟩) | refine j_nil ?_ | ((first | refine j_guard rfl rfl rfl rfl rfl ?_ ?_ | refine sc_cond rfl ?_ ?_) <;> intro hc <;> (first | exact absurd hc (by decide) | ((try simp only [engHC] at hc) <;> first | (exfalso; omega) | exact absurd trivial hc | skip))))
    · rw [hm']
      refine sq_loop (m + 1, j) ⟨by show m + 1 ≤ j; omega, h2, fun k y hk hy => ?_, h4⟩ (by show j - (m + 1) < j - i; omega) (by repeat (first | exact FSub.nil | refine FSub.cons rfl ?_ | refine FSub.conse rfl (by congr 1; omega) ?_)) (by repeat (first | exact LSub.nil | refine LSub.cons (by repeat (first | exact Rem.here | apply Rem.there)) ?_))
      simp only at hk
      rcases Nat.lt_or_ge k m with hkm | hkm
      · exact Int.lt_trans (hsort k m y x hkm hy hx) (by assumption)
      · have : k = m := by omega
        subst this
        rw [hx] at hy
        simp only [Option.some.injEq] at hy
        subst hy
        assumption
    · rw [hm']
      refine sq_loop (i, m) ⟨by show i ≤ m; omega, by show m ≤ n; omega, h3, fun k y hk hy => ?_⟩ (by show m - i < j - i; omega) (by repeat (first | exact FSub.nil | refine FSub.cons rfl ?_ | refine FSub.conse rfl (by congr 1; omega) ?_)) (by repeat (first | exact LSub.nil | refine LSub.cons (by repeat (first | exact Rem.here | apply Rem.there)) ?_))
      simp only at hk
      rcases Nat.lt_or_ge m k with hkm | hkm
      · have := hsort m k x y hkm hx hy
        omega
      · have : k = m := by omega
        subst this
        rw [hx] at hy
        simp only [Option.some.injEq] at hy
        subst hy
        omega
  · have hij : i = j := by omega
    subst hij
    have hlb := lb_of l t i h3 (by omega) (fun x hx => h4 i x (Nat.le_refl _) hx)
    by_cases hi : i < n
    · obtain ⟨x, hx⟩ : ∃ x, l[i]? = some x := ⟨_, List.getElem?_eq_getElem (by omega)⟩
      obtain ⟨ad, rfl, hX⟩ := h i x hx
      repeat' (first | (refine gJ ?_; first | refine js rfl rfl rfl rfl ?_ | (refine gload rfl rfl ?_; refine j_qe rfl rfl rfl ?_; first | refine ⟨_, q_load_own rfl rfl rfl rfl (by (repeat constructor)) (by first | rfl | assumption), ?_⟩ | refine ⟨_, q_loadA_own rfl rfl rfl rfl (by (repeat constructor)) (by rfl), ?_⟩ | refine ⟨_, q_loadA_ext rfl rfl rfl rfl ⟨by assumption, (by first | exact id | assumption)⟩ (by rfl), ?_⟩ | refine ⟨_, q_load_ext rfl rfl rfl rfl ⟨by assumption, (by first | exact id | assumption)⟩ (by first | rfl | assumption), ?_⟩ | refine ⟨_, q_load_extb rfl rfl rfl rfl ⟨by assumption, (by first | exact id | assumption)⟩ (by rfl), ?_⟩ | refine ⟨_, q_loadA_extb rfl rfl rfl rfl ⟨by assumption, (by first | exact id | assumption)⟩ (by rfl), ?_⟩ | refine ⟨_, q_load_ext0 rfl rfl rfl rfl ⟨by assumption, (by first | exact id | assumption)⟩ (by rfl), ?_⟩) | refine jar rfl rfl rfl rfl rfl rfl rfl (by omega) ?_ | (refine gcall rfl rfl ?_; first | (refine j_qc (f := 93) rfl rfl rfl rfl rfl rfl rfl ?_; refine ⟨_, (fun w _ => nan93_c x w), ?_⟩)) | (refine j_qe rfl rfl rfl ?_; first | refine ⟨_, q_index_nat rfl rfl rfl rfl rfl (by omega), ?_⟩ | refine ⟨_, q_index_slice rfl rfl rfl rfl rfl (by omega), ?_⟩ | refine ⟨_, q_index_arr rfl rfl rfl rfl rfl (by omega), ?_⟩ | refine ⟨_, q_index_arr_ext rfl rfl rfl rfl rfl (by omega), ?_⟩ | refine ⟨_, q_len_slice rfl rfl rfl rfl, ?_⟩ | refine ⟨_, q_addu8 rfl rfl rfl (by omega), ?_⟩ | refine ⟨_, q_shr1 rfl rfl rfl, ?_⟩ | refine ⟨_, q_shr rfl rfl rfl ⟨by omega, by decide⟩, ?_⟩ | refine ⟨_, q_shr rfl rfl rfl ⟨by omega, by show Int.toNat _ ≤ (8:Nat); omega⟩, ?_⟩ | refine ⟨_, q_conv rfl rfl rfl rfl rfl rfl (by first | rfl | (exact i64_wrap (by omega) (by omega)) | (exact u8_wrap (by omega) (by omega)) | (exact u64_wrap (by omega) (by omega)) | (exact u16_wrap (by omega) (by omega))), ?_⟩) | refine j_guard_undef rfl rfl rfl rfl rfl ?_) | (refine gSC ?_; first | refine sc_mv rfl ?_ | refine sc_q rfl ?_ | refine sc_region ?_) | (refine gSQ ?_; first | refine sq_go rfl ?_ | refine sq_mv rfl ?_ | refine sq_ende (by first | exact .inl rfl | exact .inr rfl) rfl rfl ⟨_, (RVs.cons (RV.tmp rfl) (RVs.cons (RV.tmp rfl) (RVs.nil))), ?_⟩) | refine j_nil ?_ | ((first | refine j_guard rfl rfl rfl rfl rfl ?_ ?_ | refine sc_cond rfl ?_ ?_) <;> intro hc <;> (first | exact absurd hc (by decide) | ((try simp only [engHC] at hc) <;> first | (exfalso; omega) | exact absurd trivial hc | skip))))
      all_goals ((intro w' hS; refine ⟨?_, hS.below⟩; simp only [pack]); simp only [hlb, foundF, hx]; simp_all)
    · repeat' (first | (refine gJ ?_; first | refine js rfl rfl rfl rfl ?_ | (refine gload rfl rfl ?_; refine j_qe rfl rfl rfl ?_; first | refine ⟨_, q_load_own rfl rfl rfl rfl (by (repeat constructor)) (by first | rfl | assumption), ?_⟩ | refine ⟨_, q_loadA_own rfl rfl rfl rfl (by (repeat constructor)) (by rfl), ?_⟩ | refine ⟨_, q_loadA_ext rfl rfl rfl rfl ⟨by assumption, (by first | exact id | assumption)⟩ (by rfl), ?_⟩ | refine ⟨_, q_load_ext rfl rfl rfl rfl ⟨by assumption, (by first | exact id | assumption)⟩ (by first | rfl | assumption), ?_⟩ | refine ⟨_, q_load_extb rfl rfl rfl rfl ⟨by assumption, (by first | exact id | assumption)⟩ (by rfl), ?_⟩ | refine ⟨_, q_loadA_extb rfl rfl rfl rfl ⟨by assumption, (by first | exact id | assumption)⟩ (by rfl), ?_⟩ | refine ⟨_, q_load_ext0 rfl rfl rfl rfl ⟨by assumption, (by first | exact id | assumption)⟩ (by rfl), ?_⟩) | refine jar rfl rfl rfl rfl rfl rfl rfl (by omega) ?_ | (refine j_qe rfl rfl rfl ?_; first | refine ⟨_, q_index_nat rfl rfl rfl rfl rfl (by omega), ?_⟩ | refine ⟨_, q_index_slice rfl rfl rfl rfl rfl (by omega), ?_⟩ | refine ⟨_, q_index_arr rfl rfl rfl rfl rfl (by omega), ?_⟩ | refine ⟨_, q_index_arr_ext rfl rfl rfl rfl rfl (by omega), ?_⟩ | refine ⟨_, q_len_slice rfl rfl rfl rfl, ?_⟩ | refine ⟨_, q_addu8 rfl rfl rfl (by omega), ?_⟩ | refine ⟨_, q_shr1 rfl rfl rfl, ?_⟩ | refine ⟨_, q_shr rfl rfl rfl ⟨by omega, by decide⟩, ?_⟩ | refine ⟨_, q_shr rfl rfl rfl ⟨by omega, by show Int.toNat _ ≤ (8:Nat); omega⟩, ?_⟩ | refine ⟨_, q_conv rfl rfl rfl rfl rfl rfl (by first | rfl | (exact i64_wrap (by omega) (by omega)) | (exact u8_wrap (by omega) (by omega)) | (exact u64_wrap (by omega) (by omega)) | (exact u16_wrap (by omega) (by omega))), ?_⟩) | refine j_guard_undef rfl rfl rfl rfl rfl ?_) | (refine gSC ?_; first | refine sc_mv rfl ?_ | refine sc_q rfl ?_ | refine sc_region ?_) | (refine gSQ ?_; first | refine sq_go rfl ?_ | refine sq_mv rfl ?_ | refine sq_ende (by first | exact .inl rfl | exact .inr rfl) rfl rfl ⟨_, (RVs.cons (RV.tmp rfl) (RVs.cons (RV.tmp rfl) (RVs.nil))), ?_⟩) | refine j_nil ?_ | ((first | refine j_guard rfl rfl rfl rfl rfl ?_ ?_ | refine sc_cond rfl ?_ ?_) <;> intro hc <;> (first | exact absurd hc (by decide) | ((try simp only [engHC] at hc) <;> first | (exfalso; omega) | exact absurd trivial hc | skip))))
      all_goals ((intro w' hS; refine ⟨?_, hS.below⟩; simp only [pack]); have hx : l[i]? = none := by simp; omega)
      all_goals (simp only [hlb, foundF, hx])
theorem weekday2_c (d : Int) (w : World) (h0 : 0 ≤ d) (h1 : d ≤ 730484) :
    Calls Try.prog 66 #[.int .i64 d] w fun e w' => e = .returned (.tuple #[.int .i64 (d % 7), .int .i64 0]) ∧ Below w.heap.size w w' := by
  have h := weekday_c d w
  have hck : checkDayF d = 0 := by unfold checkDayF; (repeat' split) <;> omega
  rw [hck, if_pos rfl] at h
  exact h
def ownF (l : List Ru) (id k : Int) : List Ru := l.filter (isR id k)
theorem askK_c (hf : Nat) (hcaps : List Value) (hs : Ru → Bool) (x1 x2 x3 : Nat) (A : Option Addr) (c : Nat) (l : List Ru) (p k : Int) (w : World) (hcal2 : has fns hf = true) (hl : l.length ≤ 9223372036854775807) (hok : ∀ x ∈ l, ruOk x) (h : RS w 5 ruC A l)
    (h1 : Ext w ⟨x1, 0, none⟩ [.slice A l.length c]) (h2 : Ext w ⟨x2, 0, none⟩ [.int .i64 p]) (h3 : Ext w ⟨x3, 0, none⟩ [.int .u8 k])
    (hh : ∀ x, ruOk x → ∀ w', Below w.heap.size w w' → Calls Try.prog hf (.agg (ruC x).toArray :: hcaps).toArray w' fun e w'' => e = .returned (.bool (hs x)) ∧ Below w'.heap.size w' w'') {r1 r2 : Bool} (e1 : (!(ownF l p k).isEmpty) = r1) (e2 : (ownF l p k).any hs = r2) :
    Calls Try.prog 61 #[.func (.func 90) #[] #[.pointer (some ⟨x1, 0, none⟩), .pointer (some ⟨x2, 0, none⟩), .pointer (some ⟨x3, 0, none⟩)], .func (.func hf) #[] hcaps.toArray] w fun e w' => e = .returned (.tuple #[.bool r1, .bool r2]) ∧ Below w.heap.size w w' := by
  subst e1
  subst e2
  refine ask_c 90 hf [.pointer (some ⟨x1, 0, none⟩), .pointer (some ⟨x2, 0, none⟩), .pointer (some ⟨x3, 0, none⟩)] hcaps (l.filter (isR p k)) hs w rfl hcal2 (fun W' S0 hb hS0 => ?_) hh
  have hno : ∀ b, b < w.heap.size → ¬ S0 b := fun b hb hS => by have := hS0 b hS; omega
  refine ofKind1_it _ _ _ A c l p k W' S0 hl hok (h.later hb (Nat.le_refl _)) (h1.later hb (Nat.le_refl _)) (h2.later hb (Nat.le_refl _)) (h3.later hb (Nat.le_refl _)) (hno _ h1.lt) (hno _ h2.lt) (hno _ h3.lt) ?_
  intro i x hx ad hA
  obtain ⟨ad', hA', hE⟩ := h i x hx
  rw [hA] at hA'
  injection hA' with hA'
  subst hA'
  exact hno _ hE.lt
def statusF (p : Pt) (l : List Ru) (hol : List Int) (d : Int) : Int :=
  if (ownF l p.id 2).any (vacB d) then 3
  else if !(ownF l p.id 1).isEmpty && !(ownF l p.id 1).any (seaB d) then 2
  else if !(ownF l p.id 3).isEmpty && !(ownF l p.id 3).any (weekB (d % 7)) then 2
  else if foundF hol d && decide (p.street = 0) then 2 else 1
abbrev okV (x : Nat × Nat × Nat) : Value := .func (.func 90) #[] #[.pointer (some ⟨x.1, 0, none⟩), .pointer (some ⟨x.2.1, 0, none⟩), .pointer (some ⟨x.2.2, 0, none⟩)]
abbrev okL (A : Option Addr) (n c : Nat) (p k : Int) (x : Nat × Nat × Nat) : List HA := [.cells x.1 32 [.slice A n c], .cells x.2.1 3 [.int .i64 p], .cells x.2.2 5 [.int .u8 k]]
theorem okL_plain (A : Option Addr) (n c : Nat) (p k : Int) (x : Nat × Nat × Nat) : plainHA (okL A n c p k x) := trivial
theorem status_c (p : Pt) (A : Option Addr) (c : Nat) (l : List Ru) (B : Option Addr) (bc : Nat) (hol : List Int) (d : Int) (w : World) (hl : l.length ≤ 9223372036854775807) (hok : ∀ x ∈ l, ruOk x) (h : RS w 5 ruC A l)
    (h0 : 0 ≤ d) (h1 : d ≤ 730484) (hhl : hol.length ≤ 1000) (hH : RS w 1 intC B hol) (hsort : ∀ (i j : Nat) (x y : Int), i < j → hol[i]? = some x → hol[j]? = some y → x < y) :
    Calls Try.prog 36 #[.agg (ptC p).toArray, .slice A l.length c, .slice B hol.length bc, .int .i64 d] w fun e w' => e = .returned (.int .u8 (statusF p l hol d)) ∧ Below w.heap.size w w' := by
  cases e1 : (ownF l p.id 2).any (vacB d)
  rotate_left
  all_goals
    refine eng_start (n := 74) (args := [.agg (ptC p).toArray, .slice A l.length c, .slice B hol.length bc, .int .i64 d]) tab tab_ok fns fns_ok [.tmp 8] Try.func36 rfl rfl rfl rfl ?_
    repeat' (first | (refine gJ ?_; first | refine js rfl rfl rfl rfl ?_ | (refine gload rfl rfl ?_; refine j_qe rfl rfl rfl ?_; first | refine ⟨_, q_load_own rfl rfl rfl rfl (by (repeat constructor)) (by first | rfl | assumption), ?_⟩ | refine ⟨_, q_loadA_own rfl rfl rfl rfl (by (repeat constructor)) (by rfl), ?_⟩ | refine ⟨_, q_loadA_ext rfl rfl rfl rfl ⟨by assumption, (by first | exact id | assumption)⟩ (by rfl), ?_⟩ | refine ⟨_, q_load_ext rfl rfl rfl rfl ⟨by assumption, (by first | exact id | assumption)⟩ (by first | rfl | assumption), ?_⟩ | refine ⟨_, q_load_extb rfl rfl rfl rfl ⟨by assumption, (by first | exact id | assumption)⟩ (by rfl), ?_⟩ | refine ⟨_, q_loadA_extb rfl rfl rfl rfl ⟨by assumption, (by first | exact id | assumption)⟩ (by rfl), ?_⟩ | refine ⟨_, q_load_ext0 rfl rfl rfl rfl ⟨by assumption, (by first | exact id | assumption)⟩ (by rfl), ?_⟩) | refine jfield rfl rfl rfl rfl rfl rfl rfl rfl ?_ | (refine gcall rfl rfl ?_; first | (refine j_qc (f := 61) rfl rfl rfl rfl rfl rfl rfl ?_; refine ⟨_, (fun w' hs => askK_c 63 _ (vacB d) _ _ _ A c l p.id 2 w' rfl hl hok (h.st hs) (hs.ext (by (repeat constructor))) (hs.ext (by (repeat constructor))) (hs.ext (by (repeat constructor))) (fun x hx w'' hb => st1_c _ d x w'' ((hs.ext (by (repeat constructor))).later hb (Nat.le_refl _))) rfl e1), ?_⟩) | (refine j_qc (f := 61) rfl rfl rfl rfl rfl rfl rfl ?_; refine ⟨_, (fun w' hs => askK_c 64 _ (seaB d) _ _ _ A c l p.id 1 w' rfl hl hok (h.st hs) (hs.ext (by (repeat constructor))) (hs.ext (by (repeat constructor))) (hs.ext (by (repeat constructor))) (fun x hx w'' hb => st2_c _ d x w'' hx ((hs.ext (by (repeat constructor))).later hb (Nat.le_refl _))) rfl rfl), ?_⟩) | (refine j_qc (f := 61) rfl rfl rfl rfl rfl rfl rfl ?_; refine ⟨_, (fun w' hs => askK_c 67 _ (weekB (d % 7)) _ _ _ A c l p.id 3 w' rfl hl hok (h.st hs) (hs.ext (by (repeat constructor))) (hs.ext (by (repeat constructor))) (hs.ext (by (repeat constructor))) (fun x hx w'' hb => st3_c _ (d % 7) x w'' (by omega) (by omega) hx ((hs.ext (by (repeat constructor))).later hb (Nat.le_refl _))) rfl rfl), ?_⟩) | (refine j_qc (f := 66) rfl rfl rfl rfl rfl rfl rfl ?_; refine ⟨_, (fun w' _ => weekday2_c d w' h0 h1), ?_⟩) | (refine j_qc (f := 68) rfl rfl rfl rfl rfl rfl rfl ?_; refine ⟨_, (fun w' hs => bs_c B bc hol d w' hhl (hH.st hs) hsort), ?_⟩)) | (refine gcall rfl rfl ?_; refine gF ?_; refine j_callN (f := 62) rfl rfl rfl rfl rfl rfl rfl okV (fun _ => True) (okL A l.length c p.id _) (fun w' _ => ofKind_c A l.length c p.id _ w') (okL_plain _ _ _ _ _) ?_; rintro ⟨b1, b2, b3⟩ _) | (refine gF ?_; first | refine j_store rfl rfl rfl rfl rfl rfl rfl rfl (by (repeat constructor)) (by rfl) ?_ | (refine j_alloc rfl rfl rfl rfl rfl ?_; intro b) | (refine j_box rfl rfl rfl rfl rfl ?_; intro b)) | (refine j_qe rfl rfl rfl ?_; first | refine ⟨_, q_makeFunc rfl rfl, ?_⟩ | refine ⟨_, q_field_ext rfl rfl rfl rfl rfl, ?_⟩) | refine j_guard_undef rfl rfl rfl rfl rfl ?_) | (refine gSC ?_; first | refine sc_mv rfl ?_ | refine sc_q rfl ?_ | refine sc_region ?_) | (refine gSQ ?_; first | refine sq_go rfl ?_ | refine sq_mv rfl ?_ | refine sq_ende (by first | exact .inl rfl | exact .inr rfl) rfl rfl ⟨_, (RVs.cons (RV.tmp rfl) (RVs.nil)), ?_⟩) | refine j_nil ?_ | ((first | refine j_guard rfl rfl rfl rfl rfl ?_ ?_ | refine sc_cond rfl ?_ ?_) <;> intro hc <;> (first | exact absurd hc (by decide) | ((try simp only [engHC] at hc) <;> first | (exfalso; omega) | exact absurd trivial hc | skip))))
  all_goals
    (intro w' hS; refine ⟨?_, hS.below⟩; simp only [pack])
    refine ri ?_
    unfold statusF
    generalize (ownF l p.id 2).any (vacB d) = q1 at *
    generalize (ownF l p.id 1).any (seaB d) = q2 at *
    generalize (ownF l p.id 3).any (weekB (d % 7)) = q3 at *
    generalize (ownF l p.id 1).isEmpty = q4 at *
    generalize (ownF l p.id 3).isEmpty = q5 at *
    simp_all
theorem right_len {hol : List Int} (h : rightB hol = true) : hol.length ≤ 1000 := by
  simp only [rightB, Bool.and_eq_true, decide_eq_true_eq] at h
  omega
theorem rightFrom_lt : ∀ (l : List Int) (a : Int), rightFrom a l = true → ∀ (j : Nat) (y : Int), l[j]? = some y → a < y
  | [], a, _, j, y, hy => by simp at hy
  | x :: l, a, h, 0, y, hy => by
    simp only [rightFrom, Bool.and_eq_true, decide_eq_true_eq] at h
    simp at hy; omega
  | x :: l, a, h, j + 1, y, hy => by
    simp only [rightFrom, Bool.and_eq_true, decide_eq_true_eq] at h
    have := rightFrom_lt l x h.2.2 j y (by simpa using hy)
    omega
theorem rightFrom_sorted : ∀ (l : List Int) (a : Int), rightFrom a l = true → ∀ (i j : Nat) (x y : Int), i < j → l[i]? = some x → l[j]? = some y → x < y
  | [], a, _, i, j, x, y, _, hx, _ => by simp at hx
  | z :: l, a, h, i, 0, x, y, hij, _, _ => by omega
  | z :: l, a, h, 0, j + 1, x, y, hij, hx, hy => by
    simp only [rightFrom, Bool.and_eq_true, decide_eq_true_eq] at h
    simp at hx
    subst hx
    exact rightFrom_lt l z h.2.2 j y (by simpa using hy)
  | z :: l, a, h, i + 1, j + 1, x, y, hij, hx, hy => by
    simp only [rightFrom, Bool.and_eq_true, decide_eq_true_eq] at h
    exact rightFrom_sorted l z h.2.2 i j x y (by omega) (by simpa using hx) (by simpa using hy)
theorem right_sorted {hol : List Int} (h : rightB hol = true) : ∀ (i j : Nat) (x y : Int), i < j → hol[i]? = some x → hol[j]? = some y → x < y := by
  simp only [rightB, Bool.and_eq_true] at h
  exact rightFrom_sorted hol (-1) h.2
/-- What Status answers: the status and the error. -/
def statF (pts : List Pt) (l : List Ru) (hol : List Int) (t d : Int) : Int × Int :=
  if checkF hol d ≠ 0 then (0, checkF hol d) else match findP pts t with
    | none => (0, 0)
    | some p => (statusF p l hol d, 0)
theorem check_zero {hol : List Int} {d : Int} (h : checkF hol d = 0) : rightB hol = true ∧ 0 ≤ d ∧ d ≤ 730484 := by
  unfold checkF at h
  split at h
  · omega
  · rename_i h1
    split at h
    · omega
    · refine ⟨?_, by omega, by omega⟩
      cases hr : rightB hol
      · exact absurd (.inl hr) h1
      · rfl
theorem Status_c (v1 v2 v3 : Value) (P : Option Addr) (pc : Nat) (pts : List Pt) (A : Option Addr) (c : Nat) (l : List Ru) (B : Option Addr) (bc : Nat) (hol : List Int) (t d : Int) (w : World) (g1 : v1.oneCell' = true) (g2 : v2.oneCell' = true) (g3 : v3.oneCell' = true) (hpl : pts.length ≤ 9223372036854775807) (hP : RS w 8 ptC P pts)
    (hl : l.length ≤ 9223372036854775807) (hok : ∀ x ∈ l, ruOk x) (h : RS w 5 ruC A l) (hhl : hol.length ≤ 9223372036854775807) (hH : RS w 1 intC B hol) :
    Calls Try.prog 31 #[refV v1 v2 v3 P pts.length pc, .slice A l.length c, .slice B hol.length bc, .int .i64 t, .int .i64 d] w fun e w' => e = .returned (.tuple #[.int .u8 (statF pts l hol t d).1, .int .i64 (statF pts l hol t d).2]) ∧ Below w.heap.size w w' := by
  by_cases hck : checkF hol d = 0
  · obtain ⟨hr, h0, h1⟩ := check_zero hck
    simp only [statF, hck, ne_eq, not_true, if_false]
    cases hf : findP pts t with
    | none =>
      refine eng_start (n := 34) (args := [refV v1 v2 v3 P pts.length pc, .slice A l.length c, .slice B hol.length bc, .int .i64 t, .int .i64 d]) tab tab_ok fns fns_ok [.tmp 10, .tmp 11] Try.func31 rfl rfl rfl rfl ?_
      repeat' (first | (refine gJ ?_; first | refine js rfl rfl rfl rfl ?_ | (refine gload rfl rfl ?_; refine j_qe rfl rfl rfl ?_; first | refine ⟨_, q_load_own rfl rfl rfl rfl (by (repeat constructor)) (by first | rfl | assumption), ?_⟩ | refine ⟨_, q_loadA_own rfl rfl rfl rfl (by (repeat constructor)) (by rfl), ?_⟩ | refine ⟨_, q_loadA_ext rfl rfl rfl rfl ⟨by assumption, (by first | exact id | assumption)⟩ (by rfl), ?_⟩ | refine ⟨_, q_load_ext rfl rfl rfl rfl ⟨by assumption, (by first | exact id | assumption)⟩ (by first | rfl | assumption), ?_⟩ | refine ⟨_, q_load_extb rfl rfl rfl rfl ⟨by assumption, (by first | exact id | assumption)⟩ (by rfl), ?_⟩ | refine ⟨_, q_loadA_extb rfl rfl rfl rfl ⟨by assumption, (by first | exact id | assumption)⟩ (by rfl), ?_⟩ | refine ⟨_, q_load_ext0 rfl rfl rfl rfl ⟨by assumption, (by first | exact id | assumption)⟩ (by rfl), ?_⟩) | (refine gcall rfl rfl ?_; first | (refine j_qc (f := 33) rfl rfl rfl rfl rfl rfl rfl ?_; refine ⟨_, (fun w' hs => hck ▸ check_c B bc hol d w' hhl (hH.st hs)), ?_⟩) | (refine j_qc (f := 34) rfl rfl rfl rfl rfl rfl rfl ?_; refine ⟨_, (fun w' hs => by have h9 := point_c v1 v2 v3 P pc t pts w' hpl (hP.st hs) g1 g2 g3; rw [hf] at h9; exact h9), ?_⟩)) | (refine gF ?_; first | refine j_store rfl rfl rfl rfl rfl rfl rfl rfl (by (repeat constructor)) (by rfl) ?_ | (refine j_alloc rfl rfl rfl rfl rfl ?_; intro b) | (refine j_box rfl rfl rfl rfl rfl ?_; intro b))) | (refine gSC ?_; first | refine sc_mv rfl ?_ | refine sc_q rfl ?_ | refine sc_region ?_) | (refine gSQ ?_; first | refine sq_go rfl ?_ | refine sq_mv rfl ?_ | refine sq_ende (by first | exact .inl rfl | exact .inr rfl) rfl rfl ⟨_, (RVs.cons (RV.tmp rfl) (RVs.cons (RV.tmp rfl) (RVs.nil))), ?_⟩) | refine j_nil ?_ | ((refine sc_cond rfl ?_ ?_) <;> intro hc <;> (first | exact absurd hc (by decide) | ((try simp only [engHC] at hc) <;> first | (exfalso; omega) | exact absurd trivial hc | skip))))
      all_goals first | (revert hc; simp; done) | ((intro w' hS; refine ⟨?_, hS.below⟩; simp only [pack]); done) | ((intro w' hS; refine ⟨?_, hS.below⟩; simp only [pack]); rfl)
    | some p =>
      refine eng_start (n := 34) (args := [refV v1 v2 v3 P pts.length pc, .slice A l.length c, .slice B hol.length bc, .int .i64 t, .int .i64 d]) tab tab_ok fns fns_ok [.tmp 10, .tmp 11] Try.func31 rfl rfl rfl rfl ?_
      repeat' (first | (refine gJ ?_; first | refine js rfl rfl rfl rfl ?_ | (refine gload rfl rfl ?_; refine j_qe rfl rfl rfl ?_; first | refine ⟨_, q_load_own rfl rfl rfl rfl (by (repeat constructor)) (by first | rfl | assumption), ?_⟩ | refine ⟨_, q_loadA_own rfl rfl rfl rfl (by (repeat constructor)) (by rfl), ?_⟩ | refine ⟨_, q_loadA_ext rfl rfl rfl rfl ⟨by assumption, (by first | exact id | assumption)⟩ (by rfl), ?_⟩ | refine ⟨_, q_load_ext rfl rfl rfl rfl ⟨by assumption, (by first | exact id | assumption)⟩ (by first | rfl | assumption), ?_⟩ | refine ⟨_, q_load_extb rfl rfl rfl rfl ⟨by assumption, (by first | exact id | assumption)⟩ (by rfl), ?_⟩ | refine ⟨_, q_loadA_extb rfl rfl rfl rfl ⟨by assumption, (by first | exact id | assumption)⟩ (by rfl), ?_⟩ | refine ⟨_, q_load_ext0 rfl rfl rfl rfl ⟨by assumption, (by first | exact id | assumption)⟩ (by rfl), ?_⟩) | (refine gcall rfl rfl ?_; first | (refine j_qc (f := 33) rfl rfl rfl rfl rfl rfl rfl ?_; refine ⟨_, (fun w' hs => hck ▸ check_c B bc hol d w' hhl (hH.st hs)), ?_⟩) | (refine j_qc (f := 34) rfl rfl rfl rfl rfl rfl rfl ?_; refine ⟨_, (fun w' hs => by have h9 := point_c v1 v2 v3 P pc t pts w' hpl (hP.st hs) g1 g2 g3; rw [hf] at h9; exact h9), ?_⟩) | (refine j_qc (f := 36) rfl rfl rfl rfl rfl rfl rfl ?_; refine ⟨_, (fun w' hs => status_c p A c l B bc hol d w' hl hok (h.st hs) h0 h1 (right_len hr) (hH.st hs) (right_sorted hr)), ?_⟩)) | (refine gF ?_; first | refine j_store rfl rfl rfl rfl rfl rfl rfl rfl (by (repeat constructor)) (by rfl) ?_ | (refine j_alloc rfl rfl rfl rfl rfl ?_; intro b) | (refine j_box rfl rfl rfl rfl rfl ?_; intro b))) | (refine gSC ?_; first | refine sc_mv rfl ?_ | refine sc_q rfl ?_ | refine sc_region ?_) | (refine gSQ ?_; first | refine sq_go rfl ?_ | refine sq_mv rfl ?_ | refine sq_ende (by first | exact .inl rfl | exact .inr rfl) rfl rfl ⟨_, (RVs.cons (RV.tmp rfl) (RVs.cons (RV.tmp rfl) (RVs.nil))), ?_⟩) | refine j_nil ?_ | ((refine sc_cond rfl ?_ ?_) <;> intro hc <;> (first | exact absurd hc (by decide) | ((try simp only [engHC] at hc) <;> first | (exfalso; omega) | exact absurd trivial hc | skip))))
      all_goals first | (revert hc; simp; done) | ((intro w' hS; refine ⟨?_, hS.below⟩; simp only [pack]); done) | ((intro w' hS; refine ⟨?_, hS.below⟩; simp only [pack]); rfl)
  · simp only [statF, hck, ne_eq, not_false_eq_true, if_true]
    refine eng_start (n := 34) (args := [refV v1 v2 v3 P pts.length pc, .slice A l.length c, .slice B hol.length bc, .int .i64 t, .int .i64 d]) tab tab_ok fns fns_ok [.tmp 10, .tmp 11] Try.func31 rfl rfl rfl rfl ?_
    repeat' (first | (refine gJ ?_; first | refine js rfl rfl rfl rfl ?_ | (refine gload rfl rfl ?_; refine j_qe rfl rfl rfl ?_; first | refine ⟨_, q_load_own rfl rfl rfl rfl (by (repeat constructor)) (by first | rfl | assumption), ?_⟩ | refine ⟨_, q_loadA_own rfl rfl rfl rfl (by (repeat constructor)) (by rfl), ?_⟩ | refine ⟨_, q_loadA_ext rfl rfl rfl rfl ⟨by assumption, (by first | exact id | assumption)⟩ (by rfl), ?_⟩ | refine ⟨_, q_load_ext rfl rfl rfl rfl ⟨by assumption, (by first | exact id | assumption)⟩ (by first | rfl | assumption), ?_⟩ | refine ⟨_, q_load_extb rfl rfl rfl rfl ⟨by assumption, (by first | exact id | assumption)⟩ (by rfl), ?_⟩ | refine ⟨_, q_loadA_extb rfl rfl rfl rfl ⟨by assumption, (by first | exact id | assumption)⟩ (by rfl), ?_⟩ | refine ⟨_, q_load_ext0 rfl rfl rfl rfl ⟨by assumption, (by first | exact id | assumption)⟩ (by rfl), ?_⟩) | (refine gcall rfl rfl ?_; first | (refine j_qc (f := 33) rfl rfl rfl rfl rfl rfl rfl ?_; refine ⟨_, (fun w' hs => check_c B bc hol d w' hhl (hH.st hs)), ?_⟩)) | (refine gF ?_; first | refine j_store rfl rfl rfl rfl rfl rfl rfl rfl (by (repeat constructor)) (by rfl) ?_ | (refine j_alloc rfl rfl rfl rfl rfl ?_; intro b) | (refine j_box rfl rfl rfl rfl rfl ?_; intro b))) | (refine gSC ?_; first | refine sc_mv rfl ?_ | refine sc_q rfl ?_ | refine sc_region ?_) | (refine gSQ ?_; first | refine sq_go rfl ?_ | refine sq_mv rfl ?_ | refine sq_ende (by first | exact .inl rfl | exact .inr rfl) rfl rfl ⟨_, (RVs.cons (RV.tmp rfl) (RVs.cons (RV.tmp rfl) (RVs.nil))), ?_⟩) | refine j_nil ?_ | ((refine sc_cond rfl ?_ ?_) <;> intro hc <;> (first | exact absurd hc (by decide) | ((try simp only [engHC] at hc) <;> first | (exfalso; omega) | exact absurd trivial hc | skip))))
    (intro w' hS; refine ⟨?_, hS.below⟩; simp only [pack])
end Go.Proofs.Ytbejfbekamikpaa
