/-
  In one text: Opl, Ocn, Ochg.
-/
import Derived.Test.YtmcmmmaffdenjaaAk5
import Derived.Test.YtmcmmmaffdenjaaLcm
/-
  Plain facts of chapter 35's laws.
-/
namespace Go.Proofs.Ytmcmmmaffdenjaa
open Go.RowKit Eng
set_option linter.unusedVariables false
set_option linter.unusedSimpArgs false
set_option maxHeartbeats 8000000
attribute [local irreducible] SC SQ J Qt Calls Iterates
theorem cov_prop (o : Od) (d : Int) : cov o d = true ↔ o.st ≤ d ∧ (o.kd = 1 ∨ d ≤ o.en) := by
  unfold cov
  rw [decide_eq_true_eq]
end Go.Proofs.Ytmcmmmaffdenjaa

/-
  OrderCancels.
-/
namespace Go.Proofs.Ytmcmmmaffdenjaa
open Go.RowKit Eng
set_option linter.unusedVariables false
set_option linter.unusedSimpArgs false
set_option maxHeartbeats 8000000
attribute [local irreducible] SC SQ J Qt Calls Iterates
abbrev neK (k : Int) : Od → Bool := fun x => decide (x.idn ≠ k)
def wantF (k : Int) (Q : List Od) : Int := ((Q.filter (neK k)).head?.map (·.idn)).getD 0
end Go.Proofs.Ytmcmmmaffdenjaa

/-
  OrderChanges.
-/
namespace Go.Proofs.Ytmcmmmaffdenjaa
open Go.RowKit Eng
set_option linter.unusedVariables false
set_option linter.unusedSimpArgs false
set_option maxHeartbeats 8000000
attribute [local irreducible] SC SQ J Qt Calls Iterates
theorem insB_head (x : Od) (R : List Od) : (insB x R).head? = some x ∨ (∃ y, R.head? = some y ∧ (insB x R).head? = some y) := by
  cases R with
  | nil => left; rfl
  | cons y R =>
    unfold insB
    split
    · right; exact ⟨y, rfl, rfl⟩
    · left; rfl
theorem fo_add {l : List Od} {o : Od} (h : okL (l ++ [o])) (hl : okL l) (p d : Int) :
    (¬ (o.frm = p ∧ cov o d = true) ∧ (fo (l ++ [o]) p d).idn = (fo l p d).idn) ∨ ((o.frm = p ∧ cov o d = true) ∧ ((fo (l ++ [o]) p d).idn = o.idn ∨ ((fo (l ++ [o]) p d).idn = (fo l p d).idn ∧ (fo l p d).idn ≠ 0))) := by
  have e : allF (l ++ [o]) p d = allS p d (allF l p d) o := by unfold allF; rw [List.foldl_append]; rfl
  have h1 := allF_head h p d
  have h2 := allF_head hl p d
  rw [e] at h1
  unfold allS at h1
  by_cases hc : o.frm = p ∧ cov o d = true
  · right
    refine ⟨hc, ?_⟩
    rw [if_pos hc] at h1
    have hh := insB_head o (allF l p d)
    rcases h1 with ⟨h1, _⟩ | ⟨R, h1, _⟩
    · rw [h1] at hh
      rcases hh with hh | ⟨y, _, hh⟩ <;> cases hh
    · rw [h1] at hh
      rcases hh with hh | ⟨y, hy, hh⟩
      · simp at hh; left; rw [hh]
      · simp at hh
        right
        rcases h2 with ⟨h2, _⟩ | ⟨R2, h2, h3⟩
        · rw [h2] at hy; cases hy
        · rw [h2] at hy
          simp at hy
          rw [hh, hy]
          exact ⟨rfl, by rw [hy] at h3; exact h3⟩
  · left
    refine ⟨hc, ?_⟩
    rw [if_neg hc] at h1
    rcases h1 with ⟨h1, a1⟩ | ⟨R, h1, _⟩ <;> rcases h2 with ⟨h2, a2⟩ | ⟨R2, h2, _⟩
    · rw [a1, a2]
    · rw [h1] at h2; cases h2
    · rw [h1] at h2; cases h2
    · rw [h1] at h2; injection h2 with h2; rw [h2]
theorem okL_snoc : ∀ {l : List Od} {o : Od}, okL l → okO o → (∀ x ∈ l, x.idn ≠ o.idn) → okL (l ++ [o])
  | [], o, _, h, _ => ⟨h, (fun x hx => by cases hx), trivial⟩
  | y :: l, o, hl, h, hn => by
    refine ⟨hl.1, fun x hx => ?_, okL_snoc hl.2.2 h fun x hx => hn x (List.mem_cons_of_mem _ hx)⟩
    rcases List.mem_append.1 hx with hx | hx
    · exact hl.2.1 x hx
    · rw [List.mem_singleton.1 hx]; exact fun e => hn y List.mem_cons_self e.symm
theorem built_ids {l : List Fm} : ∀ x ∈ builtF l, 1 ≤ x.idn ∧ x.idn ≤ 20 := fun x hx => by
  obtain ⟨i, _, _, h⟩ := blt_id (l.take 20) 0 x hx
  omega
theorem built_len (l : List Fm) : (builtF l).length ≤ 20 := by
  unfold builtF
  rw [bltL_len, List.length_take]
  omega
set_option maxHeartbeats 8000000 in
theorem Changes_k (K : Int) (A : Option Addr) (c : Nat) (l : List Fm) (f : Fm) (p d : Int) (w : World) (hK : (f.dy % 2 = 0 ∧ K = 999 - f.dy) ∨ (f.dy % 2 ≠ 0 ∧ K = 1000)) (hl : l.length ≤ 9223372036854775807) (hlc : l.length ≤ c) (hok : ∀ f ∈ l, fmOk f) (hf : fmOk f) (hp : 0 ≤ p ∧ p ≤ 255) (hd : 0 ≤ d ∧ d ≤ 255) (h : RS w 5 fmC A l) :
    Calls Try.prog 9 #[.slice A l.length c, .agg (fmC f).toArray, .int .u8 p, .int .u8 d] w fun e w' => e = .returned (.bool true) ∧ Below w.heap.size w w' := by
  have hB : ∀ w', RS w' 5 fmC A l → Calls Try.prog 31 #[.slice A l.length c] w' _ := fun w' h' => Built_c A c l w' hl hlc hok h'
  have hB1 : ∀ (A : Option Addr) (w' : World), RS w' 5 fmC A [f] → Calls Try.prog 31 #[.slice A 1 1] w' _ := fun A w' h' => Built_c A 1 [f] w' (by simp) (by simp) (fun x hx => by rw [List.mem_singleton.1 hx]; exact hf) h'
  have hdy : 0 ≤ f.dy ∧ f.dy ≤ 255 := hf.2.2.2.2
  have hbr := built_right hok
  have hrb := built_rightB hok
  have hids := built_ids (l := l)
  have hO5 := built_len l
  have hb1 : builtF [f] = [bltO 0 f] := rfl
  have ho0 : okO (bltO 0 f) := blt_ok 0 f hf (by omega)
  rw [hb1] at hB1
  generalize bltO 0 f = o0 at *
  generalize builtF l = O at *
  generalize hn : l.length = n at *
  have hPi : idI (1 + p % 6) := ⟨by omega, by omega⟩
  have hDi : dayI (d % 110) := ⟨by omega, by omega⟩
  obtain ⟨i0, f0, t0, s0, n0, k0⟩ := o0
  obtain ⟨o, hoo⟩ : ∃ o : Od, o = ⟨K, f0, t0, s0, n0, k0⟩ := ⟨_, rfl⟩
  have hoK : okO o := by
    rw [hoo]
    unfold okO idI at ho0 ⊢
    dsimp only at ho0 ⊢
    refine ⟨⟨by omega, ho0.1.2.1, ho0.1.2.2⟩, ho0.2⟩
  have hoidn : o.idn = K := by rw [hoo]
  have hne : ∀ x ∈ O, x.idn ≠ o.idn := fun x hx => by have := hids x hx; omega
  have hused : usedB O o.idn = false := by
    unfold usedB
    rw [List.any_eq_false]
    intro x hx
    simpa using hne x hx
  have hokM := okL_snoc hbr.2 hoK hne
  have hrM : rightB (O ++ [o]) = true := (rightB_iff _).2 ⟨by rw [List.length_append]; simp; omega, hokM⟩
  have hadd : ∀ (A : Option Addr) (c : Nat) (w : World), Sl A O.length c → RS w 6 odC A O → Calls Try.prog 35 #[.slice A O.length c, odV o] w fun e w' => ∃ v : Value, True ∧ e = .returned (.tuple #[v, .int .i64 0]) ∧ St w Cold [.own v 30 6 (O ++ [o]).length ((O ++ [o]).flatMap odC)] w' := fun A c w hs h => (Add_c A c O o w (by omega) hs h).mono fun e w' h9 => (by
      obtain ⟨v, h1, h2⟩ := h9.2.2.2 hrb hoK hused (by omega)
      exact ⟨v, trivial, h1, h2⟩)
  have hcan : ∀ (A : Option Addr) (c : Nat) (w : World), RS w 6 odC A (O ++ [o]) → Calls Try.prog 34 #[.slice A (O ++ [o]).length c, .int .i64 K] w fun e w' => ∃ v : Value, True ∧ e = .returned (.tuple #[v, .int .i64 0]) ∧ St w Cold [.own v 30 6 O.length (O.flatMap odC)] w' := fun A c w h => (Cancel_c A c (O ++ [o]) K w (by rw [List.length_append]; simp; omega) h).mono fun e w' h9 => (by
      obtain ⟨v, h1, h2⟩ := h9.2.2 hrM ⟨o, by simp, hoidn⟩
      have e1 : (O ++ [o]).filter (fun x => decide (x.idn ≠ K)) = O := by
        rw [List.filter_append, List.filter_eq_self.2 (fun x hx => decide_eq_true (by rw [← hoidn]; exact hne x hx))]
        simp [hoidn]
      rw [e1] at h2
      exact ⟨v, trivial, h1, h2⟩)
  have hin1 := fun A c w (h : RS w 6 odC A O) => in_ok (p := 1 + p % 6) (d := d % 110) A c w hrb hPi hDi h
  have hin2 := fun A c w (h : RS w 6 odC A (O ++ [o])) => in_ok (p := 1 + p % 6) (d := d % 110) A c w hrM hPi hDi h
  have hsame := fun A c B bc w (h1 : RS w 6 odC A O) (h2 : RS w 6 odC B O) => sameO_c A c B bc O w (by omega) h1 h2
  have hF := fo_add hokM hbr.2 (1 + p % 6) (d % 110)
  rw [cov_prop, hoidn, hoo] at hF
  dsimp only at hF
  rw [← hoo] at hF
  generalize (fo (O ++ [o]) (1 + p % 6) (d % 110)).idn = isv at *
  generalize (fo O (1 + p % 6) (d % 110)).idn = was at *
  have hml : (O ++ [o]).length = O.length + 1 := by simp
  generalize O ++ [o] = M at *
  clear hb1 hokM hrM hrb hbr hne hused
  have hdm : f.dy % 2 = 0 ∨ f.dy % 2 = 1 := by omega
  obtain ⟨y1, y2, y3, y4, dy⟩ := f
  dsimp only at hK hdy hdm
  refine eng_start (n := 138) (args := [.slice A n c, .agg #[.int .u8 y1, .int .u8 y2, .int .u8 y3, .int .u8 y4, .int .u8 dy], .int .u8 p, .int .u8 d]) tab tab_ok fns fns_ok [.tmp 8] Try.func9 rfl rfl rfl rfl ?_
  rcases hK with ⟨hK1, hK2⟩ | ⟨hK1, hK2⟩
  all_goals
    subst hK2
    repeat' (first | (refine gJ ?_; first | refine js rfl rfl rfl rfl ?_ | (refine gload rfl rfl ?_; refine j_qe rfl rfl rfl ?_; first | refine ⟨_, q_load_own rfl rfl rfl rfl (by (repeat constructor)) (by first | rfl | assumption), ?_⟩ | refine ⟨_, q_loadA_own rfl rfl rfl rfl (by (repeat constructor)) (by rfl), ?_⟩ | refine ⟨_, q_loadA_ext rfl rfl rfl rfl ⟨by assumption, (by first | exact id | assumption)⟩ (by rfl), ?_⟩ | refine ⟨_, q_load_ext rfl rfl rfl rfl ⟨by assumption, (by first | exact id | assumption)⟩ (by first | rfl | assumption), ?_⟩ | refine ⟨_, q_load_extb rfl rfl rfl rfl ⟨by assumption, (by first | exact id | assumption)⟩ (by rfl), ?_⟩ | refine ⟨_, q_loadA_extb rfl rfl rfl rfl ⟨by assumption, (by first | exact id | assumption)⟩ (by rfl), ?_⟩ | refine ⟨_, q_load_ext0 rfl rfl rfl rfl ⟨by assumption, (by first | exact id | assumption)⟩ (by rfl), ?_⟩) | refine jfield rfl rfl rfl rfl rfl rfl rfl rfl ?_ | refine jar rfl rfl rfl rfl rfl rfl rfl (by omega) ?_ | (refine gcall rfl rfl ?_; first | (refine j_qc (f := 32) rfl rfl rfl rfl rfl rfl rfl ?_; refine ⟨_, (fun w' hs => hin1 A0 c0 w' (rs_own (f := odC) (fun _ => rfl) hs (by (repeat constructor)) rfl rfl)), ?_⟩) | (refine j_qc (f := 32) rfl rfl rfl rfl rfl rfl rfl ?_; refine ⟨_, (fun w' hs => hin2 (some a1) c1 w' (rs_own (f := odC) (fun _ => rfl) hs (by (repeat constructor)) rfl rfl)), ?_⟩) | (refine j_qc (f := 29) rfl rfl rfl rfl rfl rfl rfl ?_; refine ⟨_, (fun w' hs => hsame A2 c2 A0 c0 w' (rs_own (f := odC) (fun _ => rfl) hs (by (repeat constructor)) rfl rfl) (rs_own (f := odC) (fun _ => rfl) hs (by (repeat constructor)) rfl rfl)), ?_⟩) | (refine j_qc (f := 19) rfl rfl rfl rfl rfl rfl rfl ?_; refine ⟨_, (fun w' _ => awake5_c w'), ?_⟩)) | (refine gcall rfl rfl ?_; refine gF ?_; refine j_callN (f := 31) rfl rfl rfl rfl rfl rfl rfl (fun v => v) (fun _ => True) (fun v => [.own v 30 6 O.length (O.flatMap odC)]) (fun w' hs => hB w' (h.st hs)) (fun _ => trivial) ?_; rintro v0 _; refine j_owns (v := v0) (by (repeat constructor)) ?_; rintro A0 c0 rfl hs0) | (refine gcall rfl rfl ?_; refine gF ?_; refine j_callN (f := 31) rfl rfl rfl rfl rfl rfl rfl (fun v => v) (fun _ => True) (fun v => [.own v 30 6 1 ([(⟨i0, f0, t0, s0, n0, k0⟩ : Od)].flatMap odC)]) (fun w' hs => hB1 _ w' (rs_lit (f := fmC) (e := 57) (fun _ => rfl) hs (by (repeat constructor)))) (fun _ => trivial) ?_; rintro v3 _; refine j_ownp (v := v3) (by (repeat constructor)) (by omega) ?_; rintro a3 c3 rfl hs3) | (refine j_qe rfl rfl rfl ?_; refine ⟨_, q_index_at 0 rfl rfl rfl rfl rfl (by omega), ?_⟩) | (refine j_qe rfl rfl rfl ?_; refine ⟨_, q_rowA (f := odC) (l := [(⟨i0, f0, t0, s0, n0, k0⟩ : Od)]) (i := 0) rfl rfl rfl rfl (by (repeat constructor)) (fun _ => rfl) rfl rfl, ?_⟩) | (refine gcall rfl rfl ?_; refine gF ?_; refine j_callN (f := 35) rfl rfl rfl rfl rfl rfl rfl (fun v => .tuple #[v, .int .i64 0]) (fun _ => True) (fun v => [.own v 30 6 M.length (M.flatMap odC)]) (fun w' hs => by have h9 := hadd A0 c0 w' hs0 (rs_own (f := odC) (fun _ => rfl) hs (by (repeat constructor)) rfl rfl); rw [hoo] at h9; exact h9) (fun _ => trivial) ?_; rintro v1 _; refine j_ownp (v := v1) (by (repeat constructor)) (by omega) ?_; rintro a1 c1 rfl hs1) | (refine gcall rfl rfl ?_; refine gF ?_; refine j_callN (f := 34) rfl rfl rfl rfl rfl rfl rfl (fun v => .tuple #[v, .int .i64 0]) (fun _ => True) (fun v => [.own v 30 6 O.length (O.flatMap odC)]) (fun w' hs => hcan (some a1) c1 w' (rs_own (f := odC) (fun _ => rfl) hs (by (repeat constructor)) rfl rfl)) (fun _ => trivial) ?_; rintro v2 _; refine j_owns (v := v2) (by (repeat constructor)) ?_; rintro A2 c2 rfl hs2) | (refine gF ?_; first | refine j_store rfl rfl rfl rfl rfl rfl rfl rfl (by (repeat constructor)) (by rfl) ?_ | (refine j_alloc rfl rfl rfl rfl rfl ?_; intro b) | (refine j_box rfl rfl rfl rfl rfl ?_; intro b) | (refine j_buildSlice rfl rfl rfl rfl rfl rfl rfl rfl rfl rfl rfl rfl ?_; intro b)) | (refine j_qe rfl rfl rfl ?_; first | refine ⟨_, q_index_nat rfl rfl rfl rfl rfl (by omega), ?_⟩ | refine ⟨_, q_index_slice rfl rfl rfl rfl rfl (by omega), ?_⟩ | refine ⟨_, q_index_arr rfl rfl rfl rfl rfl (by omega), ?_⟩ | refine ⟨_, q_index_arr_ext rfl rfl rfl rfl rfl (by omega), ?_⟩ | refine ⟨_, q_field_ext rfl rfl rfl rfl rfl, ?_⟩ | refine ⟨_, q_rem rfl rfl rfl (by omega), ?_⟩ | refine ⟨_, q_remt rfl rfl rfl (by omega), ?_⟩ | refine ⟨_, q_addu8 rfl rfl rfl (by omega), ?_⟩ | refine ⟨_, q_conv rfl rfl rfl rfl rfl rfl (by first | rfl | (exact i64_wrap (by omega) (by omega)) | (exact u8_wrap (by omega) (by omega)) | (exact u64_wrap (by omega) (by omega)) | (exact u16_wrap (by omega) (by omega))), ?_⟩) | refine j_guard_undef rfl rfl rfl rfl rfl ?_) | (refine gSC ?_; first | refine sc_mv rfl ?_ | refine sc_q rfl ?_ | refine sc_region ?_) | (refine gSQ ?_; first | refine sq_go rfl ?_ | refine sq_mv rfl ?_ | refine sq_ende (by first | exact .inl rfl | exact .inr rfl) rfl rfl ⟨_, (RVs.cons (RV.tmp rfl) (RVs.nil)), ?_⟩) | refine j_nil ?_ | ((first | refine j_guard rfl rfl rfl rfl rfl ?_ ?_ | refine sc_cond rfl ?_ ?_) <;> intro hc <;> (first | exact absurd hc (by decide) | ((try simp only [engHC] at hc) <;> first | (exfalso; omega) | exact absurd trivial hc | skip))))
  all_goals (intro w' hS; refine ⟨?_, hS.below⟩; simp only [pack])
theorem Changes_c (A : Option Addr) (c : Nat) (l : List Fm) (f : Fm) (p d : Int) (w : World) (hl : l.length ≤ 9223372036854775807) (hlc : l.length ≤ c) (hok : ∀ f ∈ l, fmOk f) (hf : fmOk f) (hp : 0 ≤ p ∧ p ≤ 255) (hd : 0 ≤ d ∧ d ≤ 255) (h : RS w 5 fmC A l) :
    Calls Try.prog 9 #[.slice A l.length c, .agg (fmC f).toArray, .int .u8 p, .int .u8 d] w fun e w' => e = .returned (.bool true) ∧ Below w.heap.size w w' := by
  by_cases h2 : f.dy % 2 = 0
  · exact Changes_k (999 - f.dy) A c l f p d w (.inl ⟨h2, rfl⟩) hl hlc hok hf hp hd h
  · exact Changes_k 1000 A c l f p d w (.inr ⟨h2, rfl⟩) hl hlc hok hf hp hd h
end Go.Proofs.Ytmcmmmaffdenjaa
