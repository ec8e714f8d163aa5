/-
  In one text: Rsu, Rwp.
-/
import Derived.Test.YtmakokbpadmfbaaGreatRst
import Derived.Test.YtmakokbpadmfbaaGreatSml
/-
  letterbagref40, letterbagref41: Promise, outcome, Judge, Verdict.
-/
namespace Go.Proofs.YtmakokbpadmfbaaGreat
open Go.RowKit Eng
set_option linter.unusedVariables false
set_option linter.unusedSimpArgs false
set_option maxHeartbeats 8000000
attribute [local irreducible] SC SQ J Qt Calls Iterates LSub FSub
theorem rProm_c (A : Option Addr) (c : Nat) (l : List Sd) (cl fr to ac : Int) (w : World) (hl : l.length ≤ 9223372036854775807) (hcl : ∀ x ∈ l, 0 ≤ x.cl) (ha : -9223372036854775808 ≤ ac ∧ ac ≤ 9223372036854775807) (h : RS w 4 sdC A l) :
    Calls Tryz.prog 102 #[.slice A l.length c, .int .u8 cl, .int .i64 fr, .int .i64 to, .int .i64 ac] w fun e w' => e = .returned (.tuple #[.int .i64 (promF l cl fr to ac).1, .int .i64 (promF l cl fr to ac).2]) ∧ Below w.heap.size w w' := by
  have hR := fun w' h' => rRight_c A c l w' hl hcl h'
  have hok := fun h => (sdsB_ok (l := l) h).2
  unfold promF
  generalize sdsB l = R at *
  have hm : R = true → ∀ x ∈ l, 0 ≤ x.mi ∧ x.mi ≤ 100000 := fun h1 x hx => by have := hok h1 x hx; unfold okSd at this; omega
  clear hok
  generalize hn : l.length = n at *
  cases R
  · refine eng_start (n := 75) (args := [.slice A n c, .int .u8 cl, .int .i64 fr, .int .i64 to, .int .i64 ac]) tab tab_ok fns fns_ok [.tmp 10, .tmp 11] Tryz.func102 rfl rfl rfl rfl ?_
    repeat' (first | (refine gJ ?_; first | refine js rfl rfl rfl rfl ?_ | (refine gcall rfl rfl ?_; (refine j_qc (f := 81) rfl rfl rfl rfl rfl rfl rfl ?_; refine ⟨_, (fun w' hs => hR w' (h.st hs)), ?_⟩))) | (refine gSC ?_; first | refine sc_mv rfl ?_ | refine sc_q rfl ?_ | refine sc_region ?_) | (refine gSQ ?_; first | refine sq_go rfl ?_ | refine sq_mv rfl ?_ | refine sq_ende (by first | exact .inl rfl | exact .inr rfl) rfl rfl ⟨_, (RVs.cons (RV.tmp rfl) (RVs.cons (RV.tmp rfl) (RVs.nil))), ?_⟩) | refine j_nil ?_ | ((first | refine j_guard rfl rfl rfl rfl rfl ?_ ?_ | refine sc_cond rfl ?_ ?_) <;> intro hc <;> (first | exact absurd hc (by decide) | ((try simp only [engHC] at hc) <;> skip))))
    all_goals ((intro w' hS; refine ⟨?_, hS.below⟩; simp only [pack]); rfl)
  by_cases ha0 : 0 ≤ ac
  · rw [if_pos ⟨rfl, ha0⟩]
    obtain ⟨fd, hfd⟩ : ∃ fd, fd = l.find? (sdIs cl fr to) := ⟨_, rfl⟩
    rw [← hfd]
    refine eng_start (n := 75) (args := [.slice A n c, .int .u8 cl, .int .i64 fr, .int .i64 to, .int .i64 ac]) tab tab_ok fns fns_ok [.tmp 10, .tmp 11] Tryz.func102 rfl rfl rfl rfl ?_
    repeat' (first | (refine gJ ?_; first | refine js rfl rfl rfl rfl ?_ | (refine gcall rfl rfl ?_; (refine j_qc (f := 81) rfl rfl rfl rfl rfl rfl rfl ?_; refine ⟨_, (fun w' hs => hR w' (h.st hs)), ?_⟩))) | (refine gSC ?_; first | refine sc_mv rfl ?_ | refine sc_q rfl ?_ | refine sc_region ?_) | (refine gSQ ?_; refine sq_go rfl ?_) | refine j_nil ?_ | ((first | refine j_guard rfl rfl rfl rfl rfl ?_ ?_ | refine sc_cond rfl ?_ ?_) <;> intro hc <;> (first | exact absurd hc (by decide) | ((try simp only [engHC] at hc) <;> first | (exfalso; omega) | skip))))
    refine sc_loop (ι := Nat) (fun i => i ≤ n ∧ fd = (l.drop i).find? (sdIs cl fr to)) (fun i => n - i) (fun i => [(0, .slice A n c), (1, .int .u8 cl), (2, .int .i64 fr), (3, .int .i64 to), (4, .int .i64 ac), (12, .int .i64 i)]) (fun _ => []) 0 ⟨by omega, hfd⟩ (by (try dsimp only); exact (by repeat (first | exact FSub.nil | refine FSub.cons rfl ?_ | refine FSub.conse rfl (by congr 1; omega) ?_))) (by repeat (first | exact LSub.refl | refine LSub.cons (by repeat (first | exact Rem.here | apply Rem.there)) ?_ | apply LSub.skip)) ?_
    rintro i ⟨hi, hr⟩
    dsimp only at hi hr ⊢
    by_cases hlt : i < n
    · obtain ⟨x, hx⟩ : ∃ x, l[i]? = some x := ⟨_, List.getElem?_eq_getElem (by omega)⟩
      obtain ⟨ad, rfl, hX⟩ := h i x hx
      have hmi := hm rfl x (List.mem_of_getElem? hx)
      rw [drop_cons hx, List.find?_cons] at hr
      by_cases hk : x.cl = cl ∧ x.fr = fr ∧ x.to = to
      · rw [show sdIs cl fr to x = true from decide_eq_true hk] at hr
        dsimp only at hr
        rw [hr]
        dsimp only
        obtain ⟨k1, k2, k3⟩ := hk
        obtain ⟨p, hp⟩ : ∃ p, p = prT x ac := ⟨_, rfl⟩
        rw [← hp]
        unfold prT at hp
        repeat' (first | (refine gJ ?_; first | refine js rfl rfl rfl rfl ?_ | (refine gload rfl rfl ?_; refine j_qe rfl rfl rfl ?_; refine ⟨_, q_load_ext rfl rfl rfl rfl ⟨by assumption, (by first | exact id | assumption)⟩ (by first | rfl | assumption), ?_⟩) | refine jar rfl rfl rfl rfl rfl rfl rfl (by omega) ?_ | (refine j_qe rfl rfl rfl ?_; first | refine ⟨_, q_index_nat rfl rfl rfl rfl rfl (by omega), ?_⟩ | refine ⟨_, q_len_slice rfl rfl rfl rfl, ?_⟩ | refine ⟨_, q_field_ext rfl rfl rfl rfl rfl, ?_⟩ | refine ⟨_, q_quo rfl rfl rfl (by omega), ?_⟩)) | (refine gSC ?_; first | refine sc_mv rfl ?_ | refine sc_q rfl ?_ | refine sc_region ?_) | (refine gSQ ?_; first | refine sq_go rfl ?_ | refine sq_mv rfl ?_ | refine sq_ende (by first | exact .inl rfl | exact .inr rfl) rfl rfl ⟨_, (RVs.cons (RV.tmp rfl) (RVs.cons (RV.tmp rfl) (RVs.nil))), ?_⟩) | refine j_nil ?_ | ((first | refine j_guard rfl rfl rfl rfl rfl ?_ ?_ | refine sc_cond rfl ?_ ?_) <;> intro hc <;> (first | exact absurd hc (by decide) | ((try simp only [engHC] at hc) <;> first | (exfalso; omega) | skip))))
        all_goals
          (intro w' hS; refine ⟨?_, hS.below⟩; simp only [pack])
          first
            | rw [if_pos (by omega)]
            | rw [if_neg (by omega), if_pos (by omega)]
            | (rw [if_neg (by omega), if_neg (by omega)]; congr; omega)
      · rw [show sdIs cl fr to x = false from decide_eq_false hk] at hr
        dsimp only at hr
        repeat' (first | (refine gJ ?_; first | refine js rfl rfl rfl rfl ?_ | (refine gload rfl rfl ?_; refine j_qe rfl rfl rfl ?_; refine ⟨_, q_load_ext rfl rfl rfl rfl ⟨by assumption, (by first | exact id | assumption)⟩ (by first | rfl | assumption), ?_⟩) | refine jar rfl rfl rfl rfl rfl rfl rfl (by omega) ?_ | (refine j_qe rfl rfl rfl ?_; first | refine ⟨_, q_index_nat rfl rfl rfl rfl rfl (by omega), ?_⟩ | refine ⟨_, q_len_slice rfl rfl rfl rfl, ?_⟩ | refine ⟨_, q_field_ext rfl rfl rfl rfl rfl, ?_⟩)) | (refine gSC ?_; first | refine sc_mv rfl ?_ | refine sc_q rfl ?_ | refine sc_region ?_) | (refine gSQ ?_; first | refine sq_go rfl ?_ | refine sq_mv rfl ?_) | refine j_nil ?_ | ((first | refine j_guard rfl rfl rfl rfl rfl ?_ ?_ | refine sc_cond rfl ?_ ?_) <;> intro hc <;> (first | exact absurd hc (by decide) | ((try simp only [engHC] at hc) <;> first | (exfalso; omega) | skip))))
        all_goals first
          | exact sq_loop (i + 1) ⟨by show i + 1 ≤ n; omega, hr⟩ (by show n - (i + 1) < n - i; omega) (by (try dsimp only); exact (by repeat (first | exact FSub.nil | refine FSub.cons rfl ?_ | refine FSub.conse rfl (by congr 1; omega) ?_))) (by repeat (first | exact LSub.refl | refine LSub.cons (by repeat (first | exact Rem.here | apply Rem.there)) ?_ | apply LSub.skip))
          | (exfalso; omega)
    · rw [List.drop_of_length_le (by omega)] at hr
      repeat' (first | (refine gJ ?_; first | refine js rfl rfl rfl rfl ?_ | (refine j_qe rfl rfl rfl ?_; refine ⟨_, q_len_slice rfl rfl rfl rfl, ?_⟩)) | (refine gSC ?_; first | refine sc_mv rfl ?_ | refine sc_q rfl ?_ | refine sc_region ?_) | (refine gSQ ?_; first | refine sq_go rfl ?_ | refine sq_mv rfl ?_ | refine sq_ende (by first | exact .inl rfl | exact .inr rfl) rfl rfl ⟨_, (RVs.cons (RV.tmp rfl) (RVs.cons (RV.tmp rfl) (RVs.nil))), ?_⟩) | refine j_nil ?_ | ((refine sc_cond rfl ?_ ?_) <;> intro hc <;> (((try simp only [engHC] at hc) <;> first | (exfalso; omega) | skip))))
      (intro w' hS; refine ⟨?_, hS.below⟩; simp only [pack])
      rw [hr]
      rfl
  · rw [if_neg (fun g => ha0 g.2)]
    refine eng_start (n := 75) (args := [.slice A n c, .int .u8 cl, .int .i64 fr, .int .i64 to, .int .i64 ac]) tab tab_ok fns fns_ok [.tmp 10, .tmp 11] Tryz.func102 rfl rfl rfl rfl ?_
    repeat' (first | (refine gJ ?_; first | refine js rfl rfl rfl rfl ?_ | (refine gcall rfl rfl ?_; (refine j_qc (f := 81) rfl rfl rfl rfl rfl rfl rfl ?_; refine ⟨_, (fun w' hs => hR w' (h.st hs)), ?_⟩))) | (refine gSC ?_; first | refine sc_mv rfl ?_ | refine sc_q rfl ?_ | refine sc_region ?_) | (refine gSQ ?_; first | refine sq_go rfl ?_ | refine sq_mv rfl ?_ | refine sq_ende (by first | exact .inl rfl | exact .inr rfl) rfl rfl ⟨_, (RVs.cons (RV.tmp rfl) (RVs.cons (RV.tmp rfl) (RVs.nil))), ?_⟩) | refine j_nil ?_ | ((first | refine j_guard rfl rfl rfl rfl rfl ?_ ?_ | refine sc_cond rfl ?_ ?_) <;> intro hc <;> (first | exact absurd hc (by decide) | ((try simp only [engHC] at hc) <;> first | (exfalso; omega) | skip))))
    all_goals (intro w' hS; refine ⟨?_, hS.below⟩; simp only [pack])
theorem by_c (x : Sn) (now : Int) (w : World) : Calls Tryz.prog 91 #[snV x, .int .i64 now] w fun e w' => e = .returned (.bool (delB x now)) ∧ Below w.heap.size w w' := by
  refine eng_start (n := 14) (args := [snV x, .int .i64 now]) tab tab_ok fns fns_ok [.tmp 4] Tryz.func91 rfl rfl rfl rfl ?_
  repeat' (first | (refine gJ ?_; first | refine js rfl rfl rfl rfl ?_ | (refine gload rfl rfl ?_; refine j_qe rfl rfl rfl ?_; refine ⟨_, q_load_own rfl rfl rfl rfl (by (repeat constructor)) (by first | rfl | assumption), ?_⟩) | refine jfield rfl rfl rfl rfl rfl rfl rfl rfl ?_ | (refine gF ?_; (refine j_box rfl rfl rfl rfl rfl ?_; intro b))) | (refine gSC ?_; first | refine sc_mv rfl ?_ | refine sc_q rfl ?_ | refine sc_region ?_) | (refine gSQ ?_; first | refine sq_go rfl ?_ | refine sq_ende (by first | exact .inl rfl | exact .inr rfl) rfl rfl ⟨_, (RVs.cons (RV.tmp rfl) (RVs.nil)), ?_⟩) | refine j_nil ?_ | ((refine j_guard rfl rfl rfl rfl rfl ?_ ?_) <;> intro hc <;> (first | exact absurd hc (by decide) | ((try simp only [engHC] at hc) <;> skip))))
  all_goals ((intro w' hS; refine ⟨?_, hS.below⟩; simp only [pack]); exact rb (by unfold delB; symm; first | (rw [decide_eq_true_eq]; omega) | (rw [decide_eq_false_iff_not]; omega) | (rw [decide_eq_decide]; omega)))
theorem outc_c (A : Option Addr) (c : Nat) (l : List Sd) (x : Sn) (now : Int) (w : World) (hl : l.length ≤ 9223372036854775807) (hcl : ∀ x ∈ l, 0 ≤ x.cl) (ha : -9223372036854775808 ≤ x.ac ∧ x.ac ≤ 9223372036854775807) (h : RS w 4 sdC A l) :
    Calls Tryz.prog 83 #[.slice A l.length c, snV x, .int .i64 now] w fun e w' => e = .returned (.int .u8 (outF l x now)) ∧ Below w.heap.size w w' := by
  have hP := fun w' h' => rProm_c A c l x.cl x.fr x.to x.ac w' hl hcl ha h'
  unfold outF
  generalize (promF l x.cl x.fr x.to x.ac).1 = p at *
  generalize (promF l x.cl x.fr x.to x.ac).2 = e at *
  have hD := fun w' => by_c x now w'
  generalize delB x now = D at *
  generalize hn : l.length = n at *
  refine eng_start (n := 42) (args := [.slice A n c, snV x, .int .i64 now]) tab tab_ok fns fns_ok [.tmp 6] Tryz.func83 rfl rfl rfl rfl ?_
  cases D
  all_goals
    repeat' (first | (refine gJ ?_; first | refine js rfl rfl rfl rfl ?_ | (refine gload rfl rfl ?_; refine j_qe rfl rfl rfl ?_; first | refine ⟨_, q_load_own rfl rfl rfl rfl (by (repeat constructor)) (by first | rfl | assumption), ?_⟩ | refine ⟨_, q_loadA_own rfl rfl rfl rfl (by (repeat constructor)) (by rfl), ?_⟩) | refine jfield rfl rfl rfl rfl rfl rfl rfl rfl ?_ | (refine gcall rfl rfl ?_; first | (refine j_qc (f := 102) rfl rfl rfl rfl rfl rfl rfl ?_; refine ⟨_, (fun w' hs => hP w' (h.st hs)), ?_⟩) | (refine j_qc (f := 91) rfl rfl rfl rfl rfl rfl rfl ?_; refine ⟨_, (fun w' _ => hD w'), ?_⟩)) | (refine gF ?_; (refine j_box rfl rfl rfl rfl rfl ?_; intro b))) | (refine gSC ?_; first | refine sc_mv rfl ?_ | refine sc_q rfl ?_ | refine sc_region ?_) | (refine gSQ ?_; first | refine sq_go rfl ?_ | refine sq_mv rfl ?_ | refine sq_ende (by first | exact .inl rfl | exact .inr rfl) rfl rfl ⟨_, (RVs.cons (RV.tmp rfl) (RVs.nil)), ?_⟩) | refine j_nil ?_ | ((first | refine j_guard rfl rfl rfl rfl rfl ?_ ?_ | refine sc_cond rfl ?_ ?_) <;> intro hc <;> (first | exact absurd hc (by decide) | ((try simp only [engHC] at hc) <;> skip))))
    all_goals
      (intro w' hS; refine ⟨?_, hS.below⟩; simp only [pack])
      (repeat' split) <;> first | rfl | (exfalso; omega) | (exfalso; simp_all; done) | (exfalso; simp_all; omega)
theorem rJudge_c (A : Option Addr) (c : Nat) (l : List Sd) (x : Sn) (now : Int) (w : World) (hl : l.length ≤ 9223372036854775807) (hcl : ∀ x ∈ l, 0 ≤ x.cl) (hxc : 0 ≤ x.cl) (ha : -9223372036854775808 ≤ x.ac ∧ x.ac ≤ 9223372036854775807) (h : RS w 4 sdC A l) :
    Calls Tryz.prog 52 #[.slice A l.length c, snV x, .int .i64 now] w fun e w' => e = .returned (.tuple #[.int .u8 (judF l x now).1, .int .i64 (judF l x now).2]) ∧ Below w.heap.size w w' := by
  have hR := fun w' h' => rRight_c A c l w' hl hcl h'
  have hS := fun A1 w' h' => rSent_c A1 1 [x] w' (by simp) (fun y hy => by rw [List.mem_singleton] at hy; subst hy; exact hxc) h'
  have hJ := fun w' h' => outc_c A c l x now w' hl hcl ha h'
  unfold judF
  generalize outF l x now = O at *
  generalize sdsB l = R at *
  generalize sentB [x] = S at *
  generalize hn : l.length = n at *
  refine eng_start (n := 29) (args := [.slice A n c, snV x, .int .i64 now]) tab tab_ok fns fns_ok [.tmp 6, .tmp 7] Tryz.func52 rfl rfl rfl rfl ?_
  cases R <;> cases S <;> by_cases ht : timeI now
  all_goals
    have ht' := ht
    unfold timeI at ht'
    repeat' (first | (refine gJ ?_; first | refine js rfl rfl rfl rfl ?_ | (refine gload rfl rfl ?_; refine j_qe rfl rfl rfl ?_; refine ⟨_, q_loadA_own rfl rfl rfl rfl (by (repeat constructor)) (by rfl), ?_⟩) | (refine gcall rfl rfl ?_; first | (refine j_qc (f := 81) rfl rfl rfl rfl rfl rfl rfl ?_; refine ⟨_, (fun w' hs => hR w' (h.st hs)), ?_⟩) | (refine j_qc (f := 82) rfl rfl rfl rfl rfl rfl rfl ?_; refine ⟨_, (fun w' hs => hS (some ⟨b, 0, none⟩) w' (rs_lit (f := snC) _ (fun _ => rfl) hs (by (repeat constructor)) rfl)), ?_⟩) | (refine j_qc (f := 83) rfl rfl rfl rfl rfl rfl rfl ?_; refine ⟨_, (fun w' hs => hJ w' (h.st hs)), ?_⟩)) | (refine gF ?_; first | (refine j_box rfl rfl rfl rfl rfl ?_; intro b) | (refine j_buildSlice rfl rfl rfl rfl rfl rfl rfl rfl rfl rfl rfl rfl ?_; intro b))) | (refine gSC ?_; first | refine sc_mv rfl ?_ | refine sc_q rfl ?_ | refine sc_region ?_) | (refine gSQ ?_; first | refine sq_go rfl ?_ | refine sq_mv rfl ?_ | refine sq_ende (by first | exact .inl rfl | exact .inr rfl) rfl rfl ⟨_, (RVs.cons (RV.tmp rfl) (RVs.cons (RV.tmp rfl) (RVs.nil))), ?_⟩) | refine j_nil ?_ | ((first | refine j_guard rfl rfl rfl rfl rfl ?_ ?_ | refine sc_cond rfl ?_ ?_) <;> intro hc <;> (first | exact absurd hc (by decide) | ((try simp only [engHC] at hc) <;> first | (exfalso; omega) | skip))))
    all_goals first
      | (exfalso; omega)
      | ((intro w' hS; refine ⟨?_, hS.below⟩; simp only [pack])
         simp [ht])
theorem rVerd_c (r : Rw) (t : Int) (w : World) : Calls Tryz.prog 53 #[rwV r, .int .i64 t] w fun e w' => e = .returned (.tuple #[.int .u8 (verF r t).1, .int .i64 (verF r t).2]) ∧ Below w.heap.size w w' := by
  unfold verF
  refine eng_start (n := 20) (args := [rwV r, .int .i64 t]) tab tab_ok fns fns_ok [.tmp 4, .tmp 5] Tryz.func53 rfl rfl rfl rfl ?_
  repeat' (first | (refine gJ ?_; first | refine js rfl rfl rfl rfl ?_ | (refine gload rfl rfl ?_; refine j_qe rfl rfl rfl ?_; refine ⟨_, q_load_own rfl rfl rfl rfl (by (repeat constructor)) (by first | rfl | assumption), ?_⟩) | refine jfield rfl rfl rfl rfl rfl rfl rfl rfl ?_ | (refine gF ?_; (refine j_box rfl rfl rfl rfl rfl ?_; intro b))) | (refine gSC ?_; first | refine sc_mv rfl ?_ | refine sc_q rfl ?_ | refine sc_region ?_) | (refine gSQ ?_; first | refine sq_go rfl ?_ | refine sq_mv rfl ?_ | refine sq_ende (by first | exact .inl rfl | exact .inr rfl) rfl rfl ⟨_, (RVs.cons (RV.tmp rfl) (RVs.cons (RV.tmp rfl) (RVs.nil))), ?_⟩) | refine j_nil ?_ | ((first | refine j_guard rfl rfl rfl rfl rfl ?_ ?_ | refine sc_cond rfl ?_ ?_) <;> intro hc <;> (first | exact absurd hc (by decide) | ((try simp only [engHC] at hc) <;> skip))))
  all_goals
    (intro w' hS; refine ⟨?_, hS.below⟩; simp only [pack])
    first
      | rw [if_neg (by omega)]
      | rw [if_pos (by omega), if_pos (by omega)]
      | rw [if_pos (by omega), if_neg (by omega), if_pos (by omega)]
      | rw [if_pos (by omega), if_neg (by omega), if_neg (by omega)]
end Go.Proofs.YtmakokbpadmfbaaGreat

/-
  The reference's rows, plain: the least lane behind the last one is the next of the sorted lanes.
-/
namespace Go.Proofs.YtmakokbpadmfbaaGreat
open Go.RowKit Eng
set_option linter.unusedVariables false
set_option linter.unusedSimpArgs false
set_option maxHeartbeats 8000000
attribute [local irreducible] SC SQ J Qt Calls Iterates LSub FSub
theorem lnLt_trans {a c d : Lane} (h1 : lnLt a c) (h2 : lnLt c d) : lnLt a d := by
  unfold lnLt at *
  omega
theorem lnLt_irr (a : Lane) : ¬ lnLt a a := by
  unfold lnLt
  omega
def behB (lo : Option Lane) (x : Lane) : Bool := match lo with
  | none => true
  | some k => decide (lnLt k x)
def ltO (x : Lane) (acc : Option Lane) : Bool := match acc with
  | none => true
  | some m => decide (lnLt x m)
def stB (lo acc : Option Lane) (x : Lane) : Option Lane := if (behB lo x && ltO x acc) = true then some x else acc
theorem fold_spec (lo : Option Lane) (L : List Lane) : (∀ x ∈ L, behB lo x = true → ∃ m, L.foldl (stB lo) none = some m ∧ ¬ lnLt x m) ∧ ∀ m, L.foldl (stB lo) none = some m → m ∈ L ∧ behB lo m = true := by
  have key : ∀ (L : List Lane) (P : List Lane) (acc : Option Lane), (∀ x ∈ P, behB lo x = true → ∃ m, acc = some m ∧ ¬ lnLt x m) → (∀ m, acc = some m → m ∈ P ∧ behB lo m = true) →
      (∀ x ∈ P ++ L, behB lo x = true → ∃ m, L.foldl (stB lo) acc = some m ∧ ¬ lnLt x m) ∧ ∀ m, L.foldl (stB lo) acc = some m → m ∈ P ++ L ∧ behB lo m = true := by
    intro L
    induction L with
    | nil => intro P acc h1 h2; rw [List.append_nil]; exact ⟨h1, h2⟩
    | cons y L ih =>
      intro P acc h1 h2
      rw [List.foldl_cons, show P ++ y :: L = (P ++ [y]) ++ L from by simp]
      apply ih
      · intro x hx hb
        rcases List.mem_append.1 hx with hx | hx
        · obtain ⟨m, e, hm⟩ := h1 x hx hb
          by_cases hc : (behB lo y && ltO y acc) = true
          · refine ⟨y, by unfold stB; rw [if_pos hc], fun hxy => ?_⟩
            rw [Bool.and_eq_true] at hc
            rw [e] at hc
            exact hm (lnLt_trans hxy (of_decide_eq_true hc.2))
          · exact ⟨m, by unfold stB; rw [if_neg hc, e], hm⟩
        · rw [List.mem_singleton] at hx
          subst hx
          by_cases hc : (behB lo x && ltO x acc) = true
          · exact ⟨x, by unfold stB; rw [if_pos hc], lnLt_irr x⟩
          · rw [Bool.and_eq_true, not_and] at hc
            have h3 := hc hb
            cases acc with
            | none => exact absurd rfl h3
            | some m => exact ⟨m, by unfold stB; rw [if_neg (by rw [Bool.and_eq_true, not_and]; exact hc)], fun h => h3 (decide_eq_true h)⟩
      · intro m hm
        unfold stB at hm
        split at hm
        · rename_i hc
          injection hm with hm
          subst hm
          rw [Bool.and_eq_true] at hc
          exact ⟨by simp, hc.1⟩
        · obtain ⟨g1, g2⟩ := h2 m hm
          exact ⟨List.mem_append.2 (.inl g1), g2⟩
  have := key L [] none (fun x hx => by simp at hx) (fun m hm => by cases hm)
  rwa [List.nil_append] at this
def loOf (K : List Lane) (k : Nat) : Option Lane := if k = 0 then none else K[k - 1]?
theorem next_lane {K L : List Lane} (hs : K.Pairwise lnLt) (hm : ∀ x, x ∈ K ↔ x ∈ L) {k : Nat} (hk : k ≤ K.length) : L.foldl (stB (loOf K k)) none = K[k]? := by
  obtain ⟨h1, h2⟩ := fold_spec (loOf K k) L
  have hp := List.pairwise_iff_getElem.1 hs
  have hbeh : ∀ j (hj : j < K.length), behB (loOf K k) K[j] = true ↔ k ≤ j := fun j hj => by
    unfold loOf
    by_cases h0 : k = 0
    · rw [if_pos h0, h0]
      exact ⟨fun _ => Nat.zero_le _, fun _ => rfl⟩
    · rw [if_neg h0, List.getElem?_eq_getElem (by omega)]
      unfold behB
      rw [decide_eq_true_eq]
      constructor
      · intro h
        by_cases hlt : j < k - 1
        · exact absurd (lnLt_trans h (hp j (k - 1) hj (by omega) hlt)) (lnLt_irr _)
        · by_cases he : j = k - 1
          · subst he
            exact absurd h (lnLt_irr _)
          · omega
      · intro h
        exact hp (k - 1) j (by omega) hj (by omega)
  by_cases hlt : k < K.length
  · obtain ⟨m, hm1, hm2⟩ := h1 K[k] ((hm _).1 (List.getElem_mem hlt)) ((hbeh k hlt).2 (Nat.le_refl _))
    obtain ⟨g1, g2⟩ := h2 m hm1
    obtain ⟨j, hj, rfl⟩ := List.getElem_of_mem ((hm m).2 g1)
    have hkj := (hbeh j hj).1 g2
    have : j = k := by
      by_cases he : k < j
      · exact absurd (hp k j hlt hj he) hm2
      · omega
    subst this
    rw [hm1, List.getElem?_eq_getElem hlt]
  · rw [List.getElem?_eq_none (by omega)]
    cases hr : L.foldl (stB (loOf K k)) none with
    | none => rfl
    | some m =>
      obtain ⟨g1, g2⟩ := h2 m hr
      obtain ⟨j, hj, rfl⟩ := List.getElem_of_mem ((hm m).2 g1)
      have := (hbeh j hj).1 g2
      omega
def rz : Rw := ⟨0, 0, 0, 0, 0, 0, 0, 0, 0⟩
def accR (acc : Option Lane) : Rw := match acc with
  | none => rz
  | some k => row0 k
def trS (pl : Bool) (x : Sn) : Sn := if pl = true then x else { x with fr := 0, to := 0 }
def ofB (pl : Bool) (x : Sn) : Lane := ⟨(trS pl x).cl, (trS pl x).fr, (trS pl x).to⟩
theorem ofB_true : ofB true = ofM := rfl
theorem ofB_false : ofB false = ofC := rfl
def rowsR (pl : Bool) (l : List Sd) (s : List Sn) (now : Int) : List Rw := (sortL (lanesO (of := ofB pl) s)).map fun k => rowAt (ofB pl) (fun x => outF l x now) s k
theorem rowAt_lane {of : Sn → Lane} {out : Sn → Int} (s : List Sn) (k : Lane) : (rowAt of out s k).cl = k.cl ∧ (rowAt of out s k).fr = k.fr ∧ (rowAt of out s k).to = k.to := by
  induction s using snoc_ind with
  | h0 => exact ⟨rfl, rfl, rfl⟩
  | h1 s x ih =>
    rw [rowAt_snoc]
    split
    · unfold cntR
      (repeat' split) <;> exact ih
    · exact ih
end Go.Proofs.YtmakokbpadmfbaaGreat
