/-
  In one text: Rc1, Rc2, Rc3.
-/
import Derived.Test.YtbejfbekamikpaaSta
import Derived.Test.YtbejfbekamikpaaVal
import Derived.Test.YtbejfbekamikpaaEngCoreB
/-
  letterbagref01: the calendar, gone through one by one.
-/
namespace Go.Proofs.Ytbejfbekamikpaa
open Go.RowKit Eng
set_option linter.unusedVariables false
set_option linter.unusedSimpArgs false
set_option maxHeartbeats 8000000
attribute [local irreducible] SC SQ J Qt Calls Iterates LSub FSub
theorem within_c (n m : Int) (w : World) : Calls Try.prog 105 #[.int .i64 n, .int .i64 m] w fun e w' => e = .returned (.int .i64 (if n < 0 then 2 else if m < n then 3 else 0)) ∧ Below w.heap.size w w' := by
  refine eng_start (n := 10) (args := [.int .i64 n, .int .i64 m]) tab tab_ok fns fns_ok [.tmp 4] Try.func105 rfl rfl rfl rfl ?_
  repeat' (first | (refine gJ ?_; first | refine js rfl rfl rfl rfl ?_) | (refine gSC ?_; first | refine sc_mv rfl ?_ | refine sc_q rfl ?_ | refine sc_region ?_) | (refine gSQ ?_; first | refine sq_go rfl ?_ | refine sq_mv rfl ?_ | refine sq_ende (by first | exact .inl rfl | exact .inr rfl) rfl rfl ⟨_, (RVs.cons (RV.tmp rfl) (RVs.nil)), ?_⟩) | refine j_nil ?_ | ((refine sc_cond rfl ?_ ?_) <;> intro hc <;> (first | exact absurd hc (by decide) | ((try simp only [engHC] at hc) <;> first | (exfalso; omega) | exact absurd trivial hc | skip))))
  all_goals ((intro w' hS; refine ⟨?_, hS.below⟩; simp only [pack]); exact ri (by (repeat' split) <;> omega))
theorem leapR_c (y : Int) (w : World) (h : 2001 ≤ y) (h2 : y ≤ 4001) :
    Calls Try.prog 106 #[.int .i64 y] w fun e w' => e = .returned (.bool (leapB y)) ∧ Below w.heap.size w w' := by
  refine eng_start (n := 16) (args := [.int .i64 y]) tab tab_ok fns fns_ok [.tmp 2] Try.func106 rfl rfl rfl rfl ?_
  repeat' (first | (refine gJ ?_; first | refine js rfl rfl rfl rfl ?_ | (refine j_qe rfl rfl rfl ?_; first | refine ⟨_, q_rem rfl rfl rfl (by omega), ?_⟩ | refine ⟨_, q_remt rfl rfl rfl (by omega), ?_⟩) | refine j_guard_undef rfl rfl rfl rfl rfl ?_) | (refine gSC ?_; first | refine sc_mv rfl ?_ | refine sc_q rfl ?_ | refine sc_region ?_) | (refine gSQ ?_; first | refine sq_go rfl ?_ | refine sq_mv rfl ?_ | refine sq_ende (by first | exact .inl rfl | exact .inr rfl) rfl rfl ⟨_, (RVs.cons (RV.tmp rfl) (RVs.nil)), ?_⟩) | refine j_nil ?_ | ((first | refine j_guard rfl rfl rfl rfl rfl ?_ ?_ | refine sc_cond rfl ?_ ?_) <;> intro hc <;> (first | exact absurd hc (by decide) | ((try simp only [engHC] at hc) <;> first | (exfalso; omega) | exact absurd trivial hc | skip))))
  all_goals ((intro w' hS; refine ⟨?_, hS.below⟩; simp only [pack]); refine rb ?_; simp [leapB, *]; try omega)
theorem md_eq (m : Int) (lp : Bool) (h1 : 1 ≤ m) (h2 : m ≤ 12) : mdF m lp = if m = 2 then (if lp then 29 else 28) else if m = 4 ∨ m = 6 ∨ m = 9 ∨ m = 11 then 30 else 31 := by
  have : m = 1 ∨ m = 2 ∨ m = 3 ∨ m = 4 ∨ m = 5 ∨ m = 6 ∨ m = 7 ∨ m = 8 ∨ m = 9 ∨ m = 10 ∨ m = 11 ∨ m = 12 := by omega
  rcases this with rfl|rfl|rfl|rfl|rfl|rfl|rfl|rfl|rfl|rfl|rfl|rfl <;> cases lp <;> decide
theorem longR_c (y m : Int) (w : World) {lp : Bool} (hlp : leapB y = lp) (h : 2001 ≤ y) (h2 : y ≤ 4001) (h1 : 1 ≤ m) (h3 : m ≤ 12) :
    Calls Try.prog 107 #[.int .i64 y, .int .i64 m] w fun e w' => e = .returned (.int .i64 (mdF m lp)) ∧ Below w.heap.size w w' := by
  rw [md_eq m lp h1 h3]
  cases lp
  all_goals
    refine eng_start (n := 15) (args := [.int .i64 y, .int .i64 m]) tab tab_ok fns fns_ok [.tmp 4] Try.func107 rfl rfl rfl rfl ?_
    repeat' (first | (refine gJ ?_; first | refine js rfl rfl rfl rfl ?_ | (refine gcall rfl rfl ?_; first | (refine j_qc (f := 106) rfl rfl rfl rfl rfl rfl rfl ?_; refine ⟨_, (fun w' _ => hlp ▸ leapR_c y w' h h2), ?_⟩))) | (refine gSC ?_; first | refine sc_mv rfl ?_ | refine sc_q rfl ?_ | refine sc_region ?_) | (refine gSQ ?_; first | refine sq_go rfl ?_ | refine sq_mv rfl ?_ | refine sq_ende (by first | exact .inl rfl | exact .inr rfl) rfl rfl ⟨_, (RVs.cons (RV.tmp rfl) (RVs.nil)), ?_⟩) | refine j_nil ?_ | ((refine sc_cond rfl ?_ ?_) <;> intro hc <;> (first | exact absurd hc (by decide) | ((try simp only [engHC] at hc) <;> first | (exfalso; omega) | exact absurd trivial hc | skip))))
    all_goals ((intro w' hS; refine ⟨?_, hS.below⟩; simp only [pack]); refine ri ?_; simp [*])
def dateB (m d : Int) : Bool := decide (1 ≤ m) && (decide (m ≤ 12) && (decide (1 ≤ d) && decide (d ≤ mdF m true)))
theorem dateR_c (m d : Int) (w : World) : Calls Try.prog 79 #[.int .i64 2004, .int .i64 m, .int .i64 d] w fun e w' => e = .returned (.bool (dateB m d)) ∧ Below w.heap.size w w' := by
  refine eng_start (n := 32) (args := [.int .i64 2004, .int .i64 m, .int .i64 d]) tab tab_ok fns fns_ok [.tmp 6] Try.func79 rfl rfl rfl rfl ?_
  repeat' (first | (refine gJ ?_; first | refine js rfl rfl rfl rfl ?_ | (refine gcall rfl rfl ?_; first | (refine j_qc (f := 107) rfl rfl rfl rfl rfl rfl rfl ?_; refine ⟨_, (fun w' _ => longR_c 2004 m w' (lp := true) (by decide) (by omega) (by omega) (by omega) (by omega)), ?_⟩)) | refine j_guard_undef rfl rfl rfl rfl rfl ?_) | (refine gSC ?_; first | refine sc_mv rfl ?_ | refine sc_q rfl ?_ | refine sc_region ?_) | (refine gSQ ?_; first | refine sq_go rfl ?_ | refine sq_mv rfl ?_ | refine sq_ende (by first | exact .inl rfl | exact .inr rfl) rfl rfl ⟨_, (RVs.cons (RV.tmp rfl) (RVs.nil)), ?_⟩) | refine j_nil ?_ | ((first | refine j_guard rfl rfl rfl rfl rfl ?_ ?_ | refine sc_cond rfl ?_ ?_) <;> intro hc <;> (first | exact absurd hc (by decide) | ((try simp only [engHC] at hc) <;> first | (exfalso; omega) | exact absurd trivial hc | skip))))
  all_goals ((intro w' hS; refine ⟨?_, hS.below⟩; simp only [pack]); refine rb ?_; simp [dateB, *])
theorem date_yd (n : Int) : dateB (n.tdiv 100) (n.tmod 100) = ydB n := by
  by_cases h : 0 < n
  · rw [Int.tdiv_eq_ediv_of_nonneg (by omega), Int.tmod_eq_emod_of_nonneg (by omega)]
    simp [dateB, ydB, h]
  · have h2 : n.tdiv 100 ≤ 0 := by
      have := Int.tdiv_nonneg (a := -n) (b := 100) (by omega) (by omega)
      rw [Int.neg_tdiv] at this
      omega
    have h3 : ¬ (1 : Int) ≤ n.tdiv 100 := by omega
    simp [dateB, ydB, h, h3]
theorem dayNo_c (d : Int) (w : World) (h : checkDayF d ≠ 0) :
    Calls Try.prog 78 #[.int .i64 d] w fun e w' => e = .returned (.tuple #[.int .i64 0, .int .i64 0, .int .i64 0, .int .i64 (checkDayF d)]) ∧ Below w.heap.size w w' := by
  have hwi : ∀ w, Calls Try.prog 105 #[.int .i64 d, .int .i64 730484] w fun e w' => e = .returned (.int .i64 (checkDayF d)) ∧ Below w.heap.size w w' := fun w => within_c d 730484 w
  refine eng_start (n := 41) (args := [.int .i64 d]) tab tab_ok fns fns_ok [.tmp 2, .tmp 3, .tmp 4, .tmp 5] Try.func78 rfl rfl rfl rfl ?_
  repeat' (first | (refine gJ ?_; first | refine js rfl rfl rfl rfl ?_ | refine jar rfl rfl rfl rfl rfl rfl rfl (by omega) ?_ | (refine gcall rfl rfl ?_; first | (refine j_qc (f := 105) rfl rfl rfl rfl rfl rfl rfl ?_; refine ⟨_, (fun w _ => hwi w), ?_⟩)) | (refine j_qe rfl rfl rfl ?_; first | refine ⟨_, q_addu8 rfl rfl rfl (by omega), ?_⟩)) | (refine gSC ?_; first | refine sc_mv rfl ?_ | refine sc_q rfl ?_ | refine sc_region ?_) | (refine gSQ ?_; first | refine sq_go rfl ?_ | refine sq_mv rfl ?_ | refine sq_ende (by first | exact .inl rfl | exact .inr rfl) rfl rfl ⟨_, (RVs.cons (RV.tmp rfl) (RVs.cons (RV.tmp rfl) (RVs.cons (RV.tmp rfl) (RVs.cons (RV.tmp rfl) (RVs.nil))))), ?_⟩) | refine j_nil ?_ | ((refine sc_cond rfl ?_ ?_) <;> intro hc <;> (first | exact absurd hc (by decide) | ((try simp only [engHC] at hc) <;> first | (exfalso; omega) | exact absurd trivial hc | skip))))
  (intro w' hS; refine ⟨?_, hS.below⟩; simp only [pack])
theorem dayR_c (d : Int) (w : World) (h0 : 0 ≤ d) (h1 : d ≤ 730484) :
    Calls Try.prog 78 #[.int .i64 d] w fun e w' => e = .returned (.tuple #[.int .i64 (yrF d), .int .i64 (mthF d), .int .i64 (dayF d), .int .i64 0]) ∧ Below w.heap.size w w' := by
  have hck : checkDayF d = 0 := by unfold checkDayF; (repeat' split) <;> omega
  have hwi : ∀ w, Calls Try.prog 105 #[.int .i64 d, .int .i64 730484] w fun e w' => e = .returned (.int .i64 0) ∧ Below w.heap.size w w' := fun w => hck ▸ within_c d 730484 w
  have hy0 : ysF 2001 = 0 := by decide
  have hyl : ysF 4001 = 730485 := by decide
  refine eng_start (n := 41) (args := [.int .i64 d]) tab tab_ok fns fns_ok [.tmp 2, .tmp 3, .tmp 4, .tmp 5] Try.func78 rfl rfl rfl rfl ?_
  repeat' (first | (refine gJ ?_; first | refine js rfl rfl rfl rfl ?_ | refine jar rfl rfl rfl rfl rfl rfl rfl (by omega) ?_ | (refine gcall rfl rfl ?_; first | (refine j_qc (f := 105) rfl rfl rfl rfl rfl rfl rfl ?_; refine ⟨_, (fun w _ => hwi w), ?_⟩)) | (refine j_qe rfl rfl rfl ?_; first | refine ⟨_, q_addu8 rfl rfl rfl (by omega), ?_⟩)) | (refine gSC ?_; first | refine sc_mv rfl ?_ | refine sc_q rfl ?_ | refine sc_region ?_) | (refine gSQ ?_; first | refine sq_go rfl ?_ | refine sq_mv rfl ?_ | refine sq_ende (by first | exact .inl rfl | exact .inr rfl) rfl rfl ⟨_, (RVs.cons (RV.tmp rfl) (RVs.cons (RV.tmp rfl) (RVs.cons (RV.tmp rfl) (RVs.cons (RV.tmp rfl) (RVs.nil))))), ?_⟩) | refine j_nil ?_ | ((refine sc_cond rfl ?_ ?_) <;> intro hc <;> (first | exact absurd hc (by decide) | ((try simp only [engHC] at hc) <;> first | (exfalso; omega) | exact absurd trivial hc | skip))))
  refine sc_loop (ι := Int) (fun y => 2001 ≤ y ∧ y ≤ 4000 ∧ ysF y ≤ d) (fun y => (5000 - y).toNat) (fun y => [(0, .int .i64 (d - ysF y)), (7, .int .i64 y), (8, .int .i64 1)]) (fun _ => []) 2001 ⟨by omega, by omega, by omega⟩ (by repeat (first | exact FSub.nil | refine FSub.cons rfl ?_ | refine FSub.conse rfl (by congr 1; rw [hy0]; omega) ?_)) (by repeat (first | exact LSub.nil | refine LSub.cons (by repeat (first | exact Rem.here | apply Rem.there)) ?_)) ?_
  intro y ⟨a1, a2, a3⟩
  have hls := ys_succ y
  have hy1 := ys_mono 2001 y a1
  by_cases hy : ysF (y + 1) ≤ d
  · have hy4 : y < 4000 := by
      rcases Int.lt_or_le y 4000 with h | h
      · exact h
      · exfalso
        have e4 : y = 4000 := by omega
        subst e4
        have : ysF 4001 ≤ d := hy
        omega
    cases hlp : leapB y
    all_goals
      rw [hlp] at hls
      simp only [if_true, if_false, Bool.false_eq_true] at hls
      repeat' (first | (refine gJ ?_; first | refine js rfl rfl rfl rfl ?_ | refine jar rfl rfl rfl rfl rfl rfl rfl (by omega) ?_ | (refine gcall rfl rfl ?_; first | (refine j_qc (f := 106) rfl rfl rfl rfl rfl rfl rfl ?_; refine ⟨_, (fun w _ => hlp ▸ leapR_c y w a1 (by omega)), ?_⟩)) | (refine j_qe rfl rfl rfl ?_; first | refine ⟨_, q_addu8 rfl rfl rfl (by omega), ?_⟩)) | (refine gSC ?_; first | refine sc_mv rfl ?_ | refine sc_q rfl ?_ | refine sc_region ?_) | (refine gSQ ?_; first | refine sq_go rfl ?_ | refine sq_mv rfl ?_ | refine sq_ende (by first | exact .inl rfl | exact .inr rfl) rfl rfl ⟨_, (RVs.cons (RV.tmp rfl) (RVs.cons (RV.tmp rfl) (RVs.cons (RV.tmp rfl) (RVs.cons (RV.tmp rfl) (RVs.nil))))), ?_⟩) | refine j_nil ?_ | ((refine sc_cond rfl ?_ ?_) <;> intro hc <;> (first | exact absurd hc (by decide) | ((try simp only [engHC] at hc) <;> first | (exfalso; omega) | exact absurd trivial hc | skip))))
      refine sq_loop (y + 1) ⟨by omega, by omega, by omega⟩ (by omega) (by repeat (first | exact FSub.nil | refine FSub.cons rfl ?_ | refine FSub.conse rfl (by congr 1; omega) ?_)) (by repeat (first | exact LSub.nil | refine LSub.cons (by repeat (first | exact Rem.here | apply Rem.there)) ?_))
  · have hyr : yrF d = y := yr_uniq d y h0 h1 a3 (by omega)
    cases hlp : leapB y
    all_goals
      rw [hlp] at hls
      simp only [if_true, if_false, Bool.false_eq_true] at hls
      repeat' (first | (refine gJ ?_; first | refine js rfl rfl rfl rfl ?_ | refine jar rfl rfl rfl rfl rfl rfl rfl (by omega) ?_ | (refine gcall rfl rfl ?_; first | (refine j_qc (f := 106) rfl rfl rfl rfl rfl rfl rfl ?_; refine ⟨_, (fun w _ => hlp ▸ leapR_c y w a1 (by omega)), ?_⟩)) | (refine j_qe rfl rfl rfl ?_; first | refine ⟨_, q_addu8 rfl rfl rfl (by omega), ?_⟩)) | (refine gSC ?_; first | refine sc_mv rfl ?_ | refine sc_q rfl ?_ | refine sc_region ?_) | (refine gSQ ?_; first | refine sq_go rfl ?_ | refine sq_mv rfl ?_ | refine sq_ende (by first | exact .inl rfl | exact .inr rfl) rfl rfl ⟨_, (RVs.cons (RV.tmp rfl) (RVs.cons (RV.tmp rfl) (RVs.cons (RV.tmp rfl) (RVs.cons (RV.tmp rfl) (RVs.nil))))), ?_⟩) | refine j_nil ?_ | ((refine sc_cond rfl ?_ ?_) <;> intro hc <;> (first | exact absurd hc (by decide) | ((try simp only [engHC] at hc) <;> first | (exfalso; omega) | exact absurd trivial hc | skip))))
      clear hls
      obtain ⟨lq, hlq⟩ : ∃ lq, leapB y = lq := ⟨_, rfl⟩
      refine sc_loop (ι := Int) (fun m => 1 ≤ m ∧ m ≤ 12 ∧ cumF m lq ≤ d - ysF y) (fun m => (13 - m).toNat) (fun m => [(0, .int .i64 (d - ysF y - cumF m lq)), (7, .int .i64 y), (8, .int .i64 m)]) (fun _ => []) 1 ⟨by omega, by omega, by rw [cum_1]; omega⟩ (by repeat (first | exact FSub.nil | refine FSub.cons rfl ?_ | refine FSub.conse rfl (by congr 1; rw [cum_1]; omega) ?_)) (by repeat (first | exact LSub.nil | refine LSub.cons (by repeat (first | exact Rem.here | apply Rem.there)) ?_)) ?_
      clear hlp
      intro m ⟨c1, c2, c3⟩
      have hcs := cum_succ m lq c1 c2
      have hmb := md_bd m lq c1 c2
      have hcb := cum_bd m lq
      by_cases hm : mdF m lq ≤ d - ysF y - cumF m lq
      · have hm12 : m < 12 := by
          by_cases h12 : m = 12
          · subst h12
            have := cum_13 lq
            simp only [show (12:Int) + 1 = 13 from rfl] at hcs
            have hls := ys_succ y
            rw [hlq] at hls
            exfalso
            cases lq <;> simp_all <;> omega
          · omega
        repeat' (first | (refine gJ ?_; first | refine js rfl rfl rfl rfl ?_ | refine jar rfl rfl rfl rfl rfl rfl rfl (by omega) ?_ | (refine gcall rfl rfl ?_; first | (refine j_qc (f := 107) rfl rfl rfl rfl rfl rfl rfl ?_; refine ⟨_, (fun w hs => longR_c y m w hlq a1 (by omega) c1 c2), ?_⟩)) | (refine j_qe rfl rfl rfl ?_; first | refine ⟨_, q_addu8 rfl rfl rfl (by omega), ?_⟩)) | (refine gSC ?_; first | refine sc_mv rfl ?_ | refine sc_q rfl ?_ | refine sc_region ?_) | (refine gSQ ?_; first | refine sq_go rfl ?_ | refine sq_mv rfl ?_ | refine sq_ende (by first | exact .inl rfl | exact .inr rfl) rfl rfl ⟨_, (RVs.cons (RV.tmp rfl) (RVs.cons (RV.tmp rfl) (RVs.cons (RV.tmp rfl) (RVs.cons (RV.tmp rfl) (RVs.nil))))), ?_⟩) | refine j_nil ?_ | ((refine sc_cond rfl ?_ ?_) <;> intro hc <;> (first | exact absurd hc (by decide) | ((try simp only [engHC] at hc) <;> first | (exfalso; omega) | exact absurd trivial hc | skip))))
        exact sq_loop (m + 1) ⟨by omega, by omega, by omega⟩ (by omega) (by repeat (first | exact FSub.nil | refine FSub.cons rfl ?_ | refine FSub.conse rfl (by congr 1; omega) ?_)) (by repeat (first | exact LSub.nil | refine LSub.cons (by repeat (first | exact Rem.here | apply Rem.there)) ?_))
      · repeat' (first | (refine gJ ?_; first | refine js rfl rfl rfl rfl ?_ | refine jar rfl rfl rfl rfl rfl rfl rfl (by omega) ?_ | (refine gcall rfl rfl ?_; first | (refine j_qc (f := 107) rfl rfl rfl rfl rfl rfl rfl ?_; refine ⟨_, (fun w hs => longR_c y m w hlq a1 (by omega) c1 c2), ?_⟩)) | (refine j_qe rfl rfl rfl ?_; first | refine ⟨_, q_addu8 rfl rfl rfl (by omega), ?_⟩)) | (refine gSC ?_; first | refine sc_mv rfl ?_ | refine sc_q rfl ?_ | refine sc_region ?_) | (refine gSQ ?_; first | refine sq_go rfl ?_ | refine sq_mv rfl ?_ | refine sq_ende (by first | exact .inl rfl | exact .inr rfl) rfl rfl ⟨_, (RVs.cons (RV.tmp rfl) (RVs.cons (RV.tmp rfl) (RVs.cons (RV.tmp rfl) (RVs.cons (RV.tmp rfl) (RVs.nil))))), ?_⟩) | refine j_nil ?_ | ((refine sc_cond rfl ?_ ?_) <;> intro hc <;> (first | exact absurd hc (by decide) | ((try simp only [engHC] at hc) <;> first | (exfalso; omega) | exact absurd trivial hc | skip))))
        have e1 : mthF d = m := by unfold mthF doyF; rw [hyr, hlq]; exact mo_of _ m lq c1 c2 c3 (by omega)
        have e2 : dayF d = d - ysF y - cumF m lq + 1 := by unfold dayF doyF; rw [e1, hyr, hlq]
        rw [e1, e2, hyr]
        (intro w' hS; refine ⟨?_, hS.below⟩; simp only [pack])
theorem yearR_c (d a b : Int) (w : World) (a0 : -9223372036854775808 ≤ a) (a1 : a ≤ 9223372036854775807) (b0 : -9223372036854775808 ≤ b) (b1 : b ≤ 9223372036854775807) :
    Calls Try.prog 49 #[.int .i64 d, .int .i64 a, .int .i64 b] w fun e w' => e = .returned (.tuple #[.bool (decide (checkDayF d = 0) && (ydB a && (ydB b && yearlyB d a b))), .int .i64 (if checkDayF d = 0 then (if (ydB a && ydB b) then 0 else 10) else checkDayF d)]) ∧ Below w.heap.size w w' := by
  by_cases hck : checkDayF d = 0
  · have hb : 0 ≤ d ∧ d ≤ 730484 := by unfold checkDayF at hck; (repeat' split at hck) <;> omega
    obtain ⟨m1, m2, m3, m4⟩ := mth_day_bd d hb.1 hb.2
    have m5 := (md_bd (mthF d) (leapB (yrF d)) m1 m2).2
    have hda := fun w => dateR_c (a.tdiv 100) (a.tmod 100) w
    have hdb := fun w => dateR_c (b.tdiv 100) (b.tmod 100) w
    simp only [date_yd] at hda hdb
    refine eng_start (n := 60) (args := [.int .i64 d, .int .i64 a, .int .i64 b]) tab tab_ok fns fns_ok [.tmp 6, .tmp 7] Try.func49 rfl rfl rfl rfl ?_
    repeat' (first | (refine gJ ?_; first | refine js rfl rfl rfl rfl ?_ | refine jar rfl rfl rfl rfl rfl rfl rfl (by omega) ?_ | (refine gcall rfl rfl ?_; first | (refine j_qc (f := 78) rfl rfl rfl rfl rfl rfl rfl ?_; refine ⟨_, (fun w _ => dayR_c d w hb.1 hb.2), ?_⟩) | (refine j_qc (f := 79) rfl rfl rfl rfl rfl rfl rfl ?_; refine ⟨_, (fun w _ => hda w), ?_⟩) | (refine j_qc (f := 79) rfl rfl rfl rfl rfl rfl rfl ?_; refine ⟨_, (fun w _ => hdb w), ?_⟩)) | (refine j_qe rfl rfl rfl ?_; first | refine ⟨_, q_quo rfl rfl rfl (by omega), ?_⟩ | refine ⟨_, q_rem rfl rfl rfl (by omega), ?_⟩ | refine ⟨_, q_quot rfl rfl rfl (by omega), ?_⟩ | refine ⟨_, q_remt rfl rfl rfl (by omega), ?_⟩ | refine ⟨_, q_addu8 rfl rfl rfl (by omega), ?_⟩ | refine ⟨_, q_quou8 rfl rfl rfl (by omega), ?_⟩) | refine j_guard_undef rfl rfl rfl rfl rfl ?_) | (refine gSC ?_; first | refine sc_mv rfl ?_ | refine sc_q rfl ?_ | refine sc_region ?_) | (refine gSQ ?_; first | refine sq_go rfl ?_ | refine sq_mv rfl ?_ | refine sq_ende (by first | exact .inl rfl | exact .inr rfl) rfl rfl ⟨_, (RVs.cons (RV.tmp rfl) (RVs.cons (RV.tmp rfl) (RVs.nil))), ?_⟩) | refine j_nil ?_ | ((first | refine j_guard rfl rfl rfl rfl rfl ?_ ?_ | refine sc_cond rfl ?_ ?_) <;> intro hc <;> (first | exact absurd hc (by decide) | ((try simp only [engHC] at hc) <;> first | (exfalso; omega) | exact absurd trivial hc | skip))))
    all_goals (intro w' hS; refine ⟨?_, hS.below⟩; simp only [pack])
    all_goals first
      | (simp [yearlyB, *]; done)
      | (have e9 : ¬ b < a := by omega
         simp [yearlyB, *]; done)
      | (have e9 : b < a := by omega
         simp [yearlyB, *])
  · refine eng_start (n := 60) (args := [.int .i64 d, .int .i64 a, .int .i64 b]) tab tab_ok fns fns_ok [.tmp 6, .tmp 7] Try.func49 rfl rfl rfl rfl ?_
    repeat' (first | (refine gJ ?_; first | refine js rfl rfl rfl rfl ?_ | refine jar rfl rfl rfl rfl rfl rfl rfl (by omega) ?_ | (refine gcall rfl rfl ?_; first | (refine j_qc (f := 78) rfl rfl rfl rfl rfl rfl rfl ?_; refine ⟨_, (fun w _ => dayNo_c d w hck), ?_⟩)) | (refine j_qe rfl rfl rfl ?_; first | refine ⟨_, q_quo rfl rfl rfl (by omega), ?_⟩ | refine ⟨_, q_rem rfl rfl rfl (by omega), ?_⟩ | refine ⟨_, q_quot rfl rfl rfl (by omega), ?_⟩ | refine ⟨_, q_remt rfl rfl rfl (by omega), ?_⟩ | refine ⟨_, q_addu8 rfl rfl rfl (by omega), ?_⟩ | refine ⟨_, q_quou8 rfl rfl rfl (by omega), ?_⟩) | refine j_guard_undef rfl rfl rfl rfl rfl ?_) | (refine gSC ?_; first | refine sc_mv rfl ?_ | refine sc_q rfl ?_ | refine sc_region ?_) | (refine gSQ ?_; first | refine sq_go rfl ?_ | refine sq_mv rfl ?_ | refine sq_ende (by first | exact .inl rfl | exact .inr rfl) rfl rfl ⟨_, (RVs.cons (RV.tmp rfl) (RVs.cons (RV.tmp rfl) (RVs.nil))), ?_⟩) | refine j_nil ?_ | ((first | refine j_guard rfl rfl rfl rfl rfl ?_ ?_ | refine sc_cond rfl ?_ ?_) <;> intro hc <;> (first | exact absurd hc (by decide) | ((try simp only [engHC] at hc) <;> first | (exfalso; omega) | exact absurd trivial hc | skip))))
    all_goals ((intro w' hS; refine ⟨?_, hS.below⟩; simp only [pack]); simp [hck])
end Go.Proofs.Ytbejfbekamikpaa

/-
  letterbagref12.Point, letterbagref13: Valid and Status.
-/
namespace Go.Proofs.Ytbejfbekamikpaa
open Go.RowKit Eng
set_option linter.unusedVariables false
set_option linter.unusedSimpArgs false
set_option maxHeartbeats 8000000
attribute [local irreducible] SC SQ J Qt Calls Iterates LSub FSub
def idxF : List Pt → Int → Nat → Int
  | [], _, _ => -1
  | p :: l, t, i => if p.id = t then (i : Int) else idxF l t (i + 1)
theorem idx_none : ∀ (l : List Pt) (t : Int) (i : Nat), findP l t = none → idxF l t i = -1
  | [], t, i, _ => rfl
  | p :: l, t, i, h => by
    simp only [findP] at h
    simp only [idxF]
    split at h
    · cases h
    · rename_i hp
      rw [if_neg hp]
      exact idx_none l t _ h
theorem idx_some : ∀ (l : List Pt) (t : Int) (i : Nat) (p : Pt), findP l t = some p → ∃ k : Nat, idxF l t i = ((i + k : Nat) : Int) ∧ l[k]? = some p
  | [], t, i, p, h => by cases h
  | q :: l, t, i, p, h => by
    simp only [findP] at h
    simp only [idxF]
    split at h
    · rename_i hq
      rw [if_pos hq]
      exact ⟨0, rfl, h⟩
    · rename_i hq
      rw [if_neg hq]
      obtain ⟨k, h1, h2⟩ := idx_some l t (i + 1) p h
      exact ⟨k + 1, by rw [h1]; congr 1; omega, h2⟩
theorem pointR_c (v1 v2 v3 : Value) (A : Option Addr) (c : Nat) (t : Int) (l : List Pt) (w : World) (hl : l.length ≤ 9223372036854775807) (h : RS w 8 ptC A l) (h1 : v1.oneCell' = true) (h2 : v2.oneCell' = true) (h3 : v3.oneCell' = true) :
    Calls Try.prog 50 #[refV v1 v2 v3 A l.length c, .int .i64 t] w fun e w' => e = .returned (.int .i64 (idxF l t 0)) ∧ Below w.heap.size w w' := by
  generalize hn : l.length = n at *
  refine eng_start (n := 22) (args := [refV v1 v2 v3 A n c, .int .i64 t]) tab tab_ok fns fns_ok [.tmp 4] Try.func50 rfl rfl rfl rfl ?_
  repeat' (first | (refine gJ ?_; first | refine js rfl rfl rfl rfl ?_ | (refine gload rfl rfl ?_; refine j_qe rfl rfl rfl ?_; first | refine ⟨_, q_load_own rfl rfl rfl rfl (by (repeat constructor)) (by first | rfl | assumption), ?_⟩ | refine ⟨_, q_loadA_own rfl rfl rfl rfl (by (repeat constructor)) (by rfl), ?_⟩ | refine ⟨_, q_loadA_ext rfl rfl rfl rfl ⟨by assumption, (by first | exact id | assumption)⟩ (by rfl), ?_⟩ | refine ⟨_, q_load_ext rfl rfl rfl rfl ⟨by assumption, (by first | exact id | assumption)⟩ (by first | rfl | assumption), ?_⟩ | refine ⟨_, q_load_extb rfl rfl rfl rfl ⟨by assumption, (by first | exact id | assumption)⟩ (by rfl), ?_⟩ | refine ⟨_, q_loadA_extb rfl rfl rfl rfl ⟨by assumption, (by first | exact id | assumption)⟩ (by rfl), ?_⟩ | refine ⟨_, q_load_ext0 rfl rfl rfl rfl ⟨by assumption, (by first | exact id | assumption)⟩ (by rfl), ?_⟩) | refine jfield rfl rfl rfl rfl rfl rfl rfl rfl ?_ | refine jar rfl rfl rfl rfl rfl rfl rfl (by omega) ?_ | (refine gF ?_; first | (refine j_box rfl rfl rfl rfl rfl ?_; intro b)) | (refine j_qe rfl rfl rfl ?_; first | refine ⟨_, q_index_nat rfl rfl rfl rfl rfl (by omega), ?_⟩ | refine ⟨_, q_index_slice rfl rfl rfl rfl rfl (by omega), ?_⟩ | refine ⟨_, q_index_arr rfl rfl rfl rfl rfl (by omega), ?_⟩ | refine ⟨_, q_index_arr_ext rfl rfl rfl rfl rfl (by omega), ?_⟩ | refine ⟨_, q_len_slice rfl rfl rfl rfl, ?_⟩ | refine ⟨_, q_field_ext rfl rfl rfl rfl rfl, ?_⟩ | refine ⟨_, q_addu8 rfl rfl rfl (by omega), ?_⟩)) | (refine gSC ?_; first | refine sc_mv rfl ?_ | refine sc_q rfl ?_ | refine sc_region ?_) | (refine gSQ ?_; first | refine sq_go rfl ?_ | refine sq_mv rfl ?_ | refine sq_ende (by first | exact .inl rfl | exact .inr rfl) rfl rfl ⟨_, (RVs.cons (RV.tmp rfl) (RVs.nil)), ?_⟩) | refine j_nil ?_ | ((refine sc_cond rfl ?_ ?_) <;> intro hc <;> (first | exact absurd hc (by decide) | ((try simp only [engHC] at hc) <;> first | (exfalso; omega) | exact absurd trivial hc | skip))))
  refine sc_loop (ι := Nat) (fun k => k ≤ n ∧ idxF l t 0 = idxF (l.drop k) t k) (fun k => n - k) (fun k => [(1, .int .i64 t), (2, .pointer (some ⟨b, 0, none⟩)), (5, .int .i64 k)]) (fun _ => [.cells b 30 [v1, v2, v3, .slice A n c]]) 0 ⟨by omega, by simp⟩ (by repeat (first | exact FSub.nil | refine FSub.cons rfl ?_ | refine FSub.conse rfl (by congr 1; omega) ?_)) (by repeat (first | exact LSub.nil | refine LSub.cons (by repeat (first | exact Rem.here | apply Rem.there)) ?_)) ?_
  intro k ⟨hk, hr⟩
  by_cases hlt : k < n
  · obtain ⟨x, hx⟩ : ∃ x, l[k]? = some x := ⟨_, List.getElem?_eq_getElem (by omega)⟩
    obtain ⟨ad, rfl, hX⟩ := h k x hx
    have hd := drop_cons hx
    rw [hd] at hr
    simp only [idxF] at hr
    by_cases hid : x.id = t
    · rw [if_pos hid] at hr
      repeat' (first | (refine gJ ?_; first | refine js rfl rfl rfl rfl ?_ | (refine gload rfl rfl ?_; refine j_qe rfl rfl rfl ?_; first | refine ⟨_, q_load_own rfl rfl rfl rfl (by (repeat constructor)) (by first | rfl | assumption), ?_⟩ | refine ⟨_, q_loadA_own rfl rfl rfl rfl (by (repeat constructor)) (by rfl), ?_⟩ | refine ⟨_, q_loadA_ext rfl rfl rfl rfl ⟨by assumption, (by first | exact id | assumption)⟩ (by rfl), ?_⟩ | refine ⟨_, q_load_ext rfl rfl rfl rfl ⟨by assumption, (by first | exact id | assumption)⟩ (by first | rfl | assumption), ?_⟩ | refine ⟨_, q_load_extb rfl rfl rfl rfl ⟨by assumption, (by first | exact id | assumption)⟩ (by rfl), ?_⟩ | refine ⟨_, q_loadA_extb rfl rfl rfl rfl ⟨by assumption, (by first | exact id | assumption)⟩ (by rfl), ?_⟩ | refine ⟨_, q_load_ext0 rfl rfl rfl rfl ⟨by assumption, (by first | exact id | assumption)⟩ (by rfl), ?_⟩) | refine jfield rfl rfl rfl rfl rfl rfl rfl rfl ?_ | refine jar rfl rfl rfl rfl rfl rfl rfl (by omega) ?_ | (refine gF ?_; first | (refine j_box rfl rfl rfl rfl rfl ?_; intro b)) | (refine j_qe rfl rfl rfl ?_; first | refine ⟨_, q_index_nat rfl rfl rfl rfl rfl (by omega), ?_⟩ | refine ⟨_, q_index_slice rfl rfl rfl rfl rfl (by omega), ?_⟩ | refine ⟨_, q_index_arr rfl rfl rfl rfl rfl (by omega), ?_⟩ | refine ⟨_, q_index_arr_ext rfl rfl rfl rfl rfl (by omega), ?_⟩ | refine ⟨_, q_len_slice rfl rfl rfl rfl, ?_⟩ | refine ⟨_, q_field_ext rfl rfl rfl rfl rfl, ?_⟩ | refine ⟨_, q_addu8 rfl rfl rfl (by omega), ?_⟩)) | (refine gSC ?_; first | refine sc_mv rfl ?_ | refine sc_q rfl ?_ | refine sc_region ?_) | (refine gSQ ?_; first | refine sq_go rfl ?_ | refine sq_mv rfl ?_ | refine sq_ende (by first | exact .inl rfl | exact .inr rfl) rfl rfl ⟨_, (RVs.cons (RV.tmp rfl) (RVs.nil)), ?_⟩) | refine j_nil ?_ | ((refine sc_cond rfl ?_ ?_) <;> intro hc <;> (first | exact absurd hc (by decide) | ((try simp only [engHC] at hc) <;> first | (exfalso; omega) | exact absurd trivial hc | skip))))
      rw [hr]
      (intro w' hS; refine ⟨?_, hS.below⟩; simp only [pack])
    · rw [if_neg hid] at hr
      repeat' (first | (refine gJ ?_; first | refine js rfl rfl rfl rfl ?_ | (refine gload rfl rfl ?_; refine j_qe rfl rfl rfl ?_; first | refine ⟨_, q_load_own rfl rfl rfl rfl (by (repeat constructor)) (by first | rfl | assumption), ?_⟩ | refine ⟨_, q_loadA_own rfl rfl rfl rfl (by (repeat constructor)) (by rfl), ?_⟩ | refine ⟨_, q_loadA_ext rfl rfl rfl rfl ⟨by assumption, (by first | exact id | assumption)⟩ (by rfl), ?_⟩ | refine ⟨_, q_load_ext rfl rfl rfl rfl ⟨by assumption, (by first | exact id | assumption)⟩ (by first | rfl | assumption), ?_⟩ | refine ⟨_, q_load_extb rfl rfl rfl rfl ⟨by assumption, (by first | exact id | assumption)⟩ (by rfl), ?_⟩ | refine ⟨_, q_loadA_extb rfl rfl rfl rfl ⟨by assumption, (by first | exact id | assumption)⟩ (by rfl), ?_⟩ | refine ⟨_, q_load_ext0 rfl rfl rfl rfl ⟨by assumption, (by first | exact id | assumption)⟩ (by rfl), ?_⟩) | refine jfield rfl rfl rfl rfl rfl rfl rfl rfl ?_ | refine jar rfl rfl rfl rfl rfl rfl rfl (by omega) ?_ | (refine gF ?_; first | (refine j_box rfl rfl rfl rfl rfl ?_; intro b)) | (refine j_qe rfl rfl rfl ?_; first | refine ⟨_, q_index_nat rfl rfl rfl rfl rfl (by omega), ?_⟩ | refine ⟨_, q_index_slice rfl rfl rfl rfl rfl (by omega), ?_⟩ | refine ⟨_, q_index_arr rfl rfl rfl rfl rfl (by omega), ?_⟩ | refine ⟨_, q_index_arr_ext rfl rfl rfl rfl rfl (by omega), ?_⟩ | refine ⟨_, q_len_slice rfl rfl rfl rfl, ?_⟩ | refine ⟨_, q_field_ext rfl rfl rfl rfl rfl, ?_⟩ | refine ⟨_, q_addu8 rfl rfl rfl (by omega), ?_⟩)) | (refine gSC ?_; first | refine sc_mv rfl ?_ | refine sc_q rfl ?_ | refine sc_region ?_) | (refine gSQ ?_; first | refine sq_go rfl ?_ | refine sq_mv rfl ?_ | refine sq_ende (by first | exact .inl rfl | exact .inr rfl) rfl rfl ⟨_, (RVs.cons (RV.tmp rfl) (RVs.nil)), ?_⟩) | refine j_nil ?_ | ((refine sc_cond rfl ?_ ?_) <;> intro hc <;> (first | exact absurd hc (by decide) | ((try simp only [engHC] at hc) <;> first | (exfalso; omega) | exact absurd trivial hc | skip))))
      exact sq_loop (k + 1) ⟨by omega, hr⟩ (by omega) (by repeat (first | exact FSub.nil | refine FSub.cons rfl ?_ | refine FSub.conse rfl (by congr 1; omega) ?_)) (by repeat (first | exact LSub.nil | refine LSub.cons (by repeat (first | exact Rem.here | apply Rem.there)) ?_))
  · repeat' (first | (refine gJ ?_; first | refine js rfl rfl rfl rfl ?_ | (refine gload rfl rfl ?_; refine j_qe rfl rfl rfl ?_; first | refine ⟨_, q_load_own rfl rfl rfl rfl (by (repeat constructor)) (by first | rfl | assumption), ?_⟩ | refine ⟨_, q_loadA_own rfl rfl rfl rfl (by (repeat constructor)) (by rfl), ?_⟩ | refine ⟨_, q_loadA_ext rfl rfl rfl rfl ⟨by assumption, (by first | exact id | assumption)⟩ (by rfl), ?_⟩ | refine ⟨_, q_load_ext rfl rfl rfl rfl ⟨by assumption, (by first | exact id | assumption)⟩ (by first | rfl | assumption), ?_⟩ | refine ⟨_, q_load_extb rfl rfl rfl rfl ⟨by assumption, (by first | exact id | assumption)⟩ (by rfl), ?_⟩ | refine ⟨_, q_loadA_extb rfl rfl rfl rfl ⟨by assumption, (by first | exact id | assumption)⟩ (by rfl), ?_⟩ | refine ⟨_, q_load_ext0 rfl rfl rfl rfl ⟨by assumption, (by first | exact id | assumption)⟩ (by rfl), ?_⟩) | refine jfield rfl rfl rfl rfl rfl rfl rfl rfl ?_ | refine jar rfl rfl rfl rfl rfl rfl rfl (by omega) ?_ | (refine gF ?_; first | (refine j_box rfl rfl rfl rfl rfl ?_; intro b)) | (refine j_qe rfl rfl rfl ?_; first | refine ⟨_, q_index_nat rfl rfl rfl rfl rfl (by omega), ?_⟩ | refine ⟨_, q_index_slice rfl rfl rfl rfl rfl (by omega), ?_⟩ | refine ⟨_, q_index_arr rfl rfl rfl rfl rfl (by omega), ?_⟩ | refine ⟨_, q_index_arr_ext rfl rfl rfl rfl rfl (by omega), ?_⟩ | refine ⟨_, q_len_slice rfl rfl rfl rfl, ?_⟩ | refine ⟨_, q_field_ext rfl rfl rfl rfl rfl, ?_⟩ | refine ⟨_, q_addu8 rfl rfl rfl (by omega), ?_⟩)) | (refine gSC ?_; first | refine sc_mv rfl ?_ | refine sc_q rfl ?_ | refine sc_region ?_) | (refine gSQ ?_; first | refine sq_go rfl ?_ | refine sq_mv rfl ?_ | refine sq_ende (by first | exact .inl rfl | exact .inr rfl) rfl rfl ⟨_, (RVs.cons (RV.tmp rfl) (RVs.nil)), ?_⟩) | refine j_nil ?_ | ((refine sc_cond rfl ?_ ?_) <;> intro hc <;> (first | exact absurd hc (by decide) | ((try simp only [engHC] at hc) <;> first | (exfalso; omega) | exact absurd trivial hc | skip))))
    rw [hr, List.drop_of_length_le (by omega)]
    (intro w' hS; refine ⟨?_, hS.below⟩; simp only [pack])
    rfl
end Go.Proofs.Ytbejfbekamikpaa

/-
  letterbagref13: bit, Status and Valid; they answer as the program does.
-/
namespace Go.Proofs.Ytbejfbekamikpaa
open Go.RowKit Eng
set_option linter.unusedVariables false
set_option linter.unusedSimpArgs false
set_option maxHeartbeats 8000000
attribute [local irreducible] SC SQ J Qt Calls Iterates LSub FSub
def p2 (k : Int) : Int := if k = 0 then 1 else if k = 1 then 2 else if k = 2 then 4 else if k = 3 then 8 else if k = 4 then 16 else if k = 5 then 32 else 64
def bandF (a b : Int) : Int := ((BitVec.ofInt 8 a &&& BitVec.ofInt 8 b).toNat : Int)
section
variable {C : Cx} {F : Fr} {L : List HA} {o : Oper} {t u : TypeId} {x y : Operand} {a b : Int}
end
def goR (t d : Int) : List Ru → Bool → Bool → Bool → Bool → Option (Bool × Bool × Bool × Bool)
  | [], s, i, b, a => some (s, i, b, a)
  | x :: l, s, i, b, a => if x.pt = t then (if x.kd = 2 ∧ vacB d x = true then none
      else if x.kd = 1 then goR t d l true (i || seaB d x) b a else if x.kd = 3 then goR t d l s i true (a || weekB (d % 7) x) else goR t d l s i b a) else goR t d l s i b a
theorem own_nil (t k : Int) : ownF [] t k = [] := rfl
def statR (p : Pt) (l : List Ru) (hol : List Int) (t d : Int) : Int := match goR t d l false false false false with
  | none => 3
  | some (s, i, b, a) => if (s && !i) || (b && !a) then 2 else if (hol.any fun y => decide (y = d)) && decide (p.street = 0) then 2 else 1
end Go.Proofs.Ytbejfbekamikpaa
