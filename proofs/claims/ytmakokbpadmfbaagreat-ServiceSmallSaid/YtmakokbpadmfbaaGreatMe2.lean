/-
  In one text: Sr9, Me2.
-/
import Derived.Test.YtmakokbpadmfbaaGreatSr8
import Derived.Test.YtmakokbpadmfbaaGreatMe0
import Derived.Test.YtmakokbpadmfbaaGreatEngCoreB
/-
  slices.SortFunc.
-/
namespace Go.Proofs.YtmakokbpadmfbaaGreat
open Go.RowKit Eng
set_option linter.unusedVariables false
set_option linter.unusedSimpArgs false
set_option maxHeartbeats 8000000
attribute [local irreducible] SC SQ J Qt Calls Iterates LSub FSub
theorem insN_c (rc : List Value) (w : World) : Calls Tryz.prog 109 #[.slice none 0 0, .int .i64 0, .int .i64 0, cvS rc] w fun e w' => e = .returned (.tuple #[]) ∧ Below w.heap.size w w' := by
  refine eng_start (n := 53) (args := [.slice none 0 0, .int .i64 0, .int .i64 0, cvS rc]) tab tab_ok fns fns_ok [] Tryz.func109 rfl rfl rfl rfl ?_
  repeat' (first | (refine gJ ?_; first | refine js rfl rfl rfl rfl ?_ | refine jar rfl rfl rfl rfl rfl rfl rfl (by omega) ?_) | (refine gSC ?_; first | refine sc_mv rfl ?_ | refine sc_region ?_) | (refine gSQ ?_; refine sq_go rfl ?_) | refine j_nil ?_)
  refine sc_loop (ι := Unit) (fun _ => True) (fun _ => 0) (fun _ => [(2, .int .i64 0), (8, .int .i64 1)]) (fun _ => []) () trivial (by (try dsimp only); exact (by repeat (first | exact FSub.nil | refine FSub.cons rfl ?_ | refine FSub.conse rfl (by congr 1; omega) ?_))) (by repeat (first | exact LSub.nil | refine LSub.cons (by repeat (first | exact Rem.here | apply Rem.there)) ?_)) ?_
  rintro _ _
  repeat' (first | (refine gJ ?_; refine js rfl rfl rfl rfl ?_) | (refine gSC ?_; first | refine sc_mv rfl ?_ | refine sc_q rfl ?_ | refine sc_region ?_) | (refine gSQ ?_; first | refine sq_go rfl ?_ | refine sq_mv rfl ?_ | refine sq_ende (by first | exact .inl rfl | exact .inr rfl) rfl rfl ⟨_, (RVs.nil), ?_⟩) | refine j_nil ?_ | ((refine sc_cond rfl ?_ ?_) <;> intro hc <;> (first | exact absurd hc (by decide) | ((try simp only [engHC] at hc) <;> skip))))
  (intro w' hS; refine ⟨?_, hS.below⟩; simp only [pack])
theorem pdqN_c (rc : List Value) (z : Int) (w : World) : Calls Tryz.prog 93 #[.slice none 0 0, .int .i64 0, .int .i64 0, .int .i64 z, cvS rc] w fun e w' => e = .returned (.tuple #[]) ∧ Below w.heap.size w w' := by
  refine eng_start (n := 148) (args := [.slice none 0 0, .int .i64 0, .int .i64 0, .int .i64 z, cvS rc]) tab tab_ok fns fns_ok [] Tryz.func93 rfl rfl rfl rfl ?_
  repeat' (first | (refine gJ ?_; refine js rfl rfl rfl rfl ?_) | (refine gSC ?_; first | refine sc_mv rfl ?_ | refine sc_region ?_) | (refine gSQ ?_; refine sq_go rfl ?_) | refine j_nil ?_)
  refine sc_loop (ι := Unit) (fun _ => True) (fun _ => 0) (fun _ => [(0, .slice none 0 0), (1, .int .i64 0), (2, .int .i64 0), (4, cvS rc)]) (fun _ => []) () trivial (by (try dsimp only); exact (by repeat (first | exact FSub.nil | refine FSub.cons rfl ?_ | refine FSub.conse rfl (by congr 1; omega) ?_))) (by repeat (first | exact LSub.nil | refine LSub.cons (by repeat (first | exact Rem.here | apply Rem.there)) ?_)) ?_
  rintro _ _
  repeat' (first | (refine gJ ?_; first | refine js rfl rfl rfl rfl ?_ | refine jar rfl rfl rfl rfl rfl rfl rfl (by omega) ?_ | (refine gcall rfl rfl ?_; (refine j_qc (f := 109) rfl rfl rfl rfl rfl rfl rfl ?_; refine ⟨_, (fun w' _ => insN_c rc w'), ?_⟩))) | (refine gSC ?_; first | refine sc_mv rfl ?_ | refine sc_q rfl ?_ | refine sc_region ?_) | (refine gSQ ?_; first | refine sq_go rfl ?_ | refine sq_mv rfl ?_ | refine sq_ende (by first | exact .inl rfl | exact .inr rfl) rfl rfl ⟨_, (RVs.nil), ?_⟩) | refine j_nil ?_ | ((refine sc_cond rfl ?_ ?_) <;> intro hc <;> (first | exact absurd hc (by decide) | ((try simp only [engHC] at hc) <;> skip))))
  (intro w' hS; refine ⟨?_, hS.below⟩; simp only [pack])
theorem arr_of_perm {α : Type} [Inhabited α] {lt : α → α → Bool} {l : List α} {R : Array α} (hp : Go.Sort.PermIn 0 l.length l.toArray R) (hs : Go.Sort.SortedIn lt 0 l.length R) : R.toList.Perm l ∧ R.toList.Pairwise (fun x y => lt y x = false) := by
  have hsz : R.size = l.length := hp.1
  constructor
  · have h := hp.2.2
    rw [show R.extract 0 l.length = R from by rw [← hsz]; simp, show l.toArray.extract 0 l.length = l.toArray from by simp] at h
    simpa using h
  · rw [List.pairwise_iff_getElem]
    intro i j hi hj hij
    have hi' : i < R.size := by simpa using hi
    have hj' : j < R.size := by simpa using hj
    have h := hs i j (Nat.zero_le _) hij (by omega)
    rw [getElem!_pos R i hi', getElem!_pos R j hj'] at h
    simpa using h
theorem srt_c {w0 w : World} {hot : Nat → Prop} {L : List HA} {L' : List ELT → List HA} {v : Value} {l : List ELT} {rc : List Value} {cf : ELT → ELT → Int} (hcf : CmpS cf rc) (hsw : Go.Sort.SWO (ltS cf)) (hs : St w0 hot L w) (hn : l.length ≤ 65535)
    (hin : InL L (.own v 74 3 l.length (l.flatMap elC))) (hup : ∀ R : List ELT, R.length = l.length → Upd L (.own v 74 3 l.length (l.flatMap elC)) (.own v 74 3 R.length (R.flatMap elC)) (L' R)) :
    Calls Tryz.prog 68 #[v, cvS rc] w fun e' w' => ∃ R : List ELT, (R.Perm l ∧ R.Pairwise (fun x y => ltS cf y x = false)) ∧ e' = .returned (.tuple #[]) ∧ St w0 hot (L' R) w' := by
  have hA := hs.at hin
  rcases hA.2.2 with ⟨rfl, hn0⟩ | ⟨g, cap, cur, rfl, _⟩
  · have hl : l = [] := List.length_eq_zero_iff.1 hn0
    subst hl
    have hle : St w Cold [] w := St.start w Cold
    refine eng_start (n := 14) (args := [.slice none 0 0, cvS rc]) tab tab_ok fns fns_ok [] Tryz.func68 rfl rfl rfl rfl ?_
    have hlen := fun w' => lenS_c 0 w' (by omega)
    repeat' (first | (refine gJ ?_; first | refine js rfl rfl rfl rfl ?_ | (refine gcall rfl rfl ?_; first | (refine j_qc (f := 57) rfl rfl rfl rfl rfl rfl rfl ?_; refine ⟨_, (fun w' _ => hlen w'), ?_⟩) | (refine j_qc (f := 93) rfl rfl rfl rfl rfl rfl rfl ?_; refine ⟨_, (fun w' _ => pdqN_c rc _ w'), ?_⟩)) | (refine j_qe rfl rfl rfl ?_; first | refine ⟨_, q_len_slice rfl rfl rfl rfl, ?_⟩ | refine ⟨_, q_conv rfl rfl rfl rfl rfl rfl (by first | rfl | (exact i64_wrap (by omega) (by omega)) | (exact u8_wrap (by omega) (by omega)) | (exact u64_wrap (by omega) (by omega)) | (exact u16_wrap (by omega) (by omega))), ?_⟩)) | (refine gSC ?_; first | refine sc_mv rfl ?_ | refine sc_region ?_) | (refine gSQ ?_; first | refine sq_go rfl ?_ | refine sq_ende (by first | exact .inl rfl | exact .inr rfl) rfl rfl ⟨_, (RVs.nil), ?_⟩) | refine j_nil ?_)
    intro w' hS
    refine ⟨[], ⟨List.Perm.refl _, List.Pairwise.nil⟩, rfl, ?_⟩
    exact (hs.later hS.below).upd (hup [] rfl) (Below.refl 0 w') (fun b _ _ => rfl) ((hs.later hS.below).at hin) (fun b hb => .inl hb)
  · generalize hnl : l.length = n at *
    have hle := hs.lent (x := rwS ⟨g, 0, none⟩ n cap l.toArray) hin trivial
    have hpdq := fun w' w9 hot9 z (h9 : St w9 hot9 [rwS ⟨g, 0, none⟩ n cap l.toArray] w') (hz : z ≤ 1000) => pdq_c (L' := fun x => [rwS ⟨g, 0, none⟩ n cap x]) hcf hsw hn n 0 n z h9 (by simpa using hnl) (Nat.zero_le _) (Nat.le_refl _) (by omega) hz (.inl rfl) InL.here (fun _ => Upd.here)
    have hk : Go.Lib.bitLen n ≤ 64 := by
      apply Classical.byContradiction
      intro hge
      by_cases h0 : n = 0
      · subst h0
        exact hge (by decide)
      · have h1 := blenS_le n n (Nat.le_refl _) h0 (by omega)
        have := Nat.pow_le_pow_right (show 0 < 2 by omega) (show 64 ≤ Go.Lib.bitLen n by omega)
        omega
    have hlen := fun w' => lenS_c n w' hn
    generalize Go.Lib.bitLen n = k at *
    refine eng_start_lent (n := 14) (args := [.slice (some ⟨g, 0, none⟩) n cap, cvS rc]) tab tab_ok fns fns_ok [] _ _ Tryz.func68 rfl rfl rfl rfl (hle) ?_
    repeat' (first | (refine gJ ?_; first | refine js rfl rfl rfl rfl ?_ | (refine gcall rfl rfl ?_; (refine j_qc (f := 57) rfl rfl rfl rfl rfl rfl rfl ?_; refine ⟨_, (fun w' _ => hlen w'), ?_⟩)) | (refine gcall rfl rfl ?_; refine gF ?_; refine j_call (f := 93) (ξ := Array ELT) (fun _ => .tuple #[]) _ (fun y => [rwS ⟨g, 0, none⟩ n cap y]) rfl rfl rfl rfl rfl rfl rfl (fun w' hs9 => hpdq w' _ _ k hs9 (by omega)) ?_; rintro R ⟨hR1, hR2⟩) | (refine j_qe rfl rfl rfl ?_; first | refine ⟨_, q_len_slice rfl rfl rfl rfl, ?_⟩ | refine ⟨_, q_conv rfl rfl rfl rfl rfl rfl (by first | rfl | (exact i64_wrap (by omega) (by omega)) | (exact u8_wrap (by omega) (by omega)) | (exact u64_wrap (by omega) (by omega)) | (exact u16_wrap (by omega) (by omega))), ?_⟩)) | (refine gSC ?_; first | refine sc_mv rfl ?_ | refine sc_region ?_) | (refine gSQ ?_; first | refine sq_go rfl ?_ | refine sq_ende (by first | exact .inl rfl | exact .inr rfl) rfl rfl ⟨_, (RVs.nil), ?_⟩) | refine j_nil ?_)
    intro w' hS
    rw [← hnl] at hR1 hR2
    obtain ⟨h1, h2⟩ := arr_of_perm hR1 hR2
    refine ⟨R.toList, ⟨h1, h2⟩, rfl, ?_⟩
    have hlR : R.toList.length = n := by rw [h1.length_eq]; exact hnl
    have hu := hup R.toList hlR
    rw [hlR] at hu
    exact hs.back hu (hS.sub (by repeat (first | exact LSub.nil | refine LSub.cons (by repeat (first | exact Rem.here | apply Rem.there)) ?_))) trivial
end Go.Proofs.YtmakokbpadmfbaaGreat

/-
  service: measure.
-/
namespace Go.Proofs.YtmakokbpadmfbaaGreat
open Go.RowKit Eng
set_option linter.unusedVariables false
set_option linter.unusedSimpArgs false
set_option maxHeartbeats 8000000
attribute [local irreducible] SC SQ J Qt Calls Iterates LSub FSub
abbrev En := Lane × Nat × Rw
abbrev ptrV (b : Nat) : Value := .pointer (some ⟨b, 0, none⟩)
def rowsHA (E : List En) : List HA := E.map fun e => .cells e.2.1 35 (rwC e.2.2)
def mapM (E : List En) : List (Lane × Value) := E.map fun e => (e.1, ptrV e.2.1)
theorem klk_new {k : Lane} : ∀ {E : List En}, k ∉ E.map (·.1) → klk (mapM E) k = none
  | [], _ => rfl
  | e :: E, h => by
    simp only [List.map_cons, List.mem_cons, not_or] at h
    simp only [mapM, List.map_cons, klk]
    rw [if_neg (fun e => h.1 e.symm)]
    exact klk_new h.2
theorem klk_old {e : En} {E2 : List En} : ∀ {E1 : List En}, e.1 ∉ E1.map (·.1) → klk (mapM (E1 ++ e :: E2)) e.1 = some (ptrV e.2.1)
  | [], _ => by simp [mapM, klk]
  | x :: E1, h => by
    simp only [List.map_cons, List.mem_cons, not_or] at h
    simp only [List.cons_append, mapM, List.map_cons, klk]
    rw [if_neg (fun e => h.1 e.symm)]
    exact klk_old h.2
theorem kset_new {k : Lane} {b : Nat} {r : Rw} : ∀ {E : List En}, k ∉ E.map (·.1) → kset (mapM E) k (ptrV b) = mapM (E ++ [(k, b, r)])
  | [], _ => rfl
  | e :: E, h => by
    simp only [List.map_cons, List.mem_cons, not_or] at h
    simp only [List.cons_append, mapM, List.map_cons, kset]
    rw [if_neg (fun e => h.1 e.symm)]
    congr 1
    exact kset_new h.2
theorem split_en {k : Lane} : ∀ {E : List En}, k ∈ E.map (·.1) → ∃ E1 e E2, E = E1 ++ e :: E2 ∧ e.1 = k ∧ k ∉ E1.map (·.1)
  | [], h => by cases h
  | x :: E, h => by
    by_cases hx : x.1 = k
    · exact ⟨[], x, E, rfl, hx, by simp⟩
    · simp only [List.map_cons, List.mem_cons] at h
      obtain ⟨E1, e, E2, h1, h2, h3⟩ := split_en (h.resolve_left (fun e => hx e.symm))
      exact ⟨x :: E1, e, E2, by rw [h1]; rfl, h2, by simp only [List.map_cons, List.mem_cons, not_or]; exact ⟨fun e => hx e.symm, h3⟩⟩
theorem rows_perm (E1 : List En) (e : En) (E2 : List En) : (rowsHA (E1 ++ e :: E2)).Perm (.cells e.2.1 35 (rwC e.2.2) :: rowsHA (E1 ++ E2)) := by
  unfold rowsHA
  rw [List.map_append, List.map_cons, List.map_append]
  exact List.perm_middle
theorem lsub_rows {E1 E2 : List En} {e : En} {M N : List HA} (hr : Rem M (.cells e.2.1 35 (rwC e.2.2)) N) (hs : LSub (rowsHA (E1 ++ E2)) N) : LSub (rowsHA (E1 ++ e :: E2)) M :=
  LSub.perm (LSub.cons hr hs) (rows_perm E1 e E2).symm
theorem lc_c (x y : Lane) (w : World) : Calls Tryz.prog 69 #[lnV x, lnV y] w fun e w' => e = .returned (.int .i64 (lnCmp x y)) ∧ Below w.heap.size w w' := by
  refine eng_start (n := 22) (args := [lnV x, lnV y]) tab tab_ok fns fns_ok [.tmp 4] Tryz.func69 rfl rfl rfl rfl ?_
  repeat' (first | (refine gJ ?_; first | refine js rfl rfl rfl rfl ?_ | (refine gload rfl rfl ?_; refine j_qe rfl rfl rfl ?_; refine ⟨_, q_load_own rfl rfl rfl rfl (by (repeat constructor)) (by first | rfl | assumption), ?_⟩) | refine jfield rfl rfl rfl rfl rfl rfl rfl rfl ?_ | (refine gcall rfl rfl ?_; first | (refine j_qc (f := 95) rfl rfl rfl rfl rfl rfl rfl ?_; refine ⟨_, (fun w' _ => cmp8_c _ _ w'), ?_⟩) | (refine j_qc (f := 96) rfl rfl rfl rfl rfl rfl rfl ?_; refine ⟨_, (fun w' _ => cmpI_c _ _ w'), ?_⟩) | (refine j_qc (f := 94) rfl rfl rfl rfl rfl rfl rfl ?_; refine ⟨_, (fun w' hs => or_c (some ⟨b, 0, none⟩) 3 [cmpI x.cl y.cl, cmpI x.fr y.fr, cmpI x.to y.to] w' (by simp) (rs_lit (f := int1) _ (fun _ => rfl) hs (by (repeat constructor)) rfl)), ?_⟩)) | (refine gF ?_; first | (refine j_box rfl rfl rfl rfl rfl ?_; intro b) | (refine j_buildSlice rfl rfl rfl rfl rfl rfl rfl rfl rfl rfl rfl rfl ?_; intro b))) | (refine gSC ?_; first | refine sc_mv rfl ?_ | refine sc_q rfl ?_ | refine sc_region ?_ | refine sc_auto 1 (.q 0 (.q 1 (.q 2 (.q 3 (.q 4 (.q 5 (.q 6 (.q 7 (.q 8 (.q 9 (.q 10 (.q 11 (.q 12 (.q 13 (.q 14 (.e 15 (.e 16 (.q 17 (.z))))))))))))))))))) mixed ?_) | (refine gJG ?_; first | refine jg_q rfl (by kernel_rfl) ?_ | refine jg_e (by kernel_rfl) rfl ?_ | refine jg_done (by kernel_rfl) ?_) | (refine gSQ ?_; first | refine jg_next ?_ | (refine gFE ?_; first | refine jg_next0 ?_ | refine jg_next1 ?_) | refine sq_go rfl ?_ | refine sq_ende (by first | exact .inl rfl | exact .inr rfl) rfl rfl ⟨_, (RVs.cons (RV.tmp rfl) (RVs.nil)), ?_⟩) | refine j_nil ?_)
  (intro w' hS; refine ⟨?_, hS.below⟩; simp only [pack])
  exact ri rfl
theorem cmpS_ln : CmpS lnCmp [] := fun x y w => lc_c x y w
theorem take_snocS {α : Type} {l : List α} {k : Nat} {x : α} (h : l[k]? = some x) : l.take (k + 1) = l.take k ++ [x] := by
  rw [List.take_add_one, h]; rfl
theorem sentB_ok {l : List Sn} (h : sentB l = true) : l.length ≤ 2000 ∧ ∀ x ∈ l, okSn x := by
  unfold sentB at h
  rw [Bool.and_eq_true, decide_eq_true_eq] at h
  refine ⟨h.1, ?_⟩
  have key : ∀ (l : List Sn) (seen : List Int), snB seen l = true → ∀ x ∈ l, okSn x := by
    intro l
    induction l with
    | nil => intro _ _ x hx; cases hx
    | cons y l ih =>
      intro seen h x hx
      simp only [snB, Bool.and_eq_true, decide_eq_true_eq] at h
      rcases List.mem_cons.1 hx with e | hx
      · subst e; exact h.1
      · exact ih _ h.2.2 x hx
  exact key l [] h.2
set_option maxRecDepth 4000 in
set_option maxHeartbeats 8000000 in
theorem measure_bad (g : Nat) (of : Sn → Lane) (A : Option Addr) (c : Nat) (l : List Sd) (B : Option Addr) (bc : Nat) (s : List Sn) (now risk : Int) (w : World) (hl : l.length ≤ 9223372036854775807) (hsl : s.length ≤ 9223372036854775807) (h : RS w 4 sdC A l) (h2 : RS w 6 snC B s) (hbad : ¬ msOk l s now risk) :
    Calls Tryz.prog 36 #[.slice A l.length c, .slice B s.length bc, .int .i64 now, .int .i64 risk, .func (.func g) #[] #[]] w fun e w' => ∃ v : Value, True ∧ e = .returned (.tuple #[v, .int .i64 (msF of l s now risk).1]) ∧ St w Cold [.own v 35 9 (msF of l s now risk).2.length ((msF of l s now risk).2.flatMap rwC)] w' := by
  have hR := fun w' h' => Right_c A c l w' hl h'
  have hS := fun w' h' => RightSent_c B bc s w' hsl h'
  have hT := fun w' => isTime_c now w'
  have e : msF of l s now risk = (2, []) := if_neg hbad
  rw [e]
  unfold msOk at hbad
  generalize sdsB l = R at *
  generalize sentB s = S at *
  generalize hn : l.length = n at *
  generalize hm : s.length = m at *
  refine eng_start (n := 124) (args := [.slice A n c, .slice B m bc, .int .i64 now, .int .i64 risk, .func (.func g) #[] #[]]) tab tab_ok fns fns_ok [.tmp 10, .tmp 11] Tryz.func36 rfl rfl rfl rfl ?_
  cases R <;> cases S <;> by_cases ht : timeI now
  all_goals
    first | rw [decide_eq_true ht] at hT | rw [decide_eq_false ht] at hT
    simp only [ht, true_and, false_and, and_true, and_false, not_true_eq_false, not_false_eq_true, Bool.false_eq_true] at hbad
    repeat' (first | (refine gJ ?_; first | refine js rfl rfl rfl rfl ?_ | (refine gcall rfl rfl ?_; first | (refine j_qc (f := 44) rfl rfl rfl rfl rfl rfl rfl ?_; refine ⟨_, (fun w' hs => hR w' (h.st hs)), ?_⟩) | (refine j_qc (f := 45) rfl rfl rfl rfl rfl rfl rfl ?_; refine ⟨_, (fun w' hs => hS w' (h2.st hs)), ?_⟩) | (refine j_qc (f := 46) rfl rfl rfl rfl rfl rfl rfl ?_; refine ⟨_, (fun w' _ => hT w'), ?_⟩))) | (refine gSC ?_; first | refine sc_mv rfl ?_ | refine sc_q rfl ?_ | refine sc_region ?_) | (refine gSQ ?_; first | refine sq_go rfl ?_ | refine sq_mv rfl ?_ | refine sq_ende (by first | exact .inl rfl | exact .inr rfl) rfl rfl ⟨_, (RVs.cons (RV.tmp rfl) (RVs.cons (RV.tmp rfl) (RVs.nil))), ?_⟩) | refine j_nil ?_ | ((first | refine j_guard rfl rfl rfl rfl rfl ?_ ?_ | refine sc_cond rfl ?_ ?_) <;> intro hc <;> (first | exact absurd hc (by decide) | ((try simp only [engHC] at hc) <;> first | (exfalso; omega) | skip))))
    all_goals
      intro w' hS9
      exact ⟨_, trivial, rfl, hS9.own_nil.sub (by repeat (first | exact LSub.refl | refine LSub.cons (by repeat (first | exact Rem.here | apply Rem.there)) ?_ | apply LSub.skip))⟩
end Go.Proofs.YtmakokbpadmfbaaGreat
