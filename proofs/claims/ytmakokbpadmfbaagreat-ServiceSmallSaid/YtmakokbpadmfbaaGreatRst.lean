/-
  letterbagref40, letterbagref41: Right, RightSent, Promise, outcome, Judge, Verdict.
-/
import Derived.Test.YtmakokbpadmfbaaGreatMe4
import Derived.Test.YtmakokbpadmfbaaGreatEngCoreB
import Derived.Test.YtmakokbpadmfbaaGreatSml
namespace Go.Proofs.YtmakokbpadmfbaaGreat
open Go.RowKit Eng
set_option linter.unusedVariables false
set_option linter.unusedSimpArgs false
set_option maxHeartbeats 8000000
attribute [local irreducible] SC SQ J Qt Calls Iterates LSub FSub
theorem sc_joinR {α : Type} {C : Cx} {c : Code} {K : List KI} (F' : α → Fr) (L' : α → List HA) {G : Prop} (body : ∀ x, SC C c K (F' x) (L' x)) (main : (∀ x, SC C c K (F' x) (L' x)) → G) : G := main body
theorem in_c (n lo hi : Int) (w : World) : Calls Tryz.prog 100 #[.int .i64 n, .int .i64 lo, .int .i64 hi] w fun e w' => e = .returned (.bool (decide (lo ≤ n ∧ n ≤ hi))) ∧ Below w.heap.size w w' := by
  refine eng_start (n := 15) (args := [.int .i64 n, .int .i64 lo, .int .i64 hi]) tab tab_ok fns fns_ok [.tmp 6] Tryz.func100 rfl rfl rfl rfl ?_
  repeat' (first | (refine gJ ?_; refine js rfl rfl rfl rfl ?_) | (refine gSC ?_; first | refine sc_mv rfl ?_ | refine sc_q rfl ?_ | refine sc_region ?_) | (refine gSQ ?_; first | refine sq_go rfl ?_ | refine sq_ende (by first | exact .inl rfl | exact .inr rfl) rfl rfl ⟨_, (RVs.cons (RV.tmp rfl) (RVs.nil)), ?_⟩) | refine j_nil ?_ | ((refine j_guard rfl rfl rfl rfl rfl ?_ ?_) <;> intro hc <;> (first | exact absurd hc (by decide) | ((try simp only [engHC] at hc) <;> skip))))
  all_goals ((intro w' hS; refine ⟨?_, hS.below⟩; simp only [pack]); exact rb (by symm; first | (rw [decide_eq_true_eq]; omega) | (rw [decide_eq_false_iff_not]; omega) | (rw [decide_eq_decide]; omega)))
theorem sdCmp_lt (x y : Sd) : sdCmp x y < 0 ↔ x.cl < y.cl ∨ (x.cl = y.cl ∧ (x.fr < y.fr ∨ (x.fr = y.fr ∧ x.to < y.to))) := by
  unfold sdCmp
  simp only [orF, cmpI]
  (repeat' split) <;> omega
theorem ahead_c (x y : Sd) (w : World) : Calls Tryz.prog 101 #[sdV x, sdV y] w fun e w' => e = .returned (.bool (decide (sdCmp x y < 0))) ∧ Below w.heap.size w w' := by
  have h := sdCmp_lt x y
  generalize sdCmp x y = s at *
  refine eng_start (n := 30) (args := [sdV x, sdV y]) tab tab_ok fns fns_ok [.tmp 4] Tryz.func101 rfl rfl rfl rfl ?_
  repeat' (first | (refine gJ ?_; first | refine js rfl rfl rfl rfl ?_ | (refine gload rfl rfl ?_; refine j_qe rfl rfl rfl ?_; refine ⟨_, q_load_own rfl rfl rfl rfl (by (repeat constructor)) (by first | rfl | assumption), ?_⟩) | refine jfield rfl rfl rfl rfl rfl rfl rfl rfl ?_ | (refine gF ?_; (refine j_box rfl rfl rfl rfl rfl ?_; intro b))) | (refine gSC ?_; first | refine sc_mv rfl ?_ | refine sc_q rfl ?_ | refine sc_region ?_) | (refine gSQ ?_; first | refine sq_go rfl ?_ | refine sq_mv rfl ?_ | refine sq_ende (by first | exact .inl rfl | exact .inr rfl) rfl rfl ⟨_, (RVs.cons (RV.tmp rfl) (RVs.nil)), ?_⟩) | refine j_nil ?_ | ((refine sc_cond rfl ?_ ?_) <;> intro hc <;> (((try simp only [engHC] at hc) <;> skip))))
  all_goals ((intro w' hS; refine ⟨?_, hS.below⟩; simp only [pack]); exact rb (by symm; first | (rw [decide_eq_true_eq]; omega) | (rw [decide_eq_false_iff_not]; omega) | (rw [decide_eq_decide]; omega)))
set_option maxHeartbeats 8000000 in
theorem rRight_c (A : Option Addr) (c : Nat) (l : List Sd) (w : World) (hl : l.length ≤ 9223372036854775807) (hcl : ∀ x ∈ l, 0 ≤ x.cl) (h : RS w 4 sdC A l) : Calls Tryz.prog 81 #[.slice A l.length c] w fun e w' => e = .returned (.bool (sdsB l)) ∧ Below w.heap.size w w' := by
  have hno := fun i => sdsB_no (l := l) (i := i)
  have hyes : (List.range l.length).all (okAtB l) = true → sdsB l = decide (l.length ≤ 500) := fun h2 => by unfold sdsB; rw [h2, Bool.and_true]
  generalize hR : sdsB l = R at *
  clear hR
  generalize hn : l.length = n at *
  refine eng_start (n := 53) (args := [.slice A n c]) tab tab_ok fns fns_ok [.tmp 2] Tryz.func81 rfl rfl rfl rfl ?_
  repeat' (first | (refine gJ ?_; refine js rfl rfl rfl rfl ?_) | (refine gSC ?_; first | refine sc_mv rfl ?_ | refine sc_region ?_) | (refine gSQ ?_; refine sq_go rfl ?_) | refine j_nil ?_)
  refine sc_loop (ι := Nat) (fun i => i ≤ n ∧ (List.range i).all (okAtB l) = true) (fun i => n - i) (fun i => [(0, .slice A n c), (3, .int .i64 i)]) (fun _ => []) 0 ⟨by omega, rfl⟩ (by (try dsimp only); exact (by repeat (first | exact FSub.nil | refine FSub.cons rfl ?_ | refine FSub.conse rfl (by congr 1; omega) ?_))) (by repeat (first | exact LSub.refl | refine LSub.cons (by repeat (first | exact Rem.here | apply Rem.there)) ?_ | apply LSub.skip)) ?_
  rintro i ⟨hi, hr⟩
  dsimp only at hi hr ⊢
  by_cases hlt : i < n
  · obtain ⟨x, hx⟩ : ∃ x, l[i]? = some x := ⟨_, List.getElem?_eq_getElem (by omega)⟩
    obtain ⟨ad, rfl, hX⟩ := h i x hx
    have hat : okAtB l i = (decide (okSd x) && (if i = 0 then true else match l[i - 1]? with
      | some y => decide (sdCmp y x < 0)
      | none => true)) := by unfold okAtB; rw [hx]; rfl
    have hnext : okAtB l i = true → (List.range (i + 1)).all (okAtB l) = true := fun h1 => by
      rw [List.range_succ, List.all_append, hr]; simp [h1]
    have h1 := fun w' => in_c x.fr 1 999999 w'
    have h2 := fun w' => in_c x.to 1 999999 w'
    have h3 := fun w' => in_c x.mi 0 100000 w'
    by_cases hok : okSd x
    · have hok' := hok
      unfold okSd at hok'
      rw [decide_eq_true hok, Bool.true_and] at hat
      rw [decide_eq_true (by omega)] at h1 h2 h3
      by_cases hi0 : i = 0
      · subst hi0
        rw [if_pos rfl] at hat
        repeat' (first | (refine gJ ?_; first | refine js rfl rfl rfl rfl ?_ | (refine gload rfl rfl ?_; refine j_qe rfl rfl rfl ?_; first | refine ⟨_, q_load_own rfl rfl rfl rfl (by (repeat constructor)) (by first | rfl | assumption), ?_⟩ | refine ⟨_, q_loadA_ext rfl rfl rfl rfl ⟨by assumption, (by first | exact id | assumption)⟩ (by rfl), ?_⟩) | refine jfield rfl rfl rfl rfl rfl rfl rfl rfl ?_ | refine jar rfl rfl rfl rfl rfl rfl rfl (by omega) ?_ | (refine gcall rfl rfl ?_; first | (refine j_qc (f := 100) rfl rfl rfl rfl rfl rfl rfl ?_; refine ⟨_, (fun w' _ => h1 w'), ?_⟩) | (refine j_qc (f := 100) rfl rfl rfl rfl rfl rfl rfl ?_; refine ⟨_, (fun w' _ => h2 w'), ?_⟩) | (refine j_qc (f := 100) rfl rfl rfl rfl rfl rfl rfl ?_; refine ⟨_, (fun w' _ => h3 w'), ?_⟩)) | (refine gF ?_; first | refine j_store rfl rfl rfl rfl rfl rfl rfl rfl (by (repeat constructor)) (by rfl) ?_ | (refine j_alloc rfl rfl rfl rfl rfl ?_; intro b)) | (refine j_qe rfl rfl rfl ?_; first | refine ⟨_, q_index_nat rfl rfl rfl rfl rfl (by omega), ?_⟩ | refine ⟨_, q_len_slice rfl rfl rfl rfl, ?_⟩)) | (refine gSC ?_; first | refine sc_mv rfl ?_ | refine sc_q rfl ?_ | refine sc_region ?_ | refine sc_draw rfl mixed (by kernel_rfl) ?_) | (refine gSQ ?_; first | refine sq_go rfl ?_ | refine sq_mv rfl ?_) | refine j_nil ?_ | ((first | refine j_guard rfl rfl rfl rfl rfl ?_ ?_ | refine sc_cond rfl ?_ ?_) <;> intro hc <;> (first | exact absurd hc (by decide) | ((try simp only [engHC] at hc) <;> first | (exfalso; omega) | skip))))
        exact sq_loop 1 ⟨by show 1 ≤ n; omega, hnext hat⟩ (by show n - 1 < n - 0; omega) (by (try dsimp only); exact (by repeat (first | exact FSub.nil | refine FSub.cons rfl ?_ | refine FSub.conse rfl (by congr 1; omega) ?_))) (by repeat (first | exact LSub.refl | refine LSub.cons (by repeat (first | exact Rem.here | apply Rem.there)) ?_ | apply LSub.skip))
      · rw [if_neg hi0] at hat
        obtain ⟨y, hy⟩ : ∃ y, l[i - 1]? = some y := ⟨_, List.getElem?_eq_getElem (by omega)⟩
        obtain ⟨_, e9, hY⟩ := h (i - 1) y hy
        cases e9
        rw [hy] at hat
        dsimp only at hat
        have h4 := fun w' => ahead_c y x w'
        rw [← hat] at h4
        cases hq : okAtB l i
        · rw [hq] at h4
          repeat' (first | (refine gJ ?_; first | refine js rfl rfl rfl rfl ?_ | (refine gload rfl rfl ?_; refine j_qe rfl rfl rfl ?_; first | refine ⟨_, q_load_own rfl rfl rfl rfl (by (repeat constructor)) (by first | rfl | assumption), ?_⟩ | refine ⟨_, q_loadA_own rfl rfl rfl rfl (by (repeat constructor)) (by rfl), ?_⟩ | refine ⟨_, q_loadA_ext rfl rfl rfl rfl ⟨by assumption, (by first | exact id | assumption)⟩ (by rfl), ?_⟩) | refine jfield rfl rfl rfl rfl rfl rfl rfl rfl ?_ | refine jar rfl rfl rfl rfl rfl rfl rfl (by omega) ?_ | (refine gcall rfl rfl ?_; first | (refine j_qc (f := 100) rfl rfl rfl rfl rfl rfl rfl ?_; refine ⟨_, (fun w' _ => h1 w'), ?_⟩) | (refine j_qc (f := 100) rfl rfl rfl rfl rfl rfl rfl ?_; refine ⟨_, (fun w' _ => h2 w'), ?_⟩) | (refine j_qc (f := 100) rfl rfl rfl rfl rfl rfl rfl ?_; refine ⟨_, (fun w' _ => h3 w'), ?_⟩) | (refine j_qc (f := 101) rfl rfl rfl rfl rfl rfl rfl ?_; refine ⟨_, (fun w' _ => h4 w'), ?_⟩)) | (refine j_qe rfl rfl rfl ?_; refine ⟨_, q_index_at (i - 1) rfl rfl rfl rfl rfl (by omega), ?_⟩) | (refine gF ?_; first | refine j_store rfl rfl rfl rfl rfl rfl rfl rfl (by (repeat constructor)) (by rfl) ?_ | (refine j_alloc rfl rfl rfl rfl rfl ?_; intro b)) | (refine j_qe rfl rfl rfl ?_; first | refine ⟨_, q_index_nat rfl rfl rfl rfl rfl (by omega), ?_⟩ | refine ⟨_, q_len_slice rfl rfl rfl rfl, ?_⟩)) | (refine gSC ?_; first | refine sc_mv rfl ?_ | refine sc_q rfl ?_ | refine sc_region ?_ | refine sc_draw rfl mixed (by kernel_rfl) ?_) | (refine gSQ ?_; first | refine sq_go rfl ?_ | refine sq_mv rfl ?_ | refine sq_ende (by first | exact .inl rfl | exact .inr rfl) rfl rfl ⟨_, (RVs.cons (RV.tmp rfl) (RVs.nil)), ?_⟩) | refine j_nil ?_ | ((first | refine j_guard rfl rfl rfl rfl rfl ?_ ?_ | refine sc_cond rfl ?_ ?_) <;> intro hc <;> (first | exact absurd hc (by decide) | ((try simp only [engHC] at hc) <;> first | (exfalso; omega) | skip))))
          all_goals ((intro w' hS; refine ⟨?_, hS.below⟩; simp only [pack]); exact rb (hno i hlt hq).symm)
        · rw [hq] at h4
          repeat' (first | (refine gJ ?_; first | refine js rfl rfl rfl rfl ?_ | (refine gload rfl rfl ?_; refine j_qe rfl rfl rfl ?_; first | refine ⟨_, q_load_own rfl rfl rfl rfl (by (repeat constructor)) (by first | rfl | assumption), ?_⟩ | refine ⟨_, q_loadA_own rfl rfl rfl rfl (by (repeat constructor)) (by rfl), ?_⟩ | refine ⟨_, q_loadA_ext rfl rfl rfl rfl ⟨by assumption, (by first | exact id | assumption)⟩ (by rfl), ?_⟩) | refine jfield rfl rfl rfl rfl rfl rfl rfl rfl ?_ | refine jar rfl rfl rfl rfl rfl rfl rfl (by omega) ?_ | (refine gcall rfl rfl ?_; first | (refine j_qc (f := 100) rfl rfl rfl rfl rfl rfl rfl ?_; refine ⟨_, (fun w' _ => h1 w'), ?_⟩) | (refine j_qc (f := 100) rfl rfl rfl rfl rfl rfl rfl ?_; refine ⟨_, (fun w' _ => h2 w'), ?_⟩) | (refine j_qc (f := 100) rfl rfl rfl rfl rfl rfl rfl ?_; refine ⟨_, (fun w' _ => h3 w'), ?_⟩) | (refine j_qc (f := 101) rfl rfl rfl rfl rfl rfl rfl ?_; refine ⟨_, (fun w' _ => h4 w'), ?_⟩)) | (refine j_qe rfl rfl rfl ?_; refine ⟨_, q_index_at (i - 1) rfl rfl rfl rfl rfl (by omega), ?_⟩) | (refine gF ?_; first | refine j_store rfl rfl rfl rfl rfl rfl rfl rfl (by (repeat constructor)) (by rfl) ?_ | (refine j_alloc rfl rfl rfl rfl rfl ?_; intro b)) | (refine j_qe rfl rfl rfl ?_; first | refine ⟨_, q_index_nat rfl rfl rfl rfl rfl (by omega), ?_⟩ | refine ⟨_, q_len_slice rfl rfl rfl rfl, ?_⟩)) | (refine gSC ?_; first | refine sc_mv rfl ?_ | refine sc_q rfl ?_ | refine sc_region ?_ | refine sc_draw rfl mixed (by kernel_rfl) ?_) | (refine gSQ ?_; first | refine sq_go rfl ?_ | refine sq_mv rfl ?_) | refine j_nil ?_ | ((first | refine j_guard rfl rfl rfl rfl rfl ?_ ?_ | refine sc_cond rfl ?_ ?_) <;> intro hc <;> (first | exact absurd hc (by decide) | ((try simp only [engHC] at hc) <;> first | (exfalso; omega) | skip))))
          all_goals exact sq_loop (i + 1) ⟨by show i + 1 ≤ n; omega, hnext hq⟩ (by show n - (i + 1) < n - i; omega) (by (try dsimp only); exact (by repeat (first | exact FSub.nil | refine FSub.cons rfl ?_ | refine FSub.conse rfl (by congr 1; omega) ?_))) (by repeat (first | exact LSub.refl | refine LSub.cons (by repeat (first | exact Rem.here | apply Rem.there)) ?_ | apply LSub.skip))
    · have hcl0 := hcl x (List.mem_of_getElem? hx)
      have hok' := hok
      unfold okSd at hok'
      rw [decide_eq_false hok, Bool.false_and] at hat
      generalize hb1 : decide (1 ≤ x.fr ∧ x.fr ≤ 999999) = b1 at *
      generalize hb2 : decide (1 ≤ x.to ∧ x.to ≤ 999999) = b2 at *
      generalize hb3 : decide (0 ≤ x.mi ∧ x.mi ≤ 100000) = b3 at *
      have hfin := hno i hlt hat
      cases b1 <;> cases b2 <;> cases b3 <;> simp only [decide_eq_true_eq, decide_eq_false_iff_not] at hb1 hb2 hb3
      all_goals
        repeat' (first | (refine gJ ?_; first | refine js rfl rfl rfl rfl ?_ | (refine gload rfl rfl ?_; refine j_qe rfl rfl rfl ?_; first | refine ⟨_, q_load_own rfl rfl rfl rfl (by (repeat constructor)) (by first | rfl | assumption), ?_⟩ | refine ⟨_, q_loadA_ext rfl rfl rfl rfl ⟨by assumption, (by first | exact id | assumption)⟩ (by rfl), ?_⟩) | refine jfield rfl rfl rfl rfl rfl rfl rfl rfl ?_ | (refine gcall rfl rfl ?_; first | (refine j_qc (f := 100) rfl rfl rfl rfl rfl rfl rfl ?_; refine ⟨_, (fun w' _ => h1 w'), ?_⟩) | (refine j_qc (f := 100) rfl rfl rfl rfl rfl rfl rfl ?_; refine ⟨_, (fun w' _ => h2 w'), ?_⟩) | (refine j_qc (f := 100) rfl rfl rfl rfl rfl rfl rfl ?_; refine ⟨_, (fun w' _ => h3 w'), ?_⟩)) | (refine gF ?_; first | refine j_store rfl rfl rfl rfl rfl rfl rfl rfl (by (repeat constructor)) (by rfl) ?_ | (refine j_alloc rfl rfl rfl rfl rfl ?_; intro b)) | (refine j_qe rfl rfl rfl ?_; first | refine ⟨_, q_index_nat rfl rfl rfl rfl rfl (by omega), ?_⟩ | refine ⟨_, q_len_slice rfl rfl rfl rfl, ?_⟩) | refine j_guard_undef rfl rfl rfl rfl rfl ?_) | (refine gSC ?_; first | refine sc_mv rfl ?_ | refine sc_q rfl ?_ | refine sc_region ?_ | refine sc_draw rfl mixed (by kernel_rfl) ?_) | (refine gSQ ?_; first | refine sq_go rfl ?_ | refine sq_mv rfl ?_ | refine sq_ende (by first | exact .inl rfl | exact .inr rfl) rfl rfl ⟨_, (RVs.cons (RV.tmp rfl) (RVs.nil)), ?_⟩) | refine j_nil ?_ | ((first | refine j_guard rfl rfl rfl rfl rfl ?_ ?_ | refine sc_cond rfl ?_ ?_) <;> intro hc <;> (first | exact absurd hc (by decide) | ((try simp only [engHC] at hc) <;> first | (exfalso; omega) | skip))))
        all_goals first | ((intro w' hS; refine ⟨?_, hS.below⟩; simp only [pack]); exact rb hfin.symm) | (exfalso; omega)
  · repeat' (first | (refine gJ ?_; first | refine js rfl rfl rfl rfl ?_ | (refine j_qe rfl rfl rfl ?_; refine ⟨_, q_len_slice rfl rfl rfl rfl, ?_⟩)) | (refine gSC ?_; first | refine sc_mv rfl ?_ | refine sc_q rfl ?_ | refine sc_region ?_) | (refine gSQ ?_; first | refine sq_go rfl ?_ | refine sq_mv rfl ?_ | refine sq_ende (by first | exact .inl rfl | exact .inr rfl) rfl rfl ⟨_, (RVs.cons (RV.tmp rfl) (RVs.nil)), ?_⟩) | refine j_nil ?_ | ((refine sc_cond rfl ?_ ?_) <;> intro hc <;> (((try simp only [engHC] at hc) <;> first | (exfalso; omega) | skip))))
    (intro w' hS; refine ⟨?_, hS.below⟩; simp only [pack])
    exact rb (by rw [hyes (by rw [show n = i from by omega]; exact hr)]; rw [decide_eq_decide]; omega)
theorem snB_dup {l : List Sn} {i k : Nat} {x y : Sn} (hk : l[k]? = some y) (hi : l[i]? = some x) (hlt : k < i) (e : y.it = x.it) : sentB l = false := by
  rw [Bool.eq_false_iff, Ne, sentB_iff]
  rintro ⟨_, _, h⟩
  have h1 : (l.map (·.it))[k]? = some y.it := by rw [List.getElem?_map, hk]; rfl
  have h2 : (l.map (·.it))[i]? = some x.it := by rw [List.getElem?_map, hi]; rfl
  rw [e] at h1
  obtain ⟨g1, e1⟩ := List.getElem?_eq_some_iff.1 h1
  obtain ⟨g2, e2⟩ := List.getElem?_eq_some_iff.1 h2
  exact List.pairwise_iff_getElem.1 h k i g1 g2 hlt (e1.trans e2.symm)
theorem sent_bad {l : List Sn} {x : Sn} (hx : x ∈ l) (h : ¬ okSn x) : sentB l = false := by
  rw [Bool.eq_false_iff, Ne, sentB_iff]
  rintro ⟨_, h2, _⟩
  exact h (h2 x hx)
set_option maxHeartbeats 8000000 in
theorem rSent_c (A : Option Addr) (c : Nat) (l : List Sn) (w : World) (hl : l.length ≤ 9223372036854775807) (hcl : ∀ x ∈ l, 0 ≤ x.cl) (h : RS w 6 snC A l) : Calls Tryz.prog 82 #[.slice A l.length c] w fun e w' => e = .returned (.bool (sentB l)) ∧ Below w.heap.size w w' := by
  have hbig : 2000 < l.length → sentB l = false := fun hb => by unfold sentB; rw [decide_eq_false (by omega)]; rfl
  have hdup := fun i k x y hk hi hlt e => snB_dup (l := l) (i := i) (k := k) (x := x) (y := y) hk hi hlt e
  have hbad := fun x hx hn => sent_bad (l := l) (x := x) hx hn
  have hyes : l.length ≤ 2000 → (∀ x ∈ l, okSn x) → (∀ (i k : Nat) (x y : Sn), l[k]? = some y → l[i]? = some x → k < i → y.it ≠ x.it) → sentB l = true := fun h1 h2 h3 => by
    rw [sentB_iff]
    refine ⟨h1, h2, List.pairwise_iff_getElem.2 fun i j hi hj hij => ?_⟩
    rw [List.getElem_map, List.getElem_map]
    rw [List.length_map] at hi hj
    exact h3 j i l[j] l[i] (List.getElem?_eq_getElem hi) (List.getElem?_eq_getElem hj) hij
  generalize sentB l = R at *
  obtain ⟨n, hn⟩ : ∃ n, l.length = n := ⟨_, rfl⟩
  rw [hn] at hl hbig hyes ⊢
  by_cases hb : 2000 < n
  · refine eng_start (n := 70) (args := [.slice A n c]) tab tab_ok fns fns_ok [.tmp 2] Tryz.func82 rfl rfl rfl rfl ?_
    repeat' (first | (refine gJ ?_; first | refine js rfl rfl rfl rfl ?_ | (refine j_qe rfl rfl rfl ?_; refine ⟨_, q_len_slice rfl rfl rfl rfl, ?_⟩)) | (refine gSC ?_; first | refine sc_mv rfl ?_ | refine sc_q rfl ?_ | refine sc_region ?_) | (refine gSQ ?_; first | refine sq_go rfl ?_ | refine sq_mv rfl ?_ | refine sq_ende (by first | exact .inl rfl | exact .inr rfl) rfl rfl ⟨_, (RVs.cons (RV.tmp rfl) (RVs.nil)), ?_⟩) | refine j_nil ?_ | ((refine sc_cond rfl ?_ ?_) <;> intro hc <;> (((try simp only [engHC] at hc) <;> first | (exfalso; omega) | skip))))
    (intro w' hS; refine ⟨?_, hS.below⟩; simp only [pack])
    exact rb (hbig hb).symm
  refine eng_start (n := 70) (args := [.slice A n c]) tab tab_ok fns fns_ok [.tmp 2] Tryz.func82 rfl rfl rfl rfl ?_
  repeat' (first | (refine gJ ?_; first | refine js rfl rfl rfl rfl ?_ | (refine j_qe rfl rfl rfl ?_; refine ⟨_, q_len_slice rfl rfl rfl rfl, ?_⟩)) | (refine gSC ?_; first | refine sc_mv rfl ?_ | refine sc_q rfl ?_ | refine sc_region ?_) | (refine gSQ ?_; refine sq_go rfl ?_) | refine j_nil ?_ | ((refine sc_cond rfl ?_ ?_) <;> intro hc <;> (((try simp only [engHC] at hc) <;> first | (exfalso; omega) | skip))))
  refine sc_loop (ι := Nat) (fun i => i ≤ n ∧ (∀ (j : Nat) (x : Sn), j < i → l[j]? = some x → okSn x) ∧ ∀ (i' k : Nat) (x y : Sn), i' < i → l[k]? = some y → l[i']? = some x → k < i' → y.it ≠ x.it) (fun i => n - i) (fun i => [(0, .slice A n c), (3, .int .i64 i)]) (fun _ => []) 0 ⟨by omega, fun j x hj => by omega, fun i' k x y hi => by omega⟩ (by (try dsimp only); exact (by repeat (first | exact FSub.nil | refine FSub.cons rfl ?_ | refine FSub.conse rfl (by congr 1; omega) ?_))) (by repeat (first | exact LSub.refl | refine LSub.cons (by repeat (first | exact Rem.here | apply Rem.there)) ?_ | apply LSub.skip)) ?_
  rintro i ⟨hi, hr1, hr2⟩
  dsimp only at hi hr1 hr2 ⊢
  by_cases hlt : i < n
  · obtain ⟨x, hx⟩ : ∃ x, l[i]? = some x := ⟨_, List.getElem?_eq_getElem (by omega)⟩
    obtain ⟨ad, rfl, hX⟩ := h i x hx
    have hcl0 := hcl x (List.mem_of_getElem? hx)
    have h1 := fun w' => in_c x.it 1 999999 w'
    have h2 := fun w' => in_c x.fr 1 999999 w'
    have h3 := fun w' => in_c x.to 1 999999 w'
    have h4 := fun w' => in_c x.ac 0 1051898399 w'
    have h5 := fun w' => in_c x.de x.ac 1051898399 w'
    by_cases hok : okSn x
    · have hok' := hok
      unfold okSn at hok'
      rw [decide_eq_true (by omega)] at h1 h2 h3 h4
      clear hyes hbig
      apply sc_joinR (α := Nat) (fun b4 => [(0, .slice (some ad) n c), (3, .int .i64 i), (4, .pointer (some ⟨b4, 0, none⟩))]) (fun b4 => [.cells b4 45 (snC x)])
      case main =>
        intro key
        by_cases hd : x.de = -1
        · repeat' (first | (refine gJ ?_; first | refine js rfl rfl rfl rfl ?_ | (refine gload rfl rfl ?_; refine j_qe rfl rfl rfl ?_; first | refine ⟨_, q_load_own rfl rfl rfl rfl (by (repeat constructor)) (by first | rfl | assumption), ?_⟩ | refine ⟨_, q_loadA_ext rfl rfl rfl rfl ⟨by assumption, (by first | exact id | assumption)⟩ (by rfl), ?_⟩) | refine jfield rfl rfl rfl rfl rfl rfl rfl rfl ?_ | (refine gcall rfl rfl ?_; first | (refine j_qc (f := 100) rfl rfl rfl rfl rfl rfl rfl ?_; refine ⟨_, (fun w' _ => h1 w'), ?_⟩) | (refine j_qc (f := 100) rfl rfl rfl rfl rfl rfl rfl ?_; refine ⟨_, (fun w' _ => h2 w'), ?_⟩) | (refine j_qc (f := 100) rfl rfl rfl rfl rfl rfl rfl ?_; refine ⟨_, (fun w' _ => h3 w'), ?_⟩) | (refine j_qc (f := 100) rfl rfl rfl rfl rfl rfl rfl ?_; refine ⟨_, (fun w' _ => h4 w'), ?_⟩)) | (refine gF ?_; refine j_alloc (t := 45) rfl rfl rfl rfl rfl ?_; intro b4) | (refine gF ?_; refine j_store rfl rfl rfl rfl rfl rfl rfl rfl (by (repeat constructor)) (by rfl) ?_) | (refine j_qe rfl rfl rfl ?_; first | refine ⟨_, q_index_nat rfl rfl rfl rfl rfl (by omega), ?_⟩ | refine ⟨_, q_len_slice rfl rfl rfl rfl, ?_⟩)) | (refine gSC ?_; first | refine sc_stop 11 ?_ | refine sc_mv rfl ?_ | refine sc_q rfl ?_ | refine sc_region ?_) | (refine gSQ ?_; refine sq_go rfl ?_) | refine j_nil ?_ | ((first | refine j_guard rfl rfl rfl rfl rfl ?_ ?_ | refine sc_cond rfl ?_ ?_) <;> intro hc <;> (first | exact absurd hc (by decide) | ((try simp only [engHC] at hc) <;> first | (exfalso; omega) | skip))))
          all_goals exact stop_at _ _ (key b4) (by (try dsimp only); exact (by repeat (first | exact FSub.nil | refine FSub.cons rfl ?_ | refine FSub.conse rfl (by congr 1; omega) ?_))) (by repeat (first | exact LSub.refl | refine LSub.cons (by repeat (first | exact Rem.here | apply Rem.there)) ?_ | apply LSub.skip))
        · rw [decide_eq_true (by omega)] at h5
          repeat' (first | (refine gJ ?_; first | refine js rfl rfl rfl rfl ?_ | (refine gload rfl rfl ?_; refine j_qe rfl rfl rfl ?_; first | refine ⟨_, q_load_own rfl rfl rfl rfl (by (repeat constructor)) (by first | rfl | assumption), ?_⟩ | refine ⟨_, q_loadA_ext rfl rfl rfl rfl ⟨by assumption, (by first | exact id | assumption)⟩ (by rfl), ?_⟩) | refine jfield rfl rfl rfl rfl rfl rfl rfl rfl ?_ | (refine gcall rfl rfl ?_; first | (refine j_qc (f := 100) rfl rfl rfl rfl rfl rfl rfl ?_; refine ⟨_, (fun w' _ => h1 w'), ?_⟩) | (refine j_qc (f := 100) rfl rfl rfl rfl rfl rfl rfl ?_; refine ⟨_, (fun w' _ => h2 w'), ?_⟩) | (refine j_qc (f := 100) rfl rfl rfl rfl rfl rfl rfl ?_; refine ⟨_, (fun w' _ => h3 w'), ?_⟩) | (refine j_qc (f := 100) rfl rfl rfl rfl rfl rfl rfl ?_; refine ⟨_, (fun w' _ => h4 w'), ?_⟩) | (refine j_qc (f := 100) rfl rfl rfl rfl rfl rfl rfl ?_; refine ⟨_, (fun w' _ => h5 w'), ?_⟩)) | (refine gF ?_; refine j_alloc (t := 45) rfl rfl rfl rfl rfl ?_; intro b4) | (refine gF ?_; refine j_store rfl rfl rfl rfl rfl rfl rfl rfl (by (repeat constructor)) (by rfl) ?_) | (refine j_qe rfl rfl rfl ?_; first | refine ⟨_, q_index_nat rfl rfl rfl rfl rfl (by omega), ?_⟩ | refine ⟨_, q_len_slice rfl rfl rfl rfl, ?_⟩)) | (refine gSC ?_; first | refine sc_stop 11 ?_ | refine sc_mv rfl ?_ | refine sc_q rfl ?_ | refine sc_region ?_) | (refine gSQ ?_; refine sq_go rfl ?_) | refine j_nil ?_ | ((first | refine j_guard rfl rfl rfl rfl rfl ?_ ?_ | refine sc_cond rfl ?_ ?_) <;> intro hc <;> (first | exact absurd hc (by decide) | ((try simp only [engHC] at hc) <;> first | (exfalso; omega) | skip))))
          all_goals exact stop_at _ _ (key b4) (by (try dsimp only); exact (by repeat (first | exact FSub.nil | refine FSub.cons rfl ?_ | refine FSub.conse rfl (by congr 1; omega) ?_))) (by repeat (first | exact LSub.refl | refine LSub.cons (by repeat (first | exact Rem.here | apply Rem.there)) ?_ | apply LSub.skip))
      case body =>
        intro b4
        clear h1 h2 h3 h4 h5
        repeat' (first | (refine gJ ?_; refine js rfl rfl rfl rfl ?_) | (refine gSC ?_; first | refine sc_mv rfl ?_ | refine sc_region ?_) | (refine gSQ ?_; refine sq_go rfl ?_) | refine j_nil ?_)
        refine sc_loop (ι := Nat) (fun k => k ≤ i ∧ ∀ (j : Nat) (y : Sn), j < k → l[j]? = some y → y.it ≠ x.it) (fun k => i - k) (fun k => [(0, .slice (some ad) n c), (3, .int .i64 i), (4, .pointer (some ⟨b4, 0, none⟩)), (5, .int .i64 k)]) (fun _ => [.cells b4 45 (snC x)]) 0 ⟨by omega, fun j y hj => by omega⟩ (by (try dsimp only); exact (by repeat (first | exact FSub.nil | refine FSub.cons rfl ?_ | refine FSub.conse rfl (by congr 1; omega) ?_))) (by repeat (first | exact LSub.refl | refine LSub.cons (by repeat (first | exact Rem.here | apply Rem.there)) ?_ | apply LSub.skip)) ?_
        rintro k ⟨hk, hnk⟩
        dsimp only at hk hnk ⊢
        by_cases hlt2 : k < i
        · obtain ⟨y, hy⟩ : ∃ y, l[k]? = some y := ⟨_, List.getElem?_eq_getElem (by omega)⟩
          obtain ⟨ad2, e2, hY⟩ := h k y hy
          cases e2
          have hd := hdup i k x y hy hx hlt2
          repeat' (first | (refine gJ ?_; first | refine js rfl rfl rfl rfl ?_ | (refine gload rfl rfl ?_; refine j_qe rfl rfl rfl ?_; first | refine ⟨_, q_load_own rfl rfl rfl rfl (by (repeat constructor)) (by first | rfl | assumption), ?_⟩ | refine ⟨_, q_load_ext rfl rfl rfl rfl ⟨by assumption, (by first | exact id | assumption)⟩ (by first | rfl | assumption), ?_⟩) | refine jfield rfl rfl rfl rfl rfl rfl rfl rfl ?_ | refine jar rfl rfl rfl rfl rfl rfl rfl (by omega) ?_ | (refine j_qe rfl rfl rfl ?_; first | refine ⟨_, q_index_nat rfl rfl rfl rfl rfl (by omega), ?_⟩ | refine ⟨_, q_field_ext rfl rfl rfl rfl rfl, ?_⟩)) | (refine gSC ?_; first | refine sc_mv rfl ?_ | refine sc_q rfl ?_ | refine sc_region ?_ | refine sc_draw rfl mixed (by kernel_rfl) ?_) | (refine gSQ ?_; first | refine sq_go rfl ?_ | refine sq_mv rfl ?_ | refine sq_ende (by first | exact .inl rfl | exact .inr rfl) rfl rfl ⟨_, (RVs.cons (RV.tmp rfl) (RVs.nil)), ?_⟩) | refine j_nil ?_ | ((refine sc_cond rfl ?_ ?_) <;> intro hc <;> (((try simp only [engHC] at hc) <;> first | (exfalso; omega) | skip))))
          · (intro w' hS; refine ⟨?_, hS.below⟩; simp only [pack])
            exact rb (hd (by assumption)).symm
          · exact sq_loop (k + 1) ⟨by show k + 1 ≤ i; omega, fun j z hj hz => by
              by_cases hjk : j = k
              · subst hjk; rw [hy] at hz; cases hz; assumption
              · exact hnk j z (by omega) hz⟩ (by show i - (k + 1) < i - k; omega) (by (try dsimp only); exact (by repeat (first | exact FSub.nil | refine FSub.cons rfl ?_ | refine FSub.conse rfl (by congr 1; omega) ?_))) (by repeat (first | exact LSub.refl | refine LSub.cons (by repeat (first | exact Rem.here | apply Rem.there)) ?_ | apply LSub.skip))
        · repeat' (first | (refine gJ ?_; first | refine js rfl rfl rfl rfl ?_ | refine jar rfl rfl rfl rfl rfl rfl rfl (by omega) ?_) | (refine gSC ?_; first | refine sc_mv rfl ?_ | refine sc_q rfl ?_ | refine sc_region ?_) | (refine gSQ ?_; first | refine sq_go rfl ?_ | refine sq_mv rfl ?_) | refine j_nil ?_ | ((refine sc_cond rfl ?_ ?_) <;> intro hc <;> (((try simp only [engHC] at hc) <;> first | (exfalso; omega) | skip))))
          exact sq_loop (i + 1) ⟨by show i + 1 ≤ n; omega, fun j z hj hz => by
            by_cases hjk : j = i
            · subst hjk; rw [hx] at hz; cases hz; exact hok
            · exact hr1 j z (by omega) hz, fun i' k' x' y' hi' hk' hx' hlt' => by
            by_cases hjk : i' = i
            · subst hjk; rw [hx] at hx'; cases hx'; exact hnk k' y' (by omega) hk'
            · exact hr2 i' k' x' y' (by omega) hk' hx' hlt'⟩ (by show n - (i + 1) < n - i; omega) (by (try dsimp only); exact (by repeat (first | exact FSub.nil | refine FSub.cons rfl ?_ | refine FSub.conse rfl (by congr 1; omega) ?_))) (by repeat (first | exact LSub.refl | refine LSub.cons (by repeat (first | exact Rem.here | apply Rem.there)) ?_ | apply LSub.skip))
    · have hfin := hbad x (List.mem_of_getElem? hx) hok
      have hok' := hok
      unfold okSn at hok'
      clear hyes hbig hdup hbad hr1 hr2
      generalize hb1 : decide (1 ≤ x.it ∧ x.it ≤ 999999) = b1 at *
      generalize hb2 : decide (1 ≤ x.fr ∧ x.fr ≤ 999999) = b2 at *
      generalize hb3 : decide (1 ≤ x.to ∧ x.to ≤ 999999) = b3 at *
      generalize hb4 : decide (0 ≤ x.ac ∧ x.ac ≤ 1051898399) = b4 at *
      generalize hb5 : decide (x.ac ≤ x.de ∧ x.de ≤ 1051898399) = b5 at *
      by_cases hg : b1 = true ∧ b2 = true ∧ b3 = true ∧ b4 = true
      · obtain ⟨rfl, rfl, rfl, rfl⟩ := hg
        cases b5 <;> simp only [decide_eq_true_eq, decide_eq_false_iff_not] at hb1 hb2 hb3 hb4 hb5
        all_goals
          repeat' (first | (refine gJ ?_; first | refine js rfl rfl rfl rfl ?_ | (refine gload rfl rfl ?_; refine j_qe rfl rfl rfl ?_; first | refine ⟨_, q_load_own rfl rfl rfl rfl (by (repeat constructor)) (by first | rfl | assumption), ?_⟩ | refine ⟨_, q_loadA_ext rfl rfl rfl rfl ⟨by assumption, (by first | exact id | assumption)⟩ (by rfl), ?_⟩) | refine jfield rfl rfl rfl rfl rfl rfl rfl rfl ?_ | (refine gcall rfl rfl ?_; first | (refine j_qc (f := 100) rfl rfl rfl rfl rfl rfl rfl ?_; refine ⟨_, (fun w' _ => h1 w'), ?_⟩) | (refine j_qc (f := 100) rfl rfl rfl rfl rfl rfl rfl ?_; refine ⟨_, (fun w' _ => h2 w'), ?_⟩) | (refine j_qc (f := 100) rfl rfl rfl rfl rfl rfl rfl ?_; refine ⟨_, (fun w' _ => h3 w'), ?_⟩) | (refine j_qc (f := 100) rfl rfl rfl rfl rfl rfl rfl ?_; refine ⟨_, (fun w' _ => h4 w'), ?_⟩) | (refine j_qc (f := 100) rfl rfl rfl rfl rfl rfl rfl ?_; refine ⟨_, (fun w' _ => h5 w'), ?_⟩)) | (refine gF ?_; first | refine j_store rfl rfl rfl rfl rfl rfl rfl rfl (by (repeat constructor)) (by rfl) ?_ | (refine j_alloc rfl rfl rfl rfl rfl ?_; intro b)) | (refine j_qe rfl rfl rfl ?_; first | refine ⟨_, q_index_nat rfl rfl rfl rfl rfl (by omega), ?_⟩ | refine ⟨_, q_len_slice rfl rfl rfl rfl, ?_⟩)) | (refine gSC ?_; first | refine sc_mv rfl ?_ | refine sc_q rfl ?_ | refine sc_region ?_) | (refine gSQ ?_; first | refine sq_go rfl ?_ | refine sq_mv rfl ?_ | refine sq_ende (by first | exact .inl rfl | exact .inr rfl) rfl rfl ⟨_, (RVs.cons (RV.tmp rfl) (RVs.nil)), ?_⟩) | refine j_nil ?_ | ((first | refine j_guard rfl rfl rfl rfl rfl ?_ ?_ | refine sc_cond rfl ?_ ?_) <;> intro hc <;> (first | exact absurd hc (by decide) | ((try simp only [engHC] at hc) <;> first | (exfalso; omega) | skip))))
          all_goals first | ((intro w' hS; refine ⟨?_, hS.below⟩; simp only [pack]); exact rb hfin.symm) | (exfalso; omega)
      · clear hb1 hb2 hb3 hb4 hb5 h5
        cases b1 <;> cases b2 <;> cases b3 <;> cases b4
        all_goals first
          | (exfalso; exact hg ⟨rfl, rfl, rfl, rfl⟩)
          | skip
        all_goals
          repeat' (first | (refine gJ ?_; first | refine js rfl rfl rfl rfl ?_ | (refine gload rfl rfl ?_; refine j_qe rfl rfl rfl ?_; first | refine ⟨_, q_load_own rfl rfl rfl rfl (by (repeat constructor)) (by first | rfl | assumption), ?_⟩ | refine ⟨_, q_loadA_ext rfl rfl rfl rfl ⟨by assumption, (by first | exact id | assumption)⟩ (by rfl), ?_⟩) | refine jfield rfl rfl rfl rfl rfl rfl rfl rfl ?_ | (refine gcall rfl rfl ?_; first | (refine j_qc (f := 100) rfl rfl rfl rfl rfl rfl rfl ?_; refine ⟨_, (fun w' _ => h1 w'), ?_⟩) | (refine j_qc (f := 100) rfl rfl rfl rfl rfl rfl rfl ?_; refine ⟨_, (fun w' _ => h2 w'), ?_⟩) | (refine j_qc (f := 100) rfl rfl rfl rfl rfl rfl rfl ?_; refine ⟨_, (fun w' _ => h3 w'), ?_⟩) | (refine j_qc (f := 100) rfl rfl rfl rfl rfl rfl rfl ?_; refine ⟨_, (fun w' _ => h4 w'), ?_⟩)) | (refine gF ?_; first | refine j_store rfl rfl rfl rfl rfl rfl rfl rfl (by (repeat constructor)) (by rfl) ?_ | (refine j_alloc rfl rfl rfl rfl rfl ?_; intro b)) | (refine j_qe rfl rfl rfl ?_; first | refine ⟨_, q_index_nat rfl rfl rfl rfl rfl (by omega), ?_⟩ | refine ⟨_, q_len_slice rfl rfl rfl rfl, ?_⟩)) | (refine gSC ?_; first | refine sc_mv rfl ?_ | refine sc_q rfl ?_ | refine sc_region ?_) | (refine gSQ ?_; first | refine sq_go rfl ?_ | refine sq_mv rfl ?_ | refine sq_ende (by first | exact .inl rfl | exact .inr rfl) rfl rfl ⟨_, (RVs.cons (RV.tmp rfl) (RVs.nil)), ?_⟩) | refine j_nil ?_ | ((first | refine j_guard rfl rfl rfl rfl rfl ?_ ?_ | refine sc_cond rfl ?_ ?_) <;> intro hc <;> (first | exact absurd hc (by decide) | ((try simp only [engHC] at hc) <;> first | (exfalso; omega) | skip))))
          all_goals ((intro w' hS; refine ⟨?_, hS.below⟩; simp only [pack]); exact rb hfin.symm)
  · repeat' (first | (refine gJ ?_; first | refine js rfl rfl rfl rfl ?_ | (refine j_qe rfl rfl rfl ?_; refine ⟨_, q_len_slice rfl rfl rfl rfl, ?_⟩)) | (refine gSC ?_; first | refine sc_mv rfl ?_ | refine sc_q rfl ?_ | refine sc_region ?_) | (refine gSQ ?_; first | refine sq_go rfl ?_ | refine sq_mv rfl ?_ | refine sq_ende (by first | exact .inl rfl | exact .inr rfl) rfl rfl ⟨_, (RVs.cons (RV.tmp rfl) (RVs.nil)), ?_⟩) | refine j_nil ?_ | ((refine sc_cond rfl ?_ ?_) <;> intro hc <;> (((try simp only [engHC] at hc) <;> first | (exfalso; omega) | skip))))
    (intro w' hS; refine ⟨?_, hS.below⟩; simp only [pack])
    exact rb (hyes (by omega) (fun x hx => by
      obtain ⟨j, hj⟩ := List.getElem?_of_mem hx
      exact hr1 j x (by have := (List.getElem?_eq_some_iff.1 hj).1; omega) hj) (fun i' k x y hk hx hlt' => hr2 i' k x y (by have := (List.getElem?_eq_some_iff.1 hx).1; omega) hk hx hlt')).symm
end Go.Proofs.YtmakokbpadmfbaaGreat
