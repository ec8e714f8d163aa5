/-
  claim: RightSent, Promise; service: Judge.
-/
import Derived.Test.YtmakokbpadmfbaaGreatCl1
namespace Go.Proofs.YtmakokbpadmfbaaGreat
open Go.RowKit Eng
set_option linter.unusedVariables false
set_option linter.unusedSimpArgs false
set_option maxHeartbeats 8000000
attribute [local irreducible] SC SQ J Qt Calls Iterates LSub FSub
structure Sn where
  it : Int
  cl : Int
  fr : Int
  to : Int
  ac : Int
  de : Int
deriving Inhabited, DecidableEq
abbrev snC (x : Sn) : List Value := [.int .i64 x.it, .int .u8 x.cl, .int .i64 x.fr, .int .i64 x.to, .int .i64 x.ac, .int .i64 x.de]
abbrev snV (x : Sn) : Value := .agg (snC x).toArray
def okSn (x : Sn) : Prop := 1 ≤ x.cl ∧ 1 ≤ x.it ∧ x.it ≤ 999999 ∧ 1 ≤ x.fr ∧ x.fr ≤ 999999 ∧ 1 ≤ x.to ∧ x.to ≤ 999999 ∧ 0 ≤ x.ac ∧ x.ac ≤ 1051898399 ∧ (x.de ≠ -1 → x.ac ≤ x.de ∧ x.de ≤ 1051898399)
instance (x : Sn) : Decidable (okSn x) := by unfold okSn; exact inferInstance
def snB : List Int → List Sn → Bool
  | _, [] => true
  | seen, x :: l => decide (okSn x) && (!decide (x.it ∈ seen) && snB (seen ++ [x.it]) l)
def sentB (l : List Sn) : Bool := decide (l.length ≤ 2000) && snB [] l
abbrev idsM (seen : List Int) : List (Int × Value) := seen.map fun k => (k, .bool true)
theorem mlk_ids : ∀ (seen : List Int) (k : Int), mlk (idsM seen) k = if k ∈ seen then some (.bool true) else none
  | [], k => rfl
  | x :: seen, k => by
    have ih := mlk_ids seen k
    simp only [idsM, List.map_cons, mlk, List.mem_cons] at ih ⊢
    by_cases h : x = k
    · subst h; simp
    · rw [if_neg h, ih]
      have : ¬ k = x := fun e => h e.symm
      simp [this]
theorem mset_ids : ∀ (seen : List Int) (k : Int), k ∉ seen → mset (idsM seen) k (.bool true) = idsM (seen ++ [k])
  | [], k, _ => rfl
  | x :: seen, k, h => by
    have ih := mset_ids seen k (fun h' => h (List.mem_cons_of_mem _ h'))
    have hx : ¬ x = k := fun e => h (e ▸ List.mem_cons_self)
    simp only [idsM, List.map_cons, List.cons_append, mset, if_neg hx] at ih ⊢
    rw [ih]
theorem within4 (a c d e : Int) : withinL [idL a, idL c, idL d, ⟨e, 0, 1051898399⟩] = decide (1 ≤ a ∧ a ≤ 999999 ∧ 1 ≤ c ∧ c ≤ 999999 ∧ 1 ≤ d ∧ d ≤ 999999 ∧ 0 ≤ e ∧ e ≤ 1051898399) := by
  simp only [withinL, idL, List.all_cons, List.all_nil, Bool.and_true]
  rw [Bool.eq_iff_iff]
  simp only [Bool.and_eq_true, decide_eq_true_eq]
  omega
theorem within1 (a c : Int) : withinL [⟨a, c, 1051898399⟩] = decide (c ≤ a ∧ a ≤ 1051898399) := by
  simp only [withinL, List.all_cons, List.all_nil, Bool.and_true]
theorem within4_c (a c d e : Int) (b u : Nat) {w0 w' : World} {hot : Nat → Prop} {L : List HA} {cs : List Value} (hs : St w0 hot L w') (hin : InL L (.cells b u cs)) (hx : cs = [idL a, idL c, idL d, ⟨e, 0, 1051898399⟩].flatMap lmC) :
    Calls Tryz.prog 74 #[.slice (some ⟨b, 0, none⟩) 4 4] w' fun e' w'' => e' = .returned (.bool (decide (1 ≤ a ∧ a ≤ 999999 ∧ 1 ≤ c ∧ c ≤ 999999 ∧ 1 ≤ d ∧ d ≤ 999999 ∧ 0 ≤ e ∧ e ≤ 1051898399))) ∧ Below w'.heap.size w' w'' := by
  have := within_c (some ⟨b, 0, none⟩) 4 [idL a, idL c, idL d, ⟨e, 0, 1051898399⟩] w' (by simp) (rs_lit (f := lmC) _ (fun _ => rfl) hs hin hx)
  rw [within4] at this
  exact this
theorem within1_c (a c : Int) (b u : Nat) {w0 w' : World} {hot : Nat → Prop} {L : List HA} {cs : List Value} (hs : St w0 hot L w') (hin : InL L (.cells b u cs)) (hx : cs = [(⟨a, c, 1051898399⟩ : Lm)].flatMap lmC) :
    Calls Tryz.prog 74 #[.slice (some ⟨b, 0, none⟩) 1 1] w' fun e' w'' => e' = .returned (.bool (decide (c ≤ a ∧ a ≤ 1051898399))) ∧ Below w'.heap.size w' w'' := by
  have := within_c (some ⟨b, 0, none⟩) 1 [⟨a, c, 1051898399⟩] w' (by simp) (rs_lit (f := lmC) _ (fun _ => rfl) hs hin hx)
  rw [within1] at this
  exact this
set_option maxHeartbeats 8000000 in
theorem RightSent_c (A : Option Addr) (c : Nat) (l : List Sn) (w : World) (hl : l.length ≤ 9223372036854775807) (h : RS w 6 snC A l) : Calls Tryz.prog 45 #[.slice A l.length c] w fun e w' => e = .returned (.bool (sentB l)) ∧ Below w.heap.size w w' := by
  obtain ⟨n, hn⟩ : ∃ n, l.length = n := ⟨_, rfl⟩
  by_cases hbig : 2000 < l.length
  · have e1 : sentB l = false := by unfold sentB; rw [decide_eq_false (by omega)]; rfl
    rw [e1]
    rw [hn] at hl hbig ⊢
    refine eng_start (n := 59) (args := [.slice A n c]) tab tab_ok fns fns_ok [.tmp 2] Tryz.func45 rfl rfl rfl rfl ?_
    repeat' (first | (refine gJ ?_; first | refine js rfl rfl rfl rfl ?_ | (refine j_qe rfl rfl rfl ?_; refine ⟨_, q_len_slice rfl rfl rfl rfl, ?_⟩)) | (refine gSC ?_; first | refine sc_mv rfl ?_ | refine sc_q rfl ?_ | refine sc_region ?_) | (refine gSQ ?_; first | refine sq_go rfl ?_ | refine sq_mv rfl ?_ | refine sq_ende (by first | exact .inl rfl | exact .inr rfl) rfl rfl ⟨_, (RVs.cons (RV.tmp rfl) (RVs.nil)), ?_⟩) | refine j_nil ?_ | ((refine sc_cond rfl ?_ ?_) <;> intro hc <;> (((try simp only [engHC] at hc) <;> first | (exfalso; omega) | skip))))
    (intro w' hS; refine ⟨?_, hS.below⟩; simp only [pack])
  · have e1 : sentB l = snB [] l := by unfold sentB; rw [decide_eq_true (by omega)]; rfl
    rw [e1]
    rw [hn] at hl hbig ⊢
    refine eng_start (n := 59) (args := [.slice A n c]) tab tab_ok fns fns_ok [.tmp 2] Tryz.func45 rfl rfl rfl rfl ?_
    repeat' (first | (refine gJ ?_; first | refine js rfl rfl rfl rfl ?_ | (refine gF ?_; refine j_makeMapN .i64 rfl rfl rfl rfl rfl rfl rfl ?_; intro bm) | (refine j_qe rfl rfl rfl ?_; refine ⟨_, q_len_slice rfl rfl rfl rfl, ?_⟩)) | (refine gSC ?_; first | refine sc_mv rfl ?_ | refine sc_q rfl ?_ | refine sc_region ?_) | (refine gSQ ?_; refine sq_go rfl ?_) | refine j_nil ?_ | ((refine sc_cond rfl ?_ ?_) <;> intro hc <;> (((try simp only [engHC] at hc) <;> first | (exfalso; omega) | skip))))
    refine sc_loop (ι := Nat × List Int) (fun i => i.1 ≤ n ∧ snB [] l = snB i.2 (l.drop i.1)) (fun i => n - i.1) (fun i => [(3, .map (some bm)), (12, .slice A n c), (13, .int .i64 n), (14, .int .i64 i.1)]) (fun i => [haMap bm .i64 (idsM i.2)]) (0, []) ⟨by omega, rfl⟩ (by repeat (first | exact FSub.nil | refine FSub.cons rfl ?_ | refine FSub.conse rfl (by congr 1; omega) ?_)) (by repeat (first | exact LSub.nil | refine LSub.cons (by repeat (first | exact Rem.here | apply Rem.there)) ?_)) ?_
    rintro ⟨k, seen⟩ ⟨hk, hr⟩
    dsimp only at hk hr ⊢
    by_cases hlt : k < n
    · obtain ⟨x, hx⟩ : ∃ x, l[k]? = some x := ⟨_, List.getElem?_eq_getElem (by omega)⟩
      obtain ⟨ad, rfl, hX⟩ := h k x hx
      rw [drop_cons hx] at hr
      simp only [snB] at hr
      have hmv := mlk_ids seen x.it
      by_cases hin : x.it ∈ seen
      · rw [if_pos hin] at hmv
        rw [decide_eq_true hin] at hr
        repeat' (first | (refine gJ ?_; first | refine js rfl rfl rfl rfl ?_ | (refine gload rfl rfl ?_; refine j_qe rfl rfl rfl ?_; first | refine ⟨_, q_load_own rfl rfl rfl rfl (by (repeat constructor)) (by first | rfl | assumption), ?_⟩ | refine ⟨_, q_loadA_ext rfl rfl rfl rfl ⟨by assumption, (by first | exact id | assumption)⟩ (by rfl), ?_⟩) | refine jfield rfl rfl rfl rfl rfl rfl rfl rfl ?_ | (refine j_qe rfl rfl rfl ?_; refine ⟨_, q_lookup (v := .bool true) rfl rfl rfl rfl rfl rfl rfl rfl (by (repeat constructor)) (by first | (rw [hmv]; done) | (rw [hmv]; rfl)), ?_⟩) | (refine gF ?_; first | refine j_store rfl rfl rfl rfl rfl rfl rfl rfl (by (repeat constructor)) (by rfl) ?_ | (refine j_alloc rfl rfl rfl rfl rfl ?_; intro b)) | (refine j_qe rfl rfl rfl ?_; refine ⟨_, q_index_nat rfl rfl rfl rfl rfl (by omega), ?_⟩)) | (refine gSC ?_; first | refine sc_mv rfl ?_ | refine sc_q rfl ?_ | refine sc_region ?_) | (refine gSQ ?_; first | refine sq_go rfl ?_ | refine sq_mv rfl ?_ | refine sq_ende (by first | exact .inl rfl | exact .inr rfl) rfl rfl ⟨_, (RVs.cons (RV.tmp rfl) (RVs.nil)), ?_⟩) | refine j_nil ?_ | ((first | refine j_guard rfl rfl rfl rfl rfl ?_ ?_ | refine sc_cond rfl ?_ ?_) <;> intro hc <;> (first | exact absurd hc (by decide) | ((try simp only [engHC] at hc) <;> first | (exfalso; omega) | skip))))
        all_goals ((intro w' hS; refine ⟨?_, hS.below⟩; simp only [pack]); exact rb (by rw [hr]; simp))
      · rw [if_neg hin] at hmv
        rw [decide_eq_false hin] at hr
        clear hl hn e1
        by_cases hok : okSn x
        · rw [decide_eq_true hok] at hr
          have hok' := hok
          unfold okSn at hok'
          repeat' (first | (refine gJ ?_; first | refine js rfl rfl rfl rfl ?_ | (refine gload rfl rfl ?_; refine j_qe rfl rfl rfl ?_; first | refine ⟨_, q_load_own rfl rfl rfl rfl (by (repeat constructor)) (by first | rfl | assumption), ?_⟩ | refine ⟨_, q_loadA_ext rfl rfl rfl rfl ⟨by assumption, (by first | exact id | assumption)⟩ (by rfl), ?_⟩) | refine jfield rfl rfl rfl rfl rfl rfl rfl rfl ?_ | refine jar rfl rfl rfl rfl rfl rfl rfl (by omega) ?_ | (refine gcall rfl rfl ?_; first | (refine j_qc (f := 75) rfl rfl rfl rfl rfl rfl rfl ?_; refine ⟨_, (fun w' _ => id_c _ w'), ?_⟩) | (refine j_qc (f := 74) rfl rfl rfl rfl rfl rfl rfl ?_; refine ⟨_, (fun w' hs => within4_c x.it x.fr x.to x.ac b 119 hs (by (repeat constructor)) rfl), ?_⟩) | (refine j_qc (f := 74) rfl rfl rfl rfl rfl rfl rfl ?_; refine ⟨_, (fun w' hs => within1_c x.de x.ac b 119 hs (by (repeat constructor)) rfl), ?_⟩)) | (refine j_qe rfl rfl rfl ?_; refine ⟨_, q_lookup (v := .bool false) rfl rfl rfl rfl rfl rfl rfl rfl (by (repeat constructor)) (by first | (rw [hmv]; done) | (rw [hmv]; rfl)), ?_⟩) | (refine gF ?_; refine j_mapUpdate (v := .bool true) rfl rfl rfl rfl rfl rfl rfl rfl rfl rfl (by (repeat constructor)) ?_; rw [mset_ids seen x.it hin]) | (refine gF ?_; first | refine j_store rfl rfl rfl rfl rfl rfl rfl rfl (by (repeat constructor)) (by rfl) ?_ | (refine j_alloc rfl rfl rfl rfl rfl ?_; intro b) | (refine j_buildSlice rfl rfl rfl rfl rfl rfl rfl rfl rfl rfl rfl rfl ?_; intro b)) | (refine j_qe rfl rfl rfl ?_; first | refine ⟨_, q_index_nat rfl rfl rfl rfl rfl (by omega), ?_⟩ | refine ⟨_, q_build_struct rfl rfl rfl rfl rfl, ?_⟩)) | (refine gSC ?_; first | refine sc_mv rfl ?_ | refine sc_q rfl ?_ | refine sc_region ?_ | refine sc_auto 9 (.q 0 (.q 1 (.q 2 (.q 3 (.q 4 (.q 5 (.q 6 (.q 7 (.q 8 (.q 9 (.q 10 (.q 11 (.e 12 (.e 13 (.q 14 (.z)))))))))))))))) mixed ?_) | (refine gJG ?_; first | refine jg_q rfl (by kernel_rfl) ?_ | refine jg_e (by kernel_rfl) rfl ?_ | refine jg_done (by kernel_rfl) ?_) | (refine gSQ ?_; first | refine jg_next ?_ | (refine gFE ?_; first | refine jg_next0 ?_ | refine jg_next1 ?_) | refine sq_go rfl ?_ | refine sq_mv rfl ?_) | refine j_nil ?_ | ((first | refine j_guard rfl rfl rfl rfl rfl ?_ ?_ | refine sc_cond rfl ?_ ?_) <;> intro hc <;> (first | exact absurd hc (by decide) | ((try simp only [engHC] at hc) <;> first | (exfalso; omega) | skip))))
          all_goals exact sq_loop (k + 1, seen ++ [x.it]) ⟨by show k + 1 ≤ n; omega, by rw [hr]; rfl⟩ (by show n - (k + 1) < n - k; omega) (by (try dsimp only); exact (by repeat (first | exact FSub.nil | refine FSub.cons rfl ?_ | refine FSub.conse rfl (by congr 1; omega) ?_))) (by repeat (first | exact LSub.refl | refine LSub.cons (by repeat (first | exact Rem.here | apply Rem.there)) ?_ | apply LSub.skip))
        · rw [decide_eq_false hok] at hr
          have hok' := hok
          unfold okSn at hok'
          repeat' (first | (refine gJ ?_; first | refine js rfl rfl rfl rfl ?_ | (refine gload rfl rfl ?_; refine j_qe rfl rfl rfl ?_; first | refine ⟨_, q_load_own rfl rfl rfl rfl (by (repeat constructor)) (by first | rfl | assumption), ?_⟩ | refine ⟨_, q_loadA_ext rfl rfl rfl rfl ⟨by assumption, (by first | exact id | assumption)⟩ (by rfl), ?_⟩) | refine jfield rfl rfl rfl rfl rfl rfl rfl rfl ?_ | (refine gcall rfl rfl ?_; first | (refine j_qc (f := 75) rfl rfl rfl rfl rfl rfl rfl ?_; refine ⟨_, (fun w' _ => id_c _ w'), ?_⟩) | (refine j_qc (f := 74) rfl rfl rfl rfl rfl rfl rfl ?_; refine ⟨_, (fun w' hs => within4_c x.it x.fr x.to x.ac b 119 hs (by (repeat constructor)) rfl), ?_⟩) | (refine j_qc (f := 74) rfl rfl rfl rfl rfl rfl rfl ?_; refine ⟨_, (fun w' hs => within1_c x.de x.ac b 119 hs (by (repeat constructor)) rfl), ?_⟩)) | (refine j_qe rfl rfl rfl ?_; refine ⟨_, q_lookup (v := .bool false) rfl rfl rfl rfl rfl rfl rfl rfl (by (repeat constructor)) (by first | (rw [hmv]; done) | (rw [hmv]; rfl)), ?_⟩) | (refine gF ?_; first | refine j_store rfl rfl rfl rfl rfl rfl rfl rfl (by (repeat constructor)) (by rfl) ?_ | (refine j_alloc rfl rfl rfl rfl rfl ?_; intro b) | (refine j_buildSlice rfl rfl rfl rfl rfl rfl rfl rfl rfl rfl rfl rfl ?_; intro b)) | (refine j_qe rfl rfl rfl ?_; first | refine ⟨_, q_index_nat rfl rfl rfl rfl rfl (by omega), ?_⟩ | refine ⟨_, q_build_struct rfl rfl rfl rfl rfl, ?_⟩)) | (refine gSC ?_; first | refine sc_mv rfl ?_ | refine sc_q rfl ?_ | refine sc_region ?_ | refine sc_auto 9 (.q 0 (.q 1 (.q 2 (.q 3 (.q 4 (.q 5 (.q 6 (.q 7 (.q 8 (.q 9 (.q 10 (.q 11 (.e 12 (.e 13 (.q 14 (.z)))))))))))))))) mixed ?_) | (refine gJG ?_; first | refine jg_q rfl (by kernel_rfl) ?_ | refine jg_e (by kernel_rfl) rfl ?_ | refine jg_done (by kernel_rfl) ?_) | (refine gSQ ?_; first | refine jg_next ?_ | (refine gFE ?_; first | refine jg_next0 ?_ | refine jg_next1 ?_) | refine sq_go rfl ?_ | refine sq_mv rfl ?_ | refine sq_ende (by first | exact .inl rfl | exact .inr rfl) rfl rfl ⟨_, (RVs.cons (RV.tmp rfl) (RVs.nil)), ?_⟩) | refine j_nil ?_ | ((first | refine j_guard rfl rfl rfl rfl rfl ?_ ?_ | refine sc_cond rfl ?_ ?_) <;> intro hc <;> (first | exact absurd hc (by decide) | ((try simp only [engHC] at hc) <;> first | (exfalso; omega) | skip))))
          all_goals ((intro w' hS; refine ⟨?_, hS.below⟩; simp only [pack]); exact rb hr.symm)
    · rw [List.drop_of_length_le (by omega)] at hr
      repeat' (first | (refine gJ ?_; refine js rfl rfl rfl rfl ?_) | (refine gSC ?_; first | refine sc_mv rfl ?_ | refine sc_q rfl ?_ | refine sc_region ?_) | (refine gSQ ?_; first | refine sq_go rfl ?_ | refine sq_mv rfl ?_ | refine sq_ende (by first | exact .inl rfl | exact .inr rfl) rfl rfl ⟨_, (RVs.cons (RV.tmp rfl) (RVs.nil)), ?_⟩) | refine j_nil ?_ | ((refine sc_cond rfl ?_ ?_) <;> intro hc <;> (((try simp only [engHC] at hc) <;> first | (exfalso; omega) | skip))))
      (intro w' hS; refine ⟨?_, hS.below⟩; simp only [pack])
      exact rb hr.symm
/-! ### Promise -/
def sdIs (cl fr to : Int) (x : Sd) : Bool := decide (x.cl = cl ∧ x.fr = fr ∧ x.to = to)
theorem is_c (x : Sd) (cl fr to : Int) (a1 a2 a3 : Addr) (w : World) (h1 : Ext w a1 [.int .u8 cl]) (h2 : Ext w a2 [.int .i64 fr]) (h3 : Ext w a3 [.int .i64 to]) :
    Calls Tryz.prog 120 #[sdV x, .pointer (some a1), .pointer (some a2), .pointer (some a3)] w fun e w' => e = .returned (.bool (sdIs cl fr to x)) ∧ Below w.heap.size w w' := by
  refine eng_start (n := 22) (args := [sdV x, .pointer (some a1), .pointer (some a2), .pointer (some a3)]) tab tab_ok fns fns_ok [.tmp 5] Tryz.func120 rfl rfl rfl rfl ?_
  repeat' (first | (refine gJ ?_; first | refine js rfl rfl rfl rfl ?_ | (refine gload rfl rfl ?_; refine j_qe rfl rfl rfl ?_; first | refine ⟨_, q_load_own rfl rfl rfl rfl (by (repeat constructor)) (by first | rfl | assumption), ?_⟩ | refine ⟨_, q_load_ext0 rfl rfl rfl rfl ⟨by assumption, (by first | exact id | assumption)⟩ (by rfl), ?_⟩) | refine jfield rfl rfl rfl rfl rfl rfl rfl rfl ?_ | (refine gF ?_; (refine j_box rfl rfl rfl rfl rfl ?_; intro b))) | (refine gSC ?_; first | refine sc_mv rfl ?_ | refine sc_q rfl ?_ | refine sc_region ?_) | (refine gSQ ?_; first | refine sq_go rfl ?_ | refine sq_ende (by first | exact .inl rfl | exact .inr rfl) rfl rfl ⟨_, (RVs.cons (RV.tmp rfl) (RVs.nil)), ?_⟩) | refine j_nil ?_ | ((refine j_guard rfl rfl rfl rfl rfl ?_ ?_) <;> intro hc <;> (first | exact absurd hc (by decide) | ((try simp only [engHC] at hc) <;> skip))))
  all_goals ((intro w' hS; refine ⟨?_, hS.below⟩; simp only [pack]); exact rb (by unfold sdIs; simp [*]))
def sdZ : Sd := ⟨0, 0, 0, 0⟩
theorem find_c (A : Option Addr) (c : Nat) (l : List Sd) (cl fr to : Int) (a1 a2 a3 : Addr) (w : World) (hl : l.length ≤ 9223372036854775807) (h : RS w 4 sdC A l) (h1 : Ext w a1 [.int .u8 cl]) (h2 : Ext w a2 [.int .i64 fr]) (h3 : Ext w a3 [.int .i64 to]) :
    Calls Tryz.prog 119 #[.slice A l.length c, .func (.func 120) #[] #[.pointer (some a1), .pointer (some a2), .pointer (some a3)]] w fun e w' => e = .returned (.tuple #[sdV ((l.find? (sdIs cl fr to)).getD sdZ), .bool (l.find? (sdIs cl fr to)).isSome]) ∧ Below w.heap.size w w' := by
  generalize hn : l.length = n at *
  refine eng_start (n := 21) (args := [.slice A n c, .func (.func 120) #[] #[.pointer (some a1), .pointer (some a2), .pointer (some a3)]]) tab tab_ok fns fns_ok [.cell 4 43, .tmp 5] Tryz.func119 rfl rfl rfl rfl ?_
  repeat' (first | (refine gJ ?_; first | refine js rfl rfl rfl rfl ?_ | (refine gF ?_; (refine j_alloc rfl rfl rfl rfl rfl ?_; intro b)) | (refine j_qe rfl rfl rfl ?_; refine ⟨_, q_len_slice rfl rfl rfl rfl, ?_⟩)) | (refine gSC ?_; first | refine sc_mv rfl ?_ | refine sc_region ?_) | (refine gSQ ?_; refine sq_go rfl ?_) | refine j_nil ?_)
  revert b; intro b4
  refine sc_loop (ι := Nat) (fun i => i ≤ n ∧ l.find? (sdIs cl fr to) = (l.drop i).find? (sdIs cl fr to)) (fun i => n - i) (fun i => [(1, .func (.func 120) #[] #[.pointer (some a1), .pointer (some a2), .pointer (some a3)]), (4, .pointer (some ⟨b4, 0, none⟩)), (9, .slice A n c), (10, .int .i64 n), (11, .int .i64 i)]) (fun _ => [.cells b4 43 (sdC sdZ)]) 0 ⟨by omega, rfl⟩ (by (try dsimp only); exact (by repeat (first | exact FSub.nil | refine FSub.cons rfl ?_ | refine FSub.conse rfl (by congr 1; omega) ?_))) (by repeat (first | exact LSub.refl | refine LSub.cons (by repeat (first | exact Rem.here | apply Rem.there)) ?_ | apply LSub.skip)) ?_
  rintro i ⟨hi, hr⟩
  dsimp only at hi hr ⊢
  by_cases hlt : i < n
  · obtain ⟨x, hx⟩ : ∃ x, l[i]? = some x := ⟨_, List.getElem?_eq_getElem (by omega)⟩
    obtain ⟨ad, rfl, hX⟩ := h i x hx
    rw [drop_cons hx, List.find?_cons] at hr
    cases hq : sdIs cl fr to x
    · rw [hq] at hr
      repeat' (first | (refine gJ ?_; first | refine js rfl rfl rfl rfl ?_ | (refine gload rfl rfl ?_; refine j_qe rfl rfl rfl ?_; first | refine ⟨_, q_loadA_own rfl rfl rfl rfl (by (repeat constructor)) (by rfl), ?_⟩ | refine ⟨_, q_loadA_ext rfl rfl rfl rfl ⟨by assumption, (by first | exact id | assumption)⟩ (by rfl), ?_⟩) | refine jar rfl rfl rfl rfl rfl rfl rfl (by omega) ?_ | (refine gcall rfl rfl ?_; (refine j_qc (f := 120) rfl rfl rfl rfl rfl rfl rfl ?_; refine ⟨_, (fun w' hs => hq ▸ is_c x cl fr to a1 a2 a3 w' (h1.st hs) (h2.st hs) (h3.st hs)), ?_⟩)) | (refine gF ?_; first | refine j_store rfl rfl rfl rfl rfl rfl rfl rfl (by (repeat constructor)) (by rfl) ?_ | (refine j_alloc rfl rfl rfl rfl rfl ?_; intro b)) | (refine j_qe rfl rfl rfl ?_; refine ⟨_, q_index_nat rfl rfl rfl rfl rfl (by omega), ?_⟩)) | (refine gSC ?_; first | refine sc_mv rfl ?_ | refine sc_q rfl ?_ | refine sc_region ?_) | (refine gSQ ?_; first | refine sq_go rfl ?_ | refine sq_mv rfl ?_) | refine j_nil ?_ | ((refine sc_cond rfl ?_ ?_) <;> intro hc <;> (first | exact absurd hc (by decide) | ((try simp only [engHC] at hc) <;> first | (exfalso; omega) | skip))))
      exact sq_loop (i + 1) ⟨by show i + 1 ≤ n; omega, hr⟩ (by show n - (i + 1) < n - i; omega) (by (try dsimp only); exact (by repeat (first | exact FSub.nil | refine FSub.cons rfl ?_ | refine FSub.conse rfl (by congr 1; omega) ?_))) (by repeat (first | exact LSub.refl | refine LSub.cons (by repeat (first | exact Rem.here | apply Rem.there)) ?_ | apply LSub.skip))
    · rw [hq] at hr
      repeat' (first | (refine gJ ?_; first | refine js rfl rfl rfl rfl ?_ | (refine gload rfl rfl ?_; refine j_qe rfl rfl rfl ?_; first | refine ⟨_, q_loadA_own rfl rfl rfl rfl (by (repeat constructor)) (by rfl), ?_⟩ | refine ⟨_, q_loadA_ext rfl rfl rfl rfl ⟨by assumption, (by first | exact id | assumption)⟩ (by rfl), ?_⟩) | (refine gcall rfl rfl ?_; (refine j_qc (f := 120) rfl rfl rfl rfl rfl rfl rfl ?_; refine ⟨_, (fun w' hs => hq ▸ is_c x cl fr to a1 a2 a3 w' (h1.st hs) (h2.st hs) (h3.st hs)), ?_⟩)) | (refine gF ?_; first | refine j_store rfl rfl rfl rfl rfl rfl rfl rfl (by (repeat constructor)) (by rfl) ?_ | (refine j_alloc rfl rfl rfl rfl rfl ?_; intro b)) | (refine j_qe rfl rfl rfl ?_; refine ⟨_, q_index_nat rfl rfl rfl rfl rfl (by omega), ?_⟩)) | (refine gSC ?_; first | refine sc_mv rfl ?_ | refine sc_q rfl ?_ | refine sc_region ?_) | (refine gSQ ?_; first | refine sq_go rfl ?_ | refine sq_mv rfl ?_ | refine sq_ende (by first | exact .inl rfl | exact .inr rfl) rfl rfl ⟨_, (RVs.cons (by first | exact RV.cell rfl rfl rfl (by (repeat constructor)) (by rfl) | exact RV.cellA rfl rfl rfl (by (repeat constructor)) (by rfl)) (RVs.cons (RV.tmp rfl) (RVs.nil))), ?_⟩) | refine j_nil ?_ | ((refine sc_cond rfl ?_ ?_) <;> intro hc <;> (first | exact absurd hc (by decide) | ((try simp only [engHC] at hc) <;> first | (exfalso; omega) | skip))))
      (intro w' hS; refine ⟨?_, hS.below⟩; simp only [pack])
      rw [hr]
      rfl
  · rw [List.drop_of_length_le (by omega)] at hr
    repeat' (first | (refine gJ ?_; first | refine js rfl rfl rfl rfl ?_ | (refine gload rfl rfl ?_; refine j_qe rfl rfl rfl ?_; refine ⟨_, q_loadA_own rfl rfl rfl rfl (by (repeat constructor)) (by rfl), ?_⟩) | (refine gF ?_; first | refine j_store rfl rfl rfl rfl rfl rfl rfl rfl (by (repeat constructor)) (by rfl) ?_ | (refine j_alloc rfl rfl rfl rfl rfl ?_; intro b))) | (refine gSC ?_; first | refine sc_mv rfl ?_ | refine sc_q rfl ?_ | refine sc_region ?_) | (refine gSQ ?_; first | refine sq_go rfl ?_ | refine sq_mv rfl ?_ | refine sq_ende (by first | exact .inl rfl | exact .inr rfl) rfl rfl ⟨_, (RVs.cons (by first | exact RV.cell rfl rfl rfl (by (repeat constructor)) (by rfl) | exact RV.cellA rfl rfl rfl (by (repeat constructor)) (by rfl)) (RVs.cons (RV.tmp rfl) (RVs.nil))), ?_⟩) | refine j_nil ?_ | ((refine sc_cond rfl ?_ ?_) <;> intro hc <;> (((try simp only [engHC] at hc) <;> first | (exfalso; omega) | skip))))
    (intro w' hS; refine ⟨?_, hS.below⟩; simp only [pack])
    rw [hr]
    rfl
/-- The promise by a standard. -/
def prT (x : Sd) (ac : Int) : Int := (ac + x.mi) / 1440 * 1440 + 1440 - 1
def prF (l : List Sd) (cl fr to ac : Int) : Int × Bool × Bool := match l.find? (sdIs cl fr to) with
  | none => (0, false, false)
  | some x => if 1051898399 < ac then (0, true, false) else if 1051898399 < prT x ac then (0, true, false) else (prT x ac, true, true)
theorem promise_c (A : Option Addr) (c : Nat) (l : List Sd) (cl fr to ac : Int) (w : World) (hl : l.length ≤ 9223372036854775807) (hm : ∀ x ∈ l, 0 ≤ x.mi ∧ x.mi ≤ 100000) (ha : 0 ≤ ac ∧ ac ≤ 9223372036854775807) (h : RS w 4 sdC A l) :
    Calls Tryz.prog 97 #[.slice A l.length c, .int .u8 cl, .int .i64 fr, .int .i64 to, .int .i64 ac] w fun e w' => e = .returned (.tuple #[.int .i64 (prF l cl fr to ac).1, .bool (prF l cl fr to ac).2.1, .bool (prF l cl fr to ac).2.2]) ∧ Below w.heap.size w w' := by
  have hf := fun a1 a2 a3 w' h h1 h2 h3 => find_c A c l cl fr to a1 a2 a3 w' hl h h1 h2 h3
  unfold prF
  have hmem : ∀ x, l.find? (sdIs cl fr to) = some x → 0 ≤ x.mi ∧ x.mi ≤ 100000 := fun x hx => hm x (List.mem_of_find?_eq_some hx)
  generalize l.find? (sdIs cl fr to) = q at *
  generalize hn : l.length = n at *
  refine eng_start (n := 38) (args := [.slice A n c, .int .u8 cl, .int .i64 fr, .int .i64 to, .int .i64 ac]) tab tab_ok fns fns_ok [.tmp 10, .tmp 11, .tmp 12] Tryz.func97 rfl rfl rfl rfl ?_
  cases q with
  | none =>
    simp only [Option.getD_none, Option.isSome_none] at hf
    repeat' (first | (refine gJ ?_; first | refine js rfl rfl rfl rfl ?_ | (refine gcall rfl rfl ?_; (refine j_qc (f := 119) rfl rfl rfl rfl rfl rfl rfl ?_; refine ⟨_, (fun w' hs => hf _ _ _ w' (h.st hs) (hs.ext (cs := [.int .u8 cl]) (u := 5) (by (repeat constructor))) (hs.ext (cs := [.int .i64 fr]) (u := 3) (by (repeat constructor))) (hs.ext (cs := [.int .i64 to]) (u := 3) (by (repeat constructor)))), ?_⟩)) | (refine gF ?_; first | refine j_store rfl rfl rfl rfl rfl rfl rfl rfl (by (repeat constructor)) (by rfl) ?_ | (refine j_alloc rfl rfl rfl rfl rfl ?_; intro b) | (refine j_box rfl rfl rfl rfl rfl ?_; intro b)) | (refine j_qe rfl rfl rfl ?_; refine ⟨_, q_makeFunc rfl rfl, ?_⟩)) | (refine gSC ?_; first | refine sc_mv rfl ?_ | refine sc_q rfl ?_ | refine sc_region ?_) | (refine gSQ ?_; first | refine sq_go rfl ?_ | refine sq_mv rfl ?_ | refine sq_ende (by first | exact .inl rfl | exact .inr rfl) rfl rfl ⟨_, (RVs.cons (RV.tmp rfl) (RVs.cons (RV.tmp rfl) (RVs.cons (RV.tmp rfl) (RVs.nil)))), ?_⟩) | refine j_nil ?_ | ((first | refine j_guard rfl rfl rfl rfl rfl ?_ ?_ | refine sc_cond rfl ?_ ?_) <;> intro hc <;> (first | exact absurd hc (by decide) | ((try simp only [engHC] at hc) <;> skip))))
    all_goals (intro w' hS; refine ⟨?_, hS.below⟩; simp only [pack])
  | some x =>
    have hx := hmem x rfl
    simp only [Option.getD_some, Option.isSome_some] at hf
    dsimp only
    obtain ⟨p, hp⟩ : ∃ p, p = prT x ac := ⟨_, rfl⟩
    rw [← hp]
    unfold prT at hp
    repeat' (first | (refine gJ ?_; first | refine js rfl rfl rfl rfl ?_ | (refine gload rfl rfl ?_; refine j_qe rfl rfl rfl ?_; refine ⟨_, q_load_own rfl rfl rfl rfl (by (repeat constructor)) (by first | rfl | assumption), ?_⟩) | refine jfield rfl rfl rfl rfl rfl rfl rfl rfl ?_ | refine jar rfl rfl rfl rfl rfl rfl rfl (by omega) ?_ | (refine gcall rfl rfl ?_; (refine j_qc (f := 119) rfl rfl rfl rfl rfl rfl rfl ?_; refine ⟨_, (fun w' hs => hf _ _ _ w' (h.st hs) (hs.ext (cs := [.int .u8 cl]) (u := 5) (by (repeat constructor))) (hs.ext (cs := [.int .i64 fr]) (u := 3) (by (repeat constructor))) (hs.ext (cs := [.int .i64 to]) (u := 3) (by (repeat constructor)))), ?_⟩)) | (refine gF ?_; first | refine j_store rfl rfl rfl rfl rfl rfl rfl rfl (by (repeat constructor)) (by rfl) ?_ | (refine j_alloc rfl rfl rfl rfl rfl ?_; intro b) | (refine j_box rfl rfl rfl rfl rfl ?_; intro b)) | (refine j_qe rfl rfl rfl ?_; first | refine ⟨_, q_makeFunc rfl rfl, ?_⟩ | refine ⟨_, q_quo rfl rfl rfl (by omega), ?_⟩)) | (refine gSC ?_; first | refine sc_mv rfl ?_ | refine sc_q rfl ?_ | refine sc_region ?_) | (refine gSQ ?_; first | refine sq_go rfl ?_ | refine sq_mv rfl ?_ | refine sq_ende (by first | exact .inl rfl | exact .inr rfl) rfl rfl ⟨_, (RVs.cons (RV.tmp rfl) (RVs.cons (RV.tmp rfl) (RVs.cons (RV.tmp rfl) (RVs.nil)))), ?_⟩) | refine j_nil ?_ | ((first | refine j_guard rfl rfl rfl rfl rfl ?_ ?_ | refine sc_cond rfl ?_ ?_) <;> intro hc <;> (first | exact absurd hc (by decide) | ((try simp only [engHC] at hc) <;> skip))))
    all_goals
      (intro w' hS; refine ⟨?_, hS.below⟩; simp only [pack])
      first
        | rw [if_pos (by omega)]
        | rw [if_neg (by omega), if_pos (by omega)]
        | rw [if_neg (by omega), if_neg (by omega), hp]
def promF (l : List Sd) (cl fr to ac : Int) : Int × Int :=
  if sdsB l = true ∧ 0 ≤ ac then (match l.find? (sdIs cl fr to) with
    | none => (0, 6)
    | some x => if 1051898399 < ac then (0, 3) else if 1051898399 < prT x ac then (0, 3) else (prT x ac, 0)) else (0, 2)
theorem sdsB_ok {l : List Sd} (h : sdsB l = true) : l.length ≤ 500 ∧ ∀ x ∈ l, okSd x := by
  unfold sdsB at h
  rw [Bool.and_eq_true, decide_eq_true_eq] at h
  refine ⟨h.1, fun x hx => ?_⟩
  obtain ⟨i, hi⟩ := List.getElem?_of_mem hx
  have h2 := List.all_eq_true.1 h.2 i (List.mem_range.2 (List.getElem?_eq_some_iff.1 hi).1)
  unfold okAtB at h2
  rw [hi] at h2
  simp only [Bool.and_eq_true, decide_eq_true_eq] at h2
  exact h2.1
theorem Promise_c (A : Option Addr) (c : Nat) (l : List Sd) (cl fr to ac : Int) (w : World) (hl : l.length ≤ 9223372036854775807) (ha : -9223372036854775808 ≤ ac ∧ ac ≤ 9223372036854775807) (h : RS w 4 sdC A l) :
    Calls Tryz.prog 77 #[.slice A l.length c, .int .u8 cl, .int .i64 fr, .int .i64 to, .int .i64 ac] w fun e w' => e = .returned (.tuple #[.int .i64 (promF l cl fr to ac).1, .int .i64 (promF l cl fr to ac).2]) ∧ Below w.heap.size w w' := by
  have hR := fun w' h' => Right_c A c l w' hl h'
  have hp := fun w' hm ha h' => promise_c A c l cl fr to ac w' hl hm ha h'
  have hok := fun h => (sdsB_ok (l := l) h).2
  unfold promF
  unfold prF at hp
  generalize l.find? (sdIs cl fr to) = q at *
  generalize sdsB l = R at *
  have hm : R = true → ∀ x ∈ l, 0 ≤ x.mi ∧ x.mi ≤ 100000 := fun h1 x hx => by have := hok h1 x hx; unfold okSd at this; omega
  clear hok
  generalize hn : l.length = n at *
  refine eng_start (n := 39) (args := [.slice A n c, .int .u8 cl, .int .i64 fr, .int .i64 to, .int .i64 ac]) tab tab_ok fns fns_ok [.tmp 10, .tmp 11] Tryz.func77 rfl rfl rfl rfl ?_
  cases R
  · repeat' (first | (refine gJ ?_; first | refine js rfl rfl rfl rfl ?_ | (refine gcall rfl rfl ?_; (refine j_qc (f := 44) rfl rfl rfl rfl rfl rfl rfl ?_; refine ⟨_, (fun w' hs => hR w' (h.st hs)), ?_⟩))) | (refine gSC ?_; first | refine sc_mv rfl ?_ | refine sc_q rfl ?_ | refine sc_region ?_) | (refine gSQ ?_; first | refine sq_go rfl ?_ | refine sq_mv rfl ?_ | refine sq_ende (by first | exact .inl rfl | exact .inr rfl) rfl rfl ⟨_, (RVs.cons (RV.tmp rfl) (RVs.cons (RV.tmp rfl) (RVs.nil))), ?_⟩) | refine j_nil ?_ | ((first | refine j_guard rfl rfl rfl rfl rfl ?_ ?_ | refine sc_cond rfl ?_ ?_) <;> intro hc <;> (first | exact absurd hc (by decide) | ((try simp only [engHC] at hc) <;> skip))))
    all_goals ((intro w' hS; refine ⟨?_, hS.below⟩; simp only [pack]); rfl)
  · by_cases ha0 : 0 ≤ ac
    · rw [if_pos ⟨rfl, ha0⟩]
      replace hp := fun w' h' => hp w' (hm rfl) ⟨ha0, ha.2⟩ h'
      cases q with
      | none =>
        dsimp only at hp ⊢
        repeat' (first | (refine gJ ?_; first | refine js rfl rfl rfl rfl ?_ | (refine gcall rfl rfl ?_; first | (refine j_qc (f := 44) rfl rfl rfl rfl rfl rfl rfl ?_; refine ⟨_, (fun w' hs => hR w' (h.st hs)), ?_⟩) | (refine j_qc (f := 97) rfl rfl rfl rfl rfl rfl rfl ?_; refine ⟨_, (fun w' hs => hp w' (h.st hs)), ?_⟩))) | (refine gSC ?_; first | refine sc_mv rfl ?_ | refine sc_q rfl ?_ | refine sc_region ?_) | (refine gSQ ?_; first | refine sq_go rfl ?_ | refine sq_mv rfl ?_ | refine sq_ende (by first | exact .inl rfl | exact .inr rfl) rfl rfl ⟨_, (RVs.cons (RV.tmp rfl) (RVs.cons (RV.tmp rfl) (RVs.nil))), ?_⟩) | refine j_nil ?_ | ((first | refine j_guard rfl rfl rfl rfl rfl ?_ ?_ | refine sc_cond rfl ?_ ?_) <;> intro hc <;> (first | exact absurd hc (by decide) | ((try simp only [engHC] at hc) <;> first | (exfalso; omega) | skip))))
        all_goals (intro w' hS; refine ⟨?_, hS.below⟩; simp only [pack])
      | some x =>
        dsimp only at hp ⊢
        by_cases g1 : 1051898399 < ac
        · simp only [if_pos g1] at hp ⊢
          repeat' (first | (refine gJ ?_; first | refine js rfl rfl rfl rfl ?_ | (refine gcall rfl rfl ?_; first | (refine j_qc (f := 44) rfl rfl rfl rfl rfl rfl rfl ?_; refine ⟨_, (fun w' hs => hR w' (h.st hs)), ?_⟩) | (refine j_qc (f := 97) rfl rfl rfl rfl rfl rfl rfl ?_; refine ⟨_, (fun w' hs => hp w' (h.st hs)), ?_⟩))) | (refine gSC ?_; first | refine sc_mv rfl ?_ | refine sc_q rfl ?_ | refine sc_region ?_) | (refine gSQ ?_; first | refine sq_go rfl ?_ | refine sq_mv rfl ?_ | refine sq_ende (by first | exact .inl rfl | exact .inr rfl) rfl rfl ⟨_, (RVs.cons (RV.tmp rfl) (RVs.cons (RV.tmp rfl) (RVs.nil))), ?_⟩) | refine j_nil ?_ | ((first | refine j_guard rfl rfl rfl rfl rfl ?_ ?_ | refine sc_cond rfl ?_ ?_) <;> intro hc <;> (first | exact absurd hc (by decide) | ((try simp only [engHC] at hc) <;> first | (exfalso; omega) | skip))))
          all_goals (intro w' hS; refine ⟨?_, hS.below⟩; simp only [pack])
        · by_cases g2 : 1051898399 < prT x ac
          · simp only [if_neg g1, if_pos g2] at hp ⊢
            repeat' (first | (refine gJ ?_; first | refine js rfl rfl rfl rfl ?_ | (refine gcall rfl rfl ?_; first | (refine j_qc (f := 44) rfl rfl rfl rfl rfl rfl rfl ?_; refine ⟨_, (fun w' hs => hR w' (h.st hs)), ?_⟩) | (refine j_qc (f := 97) rfl rfl rfl rfl rfl rfl rfl ?_; refine ⟨_, (fun w' hs => hp w' (h.st hs)), ?_⟩))) | (refine gSC ?_; first | refine sc_mv rfl ?_ | refine sc_q rfl ?_ | refine sc_region ?_) | (refine gSQ ?_; first | refine sq_go rfl ?_ | refine sq_mv rfl ?_ | refine sq_ende (by first | exact .inl rfl | exact .inr rfl) rfl rfl ⟨_, (RVs.cons (RV.tmp rfl) (RVs.cons (RV.tmp rfl) (RVs.nil))), ?_⟩) | refine j_nil ?_ | ((first | refine j_guard rfl rfl rfl rfl rfl ?_ ?_ | refine sc_cond rfl ?_ ?_) <;> intro hc <;> (first | exact absurd hc (by decide) | ((try simp only [engHC] at hc) <;> first | (exfalso; omega) | skip))))
            all_goals (intro w' hS; refine ⟨?_, hS.below⟩; simp only [pack])
          · simp only [if_neg g1, if_neg g2] at hp ⊢
            repeat' (first | (refine gJ ?_; first | refine js rfl rfl rfl rfl ?_ | (refine gcall rfl rfl ?_; first | (refine j_qc (f := 44) rfl rfl rfl rfl rfl rfl rfl ?_; refine ⟨_, (fun w' hs => hR w' (h.st hs)), ?_⟩) | (refine j_qc (f := 97) rfl rfl rfl rfl rfl rfl rfl ?_; refine ⟨_, (fun w' hs => hp w' (h.st hs)), ?_⟩))) | (refine gSC ?_; first | refine sc_mv rfl ?_ | refine sc_q rfl ?_ | refine sc_region ?_) | (refine gSQ ?_; first | refine sq_go rfl ?_ | refine sq_mv rfl ?_ | refine sq_ende (by first | exact .inl rfl | exact .inr rfl) rfl rfl ⟨_, (RVs.cons (RV.tmp rfl) (RVs.cons (RV.tmp rfl) (RVs.nil))), ?_⟩) | refine j_nil ?_ | ((first | refine j_guard rfl rfl rfl rfl rfl ?_ ?_ | refine sc_cond rfl ?_ ?_) <;> intro hc <;> (first | exact absurd hc (by decide) | ((try simp only [engHC] at hc) <;> first | (exfalso; omega) | skip))))
            all_goals (intro w' hS; refine ⟨?_, hS.below⟩; simp only [pack])
    · rw [if_neg (fun g => ha0 g.2)]
      repeat' (first | (refine gJ ?_; first | refine js rfl rfl rfl rfl ?_ | (refine gcall rfl rfl ?_; (refine j_qc (f := 44) rfl rfl rfl rfl rfl rfl rfl ?_; refine ⟨_, (fun w' hs => hR w' (h.st hs)), ?_⟩))) | (refine gSC ?_; first | refine sc_mv rfl ?_ | refine sc_q rfl ?_ | refine sc_region ?_) | (refine gSQ ?_; first | refine sq_go rfl ?_ | refine sq_mv rfl ?_ | refine sq_ende (by first | exact .inl rfl | exact .inr rfl) rfl rfl ⟨_, (RVs.cons (RV.tmp rfl) (RVs.cons (RV.tmp rfl) (RVs.nil))), ?_⟩) | refine j_nil ?_ | ((first | refine j_guard rfl rfl rfl rfl rfl ?_ ?_ | refine sc_cond rfl ?_ ?_) <;> intro hc <;> (first | exact absurd hc (by decide) | ((try simp only [engHC] at hc) <;> first | (exfalso; omega) | skip))))
      all_goals (intro w' hS; refine ⟨?_, hS.below⟩; simp only [pack])
/-! ### service: Judge -/
def timeI (n : Int) : Prop := 0 ≤ n ∧ n ≤ 1051898399
instance (n : Int) : Decidable (timeI n) := by unfold timeI; exact inferInstance
def delB (x : Sn) (now : Int) : Bool := decide (x.de ≠ -1 ∧ x.de ≤ now)
theorem isTime_c (n : Int) (w : World) : Calls Tryz.prog 46 #[.int .i64 n] w fun e w' => e = .returned (.bool (decide (timeI n))) ∧ Below w.heap.size w w' := by
  refine eng_start (n := 9) (args := [.int .i64 n]) tab tab_ok fns fns_ok [.tmp 2] Tryz.func46 rfl rfl rfl rfl ?_
  repeat' (first | (refine gJ ?_; refine js rfl rfl rfl rfl ?_) | (refine gSC ?_; first | refine sc_mv rfl ?_ | refine sc_q rfl ?_ | refine sc_region ?_) | (refine gSQ ?_; first | refine sq_go rfl ?_ | refine sq_ende (by first | exact .inl rfl | exact .inr rfl) rfl rfl ⟨_, (RVs.cons (RV.tmp rfl) (RVs.nil)), ?_⟩) | refine j_nil ?_ | ((refine j_guard rfl rfl rfl rfl rfl ?_ ?_) <;> intro hc <;> (first | exact absurd hc (by decide) | ((try simp only [engHC] at hc) <;> skip))))
  all_goals ((intro w' hS; refine ⟨?_, hS.below⟩; simp only [pack]); exact rb (by unfold timeI; simp [*]))
theorem del_c (x : Sn) (now : Int) (w : World) : Calls Tryz.prog 48 #[snV x, .int .i64 now] w fun e w' => e = .returned (.bool (delB x now)) ∧ Below w.heap.size w w' := by
  refine eng_start (n := 14) (args := [snV x, .int .i64 now]) tab tab_ok fns fns_ok [.tmp 4] Tryz.func48 rfl rfl rfl rfl ?_
  repeat' (first | (refine gJ ?_; first | refine js rfl rfl rfl rfl ?_ | (refine gload rfl rfl ?_; refine j_qe rfl rfl rfl ?_; refine ⟨_, q_load_own rfl rfl rfl rfl (by (repeat constructor)) (by first | rfl | assumption), ?_⟩) | refine jfield rfl rfl rfl rfl rfl rfl rfl rfl ?_ | (refine gF ?_; (refine j_box rfl rfl rfl rfl rfl ?_; intro b))) | (refine gSC ?_; first | refine sc_mv rfl ?_ | refine sc_q rfl ?_ | refine sc_region ?_) | (refine gSQ ?_; first | refine sq_go rfl ?_ | refine sq_ende (by first | exact .inl rfl | exact .inr rfl) rfl rfl ⟨_, (RVs.cons (RV.tmp rfl) (RVs.nil)), ?_⟩) | refine j_nil ?_ | ((refine j_guard rfl rfl rfl rfl rfl ?_ ?_) <;> intro hc <;> (first | exact absurd hc (by decide) | ((try simp only [engHC] at hc) <;> skip))))
  all_goals ((intro w' hS; refine ⟨?_, hS.below⟩; simp only [pack]); exact rb (by unfold delB; simp [*]))
/-- The outcome of an item. -/
def outF (l : List Sd) (x : Sn) (now : Int) : Int :=
  if (promF l x.cl x.fr x.to x.ac).2 ≠ 0 then 4 else if delB x now = true ∧ x.de ≤ (promF l x.cl x.fr x.to x.ac).1 then 2 else if delB x now = false ∧ now ≤ (promF l x.cl x.fr x.to x.ac).1 then 1 else 3
theorem judge_c (A : Option Addr) (c : Nat) (l : List Sd) (x : Sn) (now : Int) (w : World) (hl : l.length ≤ 9223372036854775807) (ha : -9223372036854775808 ≤ x.ac ∧ x.ac ≤ 9223372036854775807) (h : RS w 4 sdC A l) :
    Calls Tryz.prog 47 #[.slice A l.length c, snV x, .int .i64 now] w fun e w' => e = .returned (.int .u8 (outF l x now)) ∧ Below w.heap.size w w' := by
  have hP := fun w' h' => Promise_c A c l x.cl x.fr x.to x.ac w' hl ha h'
  unfold outF
  generalize (promF l x.cl x.fr x.to x.ac).1 = p at *
  generalize (promF l x.cl x.fr x.to x.ac).2 = e at *
  have hD := fun w' => del_c x now w'
  generalize delB x now = D at *
  generalize hn : l.length = n at *
  refine eng_start (n := 45) (args := [.slice A n c, snV x, .int .i64 now]) tab tab_ok fns fns_ok [.tmp 6] Tryz.func47 rfl rfl rfl rfl ?_
  cases D
  all_goals
    repeat' (first | (refine gJ ?_; first | refine js rfl rfl rfl rfl ?_ | (refine gload rfl rfl ?_; refine j_qe rfl rfl rfl ?_; first | refine ⟨_, q_load_own rfl rfl rfl rfl (by (repeat constructor)) (by first | rfl | assumption), ?_⟩ | refine ⟨_, q_loadA_own rfl rfl rfl rfl (by (repeat constructor)) (by rfl), ?_⟩) | refine jfield rfl rfl rfl rfl rfl rfl rfl rfl ?_ | (refine gcall rfl rfl ?_; first | (refine j_qc (f := 77) rfl rfl rfl rfl rfl rfl rfl ?_; refine ⟨_, (fun w' hs => hP w' (h.st hs)), ?_⟩) | (refine j_qc (f := 48) rfl rfl rfl rfl rfl rfl rfl ?_; refine ⟨_, (fun w' _ => hD w'), ?_⟩)) | (refine gF ?_; (refine j_box rfl rfl rfl rfl rfl ?_; intro b))) | (refine gSC ?_; first | refine sc_mv rfl ?_ | refine sc_q rfl ?_ | refine sc_region ?_) | (refine gSQ ?_; first | refine sq_go rfl ?_ | refine sq_mv rfl ?_ | refine sq_ende (by first | exact .inl rfl | exact .inr rfl) rfl rfl ⟨_, (RVs.cons (RV.tmp rfl) (RVs.nil)), ?_⟩) | refine j_nil ?_ | ((first | refine j_guard rfl rfl rfl rfl rfl ?_ ?_ | refine sc_cond rfl ?_ ?_) <;> intro hc <;> (first | exact absurd hc (by decide) | ((try simp only [engHC] at hc) <;> skip))))
    all_goals
      (intro w' hS; refine ⟨?_, hS.below⟩; simp only [pack])
      (repeat' split) <;> first | rfl | (exfalso; omega) | (exfalso; simp_all; done) | (exfalso; simp_all; omega)
def judF (l : List Sd) (x : Sn) (now : Int) : Int × Int := if sdsB l = true ∧ sentB [x] = true ∧ timeI now then (outF l x now, 0) else (0, 2)
theorem Judge_c (A : Option Addr) (c : Nat) (l : List Sd) (x : Sn) (now : Int) (w : World) (hl : l.length ≤ 9223372036854775807) (ha : -9223372036854775808 ≤ x.ac ∧ x.ac ≤ 9223372036854775807) (h : RS w 4 sdC A l) :
    Calls Tryz.prog 21 #[.slice A l.length c, snV x, .int .i64 now] w fun e w' => e = .returned (.tuple #[.int .u8 (judF l x now).1, .int .i64 (judF l x now).2]) ∧ Below w.heap.size w w' := by
  have hR := fun w' h' => Right_c A c l w' hl h'
  have hS := fun A1 w' h' => RightSent_c A1 1 [x] w' (by simp) h'
  have hJ := fun w' h' => judge_c A c l x now w' hl ha h'
  have hT := fun w' => isTime_c now w'
  unfold judF
  generalize outF l x now = O at *
  generalize sdsB l = R at *
  generalize sentB [x] = S at *
  generalize hn : l.length = n at *
  refine eng_start (n := 26) (args := [.slice A n c, snV x, .int .i64 now]) tab tab_ok fns fns_ok [.tmp 6, .tmp 7] Tryz.func21 rfl rfl rfl rfl ?_
  cases R <;> cases S <;> by_cases ht : timeI now
  all_goals
    first | rw [decide_eq_true ht] at hT | rw [decide_eq_false ht] at hT
    repeat' (first | (refine gJ ?_; first | refine js rfl rfl rfl rfl ?_ | (refine gload rfl rfl ?_; refine j_qe rfl rfl rfl ?_; refine ⟨_, q_loadA_own rfl rfl rfl rfl (by (repeat constructor)) (by rfl), ?_⟩) | (refine gcall rfl rfl ?_; first | (refine j_qc (f := 44) rfl rfl rfl rfl rfl rfl rfl ?_; refine ⟨_, (fun w' hs => hR w' (h.st hs)), ?_⟩) | (refine j_qc (f := 45) rfl rfl rfl rfl rfl rfl rfl ?_; refine ⟨_, (fun w' hs => hS (some ⟨b, 0, none⟩) w' (rs_lit (f := snC) _ (fun _ => rfl) hs (by (repeat constructor)) rfl)), ?_⟩) | (refine j_qc (f := 46) rfl rfl rfl rfl rfl rfl rfl ?_; refine ⟨_, (fun w' _ => hT w'), ?_⟩) | (refine j_qc (f := 47) rfl rfl rfl rfl rfl rfl rfl ?_; refine ⟨_, (fun w' hs => hJ w' (h.st hs)), ?_⟩)) | (refine gF ?_; first | (refine j_box rfl rfl rfl rfl rfl ?_; intro b) | (refine j_buildSlice rfl rfl rfl rfl rfl rfl rfl rfl rfl rfl rfl rfl ?_; intro b))) | (refine gSC ?_; first | refine sc_mv rfl ?_ | refine sc_q rfl ?_ | refine sc_region ?_) | (refine gSQ ?_; first | refine sq_go rfl ?_ | refine sq_mv rfl ?_ | refine sq_ende (by first | exact .inl rfl | exact .inr rfl) rfl rfl ⟨_, (RVs.cons (RV.tmp rfl) (RVs.cons (RV.tmp rfl) (RVs.nil))), ?_⟩) | refine j_nil ?_ | ((first | refine j_guard rfl rfl rfl rfl rfl ?_ ?_ | refine sc_cond rfl ?_ ?_) <;> intro hc <;> (first | exact absurd hc (by decide) | ((try simp only [engHC] at hc) <;> skip))))
    all_goals
      (intro w' hS; refine ⟨?_, hS.below⟩; simp only [pack])
      simp [ht]
end Go.Proofs.YtmakokbpadmfbaaGreat
