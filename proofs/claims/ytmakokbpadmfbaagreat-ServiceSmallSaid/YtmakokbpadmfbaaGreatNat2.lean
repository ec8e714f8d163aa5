/-
  In one text: Sr0, Nl0, Nat1, Nat2.
-/
import Derived.Test.YtmakokbpadmfbaaGreatTab
import Derived.Test.YtmakokbpadmfbaaGreatEngCoreB
/-
  slices.SortFunc: the elements, the comparison, the insertion sort.
-/
namespace Go.Proofs.YtmakokbpadmfbaaGreat
open Go.RowKit Eng
set_option linter.unusedVariables false
set_option linter.unusedSimpArgs false
set_option maxHeartbeats 8000000
attribute [local irreducible] SC SQ J Qt Calls Iterates LSub FSub
structure Lane where
  cl : Int
  fr : Int
  to : Int
deriving Inhabited, DecidableEq
abbrev ELT := Lane
abbrev elC (x : Lane) : List Value := [.int .u8 x.cl, .int .i64 x.fr, .int .i64 x.to]
abbrev rwS (ad : Addr) (n c : Nat) (d : Array ELT) : HA := .own (.slice (some ad) n c) 74 3 n (d.toList.flatMap elC)
abbrev cvS (rc : List Value) : Value := .func (.func 69) rc.toArray #[]
def ltS (cf : ELT → ELT → Int) : ELT → ELT → Bool := fun x y => decide (cf x y < 0)
theorem ltS_t {cf : ELT → ELT → Int} {x y : ELT} (h : cf x y < 0) : ltS cf x y = true := by simp [ltS, h]
theorem ltS_f {cf : ELT → ELT → Int} {x y : ELT} (h : ¬ cf x y < 0) : ltS cf x y = false := by simp [ltS]; omega
abbrev CmpS (cf : ELT → ELT → Int) (rc : List Value) : Prop := ∀ x y w, Calls Tryz.prog 69 (rc ++ [Value.agg (elC x).toArray, Value.agg (elC y).toArray] ++ []).toArray w fun e w' => e = .returned (.int .i64 (cf x y)) ∧ Below w.heap.size w w'
theorem ins_c {w0 w : World} {hot : Nat → Prop} {L : List HA} {L' : Array ELT → List HA} {ad : Addr} {n c : Nat} {d : Array ELT} {rc : List Value} {cf : ELT → ELT → Int} (hcf : CmpS cf rc) (a e : Nat) (hs : St w0 hot L w) (hd : d.size = n) (hae : a ≤ e) (hen : e ≤ n) (hn : n ≤ 1000000)
    (hin : InL L (rwS ad n c d)) (hup : ∀ d' : Array ELT, Upd L (rwS ad n c d) (rwS ad n c d') (L' d')) :
    Calls Tryz.prog 109 #[.slice (some ad) n c, .int .i64 a, .int .i64 e, cvS rc] w fun e' w' => ∃ x : Unit, True ∧ e' = .returned (.tuple #[]) ∧ St w0 hot (L' (Go.Sort.insertionSort (ltS cf) d a e)) w' := by
  have hle := hs.lent hin trivial
  generalize hT : Go.Sort.insertionSort (ltS cf) d a e = T
  rw [Go.Sort.insertionSort] at hT
  refine eng_start_lent (n := 53) (args := [.slice (some ad) n c, .int .i64 a, .int .i64 e, cvS rc]) tab tab_ok fns fns_ok [] _ _ Tryz.func109 rfl rfl rfl rfl (hle) ?_
  repeat' (first | (refine gJ ?_; first | refine js rfl rfl rfl rfl ?_ | refine jar rfl rfl rfl rfl rfl rfl rfl (by omega) ?_) | (refine gSC ?_; first | refine sc_mv rfl ?_ | refine sc_region ?_) | (refine gSQ ?_; refine sq_go rfl ?_) | refine j_nil ?_)
  refine sc_loop (ι := Nat × Array ELT) (fun i => a + 1 ≤ i.1 ∧ i.2.size = n ∧ Go.Sort.insOuter (ltS cf) a e i.1 i.2 = T) (fun i => e + 1 - i.1) (fun i => [(0, .slice (some ad) n c), (1, .int .i64 a), (2, .int .i64 e), (3, cvS rc), (8, .int .i64 i.1)]) (fun i => [rwS ad n c i.2]) (a + 1, d) ⟨Nat.le_refl _, hd, hT⟩ (by repeat (first | exact FSub.nil | refine FSub.cons rfl ?_ | refine FSub.conse rfl (by congr 1; omega) ?_)) (by repeat (first | exact LSub.nil | refine LSub.cons (by repeat (first | exact Rem.here | apply Rem.there)) ?_)) ?_
  rintro ⟨i, dd⟩ ⟨hi, hsz, hr⟩
  dsimp only at hi hsz hr ⊢
  rw [Go.Sort.insOuter] at hr
  by_cases hlt : i < e
  · rw [if_pos hlt] at hr
    generalize hT2 : Go.Sort.insInner (ltS cf) a i dd = T2 at hr
    repeat' (first | (refine gJ ?_; refine js rfl rfl rfl rfl ?_) | (refine gSC ?_; first | refine sc_mv rfl ?_ | refine sc_q rfl ?_ | refine sc_region ?_) | (refine gSQ ?_; refine sq_go rfl ?_) | refine j_nil ?_ | ((refine sc_cond rfl ?_ ?_) <;> intro hc <;> (((try simp only [engHC] at hc) <;> first | (exfalso; omega) | skip))))
    refine sc_loop (ι := Nat × Array ELT) (fun j => j.1 ≤ i ∧ j.2.size = n ∧ Go.Sort.insInner (ltS cf) a j.1 j.2 = T2) (fun j => j.1) (fun j => [(0, .slice (some ad) n c), (1, .int .i64 a), (2, .int .i64 e), (3, cvS rc), (8, .int .i64 i), (9, .int .i64 j.1)]) (fun j => [rwS ad n c j.2]) (i, dd) ⟨Nat.le_refl _, hsz, hT2⟩ (by repeat (first | exact FSub.nil | refine FSub.cons rfl ?_ | refine FSub.conse rfl (by congr 1; omega) ?_)) (by repeat (first | exact LSub.nil | refine LSub.cons (by repeat (first | exact Rem.here | apply Rem.there)) ?_)) ?_
    rintro ⟨j, dj⟩ ⟨hj, hsj, hrj⟩
    dsimp only at hj hsj hrj ⊢
    cases j with
    | zero =>
      rw [Go.Sort.insInner] at hrj
      repeat' (first | (refine gJ ?_; first | refine js rfl rfl rfl rfl ?_ | refine jar rfl rfl rfl rfl rfl rfl rfl (by omega) ?_) | (refine gSC ?_; first | refine sc_mv rfl ?_ | refine sc_q rfl ?_ | refine sc_region ?_ | refine sc_draw rfl mixed (by kernel_rfl) ?_) | (refine gSQ ?_; first | refine sq_go rfl ?_ | refine sq_mv rfl ?_) | refine j_nil ?_ | ((first | refine j_guard rfl rfl rfl rfl rfl ?_ ?_ | refine sc_cond rfl ?_ ?_) <;> intro hc <;> (first | exact absurd hc (by decide) | ((try simp only [engHC] at hc) <;> first | (exfalso; omega) | skip))))
      exact sq_loop (i + 1, dj) ⟨by show a + 1 ≤ i + 1; omega, hsj, by rw [hrj]; exact hr⟩ (by show e + 1 - (i + 1) < e + 1 - i; omega) (by (try dsimp only); exact (by repeat (first | exact FSub.nil | refine FSub.cons rfl ?_ | refine FSub.conse rfl (by congr 1; omega) ?_))) (by repeat (first | exact LSub.nil | refine LSub.cons (by repeat (first | exact Rem.here | apply Rem.there)) ?_))
    | succ j =>
      rw [Go.Sort.insInner] at hrj
      by_cases hja : j + 1 > a
      · obtain ⟨z1, z2, d', e1, e2, e3, k1, k2, hsw, hss, hlx, hly⟩ := swp_facts dj (x := j + 1) (y := j) (by omega) (by omega)
        rw [e1, e2, e3] at hrj
        by_cases hcl : cf z1 z2 < 0
        · rw [if_pos (by simp [ltS_t hcl, hja])] at hrj
          repeat' (first | (refine gJ ?_; first | refine js rfl rfl rfl rfl ?_ | refine jar rfl rfl rfl rfl rfl rfl rfl (by omega) ?_ | (refine gcall rfl rfl ?_; refine j_qcb (f := 69) rfl rfl rfl rfl rfl rfl rfl ?_; refine ⟨_, (fun w' _ => hcf _ _ w'), ?_⟩) | (refine j_qe rfl rfl rfl ?_; refine ⟨_, q_index_at (j + 1) rfl rfl rfl rfl rfl (by omega), ?_⟩) | (refine gload rfl rfl ?_; refine j_qe rfl rfl rfl ?_; refine ⟨_, q_rowA (f := elC) (i := j + 1) rfl rfl rfl rfl (by (repeat constructor)) (fun _ => rfl) k1 rfl, ?_⟩) | (refine j_qe rfl rfl rfl ?_; refine ⟨_, q_index_at (j) rfl rfl rfl rfl rfl (by omega), ?_⟩) | (refine gload rfl rfl ?_; refine j_qe rfl rfl rfl ?_; refine ⟨_, q_rowA (f := elC) (i := j) rfl rfl rfl rfl (by (repeat constructor)) (fun _ => rfl) k2 rfl, ?_⟩)) | (refine gSC ?_; first | refine sc_mv rfl ?_ | refine sc_q rfl ?_ | refine sc_drawr rfl rfl mixed (by kernel_rfl) ?_) | (refine gSQ ?_; refine sq_go rfl ?_) | refine j_nil ?_ | ((first | refine j_guard rfl rfl rfl rfl rfl ?_ ?_ | refine sc_cond rfl ?_ ?_) <;> intro hc <;> (first | exact absurd hc (by decide) | ((try simp only [engHC] at hc) <;> first | (exfalso; omega) | skip))))
          (refine sc_mixed [] rfl mixed ?_; refine ja_cut (ι := Unit) (fun _ => True) (fun _ => [(0, .slice (some ad) n c), (1, .int .i64 a), (2, .int .i64 e), (3, cvS rc), (8, .int .i64 i), (9, .int .i64 ((j + 1 : Nat) : Int))]) (fun _ => [rwS ad n c d']) (fun hcut => ?_) (fun _ _ => ?_); (focus ((refine ja_take 0 rfl (by kernel_rfl) rfl rfl rfl (by repeat (first | exact LSub.nil | refine LSub.cons (by repeat (first | exact Rem.here | apply Rem.there)) ?_)) ?_; refine ⟨_, q_move rfl rfl, ?_⟩); (refine ja_take 1 rfl (by kernel_rfl) rfl rfl rfl (by repeat (first | exact LSub.nil | refine LSub.cons (by repeat (first | exact Rem.here | apply Rem.there)) ?_)) ?_; refine ⟨_, q_move rfl rfl, ?_⟩); (refine ja_take 2 rfl (by kernel_rfl) rfl rfl rfl (by repeat (first | exact LSub.nil | refine LSub.cons (by repeat (first | exact Rem.here | apply Rem.there)) ?_)) ?_; refine ⟨_, q_move rfl rfl, ?_⟩); (refine ja_take 3 rfl (by kernel_rfl) rfl rfl rfl (by repeat (first | exact LSub.nil | refine LSub.cons (by repeat (first | exact Rem.here | apply Rem.there)) ?_)) ?_; refine ⟨_, q_move rfl rfl, ?_⟩); (refine ja_take 4 rfl (by kernel_rfl) rfl rfl rfl (by repeat (first | exact LSub.nil | refine LSub.cons (by repeat (first | exact Rem.here | apply Rem.there)) ?_)) ?_; refine ⟨_, q_sub rfl rfl rfl (by omega), ?_⟩); (refine ja_take 5 rfl (by kernel_rfl) rfl rfl rfl (by repeat (first | exact LSub.nil | refine LSub.cons (by repeat (first | exact Rem.here | apply Rem.there)) ?_)) ?_; refine ⟨_, q_move rfl rfl, ?_⟩); (refine ja_take 6 rfl (by kernel_rfl) rfl rfl rfl (by repeat (first | exact LSub.nil | refine LSub.cons (by repeat (first | exact Rem.here | apply Rem.there)) ?_)) ?_; refine ⟨_, q_move rfl rfl, ?_⟩); (refine ja_take 7 rfl (by kernel_rfl) rfl rfl rfl (by repeat (first | exact LSub.nil | refine LSub.cons (by repeat (first | exact Rem.here | apply Rem.there)) ?_)) ?_; refine ⟨_, q_sub rfl rfl rfl (by omega), ?_⟩); (refine ja_take 8 rfl (by kernel_rfl) rfl rfl rfl (by repeat (first | exact LSub.nil | refine LSub.cons (by repeat (first | exact Rem.here | apply Rem.there)) ?_)) ?_; refine ⟨_, q_index_at (j) rfl rfl rfl rfl rfl (by omega), ?_⟩); (refine ja_take 10 rfl (by kernel_rfl) rfl rfl rfl (by repeat (first | exact LSub.nil | refine LSub.cons (by repeat (first | exact Rem.here | apply Rem.there)) ?_)) ?_; refine ⟨_, q_move rfl rfl, ?_⟩); (refine ja_take 11 rfl (by kernel_rfl) rfl rfl rfl (by repeat (first | exact LSub.nil | refine LSub.cons (by repeat (first | exact Rem.here | apply Rem.there)) ?_)) ?_; refine ⟨_, q_move rfl rfl, ?_⟩); (refine ja_take 12 rfl (by kernel_rfl) rfl rfl rfl (by repeat (first | exact LSub.nil | refine LSub.cons (by repeat (first | exact Rem.here | apply Rem.there)) ?_)) ?_; refine ⟨_, q_index_at (j + 1) rfl rfl rfl rfl rfl (by omega), ?_⟩); (refine ja_all [9, 13] (by kernel_rfl) rfl ?_ rfl; intro i hi; simp only [List.mem_cons, List.mem_nil_iff, or_false] at hi; rcases hi with rfl | rfl <;> refine ⟨_, rfl, rfl, ?_⟩); (focus ((refine j_qe rfl rfl rfl ?_; first | refine ⟨_, q_rowA (f := elC) (l := dj.toList) (i := j) (y := z2) rfl rfl rfl rfl (by (repeat constructor)) (fun _ => rfl) k2 rfl, ?_⟩ | refine ⟨_, q_rowA (f := elC) (l := dj.toList) (i := j + 1) (y := z1) rfl rfl rfl rfl (by (repeat constructor)) (fun _ => rfl) k1 rfl, ?_⟩); (refine j_nil ?_; refine sq_next (by repeat (first | exact LSub.nil | refine LSub.cons (by repeat (first | exact Rem.here | apply Rem.there)) ?_)) ?_); (refine ja_all [13] (by kernel_rfl) rfl ?_ rfl; intro i hi; simp only [List.mem_cons, List.mem_nil_iff, or_false] at hi; subst hi; refine ⟨_, rfl, rfl, ?_⟩); (refine j_qe rfl rfl rfl ?_; first | refine ⟨_, q_rowA (f := elC) (l := dj.toList) (i := j) (y := z2) rfl rfl rfl rfl (by (repeat constructor)) (fun _ => rfl) k2 rfl, ?_⟩ | refine ⟨_, q_rowA (f := elC) (l := dj.toList) (i := j + 1) (y := z1) rfl rfl rfl rfl (by (repeat constructor)) (fun _ => rfl) k1 rfl, ?_⟩); (refine j_nil ?_; refine sq_next (by repeat (first | exact LSub.nil | refine LSub.cons (by repeat (first | exact Rem.here | apply Rem.there)) ?_)) ?_); (refine ja_take 14 rfl (by kernel_rfl) rfl rfl rfl (by repeat (first | exact LSub.nil | refine LSub.cons (by repeat (first | exact Rem.here | apply Rem.there)) ?_)) ?_; refine ⟨_, q_index_at (j + 1) rfl rfl rfl rfl rfl (by omega), ?_⟩); (refine ja_all [15] (by kernel_rfl) rfl ?_ rfl; intro i hi; simp only [List.mem_cons, List.mem_nil_iff, or_false] at hi; subst hi; refine ⟨_, rfl, rfl, ?_⟩); refine j_store_el (f := elC) (l := dj.toList) (j + 1) z2 rfl rfl rfl rfl rfl rfl rfl rfl (by (repeat constructor)) (fun _ => rfl) hlx (by rfl) (by (repeat constructor)) ?_; (refine j_nil ?_; refine sq_next (by repeat (first | exact LSub.nil | refine LSub.cons (by repeat (first | exact Rem.here | apply Rem.there)) ?_)) ?_); (refine ja_take 16 rfl (by kernel_rfl) rfl rfl rfl (by repeat (first | exact LSub.nil | refine LSub.cons (by repeat (first | exact Rem.here | apply Rem.there)) ?_)) ?_; refine ⟨_, q_index_at (j) rfl rfl rfl rfl rfl (by omega), ?_⟩); (refine ja_all [17] (by kernel_rfl) rfl ?_ rfl; intro i hi; simp only [List.mem_cons, List.mem_nil_iff, or_false] at hi; subst hi; refine ⟨_, rfl, rfl, ?_⟩); refine j_store_el (f := elC) (l := dj.toList.set (j + 1) z2) (j) z1 rfl rfl rfl rfl rfl rfl rfl rfl (by (repeat constructor)) (fun _ => rfl) hly (by rfl) (by (repeat constructor)) ?_; (refine j_nil ?_; refine sq_next (by repeat (first | exact LSub.nil | refine LSub.cons (by repeat (first | exact Rem.here | apply Rem.there)) ?_)) ?_); refine ja_done (by kernel_rfl) ?_; rw [hsw]; exact sq_sub (hcut () trivial) (by repeat (first | exact FSub.nil | refine FSub.cons rfl ?_ | refine FSub.conse rfl (by congr 1; omega) ?_)) (by repeat (first | exact LSub.nil | refine LSub.cons (by repeat (first | exact Rem.here | apply Rem.there)) ?_)))); (focus ((refine j_qe rfl rfl rfl ?_; first | refine ⟨_, q_rowA (f := elC) (l := dj.toList) (i := j) (y := z2) rfl rfl rfl rfl (by (repeat constructor)) (fun _ => rfl) k2 rfl, ?_⟩ | refine ⟨_, q_rowA (f := elC) (l := dj.toList) (i := j + 1) (y := z1) rfl rfl rfl rfl (by (repeat constructor)) (fun _ => rfl) k1 rfl, ?_⟩); (refine j_nil ?_; refine sq_next (by repeat (first | exact LSub.nil | refine LSub.cons (by repeat (first | exact Rem.here | apply Rem.there)) ?_)) ?_); (refine ja_all [9] (by kernel_rfl) rfl ?_ rfl; intro i hi; simp only [List.mem_cons, List.mem_nil_iff, or_false] at hi; subst hi; refine ⟨_, rfl, rfl, ?_⟩); (refine j_qe rfl rfl rfl ?_; first | refine ⟨_, q_rowA (f := elC) (l := dj.toList) (i := j) (y := z2) rfl rfl rfl rfl (by (repeat constructor)) (fun _ => rfl) k2 rfl, ?_⟩ | refine ⟨_, q_rowA (f := elC) (l := dj.toList) (i := j + 1) (y := z1) rfl rfl rfl rfl (by (repeat constructor)) (fun _ => rfl) k1 rfl, ?_⟩); (refine j_nil ?_; refine sq_next (by repeat (first | exact LSub.nil | refine LSub.cons (by repeat (first | exact Rem.here | apply Rem.there)) ?_)) ?_); (refine ja_take 14 rfl (by kernel_rfl) rfl rfl rfl (by repeat (first | exact LSub.nil | refine LSub.cons (by repeat (first | exact Rem.here | apply Rem.there)) ?_)) ?_; refine ⟨_, q_index_at (j + 1) rfl rfl rfl rfl rfl (by omega), ?_⟩); (refine ja_all [15] (by kernel_rfl) rfl ?_ rfl; intro i hi; simp only [List.mem_cons, List.mem_nil_iff, or_false] at hi; subst hi; refine ⟨_, rfl, rfl, ?_⟩); refine j_store_el (f := elC) (l := dj.toList) (j + 1) z2 rfl rfl rfl rfl rfl rfl rfl rfl (by (repeat constructor)) (fun _ => rfl) hlx (by rfl) (by (repeat constructor)) ?_; (refine j_nil ?_; refine sq_next (by repeat (first | exact LSub.nil | refine LSub.cons (by repeat (first | exact Rem.here | apply Rem.there)) ?_)) ?_); (refine ja_take 16 rfl (by kernel_rfl) rfl rfl rfl (by repeat (first | exact LSub.nil | refine LSub.cons (by repeat (first | exact Rem.here | apply Rem.there)) ?_)) ?_; refine ⟨_, q_index_at (j) rfl rfl rfl rfl rfl (by omega), ?_⟩); (refine ja_all [17] (by kernel_rfl) rfl ?_ rfl; intro i hi; simp only [List.mem_cons, List.mem_nil_iff, or_false] at hi; subst hi; refine ⟨_, rfl, rfl, ?_⟩); refine j_store_el (f := elC) (l := dj.toList.set (j + 1) z2) (j) z1 rfl rfl rfl rfl rfl rfl rfl rfl (by (repeat constructor)) (fun _ => rfl) hly (by rfl) (by (repeat constructor)) ?_; (refine j_nil ?_; refine sq_next (by repeat (first | exact LSub.nil | refine LSub.cons (by repeat (first | exact Rem.here | apply Rem.there)) ?_)) ?_); refine ja_done (by kernel_rfl) ?_; rw [hsw]; exact sq_sub (hcut () trivial) (by repeat (first | exact FSub.nil | refine FSub.cons rfl ?_ | refine FSub.conse rfl (by congr 1; omega) ?_)) (by repeat (first | exact LSub.nil | refine LSub.cons (by repeat (first | exact Rem.here | apply Rem.there)) ?_)))))))
          repeat' (first | (refine gJ ?_; first | refine js rfl rfl rfl rfl ?_ | refine jar rfl rfl rfl rfl rfl rfl rfl (by omega) ?_) | (refine gSC ?_; refine sc_region ?_) | (refine gSQ ?_; first | refine sq_go rfl ?_ | refine sq_mv rfl ?_) | refine j_nil ?_)
          exact sq_loop (j, d') ⟨by show j ≤ i; omega, hss.trans hsj, hrj⟩ (by show j < j + 1; omega) (by dsimp only; exact (by repeat (first | exact FSub.nil | refine FSub.cons rfl ?_ | refine FSub.conse rfl (by congr 1; omega) ?_))) (by repeat (first | exact LSub.nil | refine LSub.cons (by repeat (first | exact Rem.here | apply Rem.there)) ?_))
        · rw [if_neg (by simp [ltS_f hcl])] at hrj
          repeat' (first | (refine gJ ?_; first | refine js rfl rfl rfl rfl ?_ | refine jar rfl rfl rfl rfl rfl rfl rfl (by omega) ?_ | (refine gcall rfl rfl ?_; refine j_qcb (f := 69) rfl rfl rfl rfl rfl rfl rfl ?_; refine ⟨_, (fun w' _ => hcf _ _ w'), ?_⟩) | (refine j_qe rfl rfl rfl ?_; refine ⟨_, q_index_at (j + 1) rfl rfl rfl rfl rfl (by omega), ?_⟩) | (refine gload rfl rfl ?_; refine j_qe rfl rfl rfl ?_; refine ⟨_, q_rowA (f := elC) (i := j + 1) rfl rfl rfl rfl (by (repeat constructor)) (fun _ => rfl) k1 rfl, ?_⟩) | (refine j_qe rfl rfl rfl ?_; refine ⟨_, q_index_at (j) rfl rfl rfl rfl rfl (by omega), ?_⟩) | (refine gload rfl rfl ?_; refine j_qe rfl rfl rfl ?_; refine ⟨_, q_rowA (f := elC) (i := j) rfl rfl rfl rfl (by (repeat constructor)) (fun _ => rfl) k2 rfl, ?_⟩)) | (refine gSC ?_; first | refine sc_mv rfl ?_ | refine sc_q rfl ?_ | refine sc_region ?_ | refine sc_drawr rfl rfl mixed (by kernel_rfl) ?_) | (refine gSQ ?_; first | refine sq_go rfl ?_ | refine sq_mv rfl ?_) | refine j_nil ?_ | ((first | refine j_guard rfl rfl rfl rfl rfl ?_ ?_ | refine sc_cond rfl ?_ ?_) <;> intro hc <;> (first | exact absurd hc (by decide) | ((try simp only [engHC] at hc) <;> first | (exfalso; omega) | skip))))
          exact sq_loop (i + 1, dj) ⟨by show a + 1 ≤ i + 1; omega, hsj, by rw [hrj]; exact hr⟩ (by show e + 1 - (i + 1) < e + 1 - i; omega) (by (try dsimp only); exact (by repeat (first | exact FSub.nil | refine FSub.cons rfl ?_ | refine FSub.conse rfl (by congr 1; omega) ?_))) (by repeat (first | exact LSub.nil | refine LSub.cons (by repeat (first | exact Rem.here | apply Rem.there)) ?_))
      · rw [if_neg (by simp [hja])] at hrj
        repeat' (first | (refine gJ ?_; first | refine js rfl rfl rfl rfl ?_ | refine jar rfl rfl rfl rfl rfl rfl rfl (by omega) ?_) | (refine gSC ?_; first | refine sc_mv rfl ?_ | refine sc_q rfl ?_ | refine sc_region ?_ | refine sc_draw rfl mixed (by kernel_rfl) ?_) | (refine gSQ ?_; first | refine sq_go rfl ?_ | refine sq_mv rfl ?_) | refine j_nil ?_ | ((first | refine j_guard rfl rfl rfl rfl rfl ?_ ?_ | refine sc_cond rfl ?_ ?_) <;> intro hc <;> (first | exact absurd hc (by decide) | ((try simp only [engHC] at hc) <;> first | (exfalso; omega) | skip))))
        exact sq_loop (i + 1, dj) ⟨by show a + 1 ≤ i + 1; omega, hsj, by rw [hrj]; exact hr⟩ (by show e + 1 - (i + 1) < e + 1 - i; omega) (by (try dsimp only); exact (by repeat (first | exact FSub.nil | refine FSub.cons rfl ?_ | refine FSub.conse rfl (by congr 1; omega) ?_))) (by repeat (first | exact LSub.nil | refine LSub.cons (by repeat (first | exact Rem.here | apply Rem.there)) ?_))
  · rw [if_neg hlt] at hr
    repeat' (first | (refine gJ ?_; refine js rfl rfl rfl rfl ?_) | (refine gSC ?_; first | refine sc_mv rfl ?_ | refine sc_q rfl ?_ | refine sc_region ?_) | (refine gSQ ?_; first | refine sq_go rfl ?_ | refine sq_mv rfl ?_ | refine sq_ende (by first | exact .inl rfl | exact .inr rfl) rfl rfl ⟨_, (RVs.nil), ?_⟩) | refine j_nil ?_ | ((refine sc_cond rfl ?_ ?_) <;> intro hc <;> (((try simp only [engHC] at hc) <;> first | (exfalso; omega) | skip))))
    intro w' hS
    refine ⟨(), trivial, rfl, ?_⟩
    rw [← hr]
    exact hs.back (hup dd) (hS.sub (by repeat (first | exact LSub.nil | refine LSub.cons (by repeat (first | exact Rem.here | apply Rem.there)) ?_))) trivial
abbrev Lt1 (cf : ELT → ELT → Int) (p : ELT) : ELT → Bool := fun x => ltS cf x p
abbrev Ge1 (cf : ELT → ELT → Int) (p : ELT) : ELT → Bool := fun x => !ltS cf x p
/-- The two scans of partition, one round each. -/
theorem scanUp_go {α : Type} [Inhabited α] {p : α → Bool} {d : Array α} {j i : Nat} (h : i ≤ j) (hp : p d[i]! = true) : Go.Sort.scanUp p d j i = Go.Sort.scanUp p d j (i + 1) := by
  rw [Go.Sort.scanUp, if_pos (by simp [h, hp])]
theorem scanUp_stop {α : Type} [Inhabited α] {p : α → Bool} {d : Array α} {j i : Nat} (h : i ≤ j → p d[i]! = false) : Go.Sort.scanUp p d j i = i := by
  rw [Go.Sort.scanUp, if_neg]
  simp only [Bool.and_eq_true, decide_eq_true_eq, not_and, Bool.not_eq_true]
  exact h
theorem scanDown_go {α : Type} [Inhabited α] {p : α → Bool} {d : Array α} {j i : Nat} (h : i ≤ j + 1) (hp : p d[j + 1]! = true) : Go.Sort.scanDown p d i (j + 1) = Go.Sort.scanDown p d i j := by
  rw [Go.Sort.scanDown, if_pos (by simp [h, hp])]
theorem scanDown_stop {α : Type} [Inhabited α] {p : α → Bool} {d : Array α} {j i : Nat} (h : i ≤ j → p d[j]! = false) : Go.Sort.scanDown p d i j = j := by
  cases j with
  | zero => rfl
  | succ j =>
    rw [Go.Sort.scanDown, if_neg]
    simp only [Bool.and_eq_true, decide_eq_true_eq, not_and, Bool.not_eq_true]
    exact h
end Go.Proofs.YtmakokbpadmfbaaGreat

/-
  Natural numbers as limbs: plain facts.
-/
namespace Go.Proofs.YtmakokbpadmfbaaGreat
set_option linter.unusedVariables false
set_option linter.unusedSimpArgs false
set_option linter.unusedVariables false
def vl : List Int → Int
  | [] => 0
  | x :: l => x + 4294967296 * vl l
def inB (l : List Int) : Prop := ∀ x ∈ l, 0 ≤ x ∧ x < 4294967296
def lmb : Nat → Nat → List Int
  | 0, _ => []
  | f + 1, v => if v = 0 then [] else ((v % 4294967296 : Nat) : Int) :: lmb f (v / 4294967296)
def limbs (v : Nat) : List Int := lmb v v
def canon (l : List Int) : Prop := l.getLast? ≠ some 0
theorem inB_nil : inB [] := fun x h => by cases h
theorem inB_cons {x : Int} {l : List Int} : inB (x :: l) ↔ (0 ≤ x ∧ x < 4294967296) ∧ inB l := by
  simp [inB]
theorem inB_app {l m : List Int} : inB (l ++ m) ↔ inB l ∧ inB m := by
  constructor
  · exact fun h => ⟨fun x hx => h x (List.mem_append_left _ hx), fun x hx => h x (List.mem_append_right _ hx)⟩
  · exact fun h x hx => (List.mem_append.1 hx).elim (h.1 x) (h.2 x)
theorem inB_take {l : List Int} (h : inB l) (k : Nat) : inB (l.take k) := fun x hx => h x (List.mem_of_mem_take hx)
theorem inB_drop {l : List Int} (h : inB l) (k : Nat) : inB (l.drop k) := fun x hx => h x (List.mem_of_mem_drop hx)
theorem inB_get {l : List Int} (h : inB l) {i : Nat} {x : Int} (hx : l[i]? = some x) : 0 ≤ x ∧ x < 4294967296 := h x (List.mem_of_getElem? hx)
theorem vl_nonneg : ∀ {l : List Int}, inB l → 0 ≤ vl l
  | [], _ => by simp [vl]
  | x :: l, h => by
    have h1 := (inB_cons.1 h).1
    have h2 := vl_nonneg (inB_cons.1 h).2
    simp only [vl]; omega
theorem vl_app : ∀ (l m : List Int), vl (l ++ m) = vl l + 4294967296 ^ l.length * vl m
  | [], m => by simp [vl]
  | x :: l, m => by
    simp only [List.cons_append, vl, vl_app l m, List.length_cons, Int.pow_succ]
    rw [Int.mul_add, Int.mul_comm (4294967296 ^ l.length) 4294967296, Int.mul_assoc]
    omega
theorem vl_lt : ∀ {l : List Int}, inB l → vl l < 4294967296 ^ l.length
  | [], _ => by simp [vl]
  | x :: l, h => by
    have h1 := (inB_cons.1 h).1
    have h2 := vl_lt (inB_cons.1 h).2
    simp only [vl, List.length_cons, Int.pow_succ]
    omega
theorem vl_zeros (n : Nat) : vl (List.replicate n 0) = 0 := by
  induction n with
  | zero => rfl
  | succ n ih => simp [List.replicate_succ, vl, ih]
theorem canon_tail {x y : Int} {l : List Int} (h : canon (x :: y :: l)) : canon (y :: l) := by
  unfold canon at *
  rwa [List.getLast?_cons_cons] at h
theorem canon_pos : ∀ {l : List Int}, inB l → canon l → l ≠ [] → 0 < vl l
  | [], _, _, h => absurd rfl h
  | [x], h, hc, _ => by
    have h1 := (inB_cons.1 h).1
    have : x ≠ 0 := fun e => hc (by simp [e])
    simp only [vl]; omega
  | x :: y :: l, h, hc, _ => by
    have h1 := (inB_cons.1 h).1
    have h2 := canon_pos (inB_cons.1 h).2 (canon_tail hc) (by simp)
    rw [vl]; omega
theorem lmb_spec : ∀ (f v : Nat), v ≤ f → vl (lmb f v) = v ∧ inB (lmb f v) ∧ canon (lmb f v) ∧ (v = 0 ↔ lmb f v = [])
  | 0, v, h => by
    have : v = 0 := by omega
    subst this
    simp [lmb, vl, inB, canon]
  | f + 1, v, h => by
    unfold lmb
    by_cases hv : v = 0
    · subst hv
      simp [vl, inB, canon]
    · rw [if_neg hv]
      obtain ⟨h1, h2, h3, h4⟩ := lmb_spec f (v / 4294967296) (by omega)
      refine ⟨?_, inB_cons.2 ⟨by omega, h2⟩, ?_, by simp [hv]⟩
      · simp only [vl, h1]; omega
      · cases hl : lmb f (v / 4294967296) with
        | nil =>
          have : v / 4294967296 = 0 := h4.2 hl
          intro hc
          simp at hc
          omega
        | cons y l =>
          rw [hl] at h3
          unfold canon at *
          rw [List.getLast?_cons_cons]
          exact h3
theorem limbs_vl (v : Nat) : vl (limbs v) = v := (lmb_spec v v (Nat.le_refl _)).1
theorem limbs_in (v : Nat) : inB (limbs v) := (lmb_spec v v (Nat.le_refl _)).2.1
theorem limbs_canon (v : Nat) : canon (limbs v) := (lmb_spec v v (Nat.le_refl _)).2.2.1
theorem limbs_nil (v : Nat) : limbs v = [] ↔ v = 0 := (lmb_spec v v (Nat.le_refl _)).2.2.2.symm
theorem vl_inj : ∀ {l m : List Int}, inB l → canon l → inB m → canon m → vl l = vl m → l = m
  | [], [], _, _, _, _, _ => rfl
  | [], y :: m, _, _, hm, cm, h => by have := canon_pos hm cm (by simp); simp [vl] at h; simp only [vl] at this; omega
  | x :: l, [], hl, cl, _, _, h => by have := canon_pos hl cl (by simp); simp [vl] at h; simp only [vl] at this; omega
  | x :: l, y :: m, hl, cl, hm, cm, h => by
    have h1 := (inB_cons.1 hl).1
    have h2 := (inB_cons.1 hm).1
    have h3 := vl_nonneg (inB_cons.1 hl).2
    have h4 := vl_nonneg (inB_cons.1 hm).2
    simp only [vl] at h
    have e1 : x = y := by omega
    have e2 : vl l = vl m := by omega
    have c1 : canon l := by
      cases l with
      | nil => simp [canon]
      | cons a l => exact canon_tail cl
    have c2 : canon m := by
      cases m with
      | nil => simp [canon]
      | cons a m => exact canon_tail cm
    rw [e1, vl_inj (inB_cons.1 hl).2 c1 (inB_cons.1 hm).2 c2 e2]
theorem limbs_of {l : List Int} (h : inB l) (hc : canon l) {v : Nat} (hv : vl l = v) : l = limbs v :=
  vl_inj h hc (limbs_in v) (limbs_canon v) (by rw [limbs_vl]; exact hv)
theorem canon_len {l : List Int} (h : inB l) (hc : canon l) {k : Nat} (hv : vl l < 4294967296 ^ k) : l.length ≤ k := by
  rcases Nat.lt_or_ge k l.length with h1 | h1
  · exfalso
    have e : l = l.take k ++ l.drop k := (List.take_append_drop k l).symm
    have hd : l.drop k ≠ [] := by simp; omega
    have hcd : canon (l.drop k) := by
      unfold canon at *
      rw [e, List.getLast?_append] at hc
      intro hcc
      rw [hcc] at hc
      exact hc rfl
    have h2 := canon_pos (inB_drop h k) hcd hd
    have h3 := vl_nonneg (inB_take h k)
    have h4 : vl l = vl (l.take k) + 4294967296 ^ k * vl (l.drop k) := by
      have := vl_app (l.take k) (l.drop k)
      rw [List.take_append_drop, List.length_take, Nat.min_eq_left (Nat.le_of_lt h1)] at this
      exact this
    have h5 : (4294967296 : Int) ^ k * 1 ≤ 4294967296 ^ k * vl (l.drop k) := Int.mul_le_mul_of_nonneg_left (by omega) (Int.pow_nonneg (by omega))
    omega
  · exact h1
theorem limbs_len {v k : Nat} (h : v < 4294967296 ^ k) : (limbs v).length ≤ k := by
  refine canon_len (limbs_in v) (limbs_canon v) ?_
  rw [limbs_vl]
  have : ((4294967296 ^ k : Nat) : Int) = (4294967296 : Int) ^ k := by rw [Int.natCast_pow]; rfl
  rw [← this]
  exact Int.ofNat_lt.2 h
def trimL (l : List Int) : List Int := (l.reverse.dropWhile fun x => decide (x = 0)).reverse
theorem trim_zero (l : List Int) : trimL (l ++ [0]) = trimL l := by simp [trimL]
theorem trim_keep (l : List Int) (x : Int) (h : x ≠ 0) : trimL (l ++ [x]) = l ++ [x] := by simp [trimL, List.dropWhile_cons, h]
theorem trim_ind {p : List Int → Prop} (h0 : p []) (h1 : ∀ l, p l → p (l ++ [0])) (h2 : ∀ l x, x ≠ 0 → p (l ++ [x])) : ∀ l, p l := by
  intro l
  have : ∀ n (l : List Int), l.length = n → p l := by
    intro n
    induction n with
    | zero => intro l hl; rw [List.length_eq_zero_iff.1 hl]; exact h0
    | succ n ih =>
      intro l hl
      have hne : l ≠ [] := by intro e; rw [e] at hl; simp at hl
      rw [← List.dropLast_concat_getLast hne]
      by_cases hx : l.getLast hne = 0
      · rw [hx]; exact h1 _ (ih _ (by simp; omega))
      · exact h2 _ _ hx
  exact this l.length l rfl
theorem trim_spec : ∀ (l : List Int), inB l → inB (trimL l) ∧ canon (trimL l) ∧ vl (trimL l) = vl l := by
  refine trim_ind ?_ ?_ ?_
  · intro _
    exact ⟨inB_nil, by simp [trimL, canon], rfl⟩
  · intro l ih h
    obtain ⟨a, b, c⟩ := ih (inB_app.1 h).1
    rw [trim_zero]
    refine ⟨a, b, ?_⟩
    rw [c, vl_app]
    simp [vl]
  · intro l x hx h
    rw [trim_keep l x hx]
    refine ⟨h, ?_, rfl⟩
    simp [canon, hx]
theorem trim_take : ∀ (l : List Int), trimL l = l.take (trimL l).length ∧ (trimL l).length ≤ l.length := by
  refine trim_ind (by simp [trimL]) ?_ ?_
  · intro l ih
    rw [trim_zero]
    refine ⟨?_, by have := ih.2; simp; omega⟩
    rw [List.take_append_of_le_length ih.2]
    exact ih.1
  · intro l x hx
    rw [trim_keep l x hx, List.take_of_length_le (Nat.le_refl _)]
    exact ⟨rfl, Nat.le_refl _⟩
theorem trim_limbs {l : List Int} (h : inB l) {v : Nat} (hv : vl l = v) : trimL l = limbs v := by
  obtain ⟨a, b, c⟩ := trim_spec l h
  exact limbs_of a b (c.trans hv)
theorem limbs_le {a b : Nat} (h : a ≤ b) : (limbs a).length ≤ (limbs b).length := by
  refine canon_len (limbs_in a) (limbs_canon a) ?_
  have := vl_lt (limbs_in b)
  rw [limbs_vl] at this ⊢
  omega
theorem limbs_one {v : Nat} (h0 : 0 < v) (h : v < 4294967296) : limbs v = [(v : Int)] := by
  refine (limbs_of (inB_cons.2 ⟨by omega, inB_nil⟩) ?_ ?_).symm
  · simp [canon]; omega
  · simp [vl]
/-- comparison -/
def sgn (a b : Int) : Int := if a < b then -1 else if b < a then 1 else 0
theorem vl_split {l : List Int} {k : Nat} {x : Int} (h : l[k]? = some x) : vl l = vl (l.take k) + 4294967296 ^ k * (x + 4294967296 * vl (l.drop (k + 1))) := by
  have hk := (List.getElem?_eq_some_iff.1 h).1
  have h1 := vl_app (l.take k) (l.drop k)
  rw [List.take_append_drop, List.length_take, Nat.min_eq_left (Nat.le_of_lt hk), List.drop_eq_getElem_cons hk] at h1
  rw [h1]
  rw [List.getElem?_eq_getElem hk] at h
  injection h with h
  rw [h]
  rfl
theorem cmp_at {l m : List Int} (hl : inB l) (hm : inB m) {k : Nat} {x y : Int} (hx : l[k]? = some x) (hy : m[k]? = some y) (hd : l.drop (k + 1) = m.drop (k + 1)) (h : x < y) : vl l < vl m := by
  rw [vl_split hx, vl_split hy, hd]
  have h1 := vl_lt (inB_take hl k)
  have hk := (List.getElem?_eq_some_iff.1 hx).1
  rw [List.length_take, Nat.min_eq_left (Nat.le_of_lt hk)] at h1
  have h2 := vl_nonneg (inB_take hm k)
  generalize vl (m.drop (k + 1)) = d
  have h3 : (4294967296 : Int) ^ k * (x + 4294967296 * d + 1) ≤ 4294967296 ^ k * (y + 4294967296 * d) := Int.mul_le_mul_of_nonneg_left (by omega) (Int.pow_nonneg (by omega))
  rw [Int.mul_add, Int.mul_one] at h3
  omega
theorem len_lt {l m : List Int} (hl : inB l) (hm : inB m) (hc : canon m) (h : l.length < m.length) : vl l < vl m := by
  rcases Int.lt_or_le (vl l) (vl m) with h1 | h1
  · exact h1
  · exfalso
    have := canon_len hm hc (k := l.length) (Int.lt_of_le_of_lt h1 (vl_lt hl))
    omega
end Go.Proofs.YtmakokbpadmfbaaGreat
namespace Go.Proofs.YtmakokbpadmfbaaGreat
def gt (l : List Int) (i : Nat) : Int := (l[i]?).getD 0
theorem gt_in {l : List Int} (h : inB l) (i : Nat) : 0 ≤ gt l i ∧ gt l i < 4294967296 := by
  unfold gt
  cases hx : l[i]? with
  | none => simp
  | some x => exact inB_get h hx
theorem vl_take (l : List Int) (i : Nat) : vl (l.take (i + 1)) = vl (l.take i) + 4294967296 ^ i * gt l i := by
  unfold gt
  rw [List.take_add_one]
  cases hx : l[i]? with
  | none => simp
  | some x =>
    have hi := (List.getElem?_eq_some_iff.1 hx).1
    rw [vl_app, List.length_take, Nat.min_eq_left (Nat.le_of_lt hi)]
    simp [vl]
theorem set_take {l : List Int} {i : Nat} {s : Int} (h : i < l.length) : (l.set i s).take (i + 1) = l.take i ++ [s] := by
  rw [List.take_add_one, List.getElem?_set_self h]
  rw [List.take_set_of_le (Nat.le_refl i)]
  rfl
theorem inB_set {l : List Int} (h : inB l) {i : Nat} {s : Int} (hs : 0 ≤ s ∧ s < 4294967296) : inB (l.set i s) := fun x hx => by
  rcases List.mem_or_eq_of_mem_set hx with h1 | h1
  · exact h x h1
  · rw [h1]; exact hs
theorem inB_zeros (n : Nat) : inB (List.replicate n 0) := fun x hx => by rw [List.eq_of_mem_replicate hx]; omega
theorem add_step {T a b : List Int} {i : Nat} {z : Int} (hi : i < T.length) (h : vl (T.take i) + z * 4294967296 ^ i = vl (a.take i) + vl (b.take i)) :
    vl ((T.set i ((gt a i + gt b i + z) % 4294967296)).take (i + 1)) + (gt a i + gt b i + z) / 4294967296 * 4294967296 ^ (i + 1) = vl (a.take (i + 1)) + vl (b.take (i + 1)) := by
  rw [set_take hi, vl_app, vl_take, vl_take, List.length_take, Nat.min_eq_left (Nat.le_of_lt hi)]
  simp only [vl, Int.mul_zero, Int.add_zero]
  generalize gt a i = x at *
  generalize gt b i = y at *
  have e1 : (x + y + z) % 4294967296 + 4294967296 * ((x + y + z) / 4294967296) = x + y + z := Int.emod_add_mul_ediv _ _
  have e2 : 4294967296 ^ i * ((x + y + z) % 4294967296) + (x + y + z) / 4294967296 * 4294967296 ^ (i + 1) = 4294967296 ^ i * (x + y + z) := by
    rw [Int.pow_succ, Int.mul_comm ((x + y + z) / 4294967296), Int.mul_assoc, ← Int.mul_add, e1]
  rw [Int.mul_add, Int.mul_add, Int.mul_comm _ z] at e2
  omega
theorem B_le {m n : Nat} (h : m ≤ n) : (4294967296 : Int) ^ m ≤ 4294967296 ^ n := by
  have := Nat.pow_le_pow_right (n := 4294967296) (by omega) h
  have h2 := Int.ofNat_le.2 this
  rw [Int.natCast_pow, Int.natCast_pow] at h2
  exact h2
theorem vl_set : ∀ (l : List Int) (k : Nat) (s t : Int), l[k]? = some t → vl (l.set k s) = vl l + (s - t) * 4294967296 ^ k
  | x :: l, 0, s, t, h => by
    simp at h
    subst h
    simp [vl]
    omega
  | x :: l, k + 1, s, t, h => by
    simp at h
    have := vl_set l k s t h
    simp only [List.set_cons_succ, vl, this, Int.pow_succ]
    generalize (4294967296 : Int) ^ k = Q
    have e : 4294967296 * ((s - t) * Q) = (s - t) * (Q * 4294967296) := by rw [Int.mul_comm 4294967296, Int.mul_assoc]
    rw [Int.mul_add, e]
    omega
theorem mul_in {x y : Int} (hx : 0 ≤ x ∧ x < 4294967296) (hy : 0 ≤ y ∧ y < 4294967296) : 0 ≤ x * y ∧ x * y ≤ 18446744065119617025 := by
  refine ⟨Int.mul_nonneg hx.1 hy.1, ?_⟩
  have h1 : x * y ≤ 4294967295 * y := Int.mul_le_mul_of_nonneg_right (by omega) hy.1
  omega
theorem mul_step {T q : List Int} {i j K : Nat} {x t z P : Int} (ht : T[i + j]? = some t) (hK : i + j < K) (h : vl (T.take K) + z * 4294967296 ^ (i + j) = P + x * 4294967296 ^ i * vl (q.take j)) :
    vl ((T.set (i + j) ((x * gt q j + t + z) % 4294967296)).take K) + (x * gt q j + t + z) / 4294967296 * 4294967296 ^ (i + j + 1) = P + x * 4294967296 ^ i * vl (q.take (j + 1)) := by
  have ht' : (T.take K)[i + j]? = some t := by rw [List.getElem?_take, if_pos hK, ht]
  rw [List.take_set, vl_set _ _ _ _ ht', vl_take]
  generalize gt q j = y at *
  generalize vl (T.take K) = V at *
  generalize vl (q.take j) = Q at *
  have e1 : (x * y + t + z) % 4294967296 + 4294967296 * ((x * y + t + z) / 4294967296) = x * y + t + z := Int.emod_add_mul_ediv _ _
  generalize (x * y + t + z) % 4294967296 = r at *
  generalize (x * y + t + z) / 4294967296 = d at *
  have e2 : (4294967296 : Int) ^ (i + j + 1) = 4294967296 ^ (i + j) * 4294967296 := Int.pow_succ _ _
  have e3 : (4294967296 : Int) ^ (i + j) = 4294967296 ^ i * 4294967296 ^ j := Int.pow_add _ _ _
  have e4 : x * 4294967296 ^ i * (Q + 4294967296 ^ j * y) = x * 4294967296 ^ i * Q + x * y * 4294967296 ^ (i + j) := by
    rw [Int.mul_add, e3]
    congr 1
    rw [Int.mul_assoc, Int.mul_assoc, Int.mul_comm y, ← Int.mul_assoc (4294967296 ^ i)]
  rw [e4, e2]
  generalize (4294967296 : Int) ^ (i + j) = B at *
  have e5 : (r - t) * B + d * (B * 4294967296) = (x * y + z) * B := by
    have : r = x * y + t + z - 4294967296 * d := by omega
    rw [this]
    rw [show d * (B * 4294967296) = (4294967296 * d) * B by rw [Int.mul_comm B, ← Int.mul_assoc, Int.mul_comm d], ← Int.add_mul]
    congr 1
    omega
  rw [Int.add_mul] at e5
  omega
theorem mul_row {T p q : List Int} {i m : Nat} {z : Int} (hT : i + m < T.length) (h : vl (T.take (i + m)) + z * 4294967296 ^ (i + m) = vl (p.take i) * vl q + gt p i * 4294967296 ^ i * vl q) :
    vl ((T.set (i + m) z).take (i + 1 + m)) = vl (p.take (i + 1)) * vl q := by
  rw [show i + 1 + m = i + m + 1 by omega, set_take hT, vl_app, vl_take, List.length_take, Nat.min_eq_left (Nat.le_of_lt hT)]
  simp only [vl, Int.mul_zero, Int.add_zero]
  rw [Int.add_mul, Int.mul_comm (4294967296 ^ i) (gt p i), Int.mul_comm _ z]
  exact h
theorem div_step {T p : List Int} {n j : Nat} {x r : Int} {y : Nat} (hT : T.length = n) (hp : p.length = n) (hx : T[j]? = some x) (hy : 0 < y) (hr : 0 ≤ r ∧ r < y) (htk : T.take (j + 1) = p.take (j + 1))
    (hv : vl (T.drop (j + 1)) * y + r = vl (p.drop (j + 1))) (hxb : 0 ≤ x ∧ x < 4294967296) :
    (0 ≤ (r * 4294967296 + x) / y ∧ (r * 4294967296 + x) / y < 4294967296) ∧ (0 ≤ (r * 4294967296 + x) % y ∧ (r * 4294967296 + x) % y < y) ∧
    vl ((T.set j ((r * 4294967296 + x) / y)).drop j) * y + (r * 4294967296 + x) % y = vl (p.drop j) := by
  have hj := (List.getElem?_eq_some_iff.1 hx).1
  have hpx : p[j]? = some x := by
    have h1 := congrArg (fun l => l[j]?) htk
    simp only [List.getElem?_take, Nat.lt_succ_self, if_pos] at h1
    rw [← h1, hx]
  have d1 : p.drop j = x :: p.drop (j + 1) := by
    rw [List.drop_eq_getElem_cons (by omega)]
    rw [List.getElem?_eq_getElem (by omega)] at hpx
    injection hpx with hpx
    rw [hpx]
  have d2 : ∀ s, (T.set j s).drop j = s :: T.drop (j + 1) := fun s => by
    rw [List.drop_eq_getElem_cons (by simpa using hj), List.drop_set_of_lt (Nat.lt_succ_self j)]
    simp
  refine ⟨⟨Int.ediv_nonneg (by omega) (by omega), Int.ediv_lt_of_lt_mul (by omega) ?_⟩, ⟨Int.emod_nonneg _ (by omega), Int.emod_lt_of_pos _ (by omega)⟩, ?_⟩
  · have : (r + 1) * 4294967296 ≤ y * 4294967296 := Int.mul_le_mul_of_nonneg_right (by omega) (by omega)
    omega
  · rw [d1, d2]
    simp only [vl]
    rw [← hv, Int.add_mul, Int.mul_assoc]
    generalize hD : r * 4294967296 + x = D at *
    have e := Int.emod_add_mul_ediv D y
    rw [Int.mul_comm (y : Int) (D / y)] at e
    generalize D / (y : Int) * y = A at *
    generalize D % (y : Int) = M at *
    generalize vl (T.drop (j + 1)) * (y : Int) = B at *
    omega
end Go.Proofs.YtmakokbpadmfbaaGreat

/-
  nat: trimmed, Of, Right, compared, Cmp, copied.
-/
namespace Go.Proofs.YtmakokbpadmfbaaGreat
open Go.RowKit Eng
set_option linter.unusedVariables false
set_option linter.unusedSimpArgs false
set_option maxHeartbeats 8000000
attribute [local irreducible] SC SQ J Qt Calls Iterates LSub FSub
theorem ri {k : IntKind} {a b : Int} (h : a = b) : Ending.returned (.int k a) = .returned (.int k b) := by rw [h]
theorem rb {a b : Bool} (h : a = b) : Ending.returned (.bool a) = .returned (.bool b) := by rw [h]
abbrev u32C (x : Int) : List Value := [.int .u32 x]
abbrev intC (x : Int) : List Value := [.int .i64 x]
theorem take_snoc {l : List Int} {k : Nat} {x : Int} (h : l[k]? = some x) : l.take (k + 1) = l.take k ++ [x] := by
  rw [List.take_add_one, h]
  rfl
theorem trimmed_c (A : Option Addr) (c : Nat) (l : List Int) (w : World) (hl : l.length ≤ 9223372036854775807) (hc : l.length ≤ c) (h : RS w 1 u32C A l) :
    Calls Tryz.prog 58 #[.slice A l.length c] w fun e w' => e = .returned (.slice A (trimL l).length c) ∧ Below w.heap.size w w' := by
  generalize hn : l.length = n at *
  refine eng_start (n := 21) (args := [.slice A n c]) tab tab_ok fns fns_ok [.tmp 2] Tryz.func58 rfl rfl rfl rfl ?_
  repeat' (first | (refine gJ ?_; refine js rfl rfl rfl rfl ?_) | (refine gSC ?_; first | refine sc_mv rfl ?_ | refine sc_region ?_) | (refine gSQ ?_; refine sq_go rfl ?_) | refine j_nil ?_)
  refine sc_loop (ι := Nat) (fun k => k ≤ n ∧ trimL (l.take k) = trimL l) (fun k => k) (fun k => [(0, .slice A k c)]) (fun _ => []) n ⟨Nat.le_refl _, by rw [List.take_of_length_le (by omega)]⟩ (by repeat (first | exact FSub.nil | refine FSub.cons rfl ?_ | refine FSub.conse rfl (by congr 1; omega) ?_)) (by repeat (first | exact LSub.nil | refine LSub.cons (by repeat (first | exact Rem.here | apply Rem.there)) ?_)) ?_
  rintro k ⟨hk, hr⟩
  cases k with
  | zero =>
    repeat' (first | (refine gJ ?_; first | refine js rfl rfl rfl rfl ?_ | (refine j_qe rfl rfl rfl ?_; refine ⟨_, q_len_slice rfl rfl rfl rfl, ?_⟩)) | (refine gSC ?_; first | refine sc_mv rfl ?_ | refine sc_q rfl ?_ | refine sc_region ?_) | (refine gSQ ?_; first | refine sq_go rfl ?_ | refine sq_mv rfl ?_ | refine sq_ende (by first | exact .inl rfl | exact .inr rfl) rfl rfl ⟨_, (RVs.cons (RV.tmp rfl) (RVs.nil)), ?_⟩) | refine j_nil ?_ | ((first | refine j_guard rfl rfl rfl rfl rfl ?_ ?_ | refine sc_cond rfl ?_ ?_) <;> intro hc <;> (first | exact absurd hc (by decide) | ((try simp only [engHC] at hc) <;> skip))))
    (intro w' hS; refine ⟨?_, hS.below⟩; simp only [pack])
    rw [← hr]
    rfl
  | succ j =>
    obtain ⟨x, hx⟩ : ∃ x, l[j]? = some x := ⟨_, List.getElem?_eq_getElem (by omega)⟩
    obtain ⟨ad, rfl, hX⟩ := h j x hx
    have e1 : j = (((j + 1 : Nat) : Int) - 1).toNat := by omega
    rw [e1] at hX
    rw [take_snoc hx] at hr
    by_cases hx0 : x = 0
    · rw [hx0, trim_zero] at hr
      repeat' (first | (refine gJ ?_; first | refine js rfl rfl rfl rfl ?_ | (refine gload rfl rfl ?_; refine j_qe rfl rfl rfl ?_; refine ⟨_, q_load_ext0 rfl rfl rfl rfl ⟨by assumption, (by first | exact id | assumption)⟩ (by rfl), ?_⟩) | refine jar rfl rfl rfl rfl rfl rfl rfl (by omega) ?_ | (refine j_qe rfl rfl rfl ?_; refine ⟨_, q_sliceHiI j rfl rfl rfl rfl rfl (by omega) (by omega), ?_⟩) | (refine j_qe rfl rfl rfl ?_; first | refine ⟨_, q_index_slice rfl rfl rfl rfl rfl (by omega), ?_⟩ | refine ⟨_, q_len_slice rfl rfl rfl rfl, ?_⟩)) | (refine gSC ?_; first | refine sc_mv rfl ?_ | refine sc_q rfl ?_ | refine sc_region ?_) | (refine gSQ ?_; first | refine sq_go rfl ?_ | refine sq_mv rfl ?_) | refine j_nil ?_ | ((first | refine j_guard rfl rfl rfl rfl rfl ?_ ?_ | refine sc_cond rfl ?_ ?_) <;> intro hc <;> (first | exact absurd hc (by decide) | ((try simp only [engHC] at hc) <;> first | (exfalso; omega) | skip))))
      exact sq_loop j ⟨by omega, hr⟩ (by omega) (by repeat (first | exact FSub.nil | refine FSub.cons rfl ?_ | refine FSub.conse rfl (by congr 1; omega) ?_)) (by repeat (first | exact LSub.nil | refine LSub.cons (by repeat (first | exact Rem.here | apply Rem.there)) ?_))
    · rw [trim_keep _ _ hx0] at hr
      repeat' (first | (refine gJ ?_; first | refine js rfl rfl rfl rfl ?_ | (refine gload rfl rfl ?_; refine j_qe rfl rfl rfl ?_; refine ⟨_, q_load_ext0 rfl rfl rfl rfl ⟨by assumption, (by first | exact id | assumption)⟩ (by rfl), ?_⟩) | refine jar rfl rfl rfl rfl rfl rfl rfl (by omega) ?_ | (refine j_qe rfl rfl rfl ?_; first | refine ⟨_, q_index_slice rfl rfl rfl rfl rfl (by omega), ?_⟩ | refine ⟨_, q_len_slice rfl rfl rfl rfl, ?_⟩)) | (refine gSC ?_; first | refine sc_mv rfl ?_ | refine sc_q rfl ?_ | refine sc_region ?_) | (refine gSQ ?_; first | refine sq_go rfl ?_ | refine sq_mv rfl ?_ | refine sq_ende (by first | exact .inl rfl | exact .inr rfl) rfl rfl ⟨_, (RVs.cons (RV.tmp rfl) (RVs.nil)), ?_⟩) | refine j_nil ?_ | ((first | refine j_guard rfl rfl rfl rfl rfl ?_ ?_ | refine sc_cond rfl ?_ ?_) <;> intro hc <;> (first | exact absurd hc (by decide) | ((try simp only [engHC] at hc) <;> first | (exfalso; omega) | skip))))
      (intro w' hS; refine ⟨?_, hS.below⟩; simp only [pack])
      rw [← hr]
      congr 2
      simp; omega
/-- A slice of limbs that came in. -/
structure SL (w : World) (A : Option Addr) (c : Nat) (l : List Int) : Prop where
  rs : RS w 1 u32C A l
  nil : A = none → l = [] ∧ c = 0
  le : l.length ≤ c
theorem SL.st {w0 w : World} {A : Option Addr} {c : Nat} {l : List Int} (h : SL w0 A c l) {L : List HA} (hs : St w0 Cold L w) : SL w A c l := ⟨h.rs.st hs, h.nil, h.le⟩
theorem SL.empty {w : World} : SL w none 0 [] := ⟨RS.nil, fun _ => ⟨rfl, rfl⟩, Nat.le_refl _⟩
theorem sl_of_own {w0 w : World} {hot : Nat → Prop} {L : List HA} {n : Nat} {xs : List Value} {A : Option Addr} {c : Nat} {l : List Int} (hs : St w0 hot L w) (hin : InL L (.own (.slice A n c) 92 1 n xs)) (hn : n = l.length) (hx : xs = l.flatMap u32C) : SL w A c l := by
  subst hn
  subst hx
  have hA := hs.at hin
  rcases hA.2.2 with ⟨hv, h0⟩ | ⟨g, cap, cur, hv, _, hg, hnc, _⟩
  · injection hv with h1 _ h3
    subst h1
    subst h3
    have : l = [] := List.length_eq_zero_iff.1 h0
    subst this
    exact SL.empty
  · injection hv with h1 _ h3
    subst h1
    subst h3
    refine ⟨fun i x hx => ?_, (fun h => by cases h), hnc⟩
    have hlt := (Array.getElem?_eq_some_iff.1 hg).1
    refine ⟨_, rfl, by rw [block_add]; exact hlt, fun j u hu => ?_⟩
    rw [nth_eq] at hu
    rw [Eng.add_add]
    exact own_cell hs hin (flat_at u32C 1 (fun _ => rfl) l i x j u hx hu)
theorem rs_of_cells {w0 w : World} {hot : Nat → Prop} {L : List HA} {u b : Nat} {l : List Int} (hs : St w0 hot L w) (hin : InL L (.cells b u (l.flatMap u32C))) : RS w 1 u32C (some ⟨b, 0, none⟩) l := fun i x hx => by
  have hE := hs.ext hin
  refine ⟨_, rfl, by rw [block_add]; exact hE.lt, fun j v hv => ?_⟩
  rw [nth_eq] at hv
  have hfl := flat_at u32C 1 (fun _ => rfl) l i x j v hx hv
  rw [Eng.add_add]
  exact hE.cell _ _ (by rw [nth_eq]; exact hfl)
theorem st_cells_own {w0 w : World} {hot : Nat → Prop} {L L' : List HA} {b e sz n k : Nat} {cs : List Value} (hs : St w0 hot L w) (hup : Upd L (.cells b e cs) (.own (.slice (some ⟨b, 0, none⟩) k n) e sz k (cs.take (k * sz))) L') (hlen : cs.length = n * sz) (hk : k ≤ n) (hn : n ≤ 1000000) : St w0 hot L' w := by
  obtain ⟨M, h1, _⟩ := hup.perm
  have hA := (hs.perm h1).head
  have hfoot : ∀ q, (HA.own (.slice (some ⟨b, 0, none⟩) k n) e sz k (cs.take (k * sz))).foot q → q = b := fun q hq => own_foot hq
  have hle : k * sz ≤ n * sz := Nat.mul_le_mul_right _ hk
  refine hs.upd hup (Below.refl 0 w) (fun q _ _ => rfl) ⟨fun q hq => by rw [hfoot q hq]; exact hA.1, by rw [List.length_take, hlen]; omega, .inr ⟨b, n, cs.toArray, rfl, Nat.zero_le _, hA.2, hk, by unfold maxLen; omega, by simp [hlen], by simp⟩⟩ (fun q hq => .inl (hfoot q hq))
abbrev haN (v : Value) (n : Nat) : HA := .own v 92 1 (limbs n).length ((limbs n).flatMap u32C)
theorem flat_take (l : List Int) (k : Nat) : (l.flatMap u32C).take (k * 1) = (l.take k).flatMap u32C := by
  have : ∀ l : List Int, l.flatMap u32C = l.map (Value.int .u32) := by
    intro l
    induction l with
    | nil => rfl
    | cons x l ih => simp [ih]
  rw [this, this, List.map_take, Nat.mul_one]
theorem of_c (n : Nat) (w : World) (hn : n < 18446744073709551616) :
    Calls Tryz.prog 27 #[.int .u64 n] w fun e w' => ∃ v : Value, True ∧ e = .returned v ∧ St w Cold [haN v n] w' := by
  have hin : inB [(n : Int) % 4294967296, (n : Int) / 4294967296 % 4294967296] := inB_cons.2 ⟨by omega, inB_cons.2 ⟨by omega, inB_nil⟩⟩
  have hv : vl [(n : Int) % 4294967296, (n : Int) / 4294967296 % 4294967296] = (n : Int) := by simp only [vl]; omega
  have htr := trim_limbs hin hv
  have htk := trim_take [(n : Int) % 4294967296, (n : Int) / 4294967296 % 4294967296]
  rw [htr] at htk
  refine eng_start (n := 10) (args := [.int .u64 n]) tab tab_ok fns fns_ok [.tmp 2] Tryz.func27 rfl rfl rfl rfl ?_
  repeat' (first | (refine gJ ?_; first | refine js rfl rfl rfl rfl ?_ | (refine gcall rfl rfl ?_; (refine j_qc (f := 58) rfl rfl rfl rfl rfl rfl rfl ?_; refine ⟨_, (fun w' hs => by have h9 := trimmed_c (some ⟨b, 0, none⟩) 2 [(n : Int) % 4294967296, (n : Int) / 4294967296 % 4294967296] w' (by simp) (by simp) (rs_of_cells hs (by exact InL.here)); rw [htr] at h9; exact h9), ?_⟩)) | (refine j_qe rfl rfl rfl ?_; refine ⟨_, q_convw (k := .u32) rfl rfl rfl rfl rfl rfl u32_wrap, ?_⟩) | (refine j_qe rfl rfl rfl ?_; refine ⟨_, q_shr32 rfl rfl rfl rfl, ?_⟩) | (refine gF ?_; (refine j_buildSlice rfl rfl rfl rfl rfl rfl rfl rfl rfl rfl rfl rfl ?_; intro b))) | (refine gSC ?_; first | refine sc_mv rfl ?_ | refine sc_q rfl ?_ | refine sc_region ?_) | (refine gSQ ?_; first | refine sq_go rfl ?_ | refine sq_ende (by first | exact .inl rfl | exact .inr rfl) rfl rfl ⟨_, (RVs.cons (RV.tmp rfl) (RVs.nil)), ?_⟩) | refine j_nil ?_)
  intro w' hS
  refine ⟨_, trivial, rfl, ?_⟩
  have h9 := st_cells_own (sz := 1) (n := 2) (k := (limbs n).length) (cs := ([(n : Int) % 4294967296, (n : Int) / 4294967296 % 4294967296] : List Int).flatMap u32C) hS Upd.here rfl (by simpa using htk.2) (by decide)
  rw [flat_take, ← htk.1] at h9
  exact h9
theorem number_c (n : Nat) (w : World) (hn : n ≤ 9223372036854775807) :
    Calls Tryz.prog 72 #[.int .i64 n] w fun e w' => ∃ v : Value, True ∧ e = .returned v ∧ St w Cold [haN v n] w' := by
  refine eng_start (n := 6) (args := [.int .i64 n]) tab tab_ok fns fns_ok [.tmp 2] Tryz.func72 rfl rfl rfl rfl ?_
  repeat' (first | (refine gJ ?_; first | refine js rfl rfl rfl rfl ?_ | (refine gcall rfl rfl ?_; refine gF ?_; refine j_callN (f := 27) rfl rfl rfl rfl rfl rfl rfl (fun v => v) (fun _ => True) (fun v => [haN v n]) (fun w' hs => of_c n w' (by omega)) (fun _ => trivial) ?_; rintro v9 _) | (refine j_qe rfl rfl rfl ?_; refine ⟨_, q_conv rfl rfl rfl rfl rfl rfl (by first | rfl | (exact i64_wrap (by omega) (by omega)) | (exact u8_wrap (by omega) (by omega)) | (exact u64_wrap (by omega) (by omega)) | (exact u16_wrap (by omega) (by omega))), ?_⟩)) | (refine gSC ?_; first | refine sc_mv rfl ?_ | refine sc_q rfl ?_ | refine sc_region ?_) | (refine gSQ ?_; first | refine sq_go rfl ?_ | refine sq_ende (by first | exact .inl rfl | exact .inr rfl) rfl rfl ⟨_, (RVs.cons (RV.tmp rfl) (RVs.nil)), ?_⟩) | refine j_nil ?_)
  intro w' hS
  exact ⟨_, trivial, rfl, hS.sub (by repeat (first | exact LSub.nil | refine LSub.cons (by repeat (first | exact Rem.here | apply Rem.there)) ?_))⟩
theorem last_get {l : List Int} (h : canon l) (k : Nat) (hk : l.length = k + 1) : ∃ x, l[k]? = some x ∧ x ≠ 0 := by
  obtain ⟨x, hx⟩ : ∃ x, l[k]? = some x := ⟨_, List.getElem?_eq_getElem (by omega)⟩
  refine ⟨x, hx, fun e => h ?_⟩
  rw [List.getLast?_eq_getElem?, hk, Nat.add_sub_cancel, hx, e]
theorem right_c (A : Option Addr) (c a : Nat) (w : World) (hl : (limbs a).length ≤ 1024) (h : SL w A c (limbs a)) :
    Calls Tryz.prog 55 #[.slice A (limbs a).length c] w fun e w' => e = .returned (.bool true) ∧ Below w.heap.size w w' := by
  have hcan := limbs_canon a
  obtain ⟨hR, _, _⟩ := h
  generalize limbs a = l at *
  generalize hn : l.length = n at *
  cases n with
  | zero =>
    refine eng_start (n := 20) (args := [.slice A 0 c]) tab tab_ok fns fns_ok [.tmp 2] Tryz.func55 rfl rfl rfl rfl ?_
    repeat' (first | (refine gJ ?_; first | refine js rfl rfl rfl rfl ?_ | (refine j_qe rfl rfl rfl ?_; refine ⟨_, q_len_slice rfl rfl rfl rfl, ?_⟩)) | (refine gSC ?_; first | refine sc_mv rfl ?_ | refine sc_q rfl ?_ | refine sc_region ?_) | (refine gSQ ?_; first | refine sq_go rfl ?_ | refine sq_ende (by first | exact .inl rfl | exact .inr rfl) rfl rfl ⟨_, (RVs.cons (RV.tmp rfl) (RVs.nil)), ?_⟩) | refine j_nil ?_ | ((refine j_guard rfl rfl rfl rfl rfl ?_ ?_) <;> intro hc <;> (first | exact absurd hc (by decide) | ((try simp only [engHC] at hc) <;> skip))))
    (intro w' hS; refine ⟨?_, hS.below⟩; simp only [pack])
  | succ k =>
    obtain ⟨x, hx, hx0⟩ := last_get hcan k hn
    obtain ⟨ad, rfl, hX⟩ := hR k x hx
    have e1 : k = (((k + 1 : Nat) : Int) - 1).toNat := by omega
    rw [e1] at hX
    refine eng_start (n := 20) (args := [.slice (some ad) (k + 1) c]) tab tab_ok fns fns_ok [.tmp 2] Tryz.func55 rfl rfl rfl rfl ?_
    repeat' (first | (refine gJ ?_; first | refine js rfl rfl rfl rfl ?_ | (refine gload rfl rfl ?_; refine j_qe rfl rfl rfl ?_; refine ⟨_, q_load_ext0 rfl rfl rfl rfl ⟨by assumption, (by first | exact id | assumption)⟩ (by rfl), ?_⟩) | refine jar rfl rfl rfl rfl rfl rfl rfl (by omega) ?_ | (refine j_qe rfl rfl rfl ?_; first | refine ⟨_, q_index_slice rfl rfl rfl rfl rfl (by omega), ?_⟩ | refine ⟨_, q_len_slice rfl rfl rfl rfl, ?_⟩)) | (refine gSC ?_; first | refine sc_mv rfl ?_ | refine sc_q rfl ?_ | refine sc_region ?_) | (refine gSQ ?_; first | refine sq_go rfl ?_ | refine sq_ende (by first | exact .inl rfl | exact .inr rfl) rfl rfl ⟨_, (RVs.cons (RV.tmp rfl) (RVs.nil)), ?_⟩) | refine j_nil ?_ | ((refine j_guard rfl rfl rfl rfl rfl ?_ ?_) <;> intro hc <;> (first | exact absurd hc (by decide) | ((try simp only [engHC] at hc) <;> first | (exfalso; omega) | skip))))
    (intro w' hS; refine ⟨?_, hS.below⟩; simp only [pack])
    exact rb (by simpa using hx0)
theorem copied_c (A : Option Addr) (c : Nat) (l : List Int) (w : World) (hl : l.length ≤ 1000000) (h : SL w A c l) :
    Calls Tryz.prog 56 #[.slice A l.length c] w fun e w' => ∃ v : Value, True ∧ e = .returned v ∧ St w Cold [.own v 92 1 l.length (l.flatMap u32C)] w' := by
  refine eng_start (n := 5) (args := [.slice A l.length c]) tab tab_ok fns fns_ok [.tmp 2] Tryz.func56 rfl rfl rfl rfl ?_
  repeat' (first | (refine gJ ?_; first | refine js rfl rfl rfl rfl ?_ | (refine j_own_nil 92 1 ?_; refine j_appendS (cs := l.flatMap u32C) (n := 0) (A := A) (k := l.length) (c := c) rfl rfl rfl rfl rfl rfl rfl rfl rfl rfl rfl (fun w' hs => reads_ext (f := u32C) (fun _ => rfl) (fun _ => rfl) (h.st hs).rs (h.st hs).nil) (by (repeat constructor)) (by omega) (fun _ => by (repeat constructor)) ?_; intro v9)) | (refine gSC ?_; first | refine sc_mv rfl ?_ | refine sc_q rfl ?_ | refine sc_region ?_) | (refine gSQ ?_; first | refine sq_go rfl ?_ | refine sq_ende (by first | exact .inl rfl | exact .inr rfl) rfl rfl ⟨_, (RVs.cons (RV.tmp rfl) (RVs.nil)), ?_⟩) | refine j_nil ?_)
  intro w' hS
  refine ⟨_, trivial, rfl, ?_⟩
  have h9 : (HA.own ‹Value› 92 1 (0 + l.length) ([] ++ l.flatMap u32C)) = .own ‹Value› 92 1 l.length (l.flatMap u32C) := by rw [Nat.zero_add, List.nil_append]
  exact h9 ▸ hS.sub (by repeat (first | exact LSub.nil | refine LSub.cons (by repeat (first | exact Rem.here | apply Rem.there)) ?_))
end Go.Proofs.YtmakokbpadmfbaaGreat


/-
  nat: compared, Cmp, Add.
-/
namespace Go.Proofs.YtmakokbpadmfbaaGreat
open Go.RowKit Eng
set_option linter.unusedVariables false
set_option linter.unusedSimpArgs false
set_option maxHeartbeats 8000000
attribute [local irreducible] SC SQ J Qt Calls Iterates LSub FSub
theorem compared_c (A : Option Addr) (c a : Nat) (B : Option Addr) (bc b : Nat) (w : World) (hla : (limbs a).length ≤ 1000000) (hlb : (limbs b).length ≤ 1000000) (hA : SL w A c (limbs a)) (hB : SL w B bc (limbs b)) :
    Calls Tryz.prog 59 #[.slice A (limbs a).length c, .slice B (limbs b).length bc] w fun e w' => e = .returned (.int .i64 (sgn a b)) ∧ Below w.heap.size w w' := by
  have ia := limbs_in a
  have ib := limbs_in b
  have ca := limbs_canon a
  have cb := limbs_canon b
  have va := limbs_vl a
  have vb := limbs_vl b
  obtain ⟨hRa, _, _⟩ := hA
  obtain ⟨hRb, _, _⟩ := hB
  generalize limbs a = l at *
  generalize limbs b = r at *
  obtain ⟨n, hn⟩ : ∃ n, l.length = n := ⟨_, rfl⟩
  obtain ⟨m, hm⟩ : ∃ m, r.length = m := ⟨_, rfl⟩
  rw [hn] at hla
  rw [hm] at hlb
  rw [hn, hm]
  rcases Nat.lt_trichotomy n m with h | h | h
  · have hlt := len_lt ia ib cb (by omega)
    have hs : sgn a b = -1 := by unfold sgn; rw [if_pos (by omega)]
    rw [hs]
    refine eng_start (n := 41) (args := [.slice A n c, .slice B m bc]) tab tab_ok fns fns_ok [.tmp 4] Tryz.func59 rfl rfl rfl rfl ?_
    repeat' (first | (refine gJ ?_; first | refine js rfl rfl rfl rfl ?_ | (refine j_qe rfl rfl rfl ?_; refine ⟨_, q_len_slice rfl rfl rfl rfl, ?_⟩)) | (refine gSC ?_; first | refine sc_mv rfl ?_ | refine sc_q rfl ?_ | refine sc_region ?_) | (refine gSQ ?_; first | refine sq_go rfl ?_ | refine sq_mv rfl ?_ | refine sq_ende (by first | exact .inl rfl | exact .inr rfl) rfl rfl ⟨_, (RVs.cons (RV.tmp rfl) (RVs.nil)), ?_⟩) | refine j_nil ?_ | ((refine sc_cond rfl ?_ ?_) <;> intro hc <;> (((try simp only [engHC] at hc) <;> first | (exfalso; omega) | skip))))
    (intro w' hS; refine ⟨?_, hS.below⟩; simp only [pack])
  · subst h
    refine eng_start (n := 41) (args := [.slice A n c, .slice B n bc]) tab tab_ok fns fns_ok [.tmp 4] Tryz.func59 rfl rfl rfl rfl ?_
    repeat' (first | (refine gJ ?_; first | refine js rfl rfl rfl rfl ?_ | refine jar rfl rfl rfl rfl rfl rfl rfl (by omega) ?_ | (refine j_qe rfl rfl rfl ?_; refine ⟨_, q_len_slice rfl rfl rfl rfl, ?_⟩)) | (refine gSC ?_; first | refine sc_mv rfl ?_ | refine sc_q rfl ?_ | refine sc_region ?_) | (refine gSQ ?_; refine sq_go rfl ?_) | refine j_nil ?_ | ((refine sc_cond rfl ?_ ?_) <;> intro hc <;> (((try simp only [engHC] at hc) <;> first | exact absurd trivial hc | skip))))
    refine sc_loop (ι := Nat) (fun k => k ≤ n ∧ l.drop k = r.drop k) (fun k => k) (fun k => [(0, .slice A n c), (1, .slice B n bc), (5, .int .i64 ((k : Int) - 1))]) (fun _ => []) n ⟨Nat.le_refl _, by rw [List.drop_of_length_le (by omega), List.drop_of_length_le (by omega)]⟩ (by repeat (first | exact FSub.nil | refine FSub.cons rfl ?_ | refine FSub.conse rfl (by congr 1; omega) ?_)) (by repeat (first | exact LSub.nil | refine LSub.cons (by repeat (first | exact Rem.here | apply Rem.there)) ?_)) ?_
    rintro k ⟨hk, hd⟩
    cases k with
    | zero =>
      have hs : sgn a b = 0 := by
        have : l = r := by simpa using hd
        unfold sgn
        rw [← va, ← vb, this, if_neg (by omega), if_neg (by omega)]
      repeat' (first | (refine gJ ?_; refine js rfl rfl rfl rfl ?_) | (refine gSC ?_; first | refine sc_mv rfl ?_ | refine sc_q rfl ?_ | refine sc_region ?_) | (refine gSQ ?_; first | refine sq_go rfl ?_ | refine sq_mv rfl ?_ | refine sq_ende (by first | exact .inl rfl | exact .inr rfl) rfl rfl ⟨_, (RVs.cons (RV.tmp rfl) (RVs.nil)), ?_⟩) | refine j_nil ?_ | ((refine sc_cond rfl ?_ ?_) <;> intro hc <;> (first | exact absurd hc (by decide) | ((try simp only [engHC] at hc) <;> skip))))
      (intro w' hS; refine ⟨?_, hS.below⟩; simp only [pack])
      rw [hs]
    | succ j =>
      obtain ⟨x, hx⟩ : ∃ x, l[j]? = some x := ⟨_, List.getElem?_eq_getElem (by omega)⟩
      obtain ⟨y, hy⟩ : ∃ y, r[j]? = some y := ⟨_, List.getElem?_eq_getElem (by omega)⟩
      obtain ⟨ad, rfl, hX⟩ := hRa j x hx
      obtain ⟨ad', rfl, hY⟩ := hRb j y hy
      have e1 : j = (((j + 1 : Nat) : Int) - 1).toNat := by omega
      rw [e1] at hX hY
      rcases Int.lt_trichotomy x y with h | h | h
      · have := cmp_at ia ib hx hy hd h
        have hs : sgn a b = -1 := by unfold sgn; rw [if_pos (by omega)]
        repeat' (first | (refine gJ ?_; first | refine js rfl rfl rfl rfl ?_ | (refine gload rfl rfl ?_; refine j_qe rfl rfl rfl ?_; refine ⟨_, q_load_ext0 rfl rfl rfl rfl ⟨by assumption, (by first | exact id | assumption)⟩ (by rfl), ?_⟩) | (refine j_qe rfl rfl rfl ?_; refine ⟨_, q_index_slice rfl rfl rfl rfl rfl (by omega), ?_⟩)) | (refine gSC ?_; first | refine sc_mv rfl ?_ | refine sc_q rfl ?_ | refine sc_region ?_ | refine sc_draw rfl mixed (by kernel_rfl) ?_) | (refine gSQ ?_; first | refine sq_go rfl ?_ | refine sq_mv rfl ?_ | refine sq_ende (by first | exact .inl rfl | exact .inr rfl) rfl rfl ⟨_, (RVs.cons (RV.tmp rfl) (RVs.nil)), ?_⟩) | refine j_nil ?_ | ((refine sc_cond rfl ?_ ?_) <;> intro hc <;> (((try simp only [engHC] at hc) <;> first | (exfalso; omega) | skip))))
        (intro w' hS; refine ⟨?_, hS.below⟩; simp only [pack])
        rw [hs]
      · repeat' (first | (refine gJ ?_; first | refine js rfl rfl rfl rfl ?_ | (refine gload rfl rfl ?_; refine j_qe rfl rfl rfl ?_; refine ⟨_, q_load_ext0 rfl rfl rfl rfl ⟨by assumption, (by first | exact id | assumption)⟩ (by rfl), ?_⟩) | refine jar rfl rfl rfl rfl rfl rfl rfl (by omega) ?_ | (refine j_qe rfl rfl rfl ?_; refine ⟨_, q_index_slice rfl rfl rfl rfl rfl (by omega), ?_⟩)) | (refine gSC ?_; first | refine sc_mv rfl ?_ | refine sc_q rfl ?_ | refine sc_region ?_ | refine sc_draw rfl mixed (by kernel_rfl) ?_) | (refine gSQ ?_; first | refine sq_go rfl ?_ | refine sq_mv rfl ?_) | refine j_nil ?_ | ((refine sc_cond rfl ?_ ?_) <;> intro hc <;> (((try simp only [engHC] at hc) <;> first | (exfalso; omega) | skip))))
        refine sq_loop j ⟨by omega, ?_⟩ (by omega) (by repeat (first | exact FSub.nil | refine FSub.cons rfl ?_ | refine FSub.conse rfl (by congr 1; omega) ?_)) (by repeat (first | exact LSub.nil | refine LSub.cons (by repeat (first | exact Rem.here | apply Rem.there)) ?_))
        have d1 := List.drop_eq_getElem_cons (l := l) (i := j) (by omega)
        have d2 := List.drop_eq_getElem_cons (l := r) (i := j) (by omega)
        have g1 := List.getElem?_eq_getElem (l := l) (i := j) (by omega)
        have g2 := List.getElem?_eq_getElem (l := r) (i := j) (by omega)
        rw [hx] at g1
        rw [hy] at g2
        injection g1 with g1
        injection g2 with g2
        rw [d1, d2, ← g1, ← g2, hd, h]
      · have := cmp_at ib ia hy hx hd.symm h
        have hs : sgn a b = 1 := by unfold sgn; rw [if_neg (by omega), if_pos (by omega)]
        repeat' (first | (refine gJ ?_; first | refine js rfl rfl rfl rfl ?_ | (refine gload rfl rfl ?_; refine j_qe rfl rfl rfl ?_; refine ⟨_, q_load_ext0 rfl rfl rfl rfl ⟨by assumption, (by first | exact id | assumption)⟩ (by rfl), ?_⟩) | (refine j_qe rfl rfl rfl ?_; refine ⟨_, q_index_slice rfl rfl rfl rfl rfl (by omega), ?_⟩)) | (refine gSC ?_; first | refine sc_mv rfl ?_ | refine sc_q rfl ?_ | refine sc_region ?_ | refine sc_draw rfl mixed (by kernel_rfl) ?_) | (refine gSQ ?_; first | refine sq_go rfl ?_ | refine sq_mv rfl ?_ | refine sq_ende (by first | exact .inl rfl | exact .inr rfl) rfl rfl ⟨_, (RVs.cons (RV.tmp rfl) (RVs.nil)), ?_⟩) | refine j_nil ?_ | ((refine sc_cond rfl ?_ ?_) <;> intro hc <;> (((try simp only [engHC] at hc) <;> first | (exfalso; omega) | skip))))
        (intro w' hS; refine ⟨?_, hS.below⟩; simp only [pack])
        rw [hs]
  · have hlt := len_lt ib ia ca (by omega)
    have hs : sgn a b = 1 := by unfold sgn; rw [if_neg (by omega), if_pos (by omega)]
    rw [hs]
    refine eng_start (n := 41) (args := [.slice A n c, .slice B m bc]) tab tab_ok fns fns_ok [.tmp 4] Tryz.func59 rfl rfl rfl rfl ?_
    repeat' (first | (refine gJ ?_; first | refine js rfl rfl rfl rfl ?_ | (refine j_qe rfl rfl rfl ?_; refine ⟨_, q_len_slice rfl rfl rfl rfl, ?_⟩)) | (refine gSC ?_; first | refine sc_mv rfl ?_ | refine sc_q rfl ?_ | refine sc_region ?_) | (refine gSQ ?_; first | refine sq_go rfl ?_ | refine sq_mv rfl ?_ | refine sq_ende (by first | exact .inl rfl | exact .inr rfl) rfl rfl ⟨_, (RVs.cons (RV.tmp rfl) (RVs.nil)), ?_⟩) | refine j_nil ?_ | ((refine sc_cond rfl ?_ ?_) <;> intro hc <;> (((try simp only [engHC] at hc) <;> first | (exfalso; omega) | skip))))
    (intro w' hS; refine ⟨?_, hS.below⟩; simp only [pack])
theorem cmp_c (A : Option Addr) (c a : Nat) (B : Option Addr) (bc b : Nat) (w : World) (hla : (limbs a).length ≤ 1024) (hlb : (limbs b).length ≤ 1024) (hA : SL w A c (limbs a)) (hB : SL w B bc (limbs b)) :
    Calls Tryz.prog 29 #[.slice A (limbs a).length c, .slice B (limbs b).length bc] w fun e w' => e = .returned (.tuple #[.int .i64 (sgn a b), .int .i64 0]) ∧ Below w.heap.size w w' := by
  have hcc := fun w' hA hB => compared_c A c a B bc b w' (by omega) (by omega) hA hB
  have h1 := fun w' hA => right_c A c a w' hla hA
  have h2 := fun w' hB => right_c B bc b w' hlb hB
  refine eng_start (n := 17) (args := [.slice A (limbs a).length c, .slice B (limbs b).length bc]) tab tab_ok fns fns_ok [.tmp 4, .tmp 5] Tryz.func29 rfl rfl rfl rfl ?_
  repeat' (first | (refine gJ ?_; first | refine js rfl rfl rfl rfl ?_ | (refine gcall rfl rfl ?_; first | (refine j_qc (f := 55) rfl rfl rfl rfl rfl rfl rfl ?_; refine ⟨_, (fun w' hs => h1 w' (hA.st hs)), ?_⟩) | (refine j_qc (f := 55) rfl rfl rfl rfl rfl rfl rfl ?_; refine ⟨_, (fun w' hs => h2 w' (hB.st hs)), ?_⟩) | (refine j_qc (f := 59) rfl rfl rfl rfl rfl rfl rfl ?_; refine ⟨_, (fun w' hs => hcc w' (hA.st hs) (hB.st hs)), ?_⟩))) | (refine gSC ?_; first | refine sc_mv rfl ?_ | refine sc_q rfl ?_ | refine sc_region ?_) | (refine gSQ ?_; first | refine sq_go rfl ?_ | refine sq_ende (by first | exact .inl rfl | exact .inr rfl) rfl rfl ⟨_, (RVs.cons (RV.tmp rfl) (RVs.cons (RV.tmp rfl) (RVs.nil))), ?_⟩) | refine j_nil ?_ | ((first | refine j_guard rfl rfl rfl rfl rfl ?_ ?_ | refine sc_cond rfl ?_ ?_) <;> intro hc <;> (first | exact absurd hc (by decide) | ((try simp only [engHC] at hc) <;> skip))))
  (intro w' hS; refine ⟨?_, hS.below⟩; simp only [pack])
theorem add32_c (x y z : Int) (w : World) (hx : 0 ≤ x ∧ x < 4294967296) (hy : 0 ≤ y ∧ y < 4294967296) (hz : 0 ≤ z ∧ z ≤ 1) :
    Calls Tryz.prog 151 #[.int .u32 x, .int .u32 y, .int .u32 z] w fun e w' => e = .returned (.tuple #[.int .u32 ((x + y + z) % 4294967296), .int .u32 ((x + y + z) / 4294967296)]) ∧ Below w.heap.size w w' := by
  refine eng_start (n := 22) (args := [.int .u32 x, .int .u32 y, .int .u32 z]) tab tab_ok fns fns_ok [.tmp 6, .tmp 7] Tryz.func151 rfl rfl rfl rfl ?_
  repeat' (first | (refine gJ ?_; first | refine js rfl rfl rfl rfl ?_ | (refine j_qe rfl rfl rfl ?_; refine ⟨_, q_convw (k := .u64) rfl rfl rfl rfl rfl rfl (u64_wrap (by omega) (by omega)), ?_⟩) | (refine j_qe rfl rfl rfl ?_; refine ⟨_, q_convw (k := .u32) (b := (x + y + z) / 4294967296) rfl rfl rfl rfl rfl rfl (u32_small (by omega) (by omega)), ?_⟩) | (refine j_qe rfl rfl rfl ?_; refine ⟨_, q_convw (k := .u32) rfl rfl rfl rfl rfl rfl u32_wrap, ?_⟩) | (refine j_qe rfl rfl rfl ?_; refine ⟨_, q_shr32 rfl rfl rfl rfl, ?_⟩) | (refine j_qe rfl rfl rfl ?_; refine ⟨_, q_ark (k := .u64) rfl rfl rfl rfl (u64_wrap (by omega) (by omega)), ?_⟩)) | (refine gSC ?_; first | refine sc_mv rfl ?_ | refine sc_q rfl ?_ | refine sc_region ?_) | (refine gSQ ?_; first | refine sq_go rfl ?_ | refine sq_ende (by first | exact .inl rfl | exact .inr rfl) rfl rfl ⟨_, (RVs.cons (RV.tmp rfl) (RVs.cons (RV.tmp rfl) (RVs.nil))), ?_⟩) | refine j_nil ?_)
  (intro w' hS; refine ⟨?_, hS.below⟩; simp only [pack])
theorem adder_c (w : World) :
    Calls Tryz.prog 131 #[] w fun e w' => ∃ b : Nat, True ∧ e = .returned (.func (.func 150) #[] #[.pointer (some ⟨b, 0, none⟩)]) ∧ St w Cold [.cells b 92 [.int .u32 0]] w' := by
  refine eng_start (n := 3) (args := []) tab tab_ok fns fns_ok [.tmp 0] Tryz.func131 rfl rfl rfl rfl ?_
  repeat' (first | (refine gJ ?_; first | refine js rfl rfl rfl rfl ?_ | (refine gF ?_; first | refine j_store rfl rfl rfl rfl rfl rfl rfl rfl (by (repeat constructor)) (by rfl) ?_ | (refine j_alloc rfl rfl rfl rfl rfl ?_; intro b)) | (refine j_qe rfl rfl rfl ?_; refine ⟨_, q_makeFunc rfl rfl, ?_⟩)) | (refine gSC ?_; first | refine sc_mv rfl ?_ | refine sc_q rfl ?_ | refine sc_region ?_) | (refine gSQ ?_; first | refine sq_go rfl ?_ | refine sq_ende (by first | exact .inl rfl | exact .inr rfl) rfl rfl ⟨_, (RVs.cons (RV.tmp rfl) (RVs.nil)), ?_⟩) | refine j_nil ?_)
  intro w' hS
  exact ⟨b, trivial, rfl, hS.sub (by repeat (first | exact LSub.nil | refine LSub.cons (by repeat (first | exact Rem.here | apply Rem.there)) ?_))⟩
theorem adder1_c {w0 w : World} {hot : Nat → Prop} {L L' : List HA} {b : Nat} {x y z : Int} (hs : St w0 hot L w) (hx : 0 ≤ x ∧ x < 4294967296) (hy : 0 ≤ y ∧ y < 4294967296) (hz : 0 ≤ z ∧ z ≤ 1) (hin : InL L (.cells b 92 [.int .u32 z])) (hup : Upd L (.cells b 92 [.int .u32 z]) (.cells b 92 [.int .u32 ((x + y + z) / 4294967296)]) L') :
    Calls Tryz.prog 150 #[.int .u32 x, .int .u32 y, .pointer (some ⟨b, 0, none⟩)] w fun e w' => ∃ _ : Unit, True ∧ e = .returned (.int .u32 ((x + y + z) % 4294967296)) ∧ St w0 hot L' w' := by
  have hl := hs.lent hin trivial
  refine eng_start_lent (n := 17) (args := [.int .u32 x, .int .u32 y, .pointer (some ⟨b, 0, none⟩)]) tab tab_ok fns fns_ok [.tmp 5] _ _ Tryz.func150 rfl rfl rfl rfl (hl) ?_
  repeat' (first | (refine gJ ?_; first | refine js rfl rfl rfl rfl ?_ | (refine gload rfl rfl ?_; refine j_qe rfl rfl rfl ?_; refine ⟨_, q_load_own rfl rfl rfl rfl (by (repeat constructor)) (by first | rfl | assumption), ?_⟩) | (refine gcall rfl rfl ?_; (refine j_qc (f := 151) rfl rfl rfl rfl rfl rfl rfl ?_; refine ⟨_, (fun w' _ => add32_c x y z w' hx hy hz), ?_⟩)) | (refine gF ?_; refine j_store rfl rfl rfl rfl rfl rfl rfl rfl (by (repeat constructor)) (by rfl) ?_)) | (refine gSC ?_; first | refine sc_mv rfl ?_ | refine sc_q rfl ?_ | refine sc_region ?_) | (refine gSQ ?_; first | refine sq_go rfl ?_ | refine sq_ende (by first | exact .inl rfl | exact .inr rfl) rfl rfl ⟨_, (RVs.cons (RV.tmp rfl) (RVs.nil)), ?_⟩) | refine j_nil ?_)
  intro w' hS
  exact ⟨(), trivial, rfl, hs.back hup (hS.sub (by repeat (first | exact LSub.nil | refine LSub.cons (by repeat (first | exact Rem.here | apply Rem.there)) ?_))) trivial⟩
end Go.Proofs.YtmakokbpadmfbaaGreat

