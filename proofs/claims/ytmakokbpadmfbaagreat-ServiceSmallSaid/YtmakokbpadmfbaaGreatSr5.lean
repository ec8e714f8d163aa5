/-
  slices.SortFunc: turning round, breaking patterns.
-/
import Derived.Test.YtmakokbpadmfbaaGreatNat2
namespace Go.Proofs.YtmakokbpadmfbaaGreat
open Go.RowKit Eng
set_option linter.unusedVariables false
set_option linter.unusedSimpArgs false
set_option maxHeartbeats 8000000
attribute [local irreducible] SC SQ J Qt Calls Iterates LSub FSub
set_option maxRecDepth 4000 in
theorem rev_c {w0 w : World} {hot : Nat → Prop} {L : List HA} {L' : Array ELT → List HA} {ad : Addr} {n c : Nat} {d : Array ELT} {rc : List Value} (a b : Nat) (hs : St w0 hot L w) (hd : d.size = n) (hab : a < b) (hbn : b ≤ n) (hn : n ≤ 1000000)
    (hin : InL L (rwS ad n c d)) (hup : ∀ d' : Array ELT, Upd L (rwS ad n c d) (rwS ad n c d') (L' d')) :
    Calls Tryz.prog 113 #[.slice (some ad) n c, .int .i64 a, .int .i64 b, cvS rc] w fun e' w' => ∃ x : Unit, True ∧ e' = .returned (.tuple #[]) ∧ St w0 hot (L' (Go.Sort.reverseRange d a b)) w' := by
  have hle := hs.lent hin trivial
  generalize hT : Go.Sort.reverseRange d a b = T
  rw [Go.Sort.reverseRange] at hT
  refine eng_start_lent (n := 34) (args := [.slice (some ad) n c, .int .i64 a, .int .i64 b, cvS rc]) tab tab_ok fns fns_ok [] _ _ Tryz.func113 rfl rfl rfl rfl (hle) ?_
  repeat' (first | (refine gJ ?_; first | refine js rfl rfl rfl rfl ?_ | refine jar rfl rfl rfl rfl rfl rfl rfl (by omega) ?_) | (refine gSC ?_; first | refine sc_mv rfl ?_ | refine sc_region ?_) | (refine gSQ ?_; refine sq_go rfl ?_) | refine j_nil ?_)
  refine sc_loop (ι := Nat × Nat × Array ELT) (fun s => s.2.1 < n ∧ s.2.2.size = n ∧ Go.Sort.reverseLoop s.1 s.2.1 s.2.2 = T) (fun s => s.2.1 + 1 - s.1) (fun s => [(0, .slice (some ad) n c), (8, .int .i64 s.1), (9, .int .i64 s.2.1)]) (fun s => [rwS ad n c s.2.2]) (a, b - 1, d) ⟨by show b - 1 < n; omega, hd, hT⟩ (by (try dsimp only); exact (by repeat (first | exact FSub.nil | refine FSub.cons rfl ?_ | refine FSub.conse rfl (by congr 1; omega) ?_))) (by repeat (first | exact LSub.nil | refine LSub.cons (by repeat (first | exact Rem.here | apply Rem.there)) ?_)) ?_
  rintro ⟨i, j, dd⟩ ⟨u1, u2, u3⟩
  dsimp only at u1 u2 u3 ⊢
  rw [Go.Sort.reverseLoop] at u3
  by_cases hij : i < j
  · rw [if_pos hij] at u3
    obtain ⟨z1, z2, d', e1, e2, e3, k1, k2, hsw, hss, hlx, hly⟩ := swp_facts dd (x := i) (y := j) (by omega) (by omega)
    rw [e3] at u3
    repeat' (first | (refine gJ ?_; refine js rfl rfl rfl rfl ?_) | (refine gSC ?_; first | refine sc_mv rfl ?_ | refine sc_q rfl ?_ | refine sc_region ?_) | (refine gSQ ?_; refine sq_go rfl ?_) | refine j_nil ?_ | ((refine sc_cond rfl ?_ ?_) <;> intro hc <;> (((try simp only [engHC] at hc) <;> first | (exfalso; omega) | skip))))
    (refine sc_mixed [] rfl mixed ?_; refine ja_cut (ι := Unit) (fun _ => True) (fun _ => [(0, .slice (some ad) n c), (8, .int .i64 i), (9, .int .i64 j)]) (fun _ => [rwS ad n c d']) (fun hcut => ?_) (fun _ _ => ?_); (focus ((refine ja_take 0 rfl (by kernel_rfl) rfl rfl rfl (by repeat (first | exact LSub.nil | refine LSub.cons (by repeat (first | exact Rem.here | apply Rem.there)) ?_)) ?_; refine ⟨_, q_move rfl rfl, ?_⟩); (refine ja_take 1 rfl (by kernel_rfl) rfl rfl rfl (by repeat (first | exact LSub.nil | refine LSub.cons (by repeat (first | exact Rem.here | apply Rem.there)) ?_)) ?_; refine ⟨_, q_move rfl rfl, ?_⟩); (refine ja_take 2 rfl (by kernel_rfl) rfl rfl rfl (by repeat (first | exact LSub.nil | refine LSub.cons (by repeat (first | exact Rem.here | apply Rem.there)) ?_)) ?_; refine ⟨_, q_move rfl rfl, ?_⟩); (refine ja_take 3 rfl (by kernel_rfl) rfl rfl rfl (by repeat (first | exact LSub.nil | refine LSub.cons (by repeat (first | exact Rem.here | apply Rem.there)) ?_)) ?_; refine ⟨_, q_move rfl rfl, ?_⟩); (refine ja_take 4 rfl (by kernel_rfl) rfl rfl rfl (by repeat (first | exact LSub.nil | refine LSub.cons (by repeat (first | exact Rem.here | apply Rem.there)) ?_)) ?_; refine ⟨_, q_move rfl rfl, ?_⟩); (refine ja_take 5 rfl (by kernel_rfl) rfl rfl rfl (by repeat (first | exact LSub.nil | refine LSub.cons (by repeat (first | exact Rem.here | apply Rem.there)) ?_)) ?_; refine ⟨_, q_move rfl rfl, ?_⟩); (refine ja_take 6 rfl (by kernel_rfl) rfl rfl rfl (by repeat (first | exact LSub.nil | refine LSub.cons (by repeat (first | exact Rem.here | apply Rem.there)) ?_)) ?_; refine ⟨_, q_index_at (j) rfl rfl rfl rfl rfl (by omega), ?_⟩); (refine ja_take 8 rfl (by kernel_rfl) rfl rfl rfl (by repeat (first | exact LSub.nil | refine LSub.cons (by repeat (first | exact Rem.here | apply Rem.there)) ?_)) ?_; refine ⟨_, q_move rfl rfl, ?_⟩); (refine ja_take 9 rfl (by kernel_rfl) rfl rfl rfl (by repeat (first | exact LSub.nil | refine LSub.cons (by repeat (first | exact Rem.here | apply Rem.there)) ?_)) ?_; refine ⟨_, q_move rfl rfl, ?_⟩); (refine ja_take 10 rfl (by kernel_rfl) rfl rfl rfl (by repeat (first | exact LSub.nil | refine LSub.cons (by repeat (first | exact Rem.here | apply Rem.there)) ?_)) ?_; refine ⟨_, q_index_at (i) rfl rfl rfl rfl rfl (by omega), ?_⟩); (refine ja_all [7, 11] (by kernel_rfl) rfl ?_ rfl; intro i hi; simp only [List.mem_cons, List.mem_nil_iff, or_false] at hi; rcases hi with rfl | rfl <;> refine ⟨_, rfl, rfl, ?_⟩); (focus ((refine j_qe rfl rfl rfl ?_; first | refine ⟨_, q_rowA (f := elC) (l := dd.toList) (i := j) (y := z2) rfl rfl rfl rfl (by (repeat constructor)) (fun _ => rfl) k2 rfl, ?_⟩ | refine ⟨_, q_rowA (f := elC) (l := dd.toList) (i := i) (y := z1) rfl rfl rfl rfl (by (repeat constructor)) (fun _ => rfl) k1 rfl, ?_⟩); (refine j_nil ?_; refine sq_next (by repeat (first | exact LSub.nil | refine LSub.cons (by repeat (first | exact Rem.here | apply Rem.there)) ?_)) ?_); (refine ja_all [11] (by kernel_rfl) rfl ?_ rfl; intro i hi; simp only [List.mem_cons, List.mem_nil_iff, or_false] at hi; subst hi; refine ⟨_, rfl, rfl, ?_⟩); (refine j_qe rfl rfl rfl ?_; first | refine ⟨_, q_rowA (f := elC) (l := dd.toList) (i := j) (y := z2) rfl rfl rfl rfl (by (repeat constructor)) (fun _ => rfl) k2 rfl, ?_⟩ | refine ⟨_, q_rowA (f := elC) (l := dd.toList) (i := i) (y := z1) rfl rfl rfl rfl (by (repeat constructor)) (fun _ => rfl) k1 rfl, ?_⟩); (refine j_nil ?_; refine sq_next (by repeat (first | exact LSub.nil | refine LSub.cons (by repeat (first | exact Rem.here | apply Rem.there)) ?_)) ?_); (refine ja_take 12 rfl (by kernel_rfl) rfl rfl rfl (by repeat (first | exact LSub.nil | refine LSub.cons (by repeat (first | exact Rem.here | apply Rem.there)) ?_)) ?_; refine ⟨_, q_index_at (i) rfl rfl rfl rfl rfl (by omega), ?_⟩); (refine ja_all [13] (by kernel_rfl) rfl ?_ rfl; intro i hi; simp only [List.mem_cons, List.mem_nil_iff, or_false] at hi; subst hi; refine ⟨_, rfl, rfl, ?_⟩); refine j_store_el (f := elC) (l := dd.toList) (i) z2 rfl rfl rfl rfl rfl rfl rfl rfl (by (repeat constructor)) (fun _ => rfl) hlx (by rfl) (by (repeat constructor)) ?_; (refine j_nil ?_; refine sq_next (by repeat (first | exact LSub.nil | refine LSub.cons (by repeat (first | exact Rem.here | apply Rem.there)) ?_)) ?_); (refine ja_take 14 rfl (by kernel_rfl) rfl rfl rfl (by repeat (first | exact LSub.nil | refine LSub.cons (by repeat (first | exact Rem.here | apply Rem.there)) ?_)) ?_; refine ⟨_, q_index_at (j) rfl rfl rfl rfl rfl (by omega), ?_⟩); (refine ja_all [15] (by kernel_rfl) rfl ?_ rfl; intro i hi; simp only [List.mem_cons, List.mem_nil_iff, or_false] at hi; subst hi; refine ⟨_, rfl, rfl, ?_⟩); refine j_store_el (f := elC) (l := dd.toList.set (i) z2) (j) z1 rfl rfl rfl rfl rfl rfl rfl rfl (by (repeat constructor)) (fun _ => rfl) hly (by rfl) (by (repeat constructor)) ?_; (refine j_nil ?_; refine sq_next (by repeat (first | exact LSub.nil | refine LSub.cons (by repeat (first | exact Rem.here | apply Rem.there)) ?_)) ?_); refine ja_done (by kernel_rfl) ?_; rw [hsw]; exact sq_sub (hcut () trivial) (by repeat (first | exact FSub.nil | refine FSub.cons rfl ?_ | refine FSub.conse rfl (by congr 1; omega) ?_)) (by repeat (first | exact LSub.nil | refine LSub.cons (by repeat (first | exact Rem.here | apply Rem.there)) ?_)))); (focus ((refine j_qe rfl rfl rfl ?_; first | refine ⟨_, q_rowA (f := elC) (l := dd.toList) (i := j) (y := z2) rfl rfl rfl rfl (by (repeat constructor)) (fun _ => rfl) k2 rfl, ?_⟩ | refine ⟨_, q_rowA (f := elC) (l := dd.toList) (i := i) (y := z1) rfl rfl rfl rfl (by (repeat constructor)) (fun _ => rfl) k1 rfl, ?_⟩); (refine j_nil ?_; refine sq_next (by repeat (first | exact LSub.nil | refine LSub.cons (by repeat (first | exact Rem.here | apply Rem.there)) ?_)) ?_); (refine ja_all [7] (by kernel_rfl) rfl ?_ rfl; intro i hi; simp only [List.mem_cons, List.mem_nil_iff, or_false] at hi; subst hi; refine ⟨_, rfl, rfl, ?_⟩); (refine j_qe rfl rfl rfl ?_; first | refine ⟨_, q_rowA (f := elC) (l := dd.toList) (i := j) (y := z2) rfl rfl rfl rfl (by (repeat constructor)) (fun _ => rfl) k2 rfl, ?_⟩ | refine ⟨_, q_rowA (f := elC) (l := dd.toList) (i := i) (y := z1) rfl rfl rfl rfl (by (repeat constructor)) (fun _ => rfl) k1 rfl, ?_⟩); (refine j_nil ?_; refine sq_next (by repeat (first | exact LSub.nil | refine LSub.cons (by repeat (first | exact Rem.here | apply Rem.there)) ?_)) ?_); (refine ja_take 12 rfl (by kernel_rfl) rfl rfl rfl (by repeat (first | exact LSub.nil | refine LSub.cons (by repeat (first | exact Rem.here | apply Rem.there)) ?_)) ?_; refine ⟨_, q_index_at (i) rfl rfl rfl rfl rfl (by omega), ?_⟩); (refine ja_all [13] (by kernel_rfl) rfl ?_ rfl; intro i hi; simp only [List.mem_cons, List.mem_nil_iff, or_false] at hi; subst hi; refine ⟨_, rfl, rfl, ?_⟩); refine j_store_el (f := elC) (l := dd.toList) (i) z2 rfl rfl rfl rfl rfl rfl rfl rfl (by (repeat constructor)) (fun _ => rfl) hlx (by rfl) (by (repeat constructor)) ?_; (refine j_nil ?_; refine sq_next (by repeat (first | exact LSub.nil | refine LSub.cons (by repeat (first | exact Rem.here | apply Rem.there)) ?_)) ?_); (refine ja_take 14 rfl (by kernel_rfl) rfl rfl rfl (by repeat (first | exact LSub.nil | refine LSub.cons (by repeat (first | exact Rem.here | apply Rem.there)) ?_)) ?_; refine ⟨_, q_index_at (j) rfl rfl rfl rfl rfl (by omega), ?_⟩); (refine ja_all [15] (by kernel_rfl) rfl ?_ rfl; intro i hi; simp only [List.mem_cons, List.mem_nil_iff, or_false] at hi; subst hi; refine ⟨_, rfl, rfl, ?_⟩); refine j_store_el (f := elC) (l := dd.toList.set (i) z2) (j) z1 rfl rfl rfl rfl rfl rfl rfl rfl (by (repeat constructor)) (fun _ => rfl) hly (by rfl) (by (repeat constructor)) ?_; (refine j_nil ?_; refine sq_next (by repeat (first | exact LSub.nil | refine LSub.cons (by repeat (first | exact Rem.here | apply Rem.there)) ?_)) ?_); refine ja_done (by kernel_rfl) ?_; rw [hsw]; exact sq_sub (hcut () trivial) (by repeat (first | exact FSub.nil | refine FSub.cons rfl ?_ | refine FSub.conse rfl (by congr 1; omega) ?_)) (by repeat (first | exact LSub.nil | refine LSub.cons (by repeat (first | exact Rem.here | apply Rem.there)) ?_)))))))
    repeat' (first | (refine gJ ?_; first | refine js rfl rfl rfl rfl ?_ | refine jar rfl rfl rfl rfl rfl rfl rfl (by omega) ?_) | (refine gSC ?_; first | refine sc_mv rfl ?_ | refine sc_region ?_) | (refine gSQ ?_; first | refine sq_go rfl ?_ | refine sq_mv rfl ?_) | refine j_nil ?_)
    exact sq_loop (i + 1, j - 1, d') ⟨by show j - 1 < n; omega, by show d'.size = n; omega, u3⟩ (by show j - 1 + 1 - (i + 1) < j + 1 - i; omega) (by (try dsimp only); exact (by repeat (first | exact FSub.nil | refine FSub.cons rfl ?_ | refine FSub.conse rfl (by congr 1; omega) ?_))) (by repeat (first | exact LSub.nil | refine LSub.cons (by repeat (first | exact Rem.here | apply Rem.there)) ?_))
  · rw [if_neg hij] at u3
    subst u3
    repeat' (first | (refine gJ ?_; refine js rfl rfl rfl rfl ?_) | (refine gSC ?_; first | refine sc_mv rfl ?_ | refine sc_q rfl ?_ | refine sc_region ?_) | (refine gSQ ?_; first | refine sq_go rfl ?_ | refine sq_mv rfl ?_ | refine sq_ende (by first | exact .inl rfl | exact .inr rfl) rfl rfl ⟨_, (RVs.nil), ?_⟩) | refine j_nil ?_ | ((refine sc_cond rfl ?_ ?_) <;> intro hc <;> (((try simp only [engHC] at hc) <;> first | (exfalso; omega) | skip))))
    intro w' hS
    refine ⟨(), trivial, rfl, ?_⟩
    exact hs.back (hup dd) (hS.sub (by repeat (first | exact LSub.nil | refine LSub.cons (by repeat (first | exact Rem.here | apply Rem.there)) ?_))) trivial
set_option maxRecDepth 4000 in
theorem xor_c {w0 w : World} {hot : Nat → Prop} {L : List HA} {L' : Int → List HA} {bx : Nat} {x : Int} (hs : St w0 hot L w) (hx : 0 ≤ x ∧ x ≤ 18446744073709551615)
    (hin : InL L (.cells bx 173 [.int .u64 x])) (hup : ∀ y, Upd L (.cells bx 173 [.int .u64 x]) (.cells bx 173 [.int .u64 y]) (L' y)) :
    Calls Tryz.prog 138 #[.pointer (some ⟨bx, 0, none⟩)] w fun e' w' => ∃ y : Int, (0 ≤ y ∧ y ≤ 18446744073709551615) ∧ e' = .returned (.int .u64 y) ∧ St w0 hot (L' y) w' := by
  have hle := hs.lent hin trivial
  refine eng_start_lent (n := 33) (args := [.pointer (some ⟨bx, 0, none⟩)]) tab tab_ok fns fns_ok [.tmp 2] _ _ Tryz.func138 rfl rfl rfl rfl (hle) ?_
  repeat' (first | (refine gJ ?_; refine js rfl rfl rfl rfl ?_) | (refine gSC ?_; first | refine sc_mv rfl ?_ | refine sc_region ?_) | (refine gSQ ?_; refine sq_go rfl ?_) | refine j_nil ?_)
  refine sc_mixed [] rfl mixed ?_
  refine ja_cut (ι := Int) (fun y => 0 ≤ y ∧ y ≤ 18446744073709551615) (fun _ => [(0, .pointer (some ⟨bx, 0, none⟩))]) (fun y => [.cells bx 173 [.int .u64 y]]) (fun hcut => ?_) ?_
  · (refine ja_take 0 rfl (by kernel_rfl) rfl rfl rfl (by repeat (first | exact LSub.nil | refine LSub.cons (by repeat (first | exact Rem.here | apply Rem.there)) ?_)) ?_; refine ⟨_, q_move rfl rfl, ?_⟩)
    (refine ja_take 1 rfl (by kernel_rfl) rfl rfl rfl (by repeat (first | exact LSub.nil | refine LSub.cons (by repeat (first | exact Rem.here | apply Rem.there)) ?_)) ?_; refine ⟨_, q_nilCheck rfl rfl, ?_⟩)
    (refine ja_take 3 rfl (by kernel_rfl) rfl rfl rfl (by repeat (first | exact LSub.nil | refine LSub.cons (by repeat (first | exact Rem.here | apply Rem.there)) ?_)) ?_; refine ⟨_, q_move rfl rfl, ?_⟩)
    (refine ja_take 4 rfl (by kernel_rfl) rfl rfl rfl (by repeat (first | exact LSub.nil | refine LSub.cons (by repeat (first | exact Rem.here | apply Rem.there)) ?_)) ?_; refine ⟨_, q_nilCheck rfl rfl, ?_⟩)
    (refine ja_all [2, 5] (by kernel_rfl) rfl ?_ rfl; intro i hi; simp only [List.mem_cons, List.mem_nil_iff, or_false] at hi; rcases hi with rfl | rfl <;> refine ⟨_, rfl, rfl, ?_⟩)
    · (refine j_qe rfl rfl rfl ?_; refine ⟨_, q_load_own rfl rfl rfl rfl (by (repeat constructor)) (by first | rfl | assumption), ?_⟩)
      (refine j_nil ?_; refine sq_next (by repeat (first | exact LSub.nil | refine LSub.cons (by repeat (first | exact Rem.here | apply Rem.there)) ?_)) ?_)
      (refine ja_all [5] (by kernel_rfl) rfl ?_ rfl; intro i hi; simp only [List.mem_cons, List.mem_nil_iff, or_false] at hi; subst hi; refine ⟨_, rfl, rfl, ?_⟩)
      (refine j_qe rfl rfl rfl ?_; refine ⟨_, q_load_own rfl rfl rfl rfl (by (repeat constructor)) (by first | rfl | assumption), ?_⟩)
      (refine j_nil ?_; refine sq_next (by repeat (first | exact LSub.nil | refine LSub.cons (by repeat (first | exact Rem.here | apply Rem.there)) ?_)) ?_)
      (refine ja_take 6 rfl (by kernel_rfl) rfl rfl rfl (by repeat (first | exact LSub.nil | refine LSub.cons (by repeat (first | exact Rem.here | apply Rem.there)) ?_)) ?_; refine ⟨_, q_shlk rfl rfl rfl ⟨by decide, by decide⟩ rfl, ?_⟩)
      (refine ja_take 7 rfl (by kernel_rfl) rfl rfl rfl (by repeat (first | exact LSub.nil | refine LSub.cons (by repeat (first | exact Rem.here | apply Rem.there)) ?_)) ?_; refine ⟨_, q_xor64 rfl rfl rfl, ?_⟩)
      (refine ja_take 8 rfl (by kernel_rfl) rfl rfl rfl (by repeat (first | exact LSub.nil | refine LSub.cons (by repeat (first | exact Rem.here | apply Rem.there)) ?_)) ?_; refine ⟨_, q_nilCheck rfl rfl, ?_⟩)
      (refine ja_all [9] (by kernel_rfl) rfl ?_ rfl; intro i hi; simp only [List.mem_cons, List.mem_nil_iff, or_false] at hi; subst hi; refine ⟨_, rfl, rfl, ?_⟩)
      refine j_store rfl rfl rfl rfl rfl rfl rfl rfl (by (repeat constructor)) (by rfl) ?_
      (refine j_nil ?_; refine sq_next (by repeat (first | exact LSub.nil | refine LSub.cons (by repeat (first | exact Rem.here | apply Rem.there)) ?_)) ?_)
      refine ja_done (by kernel_rfl) ?_
      exact sq_sub (hcut _ (u64_range _)) (by repeat (first | exact FSub.nil | refine FSub.cons rfl ?_ | refine FSub.conse rfl (by congr 1; omega) ?_)) (by repeat (first | exact LSub.nil | refine LSub.cons (by repeat (first | exact Rem.here | apply Rem.there)) ?_))
    · (refine j_qe rfl rfl rfl ?_; refine ⟨_, q_load_own rfl rfl rfl rfl (by (repeat constructor)) (by first | rfl | assumption), ?_⟩)
      (refine j_nil ?_; refine sq_next (by repeat (first | exact LSub.nil | refine LSub.cons (by repeat (first | exact Rem.here | apply Rem.there)) ?_)) ?_)
      (refine ja_take 6 rfl (by kernel_rfl) rfl rfl rfl (by repeat (first | exact LSub.nil | refine LSub.cons (by repeat (first | exact Rem.here | apply Rem.there)) ?_)) ?_; refine ⟨_, q_shlk rfl rfl rfl ⟨by decide, by decide⟩ rfl, ?_⟩)
      (refine ja_all [2] (by kernel_rfl) rfl ?_ rfl; intro i hi; simp only [List.mem_cons, List.mem_nil_iff, or_false] at hi; subst hi; refine ⟨_, rfl, rfl, ?_⟩)
      (refine j_qe rfl rfl rfl ?_; refine ⟨_, q_load_own rfl rfl rfl rfl (by (repeat constructor)) (by first | rfl | assumption), ?_⟩)
      (refine j_nil ?_; refine sq_next (by repeat (first | exact LSub.nil | refine LSub.cons (by repeat (first | exact Rem.here | apply Rem.there)) ?_)) ?_)
      (refine ja_take 7 rfl (by kernel_rfl) rfl rfl rfl (by repeat (first | exact LSub.nil | refine LSub.cons (by repeat (first | exact Rem.here | apply Rem.there)) ?_)) ?_; refine ⟨_, q_xor64 rfl rfl rfl, ?_⟩)
      (refine ja_take 8 rfl (by kernel_rfl) rfl rfl rfl (by repeat (first | exact LSub.nil | refine LSub.cons (by repeat (first | exact Rem.here | apply Rem.there)) ?_)) ?_; refine ⟨_, q_nilCheck rfl rfl, ?_⟩)
      (refine ja_all [9] (by kernel_rfl) rfl ?_ rfl; intro i hi; simp only [List.mem_cons, List.mem_nil_iff, or_false] at hi; subst hi; refine ⟨_, rfl, rfl, ?_⟩)
      refine j_store rfl rfl rfl rfl rfl rfl rfl rfl (by (repeat constructor)) (by rfl) ?_
      (refine j_nil ?_; refine sq_next (by repeat (first | exact LSub.nil | refine LSub.cons (by repeat (first | exact Rem.here | apply Rem.there)) ?_)) ?_)
      refine ja_done (by kernel_rfl) ?_
      exact sq_sub (hcut _ (u64_range _)) (by repeat (first | exact FSub.nil | refine FSub.cons rfl ?_ | refine FSub.conse rfl (by congr 1; omega) ?_)) (by repeat (first | exact LSub.nil | refine LSub.cons (by repeat (first | exact Rem.here | apply Rem.there)) ?_))
  intro y1 hy1
  repeat' (first | (refine gSC ?_; refine sc_mv rfl ?_) | (refine gSQ ?_; refine sq_go rfl ?_))
  refine sc_mixed [] rfl mixed ?_
  refine ja_cut (ι := Int) (fun y => 0 ≤ y ∧ y ≤ 18446744073709551615) (fun _ => [(0, .pointer (some ⟨bx, 0, none⟩))]) (fun y => [.cells bx 173 [.int .u64 y]]) (fun hcut => ?_) ?_
  · (refine ja_take 0 rfl (by kernel_rfl) rfl rfl rfl (by repeat (first | exact LSub.nil | refine LSub.cons (by repeat (first | exact Rem.here | apply Rem.there)) ?_)) ?_; refine ⟨_, q_move rfl rfl, ?_⟩)
    (refine ja_take 1 rfl (by kernel_rfl) rfl rfl rfl (by repeat (first | exact LSub.nil | refine LSub.cons (by repeat (first | exact Rem.here | apply Rem.there)) ?_)) ?_; refine ⟨_, q_nilCheck rfl rfl, ?_⟩)
    (refine ja_take 3 rfl (by kernel_rfl) rfl rfl rfl (by repeat (first | exact LSub.nil | refine LSub.cons (by repeat (first | exact Rem.here | apply Rem.there)) ?_)) ?_; refine ⟨_, q_move rfl rfl, ?_⟩)
    (refine ja_take 4 rfl (by kernel_rfl) rfl rfl rfl (by repeat (first | exact LSub.nil | refine LSub.cons (by repeat (first | exact Rem.here | apply Rem.there)) ?_)) ?_; refine ⟨_, q_nilCheck rfl rfl, ?_⟩)
    (refine ja_all [2, 5] (by kernel_rfl) rfl ?_ rfl; intro i hi; simp only [List.mem_cons, List.mem_nil_iff, or_false] at hi; rcases hi with rfl | rfl <;> refine ⟨_, rfl, rfl, ?_⟩)
    · (refine j_qe rfl rfl rfl ?_; refine ⟨_, q_load_own rfl rfl rfl rfl (by (repeat constructor)) (by first | rfl | assumption), ?_⟩)
      (refine j_nil ?_; refine sq_next (by repeat (first | exact LSub.nil | refine LSub.cons (by repeat (first | exact Rem.here | apply Rem.there)) ?_)) ?_)
      (refine ja_all [5] (by kernel_rfl) rfl ?_ rfl; intro i hi; simp only [List.mem_cons, List.mem_nil_iff, or_false] at hi; subst hi; refine ⟨_, rfl, rfl, ?_⟩)
      (refine j_qe rfl rfl rfl ?_; refine ⟨_, q_load_own rfl rfl rfl rfl (by (repeat constructor)) (by first | rfl | assumption), ?_⟩)
      (refine j_nil ?_; refine sq_next (by repeat (first | exact LSub.nil | refine LSub.cons (by repeat (first | exact Rem.here | apply Rem.there)) ?_)) ?_)
      (refine ja_take 6 rfl (by kernel_rfl) rfl rfl rfl (by repeat (first | exact LSub.nil | refine LSub.cons (by repeat (first | exact Rem.here | apply Rem.there)) ?_)) ?_; refine ⟨_, q_shr rfl rfl rfl ⟨by omega, by decide⟩, ?_⟩)
      (refine ja_take 7 rfl (by kernel_rfl) rfl rfl rfl (by repeat (first | exact LSub.nil | refine LSub.cons (by repeat (first | exact Rem.here | apply Rem.there)) ?_)) ?_; refine ⟨_, q_xor64 rfl rfl rfl, ?_⟩)
      (refine ja_take 8 rfl (by kernel_rfl) rfl rfl rfl (by repeat (first | exact LSub.nil | refine LSub.cons (by repeat (first | exact Rem.here | apply Rem.there)) ?_)) ?_; refine ⟨_, q_nilCheck rfl rfl, ?_⟩)
      (refine ja_all [9] (by kernel_rfl) rfl ?_ rfl; intro i hi; simp only [List.mem_cons, List.mem_nil_iff, or_false] at hi; subst hi; refine ⟨_, rfl, rfl, ?_⟩)
      refine j_store rfl rfl rfl rfl rfl rfl rfl rfl (by (repeat constructor)) (by rfl) ?_
      (refine j_nil ?_; refine sq_next (by repeat (first | exact LSub.nil | refine LSub.cons (by repeat (first | exact Rem.here | apply Rem.there)) ?_)) ?_)
      refine ja_done (by kernel_rfl) ?_
      exact sq_sub (hcut _ (u64_range _)) (by repeat (first | exact FSub.nil | refine FSub.cons rfl ?_ | refine FSub.conse rfl (by congr 1; omega) ?_)) (by repeat (first | exact LSub.nil | refine LSub.cons (by repeat (first | exact Rem.here | apply Rem.there)) ?_))
    · (refine j_qe rfl rfl rfl ?_; refine ⟨_, q_load_own rfl rfl rfl rfl (by (repeat constructor)) (by first | rfl | assumption), ?_⟩)
      (refine j_nil ?_; refine sq_next (by repeat (first | exact LSub.nil | refine LSub.cons (by repeat (first | exact Rem.here | apply Rem.there)) ?_)) ?_)
      (refine ja_take 6 rfl (by kernel_rfl) rfl rfl rfl (by repeat (first | exact LSub.nil | refine LSub.cons (by repeat (first | exact Rem.here | apply Rem.there)) ?_)) ?_; refine ⟨_, q_shr rfl rfl rfl ⟨by omega, by decide⟩, ?_⟩)
      (refine ja_all [2] (by kernel_rfl) rfl ?_ rfl; intro i hi; simp only [List.mem_cons, List.mem_nil_iff, or_false] at hi; subst hi; refine ⟨_, rfl, rfl, ?_⟩)
      (refine j_qe rfl rfl rfl ?_; refine ⟨_, q_load_own rfl rfl rfl rfl (by (repeat constructor)) (by first | rfl | assumption), ?_⟩)
      (refine j_nil ?_; refine sq_next (by repeat (first | exact LSub.nil | refine LSub.cons (by repeat (first | exact Rem.here | apply Rem.there)) ?_)) ?_)
      (refine ja_take 7 rfl (by kernel_rfl) rfl rfl rfl (by repeat (first | exact LSub.nil | refine LSub.cons (by repeat (first | exact Rem.here | apply Rem.there)) ?_)) ?_; refine ⟨_, q_xor64 rfl rfl rfl, ?_⟩)
      (refine ja_take 8 rfl (by kernel_rfl) rfl rfl rfl (by repeat (first | exact LSub.nil | refine LSub.cons (by repeat (first | exact Rem.here | apply Rem.there)) ?_)) ?_; refine ⟨_, q_nilCheck rfl rfl, ?_⟩)
      (refine ja_all [9] (by kernel_rfl) rfl ?_ rfl; intro i hi; simp only [List.mem_cons, List.mem_nil_iff, or_false] at hi; subst hi; refine ⟨_, rfl, rfl, ?_⟩)
      refine j_store rfl rfl rfl rfl rfl rfl rfl rfl (by (repeat constructor)) (by rfl) ?_
      (refine j_nil ?_; refine sq_next (by repeat (first | exact LSub.nil | refine LSub.cons (by repeat (first | exact Rem.here | apply Rem.there)) ?_)) ?_)
      refine ja_done (by kernel_rfl) ?_
      exact sq_sub (hcut _ (u64_range _)) (by repeat (first | exact FSub.nil | refine FSub.cons rfl ?_ | refine FSub.conse rfl (by congr 1; omega) ?_)) (by repeat (first | exact LSub.nil | refine LSub.cons (by repeat (first | exact Rem.here | apply Rem.there)) ?_))
  intro y2 hy2
  repeat' (first | (refine gSC ?_; refine sc_mv rfl ?_) | (refine gSQ ?_; refine sq_go rfl ?_))
  refine sc_mixed [] rfl mixed ?_
  refine ja_cut (ι := Int) (fun y => 0 ≤ y ∧ y ≤ 18446744073709551615) (fun _ => [(0, .pointer (some ⟨bx, 0, none⟩))]) (fun y => [.cells bx 173 [.int .u64 y]]) (fun hcut => ?_) ?_
  · (refine ja_take 0 rfl (by kernel_rfl) rfl rfl rfl (by repeat (first | exact LSub.nil | refine LSub.cons (by repeat (first | exact Rem.here | apply Rem.there)) ?_)) ?_; refine ⟨_, q_move rfl rfl, ?_⟩)
    (refine ja_take 1 rfl (by kernel_rfl) rfl rfl rfl (by repeat (first | exact LSub.nil | refine LSub.cons (by repeat (first | exact Rem.here | apply Rem.there)) ?_)) ?_; refine ⟨_, q_nilCheck rfl rfl, ?_⟩)
    (refine ja_take 3 rfl (by kernel_rfl) rfl rfl rfl (by repeat (first | exact LSub.nil | refine LSub.cons (by repeat (first | exact Rem.here | apply Rem.there)) ?_)) ?_; refine ⟨_, q_move rfl rfl, ?_⟩)
    (refine ja_take 4 rfl (by kernel_rfl) rfl rfl rfl (by repeat (first | exact LSub.nil | refine LSub.cons (by repeat (first | exact Rem.here | apply Rem.there)) ?_)) ?_; refine ⟨_, q_nilCheck rfl rfl, ?_⟩)
    (refine ja_all [2, 5] (by kernel_rfl) rfl ?_ rfl; intro i hi; simp only [List.mem_cons, List.mem_nil_iff, or_false] at hi; rcases hi with rfl | rfl <;> refine ⟨_, rfl, rfl, ?_⟩)
    · (refine j_qe rfl rfl rfl ?_; refine ⟨_, q_load_own rfl rfl rfl rfl (by (repeat constructor)) (by first | rfl | assumption), ?_⟩)
      (refine j_nil ?_; refine sq_next (by repeat (first | exact LSub.nil | refine LSub.cons (by repeat (first | exact Rem.here | apply Rem.there)) ?_)) ?_)
      (refine ja_all [5] (by kernel_rfl) rfl ?_ rfl; intro i hi; simp only [List.mem_cons, List.mem_nil_iff, or_false] at hi; subst hi; refine ⟨_, rfl, rfl, ?_⟩)
      (refine j_qe rfl rfl rfl ?_; refine ⟨_, q_load_own rfl rfl rfl rfl (by (repeat constructor)) (by first | rfl | assumption), ?_⟩)
      (refine j_nil ?_; refine sq_next (by repeat (first | exact LSub.nil | refine LSub.cons (by repeat (first | exact Rem.here | apply Rem.there)) ?_)) ?_)
      (refine ja_take 6 rfl (by kernel_rfl) rfl rfl rfl (by repeat (first | exact LSub.nil | refine LSub.cons (by repeat (first | exact Rem.here | apply Rem.there)) ?_)) ?_; refine ⟨_, q_shlk rfl rfl rfl ⟨by decide, by decide⟩ rfl, ?_⟩)
      (refine ja_take 7 rfl (by kernel_rfl) rfl rfl rfl (by repeat (first | exact LSub.nil | refine LSub.cons (by repeat (first | exact Rem.here | apply Rem.there)) ?_)) ?_; refine ⟨_, q_xor64 rfl rfl rfl, ?_⟩)
      (refine ja_take 8 rfl (by kernel_rfl) rfl rfl rfl (by repeat (first | exact LSub.nil | refine LSub.cons (by repeat (first | exact Rem.here | apply Rem.there)) ?_)) ?_; refine ⟨_, q_nilCheck rfl rfl, ?_⟩)
      (refine ja_all [9] (by kernel_rfl) rfl ?_ rfl; intro i hi; simp only [List.mem_cons, List.mem_nil_iff, or_false] at hi; subst hi; refine ⟨_, rfl, rfl, ?_⟩)
      refine j_store rfl rfl rfl rfl rfl rfl rfl rfl (by (repeat constructor)) (by rfl) ?_
      (refine j_nil ?_; refine sq_next (by repeat (first | exact LSub.nil | refine LSub.cons (by repeat (first | exact Rem.here | apply Rem.there)) ?_)) ?_)
      refine ja_done (by kernel_rfl) ?_
      exact sq_sub (hcut _ (u64_range _)) (by repeat (first | exact FSub.nil | refine FSub.cons rfl ?_ | refine FSub.conse rfl (by congr 1; omega) ?_)) (by repeat (first | exact LSub.nil | refine LSub.cons (by repeat (first | exact Rem.here | apply Rem.there)) ?_))
    · (refine j_qe rfl rfl rfl ?_; refine ⟨_, q_load_own rfl rfl rfl rfl (by (repeat constructor)) (by first | rfl | assumption), ?_⟩)
      (refine j_nil ?_; refine sq_next (by repeat (first | exact LSub.nil | refine LSub.cons (by repeat (first | exact Rem.here | apply Rem.there)) ?_)) ?_)
      (refine ja_take 6 rfl (by kernel_rfl) rfl rfl rfl (by repeat (first | exact LSub.nil | refine LSub.cons (by repeat (first | exact Rem.here | apply Rem.there)) ?_)) ?_; refine ⟨_, q_shlk rfl rfl rfl ⟨by decide, by decide⟩ rfl, ?_⟩)
      (refine ja_all [2] (by kernel_rfl) rfl ?_ rfl; intro i hi; simp only [List.mem_cons, List.mem_nil_iff, or_false] at hi; subst hi; refine ⟨_, rfl, rfl, ?_⟩)
      (refine j_qe rfl rfl rfl ?_; refine ⟨_, q_load_own rfl rfl rfl rfl (by (repeat constructor)) (by first | rfl | assumption), ?_⟩)
      (refine j_nil ?_; refine sq_next (by repeat (first | exact LSub.nil | refine LSub.cons (by repeat (first | exact Rem.here | apply Rem.there)) ?_)) ?_)
      (refine ja_take 7 rfl (by kernel_rfl) rfl rfl rfl (by repeat (first | exact LSub.nil | refine LSub.cons (by repeat (first | exact Rem.here | apply Rem.there)) ?_)) ?_; refine ⟨_, q_xor64 rfl rfl rfl, ?_⟩)
      (refine ja_take 8 rfl (by kernel_rfl) rfl rfl rfl (by repeat (first | exact LSub.nil | refine LSub.cons (by repeat (first | exact Rem.here | apply Rem.there)) ?_)) ?_; refine ⟨_, q_nilCheck rfl rfl, ?_⟩)
      (refine ja_all [9] (by kernel_rfl) rfl ?_ rfl; intro i hi; simp only [List.mem_cons, List.mem_nil_iff, or_false] at hi; subst hi; refine ⟨_, rfl, rfl, ?_⟩)
      refine j_store rfl rfl rfl rfl rfl rfl rfl rfl (by (repeat constructor)) (by rfl) ?_
      (refine j_nil ?_; refine sq_next (by repeat (first | exact LSub.nil | refine LSub.cons (by repeat (first | exact Rem.here | apply Rem.there)) ?_)) ?_)
      refine ja_done (by kernel_rfl) ?_
      exact sq_sub (hcut _ (u64_range _)) (by repeat (first | exact FSub.nil | refine FSub.cons rfl ?_ | refine FSub.conse rfl (by congr 1; omega) ?_)) (by repeat (first | exact LSub.nil | refine LSub.cons (by repeat (first | exact Rem.here | apply Rem.there)) ?_))
  intro y3 hy3
  repeat' (first | (refine gJ ?_; first | refine js rfl rfl rfl rfl ?_ | (refine gload rfl rfl ?_; refine j_qe rfl rfl rfl ?_; refine ⟨_, q_load_own rfl rfl rfl rfl (by (repeat constructor)) (by first | rfl | assumption), ?_⟩)) | (refine gSC ?_; first | refine sc_mv rfl ?_ | refine sc_q rfl ?_ | refine sc_region ?_) | (refine gSQ ?_; first | refine sq_go rfl ?_ | refine sq_ende (by first | exact .inl rfl | exact .inr rfl) rfl rfl ⟨_, (RVs.cons (RV.tmp rfl) (RVs.nil)), ?_⟩) | refine j_nil ?_)
  intro w' hS
  exact ⟨y3, hy3, rfl, hs.back (hup y3) (hS.sub (by repeat (first | exact LSub.nil | refine LSub.cons (by repeat (first | exact Rem.here | apply Rem.there)) ?_))) trivial⟩
end Go.Proofs.YtmakokbpadmfbaaGreat
