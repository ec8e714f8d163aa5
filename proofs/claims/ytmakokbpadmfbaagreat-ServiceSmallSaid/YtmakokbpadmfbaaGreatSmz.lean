/-
  ServiceSmall.
-/
import Derived.Test.YtmakokbpadmfbaaGreatSml
import Derived.Test.YtmakokbpadmfbaaGreatMsl
import Derived.Test.YtmakokbpadmfbaaGreatEngCoreB
namespace Go.Proofs.YtmakokbpadmfbaaGreat
open Go.RowKit Eng
set_option linter.unusedVariables false
set_option linter.unusedSimpArgs false
set_option maxHeartbeats 8000000
attribute [local irreducible] SC SQ J Qt Calls Iterates LSub FSub
theorem sc_joinS {α : Type} {C : Cx} {c : Code} {K : List KI} (F' : α → Fr) (L' : α → List HA) {G : Prop} (body : ∀ x, SC C c K (F' x) (L' x)) (main : (∀ x, SC C c K (F' x) (L' x)) → G) : G := main body
theorem u8_range (x : Int) : 0 ≤ IntKind.u8.wrap x ∧ IntKind.u8.wrap x ≤ 255 := by
  rw [show IntKind.u8.wrap x = x % 256 from by simp [IntKind.wrap, IntKind.signed, IntKind.bits]]
  omega
def lA : List Int := [0, 439, 440, 500, 1879, 1880]
def lB (a : Int) : List Int := [-1, a, 1439, 1440, 2878, 2879, 2880, 4319, 4320]
def lC : List Int := [-1, 0, 500, 1439, 1440, 2878, 2879, 2880, 4319, 4320, 1051898399, 1051898400]
def lD : List Int := [-2, -1, 0, 1, 2, 3, 2000, 2001, 10000, 10001, 100000, 100001, 999999, 1000000, 1051898399, 1051898400]
theorem lA_in {i : Nat} {x : Int} (h : lA[i]? = some x) : 0 ≤ x ∧ x ≤ 1880 := by
  have key : lA.all (fun x => decide (0 ≤ x ∧ x ≤ 1880)) = true := by decide
  exact of_decide_eq_true (List.all_eq_true.1 key x (List.mem_of_getElem? h))
theorem lB_in {a : Int} (ha : 0 ≤ a ∧ a ≤ 1880) {i : Nat} {x : Int} (h : (lB a)[i]? = some x) : -1 ≤ x ∧ x ≤ 4320 := by
  have hx := List.mem_of_getElem? h
  simp only [lB, List.mem_cons, List.mem_nil_iff, or_false] at hx
  omega
theorem lC_in {i : Nat} {x : Int} (h : lC[i]? = some x) : -1 ≤ x ∧ x ≤ 1051898400 := by
  have key : lC.all (fun x => decide (-1 ≤ x ∧ x ≤ 1051898400)) = true := by decide
  exact of_decide_eq_true (List.all_eq_true.1 key x (List.mem_of_getElem? h))
theorem lD_in {i : Nat} {x : Int} (h : lD[i]? = some x) : -2 ≤ x ∧ x ≤ 1051898400 := by
  have key : lD.all (fun x => decide (-2 ≤ x ∧ x ≤ 1051898400)) = true := by decide
  exact of_decide_eq_true (List.all_eq_true.1 key x (List.mem_of_getElem? h))
theorem sl1 (b n : Nat) (hn : n ≤ 1000) : Sl (some ⟨b, 0, none⟩) n n := ⟨(fun h => by cases h), Nat.le_refl _, (by omega)⟩
theorem slN : Sl none 0 0 := ⟨fun _ => ⟨rfl, rfl⟩, Nat.le_refl _, by omega⟩
theorem rsN {α : Type} {sz : Nat} {f : α → List Value} (w : World) : RS w sz f none [] := fun i x h => by simp at h
theorem sd1_ok : ∀ y ∈ std1, sdOk y := fun y hy => by
  unfold std1 at hy
  rw [List.mem_singleton] at hy
  subst hy
  unfold sdOk
  decide
set_option maxRecDepth 8000 in
set_option maxHeartbeats 16000000 in
theorem Small_c (w : World) : Calls Tryz.prog 12 #[] w fun e w' => e = .returned (.bool true) ∧ Below w.heap.size w w' := by
  refine eng_start (n := 175) (args := []) tab tab_ok fns fns_ok [.tmp 0] Tryz.func12 rfl rfl rfl rfl ?_
  repeat' (first | (refine gJ ?_; first | refine js rfl rfl rfl rfl ?_ | (refine gF ?_; (refine j_buildSlice rfl rfl rfl rfl rfl rfl rfl rfl rfl rfl rfl rfl ?_; intro b)) | (refine j_qe rfl rfl rfl ?_; refine ⟨_, q_len_slice rfl rfl rfl rfl, ?_⟩)) | (refine gSC ?_; first | refine sc_mv rfl ?_ | refine sc_region ?_) | (refine gSQ ?_; refine sq_go rfl ?_) | refine j_nil ?_)
  refine sc_lit 1 (n := 6) (by (repeat constructor)) rfl (by omega) ?_
  revert b; intro b1
  refine sc_loop (ι := Nat) (fun i => i ≤ 6) (fun i => 6 - i) (fun i => [(16, .slice (some ⟨b1, 0, none⟩) 6 6), (17, .int .i64 6), (18, .int .i64 i)]) (fun _ => [.own (.slice (some ⟨b1, 0, none⟩) 6 6) 3 1 6 (lA.flatMap intC)]) 0 (Nat.zero_le _) (by (try dsimp only); exact (by repeat (first | exact FSub.nil | refine FSub.cons rfl ?_ | refine FSub.conse rfl (by congr 1; omega) ?_))) (by repeat (first | exact LSub.refl | refine LSub.cons (by repeat (first | exact Rem.here | apply Rem.there)) ?_ | apply LSub.skip)) ?_
  intro i hi
  dsimp only at hi ⊢
  by_cases hlt : i < 6
  · obtain ⟨ac, hac⟩ : ∃ x, lA[i]? = some x := ⟨_, List.getElem?_eq_getElem (by simpa [lA] using hlt)⟩
    have ha1 := lA_in hac
    repeat' (first | (refine gJ ?_; first | refine js rfl rfl rfl rfl ?_ | (refine j_qe rfl rfl rfl ?_; refine ⟨_, q_index_at i rfl rfl rfl rfl rfl (by omega), ?_⟩) | (refine j_qe rfl rfl rfl ?_; refine ⟨_, q_row1 (f := intC) (l := lA) (i := i) rfl rfl rfl rfl (by (repeat constructor)) (fun _ => rfl) hac rfl, ?_⟩) | (refine gF ?_; (refine j_buildSlice rfl rfl rfl rfl rfl rfl rfl rfl rfl rfl rfl rfl ?_; intro b)) | (refine j_qe rfl rfl rfl ?_; refine ⟨_, q_len_slice rfl rfl rfl rfl, ?_⟩)) | (refine gSC ?_; first | refine sc_mv rfl ?_ | refine sc_q rfl ?_ | refine sc_region ?_) | (refine gSQ ?_; refine sq_go rfl ?_) | refine j_nil ?_ | ((refine sc_cond rfl ?_ ?_) <;> intro hc <;> (((try simp only [engHC] at hc) <;> first | (exfalso; omega) | skip))))
    refine sc_lit 1 (n := 9) (by (repeat constructor)) rfl (by omega) ?_
    revert b; intro b2
    refine sc_loop (ι := Nat) (fun j => j ≤ 9) (fun j => 9 - j) (fun j => [(2, .int .i64 ac), (16, .slice (some ⟨b1, 0, none⟩) 6 6), (17, .int .i64 6), (18, .int .i64 i), (23, .slice (some ⟨b2, 0, none⟩) 9 9), (24, .int .i64 9), (25, .int .i64 j)]) (fun _ => [.own (.slice (some ⟨b2, 0, none⟩) 9 9) 3 1 9 ((lB ac).flatMap intC), .own (.slice (some ⟨b1, 0, none⟩) 6 6) 3 1 6 (lA.flatMap intC)]) 0 (Nat.zero_le _) (by (try dsimp only); exact (by repeat (first | exact FSub.nil | refine FSub.cons rfl ?_ | refine FSub.conse rfl (by congr 1; omega) ?_))) (by repeat (first | exact LSub.refl | refine LSub.cons (by repeat (first | exact Rem.here | apply Rem.there)) ?_ | apply LSub.skip)) ?_
    intro j hj
    dsimp only at hj ⊢
    by_cases hlt2 : j < 9
    · obtain ⟨de, hde⟩ : ∃ x, (lB ac)[j]? = some x := ⟨_, List.getElem?_eq_getElem (by simpa [lB] using hlt2)⟩
      have hd1 := lB_in ha1 hde
      repeat' (first | (refine gJ ?_; first | refine js rfl rfl rfl rfl ?_ | (refine j_qe rfl rfl rfl ?_; refine ⟨_, q_index_at j rfl rfl rfl rfl rfl (by omega), ?_⟩) | (refine j_qe rfl rfl rfl ?_; refine ⟨_, q_row1 (f := intC) (l := lB ac) (i := j) rfl rfl rfl rfl (by (repeat constructor)) (fun _ => rfl) hde rfl, ?_⟩) | (refine gF ?_; (refine j_buildSlice rfl rfl rfl rfl rfl rfl rfl rfl rfl rfl rfl rfl ?_; intro b)) | (refine j_qe rfl rfl rfl ?_; refine ⟨_, q_len_slice rfl rfl rfl rfl, ?_⟩)) | (refine gSC ?_; first | refine sc_mv rfl ?_ | refine sc_q rfl ?_ | refine sc_region ?_) | (refine gSQ ?_; refine sq_go rfl ?_) | refine j_nil ?_ | ((refine sc_cond rfl ?_ ?_) <;> intro hc <;> (((try simp only [engHC] at hc) <;> first | (exfalso; omega) | skip))))
      refine sc_lit 1 (n := 12) (by (repeat constructor)) rfl (by omega) ?_
      revert b; intro b3
      refine sc_loop (ι := Nat) (fun k => k ≤ 12) (fun k => 12 - k) (fun k => [(2, .int .i64 ac), (4, .int .i64 de), (16, .slice (some ⟨b1, 0, none⟩) 6 6), (17, .int .i64 6), (18, .int .i64 i), (23, .slice (some ⟨b2, 0, none⟩) 9 9), (24, .int .i64 9), (25, .int .i64 j), (29, .slice (some ⟨b3, 0, none⟩) 12 12), (30, .int .i64 12), (31, .int .i64 k)]) (fun _ => [.own (.slice (some ⟨b3, 0, none⟩) 12 12) 3 1 12 (lC.flatMap intC), .own (.slice (some ⟨b2, 0, none⟩) 9 9) 3 1 9 ((lB ac).flatMap intC), .own (.slice (some ⟨b1, 0, none⟩) 6 6) 3 1 6 (lA.flatMap intC)]) 0 (Nat.zero_le _) (by (try dsimp only); exact (by repeat (first | exact FSub.nil | refine FSub.cons rfl ?_ | refine FSub.conse rfl (by congr 1; omega) ?_))) (by repeat (first | exact LSub.refl | refine LSub.cons (by repeat (first | exact Rem.here | apply Rem.there)) ?_ | apply LSub.skip)) ?_
      intro k hk
      dsimp only at hk ⊢
      by_cases hlt3 : k < 12
      · obtain ⟨now, hno⟩ : ∃ x, lC[k]? = some x := ⟨_, List.getElem?_eq_getElem (by simpa [lC] using hlt3)⟩
        have hn1 := lC_in hno
        have hx : snOk ⟨1, 1, 2, 3, ac, de⟩ := by unfold snOk; dsimp only; omega
        have hT := fun bs w' h => tells_c (some ⟨bs, 0, none⟩) 1 std1 ⟨1, 1, 2, 3, ac, de⟩ now 10 20 now w' (by simp [std1]) (sl1 bs 1 (by omega)) h sd1_ok hx
        have hM := fun bs b9 w' h h2 => measures_c (some ⟨bs, 0, none⟩) 1 std1 (some ⟨b9, 0, none⟩) 2 [⟨1, 1, 2, 3, ac, de⟩, sentF 2 2880] now 500 1 2 3 5000 w' (sl1 bs 1 (by omega)) (sl1 b9 2 (by omega)) h h2 (fun y hy => (sd1_ok y hy).1.1) (fun y hy => by
          simp only [List.mem_cons, List.mem_nil_iff, or_false] at hy
          rcases hy with rfl | rfl <;> dsimp only [sentF] <;> decide)
        repeat' (first | (refine gJ ?_; first | refine js rfl rfl rfl rfl ?_ | (refine gload rfl rfl ?_; refine j_qe rfl rfl rfl ?_; refine ⟨_, q_loadA_own rfl rfl rfl rfl (by (repeat constructor)) (by rfl), ?_⟩) | refine jfield rfl rfl rfl rfl rfl rfl rfl rfl ?_ | refine jar rfl rfl rfl rfl rfl rfl rfl (by omega) ?_ | (refine gcall rfl rfl ?_; first | (refine j_qc (f := 33) rfl rfl rfl rfl rfl rfl rfl ?_; refine ⟨_, (fun w' _ => sent_c _ _ w'), ?_⟩) | (refine j_qc (f := 24) rfl rfl rfl rfl rfl rfl rfl ?_; refine ⟨_, (fun w' hs => hT _ w' (rs_own (f := sdC) (fun _ => rfl) hs (by (repeat constructor)) rfl rfl)), ?_⟩) | (refine j_qc (f := 32) rfl rfl rfl rfl rfl rfl rfl ?_; refine ⟨_, (fun w' hs => hM _ _ w' (rs_own (f := sdC) (fun _ => rfl) hs (by (repeat constructor)) rfl rfl) (rs_lit (f := snC) _ (fun _ => rfl) hs (by (repeat constructor)) rfl)), ?_⟩)) | (refine gF ?_; refine j_alloc (t := 45) rfl rfl rfl rfl rfl ?_; intro b7) | (refine gcall rfl rfl ?_; refine gF ?_; refine j_callN (f := 34) rfl rfl rfl rfl rfl rfl rfl (fun b : Nat => .slice (some ⟨b, 0, none⟩) 1 1) (fun _ => True) (fun b => [.own (.slice (some ⟨b, 0, none⟩) 1 1) 43 4 1 (std1.flatMap sdC)]) (fun w' _ => standard_c w') (fun _ => trivial) ?_; rintro bs _) | (refine j_qe rfl rfl rfl ?_; refine ⟨_, q_index_at k rfl rfl rfl rfl rfl (by omega), ?_⟩) | (refine j_qe rfl rfl rfl ?_; refine ⟨_, q_row1 (f := intC) (l := lC) (i := k) rfl rfl rfl rfl (by (repeat constructor)) (fun _ => rfl) hno rfl, ?_⟩) | (refine gF ?_; first | refine j_store rfl rfl rfl rfl rfl rfl rfl rfl (by (repeat constructor)) (by rfl) ?_ | (refine j_buildSlice rfl rfl rfl rfl rfl rfl rfl rfl rfl rfl rfl rfl ?_; intro b))) | (refine gSC ?_; first | refine sc_mv rfl ?_ | refine sc_q rfl ?_ | refine sc_region ?_ | refine sc_auto 12 (.q 1 (.q 2 (.q 3 (.e 0 (.e 4 (.q 5 (.q 6 (.q 8 (.q 11 (.e 7 (.q 9 (.e 10 (.e 12 (.q 13 (.q 14 (.z)))))))))))))))) mixed ?_) | (refine gJG ?_; first | refine jg_q rfl (by kernel_rfl) ?_ | refine jg_e (by kernel_rfl) rfl ?_ | refine jg_done (by kernel_rfl) ?_) | (refine gSQ ?_; first | refine jg_next ?_ | (refine gFE ?_; first | refine jg_next0 ?_ | refine jg_next1 ?_) | refine sq_go rfl ?_ | refine sq_mv rfl ?_) | refine j_nil ?_ | ((first | refine j_guard rfl rfl rfl rfl rfl ?_ ?_ | refine sc_cond rfl ?_ ?_) <;> intro hc <;> (first | exact absurd hc (by decide) | ((try simp only [engHC] at hc) <;> first | (exfalso; omega) | skip))))
        all_goals
          refine sq_loop (k + 1) ?_ ?_ ?_ ?_
          · show k + 1 ≤ 12; omega
          · show 12 - (k + 1) < 12 - k; omega
          · exact (by (try dsimp only); exact (by repeat (first | exact FSub.nil | refine FSub.cons rfl ?_ | refine FSub.conse rfl (by congr 1; omega) ?_)))
          · exact (by repeat (first | exact LSub.refl | refine LSub.cons (by repeat (first | exact Rem.here | apply Rem.there)) ?_ | apply LSub.skip))
      · repeat' (first | (refine gJ ?_; first | refine js rfl rfl rfl rfl ?_ | refine jar rfl rfl rfl rfl rfl rfl rfl (by omega) ?_) | (refine gSC ?_; first | refine sc_mv rfl ?_ | refine sc_q rfl ?_ | refine sc_region ?_) | (refine gSQ ?_; first | refine sq_go rfl ?_ | refine sq_mv rfl ?_) | refine j_nil ?_ | ((refine sc_cond rfl ?_ ?_) <;> intro hc <;> (((try simp only [engHC] at hc) <;> first | (exfalso; omega) | skip))))
        refine sq_loop (j + 1) ?_ ?_ ?_ ?_
        · show j + 1 ≤ 9; omega
        · show 9 - (j + 1) < 9 - j; omega
        · exact (by (try dsimp only); exact (by repeat (first | exact FSub.nil | refine FSub.cons rfl ?_ | refine FSub.conse rfl (by congr 1; omega) ?_)))
        · exact (by repeat (first | exact LSub.refl | refine LSub.cons (by repeat (first | exact Rem.here | apply Rem.there)) ?_ | apply LSub.skip))
    · repeat' (first | (refine gJ ?_; first | refine js rfl rfl rfl rfl ?_ | refine jar rfl rfl rfl rfl rfl rfl rfl (by omega) ?_) | (refine gSC ?_; first | refine sc_mv rfl ?_ | refine sc_q rfl ?_ | refine sc_region ?_) | (refine gSQ ?_; first | refine sq_go rfl ?_ | refine sq_mv rfl ?_) | refine j_nil ?_ | ((refine sc_cond rfl ?_ ?_) <;> intro hc <;> (((try simp only [engHC] at hc) <;> first | (exfalso; omega) | skip))))
      refine sq_loop (i + 1) ?_ ?_ ?_ ?_
      · show i + 1 ≤ 6; omega
      · show 6 - (i + 1) < 6 - i; omega
      · exact (by (try dsimp only); exact (by repeat (first | exact FSub.nil | refine FSub.cons rfl ?_ | refine FSub.conse rfl (by congr 1; omega) ?_)))
      · exact (by repeat (first | exact LSub.refl | refine LSub.cons (by repeat (first | exact Rem.here | apply Rem.there)) ?_ | apply LSub.skip))
  repeat' (first | (refine gJ ?_; first | refine js rfl rfl rfl rfl ?_ | (refine gF ?_; (refine j_buildSlice rfl rfl rfl rfl rfl rfl rfl rfl rfl rfl rfl rfl ?_; intro b)) | (refine j_qe rfl rfl rfl ?_; refine ⟨_, q_len_slice rfl rfl rfl rfl, ?_⟩)) | (refine gSC ?_; first | refine sc_mv rfl ?_ | refine sc_q rfl ?_ | refine sc_region ?_) | (refine gSQ ?_; first | refine sq_go rfl ?_ | refine sq_mv rfl ?_) | refine j_nil ?_ | ((refine sc_cond rfl ?_ ?_) <;> intro hc <;> (((try simp only [engHC] at hc) <;> first | (exfalso; omega) | skip))))
  refine sc_lit 1 (n := 16) (by (repeat constructor)) rfl (by omega) ?_
  revert b; intro b4
  refine sc_loop (ι := Nat) (fun i => i ≤ 16) (fun i => 16 - i) (fun i => [(57, .slice (some ⟨b4, 0, none⟩) 16 16), (58, .int .i64 16), (59, .int .i64 i)]) (fun _ => [.own (.slice (some ⟨b4, 0, none⟩) 16 16) 3 1 16 (lD.flatMap intC)]) 0 (Nat.zero_le _) (by (try dsimp only); exact (by repeat (first | exact FSub.nil | refine FSub.cons rfl ?_ | refine FSub.conse rfl (by congr 1; omega) ?_))) (by repeat (first | exact LSub.refl | refine LSub.cons (by repeat (first | exact Rem.here | apply Rem.there)) ?_ | apply LSub.skip)) ?_
  intro i1 hi1
  dsimp only at hi1 ⊢
  by_cases hlt4 : i1 < 16
  · obtain ⟨n, hn⟩ : ∃ x, lD[i1]? = some x := ⟨_, List.getElem?_eq_getElem (by simpa [lD] using hlt4)⟩
    have hn1 := lD_in hn
    repeat' (first | (refine gJ ?_; first | refine js rfl rfl rfl rfl ?_ | (refine j_qe rfl rfl rfl ?_; refine ⟨_, q_index_at i1 rfl rfl rfl rfl rfl (by omega), ?_⟩) | (refine j_qe rfl rfl rfl ?_; refine ⟨_, q_row1 (f := intC) (l := lD) (i := i1) rfl rfl rfl rfl (by (repeat constructor)) (fun _ => rfl) hn rfl, ?_⟩)) | (refine gSC ?_; first | refine sc_mv rfl ?_ | refine sc_q rfl ?_ | refine sc_region ?_) | (refine gSQ ?_; refine sq_go rfl ?_) | refine j_nil ?_ | ((refine sc_cond rfl ?_ ?_) <;> intro hc <;> (((try simp only [engHC] at hc) <;> first | (exfalso; omega) | skip))))
    refine sc_loop (ι := Nat) (fun k => k ≤ 10) (fun k => 10 - k) (fun k => [(9, .int .i64 n), (10, .int .i64 k), (57, .slice (some ⟨b4, 0, none⟩) 16 16), (58, .int .i64 16), (59, .int .i64 i1)]) (fun _ => [.own (.slice (some ⟨b4, 0, none⟩) 16 16) 3 1 16 (lD.flatMap intC)]) 0 (Nat.zero_le _) (by (try dsimp only); exact (by repeat (first | exact FSub.nil | refine FSub.cons rfl ?_ | refine FSub.conse rfl (by congr 1; omega) ?_))) (by repeat (first | exact LSub.refl | refine LSub.cons (by repeat (first | exact Rem.here | apply Rem.there)) ?_ | apply LSub.skip)) ?_
    intro k hk
    dsimp only at hk ⊢
    by_cases hlt5 : k < 10
    · apply sc_joinS (α := (Nat × Nat) × {p : (Sd × Sn) × (Int × Int) // sdOk p.1.1 ∧ snOk p.1.2}) (fun x => [(9, .int .i64 n), (10, .int .i64 k), (11, .slice (some ⟨x.1.1, 0, none⟩) 1 1), (12, .pointer (some ⟨x.1.2, 0, none⟩)), (13, .int .i64 3000), (14, .int .i64 x.2.1.2.1), (15, .int .i64 x.2.1.2.2), (57, .slice (some ⟨b4, 0, none⟩) 16 16), (58, .int .i64 16), (59, .int .i64 i1)])
        (fun x => [.own (.slice (some ⟨x.1.1, 0, none⟩) 1 1) 43 4 1 ([x.2.1.1.1].flatMap sdC), .cells x.1.2 45 (snC x.2.1.1.2), .own (.slice (some ⟨b4, 0, none⟩) 16 16) 3 1 16 (lD.flatMap intC)])
      case main =>
        intro key
        have hu := u8_range n
        repeat' (first | (refine gJ ?_; first | refine js rfl rfl rfl rfl ?_ | refine jfield rfl rfl rfl rfl rfl rfl rfl rfl ?_ | (refine gcall rfl rfl ?_; (refine j_qc (f := 33) rfl rfl rfl rfl rfl rfl rfl ?_; refine ⟨_, (fun w' _ => sent_c _ _ w'), ?_⟩)) | (refine j_qe rfl rfl rfl ?_; refine ⟨_, q_convw (b := IntKind.u8.wrap n) rfl rfl rfl rfl rfl rfl rfl, ?_⟩) | (refine gF ?_; refine j_alloc (t := 45) rfl rfl rfl rfl rfl ?_; intro b7) | (refine gcall rfl rfl ?_; refine gF ?_; refine j_callN (f := 34) rfl rfl rfl rfl rfl rfl rfl (fun b : Nat => .slice (some ⟨b, 0, none⟩) 1 1) (fun _ => True) (fun b => [.own (.slice (some ⟨b, 0, none⟩) 1 1) 43 4 1 (std1.flatMap sdC)]) (fun w' _ => standard_c w') (fun _ => trivial) ?_; rintro bs _) | (refine j_qe rfl rfl rfl ?_; refine ⟨_, q_index_at 0 rfl rfl rfl rfl rfl (by omega), ?_⟩) | (refine gF ?_; refine j_store_rowF (f := sdC) (l := std1) (i := 0) (off := 3) (z := ⟨1, 2, 3, 1000⟩) (z' := ⟨1, 2, 3, n⟩) rfl rfl rfl rfl rfl rfl rfl rfl (by (repeat constructor)) (fun _ => rfl) rfl rfl (by rfl) (by (repeat constructor)) ?_) | (refine gF ?_; refine j_store_rowF (f := sdC) (l := std1) (i := 0) (off := 1) (z := ⟨1, 2, 3, 1000⟩) (z' := ⟨1, n, 3, 1000⟩) rfl rfl rfl rfl rfl rfl rfl rfl (by (repeat constructor)) (fun _ => rfl) rfl rfl (by rfl) (by (repeat constructor)) ?_) | (refine gF ?_; refine j_store_rowF (f := sdC) (l := std1.set 0 ⟨1, n, 3, 1000⟩) (i := 0) (off := 0) (z := ⟨1, n, 3, 1000⟩) (z' := ⟨IntKind.u8.wrap n, n, 3, 1000⟩) rfl rfl rfl rfl rfl rfl rfl rfl (by (repeat constructor)) (fun _ => rfl) rfl rfl (by rfl) (by (repeat constructor)) ?_) | (refine gF ?_; refine j_store rfl rfl rfl rfl rfl rfl rfl rfl (by (repeat constructor)) (by rfl) ?_)) | (refine gSC ?_; first | refine sc_stop 45 ?_ | refine sc_mv rfl ?_ | refine sc_q rfl ?_ | refine sc_region ?_) | (refine gSQ ?_; first | refine sq_go rfl ?_ | refine sq_mv rfl ?_) | refine j_nil ?_ | ((refine sc_cond rfl ?_ ?_) <;> intro hc <;> (((try simp only [engHC] at hc) <;> first | (exfalso; omega) | skip))))
        · exact stop_at _ _ (key ((bs, b7), ⟨((⟨1, 2, 3, 1000⟩, ⟨n, 1, 2, 3, 500, 600⟩), (500, 5000)), by constructor <;> (first | unfold sdOk | unfold snOk) <;> dsimp only <;> omega⟩)) (by (try dsimp only); exact (by repeat (first | exact FSub.nil | refine FSub.cons rfl ?_ | refine FSub.conse rfl (by congr 1; omega) ?_))) (by repeat (first | exact LSub.refl | refine LSub.cons (by repeat (first | exact Rem.here | apply Rem.there)) ?_ | apply LSub.skip))
        · exact stop_at _ _ (key ((bs, b7), ⟨((⟨1, 2, 3, 1000⟩, ⟨1, IntKind.u8.wrap n, 2, 3, 500, 600⟩), (500, 5000)), by constructor <;> (first | unfold sdOk | unfold snOk) <;> dsimp only <;> omega⟩)) (by (try dsimp only); exact (by repeat (first | exact FSub.nil | refine FSub.cons rfl ?_ | refine FSub.conse rfl (by congr 1; omega) ?_))) (by repeat (first | exact LSub.refl | refine LSub.cons (by repeat (first | exact Rem.here | apply Rem.there)) ?_ | apply LSub.skip))
        · exact stop_at _ _ (key ((bs, b7), ⟨((⟨1, 2, 3, 1000⟩, ⟨1, 1, n, 3, 500, 600⟩), (500, 5000)), by constructor <;> (first | unfold sdOk | unfold snOk) <;> dsimp only <;> omega⟩)) (by (try dsimp only); exact (by repeat (first | exact FSub.nil | refine FSub.cons rfl ?_ | refine FSub.conse rfl (by congr 1; omega) ?_))) (by repeat (first | exact LSub.refl | refine LSub.cons (by repeat (first | exact Rem.here | apply Rem.there)) ?_ | apply LSub.skip))
        · exact stop_at _ _ (key ((bs, b7), ⟨((⟨1, 2, 3, 1000⟩, ⟨1, 1, 2, n, 500, 600⟩), (500, 5000)), by constructor <;> (first | unfold sdOk | unfold snOk) <;> dsimp only <;> omega⟩)) (by (try dsimp only); exact (by repeat (first | exact FSub.nil | refine FSub.cons rfl ?_ | refine FSub.conse rfl (by congr 1; omega) ?_))) (by repeat (first | exact LSub.refl | refine LSub.cons (by repeat (first | exact Rem.here | apply Rem.there)) ?_ | apply LSub.skip))
        · exact stop_at _ _ (key ((bs, b7), ⟨((⟨1, 2, 3, 1000⟩, ⟨1, 1, 2, 3, n, 600⟩), (500, 5000)), by constructor <;> (first | unfold sdOk | unfold snOk) <;> dsimp only <;> omega⟩)) (by (try dsimp only); exact (by repeat (first | exact FSub.nil | refine FSub.cons rfl ?_ | refine FSub.conse rfl (by congr 1; omega) ?_))) (by repeat (first | exact LSub.refl | refine LSub.cons (by repeat (first | exact Rem.here | apply Rem.there)) ?_ | apply LSub.skip))
        · exact stop_at _ _ (key ((bs, b7), ⟨((⟨1, 2, 3, 1000⟩, ⟨1, 1, 2, 3, 500, n⟩), (500, 5000)), by constructor <;> (first | unfold sdOk | unfold snOk) <;> dsimp only <;> omega⟩)) (by (try dsimp only); exact (by repeat (first | exact FSub.nil | refine FSub.cons rfl ?_ | refine FSub.conse rfl (by congr 1; omega) ?_))) (by repeat (first | exact LSub.refl | refine LSub.cons (by repeat (first | exact Rem.here | apply Rem.there)) ?_ | apply LSub.skip))
        · exact stop_at _ _ (key ((bs, b7), ⟨((⟨1, 2, 3, n⟩, ⟨1, 1, 2, 3, 500, 600⟩), (500, 5000)), by constructor <;> (first | unfold sdOk | unfold snOk) <;> dsimp only <;> omega⟩)) (by (try dsimp only); exact (by repeat (first | exact FSub.nil | refine FSub.cons rfl ?_ | refine FSub.conse rfl (by congr 1; omega) ?_))) (by repeat (first | exact LSub.refl | refine LSub.cons (by repeat (first | exact Rem.here | apply Rem.there)) ?_ | apply LSub.skip))
        · exact stop_at _ _ (key ((bs, b7), ⟨((⟨IntKind.u8.wrap n, n, 3, 1000⟩, ⟨1, 1, 2, 3, 500, 600⟩), (500, 5000)), by constructor <;> (first | unfold sdOk | unfold snOk) <;> dsimp only <;> omega⟩)) (by (try dsimp only); exact (by repeat (first | exact FSub.nil | refine FSub.cons rfl ?_ | refine FSub.conse rfl (by congr 1; omega) ?_))) (by repeat (first | exact LSub.refl | refine LSub.cons (by repeat (first | exact Rem.here | apply Rem.there)) ?_ | apply LSub.skip))
        · exact stop_at _ _ (key ((bs, b7), ⟨((⟨1, 2, 3, 1000⟩, ⟨1, 1, 2, 3, 500, 600⟩), (n, 5000)), by constructor <;> (first | unfold sdOk | unfold snOk) <;> dsimp only <;> omega⟩)) (by (try dsimp only); exact (by repeat (first | exact FSub.nil | refine FSub.cons rfl ?_ | refine FSub.conse rfl (by congr 1; omega) ?_))) (by repeat (first | exact LSub.refl | refine LSub.cons (by repeat (first | exact Rem.here | apply Rem.there)) ?_ | apply LSub.skip))
        · exact stop_at _ _ (key ((bs, b7), ⟨((⟨1, 2, 3, 1000⟩, ⟨1, 1, 2, 3, 500, 600⟩), (500, n)), by constructor <;> (first | unfold sdOk | unfold snOk) <;> dsimp only <;> omega⟩)) (by (try dsimp only); exact (by repeat (first | exact FSub.nil | refine FSub.cons rfl ?_ | refine FSub.conse rfl (by congr 1; omega) ?_))) (by repeat (first | exact LSub.refl | refine LSub.cons (by repeat (first | exact Rem.here | apply Rem.there)) ?_ | apply LSub.skip))
      case body =>
        rintro ⟨⟨bs, b12⟩, ⟨⟨⟨sd, sn⟩, ⟨risk, q⟩⟩, hsd, hsn⟩⟩
        dsimp only at hsd hsn ⊢
        have hsd1 : ∀ y ∈ [sd], sdOk y := fun y hy => by rw [List.mem_singleton] at hy; subst hy; exact hsd
        have h1 := fun w' h => tells_c (some ⟨bs, 0, none⟩) 1 [sd] sn 3000 n (n + 1) q w' (by simp) (sl1 bs 1 (by omega)) h hsd1 hsn
        have h2 := fun w' => tells_c none 0 [] sn n 0 n 5 w' (by simp) slN (rsN w') (fun y hy => by simp at hy) hsn
        have h3 := fun b9 w' h h2 => measures_c (some ⟨bs, 0, none⟩) 1 [sd] (some ⟨b9, 0, none⟩) 2 [sn, sentF 2 (-1)] 3000 risk 1 2 3 q w' (sl1 bs 1 (by omega)) (sl1 b9 2 (by omega)) h h2 (fun y hy => (hsd1 y hy).1.1) (fun y hy => by
          simp only [List.mem_cons, List.mem_nil_iff, or_false] at hy
          rcases hy with rfl | rfl
          · exact hsn.2.1.1
          · decide)
        have h4 := fun A5 c5 b9 w' hs h h2 => measures_c A5 c5 [sd, sd] (some ⟨b9, 0, none⟩) 1 [sn] 3000 risk 1 sn.fr sn.to q w' hs (sl1 b9 1 (by omega)) h h2 (fun y hy => by
          simp only [List.mem_cons, List.mem_nil_iff, or_false, or_self] at hy
          subst hy
          exact hsd.1.1) (fun y hy => by rw [List.mem_singleton] at hy; subst hy; exact hsn.2.1.1)
        repeat' (first | (refine gJ ?_; first | refine js rfl rfl rfl rfl ?_ | (refine gload rfl rfl ?_; refine j_qe rfl rfl rfl ?_; first | refine ⟨_, q_load_own rfl rfl rfl rfl (by (repeat constructor)) (by first | rfl | assumption), ?_⟩ | refine ⟨_, q_loadA_own rfl rfl rfl rfl (by (repeat constructor)) (by rfl), ?_⟩) | refine jfield rfl rfl rfl rfl rfl rfl rfl rfl ?_ | refine jar rfl rfl rfl rfl rfl rfl rfl (by omega) ?_ | (refine gcall rfl rfl ?_; first | (refine j_qc (f := 33) rfl rfl rfl rfl rfl rfl rfl ?_; refine ⟨_, (fun w' _ => sent_c _ _ w'), ?_⟩) | (refine j_qc (f := 24) rfl rfl rfl rfl rfl rfl rfl ?_; refine ⟨_, (fun w' hs => h1 w' (rs_own (f := sdC) (l := [sd]) (fun _ => rfl) hs (by (repeat constructor)) rfl rfl)), ?_⟩) | (refine j_qc (f := 24) rfl rfl rfl rfl rfl rfl rfl ?_; refine ⟨_, (fun w' _ => h2 w'), ?_⟩) | (refine j_qc (f := 32) rfl rfl rfl rfl rfl rfl rfl ?_; refine ⟨_, (fun w' hs => h3 _ w' (rs_own (f := sdC) (l := [sd]) (fun _ => rfl) hs (by (repeat constructor)) rfl rfl) (rs_lit (f := snC) [sn, sentF 2 (-1)] (fun _ => rfl) hs (by (repeat constructor)) rfl)), ?_⟩) | (refine j_qc (f := 32) rfl rfl rfl rfl rfl rfl rfl ?_; refine ⟨_, (fun w' hs => h4 _ _ _ w' (by assumption) (rs_own (f := sdC) (l := [sd, sd]) (fun _ => rfl) hs (by (repeat constructor)) rfl rfl) (rs_lit (f := snC) [sn] (fun _ => rfl) hs (by (repeat constructor)) rfl)), ?_⟩)) | (refine gF ?_; refine j_append rfl rfl rfl rfl rfl rfl rfl rfl rfl rfl rfl (by (repeat constructor)) (by (repeat constructor)) (by rfl) (by rfl) (by omega) (fun _ => by (repeat constructor)) ?_; intro v5; refine j_owns (v := v5) (by (repeat constructor)) ?_; rintro A5 c5 rfl hs5) | (refine j_qe rfl rfl rfl ?_; refine ⟨_, q_index_at 0 rfl rfl rfl rfl rfl (by omega), ?_⟩) | (refine j_qe rfl rfl rfl ?_; refine ⟨_, q_rowA (f := sdC) (l := [sd]) (i := 0) rfl rfl rfl rfl (by (repeat constructor)) (fun _ => rfl) (show [sd][0]? = some sd from rfl) rfl, ?_⟩) | (refine gF ?_; (refine j_buildSlice rfl rfl rfl rfl rfl rfl rfl rfl rfl rfl rfl rfl ?_; intro b))) | (refine gSC ?_; first | refine sc_q rfl ?_ | refine sc_region ?_ | refine sc_autoR 45 (.own (.slice (some ⟨bs, 0, none⟩) 1 1) 43 4 1 _) (.q 0 (.q 1 (.q 2 (.q 3 (.q 4 (.q 5 (.q 6 (.e 7 (.q 8 (.q 9 (.q 10 (.q 11 (.q 12 (.e 13 (.q 14 (.q 15 (.q 16 (.q 17 (.q 18 (.q 19 (.q 21 (.q 22 (.q 23 (.e 20 (.e 24 (.q 25 (.q 26 (.q 27 (.q 28 (.q 29 (.q 30 (.q 34 (.q 36 (.q 37 (.q 38 (.q 39 (.q 40 (.q 41 (.q 42 (.b 31 35 (.b 32 35 (.b 33 35 (.e 35 (.e 43 (.q 44 (.q 45 (.z))))) (.e 33 (.e 43 (.q 44 (.q 45 (.z)))))) (.e 32 (.e 33 (.e 43 (.q 44 (.q 45 (.z))))))) (.e 31 (.e 32 (.e 33 (.e 43 (.q 44 (.q 45 (.z))))))))))))))))))))))))))))))))))))))))))))))) (by repeat (first | exact Rem.here | apply Rem.there)) mixed ?_) | (refine gJG ?_; first | refine jg_q rfl (by kernel_rfl) ?_ | refine jg_e (by kernel_rfl) rfl ?_ | refine jg_b (by kernel_rfl) rfl rfl ?_ ?_ | refine jg_done (by kernel_rfl) ?_) | (refine gSQ ?_; first | refine jg_next ?_ | (refine gFE ?_; first | refine jg_next0 ?_ | refine jg_next1 ?_ | refine jg_nextE (by first | exact LSub.refl | (repeat (first | exact LSub.refl | refine LSub.cons (by repeat (first | exact Rem.here | apply Rem.there)) ?_ | apply LSub.skip))) ?_) | refine sq_go rfl ?_ | refine sq_mv rfl ?_) | refine j_nil ?_ | ((first | refine j_guard rfl rfl rfl rfl rfl ?_ ?_ | refine sc_cond rfl ?_ ?_) <;> intro hc <;> (first | exact absurd hc (by decide) | ((try simp only [engHC] at hc) <;> skip))))
        all_goals
          refine sq_loop (k + 1) ?_ ?_ ?_ ?_
          · show k + 1 ≤ 10; omega
          · show 10 - (k + 1) < 10 - k; omega
          · exact (by (try dsimp only); exact (by repeat (first | exact FSub.nil | refine FSub.cons rfl ?_ | refine FSub.conse rfl (by congr 1; omega) ?_)))
          · exact (by repeat (first | exact LSub.refl | refine LSub.cons (by repeat (first | exact Rem.here | apply Rem.there)) ?_ | apply LSub.skip))
    · repeat' (first | (refine gJ ?_; first | refine js rfl rfl rfl rfl ?_ | refine jar rfl rfl rfl rfl rfl rfl rfl (by omega) ?_) | (refine gSC ?_; first | refine sc_mv rfl ?_ | refine sc_q rfl ?_ | refine sc_region ?_) | (refine gSQ ?_; first | refine sq_go rfl ?_ | refine sq_mv rfl ?_) | refine j_nil ?_ | ((refine sc_cond rfl ?_ ?_) <;> intro hc <;> (((try simp only [engHC] at hc) <;> first | (exfalso; omega) | skip))))
      refine sq_loop (i1 + 1) ?_ ?_ ?_ ?_
      · show i1 + 1 ≤ 16; omega
      · show 16 - (i1 + 1) < 16 - i1; omega
      · exact (by (try dsimp only); exact (by repeat (first | exact FSub.nil | refine FSub.cons rfl ?_ | refine FSub.conse rfl (by congr 1; omega) ?_)))
      · exact (by repeat (first | exact LSub.refl | refine LSub.cons (by repeat (first | exact Rem.here | apply Rem.there)) ?_ | apply LSub.skip))
  · have g1 := fun bs w' h => measures_c (some ⟨bs, 0, none⟩) 1 std1 none 0 [] 0 1 1 2 3 0 w' (sl1 bs 1 (by omega)) slN h (rsN w') (fun y hy => (sd1_ok y hy).1.1) (fun y hy => by simp at hy)
    have g2 := fun bs b9 w' h h2 => measures_c (some ⟨bs, 0, none⟩) 1 std1 (some ⟨b9, 0, none⟩) 2 [sentF 1 600, sentF 1 700] 900 1 1 2 3 0 w' (sl1 bs 1 (by omega)) (sl1 b9 2 (by omega)) h h2 (fun y hy => (sd1_ok y hy).1.1) (fun y hy => by
      simp only [List.mem_cons, List.mem_nil_iff, or_false] at hy
      rcases hy with rfl | rfl <;> decide)
    repeat' (first | (refine gJ ?_; first | refine js rfl rfl rfl rfl ?_ | (refine gcall rfl rfl ?_; first | (refine j_qc (f := 33) rfl rfl rfl rfl rfl rfl rfl ?_; refine ⟨_, (fun w' _ => sent_c _ _ w'), ?_⟩) | (refine j_qc (f := 35) rfl rfl rfl rfl rfl rfl rfl ?_; refine ⟨_, (fun w' _ => ends_c w'), ?_⟩) | (refine j_qc (f := 32) rfl rfl rfl rfl rfl rfl rfl ?_; refine ⟨_, (fun w' hs => g1 _ w' (rs_own (f := sdC) (fun _ => rfl) hs (by (repeat constructor)) rfl rfl)), ?_⟩) | (refine j_qc (f := 32) rfl rfl rfl rfl rfl rfl rfl ?_; refine ⟨_, (fun w' hs => g2 _ _ w' (rs_own (f := sdC) (fun _ => rfl) hs (by (repeat constructor)) rfl rfl) (rs_lit (f := snC) [sentF 1 600, sentF 1 700] (fun _ => rfl) hs (by (repeat constructor)) rfl)), ?_⟩)) | (refine gcall rfl rfl ?_; refine gF ?_; refine j_callN (f := 34) rfl rfl rfl rfl rfl rfl rfl (fun b : Nat => .slice (some ⟨b, 0, none⟩) 1 1) (fun _ => True) (fun b => [.own (.slice (some ⟨b, 0, none⟩) 1 1) 43 4 1 (std1.flatMap sdC)]) (fun w' _ => standard_c w') (fun _ => trivial) ?_; rintro bs _) | (refine gF ?_; (refine j_buildSlice rfl rfl rfl rfl rfl rfl rfl rfl rfl rfl rfl rfl ?_; intro b))) | (refine gSC ?_; first | refine sc_mv rfl ?_ | refine sc_q rfl ?_ | refine sc_region ?_) | (refine gSQ ?_; first | refine sq_go rfl ?_ | refine sq_mv rfl ?_ | refine sq_ende (by first | exact .inl rfl | exact .inr rfl) rfl rfl ⟨_, (RVs.cons (RV.tmp rfl) (RVs.nil)), ?_⟩) | refine j_nil ?_ | ((first | refine j_guard rfl rfl rfl rfl rfl ?_ ?_ | refine sc_cond rfl ?_ ?_) <;> intro hc <;> (first | exact absurd hc (by decide) | ((try simp only [engHC] at hc) <;> first | (exfalso; omega) | skip))))
    all_goals (intro w' hS; refine ⟨?_, hS.below⟩; simp only [pack])
end Go.Proofs.YtmakokbpadmfbaaGreat
