/-
  In one text: Tls, Msl.
-/
import Derived.Test.YtmakokbpadmfbaaGreatRwp
import Derived.Test.YtmakokbpadmfbaaGreatLnn
import Derived.Test.YtmakokbpadmfbaaGreatDec6
import Derived.Test.YtmakokbpadmfbaaGreatSml
import Derived.Test.YtmakokbpadmfbaaGreatRqu
/-
  ServiceTells.
-/
namespace Go.Proofs.YtmakokbpadmfbaaGreat
open Go.RowKit Eng
set_option linter.unusedVariables false
set_option linter.unusedSimpArgs false
set_option maxHeartbeats 8000000
attribute [local irreducible] SC SQ J Qt Calls Iterates LSub FSub
theorem few_c (A : Option Addr) (n c : Nat) (B : Option Addr) (m bc : Nat) (w : World) : Calls Tryz.prog 50 #[.slice A n c, .slice B m bc] w fun e w' => e = .returned (.bool (decide (n ≤ 510 ∧ m ≤ 25))) ∧ Below w.heap.size w w' := by
  refine eng_start (n := 13) (args := [.slice A n c, .slice B m bc]) tab tab_ok fns fns_ok [.tmp 4] Tryz.func50 rfl rfl rfl rfl ?_
  repeat' (first | (refine gJ ?_; first | refine js rfl rfl rfl rfl ?_ | (refine j_qe rfl rfl rfl ?_; refine ⟨_, q_len_slice rfl rfl rfl rfl, ?_⟩)) | (refine gSC ?_; first | refine sc_mv rfl ?_ | refine sc_q rfl ?_ | refine sc_region ?_) | (refine gSQ ?_; first | refine sq_go rfl ?_ | refine sq_ende (by first | exact .inl rfl | exact .inr rfl) rfl rfl ⟨_, (RVs.cons (RV.tmp rfl) (RVs.nil)), ?_⟩) | refine j_nil ?_ | ((refine j_guard rfl rfl rfl rfl rfl ?_ ?_) <;> intro hc <;> (first | exact absurd hc (by decide) | ((try simp only [engHC] at hc) <;> skip))))
  all_goals ((intro w' hS; refine ⟨?_, hS.below⟩; simp only [pack]); exact rb (by symm; first | (rw [decide_eq_true_eq]; omega) | (rw [decide_eq_false_iff_not]; omega) | (rw [decide_eq_decide]; omega)))
theorem tells_c (A : Option Addr) (c : Nat) (l : List Sd) (x : Sn) (now le gr t : Int) (w : World) (hl : l.length ≤ 9223372036854775807) (hsl : Sl A l.length c) (hR : RS w 4 sdC A l) (hok : ∀ y ∈ l, sdOk y) (hx : snOk x) :
    Calls Tryz.prog 24 #[.slice A l.length c, snV x, .int .i64 now, .int .i64 le, .int .i64 gr, .int .i64 t] w fun e w' => e = .returned (.bool true) ∧ Below w.heap.size w w' := by
  have hfew := fun w' => few_c A l.length c none 0 0 w'
  have hcl : ∀ y ∈ l, 0 ≤ y.cl := fun y hy => (hok y hy).1.1
  have hxc : 0 ≤ x.cl := hx.2.1.1
  have hac : -9223372036854775808 ≤ x.ac ∧ x.ac ≤ 9223372036854775807 := hx.2.2.2.2.1
  obtain ⟨n, hn⟩ : ∃ n, n = l.length := ⟨_, rfl⟩
  by_cases hb : l.length ≤ 510
  · rw [decide_eq_true ⟨hb, by omega⟩] at hfew
    have hlent := fun w' h => lentT_c A c l w' (by omega) hsl h
    have hkept := fun ad c2 w' hc hL h => keptT_c ad c2 A c l w' (by omega) hc hL h
    have hJ := fun A1 c1 w' h => Judge_c A1 c1 l x now w' hl hac h
    have hJr := fun w' h => rJudge_c A c l x now w' hl hcl hxc hac h
    have hV := fun w' => Verdict_c ⟨0, 0, 0, 0, 0, 0, 0, le, gr⟩ t w'
    have hVr := fun w' => rVerd_c ⟨0, 0, 0, 0, 0, 0, 0, le, gr⟩ t w'
    generalize judF l x now = j at *
    generalize verF ⟨0, 0, 0, 0, 0, 0, 0, le, gr⟩ t = v9 at *
    have htk : (l ++ mksT 1 12).take n = l := by rw [hn]; simp
    have hln : (l ++ mksT 1 12).length = n + 12 := by rw [List.length_append, mksT_len, hn]
    generalize hL : l ++ mksT 1 12 = lx at *
    rw [← hn] at hfew hlent hkept hJ hJr ⊢
    refine eng_start (n := 80) (args := [.slice A n c, snV x, .int .i64 now, .int .i64 le, .int .i64 gr, .int .i64 t]) tab tab_ok fns fns_ok [.tmp 12] Tryz.func24 rfl rfl rfl rfl ?_
    repeat' (first | (refine gJ ?_; first | refine js rfl rfl rfl rfl ?_ | (refine gload rfl rfl ?_; refine j_qe rfl rfl rfl ?_; refine ⟨_, q_loadA_own rfl rfl rfl rfl (by (repeat constructor)) (by rfl), ?_⟩) | (refine gcall rfl rfl ?_; first | (refine j_qc (f := 50) rfl rfl rfl rfl rfl rfl rfl ?_; refine ⟨_, (fun w' _ => hfew w'), ?_⟩) | (refine j_qc (f := 21) rfl rfl rfl rfl rfl rfl rfl ?_; refine ⟨_, (fun w' hs => hJ (some a1) c1 w' (htk ▸ RS.take (rs_own (f := sdC) (l := lx) (fun _ => rfl) hs (by (repeat constructor)) hln.symm rfl) n)), ?_⟩) | (refine j_qc (f := 52) rfl rfl rfl rfl rfl rfl rfl ?_; refine ⟨_, (fun w' hs => hJr w' (hR.st hs)), ?_⟩) | (refine j_qc (f := 23) rfl rfl rfl rfl rfl rfl rfl ?_; refine ⟨_, (fun w' _ => hV w'), ?_⟩) | (refine j_qc (f := 53) rfl rfl rfl rfl rfl rfl rfl ?_; refine ⟨_, (fun w' _ => hVr w'), ?_⟩) | (refine j_qc (f := 54) rfl rfl rfl rfl rfl rfl rfl ?_; refine ⟨_, (fun w' hs => hkept a1 c1 w' hc1 (rs_own (f := sdC) (l := lx) (fun _ => rfl) hs (by (repeat constructor)) hln.symm rfl) (hR.st hs)), ?_⟩)) | (refine gcall rfl rfl ?_; refine gF ?_; refine j_callN (f := 51) rfl rfl rfl rfl rfl rfl rfl (fun p : Addr × Nat => .slice (some p.1) n p.2) (fun p => n + 12 ≤ p.2) (fun p => [.own (.slice (some p.1) (n + 12) p.2) 43 4 (n + 12) (lx.flatMap sdC)]) (fun w' hs => hlent w' (hR.st hs)) (fun _ => trivial) ?_; rintro ⟨a1, c1⟩ hc1) | (refine gF ?_; (refine j_box rfl rfl rfl rfl rfl ?_; intro b)) | (refine j_qe rfl rfl rfl ?_; refine ⟨_, q_build_struct rfl rfl rfl rfl rfl, ?_⟩)) | (refine gSC ?_; first | refine sc_mv rfl ?_ | refine sc_q rfl ?_ | refine sc_region ?_) | (refine gSQ ?_; first | refine sq_go rfl ?_ | refine sq_ende (by first | exact .inl rfl | exact .inr rfl) rfl rfl ⟨_, (RVs.cons (RV.tmp rfl) (RVs.nil)), ?_⟩) | refine j_nil ?_ | ((first | refine j_guard rfl rfl rfl rfl rfl ?_ ?_ | refine sc_cond rfl ?_ ?_) <;> intro hc <;> (first | exact absurd hc (by decide) | ((try simp only [engHC] at hc) <;> first | exact absurd trivial hc | skip))))
    all_goals (intro w' hS; refine ⟨?_, hS.below⟩; simp only [pack])
  · rw [decide_eq_false (fun h => hb h.1)] at hfew
    rw [← hn] at hfew ⊢
    refine eng_start (n := 80) (args := [.slice A n c, snV x, .int .i64 now, .int .i64 le, .int .i64 gr, .int .i64 t]) tab tab_ok fns fns_ok [.tmp 12] Tryz.func24 rfl rfl rfl rfl ?_
    repeat' (first | (refine gJ ?_; first | refine js rfl rfl rfl rfl ?_ | (refine gcall rfl rfl ?_; (refine j_qc (f := 50) rfl rfl rfl rfl rfl rfl rfl ?_; refine ⟨_, (fun w' _ => hfew w'), ?_⟩)) | (refine gF ?_; (refine j_box rfl rfl rfl rfl rfl ?_; intro b))) | (refine gSC ?_; first | refine sc_mv rfl ?_ | refine sc_q rfl ?_ | refine sc_region ?_) | (refine gSQ ?_; first | refine sq_go rfl ?_ | refine sq_mv rfl ?_ | refine sq_ende (by first | exact .inl rfl | exact .inr rfl) rfl rfl ⟨_, (RVs.cons (RV.tmp rfl) (RVs.nil)), ?_⟩) | refine j_nil ?_ | ((refine sc_cond rfl ?_ ?_) <;> intro hc <;> (first | exact absurd hc (by decide) | ((try simp only [engHC] at hc) <;> skip))))
    (intro w' hS; refine ⟨?_, hS.below⟩; simp only [pack])
end Go.Proofs.YtmakokbpadmfbaaGreat

/-
  ServiceMeasures.
-/
namespace Go.Proofs.YtmakokbpadmfbaaGreat
open Go.RowKit Eng
set_option linter.unusedVariables false
set_option linter.unusedSimpArgs false
set_option maxHeartbeats 8000000
attribute [local irreducible] SC SQ J Qt Calls Iterates LSub FSub
theorem row_r (r : Rw) (w : World) : Calls Tryz.prog 90 #[rwV r] w fun e w' => e = .returned (rwV r) ∧ Below w.heap.size w w' := by
  refine eng_start (n := 22) (args := [rwV r]) tab tab_ok fns fns_ok [.cell 2 35] Tryz.func90 rfl rfl rfl rfl ?_
  repeat' (first | (refine gJ ?_; first | (refine gload rfl rfl ?_; refine j_qe rfl rfl rfl ?_; refine ⟨_, q_load_own rfl rfl rfl rfl (by (repeat constructor)) (by first | rfl | assumption), ?_⟩) | refine jfield rfl rfl rfl rfl rfl rfl rfl rfl ?_ | (refine gF ?_; refine j_alloc (t := 35) rfl rfl rfl rfl rfl ?_; intro b6) | (refine gF ?_; first | refine j_store rfl rfl rfl rfl rfl rfl rfl rfl (by (repeat constructor)) (by rfl) ?_ | (refine j_box rfl rfl rfl rfl rfl ?_; intro b)) | (refine j_qe rfl rfl rfl ?_; refine ⟨_, q_build_struct rfl rfl rfl rfl rfl, ?_⟩)) | (refine gSC ?_; first | refine sc_mv rfl ?_ | refine sc_q rfl ?_ | refine sc_region ?_) | (refine gSQ ?_; first | refine sq_go rfl ?_ | refine sq_ende (by first | exact .inl rfl | exact .inr rfl) rfl rfl ⟨_, (RVs.cons (by first | exact RV.cell rfl rfl rfl (by (repeat constructor)) (by rfl) | exact RV.cellA rfl rfl rfl (by (repeat constructor)) (by rfl)) (RVs.nil)), ?_⟩) | refine j_nil ?_)
  (intro w' hS; refine ⟨?_, hS.below⟩; simp only [pack])
  rfl
theorem same_c (A : Option Addr) (c : Nat) (B : Option Addr) (bc : Nat) (l : List Rw) (w : World) (hl : l.length ≤ 9223372036854775807) (h : RS w 9 rwC A l) (h2 : RS w 9 rwC B l) :
    Calls Tryz.prog 64 #[.slice A l.length c, .slice B l.length bc] w fun e w' => e = .returned (.bool true) ∧ Below w.heap.size w w' := by
  generalize hn : l.length = n at *
  refine eng_start (n := 27) (args := [.slice A n c, .slice B n bc]) tab tab_ok fns fns_ok [.tmp 4] Tryz.func64 rfl rfl rfl rfl ?_
  repeat' (first | (refine gJ ?_; first | refine js rfl rfl rfl rfl ?_ | (refine j_qe rfl rfl rfl ?_; refine ⟨_, q_len_slice rfl rfl rfl rfl, ?_⟩)) | (refine gSC ?_; first | refine sc_mv rfl ?_ | refine sc_q rfl ?_ | refine sc_region ?_) | (refine gSQ ?_; refine sq_go rfl ?_) | refine j_nil ?_ | ((refine sc_cond rfl ?_ ?_) <;> intro hc <;> (((try simp only [engHC] at hc) <;> first | exact absurd trivial hc | skip))))
  refine sc_loop (ι := Nat) (fun i => i ≤ n) (fun i => n - i) (fun i => [(0, .slice A n c), (1, .slice B n bc), (12, .int .i64 n), (13, .int .i64 i)]) (fun _ => []) 0 (by show 0 ≤ n; omega) (by (try dsimp only); exact (by repeat (first | exact FSub.nil | refine FSub.cons rfl ?_ | refine FSub.conse rfl (by congr 1; omega) ?_))) (by repeat (first | exact LSub.refl | refine LSub.cons (by repeat (first | exact Rem.here | apply Rem.there)) ?_ | apply LSub.skip)) ?_
  intro i hi
  dsimp only at hi ⊢
  by_cases hlt : i < n
  · obtain ⟨x, hx⟩ : ∃ x, l[i]? = some x := ⟨_, List.getElem?_eq_getElem (by omega)⟩
    obtain ⟨ad, rfl, hX⟩ := h i x hx
    obtain ⟨ad2, rfl, hY⟩ := h2 i x hx
    repeat' (first | (refine gJ ?_; first | refine js rfl rfl rfl rfl ?_ | (refine gload rfl rfl ?_; refine j_qe rfl rfl rfl ?_; refine ⟨_, q_loadA_ext rfl rfl rfl rfl ⟨by assumption, (by first | exact id | assumption)⟩ (by rfl), ?_⟩) | refine jar rfl rfl rfl rfl rfl rfl rfl (by omega) ?_ | (refine gcall rfl rfl ?_; (refine j_qc (f := 90) rfl rfl rfl rfl rfl rfl rfl ?_; refine ⟨_, (fun w' _ => row_r x w'), ?_⟩)) | (refine j_qe rfl rfl rfl ?_; refine ⟨_, q_neS rfl eqm35 rfl rfl (eq35r x), ?_⟩) | (refine j_qe rfl rfl rfl ?_; refine ⟨_, q_index_nat rfl rfl rfl rfl rfl (by omega), ?_⟩)) | (refine gSC ?_; first | refine sc_mv rfl ?_ | refine sc_q rfl ?_ | refine sc_region ?_ | refine sc_draw rfl mixed (by kernel_rfl) ?_) | (refine gSQ ?_; first | refine sq_go rfl ?_ | refine sq_mv rfl ?_) | refine j_nil ?_ | ((refine sc_cond rfl ?_ ?_) <;> intro hc <;> (first | exact absurd hc (by decide) | ((try simp only [engHC] at hc) <;> first | (exfalso; omega) | skip))))
    all_goals exact sq_loop (i + 1) (by show i + 1 ≤ n; omega) (by show n - (i + 1) < n - i; omega) (by (try dsimp only); exact (by repeat (first | exact FSub.nil | refine FSub.cons rfl ?_ | refine FSub.conse rfl (by congr 1; omega) ?_))) (by repeat (first | exact LSub.refl | refine LSub.cons (by repeat (first | exact Rem.here | apply Rem.there)) ?_ | apply LSub.skip))
  · repeat' (first | (refine gJ ?_; refine js rfl rfl rfl rfl ?_) | (refine gSC ?_; first | refine sc_mv rfl ?_ | refine sc_q rfl ?_ | refine sc_region ?_) | (refine gSQ ?_; first | refine sq_go rfl ?_ | refine sq_mv rfl ?_ | refine sq_ende (by first | exact .inl rfl | exact .inr rfl) rfl rfl ⟨_, (RVs.cons (RV.tmp rfl) (RVs.nil)), ?_⟩) | refine j_nil ?_ | ((refine sc_cond rfl ?_ ?_) <;> intro hc <;> (((try simp only [engHC] at hc) <;> first | (exfalso; omega) | skip))))
    (intro w' hS; refine ⟨?_, hS.below⟩; simp only [pack])
set_option maxRecDepth 8000 in
set_option maxHeartbeats 16000000 in
theorem measures_c (A : Option Addr) (c : Nat) (l : List Sd) (B : Option Addr) (bc : Nat) (s : List Sn) (now risk cl fr to q : Int) (w : World) (hsl : Sl A l.length c) (hss : Sl B s.length bc) (hA : RS w 4 sdC A l) (hB : RS w 6 snC B s) (hcl : ∀ y ∈ l, 0 ≤ y.cl) (hcs : ∀ y ∈ s, 0 ≤ y.cl) :
    Calls Tryz.prog 32 #[.slice A l.length c, .slice B s.length bc, .int .i64 now, .int .i64 risk, .int .u8 cl, .int .i64 fr, .int .i64 to, .int .i64 q] w fun e w' => e = .returned (.bool true) ∧ Below w.heap.size w w' := by
  have hl : l.length ≤ 9223372036854775807 := by have := hsl.le; have := hsl.top; omega
  have hls : s.length ≤ 9223372036854775807 := by have := hss.le; have := hss.top; omega
  have hfew := fun w' => few_c A l.length c B s.length bc w'
  obtain ⟨n, hn⟩ : ∃ n, n = l.length := ⟨_, rfl⟩
  obtain ⟨m, hm⟩ : ∃ n, n = s.length := ⟨_, rfl⟩
  by_cases hb : l.length ≤ 510 ∧ s.length ≤ 25
  · rw [decide_eq_true hb] at hfew
    obtain ⟨hb1, hb2⟩ := hb
    have hlentT := fun w' h => lentT_c A c l w' (by omega) hsl h
    have hlentN := fun w' h => lentN_c B bc s w' (by omega) hss h
    have hkeptT := fun ad c2 w' hc hL h => keptT_c ad c2 A c l w' (by omega) hc hL h
    have hkeptN := fun ad c2 w' hc hL h => keptN_c ad c2 B bc s w' (by omega) hc hL h
    have hM := fun A1 c1 B1 d1 w' h h2 => Measure_c A1 c1 l B1 d1 s now risk w' hl hls h h2
    have hC := fun A1 c1 B1 d1 w' h h2 => Classes_c A1 c1 l B1 d1 s now risk w' hl hls h h2
    have hT := fun B1 d1 w' h2 => Transit_c B1 d1 s cl fr to now q w' hls h2
    have hMr := fun w' h h2 => rMeas_c A c l B bc s now risk w' hl (by omega) hcl hcs h h2
    have hCr := fun w' h h2 => rClas_c A c l B bc s now risk w' hl (by omega) hcl hcs h h2
    have hTr := fun w' h2 => rTr_c B bc s cl fr to now q w' (by omega) hcs h2
    have y2 := msF_len ofM l s now risk
    have y3 := msF_len ofC l s now risk
    generalize msF ofM l s now risk = jb at *
    generalize msF ofC l s now risk = jc at *
    generalize trF s cl fr to now q = jd at *
    obtain ⟨jb1, jb2⟩ := jb
    obtain ⟨jc1, jc2⟩ := jc
    obtain ⟨jd1, jd2⟩ := jd
    dsimp only at hM hMr hC hCr hT hTr y2 y3
    have hsm := fun A1 c1 B1 d1 w' h h2 => same_c A1 c1 B1 d1 jb2 w' (by omega) h h2
    have hsc := fun A1 c1 B1 d1 w' h h2 => same_c A1 c1 B1 d1 jc2 w' (by omega) h h2
    obtain ⟨nb, hnb⟩ : ∃ n, n = jb2.length := ⟨_, rfl⟩
    obtain ⟨nc, hnc⟩ : ∃ n, n = jc2.length := ⟨_, rfl⟩
    have htkT : (l ++ mksT 1 12).take n = l := by rw [hn]; simp
    have hlnT : (l ++ mksT 1 12).length = n + 12 := by rw [List.length_append, mksT_len, hn]
    generalize hLT : l ++ mksT 1 12 = lx at *
    have htkN : (s ++ mksN 1 12).take m = s := by rw [hm]; simp
    have hlnN : (s ++ mksN 1 12).length = m + 12 := by rw [List.length_append, mksN_len, hm]
    generalize hLN : s ++ mksN 1 12 = sx at *
    rw [← hnb] at hM hMr hsm
    rw [← hnc] at hC hCr hsc
    rw [← hn] at hM hMr hC hCr hlentT hkeptT hfew
    rw [← hm] at hM hMr hC hCr hlentN hkeptN hfew hT hTr
    rw [← hn, ← hm]
    refine eng_start (n := 127) (args := [.slice A n c, .slice B m bc, .int .i64 now, .int .i64 risk, .int .u8 cl, .int .i64 fr, .int .i64 to, .int .i64 q]) tab tab_ok fns fns_ok [.tmp 16] Tryz.func32 rfl rfl rfl rfl ?_
    repeat' (first | (refine gJ ?_; first | refine js rfl rfl rfl rfl ?_ | (refine gcall rfl rfl ?_; first | (refine j_qc (f := 50) rfl rfl rfl rfl rfl rfl rfl ?_; refine ⟨_, (fun w' _ => hfew w'), ?_⟩) | (refine j_qc (f := 22) rfl rfl rfl rfl rfl rfl rfl ?_; refine ⟨_, (fun w' hs => hT (some a2) c2 w' (htkN ▸ RS.take (rs_own (f := snC) (l := sx) (fun _ => rfl) hs (by (repeat constructor)) hlnN.symm rfl) m)), ?_⟩) | (refine j_qc (f := 65) rfl rfl rfl rfl rfl rfl rfl ?_; refine ⟨_, (fun w' hs => hTr w' (hB.st hs)), ?_⟩) | (refine j_qc (f := 54) rfl rfl rfl rfl rfl rfl rfl ?_; refine ⟨_, (fun w' hs => hkeptT a1 c1 w' hc1 (rs_own (f := sdC) (l := lx) (fun _ => rfl) hs (by (repeat constructor)) hlnT.symm rfl) (hA.st hs)), ?_⟩) | (refine j_qc (f := 66) rfl rfl rfl rfl rfl rfl rfl ?_; refine ⟨_, (fun w' hs => hkeptN a2 c2 w' hc2 (rs_own (f := snC) (l := sx) (fun _ => rfl) hs (by (repeat constructor)) hlnN.symm rfl) (hB.st hs)), ?_⟩) | (refine j_qc (f := 64) rfl rfl rfl rfl rfl rfl rfl ?_; refine ⟨_, (fun w' hs => hsm a3 c3 a4 c4 w' (rs_own (f := rwC) (l := jb2) (fun _ => rfl) hs (by (repeat constructor)) hnb rfl) (rs_own (f := rwC) (l := jb2) (fun _ => rfl) hs (by (repeat constructor)) hnb rfl)), ?_⟩) | (refine j_qc (f := 64) rfl rfl rfl rfl rfl rfl rfl ?_; refine ⟨_, (fun w' hs => hsc a5 c5 a6 c6 w' (rs_own (f := rwC) (l := jc2) (fun _ => rfl) hs (by (repeat constructor)) hnc rfl) (rs_own (f := rwC) (l := jc2) (fun _ => rfl) hs (by (repeat constructor)) hnc rfl)), ?_⟩)) | (refine gcall rfl rfl ?_; refine gF ?_; refine j_callN (f := 51) rfl rfl rfl rfl rfl rfl rfl (fun p : Addr × Nat => .slice (some p.1) n p.2) (fun p => n + 12 ≤ p.2) (fun p => [.own (.slice (some p.1) (n + 12) p.2) 43 4 (n + 12) (lx.flatMap sdC)]) (fun w' hs => hlentT w' (hA.st hs)) (fun _ => trivial) ?_; rintro ⟨a1, c1⟩ hc1) | (refine gcall rfl rfl ?_; refine gF ?_; refine j_callN (f := 61) rfl rfl rfl rfl rfl rfl rfl (fun p : Addr × Nat => .slice (some p.1) m p.2) (fun p => m + 12 ≤ p.2) (fun p => [.own (.slice (some p.1) (m + 12) p.2) 45 6 (m + 12) (sx.flatMap snC)]) (fun w' hs => hlentN w' (hB.st hs)) (fun _ => trivial) ?_; rintro ⟨a2, c2⟩ hc2) | (refine gcall rfl rfl ?_; refine gF ?_; refine j_callN (f := 17) rfl rfl rfl rfl rfl rfl rfl (fun v => .tuple #[v, .int .i64 jb1]) (fun _ => True) (fun v => [.own v 35 9 nb (jb2.flatMap rwC)]) (fun w' hs => hM (some a1) c1 (some a2) c2 w' (htkT ▸ RS.take (rs_own (f := sdC) (l := lx) (fun _ => rfl) hs (by (repeat constructor)) hlnT.symm rfl) n) (htkN ▸ RS.take (rs_own (f := snC) (l := sx) (fun _ => rfl) hs (by (repeat constructor)) hlnN.symm rfl) m)) (fun _ => trivial) ?_; rintro v3 _; refine j_owns (v := v3) (by (repeat constructor)) ?_; rintro a3 c3 rfl hs3) | (refine gcall rfl rfl ?_; refine gF ?_; refine j_callN (f := 62) rfl rfl rfl rfl rfl rfl rfl (fun v => .tuple #[v, .int .i64 jb1]) (fun _ => True) (fun v => [.own v 90 9 nb (jb2.flatMap rwC)]) (fun w' hs => hMr w' (hA.st hs) (hB.st hs)) (fun _ => trivial) ?_; rintro v4 _; refine j_owns (v := v4) (by (repeat constructor)) ?_; rintro a4 c4 rfl hs4) | (refine gcall rfl rfl ?_; refine gF ?_; refine j_callN (f := 18) rfl rfl rfl rfl rfl rfl rfl (fun v => .tuple #[v, .int .i64 jc1]) (fun _ => True) (fun v => [.own v 35 9 nc (jc2.flatMap rwC)]) (fun w' hs => hC (some a1) c1 (some a2) c2 w' (htkT ▸ RS.take (rs_own (f := sdC) (l := lx) (fun _ => rfl) hs (by (repeat constructor)) hlnT.symm rfl) n) (htkN ▸ RS.take (rs_own (f := snC) (l := sx) (fun _ => rfl) hs (by (repeat constructor)) hlnN.symm rfl) m)) (fun _ => trivial) ?_; rintro v5 _; refine j_owns (v := v5) (by (repeat constructor)) ?_; rintro a5 c5 rfl hs5) | (refine gcall rfl rfl ?_; refine gF ?_; refine j_callN (f := 63) rfl rfl rfl rfl rfl rfl rfl (fun v => .tuple #[v, .int .i64 jc1]) (fun _ => True) (fun v => [.own v 90 9 nc (jc2.flatMap rwC)]) (fun w' hs => hCr w' (hA.st hs) (hB.st hs)) (fun _ => trivial) ?_; rintro v6 _; refine j_owns (v := v6) (by (repeat constructor)) ?_; rintro a6 c6 rfl hs6)) | (refine gSC ?_; first | refine sc_mv rfl ?_ | refine sc_q rfl ?_ | refine sc_region ?_) | (refine gSQ ?_; first | refine sq_go rfl ?_ | refine sq_ende (by first | exact .inl rfl | exact .inr rfl) rfl rfl ⟨_, (RVs.cons (RV.tmp rfl) (RVs.nil)), ?_⟩) | refine j_nil ?_ | ((first | refine j_guard rfl rfl rfl rfl rfl ?_ ?_ | refine sc_cond rfl ?_ ?_) <;> intro hc <;> (first | exact absurd hc (by decide) | ((try simp only [engHC] at hc) <;> first | exact absurd trivial hc | skip))))
    all_goals (intro w' hS; refine ⟨?_, hS.below⟩; simp only [pack])
  · rw [decide_eq_false hb] at hfew
    rw [← hn, ← hm] at hfew ⊢
    refine eng_start (n := 127) (args := [.slice A n c, .slice B m bc, .int .i64 now, .int .i64 risk, .int .u8 cl, .int .i64 fr, .int .i64 to, .int .i64 q]) tab tab_ok fns fns_ok [.tmp 16] Tryz.func32 rfl rfl rfl rfl ?_
    repeat' (first | (refine gJ ?_; first | refine js rfl rfl rfl rfl ?_ | (refine gcall rfl rfl ?_; (refine j_qc (f := 50) rfl rfl rfl rfl rfl rfl rfl ?_; refine ⟨_, (fun w' _ => hfew w'), ?_⟩))) | (refine gSC ?_; first | refine sc_mv rfl ?_ | refine sc_q rfl ?_ | refine sc_region ?_) | (refine gSQ ?_; first | refine sq_go rfl ?_ | refine sq_mv rfl ?_ | refine sq_ende (by first | exact .inl rfl | exact .inr rfl) rfl rfl ⟨_, (RVs.cons (RV.tmp rfl) (RVs.nil)), ?_⟩) | refine j_nil ?_ | ((refine sc_cond rfl ?_ ?_) <;> intro hc <;> (first | exact absurd hc (by decide) | ((try simp only [engHC] at hc) <;> skip))))
    (intro w' hS; refine ⟨?_, hS.below⟩; simp only [pack])
end Go.Proofs.YtmakokbpadmfbaaGreat
