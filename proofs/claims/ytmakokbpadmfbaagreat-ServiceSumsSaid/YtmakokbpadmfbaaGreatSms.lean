/-
  ServiceSums.
-/
import Derived.Test.YtmakokbpadmfbaaGreatSup
namespace Go.Proofs.YtmakokbpadmfbaaGreat
open Go.RowKit Eng
set_option linter.unusedVariables false
set_option linter.unusedSimpArgs false
set_option maxHeartbeats 8000000
attribute [local irreducible] SC SQ J Qt Calls Iterates LSub FSub
theorem classes_lt {l : List Sd} {s : List Sn} {now risk : Int} : (msRows ofC l s now risk).Pairwise fun a b => a.cl < b.cl := by
  rw [msRows_eq, List.pairwise_map]
  have h0 : ∀ k ∈ sortL (lanesO (of := ofC) s), k.fr = 0 ∧ k.to = 0 := fun k hk => by
    obtain ⟨x, _, rfl⟩ := sortL_memO.1 hk
    exact ⟨rfl, rfl⟩
  have hcl : ∀ k, (rowF ofC l s now risk k).cl = k.cl := fun k => by rw [rowF_eq]; rfl
  refine List.Pairwise.imp_of_mem (fun {a b} ha hb h => ?_) (sortL_lt (lanesO_nodup (of := ofC) s))
  rw [hcl, hcl]
  have := h0 a ha
  have := h0 b hb
  unfold lnLt at h
  omega
theorem rows_len {of : Sn → Lane} {l : List Sd} {s : List Sn} {now risk : Int} : (msRows of l s now risk).length ≤ s.length := by
  rw [msRows_eq, List.length_map, (sortL_perm _).length_eq]
  exact lanesO_len s
theorem met_all {l : List Sd} {s : List Sn} {now risk : Int} : metN (msRows ofC l s now risk) (msRows ofM l s now risk) = (msRows ofM l s now risk).length := by
  refine metN_all ?_ fun p hp => ?_
  · have := classes_lt (l := l) (s := s) (now := now) (risk := risk)
    exact List.Pairwise.map _ (fun a b (h : a.cl < b.cl) => by omega) this
  · obtain ⟨x, hx, rfl⟩ := pair_mem hp
    exact ⟨rowF ofC l s now risk (ofC x), by rw [msRows_eq]; exact List.mem_map.2 ⟨_, sortL_memO.2 ⟨x, hx, rfl⟩, rfl⟩, by rw [rowF_eq, rowF_eq]; rfl⟩
set_option maxHeartbeats 16000000 in
theorem Sums_c (A : Option Addr) (c : Nat) (l0 : List Th) (a z : Int) (w : World) (hsl : Sl A l0.length c) (hR : RS w 4 thC A l0) (hok : ∀ x ∈ l0, thOk x) (ha : inI a) (hz : inI z) :
    Calls Tryz.prog 3 #[.slice A l0.length c, .int .i64 a, .int .i64 z] w fun e w' => e = .returned (.bool true) ∧ Below w.heap.size w w' := by
  obtain ⟨N, hN⟩ : ∃ N : Nat, N = min l0.length 100 := ⟨_, rfl⟩
  have hN2 : (if (100 : Int) < l0.length then (100 : Int) else l0.length) = (N : Int) := by split <;> omega
  have hR2 := RS.take hR N
  have hok2 : ∀ x ∈ l0.take N, thOk x := fun x hx => hok x (List.mem_of_mem_take hx)
  have hlen : (l0.take N).length = N := by rw [List.length_take]; omega
  generalize hl : l0.take N = l at *
  have hmk := fun w' h => made_c A c l w' (by omega) hok2 h
  have hmo := (made_ok hok2)
  have hml := made_len l
  generalize madeF l = s at *
  have hta := fun w' => time_c a w' ha
  have ha1 : timeI (a % 40000) := ⟨Int.emod_nonneg _ (by omega), by have := Int.emod_lt_of_pos a (show (0 : Int) < 40000 by omega); omega⟩
  generalize a % 40000 = now at *
  have hp3 := fun w' => pick_c z 2000 w' hz (by omega)
  have hz2 : 0 ≤ z % 2000 ∧ z % 2000 < 2000 := ⟨Int.emod_nonneg _ (by omega), Int.emod_lt_of_pos _ (by omega)⟩
  obtain ⟨rk, hrk⟩ : ∃ r : Nat, 1 + z % 2000 = (r : Int) := ⟨(1 + z % 2000).toNat, by omega⟩
  have hrk2 : 1 ≤ rk ∧ rk ≤ 2000 := by omega
  generalize z % 2000 = z9 at *
  have hs100 : s.length ≤ 100 := by omega
  have hM := fun A c B bc w' h h2 => Measure_c A c std4 B bc s now rk w' (by simp [std4]) (by omega) h h2
  have hC := fun A c B bc w' h h2 => Classes_c A c std4 B bc s now rk w' (by simp [std4]) (by omega) h h2
  rw [ms_right std4_ok hmo.1 ha1 (by omega) (by omega)] at hM hC
  dsimp only at hM hC
  have hsum := fun c => sum_is (l := std4) (s := s) (now := now) (risk := rk) (c := c)
  have hlt := classes_lt (l := std4) (s := s) (now := now) (risk := rk)
  have hall := met_all (l := std4) (s := s) (now := now) (risk := rk)
  have hPl := rows_len (of := ofM) (l := std4) (s := s) (now := now) (risk := rk)
  have hCl := rows_len (of := ofC) (l := std4) (s := s) (now := now) (risk := rk)
  have hPs : ∀ p ∈ msRows ofM std4 s now rk, 0 ≤ p.kp ∧ p.kp ≤ p.tr ∧ 0 ≤ p.op ∧ 0 ≤ p.ot := fun p hp => by
    obtain ⟨x, _, rfl⟩ := pair_mem hp
    have := rowF_small (l := std4) (s := s) (now := now) (risk := rk) ofM (ofM x)
    omega
  have hCs : ∀ p ∈ msRows ofC std4 s now rk, 0 ≤ p.kp ∧ p.kp ≤ p.tr ∧ 0 ≤ p.op ∧ 0 ≤ p.ot ∧ p.tr + p.op + p.ot ≤ 100 := fun p hp => by
    obtain ⟨x, _, rfl⟩ := class_mem hp
    have := rowF_small (l := std4) (s := s) (now := now) (risk := rk) ofC (ofC x)
    omega
  generalize msRows ofM std4 s now rk = P at *
  generalize msRows ofC std4 s now rk = Q at *
  obtain ⟨np, hnp⟩ : ∃ n, n = P.length := ⟨_, rfl⟩
  obtain ⟨nq, hnq⟩ : ∃ n, n = Q.length := ⟨_, rfl⟩
  rw [← hnp] at hM hall hPl
  rw [← hnq] at hC hCl
  rw [← hrk] at hM hC
  refine eng_start (n := 160) (args := [.slice A l0.length c, .int .i64 a, .int .i64 z]) tab tab_ok fns fns_ok [.tmp 6] Tryz.func3 rfl rfl rfl rfl ?_
  repeat' (first | (refine gJ ?_; first | refine js rfl rfl rfl rfl ?_ | refine jar rfl rfl rfl rfl rfl rfl rfl (by omega) ?_ | (refine gcall rfl rfl ?_; first | (refine j_qc (f := 13) rfl rfl rfl rfl rfl rfl rfl ?_; refine ⟨_, (fun w' _ => awake_c w'), ?_⟩) | (refine j_qc (f := 15) rfl rfl rfl rfl rfl rfl rfl ?_; refine ⟨_, (fun w' _ => hta w'), ?_⟩) | (refine j_qc (f := 16) rfl rfl rfl rfl rfl rfl rfl ?_; refine ⟨_, (fun w' _ => hp3 w'), ?_⟩)) | (refine gcall rfl rfl ?_; refine gF ?_; refine j_callN (f := 14) rfl rfl rfl rfl rfl rfl rfl (fun x : Value × Value => .tuple #[x.1, x.2]) (fun _ => True) (fun x => [.own x.1 43 4 4 (std4.flatMap sdC), .own x.2 45 6 s.length (s.flatMap snC)]) (fun w' hs => hlen ▸ hmk w' (hR2.st hs)) (fun _ => trivial) ?_; rintro ⟨v1, v2⟩ _; refine j_owns (v := v1) (by (repeat constructor)) ?_; rintro a1 c1 rfl hs1; refine j_owns (v := v2) (by (repeat constructor)) ?_; rintro a2 c2 rfl hs2) | (refine j_qe rfl rfl rfl ?_; refine ⟨_, q_minr rfl rfl rfl hN2, ?_⟩) | (refine j_qe rfl rfl rfl ?_; refine ⟨_, q_sliceHi N rfl rfl rfl rfl rfl (by have := hsl.le; omega), ?_⟩) | (refine gcall rfl rfl ?_; refine gF ?_; refine j_callN (f := 17) rfl rfl rfl rfl rfl rfl rfl (fun v => .tuple #[v, .int .i64 0]) (fun _ => True) (fun v => [.own v 35 9 np (P.flatMap rwC)]) (fun w' hs => hM a1 c1 a2 c2 w' (rs_own (f := sdC) (fun _ => rfl) hs (by (repeat constructor)) rfl rfl) (rs_own (f := snC) (l := s) (fun _ => rfl) hs (by (repeat constructor)) rfl rfl)) (fun _ => trivial) ?_; rintro v3 _; refine j_owns (v := v3) (by (repeat constructor)) ?_; rintro a3 c3 rfl hs3) | (refine gcall rfl rfl ?_; refine gF ?_; refine j_callN (f := 18) rfl rfl rfl rfl rfl rfl rfl (fun v => .tuple #[v, .int .i64 0]) (fun _ => True) (fun v => [.own v 35 9 nq (Q.flatMap rwC)]) (fun w' hs => hC a1 c1 a2 c2 w' (rs_own (f := sdC) (fun _ => rfl) hs (by (repeat constructor)) rfl rfl) (rs_own (f := snC) (l := s) (fun _ => rfl) hs (by (repeat constructor)) rfl rfl)) (fun _ => trivial) ?_; rintro v4 _; refine j_owns (v := v4) (by (repeat constructor)) ?_; rintro a4 c4 rfl hs4) | (refine j_qe rfl rfl rfl ?_; refine ⟨_, q_len_slice rfl rfl rfl rfl, ?_⟩)) | (refine gSC ?_; first | refine sc_mv rfl ?_ | refine sc_q rfl ?_ | refine sc_region ?_) | (refine gSQ ?_; refine sq_go rfl ?_) | refine j_nil ?_ | ((refine sc_cond rfl ?_ ?_) <;> intro hc <;> (first | exact absurd hc (by decide) | ((try simp only [engHC] at hc) <;> skip))))
  refine sc_loop (ι := Nat) (fun i => i ≤ nq) (fun i => nq - i) (fun i => [(11, .slice a3 np c3), (13, .slice a4 nq c4), (10, .int .i64 (1 + z9)), (15, .int .i64 (metN (Q.take i) P : Nat)), (61, .slice a4 nq c4), (62, .int .i64 nq), (63, .int .i64 i)]) (fun i => [.own (.slice a4 nq c4) 35 9 nq (Q.flatMap rwC), .own (.slice a3 np c3) 35 9 np (P.flatMap rwC)]) 0 (Nat.zero_le _) (by (try dsimp only); exact (by repeat (first | exact FSub.nil | refine FSub.cons rfl ?_ | refine FSub.conse rfl (by congr 1; omega) ?_))) (by repeat (first | exact LSub.refl | refine LSub.cons (by repeat (first | exact Rem.here | apply Rem.there)) ?_ | apply LSub.skip)) ?_
  intro i hi
  dsimp only at hi ⊢
  by_cases hlt2 : i < nq
  · obtain ⟨q, hq⟩ : ∃ q, Q[i]? = some q := ⟨_, List.getElem?_eq_getElem (by omega)⟩
    obtain ⟨a4, rfl⟩ : ∃ ad, a4 = some ad := by
      cases a4 with
      | none => have := hs4.nil rfl; omega
      | some ad => exact ⟨ad, rfl⟩
    have hqc := hCs q (List.mem_of_getElem? hq)
    have hqs := hsum q (List.mem_of_getElem? hq)
    repeat' (first | (refine gJ ?_; first | refine js rfl rfl rfl rfl ?_ | (refine gload rfl rfl ?_; refine j_qe rfl rfl rfl ?_; refine ⟨_, q_load_own rfl rfl rfl rfl (by (repeat constructor)) (by first | rfl | assumption), ?_⟩) | refine jfield rfl rfl rfl rfl rfl rfl rfl rfl ?_ | (refine gF ?_; refine j_alloc rfl rfl rfl rfl rfl ?_; intro b5) | (refine j_qe rfl rfl rfl ?_; refine ⟨_, q_rowA (f := rwC) (l := Q) (i := i) rfl rfl rfl rfl (by (repeat constructor)) (fun _ => rfl) hq rfl, ?_⟩) | (refine gF ?_; refine j_store rfl rfl rfl rfl rfl rfl rfl rfl (by (repeat constructor)) (by rfl) ?_) | (refine j_qe rfl rfl rfl ?_; first | refine ⟨_, q_index_nat rfl rfl rfl rfl rfl (by omega), ?_⟩ | refine ⟨_, q_len_slice rfl rfl rfl rfl, ?_⟩ | refine ⟨_, q_build_struct rfl rfl rfl rfl rfl, ?_⟩)) | (refine gSC ?_; first | refine sc_mv rfl ?_ | refine sc_q rfl ?_ | refine sc_region ?_) | (refine gSQ ?_; refine sq_go rfl ?_) | refine j_nil ?_ | ((refine sc_cond rfl ?_ ?_) <;> intro hc <;> (((try simp only [engHC] at hc) <;> first | (exfalso; omega) | skip))))
    rename_i bq
    refine sc_loop (ι := Nat) (fun j => j ≤ np) (fun j => np - j) (fun j => [(11, .slice a3 np c3), (13, .slice (some a4) nq c4), (10, .int .i64 (1 + z9)), (15, .int .i64 (metN (Q.take i) P + (P.take j).countP fun p => decide (p.cl = q.cl) : Nat)), (61, .slice (some a4) nq c4), (62, .int .i64 nq), (63, .int .i64 i), (16, .int .i64 i), (17, .pointer (some ⟨bq, 0, none⟩)), (18, .pointer (some ⟨b5, 0, none⟩)), (71, .slice a3 np c3), (72, .int .i64 np), (73, .int .i64 j)]) (fun j => [.cells b5 35 (rwC (sumR q.cl (P.take j))), .cells bq 35 (rwC q), .own (.slice (some a4) nq c4) 35 9 nq (Q.flatMap rwC), .own (.slice a3 np c3) 35 9 np (P.flatMap rwC)]) 0 (Nat.zero_le _) (by (try dsimp only); exact (by repeat (first | exact FSub.nil | refine FSub.cons rfl ?_ | refine FSub.conse rfl (by congr 1; omega) ?_))) (by repeat (first | exact LSub.refl | refine LSub.cons (by repeat (first | exact Rem.here | apply Rem.there)) ?_ | apply LSub.skip)) ?_
    intro j hj
    dsimp only at hj ⊢
    have g1 := sumI_mono (cl := q.cl) (f := (·.tr)) (fun p hp => by have := hPs p hp; omega) j
    have g2 := sumI_mono (cl := q.cl) (f := (·.kp)) (fun p hp => by have := hPs p hp; omega) j
    have g3 := sumI_mono (cl := q.cl) (f := (·.op)) (fun p hp => by have := hPs p hp; omega) j
    have g4 := sumI_mono (cl := q.cl) (f := (·.ot)) (fun p hp => by have := hPs p hp; omega) j
    have f1 : sumI q.cl (·.tr) P = q.tr := by rw [← hqs]; rfl
    have f2 : sumI q.cl (·.kp) P = q.kp := by rw [← hqs]; rfl
    have f3 : sumI q.cl (·.op) P = q.op := by rw [← hqs]; rfl
    have f4 : sumI q.cl (·.ot) P = q.ot := by rw [← hqs]; rfl
    rw [f1] at g1
    rw [f2] at g2
    rw [f3] at g3
    rw [f4] at g4
    clear f1 f2 f3 f4
    have hmle := metN_le (Q.take i) P
    have hmle2 : (Q.take i).length * P.length ≤ 10000 := Nat.mul_le_mul (show (Q.take i).length ≤ 100 by rw [List.length_take]; omega) (show P.length ≤ 100 by omega)
    have hcle := List.countP_le_length (p := fun p : Rw => decide (p.cl = q.cl)) (l := P.take j)
    have hjl : (P.take j).length ≤ 100 := by rw [List.length_take]; omega
    by_cases hlt3 : j < np
    · obtain ⟨p, hp⟩ : ∃ p, P[j]? = some p := ⟨_, List.getElem?_eq_getElem (by omega)⟩
      obtain ⟨a3, rfl⟩ : ∃ ad, a3 = some ad := by
        cases a3 with
        | none => have := hs3.nil rfl; omega
        | some ad => exact ⟨ad, rfl⟩
      have hpc := hPs p (List.mem_of_getElem? hp)
      have hT : P.take (j + 1) = P.take j ++ [p] := take_snocS hp
      have m1 := sumI_mono (cl := q.cl) (f := (·.tr)) (fun p hp => by have := hPs p hp; omega) (j + 1)
      have hnext : sumR q.cl (P.take (j + 1)) = if p.cl = q.cl then ⟨q.cl, 0, 0, sumI q.cl (·.tr) (P.take j) + p.tr, sumI q.cl (·.kp) (P.take j) + p.kp, sumI q.cl (·.op) (P.take j) + p.op, sumI q.cl (·.ot) (P.take j) + p.ot, 0, 0⟩ else sumR q.cl (P.take j) := by
        unfold sumR
        rw [hT]
        simp only [sumI_snoc]
        split <;> simp
      have hcn : (P.take (j + 1)).countP (fun p => decide (p.cl = q.cl)) = (P.take j).countP (fun p => decide (p.cl = q.cl)) + if p.cl = q.cl then 1 else 0 := by
        rw [hT, List.countP_append]
        congr 1
        simp
      by_cases hpq : p.cl = q.cl
      · rw [if_pos hpq] at hnext hcn
        unfold sumR
        generalize sumI q.cl (·.tr) (P.take j) = S1 at *
        generalize sumI q.cl (·.kp) (P.take j) = S2 at *
        generalize sumI q.cl (·.op) (P.take j) = S3 at *
        generalize sumI q.cl (·.ot) (P.take j) = S4 at *
        have m1 := sumI_mono (cl := q.cl) (f := (·.tr)) (fun p hp => by have := hPs p hp; omega) (j + 1)
        have m2 := sumI_mono (cl := q.cl) (f := (·.kp)) (fun p hp => by have := hPs p hp; omega) (j + 1)
        have m3 := sumI_mono (cl := q.cl) (f := (·.op)) (fun p hp => by have := hPs p hp; omega) (j + 1)
        have m4 := sumI_mono (cl := q.cl) (f := (·.ot)) (fun p hp => by have := hPs p hp; omega) (j + 1)
        rw [show sumI q.cl (·.tr) (P.take (j + 1)) = (sumR q.cl (P.take (j + 1))).tr from rfl, hnext, show sumI q.cl (·.tr) P = q.tr by rw [← hqs]; rfl] at m1
        rw [show sumI q.cl (·.kp) (P.take (j + 1)) = (sumR q.cl (P.take (j + 1))).kp from rfl, hnext, show sumI q.cl (·.kp) P = q.kp by rw [← hqs]; rfl] at m2
        rw [show sumI q.cl (·.op) (P.take (j + 1)) = (sumR q.cl (P.take (j + 1))).op from rfl, hnext, show sumI q.cl (·.op) P = q.op by rw [← hqs]; rfl] at m3
        rw [show sumI q.cl (·.ot) (P.take (j + 1)) = (sumR q.cl (P.take (j + 1))).ot from rfl, hnext, show sumI q.cl (·.ot) P = q.ot by rw [← hqs]; rfl] at m4
        dsimp only at m1 m2 m3 m4
        generalize List.countP (fun p => decide (p.cl = q.cl)) (P.take j) = cn at *
        generalize metN (Q.take i) P = mt at *
        clear hqs hsum
        rw [show rwC { cl := q.cl, fr := 0, to := 0, tr := S1, kp := S2, op := S3, ot := S4, le := 0, gr := 0 } = [.int .u8 q.cl, .int .i64 0, .int .i64 0, .int .i64 S1, .int .i64 S2, .int .i64 S3, .int .i64 S4, .int .i64 0, .int .i64 0] from rfl]
        repeat' (first | (refine gJ ?_; first | refine js rfl rfl rfl rfl ?_ | (refine gload rfl rfl ?_; refine j_qe rfl rfl rfl ?_; refine ⟨_, q_load_own rfl rfl rfl rfl (by (repeat constructor)) (by first | rfl | assumption), ?_⟩) | refine jfield rfl rfl rfl rfl rfl rfl rfl rfl ?_ | refine jar rfl rfl rfl rfl rfl rfl rfl (by omega) ?_ | (refine gF ?_; refine j_alloc rfl rfl rfl rfl rfl ?_; intro b6) | (refine j_qe rfl rfl rfl ?_; refine ⟨_, q_rowA (f := rwC) (l := P) (i := j) rfl rfl rfl rfl (by (repeat constructor)) (fun _ => rfl) hp rfl, ?_⟩) | (refine gF ?_; refine j_store rfl rfl rfl rfl rfl rfl rfl rfl (by (repeat constructor)) (by rfl) ?_) | (refine j_qe rfl rfl rfl ?_; refine ⟨_, q_index_nat rfl rfl rfl rfl rfl (by omega), ?_⟩)) | (refine gSC ?_; first | refine sc_mv rfl ?_ | refine sc_q rfl ?_ | refine sc_region ?_) | (refine gSQ ?_; first | refine sq_go rfl ?_ | refine sq_mv rfl ?_) | refine j_nil ?_ | ((refine sc_cond rfl ?_ ?_) <;> intro hc <;> (((try simp only [engHC] at hc) <;> first | (exfalso; omega) | skip))))
        all_goals
          refine sq_loop (j + 1) ?_ ?_ ?_ ?_
          · show j + 1 ≤ np; omega
          · show np - (j + 1) < np - j; omega
          · rw [hcn]; exact (by (try dsimp only); exact (by repeat (first | exact FSub.nil | refine FSub.cons rfl ?_ | refine FSub.conse rfl (by congr 1; omega) ?_)))
          · change LSub (HA.cells b5 35 (rwC (sumR q.cl (P.take (j + 1)))) :: _) _
            rw [hnext]
            exact (by repeat (first | exact LSub.refl | refine LSub.cons (by repeat (first | exact Rem.here | apply Rem.there)) ?_ | apply LSub.skip))
      · rw [if_neg hpq] at hnext hcn
        generalize sumR q.cl (P.take j) = S at *
        generalize List.countP (fun p => decide (p.cl = q.cl)) (P.take j) = cn at *
        repeat' (first | (refine gJ ?_; first | refine js rfl rfl rfl rfl ?_ | (refine gload rfl rfl ?_; refine j_qe rfl rfl rfl ?_; refine ⟨_, q_load_own rfl rfl rfl rfl (by (repeat constructor)) (by first | rfl | assumption), ?_⟩) | refine jfield rfl rfl rfl rfl rfl rfl rfl rfl ?_ | refine jar rfl rfl rfl rfl rfl rfl rfl (by omega) ?_ | (refine gF ?_; refine j_alloc rfl rfl rfl rfl rfl ?_; intro b6) | (refine j_qe rfl rfl rfl ?_; refine ⟨_, q_rowA (f := rwC) (l := P) (i := j) rfl rfl rfl rfl (by (repeat constructor)) (fun _ => rfl) hp rfl, ?_⟩) | (refine gF ?_; refine j_store rfl rfl rfl rfl rfl rfl rfl rfl (by (repeat constructor)) (by rfl) ?_) | (refine j_qe rfl rfl rfl ?_; refine ⟨_, q_index_nat rfl rfl rfl rfl rfl (by omega), ?_⟩)) | (refine gSC ?_; first | refine sc_mv rfl ?_ | refine sc_q rfl ?_ | refine sc_region ?_) | (refine gSQ ?_; first | refine sq_go rfl ?_ | refine sq_mv rfl ?_) | refine j_nil ?_ | ((refine sc_cond rfl ?_ ?_) <;> intro hc <;> (((try simp only [engHC] at hc) <;> first | (exfalso; omega) | skip))))
        all_goals
          refine sq_loop (j + 1) ?_ ?_ ?_ ?_
          · show j + 1 ≤ np; omega
          · show np - (j + 1) < np - j; omega
          · rw [hcn]; exact (by (try dsimp only); exact (by repeat (first | exact FSub.nil | refine FSub.cons rfl ?_ | refine FSub.conse rfl (by congr 1; omega) ?_)))
          · rw [hnext]; exact (by repeat (first | exact LSub.refl | refine LSub.cons (by repeat (first | exact Rem.here | apply Rem.there)) ?_ | apply LSub.skip))
    · have hjn : j = np := by omega
      subst hjn
      have hPt : P.take j = P := by rw [hnp]; exact List.take_length
      rw [hPt]
      have hsz : sumR q.cl P = ⟨q.cl, 0, 0, q.tr, q.kp, q.op, q.ot, 0, 0⟩ := by
        have e1 : (bndR (sumR q.cl P) rk).tr = q.tr := by rw [hqs]
        have e2 : (bndR (sumR q.cl P) rk).kp = q.kp := by rw [hqs]
        have e3 : (bndR (sumR q.cl P) rk).op = q.op := by rw [hqs]
        have e4 : (bndR (sumR q.cl P) rk).ot = q.ot := by rw [hqs]
        rw [rw_eq]
        exact ⟨rfl, rfl, rfl, e1, e2, e3, e4, rfl, rfl⟩
      rw [hsz] at hqs ⊢
      have hle := fun w' => least_c q.tr.toNat q.kp.toNat rk w' (by omega) (by omega) hrk2
      have hgr := fun w' => greatest_c q.tr.toNat q.kp.toNat rk w' (by omega) (by omega) hrk2
      have hqs2 : (⟨q.cl, 0, 0, q.tr, q.kp, q.op, q.ot, (lowF q.tr.toNat q.kp.toNat rk : Nat), 10000 - ((lowF q.tr.toNat (q.tr.toNat - q.kp.toNat) rk : Nat) : Int)⟩ : Rw) = q := hqs
      have hmet : metN (Q.take (i + 1)) P = metN (Q.take i) P + P.countP fun p => decide (p.cl = q.cl) := by rw [take_snocS hq, metN_snoc]
      rw [show ((q.tr.toNat : Nat) : Int) = q.tr by omega, show ((q.kp.toNat : Nat) : Int) = q.kp by omega, ← hrk] at hle hgr
      generalize lowF q.tr.toNat q.kp.toNat rk = L at *
      generalize lowF q.tr.toNat (q.tr.toNat - q.kp.toNat) rk = H at *
      generalize List.countP (fun p => decide (p.cl = q.cl)) P = cn at *
      generalize metN (Q.take i) P = mt at *
      have hbef : 0 < i → ∃ q0, Q[i - 1]? = some q0 ∧ q0.cl < q.cl := fun h0 => by
        obtain ⟨q0, hq0⟩ : ∃ q0, Q[i - 1]? = some q0 := ⟨_, List.getElem?_eq_getElem (by omega)⟩
        refine ⟨q0, hq0, ?_⟩
        obtain ⟨z1, hz1⟩ := List.getElem?_eq_some_iff.1 hq0
        obtain ⟨z2, hz2⟩ := List.getElem?_eq_some_iff.1 hq
        have := List.pairwise_iff_getElem.1 hlt (i - 1) i z1 z2 (by omega)
        rw [hz1, hz2] at this
        exact this
      clear hqs hsum hsz g1 g2 g3 g4 hcle hmle
      rw [show rwC { cl := q.cl, fr := 0, to := 0, tr := q.tr, kp := q.kp, op := q.op, ot := q.ot, le := 0, gr := 0 } = [.int .u8 q.cl, .int .i64 0, .int .i64 0, .int .i64 q.tr, .int .i64 q.kp, .int .i64 q.op, .int .i64 q.ot, .int .i64 0, .int .i64 0] from rfl, ← hqs2]
      rw [show rwC { cl := q.cl, fr := 0, to := 0, tr := q.tr, kp := q.kp, op := q.op, ot := q.ot, le := L, gr := 10000 - (H : Int) } = [.int .u8 q.cl, .int .i64 0, .int .i64 0, .int .i64 q.tr, .int .i64 q.kp, .int .i64 q.op, .int .i64 q.ot, .int .i64 L, .int .i64 (10000 - H)] from rfl]
      rcases Nat.eq_zero_or_pos i with h0 | h0
      · subst h0
        repeat' (first | (refine gJ ?_; first | refine js rfl rfl rfl rfl ?_ | (refine gload rfl rfl ?_; refine j_qe rfl rfl rfl ?_; first | refine ⟨_, q_load_own rfl rfl rfl rfl (by (repeat constructor)) (by first | rfl | assumption), ?_⟩ | refine ⟨_, q_loadA_own rfl rfl rfl rfl (by (repeat constructor)) (by rfl), ?_⟩) | refine jfield rfl rfl rfl rfl rfl rfl rfl rfl ?_ | refine jar rfl rfl rfl rfl rfl rfl rfl (by omega) ?_ | (refine gcall rfl rfl ?_; first | (refine j_qc (f := 19) rfl rfl rfl rfl rfl rfl rfl ?_; refine ⟨_, (fun w' _ => hle w'), ?_⟩) | (refine j_qc (f := 20) rfl rfl rfl rfl rfl rfl rfl ?_; refine ⟨_, (fun w' _ => hgr w'), ?_⟩)) | (refine j_qe rfl rfl rfl ?_; refine ⟨_, q_neS rfl eqm35 rfl rfl (eq35r ⟨q.cl, 0, 0, q.tr, q.kp, q.op, q.ot, L, 10000 - (H : Int)⟩), ?_⟩) | (refine gF ?_; refine j_store rfl rfl rfl rfl rfl rfl rfl rfl (by (repeat constructor)) (by rfl) ?_)) | (refine gSC ?_; first | refine sc_mv rfl ?_ | refine sc_q rfl ?_ | refine sc_region ?_ | refine sc_draw rfl mixed (by kernel_rfl) ?_) | (refine gSQ ?_; first | refine sq_go rfl ?_ | refine sq_mv rfl ?_) | refine j_nil ?_ | ((first | refine j_guard rfl rfl rfl rfl rfl ?_ ?_ | refine sc_cond rfl ?_ ?_) <;> intro hc <;> (first | exact absurd hc (by decide) | ((try simp only [engHC] at hc) <;> first | (exfalso; omega) | skip))))
        all_goals
          refine sq_loop (0 + 1) ?_ ?_ ?_ ?_
          · show 0 + 1 ≤ nq; omega
          · show nq - (0 + 1) < nq - 0; omega
          · rw [hmet]; exact (by (try dsimp only); exact (by repeat (first | exact FSub.nil | refine FSub.cons rfl ?_ | refine FSub.conse rfl (by congr 1; omega) ?_)))
          · exact (by repeat (first | exact LSub.refl | refine LSub.cons (by repeat (first | exact Rem.here | apply Rem.there)) ?_ | apply LSub.skip))
      · obtain ⟨q0, hq0, hq01⟩ := hbef h0
        repeat' (first | (refine gJ ?_; first | refine js rfl rfl rfl rfl ?_ | (refine gload rfl rfl ?_; refine j_qe rfl rfl rfl ?_; first | refine ⟨_, q_load_own rfl rfl rfl rfl (by (repeat constructor)) (by first | rfl | assumption), ?_⟩ | refine ⟨_, q_loadA_own rfl rfl rfl rfl (by (repeat constructor)) (by rfl), ?_⟩) | refine jfield rfl rfl rfl rfl rfl rfl rfl rfl ?_ | refine jar rfl rfl rfl rfl rfl rfl rfl (by omega) ?_ | (refine gcall rfl rfl ?_; first | (refine j_qc (f := 19) rfl rfl rfl rfl rfl rfl rfl ?_; refine ⟨_, (fun w' _ => hle w'), ?_⟩) | (refine j_qc (f := 20) rfl rfl rfl rfl rfl rfl rfl ?_; refine ⟨_, (fun w' _ => hgr w'), ?_⟩)) | (refine j_qe rfl rfl rfl ?_; refine ⟨_, q_neS rfl eqm35 rfl rfl (eq35r ⟨q.cl, 0, 0, q.tr, q.kp, q.op, q.ot, L, 10000 - (H : Int)⟩), ?_⟩) | (refine j_qe rfl rfl rfl ?_; refine ⟨_, q_index_at (i - 1) rfl rfl rfl rfl rfl (by omega), ?_⟩) | (refine j_qe rfl rfl rfl ?_; refine ⟨_, q_rowF (f := rwC) (l := Q) (i := i - 1) (off := 0) rfl rfl rfl rfl (by (repeat constructor)) (fun _ => rfl) hq0 rfl, ?_⟩) | (refine gF ?_; refine j_store rfl rfl rfl rfl rfl rfl rfl rfl (by (repeat constructor)) (by rfl) ?_) | (refine j_qe rfl rfl rfl ?_; refine ⟨_, q_field_ext rfl rfl rfl rfl rfl, ?_⟩)) | (refine gSC ?_; first | refine sc_mv rfl ?_ | refine sc_q rfl ?_ | refine sc_region ?_ | refine sc_draw rfl mixed (by kernel_rfl) ?_) | (refine gSQ ?_; first | refine sq_go rfl ?_ | refine sq_mv rfl ?_) | refine j_nil ?_ | ((first | refine j_guard rfl rfl rfl rfl rfl ?_ ?_ | refine sc_cond rfl ?_ ?_) <;> intro hc <;> (first | exact absurd hc (by decide) | ((try simp only [engHC] at hc) <;> first | (exfalso; omega) | skip))))
        all_goals
          refine sq_loop (i + 1) ?_ ?_ ?_ ?_
          · show i + 1 ≤ nq; omega
          · show nq - (i + 1) < nq - i; omega
          · rw [hmet]; exact (by (try dsimp only); exact (by repeat (first | exact FSub.nil | refine FSub.cons rfl ?_ | refine FSub.conse rfl (by congr 1; omega) ?_)))
          · exact (by repeat (first | exact LSub.refl | refine LSub.cons (by repeat (first | exact Rem.here | apply Rem.there)) ?_ | apply LSub.skip))
  · repeat' (first | (refine gJ ?_; first | refine js rfl rfl rfl rfl ?_ | (refine j_qe rfl rfl rfl ?_; refine ⟨_, q_len_slice rfl rfl rfl rfl, ?_⟩)) | (refine gSC ?_; first | refine sc_mv rfl ?_ | refine sc_q rfl ?_ | refine sc_region ?_) | (refine gSQ ?_; first | refine sq_go rfl ?_ | refine sq_mv rfl ?_ | refine sq_ende (by first | exact .inl rfl | exact .inr rfl) rfl rfl ⟨_, (RVs.cons (RV.tmp rfl) (RVs.nil)), ?_⟩) | refine j_nil ?_ | ((refine sc_cond rfl ?_ ?_) <;> intro hc <;> (((try simp only [engHC] at hc) <;> first | (exfalso; omega) | skip))))
    have : i = nq := by omega
    subst this
    rw [hnq, List.take_length, hall]
    (intro w' hS; refine ⟨?_, hS.below⟩; simp only [pack])
    exact rb (by simp)
end Go.Proofs.YtmakokbpadmfbaaGreat
