/-
  service: measure, of standards and items that are right.
-/
import Derived.Test.YtmakokbpadmfbaaGreatMe2
namespace Go.Proofs.YtmakokbpadmfbaaGreat
open Go.RowKit Eng
set_option linter.unusedVariables false
set_option linter.unusedSimpArgs false
set_option maxHeartbeats 8000000
attribute [local irreducible] SC SQ J Qt Calls Iterates LSub FSub
set_option maxRecDepth 4000 in
set_option maxHeartbeats 8000000 in
theorem measure_ok (g : Nat) (hgc : has fns g = true) (of : Sn → Lane) (hg : ∀ x w, Calls Tryz.prog g #[snV x] w fun e w' => e = .returned (lnV (of x)) ∧ Below w.heap.size w w') (A : Option Addr) (c : Nat) (l : List Sd) (B : Option Addr) (bc : Nat) (s : List Sn) (now risk : Int) (w : World) (hl : l.length ≤ 9223372036854775807)
    (h : RS w 4 sdC A l) (h2 : RS w 6 snC B s) (hok : msOk l s now risk) :
    Calls Tryz.prog 36 #[.slice A l.length c, .slice B s.length bc, .int .i64 now, .int .i64 risk, .func (.func g) #[] #[]] w fun e w' => ∃ v : Value, True ∧ e = .returned (.tuple #[v, .int .i64 (msF of l s now risk).1]) ∧ St w Cold [.own v 35 9 (msF of l s now risk).2.length ((msF of l s now risk).2.flatMap rwC)] w' := by
  have hR := fun w' h' => Right_c A c l w' hl h'
  have hm9 := (sentB_ok hok.2.1).1
  have hsok := (sentB_ok hok.2.1).2
  have hS := fun w' h' => RightSent_c B bc s w' (by omega) h'
  have hT := fun w' => isTime_c now w'
  have hJ := fun x w' (hx : okSn x) h' => judge_c A c l x now w' hl (by unfold okSn at hx; omega) h'
  rw [hok.1] at hR
  rw [hok.2.1] at hS
  rw [decide_eq_true hok.2.2.1] at hT
  have hrk := hok.2.2.2
  have hres : msF of l s now risk = if msLong of l s now = true then (3, []) else (0, msRows of l s now risk) := if_pos hok
  unfold msLong msRows at hres
  clear hok
  have hlim := fun i => lanesO_len (of := of) (s.take i)
  have hsml := fun i k => rowAt_small (of := of) (out := fun x => outF l x now) (s.take i) k
  have hnod := fun i => lanesO_nodup (of := of) (s.take i)
  have hnone := fun i k => rowAt_none (of := of) (out := fun x => outF l x now) (s := s.take i) (k := k)
  have hsn1 : ∀ (i : Nat) (x : Sn), s[i]? = some x → lanesO of (s.take (i + 1)) = lnAdd (lanesO of (s.take i)) (of x) := fun i x hx => by rw [take_snocS hx, lanesO_snoc]
  have hsn2 : ∀ (i : Nat) (x : Sn) k, s[i]? = some x → rowAt of (fun x => outF l x now) (s.take (i + 1)) k = if of x = k then cntR (rowAt of (fun x => outF l x now) (s.take i) k) (outF l x now) else rowAt of (fun x => outF l x now) (s.take i) k := fun i x k hx => by rw [take_snocS hx, rowAt_snoc]
  have hall : s.take s.length = s := List.take_length
  have htl : ∀ i, (s.take i).length ≤ i := fun i => by rw [List.length_take]; omega
  generalize hn : l.length = n at *
  generalize hm : s.length = m at *
  refine eng_start (n := 124) (args := [.slice A n c, .slice B m bc, .int .i64 now, .int .i64 risk, .func (.func g) #[] #[]]) tab tab_ok fns fns_ok [.tmp 10, .tmp 11] Tryz.func36 rfl rfl rfl rfl ?_
  repeat' (first | (refine gJ ?_; first | refine js rfl rfl rfl rfl ?_ | (refine gcall rfl rfl ?_; first | (refine j_qc (f := 44) rfl rfl rfl rfl rfl rfl rfl ?_; refine ⟨_, (fun w' hs => hR w' (h.st hs)), ?_⟩) | (refine j_qc (f := 45) rfl rfl rfl rfl rfl rfl rfl ?_; refine ⟨_, (fun w' hs => hS w' (h2.st hs)), ?_⟩) | (refine j_qc (f := 46) rfl rfl rfl rfl rfl rfl rfl ?_; refine ⟨_, (fun w' _ => hT w'), ?_⟩)) | (refine j_makeKMap lnV rfl rfl rfl rfl ?_; intro bm) | (refine j_qe rfl rfl rfl ?_; refine ⟨_, q_len_slice rfl rfl rfl rfl, ?_⟩)) | (refine gSC ?_; first | refine sc_mv rfl ?_ | refine sc_q rfl ?_ | refine sc_region ?_) | (refine gSQ ?_; refine sq_go rfl ?_) | refine j_nil ?_ | ((first | refine j_guard rfl rfl rfl rfl rfl ?_ ?_ | refine sc_cond rfl ?_ ?_) <;> intro hc <;> (first | exact absurd hc (by decide) | ((try simp only [engHC] at hc) <;> first | (exfalso; omega) | skip))))
  refine sc_own_nil_at 74 3 ?_
  refine sc_loop (ι := Nat × Value × List En) (fun i => i.1 ≤ m ∧ i.2.2.map (·.1) = lanesO of (s.take i.1) ∧ ∀ e ∈ i.2.2, e.2.2 = rowAt of (fun x => outF l x now) (s.take i.1) e.1) (fun i => m - i.1)
    (fun i => [(0, .slice A n c), (2, .int .i64 now), (3, .int .i64 risk), (4, .func (.func g) #[] #[]), (12, .map (some bm)), (13, i.2.1), (45, .slice B m bc), (46, .int .i64 m), (47, .int .i64 i.1)])
    (fun i => .own i.2.1 74 3 (i.2.2.map (·.1)).length ((i.2.2.map (·.1)).flatMap elC) :: haKMap bm lnV (mapM i.2.2) :: rowsHA i.2.2) (0, .slice none 0 0, []) ⟨Nat.zero_le _, rfl, fun e he => by cases he⟩ (by (try dsimp only); exact (by repeat (first | exact FSub.nil | refine FSub.cons rfl ?_ | refine FSub.conse rfl (by congr 1; omega) ?_))) (by repeat (first | exact LSub.refl | refine LSub.cons (by repeat (first | exact Rem.here | apply Rem.there)) ?_ | apply LSub.skip)) ?_
  rintro ⟨i, v0, E⟩ ⟨hi, hE1, hE2⟩
  dsimp only at hi hE1 hE2 ⊢
  have hEl : (E.map (·.1)).length ≤ 2000 := by rw [hE1]; have := hlim i; have := htl i; omega
  have hEn : (E.map (·.1)).Nodup := by rw [hE1]; exact hnod i
  refine sc_owns (v := v0) (by (repeat constructor)) ?_
  rintro A0 c0 rfl hs0
  by_cases hlt : i < m
  · obtain ⟨x, hx⟩ : ∃ x, s[i]? = some x := ⟨_, List.getElem?_eq_getElem (by omega)⟩
    obtain ⟨ad, rfl, hX⟩ := h2 i x hx
    have hxok := hsok x (List.mem_of_getElem? hx)
    have hgx := fun w' => hg x w'
    have e1 := hsn1 i x hx
    have e2 := fun k => hsn2 i x k hx
    have hsm := hsml i (of x)
    have htli := htl i
    by_cases hk : of x ∈ E.map (·.1)
    · -- a lane that is there
      obtain ⟨E1, e, E2, rfl, he1, he2⟩ := split_en hk
      have hadd : lnAdd (lanesO of (s.take i)) (of x) = lanesO of (s.take i) := if_pos (hE1 ▸ hk)
      rw [hadd, ← hE1] at e1
      have hlk : klk (mapM (E1 ++ e :: E2)) (of x) = some (ptrV e.2.1) := he1 ▸ klk_old (he1 ▸ he2)
      have hrow := hE2 e (by simp)
      have hmapE : mapM (E1 ++ (e.1, e.2.1, cntR e.2.2 (outF l x now)) :: E2) = mapM (E1 ++ e :: E2) := by unfold mapM; simp
      have hkeyE : (E1 ++ (e.1, e.2.1, cntR e.2.2 (outF l x now)) :: E2).map (·.1) = (E1 ++ e :: E2).map (·.1) := by simp
      have hnewE : ∀ e' ∈ E1 ++ (e.1, e.2.1, cntR e.2.2 (outF l x now)) :: E2, e'.2.2 = rowAt of (fun x => outF l x now) (s.take (i + 1)) e'.1 := fun e' he' => by
        have hn2 := hEn
        rw [List.map_append, List.map_cons, List.nodup_append, List.nodup_cons] at hn2
        obtain ⟨_, ⟨n2, _⟩, n3⟩ := hn2
        rw [e2]
        rcases List.mem_append.1 he' with h9 | h9
        · rw [if_neg (fun e9 => n3 e'.1 (List.mem_map_of_mem h9) e.1 (by simp) (by rw [he1, e9]))]
          exact hE2 e' (by simp [h9])
        · rcases List.mem_cons.1 h9 with h9 | h9
          · subst h9; dsimp only; rw [if_pos he1.symm, hrow]
          · rw [if_neg (fun e9 => n2 (by rw [he1, e9]; exact List.mem_map_of_mem h9))]
            exact hE2 e' (by simp [h9])
      have hrs : smallR e.2.2 := by rw [hrow, he1]; unfold smallR; omega
      refine sc_perm (L' := .own (.slice A0 ((E1 ++ e :: E2).map (·.1)).length c0) 74 3 ((E1 ++ e :: E2).map (·.1)).length (((E1 ++ e :: E2).map (·.1)).flatMap elC) :: haKMap bm lnV (mapM (E1 ++ e :: E2)) :: .cells e.2.1 35 (rwC e.2.2) :: rowsHA (E1 ++ E2)) (List.Perm.cons _ (List.Perm.cons _ (rows_perm E1 e E2))) ?_
      clear hlim hsml hnod hnone hsn1 hsn2 hsok hT hR hS hE2
      generalize (E1 ++ e :: E2).map (·.1) = K at *
      repeat' (first | (refine gJ ?_; first | refine js rfl rfl rfl rfl ?_ | (refine gload rfl rfl ?_; refine j_qe rfl rfl rfl ?_; first | refine ⟨_, q_loadA_own rfl rfl rfl rfl (by (repeat constructor)) (by rfl), ?_⟩ | refine ⟨_, q_loadA_ext rfl rfl rfl rfl ⟨by assumption, (by first | exact id | assumption)⟩ (by rfl), ?_⟩) | refine jar rfl rfl rfl rfl rfl rfl rfl (by omega) ?_ | (refine gcall rfl rfl ?_; (refine j_qc (f := 47) rfl rfl rfl rfl rfl rfl rfl ?_; refine ⟨_, (fun w' hs => hJ x w' hxok (h.st hs)), ?_⟩)) | (refine gcall rfl rfl ?_; refine gF ?_; refine j_call (f := 67) (ξ := Unit) (fun _ => .tuple #[]) (fun _ => True) _ rfl rfl rfl rfl rfl rfl rfl (fun w' hs => count_c hs hrs (by (repeat constructor)) (by (repeat constructor))) ?_; intro _ _) | (refine gcall rfl rfl ?_; refine j_qc (f := g) rfl rfl rfl rfl rfl rfl hgc ?_; refine ⟨_, (fun w' _ => hgx w'), ?_⟩) | (refine j_qe rfl rfl rfl ?_; refine ⟨_, q_klookup (of x) key74 rfl rfl rfl rfl rfl rfl (by (repeat constructor)) (by first | (rw [hlk]; done) | (rw [hlk]; rfl)), ?_⟩) | (refine j_qe rfl rfl rfl ?_; refine ⟨_, q_eql_nilS rfl Tryz.underlying108 rfl rfl, ?_⟩) | (refine gF ?_; first | refine j_store rfl rfl rfl rfl rfl rfl rfl rfl (by (repeat constructor)) (by rfl) ?_ | (refine j_alloc rfl rfl rfl rfl rfl ?_; intro b)) | (refine j_qe rfl rfl rfl ?_; refine ⟨_, q_index_nat rfl rfl rfl rfl rfl (by omega), ?_⟩)) | (refine gSC ?_; first | refine sc_mv rfl ?_ | refine sc_q rfl ?_ | refine sc_region ?_ | refine sc_autoR 12 (.cells e.2.1 35 (rwC e.2.2)) (.q 0 (.q 1 (.q 2 (.q 3 (.q 4 (.q 5 (.q 6 (.e 7 (.z))))))))) (by repeat (first | exact Rem.here | apply Rem.there)) mixed ?_) | (refine gJG ?_; first | refine jg_q rfl (by kernel_rfl) ?_ | refine jg_e (by kernel_rfl) rfl ?_ | refine jg_done (by kernel_rfl) ?_) | (refine gSQ ?_; first | refine jg_next ?_ | (refine gFE ?_; refine jg_nextE (by first | exact LSub.refl | (repeat (first | exact LSub.refl | refine LSub.cons (by repeat (first | exact Rem.here | apply Rem.there)) ?_ | apply LSub.skip))) ?_) | refine sq_go rfl ?_ | refine sq_mv rfl ?_) | refine j_nil ?_ | ((refine sc_cond rfl ?_ ?_) <;> intro hc <;> (first | exact absurd hc (by decide) | ((try simp only [engHC] at hc) <;> first | (exfalso; omega) | skip))))
      refine sq_loop (i + 1, .slice A0 K.length c0, E1 ++ (e.1, e.2.1, cntR e.2.2 (outF l x now)) :: E2) ⟨by show i + 1 ≤ m; omega, by dsimp only; rw [hkeyE, e1], hnewE⟩ (by show m - (i + 1) < m - i; omega) (by (try dsimp only); exact (by repeat (first | exact FSub.nil | refine FSub.cons rfl ?_ | refine FSub.conse rfl (by congr 1; omega) ?_))) ?_
      dsimp only
      rw [hkeyE, hmapE]
      exact LSub.cons (by repeat (first | exact Rem.here | apply Rem.there)) (LSub.cons (by repeat (first | exact Rem.here | apply Rem.there)) (lsub_rows (e := (e.1, e.2.1, cntR e.2.2 (outF l x now))) (by repeat (first | exact Rem.here | apply Rem.there)) (by repeat (first | exact LSub.refl | refine LSub.cons (by repeat (first | exact Rem.here | apply Rem.there)) ?_ | apply LSub.skip))))
    · -- a new lane
      have hadd : lnAdd (lanesO of (s.take i)) (of x) = lanesO of (s.take i) ++ [of x] := if_neg (fun h9 => hk (hE1 ▸ h9))
      rw [hadd, ← hE1] at e1
      have hlk : klk (mapM E) (of x) = none := klk_new hk
      have hr0 := hnone i (of x) (fun h9 => hk (hE1 ▸ h9))
      have hrs : smallR (row0 (of x)) := by unfold smallR row0; simp
      have hnewE : ∀ b9, ∀ e' ∈ E ++ [(of x, b9, cntR (row0 (of x)) (outF l x now))], e'.2.2 = rowAt of (fun x => outF l x now) (s.take (i + 1)) e'.1 := fun b9 e' he' => by
        rw [e2]
        rcases List.mem_append.1 he' with h9 | h9
        · rw [if_neg (fun e9 => hk (by rw [e9]; exact List.mem_map_of_mem h9))]
          exact hE2 e' h9
        · rw [List.mem_singleton] at h9
          subst h9
          dsimp only
          rw [if_pos rfl, hr0]
      have hlk2 : ∀ b9, klk (mapM (E ++ [(of x, b9, cntR (row0 (of x)) (outF l x now))])) (of x) = some (ptrV b9) := fun b9 => klk_old (e := (of x, b9, cntR (row0 (of x)) (outF l x now))) (E2 := []) hk
      have hset : ∀ b9, kset (mapM E) (of x) (ptrV b9) = mapM (E ++ [(of x, b9, cntR (row0 (of x)) (outF l x now))]) := fun b9 => kset_new hk
      clear hlim hsml hnod hnone hsn1 hsn2 hsok hT hR hS hE2
      have hkeyE : ∀ b9 : Nat, (E ++ [((of x, b9, cntR (row0 (of x)) (outF l x now)) : En)]).map (·.1) = E.map (·.1) ++ [of x] := fun b9 => by simp
      generalize E.map (·.1) = K at *
      repeat' (first | (refine gJ ?_; first | refine js rfl rfl rfl rfl ?_ | (refine gload rfl rfl ?_; refine j_qe rfl rfl rfl ?_; first | refine ⟨_, q_load_own rfl rfl rfl rfl (by (repeat constructor)) (by first | rfl | assumption), ?_⟩ | refine ⟨_, q_loadA_own rfl rfl rfl rfl (by (repeat constructor)) (by rfl), ?_⟩ | refine ⟨_, q_loadA_ext rfl rfl rfl rfl ⟨by assumption, (by first | exact id | assumption)⟩ (by rfl), ?_⟩) | refine jfield rfl rfl rfl rfl rfl rfl rfl rfl ?_ | refine jar rfl rfl rfl rfl rfl rfl rfl (by omega) ?_ | (refine gcall rfl rfl ?_; (refine j_qc (f := 47) rfl rfl rfl rfl rfl rfl rfl ?_; refine ⟨_, (fun w' hs => hJ x w' hxok (h.st hs)), ?_⟩)) | (refine gF ?_; refine j_box rfl rfl rfl rfl rfl ?_; intro b6) | (refine gcall rfl rfl ?_; refine j_qc (f := g) rfl rfl rfl rfl rfl rfl hgc ?_; refine ⟨_, (fun w' _ => hgx w'), ?_⟩) | (refine gcall rfl rfl ?_; refine gF ?_; refine j_call (f := 67) (ξ := Unit) (fun _ => .tuple #[]) (fun _ => True) _ rfl rfl rfl rfl rfl rfl rfl (fun w' hs => count_c (r := row0 (of x)) hs hrs (by (repeat constructor)) (by (repeat constructor))) ?_; intro _ _) | (refine j_qe rfl rfl rfl ?_; refine ⟨_, q_klookup (of x) key74 rfl rfl rfl rfl rfl rfl (by (repeat constructor)) (by first | (rw [hlk]; done) | (rw [hlk]; rfl) | (rw [hlk2]; done) | (rw [hlk2]; rfl)), ?_⟩) | (refine j_qe rfl rfl rfl ?_; refine ⟨_, q_eql_nilN rfl Tryz.underlying108 rfl rfl, ?_⟩) | (refine j_kmapUpdate (of x) key74 rfl rfl rfl rfl rfl rfl rfl rfl (by (repeat constructor)) ?_; rw [hset]) | (refine gF ?_; first | refine j_store rfl rfl rfl rfl rfl rfl rfl rfl (by (repeat constructor)) (by rfl) ?_ | (refine j_alloc rfl rfl rfl rfl rfl ?_; intro b) | (refine j_buildSlice rfl rfl rfl rfl rfl rfl rfl rfl rfl rfl rfl rfl ?_; intro b) | (refine j_append rfl rfl rfl rfl rfl rfl rfl rfl rfl rfl rfl (by (repeat constructor)) (by (repeat constructor)) (by rfl) (by rfl) (by omega) (fun _ => by (repeat constructor)) ?_; intro v)) | (refine j_qe rfl rfl rfl ?_; first | refine ⟨_, q_index_nat rfl rfl rfl rfl rfl (by omega), ?_⟩ | refine ⟨_, q_build_struct rfl rfl rfl rfl rfl, ?_⟩)) | (refine gSC ?_; first | refine sc_mv rfl ?_ | refine sc_q rfl ?_ | refine sc_region ?_ | refine sc_autoR 12 (.cells b6 35 (rwC (row0 (of x)))) (.q 0 (.q 1 (.q 2 (.q 3 (.q 4 (.q 5 (.q 6 (.e 7 (.z))))))))) (by repeat (first | exact Rem.here | apply Rem.there)) mixed ?_) | (refine gJG ?_; first | refine jg_q rfl (by kernel_rfl) ?_ | refine jg_e (by kernel_rfl) rfl ?_ | refine jg_done (by kernel_rfl) ?_) | (refine gSQ ?_; first | refine jg_next ?_ | (refine gFE ?_; refine jg_nextE (by first | exact LSub.refl | (repeat (first | exact LSub.refl | refine LSub.cons (by repeat (first | exact Rem.here | apply Rem.there)) ?_ | apply LSub.skip))) ?_) | refine sq_go rfl ?_ | refine sq_mv rfl ?_) | refine j_nil ?_ | ((refine sc_cond rfl ?_ ?_) <;> intro hc <;> (first | exact absurd hc (by decide) | ((try simp only [engHC] at hc) <;> first | (exfalso; omega) | skip))))
      refine sq_loop (i + 1, v, E ++ [(of x, b6, cntR (row0 (of x)) (outF l x now))]) ⟨by show i + 1 ≤ m; omega, by dsimp only; rw [hkeyE, e1], hnewE b6⟩ (by show m - (i + 1) < m - i; omega) (by (try dsimp only); exact (by repeat (first | exact FSub.nil | refine FSub.cons rfl ?_ | refine FSub.conse rfl (by congr 1; omega) ?_))) ?_
      dsimp only
      rw [hkeyE, show (K ++ [of x]).length = K.length + 1 by simp, List.flatMap_append]
      exact LSub.cons (by repeat (first | exact Rem.here | apply Rem.there)) (LSub.cons (by repeat (first | exact Rem.here | apply Rem.there)) (lsub_rows (E1 := E) (E2 := []) (e := (of x, b6, cntR (row0 (of x)) (outF l x now))) (by repeat (first | exact Rem.here | apply Rem.there)) (by rw [List.append_nil]; exact (by repeat (first | exact LSub.refl | refine LSub.cons (by repeat (first | exact Rem.here | apply Rem.there)) ?_ | apply LSub.skip)))))
  · have him : i = m := by omega
    subst him
    rw [hall] at hE1 hE2
    have hsml := fun k => hall ▸ hsml i k
    rw [← hE1] at hres
    clear hlim hnod hnone hsn1 hsn2 hsok hT hR hS hJ hg htl
    generalize hK : E.map (·.1) = K at *
    repeat' (first | (refine gJ ?_; first | refine js rfl rfl rfl rfl ?_ | (refine gcall rfl rfl ?_; refine gF ?_; refine j_call (f := 68) (ξ := List Lane) (fun _ => .tuple #[]) _ (fun Q => .own (.slice A0 K.length c0) 74 3 Q.length (Q.flatMap elC) :: haKMap bm lnV (mapM E) :: rowsHA E) rfl rfl rfl rfl rfl rfl rfl (fun w' hs9 => srt_c (rc := []) cmpS_ln swo_ln hs9 (by omega) InL.here (fun Q _ => Upd.here)) ?_; rintro Q ⟨hQ1, hQ2⟩) | (refine j_qe rfl rfl rfl ?_; refine ⟨_, q_len_slice rfl rfl rfl rfl, ?_⟩)) | (refine gSC ?_; first | refine sc_mv rfl ?_ | refine sc_q rfl ?_ | refine sc_region ?_) | (refine gSQ ?_; first | refine sq_go rfl ?_ | refine sq_mv rfl ?_) | refine j_nil ?_ | ((refine sc_cond rfl ?_ ?_) <;> intro hc <;> (((try simp only [engHC] at hc) <;> first | (exfalso; omega) | skip))))
    have hQ := sortL_spec hQ1 hQ2 hEn
    rw [← hQ] at hres
    have hQl : Q.length = K.length := hQ1.length_eq
    have hQm : ∀ k, k ∈ Q ↔ k ∈ K := fun k => hQ1.mem_iff
    have hQn : Q.Nodup := hQ1.nodup_iff.2 hEn
    rw [hQl]
    clear hQ hQ1 hQ2
    generalize rowAt of (fun x => outF l x now) s = ra at *
    refine sc_loop (ι := Nat) (fun j => j ≤ K.length ∧ ∀ k ∈ Q.take j, (ra k).tr ≤ 500) (fun j => K.length - j) (fun j => [(3, .int .i64 risk), (12, .map (some bm)), (13, .slice A0 K.length c0), (83, .slice A0 K.length c0), (84, .int .i64 K.length), (85, .int .i64 j)]) (fun _ => .own (.slice A0 K.length c0) 74 3 K.length (Q.flatMap elC) :: haKMap bm lnV (mapM E) :: rowsHA E) 0 ⟨Nat.zero_le _, fun k hk => by cases hk⟩ (by (try dsimp only); exact (by repeat (first | exact FSub.nil | refine FSub.cons rfl ?_ | refine FSub.conse rfl (by congr 1; omega) ?_))) (by repeat (first | exact LSub.refl | refine LSub.cons (by repeat (first | exact Rem.here | apply Rem.there)) ?_ | apply LSub.skip)) ?_
    rintro j ⟨hj, hjr⟩
    dsimp only at hj hjr ⊢
    by_cases hlj : j < K.length
    · obtain ⟨k, hk⟩ : ∃ k, Q[j]? = some k := ⟨_, List.getElem?_eq_getElem (by omega)⟩
      have hkQ := List.mem_of_getElem? hk
      have hkE : k ∈ E.map (·.1) := by rw [hK]; exact (hQm k).1 hkQ
      obtain ⟨E1, e, E2, rfl, he1, he2⟩ := split_en hkE
      have hlk : klk (mapM (E1 ++ e :: E2)) k = some (ptrV e.2.1) := he1 ▸ klk_old (he1 ▸ he2)
      have hrow : e.2.2 = ra k := by rw [← he1]; exact hE2 e (by simp)
      obtain ⟨a0, rfl⟩ : ∃ a0, A0 = some a0 := by
        cases A0 with
        | none => have := (hs0.nil rfl).1; omega
        | some a0 => exact ⟨a0, rfl⟩
      refine sc_perm (L' := .own (.slice (some a0) K.length c0) 74 3 K.length (Q.flatMap elC) :: haKMap bm lnV (mapM (E1 ++ e :: E2)) :: .cells e.2.1 35 (rwC e.2.2) :: rowsHA (E1 ++ E2)) (List.Perm.cons _ (List.Perm.cons _ (rows_perm E1 e E2))) ?_
      repeat' (first | (refine gJ ?_; first | refine js rfl rfl rfl rfl ?_ | (refine gload rfl rfl ?_; refine j_qe rfl rfl rfl ?_; first | refine ⟨_, q_load_own rfl rfl rfl rfl (by (repeat constructor)) (by first | rfl | assumption), ?_⟩ | refine ⟨_, q_loadA_own rfl rfl rfl rfl (by (repeat constructor)) (by rfl), ?_⟩) | refine jfield rfl rfl rfl rfl rfl rfl rfl rfl ?_ | refine jar rfl rfl rfl rfl rfl rfl rfl (by omega) ?_ | (refine j_qe rfl rfl rfl ?_; refine ⟨_, q_index_at j rfl rfl rfl rfl rfl (by omega), ?_⟩) | (refine j_qe rfl rfl rfl ?_; refine ⟨_, q_rowA (f := elC) (i := j) rfl rfl rfl rfl (by (repeat constructor)) (fun _ => rfl) hk rfl, ?_⟩) | (refine j_qe rfl rfl rfl ?_; refine ⟨_, q_klookup k key74 rfl rfl rfl rfl rfl rfl (by (repeat constructor)) (by first | (rw [hlk]; done) | (rw [hlk]; rfl)), ?_⟩) | (refine gF ?_; first | refine j_store rfl rfl rfl rfl rfl rfl rfl rfl (by (repeat constructor)) (by rfl) ?_ | (refine j_alloc rfl rfl rfl rfl rfl ?_; intro b))) | (refine gSC ?_; first | refine sc_mv rfl ?_ | refine sc_q rfl ?_ | refine sc_region ?_) | (refine gSQ ?_; first | refine sq_go rfl ?_ | refine sq_mv rfl ?_ | refine sq_ende (by first | exact .inl rfl | exact .inr rfl) rfl rfl ⟨_, (RVs.cons (RV.tmp rfl) (RVs.cons (RV.tmp rfl) (RVs.nil))), ?_⟩) | refine j_nil ?_ | ((refine sc_cond rfl ?_ ?_) <;> intro hc <;> (((try simp only [engHC] at hc) <;> first | (exfalso; omega) | skip))))
      · intro w' hS9
        have h9 : (Q.any fun k => decide (500 < (ra k).tr)) = true := List.any_eq_true.2 ⟨k, hkQ, decide_eq_true (by rw [← hrow]; assumption)⟩
        rw [if_pos h9] at hres
        rw [hres]
        exact ⟨_, trivial, rfl, hS9.own_nil.sub (LSub.cons (by repeat (first | exact Rem.here | apply Rem.there)) LSub.nil)⟩
      · refine sq_loop (j + 1) ⟨by show j + 1 ≤ K.length; omega, fun k' hk' => ?_⟩ (by show K.length - (j + 1) < K.length - j; omega) (by (try dsimp only); exact (by repeat (first | exact FSub.nil | refine FSub.cons rfl ?_ | refine FSub.conse rfl (by congr 1; omega) ?_))) (LSub.cons (by repeat (first | exact Rem.here | apply Rem.there)) (LSub.cons (by repeat (first | exact Rem.here | apply Rem.there)) (lsub_rows (by repeat (first | exact Rem.here | apply Rem.there)) (by repeat (first | exact LSub.refl | refine LSub.cons (by repeat (first | exact Rem.here | apply Rem.there)) ?_ | apply LSub.skip)))))
        rw [take_snocS hk] at hk'
        rcases List.mem_append.1 hk' with h9 | h9
        · exact hjr k' h9
        · rw [List.mem_singleton] at h9; subst h9; rw [← hrow]; omega
    · have hno : ∀ k ∈ Q, (ra k).tr ≤ 500 := fun k hk => hjr k (by rw [List.take_of_length_le (by omega)]; exact hk)
      have h9 : (Q.any fun k => decide (500 < (ra k).tr)) = false := by
        rw [List.any_eq_false]
        intro k hk
        have := hno k hk
        simp
        omega
      rw [if_neg (by rw [h9]; decide)] at hres
      rw [hres]
      clear hjr hres h9
      repeat' (first | (refine gJ ?_; first | refine js rfl rfl rfl rfl ?_ | (refine gF ?_; refine j_make0 rfl rfl rfl rfl rfl rfl rfl rfl rfl ⟨by omega, by omega⟩ ?_; intro b1) | (refine j_qe rfl rfl rfl ?_; refine ⟨_, q_len_slice rfl rfl rfl rfl, ?_⟩)) | (refine gSC ?_; first | refine sc_mv rfl ?_ | refine sc_q rfl ?_ | refine sc_region ?_) | (refine gSQ ?_; first | refine sq_go rfl ?_ | refine sq_mv rfl ?_) | refine j_nil ?_ | ((refine sc_cond rfl ?_ ?_) <;> intro hc <;> (((try simp only [engHC] at hc) <;> first | (exfalso; omega) | skip))))
      refine sc_loop (ι := Nat × Value × List En) (fun i => i.1 ≤ K.length ∧ i.2.2.map (·.1) = K ∧ mapM i.2.2 = mapM E ∧ ∀ e ∈ i.2.2, e.2.2 = if e.1 ∈ Q.take i.1 then bndR (ra e.1) risk else ra e.1) (fun i => K.length - i.1)
        (fun i => [(3, .int .i64 risk), (12, .map (some bm)), (13, .slice A0 K.length c0), (19, i.2.1), (100, .slice A0 K.length c0), (101, .int .i64 K.length), (102, .int .i64 i.1)])
        (fun i => .own (.slice A0 K.length c0) 74 3 K.length (Q.flatMap elC) :: haKMap bm lnV (mapM E) :: .own i.2.1 35 9 i.1 (((Q.take i.1).map fun k => bndR (ra k) risk).flatMap rwC) :: rowsHA i.2.2) (0, .slice (some ⟨b1, 0, none⟩) 0 ((K.length : Nat) : Int).toNat, E) ⟨Nat.zero_le _, hK, rfl, fun e he => by rw [hE2 e he]; exact (if_neg (by simp)).symm⟩ (by (try dsimp only); exact (by repeat (first | exact FSub.nil | refine FSub.cons rfl ?_ | refine FSub.conse rfl (by congr 1; omega) ?_))) (by repeat (first | exact LSub.refl | refine LSub.cons (by repeat (first | exact Rem.here | apply Rem.there)) ?_ | apply LSub.skip)) ?_
      clear hE2 hK
      rintro ⟨j2, vr, E'⟩ ⟨hj2, hK2, hM2, hE3⟩
      dsimp only at hj2 hK2 hM2 hE3 ⊢
      refine sc_owns (v := vr) (by (repeat constructor)) ?_
      rintro A3 c3 rfl hs3
      by_cases hl2 : j2 < K.length
      · obtain ⟨k, hk⟩ : ∃ k, Q[j2]? = some k := ⟨_, List.getElem?_eq_getElem (by omega)⟩
        have hkQ := List.mem_of_getElem? hk
        have hkE : k ∈ E'.map (·.1) := by rw [hK2]; exact (hQm k).1 hkQ
        obtain ⟨E1, e, E2, rfl, he1, he2⟩ := split_en hkE
        have hlk : klk (mapM E) k = some (ptrV e.2.1) := by rw [← hM2]; exact he1 ▸ klk_old (he1 ▸ he2)
        have htk := take_snocS hk
        have hknot : k ∉ Q.take j2 := fun hin => by
          have h1 : (Q.take (j2 + 1)).Nodup := hQn.sublist (List.take_sublist _ _)
          rw [htk, List.nodup_append] at h1
          exact h1.2.2 k hin k (by simp) rfl
        have hrow : e.2.2 = ra k := by have := hE3 e (by simp); rw [he1, if_neg hknot] at this; exact this
        have hnd2 : ((E1 ++ e :: E2).map (·.1)).Nodup := by rw [hK2]; exact hEn
        have hE4 : ∀ e' ∈ E1 ++ (e.1, e.2.1, bndR e.2.2 risk) :: E2, e'.2.2 = if e'.1 ∈ Q.take (j2 + 1) then bndR (ra e'.1) risk else ra e'.1 := fun e' he' => by
          rw [List.map_append, List.map_cons, List.nodup_append, List.nodup_cons] at hnd2
          obtain ⟨_, ⟨n2, _⟩, n3⟩ := hnd2
          rw [htk]
          have key : e'.1 ≠ k → (e'.1 ∈ Q.take j2 ++ [k] ↔ e'.1 ∈ Q.take j2) := fun hne => by rw [List.mem_append, List.mem_singleton]; exact ⟨fun h => h.resolve_right hne, .inl⟩
          rcases List.mem_append.1 he' with h9 | h9
          · have := hE3 e' (by simp [h9])
            rw [this]
            simp only [key (fun e9 => n3 e'.1 (List.mem_map_of_mem h9) e.1 (by simp) (by rw [he1, e9]))]
          · rcases List.mem_cons.1 h9 with h9 | h9
            · subst h9
              dsimp only
              rw [if_pos (by rw [he1]; simp), hrow, he1]
            · have := hE3 e' (by simp [h9])
              rw [this]
              simp only [key (fun e9 => n2 (by rw [he1, ← e9]; exact List.mem_map_of_mem h9))]
        obtain ⟨a0, rfl⟩ : ∃ a0, A0 = some a0 := by
          cases A0 with
          | none => have := (hs0.nil rfl).1; omega
          | some a0 => exact ⟨a0, rfl⟩
        have hrb : 0 ≤ e.2.2.kp ∧ e.2.2.kp ≤ e.2.2.tr ∧ e.2.2.tr ≤ 500 := by
          have h1 := hsml k
          have h2 := hno k hkQ
          rw [hrow]
          exact ⟨h1.1, h1.2.1, h2⟩
        have hrw : ((Q.take (j2 + 1)).map fun k => bndR (ra k) risk).flatMap rwC = ((Q.take j2).map fun k => bndR (ra k) risk).flatMap rwC ++ rwC (bndR e.2.2 risk) := by rw [htk, hrow]; simp
        refine sc_perm (L' := .own (.slice (some a0) K.length c0) 74 3 K.length (Q.flatMap elC) :: haKMap bm lnV (mapM E) :: .own (.slice A3 j2 c3) 35 9 j2 (((Q.take j2).map fun k => bndR (ra k) risk).flatMap rwC) :: .cells e.2.1 35 (rwC e.2.2) :: rowsHA (E1 ++ E2)) (List.Perm.cons _ (List.Perm.cons _ (List.Perm.cons _ (rows_perm E1 e E2)))) ?_
        clear hsml hno
        repeat' (first | (refine gJ ?_; first | refine js rfl rfl rfl rfl ?_ | (refine gload rfl rfl ?_; refine j_qe rfl rfl rfl ?_; refine ⟨_, q_loadA_own rfl rfl rfl rfl (by (repeat constructor)) (by rfl), ?_⟩) | refine jar rfl rfl rfl rfl rfl rfl rfl (by omega) ?_ | (refine gcall rfl rfl ?_; refine gF ?_; refine j_call (f := 70) (ξ := Unit) (fun _ => .int .i64 0) (fun _ => True) _ rfl rfl rfl rfl rfl rfl rfl (fun w' hs => bound_c (r := e.2.2) hs hrb hrk (by (repeat constructor)) (by (repeat constructor))) ?_; intro _ _) | (refine j_qe rfl rfl rfl ?_; refine ⟨_, q_index_at j2 rfl rfl rfl rfl rfl (by omega), ?_⟩) | (refine j_qe rfl rfl rfl ?_; refine ⟨_, q_rowA (f := elC) (i := j2) rfl rfl rfl rfl (by (repeat constructor)) (fun _ => rfl) hk rfl, ?_⟩) | (refine j_qe rfl rfl rfl ?_; refine ⟨_, q_klookup k key74 rfl rfl rfl rfl rfl rfl (by (repeat constructor)) (by first | (rw [hlk]; done) | (rw [hlk]; rfl)), ?_⟩) | (refine gF ?_; first | refine j_store rfl rfl rfl rfl rfl rfl rfl rfl (by (repeat constructor)) (by rfl) ?_ | (refine j_alloc rfl rfl rfl rfl rfl ?_; intro b) | (refine j_buildSlice rfl rfl rfl rfl rfl rfl rfl rfl rfl rfl rfl rfl ?_; intro b) | (refine j_append rfl rfl rfl rfl rfl rfl rfl rfl rfl rfl rfl (by (repeat constructor)) (by (repeat constructor)) (by rfl) (by rfl) (by omega) (fun _ => by (repeat constructor)) ?_; intro v))) | (refine gSC ?_; first | refine sc_mv rfl ?_ | refine sc_q rfl ?_ | refine sc_region ?_) | (refine gSQ ?_; first | refine sq_go rfl ?_ | refine sq_mv rfl ?_) | refine j_nil ?_ | ((refine sc_cond rfl ?_ ?_) <;> intro hc <;> (first | exact absurd hc (by decide) | ((try simp only [engHC] at hc) <;> first | (exfalso; omega) | skip))))
        refine sq_loop (j2 + 1, v, E1 ++ (e.1, e.2.1, bndR e.2.2 risk) :: E2) ⟨by show j2 + 1 ≤ K.length; omega, by rw [← hK2]; simp, by rw [← hM2]; unfold mapM; simp, hE4⟩ (by show K.length - (j2 + 1) < K.length - j2; omega) (by (try dsimp only); exact (by repeat (first | exact FSub.nil | refine FSub.cons rfl ?_ | refine FSub.conse rfl (by congr 1; omega) ?_))) ?_
        dsimp only
        rw [hrw]
        exact LSub.cons (by repeat (first | exact Rem.here | apply Rem.there)) (LSub.cons (by repeat (first | exact Rem.here | apply Rem.there)) (LSub.cons (by repeat (first | exact Rem.here | apply Rem.there)) (lsub_rows (e := (e.1, e.2.1, bndR e.2.2 risk)) (by repeat (first | exact Rem.here | apply Rem.there)) (by repeat (first | exact LSub.refl | refine LSub.cons (by repeat (first | exact Rem.here | apply Rem.there)) ?_ | apply LSub.skip)))))
      · repeat' (first | (refine gJ ?_; refine js rfl rfl rfl rfl ?_) | (refine gSC ?_; first | refine sc_mv rfl ?_ | refine sc_q rfl ?_ | refine sc_region ?_) | (refine gSQ ?_; first | refine sq_go rfl ?_ | refine sq_mv rfl ?_ | refine sq_ende (by first | exact .inl rfl | exact .inr rfl) rfl rfl ⟨_, (RVs.cons (RV.tmp rfl) (RVs.cons (RV.tmp rfl) (RVs.nil))), ?_⟩) | refine j_nil ?_ | ((refine sc_cond rfl ?_ ?_) <;> intro hc <;> (((try simp only [engHC] at hc) <;> first | (exfalso; omega) | skip))))
        intro w' hS9
        refine ⟨_, trivial, rfl, ?_⟩
        have e9 : j2 = Q.length := by omega
        subst e9
        rw [List.take_length] at hS9
        rw [List.length_map]
        exact hS9.sub (LSub.cons (by repeat (first | exact Rem.here | apply Rem.there)) LSub.nil)
end Go.Proofs.YtmakokbpadmfbaaGreat
