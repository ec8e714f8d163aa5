/-
  shift.Check.
-/
import Derived.Test.YthbchbiadcjnkaaSj4
namespace Go.Proofs.Ythbchbiadcjnkaa
open Go.RowKit Eng
set_option linter.unusedVariables false
set_option linter.unusedSimpArgs false
set_option maxHeartbeats 8000000
attribute [local irreducible] SC SQ J Qt Calls Iterates LSub FSub
theorem befE_succ {l : List Pc} {i : Nat} {p : Pc} (h : l[i]? = some p) : befE l (i + 1) = p.to := by
  unfold befE
  rw [if_neg (by omega), Nat.add_sub_cancel, h]
theorem okIx_none {jobs : List Jb} {shifts : List Sf} {l : List Pc} {i : Nat} {p : Pc} (hp : l[i]? = some p) (h : (jobs.find? fun x => decide (x.idn = p.jb)) = none) : okIx jobs shifts l i = false := by
  unfold okIx
  rw [hp]
  apply decide_eq_false
  rintro ⟨x, hx, e, _⟩
  rw [List.find?_eq_none] at h
  have := h x hx
  rw [decide_eq_true_eq] at this
  exact this e
theorem okIx_some {jobs : List Jb} {shifts : List Sf} {l : List Pc} {i : Nat} {p : Pc} {x : Jb} (hu : uniq jobs) (hp : l[i]? = some p) (h : (jobs.find? fun x => decide (x.idn = p.jb)) = some x) :
    okIx jobs shifts l i = decide (x.rel ≤ p.frm ∧ befE l i ≤ p.frm ∧ p.frm < p.to ∧ withinB shifts p = true ∧ tot (l.take (i + 1)) p.jb ≤ x.mn) := by
  unfold okIx
  rw [hp]
  apply decide_eq_decide.2
  have h1 := List.mem_of_find?_eq_some h
  have h2 := List.find?_some h
  rw [decide_eq_true_eq] at h2
  constructor
  · rintro ⟨y, hy, e, g⟩
    have : y = x := uniq_eq hu hy h1 (by rw [e, h2])
    subst this
    exact g
  · intro g
    exact ⟨x, h1, h2, g⟩
theorem ckG_step (jobs : List Jb) (shifts : List Sf) (l : List Pc) (n i : Nat) : ckG jobs shifts l (n + 1) i = if okIx jobs shifts l i = true then ckG jobs shifts l n (i + 1) else ((i : Int), 302) := rfl
def jbZ : Jb := ⟨0, 0, 0, 0⟩
set_option maxRecDepth 8000 in
set_option maxHeartbeats 16000000 in
theorem Check_c (A : Option Addr) (c : Nat) (jobs : List Jb) (B : Option Addr) (d : Nat) (shifts : List Sf) (D : Option Addr) (f : Nat) (l : List Pc) (w : World) (hl : jobs.length ≤ 9223372036854775807) (hl2 : shifts.length ≤ 9223372036854775807) (hl3 : l.length ≤ 9223372036854775807) (h : RS w 4 jbC A jobs) (h2 : RS w 2 sfC B shifts) (h3 : RS w 3 pcC D l) :
    Calls Try.prog 14 #[.slice A jobs.length c, .slice B shifts.length d, .slice D l.length f] w fun e w' => e = .returned (.tuple #[.int .i64 (ckF jobs shifts l).1, .int .i64 (ckF jobs shifts l).2]) ∧ Below w.heap.size w w' := by
  have hall := fun w' h h2 => allowed_c A c jobs B d shifts w' hl hl2 h h2
  by_cases hbig : 1000 < l.length
  · have e : ckF jobs shifts l = (0, 5) := if_pos hbig
    rw [e]
    generalize jobs.length = n at *
    generalize shifts.length = m at *
    generalize l.length = q at *
    refine eng_start (n := 113) (args := [.slice A n c, .slice B m d, .slice D q f]) tab tab_ok fns fns_ok [.tmp 6, .tmp 7] Try.func14 rfl rfl rfl rfl ?_
    repeat' (first | (refine gJ ?_; first | refine js rfl rfl rfl rfl ?_ | (refine gload rfl rfl ?_; refine j_qe rfl rfl rfl ?_; first | refine ⟨_, q_load_own rfl rfl rfl rfl (by (repeat constructor)) (by first | rfl | assumption), ?_⟩ | refine ⟨_, q_loadA_own rfl rfl rfl rfl (by (repeat constructor)) (by rfl), ?_⟩ | refine ⟨_, q_loadA_ext rfl rfl rfl rfl ⟨by assumption, (by first | exact id | assumption)⟩ (by rfl), ?_⟩ | refine ⟨_, q_load_ext rfl rfl rfl rfl ⟨by assumption, (by first | exact id | assumption)⟩ (by first | rfl | assumption), ?_⟩ | refine ⟨_, q_load_extb rfl rfl rfl rfl ⟨by assumption, (by first | exact id | assumption)⟩ (by rfl), ?_⟩ | refine ⟨_, q_loadA_extb rfl rfl rfl rfl ⟨by assumption, (by first | exact id | assumption)⟩ (by rfl), ?_⟩ | refine ⟨_, q_load_ext0 rfl rfl rfl rfl ⟨by assumption, (by first | exact id | assumption)⟩ (by rfl), ?_⟩) | refine jfield rfl rfl rfl rfl rfl rfl rfl rfl ?_ | refine jar rfl rfl rfl rfl rfl rfl rfl (by omega) ?_ | (refine gF ?_; first | refine j_store rfl rfl rfl rfl rfl rfl rfl rfl (by (repeat constructor)) (by rfl) ?_ | (refine j_alloc rfl rfl rfl rfl rfl ?_; intro b)) | (refine j_qe rfl rfl rfl ?_; first | refine ⟨_, q_index_nat rfl rfl rfl rfl rfl (by omega), ?_⟩ | refine ⟨_, q_index_slice rfl rfl rfl rfl rfl (by omega), ?_⟩ | refine ⟨_, q_index_arr rfl rfl rfl rfl rfl (by omega), ?_⟩ | refine ⟨_, q_index_arr_ext rfl rfl rfl rfl rfl (by omega), ?_⟩ | refine ⟨_, q_len_slice rfl rfl rfl rfl, ?_⟩ | refine ⟨_, q_field_ext rfl rfl rfl rfl rfl, ?_⟩ | refine ⟨_, q_addu8 rfl rfl rfl (by omega), ?_⟩) | refine j_guard_undef rfl rfl rfl rfl rfl ?_) | (refine gSC ?_; first | refine sc_mv rfl ?_ | refine sc_q rfl ?_ | refine sc_region ?_) | (refine gSQ ?_; first | refine sq_go rfl ?_ | refine sq_mv rfl ?_ | refine sq_ende (by first | exact .inl rfl | exact .inr rfl) rfl rfl ⟨_, (RVs.cons (RV.tmp rfl) (RVs.cons (RV.tmp rfl) (RVs.nil))), ?_⟩) | refine j_nil ?_ | ((first | refine j_guard rfl rfl rfl rfl rfl ?_ ?_ | refine sc_cond rfl ?_ ?_) <;> intro hc <;> (first | exact absurd hc (by decide) | ((try simp only [engHC] at hc) <;> first | (exfalso; omega) | exact absurd trivial hc | skip))))
    (intro w' hS; refine ⟨?_, hS.below⟩; simp only [pack])
  by_cases hok : (allF jobs shifts).2 = 0
  · obtain ⟨q1, q2, q3, q4, q5, q6⟩ := allF_ok hok
    have e : ckF jobs shifts l = ckG jobs shifts l l.length 0 := by unfold ckF; rw [if_neg hbig, if_neg (fun h => h hok)]
    rw [e]
    rw [hok] at hall
    generalize (allF jobs shifts).1 = a1 at *
    clear e hok
    have hwi := fun p w' h => within_c p B d shifts w' (by omega) h
    have hkf := fun k x hx e => kn_find (l := jobs) q4 (k := k) (x := x) hx e
    obtain ⟨n, hn⟩ : ∃ n, n = jobs.length := ⟨_, rfl⟩
    obtain ⟨m, hm⟩ : ∃ n, n = shifts.length := ⟨_, rfl⟩
    obtain ⟨q, hq⟩ : ∃ n, n = l.length := ⟨_, rfl⟩
    rw [← hn] at hall q1
    rw [← hm] at hall hwi q2
    rw [← hq] at hbig
    rw [← hn, ← hm, ← hq]
    refine eng_start (n := 113) (args := [.slice A n c, .slice B m d, .slice D q f]) tab tab_ok fns fns_ok [.tmp 6, .tmp 7] Try.func14 rfl rfl rfl rfl ?_
    repeat' (first | (refine gJ ?_; first | refine js rfl rfl rfl rfl ?_ | (refine gload rfl rfl ?_; refine j_qe rfl rfl rfl ?_; first | refine ⟨_, q_load_own rfl rfl rfl rfl (by (repeat constructor)) (by first | rfl | assumption), ?_⟩ | refine ⟨_, q_loadA_own rfl rfl rfl rfl (by (repeat constructor)) (by rfl), ?_⟩ | refine ⟨_, q_loadA_ext rfl rfl rfl rfl ⟨by assumption, (by first | exact id | assumption)⟩ (by rfl), ?_⟩ | refine ⟨_, q_load_ext rfl rfl rfl rfl ⟨by assumption, (by first | exact id | assumption)⟩ (by first | rfl | assumption), ?_⟩ | refine ⟨_, q_load_extb rfl rfl rfl rfl ⟨by assumption, (by first | exact id | assumption)⟩ (by rfl), ?_⟩ | refine ⟨_, q_loadA_extb rfl rfl rfl rfl ⟨by assumption, (by first | exact id | assumption)⟩ (by rfl), ?_⟩ | refine ⟨_, q_load_ext0 rfl rfl rfl rfl ⟨by assumption, (by first | exact id | assumption)⟩ (by rfl), ?_⟩) | refine jfield rfl rfl rfl rfl rfl rfl rfl rfl ?_ | refine jar rfl rfl rfl rfl rfl rfl rfl (by omega) ?_ | (refine gcall rfl rfl ?_; first | (refine j_qc (f := 23) rfl rfl rfl rfl rfl rfl rfl ?_; refine ⟨_, (fun w' hs => hall w' (h.st hs) (h2.st hs)), ?_⟩)) | (refine gF ?_; refine j_makeMapN .i64 rfl rfl rfl rfl rfl rfl rfl ?_; intro bk) | (refine gF ?_; first | refine j_store rfl rfl rfl rfl rfl rfl rfl rfl (by (repeat constructor)) (by rfl) ?_ | (refine j_alloc rfl rfl rfl rfl rfl ?_; intro b)) | (refine j_qe rfl rfl rfl ?_; first | refine ⟨_, q_index_nat rfl rfl rfl rfl rfl (by omega), ?_⟩ | refine ⟨_, q_index_slice rfl rfl rfl rfl rfl (by omega), ?_⟩ | refine ⟨_, q_index_arr rfl rfl rfl rfl rfl (by omega), ?_⟩ | refine ⟨_, q_index_arr_ext rfl rfl rfl rfl rfl (by omega), ?_⟩ | refine ⟨_, q_len_slice rfl rfl rfl rfl, ?_⟩ | refine ⟨_, q_field_ext rfl rfl rfl rfl rfl, ?_⟩ | refine ⟨_, q_addu8 rfl rfl rfl (by omega), ?_⟩) | refine j_guard_undef rfl rfl rfl rfl rfl ?_) | (refine gSC ?_; first | refine sc_mv rfl ?_ | refine sc_q rfl ?_ | refine sc_region ?_) | (refine gSQ ?_; first | refine sq_go rfl ?_ | refine sq_mv rfl ?_ | refine sq_ende (by first | exact .inl rfl | exact .inr rfl) rfl rfl ⟨_, (RVs.cons (RV.tmp rfl) (RVs.cons (RV.tmp rfl) (RVs.nil))), ?_⟩) | refine j_nil ?_ | ((first | refine j_guard rfl rfl rfl rfl rfl ?_ ?_ | refine sc_cond rfl ?_ ?_) <;> intro hc <;> (first | exact absurd hc (by decide) | ((try simp only [engHC] at hc) <;> first | (exfalso; omega) | exact absurd trivial hc | skip))))
    refine sc_loop (ι := Nat × List (Int × Value)) (fun i => i.1 ≤ n ∧ knI (jobs.take i.1) i.2) (fun i => n - i.1) (fun i => [(0, .slice A n c), (1, .slice B m d), (2, .slice D q f), (10, .map (some bk)), (35, .slice A n c), (36, .int .i64 n), (37, .int .i64 i.1)]) (fun i => [haMap bk .i64 i.2]) (0, []) ⟨by omega, knI_nil⟩ (by (try dsimp only); exact (by repeat (first | exact FSub.nil | refine FSub.cons rfl ?_ | refine FSub.conse rfl (by congr 1; omega) ?_))) (by repeat (first | exact LSub.refl | refine LSub.cons (by repeat (first | exact Rem.here | apply Rem.there)) ?_ | apply LSub.skip)) ?_
    rintro ⟨k, M⟩ ⟨hk, hkn⟩
    dsimp only at hk hkn ⊢
    by_cases hlt : k < n
    · obtain ⟨x, hx⟩ : ∃ x, jobs[k]? = some x := ⟨_, List.getElem?_eq_getElem (by omega)⟩
      obtain ⟨ad, rfl, hX⟩ := h k x hx
      have hkn2 := knI_snoc hkn (x := x) (fun y hy e => by
        obtain ⟨j, hj⟩ := List.getElem?_of_mem hy
        have hjk : j < k := by have := (List.getElem?_eq_some_iff.1 hj).1; rw [List.length_take] at this; omega
        rw [List.getElem?_take, if_pos hjk] at hj
        obtain ⟨g1, e1⟩ := List.getElem?_eq_some_iff.1 hj
        obtain ⟨g2, e2⟩ := List.getElem?_eq_some_iff.1 hx
        exact List.pairwise_iff_getElem.1 q4 j k g1 g2 hjk (by rw [e1, e2, e]))
      rw [← take_snocS hx] at hkn2
      clear hall hwi hkf
      repeat' (first | (refine gJ ?_; first | refine js rfl rfl rfl rfl ?_ | (refine gload rfl rfl ?_; refine j_qe rfl rfl rfl ?_; first | refine ⟨_, q_load_own rfl rfl rfl rfl (by (repeat constructor)) (by first | rfl | assumption), ?_⟩ | refine ⟨_, q_loadA_own rfl rfl rfl rfl (by (repeat constructor)) (by rfl), ?_⟩ | refine ⟨_, q_loadA_ext rfl rfl rfl rfl ⟨by assumption, (by first | exact id | assumption)⟩ (by rfl), ?_⟩ | refine ⟨_, q_load_ext rfl rfl rfl rfl ⟨by assumption, (by first | exact id | assumption)⟩ (by first | rfl | assumption), ?_⟩ | refine ⟨_, q_load_extb rfl rfl rfl rfl ⟨by assumption, (by first | exact id | assumption)⟩ (by rfl), ?_⟩ | refine ⟨_, q_loadA_extb rfl rfl rfl rfl ⟨by assumption, (by first | exact id | assumption)⟩ (by rfl), ?_⟩ | refine ⟨_, q_load_ext0 rfl rfl rfl rfl ⟨by assumption, (by first | exact id | assumption)⟩ (by rfl), ?_⟩) | refine jfield rfl rfl rfl rfl rfl rfl rfl rfl ?_ | refine jar rfl rfl rfl rfl rfl rfl rfl (by omega) ?_ | (refine gF ?_; refine j_alloc (t := 45) rfl rfl rfl rfl rfl ?_; intro b6) | (refine gF ?_; refine j_mapUpdate (v := jbV x) rfl rfl rfl rfl rfl rfl rfl rfl rfl rfl (by (repeat constructor)) ?_) | (refine gF ?_; first | refine j_store rfl rfl rfl rfl rfl rfl rfl rfl (by (repeat constructor)) (by rfl) ?_ | (refine j_alloc rfl rfl rfl rfl rfl ?_; intro b)) | (refine j_qe rfl rfl rfl ?_; first | refine ⟨_, q_index_nat rfl rfl rfl rfl rfl (by omega), ?_⟩ | refine ⟨_, q_index_slice rfl rfl rfl rfl rfl (by omega), ?_⟩ | refine ⟨_, q_index_arr rfl rfl rfl rfl rfl (by omega), ?_⟩ | refine ⟨_, q_index_arr_ext rfl rfl rfl rfl rfl (by omega), ?_⟩ | refine ⟨_, q_len_slice rfl rfl rfl rfl, ?_⟩ | refine ⟨_, q_field_ext rfl rfl rfl rfl rfl, ?_⟩ | refine ⟨_, q_addu8 rfl rfl rfl (by omega), ?_⟩) | refine j_guard_undef rfl rfl rfl rfl rfl ?_) | (refine gSC ?_; first | refine sc_mv rfl ?_ | refine sc_q rfl ?_ | refine sc_region ?_) | (refine gSQ ?_; first | refine sq_go rfl ?_ | refine sq_mv rfl ?_ | refine sq_ende (by first | exact .inl rfl | exact .inr rfl) rfl rfl ⟨_, (RVs.cons (RV.tmp rfl) (RVs.cons (RV.tmp rfl) (RVs.nil))), ?_⟩) | refine j_nil ?_ | ((first | refine j_guard rfl rfl rfl rfl rfl ?_ ?_ | refine sc_cond rfl ?_ ?_) <;> intro hc <;> (first | exact absurd hc (by decide) | ((try simp only [engHC] at hc) <;> first | (exfalso; omega) | exact absurd trivial hc | skip))))
      all_goals
        refine sq_loop (k + 1, mset M x.idn (jbV x)) ⟨?_, hkn2⟩ ?_ ?_ ?_
        · show k + 1 ≤ n; omega
        · show n - (k + 1) < n - k; omega
        · exact (by (try dsimp only); exact (by repeat (first | exact FSub.nil | refine FSub.cons rfl ?_ | refine FSub.conse rfl (by congr 1; omega) ?_)))
        · exact (by repeat (first | exact LSub.refl | refine LSub.cons (by repeat (first | exact Rem.here | apply Rem.there)) ?_ | apply LSub.skip))
    rw [List.take_of_length_le (by omega)] at hkn
    obtain rfl : k = n := by omega
    repeat' (first | (refine gJ ?_; first | refine js rfl rfl rfl rfl ?_ | (refine gload rfl rfl ?_; refine j_qe rfl rfl rfl ?_; first | refine ⟨_, q_load_own rfl rfl rfl rfl (by (repeat constructor)) (by first | rfl | assumption), ?_⟩ | refine ⟨_, q_loadA_own rfl rfl rfl rfl (by (repeat constructor)) (by rfl), ?_⟩ | refine ⟨_, q_loadA_ext rfl rfl rfl rfl ⟨by assumption, (by first | exact id | assumption)⟩ (by rfl), ?_⟩ | refine ⟨_, q_load_ext rfl rfl rfl rfl ⟨by assumption, (by first | exact id | assumption)⟩ (by first | rfl | assumption), ?_⟩ | refine ⟨_, q_load_extb rfl rfl rfl rfl ⟨by assumption, (by first | exact id | assumption)⟩ (by rfl), ?_⟩ | refine ⟨_, q_loadA_extb rfl rfl rfl rfl ⟨by assumption, (by first | exact id | assumption)⟩ (by rfl), ?_⟩ | refine ⟨_, q_load_ext0 rfl rfl rfl rfl ⟨by assumption, (by first | exact id | assumption)⟩ (by rfl), ?_⟩) | refine jfield rfl rfl rfl rfl rfl rfl rfl rfl ?_ | refine jar rfl rfl rfl rfl rfl rfl rfl (by omega) ?_ | (refine gF ?_; refine j_makeMapN .i64 rfl rfl rfl rfl rfl rfl rfl ?_; intro br) | (refine gF ?_; first | refine j_store rfl rfl rfl rfl rfl rfl rfl rfl (by (repeat constructor)) (by rfl) ?_ | (refine j_alloc rfl rfl rfl rfl rfl ?_; intro b)) | (refine j_qe rfl rfl rfl ?_; first | refine ⟨_, q_index_nat rfl rfl rfl rfl rfl (by omega), ?_⟩ | refine ⟨_, q_index_slice rfl rfl rfl rfl rfl (by omega), ?_⟩ | refine ⟨_, q_index_arr rfl rfl rfl rfl rfl (by omega), ?_⟩ | refine ⟨_, q_index_arr_ext rfl rfl rfl rfl rfl (by omega), ?_⟩ | refine ⟨_, q_len_slice rfl rfl rfl rfl, ?_⟩ | refine ⟨_, q_field_ext rfl rfl rfl rfl rfl, ?_⟩ | refine ⟨_, q_addu8 rfl rfl rfl (by omega), ?_⟩) | refine j_guard_undef rfl rfl rfl rfl rfl ?_) | (refine gSC ?_; first | refine sc_mv rfl ?_ | refine sc_q rfl ?_ | refine sc_region ?_) | (refine gSQ ?_; first | refine sq_go rfl ?_ | refine sq_mv rfl ?_ | refine sq_ende (by first | exact .inl rfl | exact .inr rfl) rfl rfl ⟨_, (RVs.cons (RV.tmp rfl) (RVs.cons (RV.tmp rfl) (RVs.nil))), ?_⟩) | refine j_nil ?_ | ((first | refine j_guard rfl rfl rfl rfl rfl ?_ ?_ | refine sc_cond rfl ?_ ?_) <;> intro hc <;> (first | exact absurd hc (by decide) | ((try simp only [engHC] at hc) <;> first | (exfalso; omega) | exact absurd trivial hc | skip))))
    refine sc_loop (ι := Nat × List (Int × Value)) (fun i => i.1 ≤ q ∧ rnI (l.take i.1) i.2 ∧ ckG jobs shifts l q 0 = ckG jobs shifts l (q - i.1) i.1 ∧ (∀ j, 0 ≤ tot (l.take i.1) j ∧ tot (l.take i.1) j ≤ 100000) ∧ 0 ≤ befE l i.1) (fun i => q - i.1) (fun i => [(1, .slice B m d), (10, .map (some bk)), (13, .map (some br)), (14, .int .i64 (befE l i.1)), (49, .slice D q f), (50, .int .i64 q), (51, .int .i64 i.1)]) (fun i => [haMap bk .i64 M, haMap br .i64 i.2]) (0, []) ⟨by omega, rnI_nil, rfl, fun j => ⟨Int.le_refl _, by show (0 : Int) ≤ 100000; omega⟩, Int.le_refl _⟩ (by (try dsimp only); exact (by repeat (first | exact FSub.nil | refine FSub.cons rfl ?_ | refine FSub.conse rfl (by congr 1; omega) ?_))) (by repeat (first | exact LSub.refl | refine LSub.cons (by repeat (first | exact Rem.here | apply Rem.there)) ?_ | apply LSub.skip)) ?_
    rintro ⟨i, R⟩ ⟨hi, hrn, hck, htb, hbe⟩
    dsimp only at hi hrn hck htb hbe ⊢
    by_cases hlt2 : i < q
    · obtain ⟨p, hp⟩ : ∃ x, l[i]? = some x := ⟨_, List.getElem?_eq_getElem (by omega)⟩
      obtain ⟨ad, rfl, hP⟩ := h3 i p hp
      rw [show q - i = (q - (i + 1)) + 1 from by omega, ckG_step] at hck
      have hkp := hkn p.jb
      have hbs := befE_succ hp
      have htb9 := htb p.jb
      have hget := rnI_get hrn p.jb
      have hsn := rnI_snoc (p := p) hrn
      have hts := fun k => tot_snoc (l.take i) p k
      rw [← take_snocS hp] at hsn hts
      have hwi9 := fun w' h => hwi p w' h
      cases hf : jobs.find? fun x => decide (x.idn = p.jb) with
      | none =>
        rw [hf] at hkp
        have hkp : mlk M p.jb = none := hkp
        rw [okIx_none hp hf, if_neg (by decide)] at hck
        rw [hck]
        clear hall hwi hkf hkn hrn hget hsn hts htb
        repeat' (first | (refine gJ ?_; first | refine js rfl rfl rfl rfl ?_ | (refine gload rfl rfl ?_; refine j_qe rfl rfl rfl ?_; first | refine ⟨_, q_load_own rfl rfl rfl rfl (by (repeat constructor)) (by first | rfl | assumption), ?_⟩ | refine ⟨_, q_loadA_own rfl rfl rfl rfl (by (repeat constructor)) (by rfl), ?_⟩ | refine ⟨_, q_loadA_ext rfl rfl rfl rfl ⟨by assumption, (by first | exact id | assumption)⟩ (by rfl), ?_⟩ | refine ⟨_, q_load_ext rfl rfl rfl rfl ⟨by assumption, (by first | exact id | assumption)⟩ (by first | rfl | assumption), ?_⟩ | refine ⟨_, q_load_extb rfl rfl rfl rfl ⟨by assumption, (by first | exact id | assumption)⟩ (by rfl), ?_⟩ | refine ⟨_, q_loadA_extb rfl rfl rfl rfl ⟨by assumption, (by first | exact id | assumption)⟩ (by rfl), ?_⟩ | refine ⟨_, q_load_ext0 rfl rfl rfl rfl ⟨by assumption, (by first | exact id | assumption)⟩ (by rfl), ?_⟩) | refine jfield rfl rfl rfl rfl rfl rfl rfl rfl ?_ | refine jar rfl rfl rfl rfl rfl rfl rfl (by omega) ?_ | (refine j_qe rfl rfl rfl ?_; refine ⟨_, q_lookup_ok (v := jbV jbZ) (r := false) rfl rfl rfl rfl rfl rfl rfl rfl (by (repeat constructor)) (by first | (rw [hkp]; done) | (rw [hkp]; rfl)) (by first | (rw [hkp]; done) | (rw [hkp]; rfl)), ?_⟩) | (refine gF ?_; refine j_alloc (t := 51) rfl rfl rfl rfl rfl ?_; intro b6) | (refine gF ?_; refine j_alloc (t := 45) rfl rfl rfl rfl rfl ?_; intro b7) | (refine gF ?_; first | refine j_store rfl rfl rfl rfl rfl rfl rfl rfl (by (repeat constructor)) (by rfl) ?_ | (refine j_alloc rfl rfl rfl rfl rfl ?_; intro b)) | (refine j_qe rfl rfl rfl ?_; first | refine ⟨_, q_index_nat rfl rfl rfl rfl rfl (by omega), ?_⟩ | refine ⟨_, q_index_slice rfl rfl rfl rfl rfl (by omega), ?_⟩ | refine ⟨_, q_index_arr rfl rfl rfl rfl rfl (by omega), ?_⟩ | refine ⟨_, q_index_arr_ext rfl rfl rfl rfl rfl (by omega), ?_⟩ | refine ⟨_, q_len_slice rfl rfl rfl rfl, ?_⟩ | refine ⟨_, q_field_ext rfl rfl rfl rfl rfl, ?_⟩ | refine ⟨_, q_addu8 rfl rfl rfl (by omega), ?_⟩) | refine j_guard_undef rfl rfl rfl rfl rfl ?_) | (refine gSC ?_; first | refine sc_mv rfl ?_ | refine sc_q rfl ?_ | refine sc_region ?_) | (refine gSQ ?_; first | refine sq_go rfl ?_ | refine sq_mv rfl ?_ | refine sq_ende (by first | exact .inl rfl | exact .inr rfl) rfl rfl ⟨_, (RVs.cons (RV.tmp rfl) (RVs.cons (RV.tmp rfl) (RVs.nil))), ?_⟩) | refine j_nil ?_ | ((first | refine j_guard rfl rfl rfl rfl rfl ?_ ?_ | refine sc_cond rfl ?_ ?_) <;> intro hc <;> (first | exact absurd hc (by decide) | ((try simp only [engHC] at hc) <;> first | (exfalso; omega) | exact absurd trivial hc | skip))))
        all_goals first
          | (exfalso; omega)
          | (intro w' hS; refine ⟨?_, hS.below⟩; simp only [pack])
      | some x =>
        rw [hf] at hkp
        have hkp : mlk M p.jb = some (jbV x) := hkp
        have hxm := List.mem_of_find?_eq_some hf
        have hxe := List.find?_some hf
        rw [decide_eq_true_eq] at hxe
        have hxo := q3 x hxm
        unfold okJ at hxo
        rw [okIx_some q4 hp hf] at hck
        by_cases hc : x.rel ≤ p.frm ∧ befE l i ≤ p.frm ∧ p.frm < p.to ∧ withinB shifts p = true
        · obtain ⟨c1, c2, c3, c4⟩ := hc
          have hpt : p.to ≤ 1051898399 := by
            unfold withinB at c4
            obtain ⟨s, hs, hd⟩ := List.any_eq_true.1 c4
            have := of_decide_eq_true hd
            have := q6 s hs
            omega
          rw [c4] at hwi9
          have hts9 := hts p.jb
          rw [if_pos rfl] at hts9
          have hgv : (mlk R p.jb).getD (.int .i64 0) = .int .i64 (tot (l.take i) p.jb) := by
            rcases hget with h9 | ⟨h9, h0⟩
            · rw [h9]; rfl
            · rw [h9, h0]; rfl
          have hgv2 : (mlk (mset R p.jb (.int .i64 (tot (l.take i) p.jb + (p.to - p.frm)))) p.jb).getD (.int .i64 0) = .int .i64 (tot (l.take i) p.jb + (p.to - p.frm)) := by rw [mlk_set, if_pos rfl]; rfl
          rw [hxe.symm] at hgv hgv2 hsn
          rw [hxe.symm] at htb9 hts9 hck
          have hrest : ∀ k, tot (l.take (i + 1)) k = tot (l.take i) k + if p.jb = k then p.to - p.frm else 0 := hts
          generalize hbef : befE l i = bf at *
          by_cases hm9 : tot (l.take i) x.idn + (p.to - p.frm) ≤ x.mn
          · rw [if_pos (by rw [decide_eq_true_eq]; exact ⟨c1, c2, c3, c4, by omega⟩)] at hck
            have htb2 : ∀ j, 0 ≤ tot (l.take (i + 1)) j ∧ tot (l.take (i + 1)) j ≤ 100000 := fun j => by
              rw [hrest j]
              have := htb j
              by_cases hj : p.jb = j
              · rw [if_pos hj, ← hj, ← hxe]; omega
              · rw [if_neg hj]; omega
            generalize tot (l.take i) x.idn = tt at *
            clear hall hwi hkf hkn hrn hget hts htb hrest
            repeat' (first | (refine gJ ?_; first | refine js rfl rfl rfl rfl ?_ | (refine gload rfl rfl ?_; refine j_qe rfl rfl rfl ?_; first | refine ⟨_, q_load_own rfl rfl rfl rfl (by (repeat constructor)) (by first | rfl | assumption), ?_⟩ | refine ⟨_, q_loadA_own rfl rfl rfl rfl (by (repeat constructor)) (by rfl), ?_⟩ | refine ⟨_, q_loadA_ext rfl rfl rfl rfl ⟨by assumption, (by first | exact id | assumption)⟩ (by rfl), ?_⟩ | refine ⟨_, q_load_ext rfl rfl rfl rfl ⟨by assumption, (by first | exact id | assumption)⟩ (by first | rfl | assumption), ?_⟩ | refine ⟨_, q_load_extb rfl rfl rfl rfl ⟨by assumption, (by first | exact id | assumption)⟩ (by rfl), ?_⟩ | refine ⟨_, q_loadA_extb rfl rfl rfl rfl ⟨by assumption, (by first | exact id | assumption)⟩ (by rfl), ?_⟩ | refine ⟨_, q_load_ext0 rfl rfl rfl rfl ⟨by assumption, (by first | exact id | assumption)⟩ (by rfl), ?_⟩) | refine jfield rfl rfl rfl rfl rfl rfl rfl rfl ?_ | refine jar rfl rfl rfl rfl rfl rfl rfl (by omega) ?_ | (refine gcall rfl rfl ?_; first | (refine j_qc (f := 27) rfl rfl rfl rfl rfl rfl rfl ?_; refine ⟨_, (fun w' hs => hwi9 w' (h2.st hs)), ?_⟩)) | (refine j_qe rfl rfl rfl ?_; refine ⟨_, q_lookup_ok (v := jbV x) (r := true) rfl rfl rfl rfl rfl rfl rfl rfl (by (repeat constructor)) (by first | (rw [hkp]; done) | (rw [hkp]; rfl)) (by first | (rw [hkp]; done) | (rw [hkp]; rfl)), ?_⟩) | (refine j_qe rfl rfl rfl ?_; refine ⟨_, q_lookup (v := .int .i64 tt) rfl rfl rfl rfl rfl rfl rfl rfl (by first | exact InL.here | exact InL.there InL.here | exact InL.there (InL.there InL.here) | exact InL.there (InL.there (InL.there InL.here)) | exact InL.there (InL.there (InL.there (InL.there InL.here)))) hgv, ?_⟩) | (refine j_qe rfl rfl rfl ?_; refine ⟨_, q_lookup (v := .int .i64 (tt + (p.to - p.frm))) rfl rfl rfl rfl rfl rfl rfl rfl (by first | exact InL.here | exact InL.there InL.here | exact InL.there (InL.there InL.here) | exact InL.there (InL.there (InL.there InL.here)) | exact InL.there (InL.there (InL.there (InL.there InL.here)))) hgv2, ?_⟩) | (refine gF ?_; refine j_alloc (t := 51) rfl rfl rfl rfl rfl ?_; intro b6) | (refine gF ?_; refine j_alloc (t := 45) rfl rfl rfl rfl rfl ?_; intro b7) | (refine gF ?_; refine j_mapUpdate (v := .int .i64 (tt + (p.to - p.frm))) rfl rfl rfl rfl rfl rfl rfl rfl rfl rfl (by (repeat constructor)) ?_) | (refine gF ?_; first | refine j_store rfl rfl rfl rfl rfl rfl rfl rfl (by (repeat constructor)) (by rfl) ?_ | (refine j_alloc rfl rfl rfl rfl rfl ?_; intro b)) | (refine j_qe rfl rfl rfl ?_; first | refine ⟨_, q_index_nat rfl rfl rfl rfl rfl (by omega), ?_⟩ | refine ⟨_, q_index_slice rfl rfl rfl rfl rfl (by omega), ?_⟩ | refine ⟨_, q_index_arr rfl rfl rfl rfl rfl (by omega), ?_⟩ | refine ⟨_, q_index_arr_ext rfl rfl rfl rfl rfl (by omega), ?_⟩ | refine ⟨_, q_len_slice rfl rfl rfl rfl, ?_⟩ | refine ⟨_, q_field_ext rfl rfl rfl rfl rfl, ?_⟩ | refine ⟨_, q_addu8 rfl rfl rfl (by omega), ?_⟩) | refine j_guard_undef rfl rfl rfl rfl rfl ?_) | (refine gSC ?_; first | refine sc_mv rfl ?_ | refine sc_q rfl ?_ | refine sc_region ?_) | (refine gSQ ?_; first | refine sq_go rfl ?_ | refine sq_mv rfl ?_ | refine sq_ende (by first | exact .inl rfl | exact .inr rfl) rfl rfl ⟨_, (RVs.cons (RV.tmp rfl) (RVs.cons (RV.tmp rfl) (RVs.nil))), ?_⟩) | refine j_nil ?_ | ((first | refine j_guard rfl rfl rfl rfl rfl ?_ ?_ | refine sc_cond rfl ?_ ?_) <;> intro hc <;> (first | exact absurd hc (by decide) | ((try simp only [engHC] at hc) <;> first | (exfalso; omega) | exact absurd trivial hc | skip))))
            all_goals first
              | (exfalso; omega)
              | (refine sq_loop (i + 1, mset R x.idn (.int .i64 (tt + (p.to - p.frm)))) ⟨?_, hsn, hck, htb2, ?_⟩ ?_ ?_ ?_
                 · show i + 1 ≤ q; omega
                 · dsimp only; rw [hbs]; omega
                 · show q - (i + 1) < q - i; omega
                 · dsimp only; rw [hbs]; exact (by (try dsimp only); exact (by repeat (first | exact FSub.nil | refine FSub.cons rfl ?_ | refine FSub.conse rfl (by congr 1; omega) ?_)))
                 · exact (by repeat (first | exact LSub.refl | refine LSub.cons (by repeat (first | exact Rem.here | apply Rem.there)) ?_ | apply LSub.skip)))
          · rw [if_neg (by rw [decide_eq_true_eq]; rintro ⟨_, _, _, _, g⟩; omega)] at hck
            rw [hck]
            generalize tot (l.take i) x.idn = tt at *
            clear hall hwi hkf hkn hrn hget hts htb hrest
            repeat' (first | (refine gJ ?_; first | refine js rfl rfl rfl rfl ?_ | (refine gload rfl rfl ?_; refine j_qe rfl rfl rfl ?_; first | refine ⟨_, q_load_own rfl rfl rfl rfl (by (repeat constructor)) (by first | rfl | assumption), ?_⟩ | refine ⟨_, q_loadA_own rfl rfl rfl rfl (by (repeat constructor)) (by rfl), ?_⟩ | refine ⟨_, q_loadA_ext rfl rfl rfl rfl ⟨by assumption, (by first | exact id | assumption)⟩ (by rfl), ?_⟩ | refine ⟨_, q_load_ext rfl rfl rfl rfl ⟨by assumption, (by first | exact id | assumption)⟩ (by first | rfl | assumption), ?_⟩ | refine ⟨_, q_load_extb rfl rfl rfl rfl ⟨by assumption, (by first | exact id | assumption)⟩ (by rfl), ?_⟩ | refine ⟨_, q_loadA_extb rfl rfl rfl rfl ⟨by assumption, (by first | exact id | assumption)⟩ (by rfl), ?_⟩ | refine ⟨_, q_load_ext0 rfl rfl rfl rfl ⟨by assumption, (by first | exact id | assumption)⟩ (by rfl), ?_⟩) | refine jfield rfl rfl rfl rfl rfl rfl rfl rfl ?_ | refine jar rfl rfl rfl rfl rfl rfl rfl (by omega) ?_ | (refine gcall rfl rfl ?_; first | (refine j_qc (f := 27) rfl rfl rfl rfl rfl rfl rfl ?_; refine ⟨_, (fun w' hs => hwi9 w' (h2.st hs)), ?_⟩)) | (refine j_qe rfl rfl rfl ?_; refine ⟨_, q_lookup_ok (v := jbV x) (r := true) rfl rfl rfl rfl rfl rfl rfl rfl (by (repeat constructor)) (by first | (rw [hkp]; done) | (rw [hkp]; rfl)) (by first | (rw [hkp]; done) | (rw [hkp]; rfl)), ?_⟩) | (refine j_qe rfl rfl rfl ?_; refine ⟨_, q_lookup (v := .int .i64 tt) rfl rfl rfl rfl rfl rfl rfl rfl (by first | exact InL.here | exact InL.there InL.here | exact InL.there (InL.there InL.here) | exact InL.there (InL.there (InL.there InL.here)) | exact InL.there (InL.there (InL.there (InL.there InL.here)))) hgv, ?_⟩) | (refine j_qe rfl rfl rfl ?_; refine ⟨_, q_lookup (v := .int .i64 (tt + (p.to - p.frm))) rfl rfl rfl rfl rfl rfl rfl rfl (by first | exact InL.here | exact InL.there InL.here | exact InL.there (InL.there InL.here) | exact InL.there (InL.there (InL.there InL.here)) | exact InL.there (InL.there (InL.there (InL.there InL.here)))) hgv2, ?_⟩) | (refine gF ?_; refine j_alloc (t := 51) rfl rfl rfl rfl rfl ?_; intro b6) | (refine gF ?_; refine j_alloc (t := 45) rfl rfl rfl rfl rfl ?_; intro b7) | (refine gF ?_; refine j_mapUpdate (v := .int .i64 (tt + (p.to - p.frm))) rfl rfl rfl rfl rfl rfl rfl rfl rfl rfl (by (repeat constructor)) ?_) | (refine gF ?_; first | refine j_store rfl rfl rfl rfl rfl rfl rfl rfl (by (repeat constructor)) (by rfl) ?_ | (refine j_alloc rfl rfl rfl rfl rfl ?_; intro b)) | (refine j_qe rfl rfl rfl ?_; first | refine ⟨_, q_index_nat rfl rfl rfl rfl rfl (by omega), ?_⟩ | refine ⟨_, q_index_slice rfl rfl rfl rfl rfl (by omega), ?_⟩ | refine ⟨_, q_index_arr rfl rfl rfl rfl rfl (by omega), ?_⟩ | refine ⟨_, q_index_arr_ext rfl rfl rfl rfl rfl (by omega), ?_⟩ | refine ⟨_, q_len_slice rfl rfl rfl rfl, ?_⟩ | refine ⟨_, q_field_ext rfl rfl rfl rfl rfl, ?_⟩ | refine ⟨_, q_addu8 rfl rfl rfl (by omega), ?_⟩) | refine j_guard_undef rfl rfl rfl rfl rfl ?_) | (refine gSC ?_; first | refine sc_mv rfl ?_ | refine sc_q rfl ?_ | refine sc_region ?_) | (refine gSQ ?_; first | refine sq_go rfl ?_ | refine sq_mv rfl ?_ | refine sq_ende (by first | exact .inl rfl | exact .inr rfl) rfl rfl ⟨_, (RVs.cons (RV.tmp rfl) (RVs.cons (RV.tmp rfl) (RVs.nil))), ?_⟩) | refine j_nil ?_ | ((first | refine j_guard rfl rfl rfl rfl rfl ?_ ?_ | refine sc_cond rfl ?_ ?_) <;> intro hc <;> (first | exact absurd hc (by decide) | ((try simp only [engHC] at hc) <;> first | (exfalso; omega) | exact absurd trivial hc | skip))))
            all_goals first
              | (exfalso; omega)
              | (intro w' hS; refine ⟨?_, hS.below⟩; simp only [pack])
        · rw [if_neg (by rw [decide_eq_true_eq]; rintro ⟨g1, g2, g3, g4, _⟩; exact hc ⟨g1, g2, g3, g4⟩)] at hck
          rw [hck]
          generalize hbef : befE l i = bf at *
          clear hall hwi hkf hkn hrn hget hsn hts htb
          cases hwb : withinB shifts p
          · rw [hwb] at hwi9
            repeat' (first | (refine gJ ?_; first | refine js rfl rfl rfl rfl ?_ | (refine gload rfl rfl ?_; refine j_qe rfl rfl rfl ?_; first | refine ⟨_, q_load_own rfl rfl rfl rfl (by (repeat constructor)) (by first | rfl | assumption), ?_⟩ | refine ⟨_, q_loadA_own rfl rfl rfl rfl (by (repeat constructor)) (by rfl), ?_⟩ | refine ⟨_, q_loadA_ext rfl rfl rfl rfl ⟨by assumption, (by first | exact id | assumption)⟩ (by rfl), ?_⟩ | refine ⟨_, q_load_ext rfl rfl rfl rfl ⟨by assumption, (by first | exact id | assumption)⟩ (by first | rfl | assumption), ?_⟩ | refine ⟨_, q_load_extb rfl rfl rfl rfl ⟨by assumption, (by first | exact id | assumption)⟩ (by rfl), ?_⟩ | refine ⟨_, q_loadA_extb rfl rfl rfl rfl ⟨by assumption, (by first | exact id | assumption)⟩ (by rfl), ?_⟩ | refine ⟨_, q_load_ext0 rfl rfl rfl rfl ⟨by assumption, (by first | exact id | assumption)⟩ (by rfl), ?_⟩) | refine jfield rfl rfl rfl rfl rfl rfl rfl rfl ?_ | refine jar rfl rfl rfl rfl rfl rfl rfl (by omega) ?_ | (refine gcall rfl rfl ?_; first | (refine j_qc (f := 27) rfl rfl rfl rfl rfl rfl rfl ?_; refine ⟨_, (fun w' hs => hwi9 w' (h2.st hs)), ?_⟩)) | (refine j_qe rfl rfl rfl ?_; refine ⟨_, q_lookup_ok (v := jbV x) (r := true) rfl rfl rfl rfl rfl rfl rfl rfl (by (repeat constructor)) (by first | (rw [hkp]; done) | (rw [hkp]; rfl)) (by first | (rw [hkp]; done) | (rw [hkp]; rfl)), ?_⟩) | (refine gF ?_; refine j_alloc (t := 51) rfl rfl rfl rfl rfl ?_; intro b6) | (refine gF ?_; refine j_alloc (t := 45) rfl rfl rfl rfl rfl ?_; intro b7) | (refine gF ?_; first | refine j_store rfl rfl rfl rfl rfl rfl rfl rfl (by (repeat constructor)) (by rfl) ?_ | (refine j_alloc rfl rfl rfl rfl rfl ?_; intro b)) | (refine j_qe rfl rfl rfl ?_; first | refine ⟨_, q_index_nat rfl rfl rfl rfl rfl (by omega), ?_⟩ | refine ⟨_, q_index_slice rfl rfl rfl rfl rfl (by omega), ?_⟩ | refine ⟨_, q_index_arr rfl rfl rfl rfl rfl (by omega), ?_⟩ | refine ⟨_, q_index_arr_ext rfl rfl rfl rfl rfl (by omega), ?_⟩ | refine ⟨_, q_len_slice rfl rfl rfl rfl, ?_⟩ | refine ⟨_, q_field_ext rfl rfl rfl rfl rfl, ?_⟩ | refine ⟨_, q_addu8 rfl rfl rfl (by omega), ?_⟩) | refine j_guard_undef rfl rfl rfl rfl rfl ?_) | (refine gSC ?_; first | refine sc_mv rfl ?_ | refine sc_q rfl ?_ | refine sc_region ?_) | (refine gSQ ?_; first | refine sq_go rfl ?_ | refine sq_mv rfl ?_ | refine sq_ende (by first | exact .inl rfl | exact .inr rfl) rfl rfl ⟨_, (RVs.cons (RV.tmp rfl) (RVs.cons (RV.tmp rfl) (RVs.nil))), ?_⟩) | refine j_nil ?_ | ((first | refine j_guard rfl rfl rfl rfl rfl ?_ ?_ | refine sc_cond rfl ?_ ?_) <;> intro hc <;> (first | exact absurd hc (by decide) | ((try simp only [engHC] at hc) <;> first | (exfalso; omega) | exact absurd trivial hc | skip))))
            all_goals first
              | (exfalso; omega)
              | (intro w' hS; refine ⟨?_, hS.below⟩; simp only [pack])
          · rw [hwb] at hwi9 hc
            have hc : ¬ (x.rel ≤ p.frm ∧ bf ≤ p.frm ∧ p.frm < p.to) := fun g => hc ⟨g.1, g.2.1, g.2.2, rfl⟩
            repeat' (first | (refine gJ ?_; first | refine js rfl rfl rfl rfl ?_ | (refine gload rfl rfl ?_; refine j_qe rfl rfl rfl ?_; first | refine ⟨_, q_load_own rfl rfl rfl rfl (by (repeat constructor)) (by first | rfl | assumption), ?_⟩ | refine ⟨_, q_loadA_own rfl rfl rfl rfl (by (repeat constructor)) (by rfl), ?_⟩ | refine ⟨_, q_loadA_ext rfl rfl rfl rfl ⟨by assumption, (by first | exact id | assumption)⟩ (by rfl), ?_⟩ | refine ⟨_, q_load_ext rfl rfl rfl rfl ⟨by assumption, (by first | exact id | assumption)⟩ (by first | rfl | assumption), ?_⟩ | refine ⟨_, q_load_extb rfl rfl rfl rfl ⟨by assumption, (by first | exact id | assumption)⟩ (by rfl), ?_⟩ | refine ⟨_, q_loadA_extb rfl rfl rfl rfl ⟨by assumption, (by first | exact id | assumption)⟩ (by rfl), ?_⟩ | refine ⟨_, q_load_ext0 rfl rfl rfl rfl ⟨by assumption, (by first | exact id | assumption)⟩ (by rfl), ?_⟩) | refine jfield rfl rfl rfl rfl rfl rfl rfl rfl ?_ | refine jar rfl rfl rfl rfl rfl rfl rfl (by omega) ?_ | (refine gcall rfl rfl ?_; first | (refine j_qc (f := 27) rfl rfl rfl rfl rfl rfl rfl ?_; refine ⟨_, (fun w' hs => hwi9 w' (h2.st hs)), ?_⟩)) | (refine j_qe rfl rfl rfl ?_; refine ⟨_, q_lookup_ok (v := jbV x) (r := true) rfl rfl rfl rfl rfl rfl rfl rfl (by (repeat constructor)) (by first | (rw [hkp]; done) | (rw [hkp]; rfl)) (by first | (rw [hkp]; done) | (rw [hkp]; rfl)), ?_⟩) | (refine gF ?_; refine j_alloc (t := 51) rfl rfl rfl rfl rfl ?_; intro b6) | (refine gF ?_; refine j_alloc (t := 45) rfl rfl rfl rfl rfl ?_; intro b7) | (refine gF ?_; first | refine j_store rfl rfl rfl rfl rfl rfl rfl rfl (by (repeat constructor)) (by rfl) ?_ | (refine j_alloc rfl rfl rfl rfl rfl ?_; intro b)) | (refine j_qe rfl rfl rfl ?_; first | refine ⟨_, q_index_nat rfl rfl rfl rfl rfl (by omega), ?_⟩ | refine ⟨_, q_index_slice rfl rfl rfl rfl rfl (by omega), ?_⟩ | refine ⟨_, q_index_arr rfl rfl rfl rfl rfl (by omega), ?_⟩ | refine ⟨_, q_index_arr_ext rfl rfl rfl rfl rfl (by omega), ?_⟩ | refine ⟨_, q_len_slice rfl rfl rfl rfl, ?_⟩ | refine ⟨_, q_field_ext rfl rfl rfl rfl rfl, ?_⟩ | refine ⟨_, q_addu8 rfl rfl rfl (by omega), ?_⟩) | refine j_guard_undef rfl rfl rfl rfl rfl ?_) | (refine gSC ?_; first | refine sc_mv rfl ?_ | refine sc_q rfl ?_ | refine sc_region ?_) | (refine gSQ ?_; first | refine sq_go rfl ?_ | refine sq_mv rfl ?_ | refine sq_ende (by first | exact .inl rfl | exact .inr rfl) rfl rfl ⟨_, (RVs.cons (RV.tmp rfl) (RVs.cons (RV.tmp rfl) (RVs.nil))), ?_⟩) | refine j_nil ?_ | ((first | refine j_guard rfl rfl rfl rfl rfl ?_ ?_ | refine sc_cond rfl ?_ ?_) <;> intro hc <;> (first | exact absurd hc (by decide) | ((try simp only [engHC] at hc) <;> first | (exfalso; omega) | exact absurd trivial hc | skip))))
            all_goals first
              | (exfalso; omega)
              | (intro w' hS; refine ⟨?_, hS.below⟩; simp only [pack])
    · obtain rfl : i = q := by omega
      rw [Nat.sub_self] at hck
      rw [hck]
      repeat' (first | (refine gJ ?_; first | refine js rfl rfl rfl rfl ?_ | (refine gload rfl rfl ?_; refine j_qe rfl rfl rfl ?_; first | refine ⟨_, q_load_own rfl rfl rfl rfl (by (repeat constructor)) (by first | rfl | assumption), ?_⟩ | refine ⟨_, q_loadA_own rfl rfl rfl rfl (by (repeat constructor)) (by rfl), ?_⟩ | refine ⟨_, q_loadA_ext rfl rfl rfl rfl ⟨by assumption, (by first | exact id | assumption)⟩ (by rfl), ?_⟩ | refine ⟨_, q_load_ext rfl rfl rfl rfl ⟨by assumption, (by first | exact id | assumption)⟩ (by first | rfl | assumption), ?_⟩ | refine ⟨_, q_load_extb rfl rfl rfl rfl ⟨by assumption, (by first | exact id | assumption)⟩ (by rfl), ?_⟩ | refine ⟨_, q_loadA_extb rfl rfl rfl rfl ⟨by assumption, (by first | exact id | assumption)⟩ (by rfl), ?_⟩ | refine ⟨_, q_load_ext0 rfl rfl rfl rfl ⟨by assumption, (by first | exact id | assumption)⟩ (by rfl), ?_⟩) | refine jfield rfl rfl rfl rfl rfl rfl rfl rfl ?_ | refine jar rfl rfl rfl rfl rfl rfl rfl (by omega) ?_ | (refine gF ?_; first | refine j_store rfl rfl rfl rfl rfl rfl rfl rfl (by (repeat constructor)) (by rfl) ?_ | (refine j_alloc rfl rfl rfl rfl rfl ?_; intro b)) | (refine j_qe rfl rfl rfl ?_; first | refine ⟨_, q_index_nat rfl rfl rfl rfl rfl (by omega), ?_⟩ | refine ⟨_, q_index_slice rfl rfl rfl rfl rfl (by omega), ?_⟩ | refine ⟨_, q_index_arr rfl rfl rfl rfl rfl (by omega), ?_⟩ | refine ⟨_, q_index_arr_ext rfl rfl rfl rfl rfl (by omega), ?_⟩ | refine ⟨_, q_len_slice rfl rfl rfl rfl, ?_⟩ | refine ⟨_, q_field_ext rfl rfl rfl rfl rfl, ?_⟩ | refine ⟨_, q_addu8 rfl rfl rfl (by omega), ?_⟩) | refine j_guard_undef rfl rfl rfl rfl rfl ?_) | (refine gSC ?_; first | refine sc_mv rfl ?_ | refine sc_q rfl ?_ | refine sc_region ?_) | (refine gSQ ?_; first | refine sq_go rfl ?_ | refine sq_mv rfl ?_ | refine sq_ende (by first | exact .inl rfl | exact .inr rfl) rfl rfl ⟨_, (RVs.cons (RV.tmp rfl) (RVs.cons (RV.tmp rfl) (RVs.nil))), ?_⟩) | refine j_nil ?_ | ((first | refine j_guard rfl rfl rfl rfl rfl ?_ ?_ | refine sc_cond rfl ?_ ?_) <;> intro hc <;> (first | exact absurd hc (by decide) | ((try simp only [engHC] at hc) <;> first | (exfalso; omega) | exact absurd trivial hc | skip))))
      (intro w' hS; refine ⟨?_, hS.below⟩; simp only [pack])
      rfl
  · have e : ckF jobs shifts l = allF jobs shifts := by unfold ckF; rw [if_neg hbig, if_pos hok]
    rw [e]
    generalize (allF jobs shifts).1 = a1 at *
    generalize (allF jobs shifts).2 = a2 at *
    generalize jobs.length = n at *
    generalize shifts.length = m at *
    generalize l.length = q at *
    refine eng_start (n := 113) (args := [.slice A n c, .slice B m d, .slice D q f]) tab tab_ok fns fns_ok [.tmp 6, .tmp 7] Try.func14 rfl rfl rfl rfl ?_
    repeat' (first | (refine gJ ?_; first | refine js rfl rfl rfl rfl ?_ | (refine gload rfl rfl ?_; refine j_qe rfl rfl rfl ?_; first | refine ⟨_, q_load_own rfl rfl rfl rfl (by (repeat constructor)) (by first | rfl | assumption), ?_⟩ | refine ⟨_, q_loadA_own rfl rfl rfl rfl (by (repeat constructor)) (by rfl), ?_⟩ | refine ⟨_, q_loadA_ext rfl rfl rfl rfl ⟨by assumption, (by first | exact id | assumption)⟩ (by rfl), ?_⟩ | refine ⟨_, q_load_ext rfl rfl rfl rfl ⟨by assumption, (by first | exact id | assumption)⟩ (by first | rfl | assumption), ?_⟩ | refine ⟨_, q_load_extb rfl rfl rfl rfl ⟨by assumption, (by first | exact id | assumption)⟩ (by rfl), ?_⟩ | refine ⟨_, q_loadA_extb rfl rfl rfl rfl ⟨by assumption, (by first | exact id | assumption)⟩ (by rfl), ?_⟩ | refine ⟨_, q_load_ext0 rfl rfl rfl rfl ⟨by assumption, (by first | exact id | assumption)⟩ (by rfl), ?_⟩) | refine jfield rfl rfl rfl rfl rfl rfl rfl rfl ?_ | refine jar rfl rfl rfl rfl rfl rfl rfl (by omega) ?_ | (refine gcall rfl rfl ?_; first | (refine j_qc (f := 23) rfl rfl rfl rfl rfl rfl rfl ?_; refine ⟨_, (fun w' hs => hall w' (h.st hs) (h2.st hs)), ?_⟩)) | (refine gF ?_; first | refine j_store rfl rfl rfl rfl rfl rfl rfl rfl (by (repeat constructor)) (by rfl) ?_ | (refine j_alloc rfl rfl rfl rfl rfl ?_; intro b)) | (refine j_qe rfl rfl rfl ?_; first | refine ⟨_, q_index_nat rfl rfl rfl rfl rfl (by omega), ?_⟩ | refine ⟨_, q_index_slice rfl rfl rfl rfl rfl (by omega), ?_⟩ | refine ⟨_, q_index_arr rfl rfl rfl rfl rfl (by omega), ?_⟩ | refine ⟨_, q_index_arr_ext rfl rfl rfl rfl rfl (by omega), ?_⟩ | refine ⟨_, q_len_slice rfl rfl rfl rfl, ?_⟩ | refine ⟨_, q_field_ext rfl rfl rfl rfl rfl, ?_⟩ | refine ⟨_, q_addu8 rfl rfl rfl (by omega), ?_⟩) | refine j_guard_undef rfl rfl rfl rfl rfl ?_) | (refine gSC ?_; first | refine sc_mv rfl ?_ | refine sc_q rfl ?_ | refine sc_region ?_) | (refine gSQ ?_; first | refine sq_go rfl ?_ | refine sq_mv rfl ?_ | refine sq_ende (by first | exact .inl rfl | exact .inr rfl) rfl rfl ⟨_, (RVs.cons (RV.tmp rfl) (RVs.cons (RV.tmp rfl) (RVs.nil))), ?_⟩) | refine j_nil ?_ | ((first | refine j_guard rfl rfl rfl rfl rfl ?_ ?_ | refine sc_cond rfl ?_ ?_) <;> intro hc <;> (first | exact absurd hc (by decide) | ((try simp only [engHC] at hc) <;> first | (exfalso; omega) | exact absurd trivial hc | skip))))
    all_goals first
      | (exfalso; omega)
      | (intro w' hS; refine ⟨?_, hS.below⟩; simp only [pack])
end Go.Proofs.Ythbchbiadcjnkaa
