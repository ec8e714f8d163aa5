/-
  ShiftLater.
-/
import Derived.Test.YthbchbiadcjnkaaLc
namespace Go.Proofs.Ythbchbiadcjnkaa
open Go.RowKit Eng
set_option linter.unusedVariables false
set_option linter.unusedSimpArgs false
set_option maxHeartbeats 8000000
attribute [local irreducible] SC SQ J Qt Calls Iterates LSub FSub
def mvL {α : Type} (f : α → α) (l : List α) (i : Nat) : List α := (l.take i).map f ++ l.drop i
theorem mvL_at {α : Type} {f : α → α} {l : List α} {i : Nat} {x : α} (h : l[i]? = some x) : (mvL f l i)[i]? = some x := by
  have hi := (List.getElem?_eq_some_iff.1 h).1
  unfold mvL
  rw [List.getElem?_append_right (by rw [List.length_map, List.length_take]; omega), List.length_map, List.length_take, show i - min i l.length = 0 by omega, drop_cons h]
  rfl
theorem mvL_set {α : Type} {f : α → α} {l : List α} {i : Nat} {x : α} (h : l[i]? = some x) : (mvL f l i).set i (f x) = mvL f l (i + 1) := by
  have hi := (List.getElem?_eq_some_iff.1 h).1
  unfold mvL
  rw [List.set_append_right _ _ (by rw [List.length_map, List.length_take]; omega), List.length_map, List.length_take, take_snocS h, List.map_append, List.append_assoc, show i - min i l.length = 0 by omega, drop_cons h]
  rfl
theorem mvL_all {α : Type} (f : α → α) (l : List α) : mvL f l l.length = l.map f := by
  unfold mvL
  rw [List.take_of_length_le (Nat.le_refl _), List.drop_eq_nil_of_le (Nat.le_refl _), List.append_nil]
theorem set_at {α : Type} {l : List α} {i : Nat} {x y : α} (h : l[i]? = some x) : (l.set i y)[i]? = some y := List.getElem?_set_self (List.getElem?_eq_some_iff.1 h).1
set_option maxRecDepth 8000 in
set_option maxHeartbeats 32000000 in
theorem Later_c (A : Option Addr) (c : Nat) (l : List Tk) (B : Option Addr) (d : Nat) (g : List Gp) (y : Int) (w : World) (hl : l.length ≤ 9223372036854775807) (hl2 : g.length ≤ 9223372036854775807) (hok : ∀ x ∈ l, tkOk x) (hog : ∀ x ∈ g, gpOk x) (hy : 0 ≤ y ∧ y ≤ 4294967295) (h : RS w 3 tkC A l) (h2 : RS w 2 gpC B g) :
    Calls Try.prog 8 #[.slice A l.length c, .slice B g.length d, .int .u32 y] w fun e w' => e = .returned (.bool true) ∧ Below w.heap.size w w' := by
  have hwk := fun w' h => work_c A c l w' hl hok h
  have hhr := fun w' h => hours_c B d g w' hl2 hog h
  have hsm := sml_small hok hog
  generalize workF l = jobs at *
  generalize hoursF g = shifts at *
  generalize (edfS jobs shifts).2 = P at hsm
  have hj8 := hsm.j8
  have hs8 := hsm.s8
  have hp8 := hsm.pl
  obtain ⟨dd, hdd⟩ : ∃ dd : Int, y % 1000001 = dd := ⟨_, rfl⟩
  have hd1 : 0 ≤ dd ∧ dd ≤ 1000000 := by omega
  obtain ⟨hmv1, hmv2, hmv3⟩ := hsm.moved hd1
  have hmn : ∀ x ∈ jobs, 0 ≤ x.rel ∧ x.rel ≤ 63 ∧ 0 ≤ x.due ∧ x.due ≤ 63 := fun x hx => by
    have g1 := hsm.jo x hx
    unfold okJ at g1
    omega
  have hst := hsm.st
  have hsh := okSh_mem hsm.sh
  have htp := hsm.tp
  have mk1 := fun A c B d w' h h2 => Make_c A c jobs B d shifts w' (by omega) (by omega) h h2
  have mk2 := fun A c B d w' h h2 => Make_c A c (jobs.map (mvJ dd)) B d (shifts.map (mvS dd)) w' (by rw [List.length_map]; omega) (by rw [List.length_map]; omega) h h2
  have ex1 := fun A c B d w' hs h h2 => Excess_c A c jobs B d shifts w' hs (by omega) h h2
  have ex2 := fun A c B d w' hs h h2 => Excess_c A c (jobs.map (mvJ dd)) B d (shifts.map (mvS dd)) w' hs (by rw [List.length_map]; omega) h h2
  have hex : (∃ r e, exR jobs shifts = (r, e, true, 0) ∧ exR (jobs.map (mvJ dd)) (shifts.map (mvS dd)) = (r + dd, e + dd, true, 0) ∧ 0 ≤ r ∧ r ≤ 63 ∧ 0 ≤ e ∧ e ≤ 63) ∨ (exR jobs shifts = (0, 0, false, 0) ∧ exR (jobs.map (mvJ dd)) (shifts.map (mvS dd)) = (0, 0, false, 0)) := by
    cases hx : excF jobs shifts with
    | none =>
      rw [hx] at hmv3
      exact .inr ⟨exR_none hsm.al hx, exR_none hmv1 hmv3⟩
    | some p =>
      obtain ⟨r, e⟩ := p
      rw [hx] at hmv3
      obtain ⟨⟨x0, hx0, e1, _⟩, ⟨x1, hx1, e2⟩, _⟩ := excF_some hsm.m0 hx
      have g1 := hmn x0 hx0
      have g2 := hmn x1 hx1
      exact .inl ⟨r, e, exR_some hsm.al hx, exR_some hmv1 hmv3, by omega⟩
  rw [hsm.mkp] at mk1
  rw [mk_of hmv1 hmv2] at mk2
  dsimp only at mk1 mk2
  rw [List.length_map] at mk2 ex2
  have e9 : (P.map (mvP dd)).length = P.length := List.length_map _
  rw [e9] at mk2
  rw [List.length_map] at mk2 ex2
  have lj0 := fun i x (hx : jobs[i]? = some x) => mvL_at (f := mvJ dd) hx
  have lj1 := fun i x (hx : jobs[i]? = some x) => mvL_set (f := mvJ dd) hx
  have lj2 := mvL_all (mvJ dd) jobs
  have ls0 := fun i x (hx : shifts[i]? = some x) => mvL_at (f := mvS dd) hx
  have ls1 := fun i x (hx : shifts[i]? = some x) => mvL_set (f := mvS dd) hx
  have ls2 := mvL_all (mvS dd) shifts
  have lj4 : (jobs.map (mvJ dd)).length = jobs.length := List.length_map _
  have ls4 : (shifts.map (mvS dd)).length = shifts.length := List.length_map _
  have lj5 : mvL (mvJ dd) jobs 0 = jobs := by unfold mvL; simp
  have ls5 : mvL (mvS dd) shifts 0 = shifts := by unfold mvL; simp
  clear hmv1 hmv2 hmv3 hsm
  obtain ⟨n, hn⟩ : ∃ n, n = jobs.length := ⟨_, rfl⟩
  obtain ⟨m, hm⟩ : ∃ n, n = shifts.length := ⟨_, rfl⟩
  obtain ⟨np, hnp⟩ : ∃ n, n = P.length := ⟨_, rfl⟩
  rw [← hn] at hwk mk1 mk2 ex1 ex2 hj8 lj2 lj4
  rw [← hm] at hhr mk1 mk2 ex1 ex2 hs8 ls2 ls4
  rw [← hnp] at mk1 mk2 hp8 e9
  generalize l.length = q1 at *
  generalize g.length = q2 at *
  obtain ⟨r, e, sm, rd, ed, he1, he2, hrb⟩ : ∃ r e sm rd ed, exR jobs shifts = (r, e, sm, 0) ∧ exR (jobs.map (mvJ dd)) (shifts.map (mvS dd)) = (rd, ed, sm, 0) ∧ ((sm = false) ∨ (sm = true ∧ rd = r + dd ∧ ed = e + dd ∧ 0 ≤ r ∧ r ≤ 63 ∧ 0 ≤ e ∧ e ≤ 63)) := by
    rcases hex with ⟨r, e, h1, h2, h3⟩ | ⟨h1, h2⟩
    · exact ⟨r, e, true, _, _, h1, h2, .inr ⟨rfl, rfl, rfl, h3⟩⟩
    · exact ⟨_, _, false, _, _, h1, h2, .inl rfl⟩
  rw [he1] at ex1
  rw [he2] at ex2
  dsimp only at ex1 ex2
  clear hex he1 he2
  refine eng_start (n := 193) (args := [.slice A q1 c, .slice B q2 d, .int .u32 y]) tab tab_ok fns fns_ok [.tmp 6] Try.func8 rfl rfl rfl rfl ?_
  repeat' (first | (refine gJ ?_; first | refine js rfl rfl rfl rfl ?_ | (refine gload rfl rfl ?_; refine j_qe rfl rfl rfl ?_; first | refine ⟨_, q_load_own rfl rfl rfl rfl (by (repeat constructor)) (by first | rfl | assumption), ?_⟩ | refine ⟨_, q_loadA_own rfl rfl rfl rfl (by (repeat constructor)) (by rfl), ?_⟩ | refine ⟨_, q_loadA_ext rfl rfl rfl rfl ⟨by assumption, (by first | exact id | assumption)⟩ (by rfl), ?_⟩ | refine ⟨_, q_load_ext rfl rfl rfl rfl ⟨by assumption, (by first | exact id | assumption)⟩ (by first | rfl | assumption), ?_⟩ | refine ⟨_, q_load_extb rfl rfl rfl rfl ⟨by assumption, (by first | exact id | assumption)⟩ (by rfl), ?_⟩ | refine ⟨_, q_loadA_extb rfl rfl rfl rfl ⟨by assumption, (by first | exact id | assumption)⟩ (by rfl), ?_⟩ | refine ⟨_, q_load_ext0 rfl rfl rfl rfl ⟨by assumption, (by first | exact id | assumption)⟩ (by rfl), ?_⟩) | refine jfield rfl rfl rfl rfl rfl rfl rfl rfl ?_ | refine jar rfl rfl rfl rfl rfl rfl rfl (by omega) ?_ | (refine gcall rfl rfl ?_; first | (refine j_qc (f := 18) rfl rfl rfl rfl rfl rfl rfl ?_; refine ⟨_, (fun w' hs => ex1 _ _ _ _ w' hs1 (rs_own (f := jbC) (l := jobs) (fun _ => rfl) hs (by (repeat constructor)) hn rfl) (rs_own (f := sfC) (l := shifts) (fun _ => rfl) hs (by (repeat constructor)) hm rfl)), ?_⟩)) | (refine gcall rfl rfl ?_; refine gF ?_; refine j_callN (f := 10) rfl rfl rfl rfl rfl rfl rfl (fun v : Value => v) (fun _ => True) (fun v => [.own v 45 4 n (jobs.flatMap jbC)]) (fun w' hs => hwk w' (h.st hs)) (fun _ => trivial) ?_; rintro v1 _; refine j_owns (v := v1) (by (repeat constructor)) ?_; rintro A1 c1 rfl hs1) | (refine gcall rfl rfl ?_; refine gF ?_; refine j_callN (f := 11) rfl rfl rfl rfl rfl rfl rfl (fun v : Value => v) (fun _ => True) (fun v => [.own v 47 2 m (shifts.flatMap sfC)]) (fun w' hs => hhr w' (h2.st hs)) (fun _ => trivial) ?_; rintro v2 _; refine j_owns (v := v2) (by (repeat constructor)) ?_; rintro A2 c2 rfl hs2) | (refine gcall rfl rfl ?_; refine gF ?_; refine j_callN (f := 12) rfl rfl rfl rfl rfl rfl rfl (fun v : Value => .tuple #[v, .int .i64 0]) (fun _ => True) (fun v => [.own v 51 3 np (P.flatMap pcC)]) (fun w' hs => mk1 _ _ _ _ w' (rs_own (f := jbC) (l := jobs) (fun _ => rfl) hs (by (repeat constructor)) hn rfl) (rs_own (f := sfC) (l := shifts) (fun _ => rfl) hs (by (repeat constructor)) hm rfl)) (fun _ => trivial) ?_; rintro v3 _; refine j_owns (v := v3) (by (repeat constructor)) ?_; rintro A3 c3 rfl hs3) | (refine gF ?_; first | refine j_store rfl rfl rfl rfl rfl rfl rfl rfl (by (repeat constructor)) (by rfl) ?_) | (refine j_qe rfl rfl rfl ?_; first | refine ⟨_, q_index_nat rfl rfl rfl rfl rfl (by omega), ?_⟩ | refine ⟨_, q_index_slice rfl rfl rfl rfl rfl (by omega), ?_⟩ | refine ⟨_, q_index_arr rfl rfl rfl rfl rfl (by omega), ?_⟩ | refine ⟨_, q_index_arr_ext rfl rfl rfl rfl rfl (by omega), ?_⟩ | refine ⟨_, q_len_slice rfl rfl rfl rfl, ?_⟩ | refine ⟨_, q_field_ext rfl rfl rfl rfl rfl, ?_⟩ | refine ⟨_, q_rem rfl rfl rfl (by omega), ?_⟩ | refine ⟨_, q_remt rfl rfl rfl (by omega), ?_⟩ | refine ⟨_, q_addu8 rfl rfl rfl (by omega), ?_⟩ | refine ⟨_, q_conv rfl rfl rfl rfl rfl rfl (by first | rfl | (exact i64_wrap (by omega) (by omega)) | (exact u8_wrap (by omega) (by omega)) | (exact u64_wrap (by omega) (by omega)) | (exact u16_wrap (by omega) (by omega))), ?_⟩) | refine j_guard_undef rfl rfl rfl rfl rfl ?_) | (refine gSC ?_; first | refine sc_mv rfl ?_ | refine sc_q rfl ?_ | refine sc_region ?_ | refine sc_draw rfl mixed (by kernel_rfl) ?_) | (refine gSQ ?_; first | refine sq_go rfl ?_ | refine sq_mv rfl ?_ | refine sq_ende (by first | exact .inl rfl | exact .inr rfl) rfl rfl ⟨_, (RVs.cons (RV.tmp rfl) (RVs.nil)), ?_⟩) | refine j_nil ?_ | ((first | refine j_guard rfl rfl rfl rfl rfl ?_ ?_ | refine sc_cond rfl ?_ ?_) <;> intro hc <;> (first | exact absurd hc (by decide) | ((try simp only [engHC] at hc) <;> first | (exfalso; omega) | exact absurd trivial hc | skip))))
  rw [hdd]
  clear mk1 ex1 hwk hhr
  refine sc_own_eq (xs' := (mvL (mvJ dd) jobs 0).flatMap jbC) (v := .slice A1 n c1) (by repeat (first | exact Rem.here | apply Rem.there)) (by rw [lj5]) ?_
  refine sc_loop (ι := Nat) (fun i => i ≤ n) (fun i => n - i) (fun i => [(7, .slice A1 n c1), (8, .slice A2 m c2), (9, .slice A3 np c3), (10, .int .i64 0), (11, .int .i64 r), (12, .int .i64 e), (13, .bool sm), (14, .int .i64 0), (15, .int .i64 dd), (46, .slice A1 n c1), (47, .int .i64 n), (48, .int .i64 i)]) (fun i => [.own (.slice A1 n c1) 45 4 n ((mvL (mvJ dd) jobs i).flatMap jbC), .own (.slice A3 np c3) 51 3 np (P.flatMap pcC), .own (.slice A2 m c2) 47 2 m (shifts.flatMap sfC)]) 0 (Nat.zero_le _) (by (try dsimp only); exact (by repeat (first | exact FSub.nil | refine FSub.cons rfl ?_ | refine FSub.conse rfl (by congr 1; omega) ?_))) (by repeat (first | exact LSub.refl | refine LSub.cons (by repeat (first | exact Rem.here | apply Rem.there)) ?_ | apply LSub.skip)) ?_
  intro i hi
  try dsimp only at hi ⊢
  by_cases hlt : i < n
  · obtain ⟨x, hx⟩ : ∃ x, jobs[i]? = some x := ⟨_, List.getElem?_eq_getElem (by omega)⟩
    obtain ⟨A1, rfl⟩ : ∃ ad, A1 = some ad := by
      cases A1 with
      | none => have := (hs1.nil rfl).1; omega
      | some ad => exact ⟨ad, rfl⟩
    have e0 := lj0 i x hx
    have e1 := lj1 i x hx
    have g3 := hmn x (List.mem_of_getElem? hx)
    generalize mvL (mvJ dd) jobs i = R at *
    have e2 := set_at (y := (⟨x.idn, x.rel + dd, x.due, x.mn⟩ : Jb)) e0
    have e3 : (R.set i ⟨x.idn, x.rel + dd, x.due, x.mn⟩).set i (mvJ dd x) = R.set i (mvJ dd x) := List.set_set ..
    clear mk2 ex2 lj0 lj1 lj2 ls0 ls1 ls2
    repeat' (first | (refine gJ ?_; first | refine js rfl rfl rfl rfl ?_ | (refine gload rfl rfl ?_; refine j_qe rfl rfl rfl ?_; first | refine ⟨_, q_load_own rfl rfl rfl rfl (by (repeat constructor)) (by first | rfl | assumption), ?_⟩ | refine ⟨_, q_loadA_own rfl rfl rfl rfl (by (repeat constructor)) (by rfl), ?_⟩ | refine ⟨_, q_loadA_ext rfl rfl rfl rfl ⟨by assumption, (by first | exact id | assumption)⟩ (by rfl), ?_⟩ | refine ⟨_, q_load_ext rfl rfl rfl rfl ⟨by assumption, (by first | exact id | assumption)⟩ (by first | rfl | assumption), ?_⟩ | refine ⟨_, q_load_extb rfl rfl rfl rfl ⟨by assumption, (by first | exact id | assumption)⟩ (by rfl), ?_⟩ | refine ⟨_, q_loadA_extb rfl rfl rfl rfl ⟨by assumption, (by first | exact id | assumption)⟩ (by rfl), ?_⟩ | refine ⟨_, q_load_ext0 rfl rfl rfl rfl ⟨by assumption, (by first | exact id | assumption)⟩ (by rfl), ?_⟩) | refine jfield rfl rfl rfl rfl rfl rfl rfl rfl ?_ | refine jar rfl rfl rfl rfl rfl rfl rfl (by omega) ?_ | (refine j_qe rfl rfl rfl ?_; refine ⟨_, q_index_at i rfl rfl rfl rfl rfl (by omega), ?_⟩) | (refine j_qe rfl rfl rfl ?_; first | refine ⟨_, q_rowF (f := jbC) (l := R) (i := i) rfl rfl rfl rfl (by (repeat constructor)) (fun _ => rfl) e0 rfl, ?_⟩ | refine ⟨_, q_rowF (v := .int .i64 x.due) (f := jbC) (l := R.set i ⟨x.idn, x.rel + dd, x.due, x.mn⟩) (i := i) rfl rfl rfl rfl (by (repeat constructor)) (fun _ => rfl) e2 rfl, ?_⟩) | (refine gF ?_; refine j_store_rowF (f := jbC) (l := R) (i := i) (z' := (⟨x.idn, x.rel + dd, x.due, x.mn⟩ : Jb)) rfl rfl rfl rfl rfl rfl rfl rfl (by (repeat constructor)) (fun _ => rfl) e0 rfl rfl (by (repeat constructor)) ?_) | (refine gF ?_; refine j_store_rowF (f := jbC) (l := R.set i ⟨x.idn, x.rel + dd, x.due, x.mn⟩) (i := i) (z' := mvJ dd x) rfl rfl rfl rfl rfl rfl rfl rfl (by (repeat constructor)) (fun _ => rfl) e2 rfl rfl (by (repeat constructor)) ?_) | (refine gF ?_; first | refine j_store rfl rfl rfl rfl rfl rfl rfl rfl (by (repeat constructor)) (by rfl) ?_) | (refine j_qe rfl rfl rfl ?_; first | refine ⟨_, q_index_nat rfl rfl rfl rfl rfl (by omega), ?_⟩ | refine ⟨_, q_index_slice rfl rfl rfl rfl rfl (by omega), ?_⟩ | refine ⟨_, q_index_arr rfl rfl rfl rfl rfl (by omega), ?_⟩ | refine ⟨_, q_index_arr_ext rfl rfl rfl rfl rfl (by omega), ?_⟩ | refine ⟨_, q_len_slice rfl rfl rfl rfl, ?_⟩ | refine ⟨_, q_field_ext rfl rfl rfl rfl rfl, ?_⟩ | refine ⟨_, q_rem rfl rfl rfl (by omega), ?_⟩ | refine ⟨_, q_remt rfl rfl rfl (by omega), ?_⟩ | refine ⟨_, q_addu8 rfl rfl rfl (by omega), ?_⟩ | refine ⟨_, q_conv rfl rfl rfl rfl rfl rfl (by first | rfl | (exact i64_wrap (by omega) (by omega)) | (exact u8_wrap (by omega) (by omega)) | (exact u64_wrap (by omega) (by omega)) | (exact u16_wrap (by omega) (by omega))), ?_⟩) | refine j_guard_undef rfl rfl rfl rfl rfl ?_) | (refine gSC ?_; first | refine sc_mv rfl ?_ | refine sc_q rfl ?_ | refine sc_region ?_ | refine sc_draw rfl mixed (by kernel_rfl) ?_) | (refine gSQ ?_; first | refine sq_go rfl ?_ | refine sq_mv rfl ?_ | refine sq_ende (by first | exact .inl rfl | exact .inr rfl) rfl rfl ⟨_, (RVs.cons (RV.tmp rfl) (RVs.nil)), ?_⟩) | refine j_nil ?_ | ((first | refine j_guard rfl rfl rfl rfl rfl ?_ ?_ | refine sc_cond rfl ?_ ?_) <;> intro hc <;> (first | exact absurd hc (by decide) | ((try simp only [engHC] at hc) <;> first | (exfalso; omega) | exact absurd trivial hc | skip))))
    refine sq_loop (i + 1) ?_ ?_ ?_ ?_
    · show i + 1 ≤ n; omega
    · show n - (i + 1) < n - i; omega
    · exact (by (try dsimp only); exact (by repeat (first | exact FSub.nil | refine FSub.cons rfl ?_ | refine FSub.conse rfl (by congr 1; omega) ?_)))
    · (try dsimp only); rw [← e1, ← e3]; exact (by repeat (first | exact LSub.refl | refine LSub.cons (by repeat (first | exact Rem.here | apply Rem.there)) ?_ | apply LSub.skip))
  obtain rfl : i = n := by omega
  rw [lj2]
  clear lj0 lj1 lj2 lj5
  repeat' (first | (refine gJ ?_; first | refine js rfl rfl rfl rfl ?_ | (refine gload rfl rfl ?_; refine j_qe rfl rfl rfl ?_; first | refine ⟨_, q_load_own rfl rfl rfl rfl (by (repeat constructor)) (by first | rfl | assumption), ?_⟩ | refine ⟨_, q_loadA_own rfl rfl rfl rfl (by (repeat constructor)) (by rfl), ?_⟩ | refine ⟨_, q_loadA_ext rfl rfl rfl rfl ⟨by assumption, (by first | exact id | assumption)⟩ (by rfl), ?_⟩ | refine ⟨_, q_load_ext rfl rfl rfl rfl ⟨by assumption, (by first | exact id | assumption)⟩ (by first | rfl | assumption), ?_⟩ | refine ⟨_, q_load_extb rfl rfl rfl rfl ⟨by assumption, (by first | exact id | assumption)⟩ (by rfl), ?_⟩ | refine ⟨_, q_loadA_extb rfl rfl rfl rfl ⟨by assumption, (by first | exact id | assumption)⟩ (by rfl), ?_⟩ | refine ⟨_, q_load_ext0 rfl rfl rfl rfl ⟨by assumption, (by first | exact id | assumption)⟩ (by rfl), ?_⟩) | refine jfield rfl rfl rfl rfl rfl rfl rfl rfl ?_ | refine jar rfl rfl rfl rfl rfl rfl rfl (by omega) ?_ | (refine gF ?_; first | refine j_store rfl rfl rfl rfl rfl rfl rfl rfl (by (repeat constructor)) (by rfl) ?_) | (refine j_qe rfl rfl rfl ?_; first | refine ⟨_, q_index_nat rfl rfl rfl rfl rfl (by omega), ?_⟩ | refine ⟨_, q_index_slice rfl rfl rfl rfl rfl (by omega), ?_⟩ | refine ⟨_, q_index_arr rfl rfl rfl rfl rfl (by omega), ?_⟩ | refine ⟨_, q_index_arr_ext rfl rfl rfl rfl rfl (by omega), ?_⟩ | refine ⟨_, q_len_slice rfl rfl rfl rfl, ?_⟩ | refine ⟨_, q_field_ext rfl rfl rfl rfl rfl, ?_⟩ | refine ⟨_, q_rem rfl rfl rfl (by omega), ?_⟩ | refine ⟨_, q_remt rfl rfl rfl (by omega), ?_⟩ | refine ⟨_, q_addu8 rfl rfl rfl (by omega), ?_⟩ | refine ⟨_, q_conv rfl rfl rfl rfl rfl rfl (by first | rfl | (exact i64_wrap (by omega) (by omega)) | (exact u8_wrap (by omega) (by omega)) | (exact u64_wrap (by omega) (by omega)) | (exact u16_wrap (by omega) (by omega))), ?_⟩) | refine j_guard_undef rfl rfl rfl rfl rfl ?_) | (refine gSC ?_; first | refine sc_mv rfl ?_ | refine sc_q rfl ?_ | refine sc_region ?_ | refine sc_draw rfl mixed (by kernel_rfl) ?_) | (refine gSQ ?_; first | refine sq_go rfl ?_ | refine sq_mv rfl ?_ | refine sq_ende (by first | exact .inl rfl | exact .inr rfl) rfl rfl ⟨_, (RVs.cons (RV.tmp rfl) (RVs.nil)), ?_⟩) | refine j_nil ?_ | ((first | refine j_guard rfl rfl rfl rfl rfl ?_ ?_ | refine sc_cond rfl ?_ ?_) <;> intro hc <;> (first | exact absurd hc (by decide) | ((try simp only [engHC] at hc) <;> first | (exfalso; omega) | exact absurd trivial hc | skip))))
  refine sc_own_eq (xs' := (mvL (mvS dd) shifts 0).flatMap sfC) (v := .slice A2 m c2) (by repeat (first | exact Rem.here | apply Rem.there)) (by rw [ls5]) ?_
  refine sc_loop (ι := Nat) (fun j => j ≤ m) (fun j => m - j) (fun j => [(7, .slice A1 i c1), (8, .slice A2 m c2), (9, .slice A3 np c3), (10, .int .i64 0), (11, .int .i64 r), (12, .int .i64 e), (13, .bool sm), (14, .int .i64 0), (15, .int .i64 dd), (70, .slice A2 m c2), (71, .int .i64 m), (72, .int .i64 j)]) (fun j => [.own (.slice A2 m c2) 47 2 m ((mvL (mvS dd) shifts j).flatMap sfC), .own (.slice A3 np c3) 51 3 np (P.flatMap pcC), .own (.slice A1 i c1) 45 4 i ((jobs.map (mvJ dd)).flatMap jbC)]) 0 (Nat.zero_le _) (by (try dsimp only); exact (by repeat (first | exact FSub.nil | refine FSub.cons rfl ?_ | refine FSub.conse rfl (by congr 1; omega) ?_))) (by repeat (first | exact LSub.refl | refine LSub.cons (by repeat (first | exact Rem.here | apply Rem.there)) ?_ | apply LSub.skip)) ?_
  intro j hj
  try dsimp only at hj ⊢
  by_cases hlt2 : j < m
  · obtain ⟨x, hx⟩ : ∃ x, shifts[j]? = some x := ⟨_, List.getElem?_eq_getElem (by omega)⟩
    obtain ⟨A2, rfl⟩ : ∃ ad, A2 = some ad := by
      cases A2 with
      | none => have := (hs2.nil rfl).1; omega
      | some ad => exact ⟨ad, rfl⟩
    have e0 := ls0 j x hx
    have e1 := ls1 j x hx
    have g3 := hst x (List.mem_of_getElem? hx)
    have g4 := hsh x (List.mem_of_getElem? hx)
    generalize mvL (mvS dd) shifts j = R at *
    have e2 := set_at (y := (⟨x.frm + dd, x.to⟩ : Sf)) e0
    have e3 : (R.set j ⟨x.frm + dd, x.to⟩).set j (mvS dd x) = R.set j (mvS dd x) := List.set_set ..
    clear mk2 ex2 ls0 ls1 ls2
    repeat' (first | (refine gJ ?_; first | refine js rfl rfl rfl rfl ?_ | (refine gload rfl rfl ?_; refine j_qe rfl rfl rfl ?_; first | refine ⟨_, q_load_own rfl rfl rfl rfl (by (repeat constructor)) (by first | rfl | assumption), ?_⟩ | refine ⟨_, q_loadA_own rfl rfl rfl rfl (by (repeat constructor)) (by rfl), ?_⟩ | refine ⟨_, q_loadA_ext rfl rfl rfl rfl ⟨by assumption, (by first | exact id | assumption)⟩ (by rfl), ?_⟩ | refine ⟨_, q_load_ext rfl rfl rfl rfl ⟨by assumption, (by first | exact id | assumption)⟩ (by first | rfl | assumption), ?_⟩ | refine ⟨_, q_load_extb rfl rfl rfl rfl ⟨by assumption, (by first | exact id | assumption)⟩ (by rfl), ?_⟩ | refine ⟨_, q_loadA_extb rfl rfl rfl rfl ⟨by assumption, (by first | exact id | assumption)⟩ (by rfl), ?_⟩ | refine ⟨_, q_load_ext0 rfl rfl rfl rfl ⟨by assumption, (by first | exact id | assumption)⟩ (by rfl), ?_⟩) | refine jfield rfl rfl rfl rfl rfl rfl rfl rfl ?_ | refine jar rfl rfl rfl rfl rfl rfl rfl (by omega) ?_ | (refine j_qe rfl rfl rfl ?_; refine ⟨_, q_index_at j rfl rfl rfl rfl rfl (by omega), ?_⟩) | (refine j_qe rfl rfl rfl ?_; first | refine ⟨_, q_row1 (f := sfC) (l := R) (i := j) rfl rfl rfl rfl (by (repeat constructor)) (fun _ => rfl) e0 rfl, ?_⟩ | refine ⟨_, q_rowF (v := .int .i64 x.to) (f := sfC) (l := R.set j ⟨x.frm + dd, x.to⟩) (i := j) rfl rfl rfl rfl (by (repeat constructor)) (fun _ => rfl) e2 rfl, ?_⟩) | (refine gF ?_; refine j_store_row (f := sfC) (l := R) (i := j) (z' := (⟨x.frm + dd, x.to⟩ : Sf)) rfl rfl rfl rfl rfl rfl rfl rfl (by (repeat constructor)) (fun _ => rfl) e0 rfl rfl (by (repeat constructor)) ?_) | (refine gF ?_; refine j_store_rowF (f := sfC) (l := R.set j ⟨x.frm + dd, x.to⟩) (i := j) (z' := mvS dd x) rfl rfl rfl rfl rfl rfl rfl rfl (by (repeat constructor)) (fun _ => rfl) e2 rfl rfl (by (repeat constructor)) ?_) | (refine gF ?_; first | refine j_store rfl rfl rfl rfl rfl rfl rfl rfl (by (repeat constructor)) (by rfl) ?_) | (refine j_qe rfl rfl rfl ?_; first | refine ⟨_, q_index_nat rfl rfl rfl rfl rfl (by omega), ?_⟩ | refine ⟨_, q_index_slice rfl rfl rfl rfl rfl (by omega), ?_⟩ | refine ⟨_, q_index_arr rfl rfl rfl rfl rfl (by omega), ?_⟩ | refine ⟨_, q_index_arr_ext rfl rfl rfl rfl rfl (by omega), ?_⟩ | refine ⟨_, q_len_slice rfl rfl rfl rfl, ?_⟩ | refine ⟨_, q_field_ext rfl rfl rfl rfl rfl, ?_⟩ | refine ⟨_, q_rem rfl rfl rfl (by omega), ?_⟩ | refine ⟨_, q_remt rfl rfl rfl (by omega), ?_⟩ | refine ⟨_, q_addu8 rfl rfl rfl (by omega), ?_⟩ | refine ⟨_, q_conv rfl rfl rfl rfl rfl rfl (by first | rfl | (exact i64_wrap (by omega) (by omega)) | (exact u8_wrap (by omega) (by omega)) | (exact u64_wrap (by omega) (by omega)) | (exact u16_wrap (by omega) (by omega))), ?_⟩) | refine j_guard_undef rfl rfl rfl rfl rfl ?_) | (refine gSC ?_; first | refine sc_mv rfl ?_ | refine sc_q rfl ?_ | refine sc_region ?_ | refine sc_draw rfl mixed (by kernel_rfl) ?_) | (refine gSQ ?_; first | refine sq_go rfl ?_ | refine sq_mv rfl ?_ | refine sq_ende (by first | exact .inl rfl | exact .inr rfl) rfl rfl ⟨_, (RVs.cons (RV.tmp rfl) (RVs.nil)), ?_⟩) | refine j_nil ?_ | ((first | refine j_guard rfl rfl rfl rfl rfl ?_ ?_ | refine sc_cond rfl ?_ ?_) <;> intro hc <;> (first | exact absurd hc (by decide) | ((try simp only [engHC] at hc) <;> first | (exfalso; omega) | exact absurd trivial hc | skip))))
    refine sq_loop (j + 1) ?_ ?_ ?_ ?_
    · show j + 1 ≤ m; omega
    · show m - (j + 1) < m - j; omega
    · exact (by (try dsimp only); exact (by repeat (first | exact FSub.nil | refine FSub.cons rfl ?_ | refine FSub.conse rfl (by congr 1; omega) ?_)))
    · (try dsimp only); rw [← e1, ← e3]; exact (by repeat (first | exact LSub.refl | refine LSub.cons (by repeat (first | exact Rem.here | apply Rem.there)) ?_ | apply LSub.skip))
  obtain rfl : j = m := by omega
  rw [ls2]
  clear ls0 ls1 ls2 ls5
  rcases hrb with rfl | ⟨rfl, rfl, rfl, hrb⟩
  all_goals
    repeat' (first | (refine gJ ?_; first | refine js rfl rfl rfl rfl ?_ | (refine gload rfl rfl ?_; refine j_qe rfl rfl rfl ?_; first | refine ⟨_, q_load_own rfl rfl rfl rfl (by (repeat constructor)) (by first | rfl | assumption), ?_⟩ | refine ⟨_, q_loadA_own rfl rfl rfl rfl (by (repeat constructor)) (by rfl), ?_⟩ | refine ⟨_, q_loadA_ext rfl rfl rfl rfl ⟨by assumption, (by first | exact id | assumption)⟩ (by rfl), ?_⟩ | refine ⟨_, q_load_ext rfl rfl rfl rfl ⟨by assumption, (by first | exact id | assumption)⟩ (by first | rfl | assumption), ?_⟩ | refine ⟨_, q_load_extb rfl rfl rfl rfl ⟨by assumption, (by first | exact id | assumption)⟩ (by rfl), ?_⟩ | refine ⟨_, q_loadA_extb rfl rfl rfl rfl ⟨by assumption, (by first | exact id | assumption)⟩ (by rfl), ?_⟩ | refine ⟨_, q_load_ext0 rfl rfl rfl rfl ⟨by assumption, (by first | exact id | assumption)⟩ (by rfl), ?_⟩) | refine jfield rfl rfl rfl rfl rfl rfl rfl rfl ?_ | refine jar rfl rfl rfl rfl rfl rfl rfl (by omega) ?_ | (refine gcall rfl rfl ?_; first | (refine j_qc (f := 18) rfl rfl rfl rfl rfl rfl rfl ?_; refine ⟨_, (fun w' hs => ex2 _ _ _ _ w' hs1 (rs_own (f := jbC) (l := jobs.map (mvJ dd)) (fun _ => rfl) hs (by (repeat constructor)) lj4.symm rfl) (rs_own (f := sfC) (l := shifts.map (mvS dd)) (fun _ => rfl) hs (by (repeat constructor)) ls4.symm rfl)), ?_⟩)) | (refine gcall rfl rfl ?_; refine gF ?_; refine j_callN (f := 12) rfl rfl rfl rfl rfl rfl rfl (fun v : Value => .tuple #[v, .int .i64 0]) (fun _ => True) (fun v => [.own v 51 3 np ((P.map (mvP dd)).flatMap pcC)]) (fun w' hs => mk2 _ _ _ _ w' (rs_own (f := jbC) (l := jobs.map (mvJ dd)) (fun _ => rfl) hs (by (repeat constructor)) lj4.symm rfl) (rs_own (f := sfC) (l := shifts.map (mvS dd)) (fun _ => rfl) hs (by (repeat constructor)) ls4.symm rfl)) (fun _ => trivial) ?_; rintro v4 _; refine j_owns (v := v4) (by (repeat constructor)) ?_; rintro A4 c4 rfl hs4) | (refine j_qe rfl rfl rfl ?_; refine ⟨_, q_neqbr false rfl Try.underlying4 rfl rfl (by decide), ?_⟩) | (refine gF ?_; first | refine j_store rfl rfl rfl rfl rfl rfl rfl rfl (by (repeat constructor)) (by rfl) ?_) | (refine j_qe rfl rfl rfl ?_; first | refine ⟨_, q_index_nat rfl rfl rfl rfl rfl (by omega), ?_⟩ | refine ⟨_, q_index_slice rfl rfl rfl rfl rfl (by omega), ?_⟩ | refine ⟨_, q_index_arr rfl rfl rfl rfl rfl (by omega), ?_⟩ | refine ⟨_, q_index_arr_ext rfl rfl rfl rfl rfl (by omega), ?_⟩ | refine ⟨_, q_len_slice rfl rfl rfl rfl, ?_⟩ | refine ⟨_, q_field_ext rfl rfl rfl rfl rfl, ?_⟩ | refine ⟨_, q_rem rfl rfl rfl (by omega), ?_⟩ | refine ⟨_, q_remt rfl rfl rfl (by omega), ?_⟩ | refine ⟨_, q_addu8 rfl rfl rfl (by omega), ?_⟩ | refine ⟨_, q_conv rfl rfl rfl rfl rfl rfl (by first | rfl | (exact i64_wrap (by omega) (by omega)) | (exact u8_wrap (by omega) (by omega)) | (exact u64_wrap (by omega) (by omega)) | (exact u16_wrap (by omega) (by omega))), ?_⟩) | refine j_guard_undef rfl rfl rfl rfl rfl ?_) | (refine gSC ?_; first | refine sc_mv rfl ?_ | refine sc_q rfl ?_ | refine sc_region ?_ | refine sc_draw rfl mixed (by kernel_rfl) ?_) | (refine gSQ ?_; first | refine sq_go rfl ?_ | refine sq_mv rfl ?_ | refine sq_ende (by first | exact .inl rfl | exact .inr rfl) rfl rfl ⟨_, (RVs.cons (RV.tmp rfl) (RVs.nil)), ?_⟩) | refine j_nil ?_ | ((first | refine j_guard rfl rfl rfl rfl rfl ?_ ?_ | refine sc_cond rfl ?_ ?_) <;> intro hc <;> (first | exact absurd hc (by decide) | ((try simp only [engHC] at hc) <;> first | (exfalso; omega) | exact absurd trivial hc | skip))))
    clear mk2 ex2
    refine sc_loop (ι := Nat) (fun k => k ≤ np) (fun k => np - k) (fun k => [(9, .slice A3 np c3), (15, .int .i64 dd), (18, .slice A4 np c4), (145, .slice A3 np c3), (146, .int .i64 np), (147, .int .i64 k)]) (fun _ => [.own (.slice A4 np c4) 51 3 np ((P.map (mvP dd)).flatMap pcC), .own (.slice A3 np c3) 51 3 np (P.flatMap pcC)]) 0 (Nat.zero_le _) (by (try dsimp only); exact (by repeat (first | exact FSub.nil | refine FSub.cons rfl ?_ | refine FSub.conse rfl (by congr 1; omega) ?_))) (by repeat (first | exact LSub.refl | refine LSub.cons (by repeat (first | exact Rem.here | apply Rem.there)) ?_ | apply LSub.skip)) ?_
    intro k hk
    try dsimp only at hk ⊢
    by_cases hlt5 : k < np
    · obtain ⟨q, hq⟩ : ∃ q, P[k]? = some q := ⟨_, List.getElem?_eq_getElem (by omega)⟩
      have hq2 : (P.map (mvP dd))[k]? = some (mvP dd q) := by rw [List.getElem?_map, hq]; rfl
      obtain ⟨A3, rfl⟩ : ∃ ad, A3 = some ad := by
        cases A3 with
        | none => have := (hs3.nil rfl).1; omega
        | some ad => exact ⟨ad, rfl⟩
      obtain ⟨A4, rfl⟩ : ∃ ad, A4 = some ad := by
        cases A4 with
        | none => have := (hs4.nil rfl).1; omega
        | some ad => exact ⟨ad, rfl⟩
      have g3 := htp q (List.mem_of_getElem? hq)
      repeat' (first | (refine gJ ?_; first | refine js rfl rfl rfl rfl ?_ | (refine gload rfl rfl ?_; refine j_qe rfl rfl rfl ?_; first | refine ⟨_, q_load_own rfl rfl rfl rfl (by (repeat constructor)) (by first | rfl | assumption), ?_⟩ | refine ⟨_, q_loadA_own rfl rfl rfl rfl (by (repeat constructor)) (by rfl), ?_⟩ | refine ⟨_, q_loadA_ext rfl rfl rfl rfl ⟨by assumption, (by first | exact id | assumption)⟩ (by rfl), ?_⟩ | refine ⟨_, q_load_ext rfl rfl rfl rfl ⟨by assumption, (by first | exact id | assumption)⟩ (by first | rfl | assumption), ?_⟩ | refine ⟨_, q_load_extb rfl rfl rfl rfl ⟨by assumption, (by first | exact id | assumption)⟩ (by rfl), ?_⟩ | refine ⟨_, q_loadA_extb rfl rfl rfl rfl ⟨by assumption, (by first | exact id | assumption)⟩ (by rfl), ?_⟩ | refine ⟨_, q_load_ext0 rfl rfl rfl rfl ⟨by assumption, (by first | exact id | assumption)⟩ (by rfl), ?_⟩) | refine jfield rfl rfl rfl rfl rfl rfl rfl rfl ?_ | refine jar rfl rfl rfl rfl rfl rfl rfl (by omega) ?_ | (refine j_qe rfl rfl rfl ?_; refine ⟨_, q_index_at k rfl rfl rfl rfl rfl (by omega), ?_⟩) | (refine j_qe rfl rfl rfl ?_; first | refine ⟨_, q_row1 (f := pcC) (l := P) (i := k) rfl rfl rfl rfl (by (repeat constructor)) (fun _ => rfl) hq rfl, ?_⟩ | refine ⟨_, q_row1 (v := .int .i64 q.jb) (f := pcC) (l := P.map (mvP dd)) (i := k) rfl rfl rfl rfl (by (repeat constructor)) (fun _ => rfl) hq2 rfl, ?_⟩) | (refine j_qe rfl rfl rfl ?_; first | refine ⟨_, q_rowF (f := pcC) (l := P) (i := k) rfl rfl rfl rfl (by (repeat constructor)) (fun _ => rfl) hq rfl, ?_⟩ | refine ⟨_, q_rowF (v := .int .i64 (q.frm + dd)) (f := pcC) (l := P.map (mvP dd)) (i := k) rfl rfl rfl rfl (by (repeat constructor)) (fun _ => rfl) hq2 rfl, ?_⟩ | refine ⟨_, q_rowF (v := .int .i64 (q.to + dd)) (f := pcC) (l := P.map (mvP dd)) (i := k) rfl rfl rfl rfl (by (repeat constructor)) (fun _ => rfl) hq2 rfl, ?_⟩) | (refine gF ?_; first | refine j_store rfl rfl rfl rfl rfl rfl rfl rfl (by (repeat constructor)) (by rfl) ?_) | (refine j_qe rfl rfl rfl ?_; first | refine ⟨_, q_index_nat rfl rfl rfl rfl rfl (by omega), ?_⟩ | refine ⟨_, q_index_slice rfl rfl rfl rfl rfl (by omega), ?_⟩ | refine ⟨_, q_index_arr rfl rfl rfl rfl rfl (by omega), ?_⟩ | refine ⟨_, q_index_arr_ext rfl rfl rfl rfl rfl (by omega), ?_⟩ | refine ⟨_, q_len_slice rfl rfl rfl rfl, ?_⟩ | refine ⟨_, q_field_ext rfl rfl rfl rfl rfl, ?_⟩ | refine ⟨_, q_rem rfl rfl rfl (by omega), ?_⟩ | refine ⟨_, q_remt rfl rfl rfl (by omega), ?_⟩ | refine ⟨_, q_addu8 rfl rfl rfl (by omega), ?_⟩ | refine ⟨_, q_conv rfl rfl rfl rfl rfl rfl (by first | rfl | (exact i64_wrap (by omega) (by omega)) | (exact u8_wrap (by omega) (by omega)) | (exact u64_wrap (by omega) (by omega)) | (exact u16_wrap (by omega) (by omega))), ?_⟩) | refine j_guard_undef rfl rfl rfl rfl rfl ?_) | (refine gSC ?_; first | refine sc_mv rfl ?_ | refine sc_q rfl ?_ | refine sc_region ?_ | refine sc_draw rfl mixed (by kernel_rfl) ?_) | (refine gSQ ?_; first | refine sq_go rfl ?_ | refine sq_mv rfl ?_ | refine sq_ende (by first | exact .inl rfl | exact .inr rfl) rfl rfl ⟨_, (RVs.cons (RV.tmp rfl) (RVs.nil)), ?_⟩) | refine j_nil ?_ | ((first | refine j_guard rfl rfl rfl rfl rfl ?_ ?_ | refine sc_cond rfl ?_ ?_) <;> intro hc <;> (first | exact absurd hc (by decide) | ((try simp only [engHC] at hc) <;> first | (exfalso; omega) | exact absurd trivial hc | skip))))
      all_goals first
        | (exfalso; omega)
        | (refine sq_loop (k + 1) ?_ ?_ ?_ ?_
           · show k + 1 ≤ np; omega
           · show np - (k + 1) < np - k; omega
           · exact (by (try dsimp only); exact (by repeat (first | exact FSub.nil | refine FSub.cons rfl ?_ | refine FSub.conse rfl (by congr 1; omega) ?_)))
           · exact (by repeat (first | exact LSub.refl | refine LSub.cons (by repeat (first | exact Rem.here | apply Rem.there)) ?_ | apply LSub.skip)))
    · repeat' (first | (refine gJ ?_; first | refine js rfl rfl rfl rfl ?_ | (refine gload rfl rfl ?_; refine j_qe rfl rfl rfl ?_; first | refine ⟨_, q_load_own rfl rfl rfl rfl (by (repeat constructor)) (by first | rfl | assumption), ?_⟩ | refine ⟨_, q_loadA_own rfl rfl rfl rfl (by (repeat constructor)) (by rfl), ?_⟩ | refine ⟨_, q_loadA_ext rfl rfl rfl rfl ⟨by assumption, (by first | exact id | assumption)⟩ (by rfl), ?_⟩ | refine ⟨_, q_load_ext rfl rfl rfl rfl ⟨by assumption, (by first | exact id | assumption)⟩ (by first | rfl | assumption), ?_⟩ | refine ⟨_, q_load_extb rfl rfl rfl rfl ⟨by assumption, (by first | exact id | assumption)⟩ (by rfl), ?_⟩ | refine ⟨_, q_loadA_extb rfl rfl rfl rfl ⟨by assumption, (by first | exact id | assumption)⟩ (by rfl), ?_⟩ | refine ⟨_, q_load_ext0 rfl rfl rfl rfl ⟨by assumption, (by first | exact id | assumption)⟩ (by rfl), ?_⟩) | refine jfield rfl rfl rfl rfl rfl rfl rfl rfl ?_ | refine jar rfl rfl rfl rfl rfl rfl rfl (by omega) ?_ | (refine gcall rfl rfl ?_; first | (refine j_qc (f := 17) rfl rfl rfl rfl rfl rfl rfl ?_; refine ⟨_, (fun w' _ => awake_c w'), ?_⟩)) | (refine gF ?_; first | refine j_store rfl rfl rfl rfl rfl rfl rfl rfl (by (repeat constructor)) (by rfl) ?_) | (refine j_qe rfl rfl rfl ?_; first | refine ⟨_, q_index_nat rfl rfl rfl rfl rfl (by omega), ?_⟩ | refine ⟨_, q_index_slice rfl rfl rfl rfl rfl (by omega), ?_⟩ | refine ⟨_, q_index_arr rfl rfl rfl rfl rfl (by omega), ?_⟩ | refine ⟨_, q_index_arr_ext rfl rfl rfl rfl rfl (by omega), ?_⟩ | refine ⟨_, q_len_slice rfl rfl rfl rfl, ?_⟩ | refine ⟨_, q_field_ext rfl rfl rfl rfl rfl, ?_⟩ | refine ⟨_, q_rem rfl rfl rfl (by omega), ?_⟩ | refine ⟨_, q_remt rfl rfl rfl (by omega), ?_⟩ | refine ⟨_, q_addu8 rfl rfl rfl (by omega), ?_⟩ | refine ⟨_, q_conv rfl rfl rfl rfl rfl rfl (by first | rfl | (exact i64_wrap (by omega) (by omega)) | (exact u8_wrap (by omega) (by omega)) | (exact u64_wrap (by omega) (by omega)) | (exact u16_wrap (by omega) (by omega))), ?_⟩) | refine j_guard_undef rfl rfl rfl rfl rfl ?_) | (refine gSC ?_; first | refine sc_mv rfl ?_ | refine sc_q rfl ?_ | refine sc_region ?_ | refine sc_draw rfl mixed (by kernel_rfl) ?_) | (refine gSQ ?_; first | refine sq_go rfl ?_ | refine sq_mv rfl ?_ | refine sq_ende (by first | exact .inl rfl | exact .inr rfl) rfl rfl ⟨_, (RVs.cons (RV.tmp rfl) (RVs.nil)), ?_⟩) | refine j_nil ?_ | ((first | refine j_guard rfl rfl rfl rfl rfl ?_ ?_ | refine sc_cond rfl ?_ ?_) <;> intro hc <;> (first | exact absurd hc (by decide) | ((try simp only [engHC] at hc) <;> first | (exfalso; omega) | exact absurd trivial hc | skip))))
      all_goals first
        | (exfalso; omega)
        | (intro w' hS; refine ⟨?_, hS.below⟩; simp only [pack])
end Go.Proofs.Ythbchbiadcjnkaa
