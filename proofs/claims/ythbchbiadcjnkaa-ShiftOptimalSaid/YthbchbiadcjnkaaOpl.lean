/-
  ShiftOptimal.
-/
import Derived.Test.YthbchbiadcjnkaaOpm
namespace Go.Proofs.Ythbchbiadcjnkaa
open Go.RowKit Eng
set_option linter.unusedVariables false
set_option linter.unusedSimpArgs false
set_option maxHeartbeats 8000000
attribute [local irreducible] SC SQ J Qt Calls Iterates LSub FSub
set_option maxRecDepth 8000 in
set_option maxHeartbeats 16000000 in
theorem Optimal_c (A : Option Addr) (c : Nat) (l : List Tk) (B : Option Addr) (d : Nat) (g : List Gp) (D : Option Addr) (f : Nat) (picks : List Int) (w : World) (hl : l.length ≤ 9223372036854775807) (hl2 : g.length ≤ 9223372036854775807) (hl3 : picks.length ≤ 9223372036854775807) (hok : ∀ x ∈ l, tkOk x) (hog : ∀ x ∈ g, gpOk x) (hpk : ∀ y ∈ picks, 0 ≤ y ∧ y ≤ 255) (h : RS w 3 tkC A l) (h2 : RS w 2 gpC B g) (h3 : RS w 1 u8C D picks) :
    Calls Try.prog 3 #[.slice A l.length c, .slice B g.length d, .slice D picks.length f] w fun e w' => e = .returned (.bool true) ∧ Below w.heap.size w w' := by
  have hwk := fun w' h => work_c A c l w' hl hok h
  have hhr := fun w' h => hours_c B d g w' hl2 hog h
  have hsm := sml_small hok hog
  generalize workF l = jobs at *
  generalize hoursF g = shifts at *
  generalize (edfS jobs shifts).2 = P at hsm
  have hj8 := hsm.j8
  have hs8 := hsm.s8
  have hp8 := hsm.pl
  have mk1 := fun A c B d w' h h2 => Make_c A c jobs B d shifts w' (by omega) (by omega) h h2
  rw [hsm.mkp] at mk1
  have ot1 := fun A c B d w' h h2 h3 => other_c A c jobs B d shifts D f picks w' hsm hl3 hpk h h2 h3
  have hdu : ∀ x ∈ jobs, 0 ≤ x.due ∧ x.due ≤ 63 := fun x hx => by
    have g1 := hsm.jo x hx
    unfold okJ at g1
    omega
  have lt1 := fun A c B d w' h h2 => Late_c A c jobs B d P w' (by omega) (by omega) hsm.okp h h2
  have wo1 := fun A c B d w' h h2 => worst_c A c jobs B d P w' (by omega) (by omega) hsm.tp hdu (fun x _ => endOf_big hsm.tp x) h h2
  -- what another schedule b gives
  have hb : ∀ b : List Pc, valid jobs shifts b → (b.length : Int) ≤ 248 ∧ (ckF jobs shifts b = (0, 0)) ∧ (0 < (lateL jobs P).length → 0 < (lateL jobs b).length) ∧ ((worF jobs b).2 = true → (worF jobs P).2 = true ∧ (worF jobs P).1 ≤ (worF jobs b).1) := fun b hv => by
    have h9 := valid_len (T := 248) (by omega) hsm.st hv
    exact ⟨h9.1, ckF_ok hv (by omega) (by rw [hsm.al]), fun hh => late_best hsm hv hh, fun hh => wor_best hsm hv hh⟩
  have ck1 := fun b (hv : valid jobs shifts b) A c B d D f w' h h2 h3 => Check_c A c jobs B d shifts D f b w' (by omega) (by omega) (by have := (hb b hv).1; omega) h h2 h3
  have lt2 := fun b (hv : valid jobs shifts b) A c B d w' h h2 => Late_c A c jobs B d b w' (by omega) (by have := (hb b hv).1; omega) (okp_of (valid_len (T := 248) (by omega) hsm.st hv).2) h h2
  have wo2 := fun b (hv : valid jobs shifts b) A c B d w' h h2 => worst_c A c jobs B d b w' (by omega) (by have := (hb b hv).1; omega) (valid_len (T := 248) (by omega) hsm.st hv).2 hdu (fun x _ => endOf_big (valid_len (T := 248) (by omega) hsm.st hv).2 x) h h2
  clear hsm hdu
  have hll := lateL_len jobs P
  obtain ⟨n, hn⟩ : ∃ n, n = jobs.length := ⟨_, rfl⟩
  obtain ⟨m, hm⟩ : ∃ n, n = shifts.length := ⟨_, rfl⟩
  obtain ⟨np, hnp⟩ : ∃ n, n = P.length := ⟨_, rfl⟩
  obtain ⟨q3, hq3⟩ : ∃ n, n = picks.length := ⟨_, rfl⟩
  rw [← hq3] at ot1 ⊢
  rw [← hn] at hwk mk1 ot1 lt1 wo1 ck1 lt2 wo2 hj8 hll
  rw [← hm] at hhr mk1 ot1 ck1 hs8
  rw [← hnp] at mk1 lt1 wo1 hp8
  generalize l.length = q1 at *
  generalize g.length = q2 at *
  generalize (lateL jobs P).length = nl at *
  generalize (lateL jobs P).flatMap intC = xl at *
  generalize worF jobs P = W1 at *
  dsimp only at mk1
  refine eng_start (n := 91) (args := [.slice A q1 c, .slice B q2 d, .slice D q3 f]) tab tab_ok fns fns_ok [.tmp 6] Try.func3 rfl rfl rfl rfl ?_
  repeat' (first | (refine gJ ?_; first | refine js rfl rfl rfl rfl ?_ | (refine gcall rfl rfl ?_; refine gF ?_; refine j_callN (f := 10) rfl rfl rfl rfl rfl rfl rfl (fun v : Value => v) (fun _ => True) (fun v => [.own v 45 4 n (jobs.flatMap jbC)]) (fun w' hs => hwk w' (h.st hs)) (fun _ => trivial) ?_; rintro v1 _; refine j_owns (v := v1) (by (repeat constructor)) ?_; rintro A1 c1 rfl hs1) | (refine gcall rfl rfl ?_; refine gF ?_; refine j_callN (f := 11) rfl rfl rfl rfl rfl rfl rfl (fun v : Value => v) (fun _ => True) (fun v => [.own v 47 2 m (shifts.flatMap sfC)]) (fun w' hs => hhr w' (h2.st hs)) (fun _ => trivial) ?_; rintro v2 _; refine j_owns (v := v2) (by (repeat constructor)) ?_; rintro A2 c2 rfl hs2) | (refine gcall rfl rfl ?_; refine gF ?_; refine j_callN (f := 12) rfl rfl rfl rfl rfl rfl rfl (fun v : Value => .tuple #[v, .int .i64 0]) (fun _ => True) (fun v => [.own v 51 3 np (P.flatMap pcC)]) (fun w' hs => mk1 _ _ _ _ w' (rs_own (f := jbC) (l := jobs) (fun _ => rfl) hs (by (repeat constructor)) hn rfl) (rs_own (f := sfC) (l := shifts) (fun _ => rfl) hs (by (repeat constructor)) hm rfl)) (fun _ => trivial) ?_; rintro v3 _; refine j_owns (v := v3) (by (repeat constructor)) ?_; rintro A3 c3 rfl hs3) | (refine gcall rfl rfl ?_; refine gF ?_; refine j_callN (f := 13) rfl rfl rfl rfl rfl rfl rfl (fun q : Value × List Pc => q.1) (fun q => valid jobs shifts q.2) (fun q => [.own q.1 51 3 q.2.length (q.2.flatMap pcC)]) (fun w' hs => ot1 _ _ _ _ w' (rs_own (f := jbC) (l := jobs) (fun _ => rfl) hs (by (repeat constructor)) hn rfl) (rs_own (f := sfC) (l := shifts) (fun _ => rfl) hs (by (repeat constructor)) hm rfl) (h3.st hs)) (fun _ => trivial) ?_; rintro ⟨v4, b⟩ hv; dsimp only at hv ⊢; refine j_owns (v := v4) (by (repeat constructor)) ?_; rintro A4 c4 rfl hs4) | (refine j_qe rfl rfl rfl ?_; first | refine ⟨_, q_len_slice rfl rfl rfl rfl, ?_⟩) | refine j_guard_undef rfl rfl rfl rfl rfl ?_) | (refine gSC ?_; first | refine sc_stop 6 ?_ | refine sc_mv rfl ?_ | refine sc_q rfl ?_ | refine sc_region ?_) | (refine gSQ ?_; first | refine sq_go rfl ?_ | refine sq_mv rfl ?_ | refine sq_ende (by first | exact .inl rfl | exact .inr rfl) rfl rfl ⟨_, (RVs.cons (RV.tmp rfl) (RVs.nil)), ?_⟩) | refine j_nil ?_ | ((first | refine j_guard rfl rfl rfl rfl rfl ?_ ?_ | refine sc_cond rfl ?_ ?_) <;> intro hc <;> (first | exact absurd hc (by decide) | ((try simp only [engHC] at hc) <;> first | (exfalso; omega) | exact absurd trivial hc | skip))))
  refine ⟨?_⟩
  obtain ⟨hb1, hb2, hb3, hb4⟩ := hb b hv
  have ck2 := ck1 b hv
  have lt3 := lt2 b hv
  have wo3 := wo2 b hv
  have hll2 := lateL_len jobs b
  rw [hb2] at ck2
  rw [← hn] at hll2
  clear hb ck1 lt2 wo2 ot1 hb2
  obtain ⟨nb, hnb⟩ : ∃ n, n = b.length := ⟨_, rfl⟩
  rw [← hnb] at ck2 lt3 wo3 hb1 ⊢
  generalize (lateL jobs b).length = nl2 at *
  generalize (lateL jobs b).flatMap intC = xl2 at *
  generalize worF jobs b = W2 at *
  obtain ⟨a1, p1⟩ := W1
  obtain ⟨a2, p2⟩ := W2
  dsimp only at wo1 wo3 hb4 ck2
  have hcs : (p2 = false) ∨ (p2 = true ∧ p1 = true ∧ a1 ≤ a2) := by
    cases p2 with
    | false => exact .inl rfl
    | true => exact .inr ⟨rfl, hb4 rfl⟩
  clear hb4
  rcases hcs with rfl | ⟨rfl, rfl, hle⟩
  all_goals
    repeat' (first | (refine gJ ?_; first | refine js rfl rfl rfl rfl ?_ | (refine gcall rfl rfl ?_; first | (refine j_qc (f := 14) rfl rfl rfl rfl rfl rfl rfl ?_; refine ⟨_, (fun w' hs => ck2 _ _ _ _ _ _ w' (rs_own (f := jbC) (l := jobs) (fun _ => rfl) hs (by (repeat constructor)) hn rfl) (rs_own (f := sfC) (l := shifts) (fun _ => rfl) hs (by (repeat constructor)) hm rfl) (rs_own (f := pcC) (l := b) (fun _ => rfl) hs (by (repeat constructor)) hnb rfl)), ?_⟩) | (refine j_qc (f := 16) rfl rfl rfl rfl rfl rfl rfl ?_; refine ⟨_, (fun w' hs => wo1 _ _ _ _ w' (rs_own (f := jbC) (l := jobs) (fun _ => rfl) hs (by (repeat constructor)) hn rfl) (rs_own (f := pcC) (l := P) (fun _ => rfl) hs (by (repeat constructor)) hnp rfl)), ?_⟩) | (refine j_qc (f := 16) rfl rfl rfl rfl rfl rfl rfl ?_; refine ⟨_, (fun w' hs => wo3 _ _ _ _ w' (rs_own (f := jbC) (l := jobs) (fun _ => rfl) hs (by (repeat constructor)) hn rfl) (rs_own (f := pcC) (l := b) (fun _ => rfl) hs (by (repeat constructor)) hnb rfl)), ?_⟩) | (refine j_qc (f := 17) rfl rfl rfl rfl rfl rfl rfl ?_; refine ⟨_, (fun w' _ => awake_c w'), ?_⟩)) | (refine gcall rfl rfl ?_; refine gF ?_; refine j_callN (f := 15) rfl rfl rfl rfl rfl rfl rfl (fun v : Value => v) (fun _ => True) (fun v => [.own v 3 1 nl2 xl2]) (fun w' hs => lt3 _ _ _ _ w' (rs_own (f := jbC) (l := jobs) (fun _ => rfl) hs (by (repeat constructor)) hn rfl) (rs_own (f := pcC) (l := b) (fun _ => rfl) hs (by (repeat constructor)) hnb rfl)) (fun _ => trivial) ?_; rintro v5 _; refine j_owns (v := v5) (by (repeat constructor)) ?_; rintro A5 c5 rfl hs5) | (refine gcall rfl rfl ?_; refine gF ?_; refine j_callN (f := 15) rfl rfl rfl rfl rfl rfl rfl (fun v : Value => v) (fun _ => True) (fun v => [.own v 3 1 nl xl]) (fun w' hs => lt1 _ _ _ _ w' (rs_own (f := jbC) (l := jobs) (fun _ => rfl) hs (by (repeat constructor)) hn rfl) (rs_own (f := pcC) (l := P) (fun _ => rfl) hs (by (repeat constructor)) hnp rfl)) (fun _ => trivial) ?_; rintro v6 _; refine j_owns (v := v6) (by (repeat constructor)) ?_; rintro A6 c6 rfl hs6) | (refine j_qe rfl rfl rfl ?_; first | refine ⟨_, q_len_slice rfl rfl rfl rfl, ?_⟩) | refine j_guard_undef rfl rfl rfl rfl rfl ?_) | (refine gSC ?_; first | refine sc_mv rfl ?_ | refine sc_q rfl ?_ | refine sc_region ?_) | (refine gSQ ?_; first | refine sq_go rfl ?_ | refine sq_mv rfl ?_ | refine sq_ende (by first | exact .inl rfl | exact .inr rfl) rfl rfl ⟨_, (RVs.cons (RV.tmp rfl) (RVs.nil)), ?_⟩) | refine j_nil ?_ | ((first | refine j_guard rfl rfl rfl rfl rfl ?_ ?_ | refine sc_cond rfl ?_ ?_) <;> intro hc <;> (first | exact absurd hc (by decide) | ((try simp only [engHC] at hc) <;> first | (exfalso; omega) | exact absurd trivial hc | skip))))
    all_goals first
      | (exfalso; omega)
      | (intro w' hS; refine ⟨?_, hS.below⟩; simp only [pack])
end Go.Proofs.Ythbchbiadcjnkaa
