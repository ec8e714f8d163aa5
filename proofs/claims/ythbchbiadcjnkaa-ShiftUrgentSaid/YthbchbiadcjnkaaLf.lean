/-
  In one text: Pd0, Pd1, Pd2, Pd3, Pd4, Lc, Lf.
-/
import Derived.Test.YthbchbiadcjnkaaPc0
import Derived.Test.YthbchbiadcjnkaaAw3
import Derived.Test.YthbchbiadcjnkaaWk
/-
  Jobs and shifts in small numbers: all that is known of their plan. No program in sight.
-/
namespace Go.Proofs.Ythbchbiadcjnkaa
theorem wf_len {T : Int} : ∀ {l : List Pc} {a : Int}, a ≤ T → l.Pairwise (fun p q => p.to ≤ q.frm) → (∀ p ∈ l, a ≤ p.frm ∧ p.frm < p.to ∧ p.to ≤ T) → (l.length : Int) ≤ T - a
  | [], a, h, _, _ => by simp only [List.length_nil]; omega
  | p :: m, a, h, hw, hr => by
    obtain ⟨h1, h2⟩ := List.pairwise_cons.1 hw
    have hp := hr p List.mem_cons_self
    have := wf_len (T := T) (l := m) (a := p.to) hp.2.2 h2 (fun q hq => by have := hr q (List.mem_cons_of_mem _ hq); have := h1 q hq; omega)
    rw [List.length_cons]
    push_cast
    omega
structure Sml (jobs : List Jb) (shifts : List Sf) (P : List Pc) : Prop where
  is : (edfS jobs shifts).2 = P
  j8 : jobs.length ≤ 8
  s8 : shifts.length ≤ 8
  jo : ∀ x ∈ jobs, okJ x ∧ x.idn ≤ 9 ∧ x.rel ≤ 63 ∧ x.due ≤ 63 ∧ x.mn ≤ 8
  sh : okSh 0 shifts
  st : ∀ x ∈ shifts, x.to ≤ 248
  al : allF jobs shifts = (0, 0)
  jd : okJd jobs
  va : valid jobs shifts P
  wi : ∀ p ∈ P, withinB shifts p = true
  tp : ∀ p ∈ P, 0 ≤ p.frm ∧ p.frm < p.to ∧ p.to ≤ 248
  pl : P.length ≤ 248
  ck : ckF jobs shifts P = (0, 0)
theorem within_to {shifts : List Sf} {T : Int} (h : ∀ x ∈ shifts, x.to ≤ T) {p : Pc} (hp : withinB shifts p = true) : p.to ≤ T := by
  unfold withinB at hp
  obtain ⟨s, hs, e⟩ := List.any_eq_true.1 hp
  have := of_decide_eq_true e
  have := h s hs
  omega
theorem valid_in {jobs : List Jb} {shifts : List Sf} {l : List Pc} (h : valid jobs shifts l) : ∀ p ∈ l, withinB shifts p = true := fun p hp => by
  obtain ⟨i, hi⟩ := List.getElem?_of_mem hp
  obtain ⟨_, _, _, _, _, _, h6, _⟩ := h i p hi
  exact h6
/-- A valid schedule has less than its last shift's end slices. -/
theorem valid_len {jobs : List Jb} {shifts : List Sf} {l : List Pc} {T : Int} (h0 : 0 ≤ T) (ht : ∀ x ∈ shifts, x.to ≤ T) (h : valid jobs shifts l) : (l.length : Int) ≤ T ∧ ∀ p ∈ l, 0 ≤ p.frm ∧ p.frm < p.to ∧ p.to ≤ T := by
  have hw := valid_wf h
  have hr : ∀ p ∈ l, 0 ≤ p.frm ∧ p.frm < p.to ∧ p.to ≤ T := fun p hp => ⟨(hw.rng p hp).1, (hw.rng p hp).2, within_to ht (valid_in h p hp)⟩
  have := wf_len h0 hw.wf hr
  exact ⟨by omega, hr⟩
theorem sml_of {jobs : List Jb} {shifts : List Sf} (j8 : jobs.length ≤ 8) (s8 : shifts.length ≤ 8) (jo : ∀ x ∈ jobs, okJ x ∧ x.idn ≤ 9 ∧ x.rel ≤ 63 ∧ x.due ≤ 63 ∧ x.mn ≤ 8) (un : uniq jobs) (sh : okSh 0 shifts) (st : ∀ x ∈ shifts, x.to ≤ 248) :
    Sml jobs shifts (edfS jobs shifts).2 := by
  have al : allF jobs shifts = (0, 0) := allF_no (by omega) (by omega) (fun x hx => (jo x hx).1) un sh (fun x hx => by have := st x hx; omega)
  have jd : okJd jobs := allF_jd (shifts := shifts) (by rw [al])
  have va := edf_valid jd.js sh
  obtain ⟨hl, tp⟩ := valid_len (T := 248) (by omega) st va
  exact ⟨rfl, j8, s8, jo, sh, st, al, jd, va, valid_in va, tp, by omega, ckF_ok va (by omega) (by rw [al])⟩
theorem sml_small {l : List Tk} {g : List Gp} (hl : ∀ x ∈ l, tkOk x) (hg : ∀ x ∈ g, gpOk x) : Sml (workF l) (hoursF g) (edfS (workF l) (hoursF g)).2 :=
  sml_of (workF_len l) (hoursF_len g) (workF_ok hl) (workF_uniq l) (hoursF_ok hg).1 (hoursF_ok hg).2
theorem Sml.late {jobs : List Jb} {shifts : List Sf} {P : List Pc} (h : Sml jobs shifts P) : (0 < (lateL jobs P).length) ↔ (excF jobs shifts).isSome = true := by
  rw [← late_exc h.jd h.sh, h.is]
  unfold lateL
  rw [List.length_map, List.length_pos_iff_exists_mem]
  constructor
  · rintro ⟨x, hx⟩
    obtain ⟨h1, h2⟩ := List.mem_filter.1 hx
    exact ⟨x, h1, h2⟩
  · rintro ⟨x, h1, h2⟩
    exact ⟨x, List.mem_filter.2 ⟨h1, h2⟩⟩
theorem Sml.m0 {jobs : List Jb} {shifts : List Sf} {P : List Pc} (h : Sml jobs shifts P) : ∀ x ∈ jobs, 0 ≤ x.mn := fun x hx => by have := (h.jo x hx).1; unfold okJ at this; omega
/-! ### The minutes of an interval, one by one -/
def cov (a b f t : Int) : Int := max 0 (min b t - max a f)
end Go.Proofs.Ythbchbiadcjnkaa

/-
  Minute by minute over all shifts: what the law's own count meets. No program in sight.
-/
namespace Go.Proofs.Ythbchbiadcjnkaa
theorem gap_out {shifts : List Sf} {i : Nat} {T : Int} {x : Sf} (hx : shifts[i]? = some x) (h1 : ∀ y ∈ shifts.take i, y.to ≤ T) (h2 : okSh T (shifts.drop i)) : ∀ u : Nat, T ≤ u → (u : Int) < x.frm → inSB shifts u = false := fun u h3 h4 => by
  cases hd : inSB shifts u with
  | false => rfl
  | true =>
    obtain ⟨s, hs, h5, h6⟩ := inSB_iff.1 hd
    rw [← List.take_append_drop i shifts] at hs
    rcases List.mem_append.1 hs with hs | hs
    · have := h1 s hs; omega
    · rw [drop_cons' hx] at hs h2
      rcases List.mem_cons.1 hs with e | hs
      · subst e; omega
      · have := okSh_mem h2.2.2 s hs
        have := h2.2.1
        omega
where
  drop_cons' {l : List Sf} {k : Nat} {x : Sf} (h : l[k]? = some x) : l.drop k = x :: l.drop (k + 1) := by
    obtain ⟨hlt, hx⟩ := List.getElem?_eq_some_iff.1 h
    rw [List.drop_eq_getElem_cons hlt, hx]
theorem lfF_gap {jobs : List Jb} {A : List Pc} (h0 : ∀ x ∈ jobs, 1 ≤ x.idn) {a : Nat} : ∀ (n : Nat), (∀ u, a ≤ u → u < a + n → lkN A u = 0) → lfF jobs A (a + n) = lfF jobs A a ∧ cntR A (a + n) = cntR A a
  | 0, _ => ⟨rfl, rfl⟩
  | n + 1, h => by
    obtain ⟨h1, h2⟩ := lfF_gap h0 n fun u h3 h4 => h u h3 (by omega)
    have hz := h (a + n) (by omega) (by omega)
    refine ⟨(lfF_idle h0 hz).trans h1, ?_⟩
    have : cntR A (a + n + 1) = cntR A (a + n) + (if lkN A (a + n) ≠ 0 then 1 else 0) := rfl
    rw [if_neg (fun e => e hz)] at this
    show cntR A (a + n + 1) = _
    rw [this, h2]
    rfl
theorem cntR_succ (A : List Pc) (t : Nat) : cntR A (t + 1) = cntR A t + (if lkN A t ≠ 0 then 1 else 0) := rfl
def totL (l : List Pc) : Int := (l.map fun p : Pc => p.to - p.frm).sum
theorem totL_snoc (l : List Pc) (p : Pc) : totL (l ++ [p]) = totL l + (p.to - p.frm) := by unfold totL; simp
theorem cnt_totL {l : List Pc} (h : Wf l) (hz : ∀ p ∈ l, p.jb ≠ 0) {n : Nat} (hn : ∀ p ∈ l, p.to ≤ n) : (cntR l n : Int) = totL l := by
  rw [cntR_tot h hz]
  unfold totL
  congr 1
  refine List.map_congr_left fun p hp => ?_
  have := hn p hp
  have := h.rng p hp
  omega
/-- The law's own walk over the shifts: where it is, what is left, how many minutes have run. -/
structure UI (jobs : List Jb) (shifts : List Sf) (P : List Pc) (i : Nat) (T : Nat) : Prop where
  be : ∀ y ∈ shifts.take i, y.to ≤ T
  sh : okSh T (shifts.drop i)
  t8 : T ≤ 248
theorem UI.next {jobs : List Jb} {shifts : List Sf} {P : List Pc} (hs : Sml jobs shifts P) {i T : Nat} (h : UI jobs shifts P i T) {x : Sf} (hx : shifts[i]? = some x) :
    ∃ a b : Nat, x.frm = a ∧ x.to = b ∧ T ≤ a ∧ a < b ∧ b ≤ 248 ∧ lfF jobs P a = lfF jobs P T ∧ cntR P a = cntR P T ∧ (∀ u, a ≤ u → u < b → inSB shifts u = true) ∧ UI jobs shifts P (i + 1) b := by
  have hx2 := hs.st x (List.mem_of_getElem? hx)
  have hd := h.sh
  rw [gap_out.drop_cons' hx] at hd
  obtain ⟨h1, h2, h3⟩ := hd
  have h4 := gap_out hx h.be h.sh
  have hout : ∀ u, T ≤ u → u < T + (x.frm.toNat - T) → lkN P u = 0 := fun u h5 h6 => by
    have := plan_out hs.jd.js hs.sh (t := u) (h4 u (by omega) (by omega))
    rwa [hs.is] at this
  obtain ⟨g1, g2⟩ := lfF_gap (jobs := jobs) (fun y hy => (hs.jd.js.pos y hy).1) _ hout
  have e : T + (x.frm.toNat - T) = x.frm.toNat := by omega
  rw [e] at g1 g2
  refine ⟨x.frm.toNat, x.to.toNat, by omega, by omega, by omega, by omega, by omega, g1, g2, fun u h5 h6 => inSB_iff.2 ⟨x, List.mem_of_getElem? hx, by omega, by omega⟩, ?_, ?_, by omega⟩
  · intro y hy
    rw [List.take_add_one, hx] at hy
    rcases List.mem_append.1 hy with hy | hy
    · have := h.be y hy; omega
    · simp at hy; subst hy; omega
  · rw [show ((x.to.toNat : Nat) : Int) = x.to from by omega]
    exact h3
theorem Sml.wf {jobs : List Jb} {shifts : List Sf} {P : List Pc} (h : Sml jobs shifts P) : Wf P := valid_wf h.va
theorem Sml.ids {jobs : List Jb} {shifts : List Sf} {P : List Pc} (h : Sml jobs shifts P) : ∀ p ∈ P, p.jb ≠ 0 := by
  have := edf_ids h.jd.js h.sh
  rwa [h.is] at this
theorem Sml.fin {jobs : List Jb} {shifts : List Sf} {P : List Pc} (h : Sml jobs shifts P) {T : Nat} (hU : UI jobs shifts P shifts.length T) : (cntR P T : Int) = totL P := by
  refine cnt_totL h.wf h.ids fun p hp => ?_
  have := hU.be
  rw [List.take_of_length_le (Nat.le_refl _)] at this
  exact within_to this (h.wi p hp)
theorem Sml.start {jobs : List Jb} {shifts : List Sf} {P : List Pc} (h : Sml jobs shifts P) : UI jobs shifts P 0 0 := ⟨(fun y hy => by cases hy), h.sh, by omega⟩
theorem Sml.pick {jobs : List Jb} {shifts : List Sf} {P : List Pc} (h : Sml jobs shifts P) {t : Nat} (ht : inSB shifts t = true) :
    (runK jobs (lfF jobs P t) t jobs.length = -1 ∧ lkN P t = 0 ∧ lfF jobs P (t + 1) = lfF jobs P t ∧ cntR P (t + 1) = cntR P t) ∨
    (∃ (i : Nat) (x : Jb) (m : Int), runK jobs (lfF jobs P t) t jobs.length = i ∧ i < jobs.length ∧ jobs[i]? = some x ∧ (lfF jobs P t)[i]? = some m ∧ lkN P t = x.idn ∧ 0 < m ∧ m ≤ 8 ∧ lfF jobs P (t + 1) = (lfF jobs P t).set i (m - 1) ∧ cntR P (t + 1) = cntR P t + 1) := by
  have hp := plan_pick h.jd.js h.sh ht
  rw [h.is] at hp
  rcases hp with ⟨e, e2⟩ | ⟨i, x, e, hx, e2, h0⟩
  · refine .inl ⟨e, e2, lfF_idle (fun y hy => (h.jd.js.pos y hy).1) e2, ?_⟩
    rw [cntR_succ, if_neg (fun e => e e2)]
    rfl
  · have hxj := h.jo x (List.mem_of_getElem? hx)
    have h1 := (h.jd.js.pos x (List.mem_of_getElem? hx)).1
    refine .inr ⟨i, x, _, e, (List.getElem?_eq_some_iff.1 hx).1, hx, lfF_at hx, e2, h0, by omega, lfF_run h.jd.js.uni hx e2, ?_⟩
    rw [cntR_succ, if_pos (by omega)]
theorem lfF_nn {jobs : List Jb} {shifts : List Sf} {P : List Pc} (h : Sml jobs shifts P) (t : Nat) : ∀ m ∈ lfF jobs P t, 0 ≤ m ∧ m ≤ 8 := fun m hm => by
  unfold lfF at hm
  obtain ⟨x, hx, rfl⟩ := List.mem_map.1 hm
  have := plan_le h.jd.js h.sh x hx t
  rw [h.is] at this
  have := h.jo x hx
  omega
theorem Sml.sharp {jobs : List Jb} {shifts : List Sf} {P : List Pc} (h : Sml jobs shifts P) {i : Nat} {p q : Pc} (hp : P[i]? = some p) (hq : P[i + 1]? = some q) (hj : q.jb = p.jb) (ht : q.frm = p.to) : ∀ s ∈ shifts, ¬ (s.frm < q.frm ∧ q.frm < s.to) := by
  have hc := (edf_cut h.jd.js h.sh).1
  rw [h.is] at hc
  exact cut_sharp h.sh hc hp hq hj.symm ht.symm
end Go.Proofs.Ythbchbiadcjnkaa

/-
  One job less, one shift more; all moved. No program in sight.
-/
namespace Go.Proofs.Ythbchbiadcjnkaa
theorem okSh_mv {d : Int} : ∀ {b : Int} {l : List Sf}, okSh b l → okSh (b + d) (l.map (mvS d))
  | _, [], _ => trivial
  | b, x :: l, ⟨h1, h2, h3⟩ => ⟨by show b + d ≤ x.frm + d; omega, by show x.frm + d < x.to + d; omega, okSh_mv h3⟩
section
variable {jobs : List Jb} {shifts : List Sf} {P : List Pc} (h : Sml jobs shifts P)
include h
theorem Sml.sub {some : List Jb} (hs : some.Sublist jobs) : Sml some shifts (edfS some shifts).2 :=
  sml_of (Nat.le_trans hs.length_le h.j8) h.s8 (fun x hx => h.jo x (hs.subset hx)) (h.jd.js.uni.sublist hs) h.sh h.st
theorem Sml.none (hl : (lateL jobs P).length = 0) : excF jobs shifts = none := by
  cases he : excF jobs shifts with
  | none => rfl
  | some p => have := h.late.2 (by rw [he]; rfl); omega
theorem Sml.less (hl : (lateL jobs P).length = 0) {some : List Jb} (hs : some.Sublist jobs) : lateL some (edfS some shifts).2 = [] := by
  have h2 := h.sub hs
  have he := exc_sub hs h.m0 (h.none hl)
  have := h2.late
  rw [he] at this
  rw [← List.length_eq_zero_iff]
  apply Nat.eq_zero_of_not_pos
  intro hp
  exact absurd (this.1 hp) (by decide)
theorem Sml.more (hl : (lateL jobs P).length = 0) {x : Sf} (h1 : ∀ y ∈ shifts, y.to ≤ x.frm) (h0 : 0 ≤ x.frm) (h2 : x.frm < x.to) (h3 : x.to ≤ 1000) : allF jobs (shifts ++ [x]) = (0, 0) ∧ (edfS jobs (shifts ++ [x])).2 = P := by
  refine ⟨allF_no (by have := h.j8; omega) (by rw [List.length_append, List.length_singleton]; have := h.s8; omega) (fun y hy => (h.jo y hy).1) h.jd.js.uni (okSh_snoc h.sh h1 h0 (Int.le_refl _) h2) (fun y hy => ?_), ?_⟩
  · rcases List.mem_append.1 hy with hy | hy
    · have := h.st y hy; omega
    · rw [List.mem_singleton] at hy; subst hy; omega
  · rw [edf_more, h.is]
    refine all_done h.jd h.sh fun y hy => ?_
    rw [h.is]
    cases hb : lateB P y with
    | false => rfl
    | true =>
      have : y ∈ jobs.filter (lateB P) := List.mem_filter.2 ⟨hy, hb⟩
      have h9 : (jobs.filter (lateB P)).length = 0 := by unfold lateL at hl; rwa [List.length_map] at hl
      rw [List.length_eq_zero_iff] at h9
      rw [h9] at this
      cases this
theorem Sml.moved {d : Int} (hd : 0 ≤ d ∧ d ≤ 1000000) : allF (jobs.map (mvJ d)) (shifts.map (mvS d)) = (0, 0) ∧ (edfS (jobs.map (mvJ d)) (shifts.map (mvS d))).2 = P.map (mvP d) ∧
    excF (jobs.map (mvJ d)) (shifts.map (mvS d)) = (excF jobs shifts).map fun p => (p.1 + d, p.2 + d) := by
  refine ⟨allF_no (by rw [List.length_map]; have := h.j8; omega) (by rw [List.length_map]; have := h.s8; omega) (fun y hy => ?_) ?_ (okSh_mono (by omega) (okSh_mv (d := d) h.sh)) (fun y hy => ?_), by rw [edf_mv, h.is], excF_mv jobs h.m0 shifts d⟩
  · obtain ⟨x, hx, rfl⟩ := List.mem_map.1 hy
    have := h.jo x hx
    unfold okJ mvJ at *
    dsimp only
    omega
  · show (jobs.map (mvJ d)).Pairwise _
    rw [List.pairwise_map]
    exact h.jd.js.uni
  · obtain ⟨x, hx, rfl⟩ := List.mem_map.1 hy
    have := h.st x hx
    show x.to + d ≤ _
    omega
end
end Go.Proofs.Ythbchbiadcjnkaa

/-
  The greatest lateness. No program in sight.
-/
namespace Go.Proofs.Ythbchbiadcjnkaa
def wrs (l : List Pc) (jobs : List Jb) : Int := jobs.foldl (fun m x => max m (endOf l x - x.due)) (-1051898399)
def worF (jobs : List Jb) (l : List Pc) : Int × Bool := if jobs.all (fun x => decide (0 ≤ endOf l x)) = true then (wrs l jobs, true) else (0, false)
end Go.Proofs.Ythbchbiadcjnkaa

/-
  What is not valid: the first error, and its index. No program in sight.
-/
namespace Go.Proofs.Ythbchbiadcjnkaa
def jb0 : Jb := ⟨0, 0, 0, 0⟩
def sf3 : Sf := ⟨300, 300⟩
section
variable {jobs : List Jb} {shifts : List Sf} {P : List Pc} (h : Sml jobs shifts P)
include h
end
end Go.Proofs.Ythbchbiadcjnkaa

/-
  What the laws in small numbers share.
-/
namespace Go.Proofs.Ythbchbiadcjnkaa
open Go.RowKit Eng
set_option linter.unusedVariables false
set_option linter.unusedSimpArgs false
set_option maxHeartbeats 8000000
attribute [local irreducible] SC SQ J Qt Calls Iterates LSub FSub
theorem mk_of {jobs : List Jb} {shifts : List Sf} {P : List Pc} (h : allF jobs shifts = (0, 0)) (e : (edfS jobs shifts).2 = P) : mkF jobs shifts = (0, P) := by unfold mkF; rw [h, e]; rfl
theorem Sml.mkp {jobs : List Jb} {shifts : List Sf} {P : List Pc} (h : Sml jobs shifts P) : mkF jobs shifts = (0, P) := mk_of h.al h.is
end Go.Proofs.Ythbchbiadcjnkaa

/-
  Minutes that are left; the job at a minute.
-/
namespace Go.Proofs.Ythbchbiadcjnkaa
open Go.RowKit Eng
set_option linter.unusedVariables false
set_option linter.unusedSimpArgs false
set_option maxHeartbeats 8000000
attribute [local irreducible] SC SQ J Qt Calls Iterates LSub FSub
theorem cntR_le (P : List Pc) : ∀ t, cntR P t ≤ t
  | 0 => Nat.le_refl _
  | t + 1 => by have := cntR_le P t; rw [cntR_succ]; split <;> omega
theorem totL_big : ∀ {l : List Pc}, (∀ p ∈ l, 0 ≤ p.frm ∧ p.frm < p.to ∧ p.to ≤ 248) → 0 ≤ totL l ∧ totL l ≤ 248 * l.length
  | [], _ => ⟨Int.le_refl _, Int.le_refl _⟩
  | x :: l, h => by
    have := totL_big (l := l) fun y hy => h y (List.mem_cons_of_mem _ hy)
    have := h x List.mem_cons_self
    have e : totL (x :: l) = x.to - x.frm + totL l := by unfold totL; rfl
    rw [e, List.length_cons]
    push_cast
    omega
def lfP (jobs : List Jb) (i : Nat) : List Int := (jobs.take i).map (·.mn) ++ List.replicate (jobs.length - i) 0
theorem lfP_at {jobs : List Jb} {i : Nat} {x : Jb} (h : jobs[i]? = some x) : (lfP jobs i)[i]? = some 0 := by
  have hi := (List.getElem?_eq_some_iff.1 h).1
  unfold lfP
  rw [List.getElem?_append_right (by rw [List.length_map, List.length_take]; omega), List.length_map, List.length_take]
  rw [List.getElem?_replicate, if_pos (by omega)]
theorem lfP_set {jobs : List Jb} {i : Nat} {x : Jb} (h : jobs[i]? = some x) : (lfP jobs i).set i x.mn = lfP jobs (i + 1) := by
  have hi := (List.getElem?_eq_some_iff.1 h).1
  unfold lfP
  rw [List.set_append_right _ _ (by rw [List.length_map, List.length_take]; omega), List.length_map, List.length_take, take_snocS h, List.map_append, List.append_assoc]
  rw [show i - min i jobs.length = 0 by omega, show jobs.length - i = (jobs.length - (i + 1)) + 1 by omega, List.replicate_succ]
  rfl
theorem lfP_all (jobs : List Jb) : lfP jobs jobs.length = jobs.map (·.mn) := by
  unfold lfP
  rw [List.take_of_length_le (Nat.le_refl _), Nat.sub_self]
  simp
theorem lfP_len {jobs : List Jb} {i : Nat} (h : i ≤ jobs.length) : (lfP jobs i).length = jobs.length := by
  unfold lfP
  rw [List.length_append, List.length_map, List.length_take, List.length_replicate]
  omega
theorem running2_c (A : Option Addr) (c : Nat) (l : List Pc) (t : Int) (w : World) (hl : l.length ≤ 1000000) (h : RS w 3 pcC A l) : Calls Try.prog 19 #[.slice A l.length c, .int .i64 t] w fun e w' => e = .returned (.int .i64 (lk l t)) ∧ Below w.heap.size w w' := by
  obtain ⟨n, hn⟩ : ∃ n, l.length = n := ⟨_, rfl⟩
  rw [hn] at hl ⊢
  refine eng_start (n := 26) (args := [.slice A n c, .int .i64 t]) tab tab_ok fns fns_ok [.tmp 4] Try.func19 rfl rfl rfl rfl ?_
  repeat' (first | (refine gJ ?_; first | refine js rfl rfl rfl rfl ?_ | (refine gload rfl rfl ?_; refine j_qe rfl rfl rfl ?_; first | refine ⟨_, q_load_own rfl rfl rfl rfl (by (repeat constructor)) (by first | rfl | assumption), ?_⟩ | refine ⟨_, q_loadA_own rfl rfl rfl rfl (by (repeat constructor)) (by rfl), ?_⟩ | refine ⟨_, q_loadA_ext rfl rfl rfl rfl ⟨by assumption, (by first | exact id | assumption)⟩ (by rfl), ?_⟩ | refine ⟨_, q_load_ext rfl rfl rfl rfl ⟨by assumption, (by first | exact id | assumption)⟩ (by first | rfl | assumption), ?_⟩ | refine ⟨_, q_load_extb rfl rfl rfl rfl ⟨by assumption, (by first | exact id | assumption)⟩ (by rfl), ?_⟩ | refine ⟨_, q_loadA_extb rfl rfl rfl rfl ⟨by assumption, (by first | exact id | assumption)⟩ (by rfl), ?_⟩ | refine ⟨_, q_load_ext0 rfl rfl rfl rfl ⟨by assumption, (by first | exact id | assumption)⟩ (by rfl), ?_⟩) | refine jfield rfl rfl rfl rfl rfl rfl rfl rfl ?_ | refine jar rfl rfl rfl rfl rfl rfl rfl (by omega) ?_ | (refine gF ?_; first | refine j_store rfl rfl rfl rfl rfl rfl rfl rfl (by (repeat constructor)) (by rfl) ?_ | (refine j_alloc rfl rfl rfl rfl rfl ?_; intro b)) | (refine j_qe rfl rfl rfl ?_; first | refine ⟨_, q_index_nat rfl rfl rfl rfl rfl (by omega), ?_⟩ | refine ⟨_, q_index_slice rfl rfl rfl rfl rfl (by omega), ?_⟩ | refine ⟨_, q_index_arr rfl rfl rfl rfl rfl (by omega), ?_⟩ | refine ⟨_, q_index_arr_ext rfl rfl rfl rfl rfl (by omega), ?_⟩ | refine ⟨_, q_len_slice rfl rfl rfl rfl, ?_⟩ | refine ⟨_, q_field_ext rfl rfl rfl rfl rfl, ?_⟩ | refine ⟨_, q_addu8 rfl rfl rfl (by omega), ?_⟩) | refine j_guard_undef rfl rfl rfl rfl rfl ?_) | (refine gSC ?_; first | refine sc_mv rfl ?_ | refine sc_q rfl ?_ | refine sc_region ?_) | (refine gSQ ?_; first | refine sq_go rfl ?_ | refine sq_mv rfl ?_ | refine sq_ende (by first | exact .inl rfl | exact .inr rfl) rfl rfl ⟨_, (RVs.cons (RV.tmp rfl) (RVs.nil)), ?_⟩) | refine j_nil ?_ | ((first | refine j_guard rfl rfl rfl rfl rfl ?_ ?_ | refine sc_cond rfl ?_ ?_) <;> intro hc <;> (first | exact absurd hc (by decide) | ((try simp only [engHC] at hc) <;> first | (exfalso; omega) | exact absurd trivial hc | skip))))
  refine sc_loop (ι := Nat) (fun i => i ≤ n ∧ lk l t = lk (l.drop i) t) (fun i => n - i) (fun i => [(1, .int .i64 t), (7, .slice A n c), (8, .int .i64 n), (9, .int .i64 i)]) (fun _ => []) 0 ⟨Nat.zero_le _, rfl⟩ (by (try dsimp only); exact (by repeat (first | exact FSub.nil | refine FSub.cons rfl ?_ | refine FSub.conse rfl (by congr 1; omega) ?_))) (by repeat (first | exact LSub.refl | refine LSub.cons (by repeat (first | exact Rem.here | apply Rem.there)) ?_ | apply LSub.skip)) ?_
  rintro i ⟨hi, hr⟩
  by_cases hlt : i < n
  · obtain ⟨x, hx⟩ : ∃ x, l[i]? = some x := ⟨_, List.getElem?_eq_getElem (by omega)⟩
    obtain ⟨ad, rfl, hX⟩ := h i x hx
    rw [drop_cons hx] at hr
    by_cases hin : x.frm ≤ t ∧ t < x.to
    · rw [hr, show lk (x :: l.drop (i + 1)) t = x.jb from if_pos hin]
      repeat' (first | (refine gJ ?_; first | refine js rfl rfl rfl rfl ?_ | (refine gload rfl rfl ?_; refine j_qe rfl rfl rfl ?_; first | refine ⟨_, q_load_own rfl rfl rfl rfl (by (repeat constructor)) (by first | rfl | assumption), ?_⟩ | refine ⟨_, q_loadA_own rfl rfl rfl rfl (by (repeat constructor)) (by rfl), ?_⟩ | refine ⟨_, q_loadA_ext rfl rfl rfl rfl ⟨by assumption, (by first | exact id | assumption)⟩ (by rfl), ?_⟩ | refine ⟨_, q_load_ext rfl rfl rfl rfl ⟨by assumption, (by first | exact id | assumption)⟩ (by first | rfl | assumption), ?_⟩ | refine ⟨_, q_load_extb rfl rfl rfl rfl ⟨by assumption, (by first | exact id | assumption)⟩ (by rfl), ?_⟩ | refine ⟨_, q_loadA_extb rfl rfl rfl rfl ⟨by assumption, (by first | exact id | assumption)⟩ (by rfl), ?_⟩ | refine ⟨_, q_load_ext0 rfl rfl rfl rfl ⟨by assumption, (by first | exact id | assumption)⟩ (by rfl), ?_⟩) | refine jfield rfl rfl rfl rfl rfl rfl rfl rfl ?_ | refine jar rfl rfl rfl rfl rfl rfl rfl (by omega) ?_ | (refine gF ?_; first | refine j_store rfl rfl rfl rfl rfl rfl rfl rfl (by (repeat constructor)) (by rfl) ?_ | (refine j_alloc rfl rfl rfl rfl rfl ?_; intro b)) | (refine j_qe rfl rfl rfl ?_; first | refine ⟨_, q_index_nat rfl rfl rfl rfl rfl (by omega), ?_⟩ | refine ⟨_, q_index_slice rfl rfl rfl rfl rfl (by omega), ?_⟩ | refine ⟨_, q_index_arr rfl rfl rfl rfl rfl (by omega), ?_⟩ | refine ⟨_, q_index_arr_ext rfl rfl rfl rfl rfl (by omega), ?_⟩ | refine ⟨_, q_len_slice rfl rfl rfl rfl, ?_⟩ | refine ⟨_, q_field_ext rfl rfl rfl rfl rfl, ?_⟩ | refine ⟨_, q_addu8 rfl rfl rfl (by omega), ?_⟩) | refine j_guard_undef rfl rfl rfl rfl rfl ?_) | (refine gSC ?_; first | refine sc_mv rfl ?_ | refine sc_q rfl ?_ | refine sc_region ?_) | (refine gSQ ?_; first | refine sq_go rfl ?_ | refine sq_mv rfl ?_ | refine sq_ende (by first | exact .inl rfl | exact .inr rfl) rfl rfl ⟨_, (RVs.cons (RV.tmp rfl) (RVs.nil)), ?_⟩) | refine j_nil ?_ | ((first | refine j_guard rfl rfl rfl rfl rfl ?_ ?_ | refine sc_cond rfl ?_ ?_) <;> intro hc <;> (first | exact absurd hc (by decide) | ((try simp only [engHC] at hc) <;> first | (exfalso; omega) | exact absurd trivial hc | skip))))
      all_goals first
        | (exfalso; omega)
        | (intro w' hS; refine ⟨?_, hS.below⟩; simp only [pack])
    · rw [show lk (x :: l.drop (i + 1)) t = lk (l.drop (i + 1)) t from if_neg hin] at hr
      repeat' (first | (refine gJ ?_; first | refine js rfl rfl rfl rfl ?_ | (refine gload rfl rfl ?_; refine j_qe rfl rfl rfl ?_; first | refine ⟨_, q_load_own rfl rfl rfl rfl (by (repeat constructor)) (by first | rfl | assumption), ?_⟩ | refine ⟨_, q_loadA_own rfl rfl rfl rfl (by (repeat constructor)) (by rfl), ?_⟩ | refine ⟨_, q_loadA_ext rfl rfl rfl rfl ⟨by assumption, (by first | exact id | assumption)⟩ (by rfl), ?_⟩ | refine ⟨_, q_load_ext rfl rfl rfl rfl ⟨by assumption, (by first | exact id | assumption)⟩ (by first | rfl | assumption), ?_⟩ | refine ⟨_, q_load_extb rfl rfl rfl rfl ⟨by assumption, (by first | exact id | assumption)⟩ (by rfl), ?_⟩ | refine ⟨_, q_loadA_extb rfl rfl rfl rfl ⟨by assumption, (by first | exact id | assumption)⟩ (by rfl), ?_⟩ | refine ⟨_, q_load_ext0 rfl rfl rfl rfl ⟨by assumption, (by first | exact id | assumption)⟩ (by rfl), ?_⟩) | refine jfield rfl rfl rfl rfl rfl rfl rfl rfl ?_ | refine jar rfl rfl rfl rfl rfl rfl rfl (by omega) ?_ | (refine gF ?_; first | refine j_store rfl rfl rfl rfl rfl rfl rfl rfl (by (repeat constructor)) (by rfl) ?_ | (refine j_alloc rfl rfl rfl rfl rfl ?_; intro b)) | (refine j_qe rfl rfl rfl ?_; first | refine ⟨_, q_index_nat rfl rfl rfl rfl rfl (by omega), ?_⟩ | refine ⟨_, q_index_slice rfl rfl rfl rfl rfl (by omega), ?_⟩ | refine ⟨_, q_index_arr rfl rfl rfl rfl rfl (by omega), ?_⟩ | refine ⟨_, q_index_arr_ext rfl rfl rfl rfl rfl (by omega), ?_⟩ | refine ⟨_, q_len_slice rfl rfl rfl rfl, ?_⟩ | refine ⟨_, q_field_ext rfl rfl rfl rfl rfl, ?_⟩ | refine ⟨_, q_addu8 rfl rfl rfl (by omega), ?_⟩) | refine j_guard_undef rfl rfl rfl rfl rfl ?_) | (refine gSC ?_; first | refine sc_mv rfl ?_ | refine sc_q rfl ?_ | refine sc_region ?_) | (refine gSQ ?_; first | refine sq_go rfl ?_ | refine sq_mv rfl ?_ | refine sq_ende (by first | exact .inl rfl | exact .inr rfl) rfl rfl ⟨_, (RVs.cons (RV.tmp rfl) (RVs.nil)), ?_⟩) | refine j_nil ?_ | ((first | refine j_guard rfl rfl rfl rfl rfl ?_ ?_ | refine sc_cond rfl ?_ ?_) <;> intro hc <;> (first | exact absurd hc (by decide) | ((try simp only [engHC] at hc) <;> first | (exfalso; omega) | exact absurd trivial hc | skip))))
      all_goals first
        | (exfalso; omega)
        | (refine sq_loop (i + 1) ⟨?_, hr⟩ ?_ ?_ ?_
           · show i + 1 ≤ n; omega
           · show n - (i + 1) < n - i; omega
           · exact (by (try dsimp only); exact (by repeat (first | exact FSub.nil | refine FSub.cons rfl ?_ | refine FSub.conse rfl (by congr 1; omega) ?_)))
           · exact (by repeat (first | exact LSub.refl | refine LSub.cons (by repeat (first | exact Rem.here | apply Rem.there)) ?_ | apply LSub.skip)))
  · rw [hr, List.drop_eq_nil_of_le (by omega)]
    repeat' (first | (refine gJ ?_; first | refine js rfl rfl rfl rfl ?_ | (refine gload rfl rfl ?_; refine j_qe rfl rfl rfl ?_; first | refine ⟨_, q_load_own rfl rfl rfl rfl (by (repeat constructor)) (by first | rfl | assumption), ?_⟩ | refine ⟨_, q_loadA_own rfl rfl rfl rfl (by (repeat constructor)) (by rfl), ?_⟩ | refine ⟨_, q_loadA_ext rfl rfl rfl rfl ⟨by assumption, (by first | exact id | assumption)⟩ (by rfl), ?_⟩ | refine ⟨_, q_load_ext rfl rfl rfl rfl ⟨by assumption, (by first | exact id | assumption)⟩ (by first | rfl | assumption), ?_⟩ | refine ⟨_, q_load_extb rfl rfl rfl rfl ⟨by assumption, (by first | exact id | assumption)⟩ (by rfl), ?_⟩ | refine ⟨_, q_loadA_extb rfl rfl rfl rfl ⟨by assumption, (by first | exact id | assumption)⟩ (by rfl), ?_⟩ | refine ⟨_, q_load_ext0 rfl rfl rfl rfl ⟨by assumption, (by first | exact id | assumption)⟩ (by rfl), ?_⟩) | refine jfield rfl rfl rfl rfl rfl rfl rfl rfl ?_ | refine jar rfl rfl rfl rfl rfl rfl rfl (by omega) ?_ | (refine gF ?_; first | refine j_store rfl rfl rfl rfl rfl rfl rfl rfl (by (repeat constructor)) (by rfl) ?_ | (refine j_alloc rfl rfl rfl rfl rfl ?_; intro b)) | (refine j_qe rfl rfl rfl ?_; first | refine ⟨_, q_index_nat rfl rfl rfl rfl rfl (by omega), ?_⟩ | refine ⟨_, q_index_slice rfl rfl rfl rfl rfl (by omega), ?_⟩ | refine ⟨_, q_index_arr rfl rfl rfl rfl rfl (by omega), ?_⟩ | refine ⟨_, q_index_arr_ext rfl rfl rfl rfl rfl (by omega), ?_⟩ | refine ⟨_, q_len_slice rfl rfl rfl rfl, ?_⟩ | refine ⟨_, q_field_ext rfl rfl rfl rfl rfl, ?_⟩ | refine ⟨_, q_addu8 rfl rfl rfl (by omega), ?_⟩) | refine j_guard_undef rfl rfl rfl rfl rfl ?_) | (refine gSC ?_; first | refine sc_mv rfl ?_ | refine sc_q rfl ?_ | refine sc_region ?_) | (refine gSQ ?_; first | refine sq_go rfl ?_ | refine sq_mv rfl ?_ | refine sq_ende (by first | exact .inl rfl | exact .inr rfl) rfl rfl ⟨_, (RVs.cons (RV.tmp rfl) (RVs.nil)), ?_⟩) | refine j_nil ?_ | ((first | refine j_guard rfl rfl rfl rfl rfl ?_ ?_ | refine sc_cond rfl ?_ ?_) <;> intro hc <;> (first | exact absurd hc (by decide) | ((try simp only [engHC] at hc) <;> first | (exfalso; omega) | exact absurd trivial hc | skip))))
    (intro w' hS; refine ⟨?_, hS.below⟩; simp only [pack])
    rfl
end Go.Proofs.Ythbchbiadcjnkaa
