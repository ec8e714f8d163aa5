/-
  In one text: Pb4, Pb5, Pb6, Pb7, Pb8, Pb9, Pc0.
-/
import Derived.Test.YthbchbiadcjnkaaPb3
/-
  The overfull interval that is found: it does not depend on the order of the jobs, and moves with them. No program in sight.
-/
namespace Go.Proofs.Ythbchbiadcjnkaa
def leR (a b : Jb) : Bool := decide (b.rel ≤ a.rel)
def sortR (l : List Jb) : List Jb := l.mergeSort leR
def leI (a b : Int) : Bool := decide (a ≤ b)
def sortD (l : List Int) : List Int := l.mergeSort leI
set_option linter.unusedVariables false
theorem sortR_perm (l : List Jb) : (sortR l).Perm l := List.mergeSort_perm l leR
theorem sortR_down (l : List Jb) : (sortR l).Pairwise fun x y => y.rel ≤ x.rel := by
  have h := List.pairwise_mergeSort (le := leR) (fun a b c h1 h2 => by unfold leR at *; rw [decide_eq_true_eq] at *; omega) (fun a b => by unfold leR; rw [Bool.or_eq_true, decide_eq_true_eq, decide_eq_true_eq]; omega) l
  exact h.imp fun h => of_decide_eq_true h
theorem sortD_perm (l : List Int) : (sortD l).Perm l := List.mergeSort_perm l leI
theorem sortD_up (l : List Int) : (sortD l).Pairwise fun x y => x ≤ y := by
  have h := List.pairwise_mergeSort (le := leI) (fun a b c h1 h2 => by unfold leI at *; rw [decide_eq_true_eq] at *; omega) (fun a b => by unfold leI; rw [Bool.or_eq_true, decide_eq_true_eq, decide_eq_true_eq]; omega) l
  exact h.imp fun h => of_decide_eq_true h
theorem sorted_same {l l' : List Int} (hp : l.Perm l') (h1 : l.Pairwise fun x y => x ≤ y) (h2 : l'.Pairwise fun x y => x ≤ y) : l = l' :=
  hp.eq_of_pairwise (fun a b _ _ h1 h2 => Int.le_antisymm h1 h2) h1 h2
theorem sortD_is {l m : List Int} (hp : m.Perm l) (h : m.Pairwise fun x y => x ≤ y) : m = sortD l := sorted_same (hp.trans (sortD_perm l).symm) h (sortD_up l)
/-- Equal neighbours once. -/
def cmpc : List Int → List Int
  | [] => []
  | x :: l => match cmpc l with
    | [] => [x]
    | y :: m => if x = y then y :: m else x :: y :: m
theorem cmpc_mem : ∀ (l : List Int) (x : Int), x ∈ cmpc l ↔ x ∈ l
  | [], x => Iff.rfl
  | a :: l, x => by
    have ih := cmpc_mem l x
    unfold cmpc
    cases hc : cmpc l with
    | nil =>
      rw [hc] at ih
      have : x ∉ l := fun h => by cases ih.2 h
      simp [this]
    | cons y m =>
      rw [hc] at ih
      dsimp only
      split
      · rename_i h
        subst h
        rw [ih]
        refine ⟨fun h => List.mem_cons_of_mem _ h, fun h => ?_⟩
        rcases List.mem_cons.1 h with rfl | h
        · exact ih.1 List.mem_cons_self
        · exact h
      · rw [List.mem_cons, ih, List.mem_cons]
def excI (shifts : List Sf) (R : List Jb) : List Int → Option (Int × Int)
  | [] => none
  | d :: D => match exG shifts d 0 R with
    | some r => some (r, d)
    | none => excI shifts R D
def excF (jobs : List Jb) (shifts : List Sf) : Option (Int × Int) := excI shifts (sortR jobs) (cmpc (sortD (jobs.map (·.due))))
theorem excI_same {shifts : List Sf} {R R' : List Jb} (h : ∀ d, exG shifts d 0 R = exG shifts d 0 R') : ∀ D, excI shifts R D = excI shifts R' D
  | [] => rfl
  | d :: D => by unfold excI; rw [h d, excI_same h D]
theorem exG_same {shifts : List Sf} {R R' : List Jb} (hp : R.Perm R') (h : R.Pairwise fun x y => y.rel ≤ x.rel) (h' : R'.Pairwise fun x y => y.rel ≤ x.rel) (hm : ∀ x ∈ R, 0 ≤ x.mn) (d : Int) : exG shifts d 0 R = exG shifts d 0 R' :=
  found_uniq (found_perm hp (exG_found h hm)) (exG_found h' fun x hx => hm x (hp.mem_iff.2 hx))
theorem excF_is {jobs R : List Jb} {shifts : List Sf} {D : List Int} (hp : R.Perm jobs) (h : R.Pairwise fun x y => y.rel ≤ x.rel) (hm : ∀ x ∈ jobs, 0 ≤ x.mn) (hD : D.Perm (jobs.map (·.due))) (hd : D.Pairwise fun x y => x ≤ y) : excI shifts R (cmpc D) = excF jobs shifts := by
  unfold excF
  rw [← sortD_is hD hd]
  exact excI_same (exG_same (hp.trans (sortR_perm jobs).symm) h (sortR_down jobs) fun x hx => hm x (hp.mem_iff.1 hx)) _
theorem excI_some {shifts : List Sf} {R : List Jb} {r e : Int} : ∀ {D : List Int}, excI shifts R D = some (r, e) → e ∈ D ∧ exG shifts e 0 R = some r
  | [], h => by cases h
  | d :: D, h => by
    unfold excI at h
    split at h
    · rename_i r' hr
      injection h with h
      injection h with h1 h2
      subst h1; subst h2
      exact ⟨List.mem_cons_self, hr⟩
    · obtain ⟨h1, h2⟩ := excI_some h
      exact ⟨List.mem_cons_of_mem _ h1, h2⟩
theorem excI_none {shifts : List Sf} {R : List Jb} : ∀ {D : List Int}, excI shifts R D = none → ∀ d ∈ D, exG shifts d 0 R = none
  | [], _, d, hd => by cases hd
  | d :: D, h, d', hd => by
    unfold excI at h
    split at h
    · cases h
    · rename_i hr
      rcases List.mem_cons.1 hd with rfl | hd
      · exact hr
      · exact excI_none h d' hd
/-- What is found is overfull; if none is found, none is. -/
theorem excF_some {jobs : List Jb} {shifts : List Sf} {r e : Int} (hm : ∀ x ∈ jobs, 0 ≤ x.mn) (h : excF jobs shifts = some (r, e)) : (∃ x ∈ jobs, x.rel = r ∧ x.due ≤ e) ∧ (∃ x ∈ jobs, x.due = e) ∧ supI shifts r e < needI jobs r e := by
  obtain ⟨h1, h2⟩ := excI_some h
  rw [cmpc_mem, (sortD_perm _).mem_iff, List.mem_map] at h1
  have hf := exG_found (shifts := shifts) (d := e) (sortR_down jobs) fun x hx => hm x ((sortR_perm jobs).mem_iff.1 hx)
  rw [h2] at hf
  obtain ⟨⟨x, hx, h3, h5⟩, h4, _⟩ := hf
  exact ⟨⟨x, (sortR_perm jobs).mem_iff.1 hx, h3, h5⟩, h1, by rw [← needI_perm (sortR_perm jobs)]; exact h4⟩
theorem excF_none {jobs : List Jb} {shifts : List Sf} (hm : ∀ x ∈ jobs, 0 ≤ x.mn) (h : excF jobs shifts = none) : ∀ x ∈ jobs, ∀ y ∈ jobs, y.due ≤ x.due → needI jobs y.rel x.due ≤ supI shifts y.rel x.due := fun x hx y hy hd => by
  have h1 := excI_none h x.due (by rw [cmpc_mem, (sortD_perm _).mem_iff]; exact List.mem_map.2 ⟨x, hx, rfl⟩)
  have hf := exG_found (shifts := shifts) (d := x.due) (sortR_down jobs) fun x hx => hm x ((sortR_perm jobs).mem_iff.1 hx)
  rw [h1] at hf
  have := hf y ((sortR_perm jobs).mem_iff.2 hy) hd
  rw [needI_perm (sortR_perm jobs)] at this
  exact this
end Go.Proofs.Ythbchbiadcjnkaa

/-
  Moved jobs and shifts; late just if overfull. No program in sight.
-/
namespace Go.Proofs.Ythbchbiadcjnkaa
theorem supI_mv (d a b : Int) : ∀ l : List Sf, supI (l.map (mvS d)) (a + d) (b + d) = supI l a b
  | [] => rfl
  | x :: l => by
    rw [List.map_cons, supI_cons, supI_cons, supI_mv d a b l]
    unfold mvS
    dsimp only
    congr 1
    omega
theorem exG_mv (d e : Int) (shifts : List Sf) : ∀ (R : List Jb) (acc : Int), exG (shifts.map (mvS d)) (e + d) acc (R.map (mvJ d)) = (exG shifts e acc R).map (· + d)
  | [], _ => rfl
  | x :: R, acc => by
    rw [List.map_cons]
    unfold exG
    have h1 : (mvJ d x).due = x.due + d := rfl
    have h2 : (mvJ d x).rel = x.rel + d := rfl
    have h3 : (mvJ d x).mn = x.mn := rfl
    rw [h1, h2, h3, supI_mv, exG_mv d e shifts R, exG_mv d e shifts R]
    by_cases hd : e < x.due
    · rw [if_pos (by omega), if_pos hd]
    · rw [if_neg (by omega), if_neg hd]
      split <;> rfl
theorem cmpc_mv (d : Int) : ∀ l : List Int, cmpc (l.map (· + d)) = (cmpc l).map (· + d)
  | [] => rfl
  | x :: l => by
    rw [List.map_cons]
    unfold cmpc
    rw [cmpc_mv d l]
    cases cmpc l with
    | nil => rfl
    | cons y m =>
      show (if x + d = y + d then (y + d) :: m.map (· + d) else (x + d) :: (y + d) :: m.map (· + d)) = (if x = y then y :: m else x :: y :: m).map (· + d)
      by_cases h : x = y
      · rw [if_pos h, if_pos (by rw [h])]; rfl
      · rw [if_neg h, if_neg (by omega)]; rfl
theorem excI_mv (d : Int) (shifts : List Sf) (R : List Jb) : ∀ D, excI (shifts.map (mvS d)) (R.map (mvJ d)) (D.map (· + d)) = (excI shifts R D).map fun p => (p.1 + d, p.2 + d)
  | [] => rfl
  | e :: D => by
    rw [List.map_cons]
    unfold excI
    rw [exG_mv, excI_mv d shifts R D]
    cases exG shifts e 0 R <;> rfl
theorem excF_mv (jobs : List Jb) (hm : ∀ x ∈ jobs, 0 ≤ x.mn) (shifts : List Sf) (d : Int) : excF (jobs.map (mvJ d)) (shifts.map (mvS d)) = (excF jobs shifts).map fun p => (p.1 + d, p.2 + d) := by
  rw [← excF_is (jobs := jobs.map (mvJ d)) (R := (sortR jobs).map (mvJ d)) (D := (sortD (jobs.map (·.due))).map (· + d)) ((sortR_perm jobs).map _)
    (by rw [List.pairwise_map]; exact (sortR_down jobs).imp fun h => by show _ + d ≤ _ + d; omega)
    (fun x hx => by obtain ⟨y, hy, rfl⟩ := List.mem_map.1 hx; exact hm y hy)
    (by
      have e : (jobs.map (mvJ d)).map (·.due) = (jobs.map (·.due)).map (· + d) := by rw [List.map_map, List.map_map]; rfl
      rw [e]
      exact (sortD_perm _).map _)
    (by rw [List.pairwise_map]; exact (sortD_up _).imp fun h => by omega), cmpc_mv, excI_mv]
  rfl
/-- Some job is late by earliest due date just if an overfull interval is found. -/
theorem late_exc {jobs : List Jb} (hJ : okJd jobs) {shifts : List Sf} (hS : okSh 0 shifts) : (∃ x ∈ jobs, lateB (edfS jobs shifts).2 x = true) ↔ (excF jobs shifts).isSome = true := by
  have hm : ∀ x ∈ jobs, 0 ≤ x.mn := fun x hx => (hJ.js.pos x hx).2.1
  constructor
  · rintro ⟨x, hx, hl⟩
    obtain ⟨y, hy, hd, h1⟩ := over_late hJ hS hx hl
    cases he : excF jobs shifts with
    | some p => rfl
    | none =>
      exfalso
      have hpx := hJ.more x hx
      have hpy := hJ.js.pos y hy
      have h2 := supI_supp hS (Int.le_refl 0) y.rel.toNat x.due.toNat
      have h3 := needI_need hm y.rel.toNat x.due
      rw [Int.toNat_of_nonneg hpy.2.2] at h2 h3
      rw [Int.toNat_of_nonneg hpx.2] at h2
      have h6 := excF_none hm he x hx y hy hd
      omega
  · intro h
    cases he : excF jobs shifts with
    | none => rw [he] at h; cases h
    | some p =>
      obtain ⟨r, e⟩ := p
      obtain ⟨⟨x, hx, h1, _⟩, ⟨y, hy, h2⟩, h3⟩ := excF_some hm he
      have hpx := hJ.js.pos x hx
      have hpy := hJ.more y hy
      subst h1; subst h2
      have h4 := supI_supp hS (Int.le_refl 0) x.rel.toNat y.due.toNat
      have h5 := needI_need hm x.rel.toNat y.due
      rw [Int.toNat_of_nonneg hpx.2.2] at h4 h5
      rw [Int.toNat_of_nonneg hpy.2] at h4
      refine late_over hJ (edf_valid hJ.js hS) (a := x.rel.toNat) (b := y.due.toNat) ?_
      rw [Int.toNat_of_nonneg hpy.2]
      omega
theorem needI_sub {jobs some : List Jb} (h : some.Sublist jobs) (hm : ∀ x ∈ jobs, 0 ≤ x.mn) (r d : Int) : needI some r d ≤ needI jobs r d := by
  induction h with
  | slnil => exact Int.le_refl _
  | cons x _ ih =>
    rw [needI_cons]
    have := ih fun y hy => hm y (List.mem_cons_of_mem _ hy)
    have := hm x List.mem_cons_self
    split <;> omega
  | cons_cons x _ ih =>
    rw [needI_cons, needI_cons]
    have := ih fun y hy => hm y (List.mem_cons_of_mem _ hy)
    omega
/-- Without one of the jobs nothing is overfull that was not. -/
theorem exc_sub {jobs some : List Jb} (h : some.Sublist jobs) (hm : ∀ x ∈ jobs, 0 ≤ x.mn) {shifts : List Sf} (he : excF jobs shifts = none) : excF some shifts = none := by
  cases hs : excF some shifts with
  | none => rfl
  | some p =>
    exfalso
    obtain ⟨r, e⟩ := p
    obtain ⟨⟨x, hx, h1, h2⟩, ⟨y, hy, h3⟩, h4⟩ := excF_some (fun x hx => hm x (h.subset hx)) hs
    have h5 := excF_none hm he y (h.subset hy) x (h.subset hx) (by omega)
    have h6 := needI_sub h hm r e
    subst h1; subst h3
    omega
/-- If no job is late, all minutes have run. -/
theorem all_done {jobs : List Jb} (hJ : okJd jobs) {shifts : List Sf} (hS : okSh 0 shifts) (h : ∀ x ∈ jobs, lateB (edfS jobs shifts).2 x = false) : ∀ m ∈ (edfS jobs shifts).1, m = 0 := by
  obtain ⟨T, hI, hT⟩ := edf_inv hJ.js hS
  intro m hm
  rw [hI.left] at hm
  obtain ⟨x, hx, rfl⟩ := List.mem_map.1 hm
  have h1 := (late_iff hJ (edf_valid hJ.js hS) hx).1 (h x hx)
  have h2 := hI.le x hx
  have h3 : (ran (lkN (edfS jobs shifts).2) x.idn x.due.toNat : Int) ≤ x.mn := by omega
  have h4 := hI.lk_T (u := T) (Nat.le_refl _)
  have h5 : ran (lkN (edfS jobs shifts).2) x.idn x.due.toNat ≤ ran (lkN (edfS jobs shifts).2) x.idn (max T x.due.toNat) := ran_mono (Nat.le_max_right _ _)
  have h6 : ran (lkN (edfS jobs shifts).2) x.idn (max T x.due.toNat) = ran (lkN (edfS jobs shifts).2) x.idn T := by
    obtain ⟨k, hk⟩ : ∃ k, max T x.due.toNat = T + k := ⟨max T x.due.toNat - T, by omega⟩
    rw [hk]
    clear hk
    induction k with
    | zero => rfl
    | succ k ih =>
      show ran (lkN (edfS jobs shifts).2) x.idn (T + k) + (if lkN (edfS jobs shifts).2 (T + k) = x.idn then 1 else 0) = _
      rw [ih, hI.lk_T (by omega), if_neg (by have := (hJ.js.pos x hx).1; omega)]
      rfl
  omega
end Go.Proofs.Ythbchbiadcjnkaa

/-
  The chapter's examples, worked out; the first slice that is wrong. No program in sight.
-/
namespace Go.Proofs.Ythbchbiadcjnkaa
def jbsA : List Jb := [⟨1, 0, 10, 4⟩, ⟨2, 2, 5, 2⟩]
def sfA : List Sf := [⟨0, 20⟩]
def sfB : List Sf := [⟨0, 3⟩, ⟨8, 20⟩]
def pcA : List Pc := [⟨1, 0, 2⟩, ⟨2, 2, 4⟩, ⟨1, 4, 6⟩]
def pcB : List Pc := [⟨1, 0, 2⟩, ⟨2, 2, 3⟩, ⟨2, 8, 9⟩, ⟨1, 9, 11⟩]
def jbsC : List Jb := [⟨9, 5, 3, 1⟩]
theorem exA1 : (edfS jbsA sfA).2 = pcA := by decide +kernel
theorem exA2 : (edfS jbsA sfB).2 = pcB := by decide +kernel
theorem exA3 : (edfS jbsA []).2 = [] := by decide +kernel
theorem exA4 : allF jbsA sfA = (0, 0) ∧ allF jbsA sfB = (0, 0) ∧ allF jbsA [] = (0, 0) ∧ allF jbsC sfB = (0, 0) := by decide +kernel
theorem exA5 : jbsA.map (endOf pcA) = [6, 4] ∧ jbsA.map (endOf []) = [-1, -1] := by decide +kernel
theorem exA6 : excF jbsA sfB = some (2, 5) := by
  rw [← excF_is (jobs := jbsA) (shifts := sfB) (R := [⟨2, 2, 5, 2⟩, ⟨1, 0, 10, 4⟩]) (D := [5, 10]) (List.Perm.swap ..) (by decide) (by decide) (List.Perm.swap ..) (by decide)]
  decide +kernel
theorem exA7 : excF jbsC sfB = some (5, 3) := by
  rw [← excF_is (jobs := jbsC) (shifts := sfB) (R := [⟨9, 5, 3, 1⟩]) (D := [3]) (List.Perm.refl _) (by decide) (by decide) (List.Perm.refl _) (by decide)]
  decide +kernel
/-- The IDs of the jobs that are late. -/
def lateL (jobs : List Jb) (l : List Pc) : List Int := (jobs.filter (lateB l)).map (·.idn)
theorem exA8 : lateL jbsA pcA = [] ∧ lateL jbsA pcB = [1, 2] ∧ lateL jbsA [] = [1, 2] := by decide +kernel
instance (jobs : List Jb) (shifts : List Sf) (l : List Pc) (i : Nat) (p : Pc) : Decidable (okAt jobs shifts l i p) := by unfold okAt; exact inferInstance
def okIx (jobs : List Jb) (shifts : List Sf) (l : List Pc) (i : Nat) : Bool := match l[i]? with
  | some p => decide (okAt jobs shifts l i p)
  | none => true
/-- The first slice from the i-th on that is wrong. -/
def ckG (jobs : List Jb) (shifts : List Sf) (l : List Pc) : Nat → Nat → Int × Int
  | 0, _ => (0, 0)
  | n + 1, i => if okIx jobs shifts l i = true then ckG jobs shifts l n (i + 1) else ((i : Int), 302)
def ckF (jobs : List Jb) (shifts : List Sf) (l : List Pc) : Int × Int :=
  if 1000 < l.length then (0, 5) else if (allF jobs shifts).2 ≠ 0 then allF jobs shifts else ckG jobs shifts l l.length 0
theorem ckG_ok {jobs : List Jb} {shifts : List Sf} {l : List Pc} (h : valid jobs shifts l) : ∀ n i, ckG jobs shifts l n i = (0, 0)
  | 0, _ => rfl
  | n + 1, i => by
    unfold ckG
    rw [if_pos, ckG_ok h n]
    unfold okIx
    cases hp : l[i]? with
    | none => rfl
    | some p => exact decide_eq_true (h i p hp)
theorem ckF_ok {jobs : List Jb} {shifts : List Sf} {l : List Pc} (h : valid jobs shifts l) (hl : l.length ≤ 1000) (ha : (allF jobs shifts).2 = 0) : ckF jobs shifts l = (0, 0) := by
  unfold ckF
  rw [if_neg (by omega), if_neg (by omega), ckG_ok h]
theorem exA9 : ckF jbsA sfB pcB = (0, 0) := by decide +kernel
theorem valid_snoc {jobs : List Jb} {shifts : List Sf} {l : List Pc} {p : Pc} (h : valid jobs shifts l) (hp : okAt jobs shifts (l ++ [p]) l.length p) : valid jobs shifts (l ++ [p]) := fun i q hq => by
  by_cases hi : i < l.length
  · rw [List.getElem?_append_left hi] at hq
    obtain ⟨x, hx, h1, h2, h3, h4, h5, h6⟩ := h i q hq
    refine ⟨x, hx, h1, h2, ?_, h4, h5, ?_⟩
    · unfold befE at h3 ⊢
      split
      · rename_i h0; rw [if_pos h0] at h3; exact h3
      · rename_i h0
        rw [if_neg h0] at h3
        rw [List.getElem?_append_left (by omega)]
        exact h3
    · rw [List.take_append_of_le_length (by omega)]
      exact h6
  · have := (List.getElem?_eq_some_iff.1 hq).1
    rw [List.length_append, List.length_singleton] at this
    obtain rfl : i = l.length := by omega
    rw [List.getElem?_append_right (Nat.le_refl _), Nat.sub_self, List.getElem?_cons_zero] at hq
    injection hq with hq
    subst hq
    exact hp
end Go.Proofs.Ythbchbiadcjnkaa

/-
  Jobs and shifts in small numbers. No program in sight.
-/
namespace Go.Proofs.Ythbchbiadcjnkaa
set_option linter.unusedVariables false
structure Tk where
  rel : Int
  due : Int
  mn : Int
deriving Inhabited
structure Gp where
  bh : Int
  mn : Int
deriving Inhabited
def tkOk (x : Tk) : Prop := (0 ≤ x.rel ∧ x.rel ≤ 255) ∧ (0 ≤ x.due ∧ x.due ≤ 255) ∧ (0 ≤ x.mn ∧ x.mn ≤ 255)
def gpOk (x : Gp) : Prop := (0 ≤ x.bh ∧ x.bh ≤ 255) ∧ (0 ≤ x.mn ∧ x.mn ≤ 255)
def wk (i : Nat) (x : Tk) : Jb := ⟨7 * (i : Int) % 9 + 1, x.rel % 64, x.due % 64, 1 + x.mn % 8⟩
def wkN (l : List Tk) (i : Nat) : List Jb := (List.range i).map fun j => wk j (l.getD j default)
def workF (l : List Tk) : List Jb := wkN l (min l.length 8)
theorem wkN_succ {l : List Tk} {i : Nat} {x : Tk} (h : l[i]? = some x) : wkN l (i + 1) = wkN l i ++ [wk i x] := by
  unfold wkN
  rw [List.range_succ, List.map_append]
  simp [List.getD, h]
theorem wkN_len (l : List Tk) (i : Nat) : (wkN l i).length = i := by simp [wkN]
theorem workF_len (l : List Tk) : (workF l).length ≤ 8 := by unfold workF; rw [wkN_len]; omega
theorem wk_id {i j : Nat} (hi : i < 8) (hj : j < 8) (h : i ≠ j) : 7 * (i : Int) % 9 + 1 ≠ 7 * (j : Int) % 9 + 1 := by
  omega
theorem workF_mem {l : List Tk} {y : Jb} (h : y ∈ workF l) : ∃ j x, j < 8 ∧ l[j]? = some x ∧ y = wk j x := by
  unfold workF wkN at h
  obtain ⟨j, hj, rfl⟩ := List.mem_map.1 h
  have := List.mem_range.1 hj
  refine ⟨j, _, by omega, List.getElem?_eq_getElem (by omega), ?_⟩
  rw [List.getD_eq_getElem?_getD, List.getElem?_eq_getElem (by omega), Option.getD_some]
theorem workF_ok {l : List Tk} (hl : ∀ x ∈ l, tkOk x) : ∀ y ∈ workF l, okJ y ∧ y.idn ≤ 9 ∧ y.rel ≤ 63 ∧ y.due ≤ 63 ∧ y.mn ≤ 8 := fun y hy => by
  obtain ⟨j, x, hj, hx, rfl⟩ := workF_mem hy
  have := hl x (List.mem_of_getElem? hx)
  unfold tkOk at this
  unfold okJ wk
  dsimp only
  omega
theorem workF_uniq (l : List Tk) : uniq (workF l) := by
  unfold uniq workF wkN
  rw [List.pairwise_map]
  refine List.pairwise_lt_range.imp_of_mem fun {a c} ha hc h => ?_
  have h1 := List.mem_range.1 ha
  have h2 := List.mem_range.1 hc
  exact wk_id (by omega) (by omega) (by omega)
/-- Shifts, from a minute on. -/
def hrN (l : List Gp) : Nat → List Sf × Int
  | 0 => ([], 0)
  | i + 1 => let x := l.getD i default; let p := hrN l i; let t := p.2 + x.bh % 16; (p.1 ++ [⟨t, t + 1 + x.mn % 16⟩], t + 1 + x.mn % 16)
def hoursF (l : List Gp) : List Sf := (hrN l (min l.length 8)).1
theorem hrN_succ {l : List Gp} {i : Nat} {x : Gp} (h : l[i]? = some x) : hrN l (i + 1) = ((hrN l i).1 ++ [⟨(hrN l i).2 + x.bh % 16, (hrN l i).2 + x.bh % 16 + 1 + x.mn % 16⟩], (hrN l i).2 + x.bh % 16 + 1 + x.mn % 16) := by
  show (let x := l.getD i default; let p := hrN l i; let t := p.2 + x.bh % 16; (p.1 ++ [(⟨t, t + 1 + x.mn % 16⟩ : Sf)], t + 1 + x.mn % 16)) = _
  rw [List.getD_eq_getElem?_getD, h, Option.getD_some]
theorem hrN_len (l : List Gp) (i : Nat) : (hrN l i).1.length = i := by
  induction i with
  | zero => rfl
  | succ i ih => unfold hrN; dsimp only; rw [List.length_append, ih]; rfl
theorem hoursF_len (l : List Gp) : (hoursF l).length ≤ 8 := by unfold hoursF; rw [hrN_len]; omega
theorem okSh_snoc {b c : Int} {x : Sf} : ∀ {l : List Sf}, okSh b l → (∀ y ∈ l, y.to ≤ c) → b ≤ c → c ≤ x.frm → x.frm < x.to → okSh b (l ++ [x])
  | [], _, _, h1, h2, h3 => ⟨by omega, h3, trivial⟩
  | y :: l, ⟨h4, h5, h6⟩, hc, h1, h2, h3 => ⟨h4, h5, okSh_snoc h6 (fun z hz => hc z (List.mem_cons_of_mem _ hz)) (hc y List.mem_cons_self) h2 h3⟩
theorem hrN_ok {l : List Gp} (hl : ∀ x ∈ l, gpOk x) : ∀ i, i ≤ l.length → okSh 0 (hrN l i).1 ∧ (∀ y ∈ (hrN l i).1, y.to ≤ (hrN l i).2) ∧ 0 ≤ (hrN l i).2 ∧ (hrN l i).2 ≤ 31 * i
  | 0, _ => ⟨trivial, (fun y hy => by cases hy), Int.le_refl _, Int.le_refl _⟩
  | i + 1, hi => by
    obtain ⟨h1, h2, h3, h4⟩ := hrN_ok hl i (by omega)
    obtain ⟨x, hx⟩ : ∃ x, l[i]? = some x := ⟨_, List.getElem?_eq_getElem (by omega)⟩
    have hxo := hl x (List.mem_of_getElem? hx)
    unfold gpOk at hxo
    rw [hrN_succ hx]
    refine ⟨okSh_snoc h1 h2 h3 (by dsimp only; omega) (by dsimp only; omega), fun y hy => ?_, by dsimp only; omega, by dsimp only; push_cast; omega⟩
    dsimp only at hy ⊢
    rcases List.mem_append.1 hy with hy | hy
    · have := h2 y hy; omega
    · rw [List.mem_singleton] at hy
      subst hy
      exact Int.le_refl _
theorem hoursF_ok {l : List Gp} (hl : ∀ x ∈ l, gpOk x) : okSh 0 (hoursF l) ∧ ∀ y ∈ hoursF l, y.to ≤ 248 := by
  obtain ⟨h1, h2, h3, h4⟩ := hrN_ok hl (min l.length 8) (Nat.min_le_left _ _)
  refine ⟨h1, fun y hy => ?_⟩
  have := h2 y hy
  omega
theorem wjF_none : ∀ (seen : List Int) (l : List Jb) (i : Nat), (∀ x ∈ l, okJ x ∧ x.idn ∉ seen) → uniq l → wjF seen l i = (0, false)
  | _, [], _, _, _ => rfl
  | seen, y :: l, i, h, hu => by
    obtain ⟨h1, h2⟩ := List.pairwise_cons.1 hu
    unfold wjF
    rw [if_pos (h y List.mem_cons_self)]
    refine wjF_none _ l _ (fun x hx => ⟨(h x (List.mem_cons_of_mem _ hx)).1, fun hm => ?_⟩) h2
    rcases List.mem_append.1 hm with hm | hm
    · exact (h x (List.mem_cons_of_mem _ hx)).2 hm
    · rw [List.mem_singleton] at hm
      exact h1 x hx hm.symm
theorem wsF_none : ∀ (b : Int) (l : List Sf) (i : Nat), okSh b l → (∀ x ∈ l, x.to ≤ 1051898399) → wsF b l i = (0, false)
  | _, [], _, _, _ => rfl
  | b, y :: l, i, ⟨h1, h2, h3⟩, h => by
    unfold wsF
    rw [if_pos ⟨h1, h2, h y List.mem_cons_self⟩]
    exact wsF_none y.to l _ h3 fun x hx => h x (List.mem_cons_of_mem _ hx)
theorem allF_no {jobs : List Jb} {shifts : List Sf} (h1 : jobs.length ≤ 200) (h2 : shifts.length ≤ 200) (h3 : ∀ x ∈ jobs, okJ x) (h4 : uniq jobs) (h5 : okSh 0 shifts) (h6 : ∀ x ∈ shifts, x.to ≤ 1051898399) : allF jobs shifts = (0, 0) := by
  unfold allF
  rw [if_neg (by omega), wjF_none [] jobs 0 (fun x hx => ⟨h3 x hx, by simp⟩) h4, wsF_none 0 shifts 0 h5 h6]
  rfl
end Go.Proofs.Ythbchbiadcjnkaa

/-
  Minute by minute, seen from the finished plan. No program in sight.
-/
namespace Go.Proofs.Ythbchbiadcjnkaa
/-- What is left of each job at a minute. -/
def lfF (jobs : List Jb) (A : List Pc) (t : Nat) : List Int := jobs.map fun x => x.mn - (ran (lkN A) x.idn t : Int)
theorem lfF_at {jobs : List Jb} {A : List Pc} {t i : Nat} {x : Jb} (h : jobs[i]? = some x) : (lfF jobs A t)[i]? = some (x.mn - (ran (lkN A) x.idn t : Int)) := by
  unfold lfF; rw [List.getElem?_map, h]; rfl
theorem lfF_zero (jobs : List Jb) (A : List Pc) : lfF jobs A 0 = jobs.map (·.mn) := by
  unfold lfF
  refine List.map_congr_left fun x _ => ?_
  show x.mn - ((0 : Nat) : Int) = x.mn
  omega
section
variable {jobs : List Jb} {shifts : List Sf} (hJ : okJs jobs) (hS : okSh 0 shifts)
include hJ hS
theorem plan_le (x : Jb) (hx : x ∈ jobs) (t : Nat) : (ran (lkN (edfS jobs shifts).2) x.idn t : Int) ≤ x.mn :=
  ran_le hJ.uni (edf_edf hJ hS).sched (fun x hx => ⟨by have := (hJ.pos x hx).1; omega, (hJ.pos x hx).2.1⟩) hx t
theorem plan_out {t : Nat} (h : inSB shifts t = false) : lkN (edfS jobs shifts).2 t = 0 := by
  obtain ⟨T, hI, hT⟩ := edf_inv hJ hS
  by_cases ht : t < T
  · cases hd : decide (lkN (edfS jobs shifts).2 t = 0) with
    | true => exact of_decide_eq_true hd
    | false =>
      have := (hI.run t ht (of_decide_eq_false hd)).1
      rw [h] at this
      cases this
  · exact hI.lk_T (by omega)
/-- In a shift, at each minute: the job that the plan has is the one that is picked. -/
theorem plan_pick {t : Nat} (h : inSB shifts t = true) :
    (runK jobs (lfF jobs (edfS jobs shifts).2 t) t jobs.length = -1 ∧ lkN (edfS jobs shifts).2 t = 0) ∨
    (∃ (i : Nat) (x : Jb), runK jobs (lfF jobs (edfS jobs shifts).2 t) t jobs.length = i ∧ jobs[i]? = some x ∧ lkN (edfS jobs shifts).2 t = x.idn ∧ 0 < x.mn - (ran (lkN (edfS jobs shifts).2) x.idn t : Int)) := by
  have hle := plan_le hJ hS
  obtain ⟨T, hI, hT⟩ := edf_inv hJ hS
  have ht : t < T := by
    apply Nat.lt_of_not_le
    intro hge
    rw [hT t hge] at h
    cases h
  have hav : ∀ (i : Nat), av jobs (lfF jobs (edfS jobs shifts).2 t) t i ↔ ∃ x, jobs[i]? = some x ∧ x.rel ≤ t ∧ (ran (lkN (edfS jobs shifts).2) x.idn t : Int) < x.mn := fun i => by
    constructor
    · rintro ⟨x, m, hx, hm, hr, h0⟩
      rw [lfF_at hx] at hm
      injection hm with hm
      have := hle x (List.mem_of_getElem? hx) t
      exact ⟨x, hx, hr, by omega⟩
    · rintro ⟨x, hx, hr, h0⟩
      exact ⟨x, _, hx, lfF_at hx, hr, by omega⟩
  rcases runK_spec jobs (lfF jobs (edfS jobs shifts).2 t) t jobs.length with ⟨e, hno⟩ | ⟨i, x, e, hi, hx, ha, hbest⟩
  · left
    refine ⟨e, ?_⟩
    cases hd : decide (lkN (edfS jobs shifts).2 t = 0) with
    | true => exact of_decide_eq_true hd
    | false =>
      exfalso
      obtain ⟨_, y, hy, h1, h2, h3, _⟩ := hI.run t ht (of_decide_eq_false hd)
      obtain ⟨j, hj⟩ := List.getElem?_of_mem hy
      exact hno j (List.getElem?_eq_some_iff.1 hj).1 ((hav j).2 ⟨y, hj, h2, h3⟩)
  · right
    obtain ⟨x', hx', hr, hm⟩ := (hav i).1 ha
    rw [hx] at hx'
    injection hx' with hx'
    subst hx'
    refine ⟨i, x, e, hx, ?_, by omega⟩
    cases hd : decide (lkN (edfS jobs shifts).2 t = 0) with
    | true => exact absurd hm (hI.idle t ht h (of_decide_eq_true hd) x (List.mem_of_getElem? hx) hr)
    | false =>
      obtain ⟨_, y, hy, h1, h2, h3, h4⟩ := hI.run t ht (of_decide_eq_false hd)
      rcases h4 x (List.mem_of_getElem? hx) hr hm with h5 | h5
      · rw [← h1, h5]
      · obtain ⟨j, hj⟩ := List.getElem?_of_mem hy
        exact absurd h5 (hbest j y (List.getElem?_eq_some_iff.1 hj).1 hj ((hav j).2 ⟨y, hj, h2, h3⟩))
end
theorem lfF_idle {jobs : List Jb} {A : List Pc} {t : Nat} (h0 : ∀ x ∈ jobs, 1 ≤ x.idn) (h : lkN A t = 0) : lfF jobs A (t + 1) = lfF jobs A t := by
  unfold lfF
  refine List.map_congr_left fun x hx => ?_
  have e : ran (lkN A) x.idn (t + 1) = ran (lkN A) x.idn t + (if lkN A t = x.idn then 1 else 0) := rfl
  rw [e, h, if_neg (by have := h0 x hx; omega)]
  rfl
theorem lfF_run {jobs : List Jb} {A : List Pc} {t i : Nat} {x : Jb} (hu : uniq jobs) (hx : jobs[i]? = some x) (h : lkN A t = x.idn) : lfF jobs A (t + 1) = (lfF jobs A t).set i (x.mn - (ran (lkN A) x.idn t : Int) - 1) := by
  apply List.ext_getElem?
  intro j
  have e : ∀ y : Jb, ran (lkN A) y.idn (t + 1) = ran (lkN A) y.idn t + (if lkN A t = y.idn then 1 else 0) := fun y => rfl
  rw [List.getElem?_set]
  have hil : i < (lfF jobs A t).length := by unfold lfF; rw [List.length_map]; exact (List.getElem?_eq_some_iff.1 hx).1
  by_cases hij : i = j
  · subst hij
    rw [if_pos rfl, if_pos hil, lfF_at hx, e x, if_pos h]
    congr 1
    push_cast
    omega
  · rw [if_neg hij]
    cases hy : jobs[j]? with
    | none =>
      unfold lfF
      rw [List.getElem?_map, List.getElem?_map, hy]
      rfl
    | some y =>
      rw [lfF_at hy, lfF_at hy, e y, if_neg]
      · rfl
      · intro he
        have : x = y := uniq_eq hu (List.mem_of_getElem? hx) (List.mem_of_getElem? hy) (h.symm.trans he)
        subst this
        have h1 := List.pairwise_iff_getElem.1 hu
        obtain ⟨g1, e1⟩ := List.getElem?_eq_some_iff.1 hx
        obtain ⟨g2, e2⟩ := List.getElem?_eq_some_iff.1 hy
        rcases Nat.lt_or_gt_of_ne hij with hlt | hlt
        · exact h1 i j g1 g2 hlt (by rw [e1, e2])
        · exact h1 j i g2 g1 hlt (by rw [e1, e2])
/-- Minutes in which something runs. -/
def cntR (A : List Pc) (t : Nat) : Nat := sm (fun u => if lkN A u ≠ 0 then 1 else 0) t
theorem cntR_tot {l : List Pc} (h : Wf l) (hz : ∀ p ∈ l, p.jb ≠ 0) (n : Nat) : (cntR l n : Int) = (l.map fun p : Pc => min p.to (n : Int) - min p.frm (n : Int)).sum := by
  induction l with
  | nil =>
    unfold cntR
    have : sm (fun u => if lkN [] u ≠ 0 then 1 else 0) n = sm (fun _ => 0) n := sm_congr fun u _ => if_neg (fun e => e rfl)
    rw [this, sm_zero]; rfl
  | cons p l ih =>
    have hp := h.rng p List.mem_cons_self
    have hw := (List.pairwise_cons.1 h.wf).1
    have hpz := hz p List.mem_cons_self
    have e : cntR (p :: l) n = sm (fun u => (if p.frm ≤ (u : Int) ∧ (u : Int) < p.to then 1 else 0) + (if lkN l u ≠ 0 then 1 else 0)) n := sm_congr fun u _ => by
      by_cases hc : p.frm ≤ (u : Int) ∧ (u : Int) < p.to
      · have hv : lkN (p :: l) u = p.jb := if_pos hc
        have h0 : lkN l u = 0 := lk_zero (l := l) (fun q hq => by have := hw q hq; omega)
        rw [hv, h0, if_pos hpz, if_pos hc, if_neg (fun e => e rfl)]
      · have hv : lkN (p :: l) u = lkN l u := if_neg hc
        rw [hv, if_neg hc]
        omega
    rw [e, sm_add]
    have ih := ih h.tail fun q hq => hz q (List.mem_cons_of_mem _ hq)
    unfold cntR at ih
    rw [Int.natCast_add, ih, sm_iv p.frm p.to hp.1 (by omega) n, List.map_cons, List.sum_cons]
end Go.Proofs.Ythbchbiadcjnkaa

/-
  Any schedule, made minute by minute, is valid. No program in sight.
-/
namespace Go.Proofs.Ythbchbiadcjnkaa
structure OthI (jobs : List Jb) (shifts : List Sf) (t : Int) (left : List Int) (out : List Pc) : Prop where
  val : valid jobs shifts out
  lf : left = jobs.map fun x => x.mn - tot out x.idn
  le : ∀ p ∈ out, p.to ≤ t
  len : (out.length : Int) ≤ t
  t0 : 0 ≤ t
theorem OthI.start (jobs : List Jb) (shifts : List Sf) : OthI jobs shifts 0 (jobs.map (·.mn)) [] where
  val := fun i p h => by simp at h
  lf := List.map_congr_left fun x _ => by show x.mn = x.mn - 0; omega
  le := fun p hp => by cases hp
  len := Int.le_refl _
  t0 := Int.le_refl _
theorem OthI.later {jobs : List Jb} {shifts : List Sf} {t u : Int} {left : List Int} {out : List Pc} (h : OthI jobs shifts t left out) (hu : t ≤ u) : OthI jobs shifts u left out where
  val := h.val
  lf := h.lf
  le := fun p hp => by have := h.le p hp; omega
  len := by have := h.len; omega
  t0 := by have := h.t0; omega
theorem OthI.step {jobs : List Jb} {shifts : List Sf} {t : Int} {left : List Int} {out : List Pc} (hu : uniq jobs) (h : OthI jobs shifts t left out) {i : Nat} {x : Jb} {m : Int} (hx : jobs[i]? = some x) (hm : left[i]? = some m) (hr : x.rel ≤ t) (h0 : 0 < m)
    (hw : ∃ s ∈ shifts, s.frm ≤ t ∧ t + 1 ≤ s.to) : OthI jobs shifts (t + 1) (left.set i (m - 1)) (out ++ [⟨x.idn, t, t + 1⟩]) := by
  have hm2 : m = x.mn - tot out x.idn := by
    rw [h.lf, List.getElem?_map, hx] at hm
    injection hm with hm
    exact hm.symm
  refine ⟨valid_snoc h.val ⟨x, List.mem_of_getElem? hx, rfl, hr, ?_, by dsimp only; omega, ?_, ?_⟩, ?_, fun p hp => ?_, ?_, by have := h.t0; omega⟩
  · unfold befE
    split
    · exact h.t0
    · rename_i hl
      cases hp : (out ++ [(⟨x.idn, t, t + 1⟩ : Pc)])[out.length - 1]? with
      | none => exact h.t0
      | some p =>
        rw [List.getElem?_append_left (by omega)] at hp
        exact h.le p (List.mem_of_getElem? hp)
  · obtain ⟨s, hs, h1, h2⟩ := hw
    unfold withinB
    rw [List.any_eq_true]
    exact ⟨s, hs, decide_eq_true ⟨h1, h2⟩⟩
  · rw [List.take_of_length_le (by simp), tot_append]
    simp only [tot, if_true]
    omega
  · have hlen : left.length = jobs.length := by rw [h.lf, List.length_map]
    apply List.ext_getElem?
    intro j
    rw [List.getElem?_set, List.getElem?_map]
    by_cases hij : i = j
    · subst hij
      have := (List.getElem?_eq_some_iff.1 hx).1
      rw [if_pos rfl, if_pos (by omega), hx, Option.map_some, tot_append]
      simp only [tot, if_true]
      congr 1
      omega
    · rw [if_neg hij, h.lf, List.getElem?_map]
      cases hy : jobs[j]? with
      | none => rfl
      | some y =>
        rw [Option.map_some, Option.map_some, tot_append]
        simp only [tot]
        rw [if_neg]
        · congr 1; omega
        · intro he
          have : x = y := uniq_eq hu (List.mem_of_getElem? hx) (List.mem_of_getElem? hy) he
          subst this
          have h1 := List.pairwise_iff_getElem.1 hu
          obtain ⟨g1, e1⟩ := List.getElem?_eq_some_iff.1 hx
          obtain ⟨g2, e2⟩ := List.getElem?_eq_some_iff.1 hy
          rcases Nat.lt_or_gt_of_ne hij with hlt | hlt
          · exact h1 i j g1 g2 hlt (by rw [e1, e2])
          · exact h1 j i g2 g1 hlt (by rw [e1, e2])
  · rcases List.mem_append.1 hp with hp | hp
    · have := h.le p hp; omega
    · rw [List.mem_singleton] at hp
      subst hp
      exact Int.le_refl _
  · rw [List.length_append, List.length_singleton]
    have := h.len
    omega
end Go.Proofs.Ythbchbiadcjnkaa

/-
  Earliest due date is best. No program in sight.
-/
namespace Go.Proofs.Ythbchbiadcjnkaa
section
variable {jobs : List Jb} {shifts : List Sf} (hJ : okJd jobs) (hS : okSh 0 shifts)
include hJ hS
end
end Go.Proofs.Ythbchbiadcjnkaa
