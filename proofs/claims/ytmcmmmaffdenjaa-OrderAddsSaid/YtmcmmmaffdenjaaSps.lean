/-
  In one text: Raf, Wyp, Rfp, Oon, Sps.
-/
import Derived.Test.YtmcmmmaffdenjaaEqs
import Derived.Test.YtmcmmmaffdenjaaLno
import Derived.Test.YtmcmmmaffdenjaaEngCoreB
import Derived.Test.YtmcmmmaffdenjaaLcm
import Derived.Test.YtmcmmmaffdenjaaOr3
/-
  letterbagref35.All.
-/
namespace Go.Proofs.Ytmcmmmaffdenjaa
open Go.RowKit Eng
set_option linter.unusedVariables false
set_option linter.unusedSimpArgs false
set_option maxHeartbeats 8000000
attribute [local irreducible] SC SQ J Qt Calls Iterates
def insB (x : Od) : List Od → List Od
  | [] => [x]
  | y :: ys => if bef y x = true then y :: insB x ys else x :: y :: ys
def allS (p d : Int) (R : List Od) (x : Od) : List Od := if x.frm = p ∧ cov x d = true then insB x R else R
def allF (l : List Od) (p d : Int) : List Od := l.foldl (allS p d) []
end Go.Proofs.Ytmcmmmaffdenjaa

/-
  More of ways, plain.
-/
namespace Go.Proofs.Ytmcmmmaffdenjaa
open Go.RowKit Eng
set_option linter.unusedVariables false
set_option linter.unusedSimpArgs false
set_option maxHeartbeats 8000000
attribute [local irreducible] SC SQ J Qt Calls Iterates
/-- A set of points from which orders lead into the set. -/
def Closed (f : Int → Od) (S : Int → Prop) : Prop := ∀ q, S q → (f q).idn ≠ 0 ∧ (f q).kd ≠ 3 ∧ S (f q).to
end Go.Proofs.Ytmcmmmaffdenjaa

/-
  The reference's answers, plain.
-/
namespace Go.Proofs.Ytmcmmmaffdenjaa
open Go.RowKit Eng
set_option linter.unusedVariables false
set_option linter.unusedSimpArgs false
set_option maxHeartbeats 8000000
attribute [local irreducible] SC SQ J Qt Calls Iterates
theorem insB_mem (x : Od) : ∀ (R : List Od) (y : Od), y ∈ insB x R ↔ y = x ∨ y ∈ R
  | [], y => by simp [insB]
  | z :: ys, y => by
    simp only [insB]
    split
    · simp only [List.mem_cons, insB_mem x ys y]
      constructor
      · rintro (h | h | h)
        · exact .inr (.inl h)
        · exact .inl h
        · exact .inr (.inr h)
      · rintro (h | h | h)
        · exact .inr (.inl h)
        · exact .inl h
        · exact .inr (.inr h)
    · simp only [List.mem_cons]
theorem insB_sorted (x : Od) : ∀ (R : List Od), R.Pairwise (fun a b => bef a b = true) → (∀ y ∈ R, bef y x = true ∨ bef x y = true) → (insB x R).Pairwise (fun a b => bef a b = true)
  | [], _, _ => by simp [insB]
  | z :: ys, h, ht => by
    obtain ⟨h1, h2⟩ := List.pairwise_cons.1 h
    simp only [insB]
    split
    · rename_i hz
      refine List.pairwise_cons.2 ⟨fun y hy => ?_, insB_sorted x ys h2 (fun y hy => ht y (List.mem_cons_of_mem _ hy))⟩
      rcases (insB_mem x ys y).1 hy with rfl | hy
      · exact hz
      · exact h1 y hy
    · rename_i hz
      have hx : bef x z = true := by
        rcases ht z List.mem_cons_self with h9 | h9
        · exact absurd h9 hz
        · exact h9
      refine List.pairwise_cons.2 ⟨fun y hy => ?_, h⟩
      rcases List.mem_cons.1 hy with rfl | hy
      · exact hx
      · exact bef_trans hx (h1 y hy)
/-- All of the orders that cover a day, in order. -/
theorem allF_spec {l : List Od} (hl : okL l) (p d : Int) : (allF l p d).Pairwise (fun a b => bef a b = true) ∧ ∀ y, y ∈ allF l p d ↔ y ∈ l ∧ y.frm = p ∧ cov y d = true := by
  have key : ∀ (l R : List Od), okL l → (∀ a ∈ R, ∀ b ∈ l, a.idn ≠ b.idn) → R.Pairwise (fun a b => bef a b = true) → (l.foldl (allS p d) R).Pairwise (fun a b => bef a b = true) ∧ ∀ y, y ∈ l.foldl (allS p d) R ↔ y ∈ R ∨ (y ∈ l ∧ y.frm = p ∧ cov y d = true) := by
    intro l
    induction l with
    | nil => intro R _ _ hR; exact ⟨hR, fun y => by simp⟩
    | cons x l ih =>
      intro R hok hd hR
      rw [List.foldl_cons]
      by_cases hx : x.frm = p ∧ cov x d = true
      · have e : allS p d R x = insB x R := by unfold allS; rw [if_pos hx]
        rw [e]
        obtain ⟨h1, h2⟩ := ih (insB x R) hok.2.2 (fun a ha b hb => by
          rcases (insB_mem x R a).1 ha with rfl | ha
          · exact fun e => hok.2.1 b hb e.symm
          · exact hd a ha b (List.mem_cons_of_mem _ hb)) (insB_sorted x R hR fun y hy => bef_total y x (hd y hy x List.mem_cons_self))
        refine ⟨h1, fun y => ?_⟩
        rw [h2 y, insB_mem, List.mem_cons]
        constructor
        · rintro ((h | h) | h)
          · subst h; exact .inr ⟨.inl rfl, hx⟩
          · exact .inl h
          · exact .inr ⟨.inr h.1, h.2⟩
        · rintro (h | ⟨h | h, h3⟩)
          · exact .inl (.inr h)
          · exact .inl (.inl h)
          · exact .inr ⟨h, h3⟩
      · have e : allS p d R x = R := by unfold allS; rw [if_neg hx]
        rw [e]
        obtain ⟨h1, h2⟩ := ih R hok.2.2 (fun a ha b hb => hd a ha b (List.mem_cons_of_mem _ hb)) hR
        refine ⟨h1, fun y => ?_⟩
        rw [h2 y, List.mem_cons]
        constructor
        · rintro (h | h)
          · exact .inl h
          · exact .inr ⟨.inr h.1, h.2⟩
        · rintro (h | ⟨h | h, h3⟩)
          · exact .inl h
          · subst h; exact absurd h3 hx
          · exact .inr ⟨h, h3⟩
  obtain ⟨h1, h2⟩ := key l [] hl (fun a ha => by cases ha) List.Pairwise.nil
  exact ⟨h1, fun y => by rw [show allF l p d = l.foldl (allS p d) [] from rfl, h2 y]; simp⟩
end Go.Proofs.Ytmcmmmaffdenjaa

/-
  order: on, All.
-/
namespace Go.Proofs.Ytmcmmmaffdenjaa
open Go.RowKit Eng
set_option linter.unusedVariables false
set_option linter.unusedSimpArgs false
set_option maxHeartbeats 8000000
attribute [local irreducible] SC SQ J Qt Calls Iterates
theorem cmpS_od (cv : Value) : CmpS compareF [.agg #[cv]] := fun x y w => compare_c cv x y w
theorem ltS_bef (a b : Od) : ltS compareF a b = bef a b := by
  cases h : bef a b
  · exact ltS_f (fun h' => by rw [compareF_lt, h] at h'; cases h')
  · exact ltS_t ((compareF_lt a b).2 h)
theorem swo_od : Go.Sort.SWO (ltS compareF) := by
  refine ⟨fun x => ?_, fun x y z h1 h2 => ?_, fun x y z h1 h2 => ?_⟩
  · rw [ltS_bef]; exact bef_irrefl x
  · rw [ltS_bef] at *; exact bef_trans h1 h2
  · rw [ltS_bef] at *
    simp only [bef, decide_eq_false_iff_not] at *
    omega
def onR (l : List Od) (d : Int) (R : List Od) : Prop := R.Perm (l.filter fun o => cov o d) ∧ R.Pairwise (fun x y => bef y x = false)
theorem onR_all {l : List Od} (hl : okL l) {p d : Int} {R : List Od} (h : onR (ofP l p) d R) : R = allF l p d := by
  obtain ⟨h1, h2⟩ := h
  obtain ⟨g1, g2⟩ := allF_spec hl p d
  have hmem : ∀ y, y ∈ R ↔ y ∈ allF l p d := fun y => by
    rw [h1.mem_iff, g2, List.mem_filter]
    unfold ofP
    rw [List.mem_filter, decide_eq_true_eq]
    exact and_assoc
  have hlN : l.Nodup := by
    have key : ∀ l : List Od, okL l → l.Nodup := by
      intro l
      induction l with
      | nil => intro _; exact List.nodup_nil
      | cons o l ih =>
        intro h
        rw [List.nodup_cons]
        exact ⟨fun hm => h.2.1 o hm rfl, ih h.2.2⟩
    exact key l hl
  have n1 : R.Nodup := h1.nodup_iff.2 ((hlN.filter _).filter _)
  have n2 : (allF l p d).Nodup := g1.imp (fun {a b} h e => by subst e; rw [bef_irrefl] at h; cases h)
  have hp : R.Perm (allF l p d) := (List.perm_ext_iff_of_nodup n1 n2).2 hmem
  refine hp.eq_of_pairwise (le := fun x y => bef y x = false) (fun x y hx hy a1 a2 => ?_) h2 (g1.imp (fun {a b} h => bef_asymm h))
  have hx' := ((g2 x).1 ((hmem x).1 hx)).1
  have hy' := ((g2 y).1 hy).1
  apply Classical.byContradiction
  intro hne
  rcases bef_total x y (fun e => hne (okL_inj hl x hx' y hy' e)) with h | h
  · rw [h] at a2; cases a2
  · rw [h] at a1; cases a1
theorem filt_yes {l : List Od} {k : Nat} {x : Od} {d : Int} (h : l[k]? = some x) (e : cov x d = true) : (l.take (k + 1)).filter (fun o => cov o d) = (l.take k).filter (fun o => cov o d) ++ [x] := by
  rw [take_snocG h, List.filter_append]; simp [e]
theorem filt_no {l : List Od} {k : Nat} {x : Od} {d : Int} (h : l[k]? = some x) (e : cov x d = false) : (l.take (k + 1)).filter (fun o => cov o d) = (l.take k).filter (fun o => cov o d) := by
  rw [take_snocG h, List.filter_append]; simp [e]
theorem onO_c (A : Option Addr) (c : Nat) (l : List Od) (d : Int) (w : World) (hl : l.length ≤ 60000) (h : RS w 6 odC A l) :
    Calls Try.prog 59 #[.agg #[.slice A l.length c], .int .i64 d] w fun e w' => ∃ x : Value × List Od, onR l d x.2 ∧ e = .returned x.1 ∧ St w Cold [.own x.1 30 6 x.2.length (x.2.flatMap odC)] w' := by
  generalize hn : l.length = n at *
  refine eng_start (n := 28) (args := [.agg #[.slice A n c], .int .i64 d]) tab tab_ok fns fns_ok [.tmp 4] Try.func59 rfl rfl rfl rfl ?_
  repeat' (first | (refine gJ ?_; first | refine js rfl rfl rfl rfl ?_ | (refine gload rfl rfl ?_; refine j_qe rfl rfl rfl ?_; first | refine ⟨_, q_load_own rfl rfl rfl rfl (by (repeat constructor)) (by first | rfl | assumption), ?_⟩ | refine ⟨_, q_loadA_own rfl rfl rfl rfl (by (repeat constructor)) (by rfl), ?_⟩ | refine ⟨_, q_loadA_ext rfl rfl rfl rfl ⟨by assumption, (by first | exact id | assumption)⟩ (by rfl), ?_⟩ | refine ⟨_, q_load_ext rfl rfl rfl rfl ⟨by assumption, (by first | exact id | assumption)⟩ (by first | rfl | assumption), ?_⟩ | refine ⟨_, q_load_extb rfl rfl rfl rfl ⟨by assumption, (by first | exact id | assumption)⟩ (by rfl), ?_⟩ | refine ⟨_, q_loadA_extb rfl rfl rfl rfl ⟨by assumption, (by first | exact id | assumption)⟩ (by rfl), ?_⟩ | refine ⟨_, q_load_ext0 rfl rfl rfl rfl ⟨by assumption, (by first | exact id | assumption)⟩ (by rfl), ?_⟩) | refine jfield rfl rfl rfl rfl rfl rfl rfl rfl ?_ | refine jar rfl rfl rfl rfl rfl rfl rfl (by omega) ?_ | (refine gF ?_; first | refine j_store rfl rfl rfl rfl rfl rfl rfl rfl (by (repeat constructor)) (by rfl) ?_ | (refine j_alloc rfl rfl rfl rfl rfl ?_; intro b) | (refine j_box rfl rfl rfl rfl rfl ?_; intro b) | (refine j_buildSlice rfl rfl rfl rfl rfl rfl rfl rfl rfl rfl rfl rfl ?_; intro b) | (refine j_append rfl rfl rfl rfl rfl rfl rfl rfl rfl rfl rfl (by (repeat constructor)) (by (repeat constructor)) (by rfl) (by rfl) (by omega) (fun _ => by (repeat constructor)) ?_; intro v)) | (refine j_qe rfl rfl rfl ?_; first | refine ⟨_, q_index_nat rfl rfl rfl rfl rfl (by omega), ?_⟩ | refine ⟨_, q_index_slice rfl rfl rfl rfl rfl (by omega), ?_⟩ | refine ⟨_, q_index_arr rfl rfl rfl rfl rfl (by omega), ?_⟩ | refine ⟨_, q_index_arr_ext rfl rfl rfl rfl rfl (by omega), ?_⟩ | refine ⟨_, q_len_slice rfl rfl rfl rfl, ?_⟩ | refine ⟨_, q_makeFunc rfl rfl, ?_⟩ | refine ⟨_, q_field_ext rfl rfl rfl rfl rfl, ?_⟩ | refine ⟨_, q_addu8 rfl rfl rfl (by omega), ?_⟩)) | (refine gSC ?_; first | refine sc_mv rfl ?_ | refine sc_q rfl ?_ | refine sc_region ?_) | (refine gSQ ?_; first | refine sq_go rfl ?_ | refine sq_mv rfl ?_ | refine sq_ende (by first | exact .inl rfl | exact .inr rfl) rfl rfl ⟨_, (RVs.cons (RV.tmp rfl) (RVs.nil)), ?_⟩) | refine j_nil ?_ | ((refine sc_cond rfl ?_ ?_) <;> intro hc <;> (first | exact absurd hc (by decide) | ((try simp only [engHC] at hc) <;> first | (exfalso; omega) | exact absurd trivial hc | skip))))
  revert b; intro b2
  refine sc_own_nil_at 30 6 ?_
  refine sc_loop (ι := Nat × Value × List Od) (fun i => i.1 ≤ n ∧ i.2.2 = (l.take i.1).filter (fun o => cov o d)) (fun i => n - i.1) (fun i => [(1, .int .i64 d), (2, .pointer (some ⟨b2, 0, none⟩)), (5, i.2.1), (9, .slice A n c), (10, .int .i64 n), (11, .int .i64 i.1)]) (fun i => [.own i.2.1 30 6 i.2.2.length (i.2.2.flatMap odC), .cells b2 95 [.slice A n c]]) (0, .slice none 0 0, []) ⟨Nat.zero_le _, rfl⟩ (by repeat (first | exact FSub.nil | refine FSub.cons rfl ?_ | refine FSub.conse rfl (by congr 1; omega) ?_)) (by repeat (first | exact LSub.nil | refine LSub.cons (by repeat (first | exact Rem.here | apply Rem.there)) ?_)) ?_
  rintro ⟨k, v0, R⟩ ⟨hk, hR⟩
  dsimp only at hk hR ⊢
  have hRl : R.length ≤ k := by rw [hR]; have := List.length_filter_le (fun o => cov o d) (l.take k); rw [List.length_take] at this; omega
  by_cases hlt : k < n
  · obtain ⟨x, hx⟩ : ∃ x, l[k]? = some x := ⟨_, List.getElem?_eq_getElem (by omega)⟩
    obtain ⟨ad, rfl, hX⟩ := h k x hx
    refine sc_owns (by (repeat constructor)) ?_
    rintro A0 c0 rfl hs0
    have hcv := fun w' => covers_c x d w'
    cases hcb : cov x d
    · rw [hcb] at hcv
      repeat' (first | (refine gJ ?_; first | refine js rfl rfl rfl rfl ?_ | (refine gload rfl rfl ?_; refine j_qe rfl rfl rfl ?_; first | refine ⟨_, q_load_own rfl rfl rfl rfl (by (repeat constructor)) (by first | rfl | assumption), ?_⟩ | refine ⟨_, q_loadA_own rfl rfl rfl rfl (by (repeat constructor)) (by rfl), ?_⟩ | refine ⟨_, q_loadA_ext rfl rfl rfl rfl ⟨by assumption, (by first | exact id | assumption)⟩ (by rfl), ?_⟩ | refine ⟨_, q_load_ext rfl rfl rfl rfl ⟨by assumption, (by first | exact id | assumption)⟩ (by first | rfl | assumption), ?_⟩ | refine ⟨_, q_load_extb rfl rfl rfl rfl ⟨by assumption, (by first | exact id | assumption)⟩ (by rfl), ?_⟩ | refine ⟨_, q_loadA_extb rfl rfl rfl rfl ⟨by assumption, (by first | exact id | assumption)⟩ (by rfl), ?_⟩ | refine ⟨_, q_load_ext0 rfl rfl rfl rfl ⟨by assumption, (by first | exact id | assumption)⟩ (by rfl), ?_⟩) | refine jfield rfl rfl rfl rfl rfl rfl rfl rfl ?_ | refine jar rfl rfl rfl rfl rfl rfl rfl (by omega) ?_ | (refine gcall rfl rfl ?_; first | (refine j_qc (f := 81) rfl rfl rfl rfl rfl rfl rfl ?_; refine ⟨_, (fun w' _ => hcv w'), ?_⟩)) | (refine gF ?_; first | refine j_store rfl rfl rfl rfl rfl rfl rfl rfl (by (repeat constructor)) (by rfl) ?_ | (refine j_alloc rfl rfl rfl rfl rfl ?_; intro b) | (refine j_box rfl rfl rfl rfl rfl ?_; intro b) | (refine j_buildSlice rfl rfl rfl rfl rfl rfl rfl rfl rfl rfl rfl rfl ?_; intro b) | (refine j_append rfl rfl rfl rfl rfl rfl rfl rfl rfl rfl rfl (by (repeat constructor)) (by (repeat constructor)) (by rfl) (by rfl) (by omega) (fun _ => by (repeat constructor)) ?_; intro v)) | (refine j_qe rfl rfl rfl ?_; first | refine ⟨_, q_index_nat rfl rfl rfl rfl rfl (by omega), ?_⟩ | refine ⟨_, q_index_slice rfl rfl rfl rfl rfl (by omega), ?_⟩ | refine ⟨_, q_index_arr rfl rfl rfl rfl rfl (by omega), ?_⟩ | refine ⟨_, q_index_arr_ext rfl rfl rfl rfl rfl (by omega), ?_⟩ | refine ⟨_, q_len_slice rfl rfl rfl rfl, ?_⟩ | refine ⟨_, q_makeFunc rfl rfl, ?_⟩ | refine ⟨_, q_field_ext rfl rfl rfl rfl rfl, ?_⟩ | refine ⟨_, q_addu8 rfl rfl rfl (by omega), ?_⟩)) | (refine gSC ?_; first | refine sc_mv rfl ?_ | refine sc_q rfl ?_ | refine sc_region ?_) | (refine gSQ ?_; first | refine sq_go rfl ?_ | refine sq_mv rfl ?_ | refine sq_ende (by first | exact .inl rfl | exact .inr rfl) rfl rfl ⟨_, (RVs.cons (RV.tmp rfl) (RVs.nil)), ?_⟩) | refine j_nil ?_ | ((refine sc_cond rfl ?_ ?_) <;> intro hc <;> (first | exact absurd hc (by decide) | ((try simp only [engHC] at hc) <;> first | (exfalso; omega) | exact absurd trivial hc | skip))))
      exact sq_loop (k + 1, .slice A0 R.length c0, R) ⟨by show k + 1 ≤ n; omega, by show R = _; rw [hR, filt_no hx hcb]⟩ (by show n - (k + 1) < n - k; omega) (by repeat (first | exact FSub.nil | refine FSub.cons rfl ?_ | refine FSub.conse rfl (by congr 1; omega) ?_)) (by repeat (first | exact LSub.refl | refine LSub.cons (by repeat (first | exact Rem.here | apply Rem.there)) ?_ | apply LSub.skip))
    · rw [hcb] at hcv
      repeat' (first | (refine gJ ?_; first | refine js rfl rfl rfl rfl ?_ | (refine gload rfl rfl ?_; refine j_qe rfl rfl rfl ?_; first | refine ⟨_, q_load_own rfl rfl rfl rfl (by (repeat constructor)) (by first | rfl | assumption), ?_⟩ | refine ⟨_, q_loadA_own rfl rfl rfl rfl (by (repeat constructor)) (by rfl), ?_⟩ | refine ⟨_, q_loadA_ext rfl rfl rfl rfl ⟨by assumption, (by first | exact id | assumption)⟩ (by rfl), ?_⟩ | refine ⟨_, q_load_ext rfl rfl rfl rfl ⟨by assumption, (by first | exact id | assumption)⟩ (by first | rfl | assumption), ?_⟩ | refine ⟨_, q_load_extb rfl rfl rfl rfl ⟨by assumption, (by first | exact id | assumption)⟩ (by rfl), ?_⟩ | refine ⟨_, q_loadA_extb rfl rfl rfl rfl ⟨by assumption, (by first | exact id | assumption)⟩ (by rfl), ?_⟩ | refine ⟨_, q_load_ext0 rfl rfl rfl rfl ⟨by assumption, (by first | exact id | assumption)⟩ (by rfl), ?_⟩) | refine jfield rfl rfl rfl rfl rfl rfl rfl rfl ?_ | refine jar rfl rfl rfl rfl rfl rfl rfl (by omega) ?_ | (refine gcall rfl rfl ?_; first | (refine j_qc (f := 81) rfl rfl rfl rfl rfl rfl rfl ?_; refine ⟨_, (fun w' _ => hcv w'), ?_⟩)) | (refine gF ?_; refine j_append rfl rfl rfl rfl rfl rfl rfl rfl rfl rfl rfl (by (repeat constructor)) (by (repeat constructor)) (by rfl) (by rfl) (by omega) (fun _ => by (repeat constructor)) ?_; intro v; refine j_owns (by (repeat constructor)) ?_; rintro A3 c3 rfl hs3) | (refine gF ?_; first | refine j_store rfl rfl rfl rfl rfl rfl rfl rfl (by (repeat constructor)) (by rfl) ?_ | (refine j_alloc rfl rfl rfl rfl rfl ?_; intro b) | (refine j_box rfl rfl rfl rfl rfl ?_; intro b) | (refine j_buildSlice rfl rfl rfl rfl rfl rfl rfl rfl rfl rfl rfl rfl ?_; intro b) | (refine j_append rfl rfl rfl rfl rfl rfl rfl rfl rfl rfl rfl (by (repeat constructor)) (by (repeat constructor)) (by rfl) (by rfl) (by omega) (fun _ => by (repeat constructor)) ?_; intro v)) | (refine j_qe rfl rfl rfl ?_; first | refine ⟨_, q_index_nat rfl rfl rfl rfl rfl (by omega), ?_⟩ | refine ⟨_, q_index_slice rfl rfl rfl rfl rfl (by omega), ?_⟩ | refine ⟨_, q_index_arr rfl rfl rfl rfl rfl (by omega), ?_⟩ | refine ⟨_, q_index_arr_ext rfl rfl rfl rfl rfl (by omega), ?_⟩ | refine ⟨_, q_len_slice rfl rfl rfl rfl, ?_⟩ | refine ⟨_, q_makeFunc rfl rfl, ?_⟩ | refine ⟨_, q_field_ext rfl rfl rfl rfl rfl, ?_⟩ | refine ⟨_, q_addu8 rfl rfl rfl (by omega), ?_⟩)) | (refine gSC ?_; first | refine sc_mv rfl ?_ | refine sc_q rfl ?_ | refine sc_region ?_) | (refine gSQ ?_; first | refine sq_go rfl ?_ | refine sq_mv rfl ?_ | refine sq_ende (by first | exact .inl rfl | exact .inr rfl) rfl rfl ⟨_, (RVs.cons (RV.tmp rfl) (RVs.nil)), ?_⟩) | refine j_nil ?_ | ((refine sc_cond rfl ?_ ?_) <;> intro hc <;> (first | exact absurd hc (by decide) | ((try simp only [engHC] at hc) <;> first | (exfalso; omega) | exact absurd trivial hc | skip))))
      refine sq_loop (k + 1, .slice A3 (R.length + 1) c3, R ++ [x]) ⟨by show k + 1 ≤ n; omega, by show R ++ [x] = _; rw [hR, filt_yes hx hcb]⟩ (by show n - (k + 1) < n - k; omega) (by repeat (first | exact FSub.nil | refine FSub.cons rfl ?_ | refine FSub.conse rfl (by congr 1; omega) ?_)) ?_
      dsimp only
      rw [own_snoc]
      exact (by repeat (first | exact LSub.refl | refine LSub.cons (by repeat (first | exact Rem.here | apply Rem.there)) ?_ | apply LSub.skip))
  · rw [List.take_of_length_le (by omega)] at hR
    have hs := cmpS_od (.slice A n c)
    repeat' (first | (refine gJ ?_; first | refine js rfl rfl rfl rfl ?_ | (refine gload rfl rfl ?_; refine j_qe rfl rfl rfl ?_; first | refine ⟨_, q_load_own rfl rfl rfl rfl (by (repeat constructor)) (by first | rfl | assumption), ?_⟩ | refine ⟨_, q_loadA_own rfl rfl rfl rfl (by (repeat constructor)) (by rfl), ?_⟩ | refine ⟨_, q_loadA_ext rfl rfl rfl rfl ⟨by assumption, (by first | exact id | assumption)⟩ (by rfl), ?_⟩ | refine ⟨_, q_load_ext rfl rfl rfl rfl ⟨by assumption, (by first | exact id | assumption)⟩ (by first | rfl | assumption), ?_⟩ | refine ⟨_, q_load_extb rfl rfl rfl rfl ⟨by assumption, (by first | exact id | assumption)⟩ (by rfl), ?_⟩ | refine ⟨_, q_loadA_extb rfl rfl rfl rfl ⟨by assumption, (by first | exact id | assumption)⟩ (by rfl), ?_⟩ | refine ⟨_, q_load_ext0 rfl rfl rfl rfl ⟨by assumption, (by first | exact id | assumption)⟩ (by rfl), ?_⟩) | refine jfield rfl rfl rfl rfl rfl rfl rfl rfl ?_ | refine jar rfl rfl rfl rfl rfl rfl rfl (by omega) ?_ | (refine j_qe rfl rfl rfl ?_; refine ⟨_, q_makeFuncB rfl rfl rfl, ?_⟩) | (refine gcall rfl rfl ?_; refine gF ?_; refine j_call (f := 82) (ξ := List Od) (fun _ => .tuple #[]) _ (fun Q => [.own v0 30 6 Q.length (Q.flatMap odC), .cells b2 95 [.slice A n c]]) rfl rfl rfl rfl rfl rfl rfl (fun w' hs9 => srt_c hs swo_od hs9 (by omega) InL.here (fun Q _ => Upd.here)) ?_; rintro Q ⟨hQ1, hQ2⟩) | (refine gF ?_; first | refine j_store rfl rfl rfl rfl rfl rfl rfl rfl (by (repeat constructor)) (by rfl) ?_ | (refine j_alloc rfl rfl rfl rfl rfl ?_; intro b) | (refine j_box rfl rfl rfl rfl rfl ?_; intro b) | (refine j_buildSlice rfl rfl rfl rfl rfl rfl rfl rfl rfl rfl rfl rfl ?_; intro b) | (refine j_append rfl rfl rfl rfl rfl rfl rfl rfl rfl rfl rfl (by (repeat constructor)) (by (repeat constructor)) (by rfl) (by rfl) (by omega) (fun _ => by (repeat constructor)) ?_; intro v)) | (refine j_qe rfl rfl rfl ?_; first | refine ⟨_, q_index_nat rfl rfl rfl rfl rfl (by omega), ?_⟩ | refine ⟨_, q_index_slice rfl rfl rfl rfl rfl (by omega), ?_⟩ | refine ⟨_, q_index_arr rfl rfl rfl rfl rfl (by omega), ?_⟩ | refine ⟨_, q_index_arr_ext rfl rfl rfl rfl rfl (by omega), ?_⟩ | refine ⟨_, q_len_slice rfl rfl rfl rfl, ?_⟩ | refine ⟨_, q_makeFunc rfl rfl, ?_⟩ | refine ⟨_, q_field_ext rfl rfl rfl rfl rfl, ?_⟩ | refine ⟨_, q_addu8 rfl rfl rfl (by omega), ?_⟩)) | (refine gSC ?_; first | refine sc_mv rfl ?_ | refine sc_q rfl ?_ | refine sc_region ?_) | (refine gSQ ?_; first | refine sq_go rfl ?_ | refine sq_mv rfl ?_ | refine sq_ende (by first | exact .inl rfl | exact .inr rfl) rfl rfl ⟨_, (RVs.cons (RV.tmp rfl) (RVs.nil)), ?_⟩) | refine j_nil ?_ | ((refine sc_cond rfl ?_ ?_) <;> intro hc <;> (first | exact absurd hc (by decide) | ((try simp only [engHC] at hc) <;> first | (exfalso; omega) | exact absurd trivial hc | skip))))
    intro w' hS
    refine ⟨(v0, Q), ⟨hR ▸ hQ1, hQ2.imp (fun {a b} h => by rw [← ltS_bef]; exact h)⟩, rfl, ?_⟩
    exact hS.sub (by repeat (first | exact LSub.refl | refine LSub.cons (by repeat (first | exact Rem.here | apply Rem.there)) ?_ | apply LSub.skip))
theorem All_ok {l : List Od} {p d : Int} (A : Option Addr) (c : Nat) (w : World) (hr : rightB l = true) (hp : idI p) (hd : dayI d) (h : RS w 6 odC A l) :
    Calls Try.prog 22 #[.slice A l.length c, .int .i64 p, .int .i64 d] w fun e w' => ∃ v : Value, True ∧ e = .returned (.tuple #[v, .int .i64 0]) ∧ St w Cold [.own v 30 6 (allF l p d).length ((allF l p d).flatMap odC)] w' := by
  have hR : ∀ w', RS w' 6 odC A l → Calls Try.prog 25 #[.slice A l.length c] w' fun e w'' => e = .returned (.bool true) ∧ Below w'.heap.size w' w'' := fun w' h' => by
    have h9 := Right_c A c l w' (by have := ((rightB_iff l).1 hr).1; omega) h'
    rw [hr] at h9
    exact h9
  have hle : l.length ≤ 500 := ((rightB_iff l).1 hr).1
  have hokl := ((rightB_iff l).1 hr).2
  have hO : ∀ w', RS w' 6 odC A l → Calls Try.prog 58 #[.slice A l.length c, .int .i64 p] w' _ := fun w' h' => of_c A c l p w' (by omega) h'
  have hpl := ofP_len l p
  generalize hn : l.length = n at *
  have hI := fun w' => isID_c p w'
  have hD := fun w' => isDay_c d w'
  simp only [decide_eq_true hp] at hI
  simp only [decide_eq_true hd] at hD
  refine eng_start (n := 26) (args := [.slice A n c, .int .i64 p, .int .i64 d]) tab tab_ok fns fns_ok [.tmp 6, .tmp 7] Try.func22 rfl rfl rfl rfl ?_
  repeat' (first | (refine gJ ?_; first | refine js rfl rfl rfl rfl ?_ | (refine gcall rfl rfl ?_; first | (refine j_qc (f := 25) rfl rfl rfl rfl rfl rfl rfl ?_; refine ⟨_, (fun w' hs => hR w' (h.st hs)), ?_⟩) | (refine j_qc (f := 56) rfl rfl rfl rfl rfl rfl rfl ?_; refine ⟨_, (fun w' _ => hI w'), ?_⟩) | (refine j_qc (f := 57) rfl rfl rfl rfl rfl rfl rfl ?_; refine ⟨_, (fun w' _ => hD w'), ?_⟩)) | (refine gcall rfl rfl ?_; refine gF ?_; refine j_callN (f := 58) rfl rfl rfl rfl rfl rfl rfl (fun v => .agg #[v]) (fun _ => True) (fun v => [.own v 30 6 (ofP l p).length ((ofP l p).flatMap odC)]) (fun w' hs => hO w' (h.st hs)) (fun _ => trivial) ?_; intro v0 _; refine j_owns (by (repeat constructor)) ?_; rintro A2 c2 rfl hs2) | (refine gcall rfl rfl ?_; refine gF ?_; refine j_callN (f := 59) rfl rfl rfl rfl rfl rfl rfl (fun x : Value × List Od => x.1) (fun x => onR (ofP l p) d x.2) (fun x => [.own x.1 30 6 x.2.length (x.2.flatMap odC)]) (fun w' hs => onO_c _ _ (ofP l p) d w' (by omega) (rs_own (f := odC) (fun _ => rfl) hs (by (repeat constructor)) rfl rfl)) (fun _ => trivial) ?_; rintro ⟨v1, Q⟩ hQ) | refine j_guard_undef rfl rfl rfl rfl rfl ?_) | (refine gSC ?_; first | refine sc_mv rfl ?_ | refine sc_q rfl ?_ | refine sc_region ?_) | (refine gSQ ?_; first | refine sq_go rfl ?_ | refine sq_mv rfl ?_ | refine sq_ende (by first | exact .inl rfl | exact .inr rfl) rfl rfl ⟨_, (RVs.cons (RV.tmp rfl) (RVs.cons (RV.tmp rfl) (RVs.nil))), ?_⟩) | refine j_nil ?_ | ((first | refine j_guard rfl rfl rfl rfl rfl ?_ ?_ | refine sc_cond rfl ?_ ?_) <;> intro hc <;> (first | exact absurd hc (by decide) | ((try simp only [engHC] at hc) <;> first | (exfalso; omega) | exact absurd trivial hc | skip))))
  intro w' hS
  have e := onR_all hokl hQ
  rw [← e]
  exact ⟨v1, trivial, rfl, hS.sub (by repeat (first | exact LSub.refl | refine LSub.cons (by repeat (first | exact Rem.here | apply Rem.there)) ?_ | apply LSub.skip))⟩
end Go.Proofs.Ytmcmmmaffdenjaa

/-
  order: starts.
-/
namespace Go.Proofs.Ytmcmmmaffdenjaa
open Go.RowKit Eng
set_option linter.unusedVariables false
set_option linter.unusedSimpArgs false
set_option maxHeartbeats 8000000
attribute [local irreducible] SC SQ J Qt Calls Iterates
structure Sp where
  f : Int
  l : Int
  o : Int
deriving DecidableEq
abbrev spC (s : Sp) : List Value := [.int .i64 s.f, .int .i64 s.l, .int .i64 s.o]
def stq (p q : Int) (o : Od) : List Int := (if p < o.st ∧ o.st ≤ q then [o.st] else []) ++ (if o.kd ≠ 1 ∧ p ≤ o.en ∧ o.en < q then [o.en + 1] else [])
def stL (l : List Od) (p q : Int) : List Int := p :: l.flatMap (stq p q)
theorem stq_len (p q : Int) (o : Od) : (stq p q o).length ≤ 2 := by
  unfold stq
  split <;> split <;> simp
theorem stL_len (l : List Od) (p q : Int) : (stL l p q).length ≤ 2 * l.length + 1 := by
  unfold stL
  rw [List.length_cons]
  induction l with
  | nil => simp
  | cons o l ih =>
    have := stq_len p q o
    simp only [List.flatMap_cons, List.length_append, List.length_cons] at ih ⊢
    omega
theorem stL_snoc {l : List Od} {k : Nat} {x : Od} (p q : Int) (h : l[k]? = some x) : stL (l.take (k + 1)) p q = stL (l.take k) p q ++ stq p q x := by
  unfold stL
  rw [take_snocG h]
  simp
theorem starts_c (A : Option Addr) (c : Nat) (l : List Od) (p q : Int) (w : World) (hl : l.length ≤ 1000) (hp0 : 0 ≤ p) (hq : q ≤ 730484) (h : RS w 6 odC A l) :
    Calls Try.prog 86 #[.agg #[.slice A l.length c], .int .i64 p, .int .i64 q] w fun e w' => ∃ v : Value, True ∧ e = .returned v ∧ St w Cold [.own v 3 1 (sortI (keysOf (stL l p q))).length ((sortI (keysOf (stL l p q))).flatMap intC)] w' := by
  have hkl : (keysOf (stL l p q)).length ≤ 1000000 := by
    have h1 := len_metM (stL l p q)
    have h2 := stL_len l p q
    unfold keysOf
    rw [List.length_map]
    omega
  generalize hn : l.length = n at *
  refine eng_start (n := 56) (args := [.agg #[.slice A n c], .int .i64 p, .int .i64 q]) tab tab_ok fns fns_ok [.tmp 6] Try.func86 rfl rfl rfl rfl ?_
  repeat' (first | (refine gJ ?_; first | refine js rfl rfl rfl rfl ?_ | (refine gload rfl rfl ?_; refine j_qe rfl rfl rfl ?_; first | refine ⟨_, q_load_own rfl rfl rfl rfl (by (repeat constructor)) (by first | rfl | assumption), ?_⟩ | refine ⟨_, q_loadA_own rfl rfl rfl rfl (by (repeat constructor)) (by rfl), ?_⟩ | refine ⟨_, q_loadA_ext rfl rfl rfl rfl ⟨by assumption, (by first | exact id | assumption)⟩ (by rfl), ?_⟩ | refine ⟨_, q_load_ext rfl rfl rfl rfl ⟨by assumption, (by first | exact id | assumption)⟩ (by first | rfl | assumption), ?_⟩ | refine ⟨_, q_load_extb rfl rfl rfl rfl ⟨by assumption, (by first | exact id | assumption)⟩ (by rfl), ?_⟩ | refine ⟨_, q_loadA_extb rfl rfl rfl rfl ⟨by assumption, (by first | exact id | assumption)⟩ (by rfl), ?_⟩ | refine ⟨_, q_load_ext0 rfl rfl rfl rfl ⟨by assumption, (by first | exact id | assumption)⟩ (by rfl), ?_⟩) | refine jfield rfl rfl rfl rfl rfl rfl rfl rfl ?_ | refine jar rfl rfl rfl rfl rfl rfl rfl (by omega) ?_ | (refine gF ?_; refine j_makeMap .i64 rfl rfl rfl rfl ?_; intro bm) | (refine j_insert rfl rfl rfl rfl rfl rfl rfl rfl rfl rfl (by (repeat constructor)) ?_) | (refine gF ?_; first | refine j_store rfl rfl rfl rfl rfl rfl rfl rfl (by (repeat constructor)) (by rfl) ?_ | (refine j_alloc rfl rfl rfl rfl rfl ?_; intro b) | (refine j_box rfl rfl rfl rfl rfl ?_; intro b)) | (refine j_qe rfl rfl rfl ?_; first | refine ⟨_, q_index_nat rfl rfl rfl rfl rfl (by omega), ?_⟩ | refine ⟨_, q_index_slice rfl rfl rfl rfl rfl (by omega), ?_⟩ | refine ⟨_, q_index_arr rfl rfl rfl rfl rfl (by omega), ?_⟩ | refine ⟨_, q_index_arr_ext rfl rfl rfl rfl rfl (by omega), ?_⟩ | refine ⟨_, q_len_slice rfl rfl rfl rfl, ?_⟩ | refine ⟨_, q_field_ext rfl rfl rfl rfl rfl, ?_⟩ | refine ⟨_, q_addu8 rfl rfl rfl (by omega), ?_⟩) | refine j_guard_undef rfl rfl rfl rfl rfl ?_) | (refine gSC ?_; first | refine sc_mv rfl ?_ | refine sc_q rfl ?_ | refine sc_region ?_) | (refine gSQ ?_; first | refine sq_go rfl ?_ | refine sq_mv rfl ?_ | refine sq_ende (by first | exact .inl rfl | exact .inr rfl) rfl rfl ⟨_, (RVs.cons (RV.tmp rfl) (RVs.nil)), ?_⟩) | refine j_nil ?_ | ((first | refine j_guard rfl rfl rfl rfl rfl ?_ ?_ | refine sc_cond rfl ?_ ?_) <;> intro hc <;> (first | exact absurd hc (by decide) | ((try simp only [engHC] at hc) <;> first | (exfalso; omega) | exact absurd trivial hc | skip))))
  refine sc_loop (ι := Nat) (fun i => i ≤ n) (fun i => n - i) (fun i => [(1, .int .i64 p), (2, .int .i64 q), (7, .map (some bm)), (14, .slice A n c), (15, .int .i64 n), (16, .int .i64 i)]) (fun i => [haMap bm .i64 (metM (stL (l.take i) p q))]) 0 (Nat.zero_le _) (by repeat (first | exact FSub.nil | refine FSub.cons rfl ?_ | refine FSub.conse rfl (by congr 1; omega) ?_)) (by repeat (first | exact LSub.nil | refine LSub.cons (by repeat (first | exact Rem.here | apply Rem.there)) ?_)) ?_
  intro i hi
  by_cases hlt : i < n
  · obtain ⟨x, hx⟩ : ∃ x, l[i]? = some x := ⟨_, List.getElem?_eq_getElem (by omega)⟩
    obtain ⟨ad, rfl, hX⟩ := h i x hx
    have hs := stL_snoc p q hx
    by_cases hst : p < x.st ∧ x.st ≤ q <;> by_cases hen : (x.kd ≠ 1 ∧ p ≤ x.en ∧ x.en < q)
    · rw [show stq p q x = [x.st] ++ [x.en + 1] from by unfold stq; rw [if_pos hst, if_pos hen], ← List.append_assoc] at hs
      repeat' (first | (refine gJ ?_; first | refine js rfl rfl rfl rfl ?_ | (refine gload rfl rfl ?_; refine j_qe rfl rfl rfl ?_; first | refine ⟨_, q_load_own rfl rfl rfl rfl (by (repeat constructor)) (by first | rfl | assumption), ?_⟩ | refine ⟨_, q_loadA_own rfl rfl rfl rfl (by (repeat constructor)) (by rfl), ?_⟩ | refine ⟨_, q_loadA_ext rfl rfl rfl rfl ⟨by assumption, (by first | exact id | assumption)⟩ (by rfl), ?_⟩ | refine ⟨_, q_load_ext rfl rfl rfl rfl ⟨by assumption, (by first | exact id | assumption)⟩ (by first | rfl | assumption), ?_⟩ | refine ⟨_, q_load_extb rfl rfl rfl rfl ⟨by assumption, (by first | exact id | assumption)⟩ (by rfl), ?_⟩ | refine ⟨_, q_loadA_extb rfl rfl rfl rfl ⟨by assumption, (by first | exact id | assumption)⟩ (by rfl), ?_⟩ | refine ⟨_, q_load_ext0 rfl rfl rfl rfl ⟨by assumption, (by first | exact id | assumption)⟩ (by rfl), ?_⟩) | refine jfield rfl rfl rfl rfl rfl rfl rfl rfl ?_ | refine jar rfl rfl rfl rfl rfl rfl rfl (by omega) ?_ | (refine gF ?_; refine j_mapUpdate (v := .bool true) rfl rfl rfl rfl rfl rfl rfl rfl rfl rfl (by (repeat constructor)) ?_; rw [← met_snoc]) | (refine gF ?_; first | refine j_store rfl rfl rfl rfl rfl rfl rfl rfl (by (repeat constructor)) (by rfl) ?_ | (refine j_alloc rfl rfl rfl rfl rfl ?_; intro b) | (refine j_box rfl rfl rfl rfl rfl ?_; intro b)) | (refine j_qe rfl rfl rfl ?_; first | refine ⟨_, q_index_nat rfl rfl rfl rfl rfl (by omega), ?_⟩ | refine ⟨_, q_index_slice rfl rfl rfl rfl rfl (by omega), ?_⟩ | refine ⟨_, q_index_arr rfl rfl rfl rfl rfl (by omega), ?_⟩ | refine ⟨_, q_index_arr_ext rfl rfl rfl rfl rfl (by omega), ?_⟩ | refine ⟨_, q_len_slice rfl rfl rfl rfl, ?_⟩ | refine ⟨_, q_field_ext rfl rfl rfl rfl rfl, ?_⟩ | refine ⟨_, q_addu8 rfl rfl rfl (by omega), ?_⟩) | refine j_guard_undef rfl rfl rfl rfl rfl ?_) | (refine gSC ?_; first | refine sc_mv rfl ?_ | refine sc_q rfl ?_ | refine sc_region ?_) | (refine gSQ ?_; first | refine sq_go rfl ?_ | refine sq_mv rfl ?_ | refine sq_ende (by first | exact .inl rfl | exact .inr rfl) rfl rfl ⟨_, (RVs.cons (RV.tmp rfl) (RVs.nil)), ?_⟩) | refine j_nil ?_ | ((first | refine j_guard rfl rfl rfl rfl rfl ?_ ?_ | refine sc_cond rfl ?_ ?_) <;> intro hc <;> (first | exact absurd hc (by decide) | ((try simp only [engHC] at hc) <;> first | (exfalso; omega) | exact absurd trivial hc | skip))))
      all_goals exact sq_loop (i + 1) (by show i + 1 ≤ n; omega) (by show n - (i + 1) < n - i; omega) (by repeat (first | exact FSub.nil | refine FSub.cons rfl ?_ | refine FSub.conse rfl (by congr 1; omega) ?_)) (by rw [hs]; exact (by repeat (first | exact LSub.refl | refine LSub.cons (by repeat (first | exact Rem.here | apply Rem.there)) ?_ | apply LSub.skip)))
    · rw [show stq p q x = [x.st] from by unfold stq; rw [if_pos hst, if_neg hen]; rfl] at hs
      repeat' (first | (refine gJ ?_; first | refine js rfl rfl rfl rfl ?_ | (refine gload rfl rfl ?_; refine j_qe rfl rfl rfl ?_; first | refine ⟨_, q_load_own rfl rfl rfl rfl (by (repeat constructor)) (by first | rfl | assumption), ?_⟩ | refine ⟨_, q_loadA_own rfl rfl rfl rfl (by (repeat constructor)) (by rfl), ?_⟩ | refine ⟨_, q_loadA_ext rfl rfl rfl rfl ⟨by assumption, (by first | exact id | assumption)⟩ (by rfl), ?_⟩ | refine ⟨_, q_load_ext rfl rfl rfl rfl ⟨by assumption, (by first | exact id | assumption)⟩ (by first | rfl | assumption), ?_⟩ | refine ⟨_, q_load_extb rfl rfl rfl rfl ⟨by assumption, (by first | exact id | assumption)⟩ (by rfl), ?_⟩ | refine ⟨_, q_loadA_extb rfl rfl rfl rfl ⟨by assumption, (by first | exact id | assumption)⟩ (by rfl), ?_⟩ | refine ⟨_, q_load_ext0 rfl rfl rfl rfl ⟨by assumption, (by first | exact id | assumption)⟩ (by rfl), ?_⟩) | refine jfield rfl rfl rfl rfl rfl rfl rfl rfl ?_ | refine jar rfl rfl rfl rfl rfl rfl rfl (by omega) ?_ | (refine gF ?_; refine j_mapUpdate (v := .bool true) rfl rfl rfl rfl rfl rfl rfl rfl rfl rfl (by (repeat constructor)) ?_; rw [← met_snoc]) | (refine gF ?_; first | refine j_store rfl rfl rfl rfl rfl rfl rfl rfl (by (repeat constructor)) (by rfl) ?_ | (refine j_alloc rfl rfl rfl rfl rfl ?_; intro b) | (refine j_box rfl rfl rfl rfl rfl ?_; intro b)) | (refine j_qe rfl rfl rfl ?_; first | refine ⟨_, q_index_nat rfl rfl rfl rfl rfl (by omega), ?_⟩ | refine ⟨_, q_index_slice rfl rfl rfl rfl rfl (by omega), ?_⟩ | refine ⟨_, q_index_arr rfl rfl rfl rfl rfl (by omega), ?_⟩ | refine ⟨_, q_index_arr_ext rfl rfl rfl rfl rfl (by omega), ?_⟩ | refine ⟨_, q_len_slice rfl rfl rfl rfl, ?_⟩ | refine ⟨_, q_field_ext rfl rfl rfl rfl rfl, ?_⟩ | refine ⟨_, q_addu8 rfl rfl rfl (by omega), ?_⟩) | refine j_guard_undef rfl rfl rfl rfl rfl ?_) | (refine gSC ?_; first | refine sc_mv rfl ?_ | refine sc_q rfl ?_ | refine sc_region ?_) | (refine gSQ ?_; first | refine sq_go rfl ?_ | refine sq_mv rfl ?_ | refine sq_ende (by first | exact .inl rfl | exact .inr rfl) rfl rfl ⟨_, (RVs.cons (RV.tmp rfl) (RVs.nil)), ?_⟩) | refine j_nil ?_ | ((first | refine j_guard rfl rfl rfl rfl rfl ?_ ?_ | refine sc_cond rfl ?_ ?_) <;> intro hc <;> (first | exact absurd hc (by decide) | ((try simp only [engHC] at hc) <;> first | (exfalso; omega) | exact absurd trivial hc | skip))))
      all_goals exact sq_loop (i + 1) (by show i + 1 ≤ n; omega) (by show n - (i + 1) < n - i; omega) (by repeat (first | exact FSub.nil | refine FSub.cons rfl ?_ | refine FSub.conse rfl (by congr 1; omega) ?_)) (by rw [hs]; exact (by repeat (first | exact LSub.refl | refine LSub.cons (by repeat (first | exact Rem.here | apply Rem.there)) ?_ | apply LSub.skip)))
    · rw [show stq p q x = [x.en + 1] from by unfold stq; rw [if_neg hst, if_pos hen]; rfl] at hs
      repeat' (first | (refine gJ ?_; first | refine js rfl rfl rfl rfl ?_ | (refine gload rfl rfl ?_; refine j_qe rfl rfl rfl ?_; first | refine ⟨_, q_load_own rfl rfl rfl rfl (by (repeat constructor)) (by first | rfl | assumption), ?_⟩ | refine ⟨_, q_loadA_own rfl rfl rfl rfl (by (repeat constructor)) (by rfl), ?_⟩ | refine ⟨_, q_loadA_ext rfl rfl rfl rfl ⟨by assumption, (by first | exact id | assumption)⟩ (by rfl), ?_⟩ | refine ⟨_, q_load_ext rfl rfl rfl rfl ⟨by assumption, (by first | exact id | assumption)⟩ (by first | rfl | assumption), ?_⟩ | refine ⟨_, q_load_extb rfl rfl rfl rfl ⟨by assumption, (by first | exact id | assumption)⟩ (by rfl), ?_⟩ | refine ⟨_, q_loadA_extb rfl rfl rfl rfl ⟨by assumption, (by first | exact id | assumption)⟩ (by rfl), ?_⟩ | refine ⟨_, q_load_ext0 rfl rfl rfl rfl ⟨by assumption, (by first | exact id | assumption)⟩ (by rfl), ?_⟩) | refine jfield rfl rfl rfl rfl rfl rfl rfl rfl ?_ | refine jar rfl rfl rfl rfl rfl rfl rfl (by omega) ?_ | (refine gF ?_; refine j_mapUpdate (v := .bool true) rfl rfl rfl rfl rfl rfl rfl rfl rfl rfl (by (repeat constructor)) ?_; rw [← met_snoc]) | (refine gF ?_; first | refine j_store rfl rfl rfl rfl rfl rfl rfl rfl (by (repeat constructor)) (by rfl) ?_ | (refine j_alloc rfl rfl rfl rfl rfl ?_; intro b) | (refine j_box rfl rfl rfl rfl rfl ?_; intro b)) | (refine j_qe rfl rfl rfl ?_; first | refine ⟨_, q_index_nat rfl rfl rfl rfl rfl (by omega), ?_⟩ | refine ⟨_, q_index_slice rfl rfl rfl rfl rfl (by omega), ?_⟩ | refine ⟨_, q_index_arr rfl rfl rfl rfl rfl (by omega), ?_⟩ | refine ⟨_, q_index_arr_ext rfl rfl rfl rfl rfl (by omega), ?_⟩ | refine ⟨_, q_len_slice rfl rfl rfl rfl, ?_⟩ | refine ⟨_, q_field_ext rfl rfl rfl rfl rfl, ?_⟩ | refine ⟨_, q_addu8 rfl rfl rfl (by omega), ?_⟩) | refine j_guard_undef rfl rfl rfl rfl rfl ?_) | (refine gSC ?_; first | refine sc_mv rfl ?_ | refine sc_q rfl ?_ | refine sc_region ?_) | (refine gSQ ?_; first | refine sq_go rfl ?_ | refine sq_mv rfl ?_ | refine sq_ende (by first | exact .inl rfl | exact .inr rfl) rfl rfl ⟨_, (RVs.cons (RV.tmp rfl) (RVs.nil)), ?_⟩) | refine j_nil ?_ | ((first | refine j_guard rfl rfl rfl rfl rfl ?_ ?_ | refine sc_cond rfl ?_ ?_) <;> intro hc <;> (first | exact absurd hc (by decide) | ((try simp only [engHC] at hc) <;> first | (exfalso; omega) | exact absurd trivial hc | skip))))
      all_goals exact sq_loop (i + 1) (by show i + 1 ≤ n; omega) (by show n - (i + 1) < n - i; omega) (by repeat (first | exact FSub.nil | refine FSub.cons rfl ?_ | refine FSub.conse rfl (by congr 1; omega) ?_)) (by rw [hs]; exact (by repeat (first | exact LSub.refl | refine LSub.cons (by repeat (first | exact Rem.here | apply Rem.there)) ?_ | apply LSub.skip)))
    · rw [show stq p q x = [] from by unfold stq; rw [if_neg hst, if_neg hen]; rfl, List.append_nil] at hs
      repeat' (first | (refine gJ ?_; first | refine js rfl rfl rfl rfl ?_ | (refine gload rfl rfl ?_; refine j_qe rfl rfl rfl ?_; first | refine ⟨_, q_load_own rfl rfl rfl rfl (by (repeat constructor)) (by first | rfl | assumption), ?_⟩ | refine ⟨_, q_loadA_own rfl rfl rfl rfl (by (repeat constructor)) (by rfl), ?_⟩ | refine ⟨_, q_loadA_ext rfl rfl rfl rfl ⟨by assumption, (by first | exact id | assumption)⟩ (by rfl), ?_⟩ | refine ⟨_, q_load_ext rfl rfl rfl rfl ⟨by assumption, (by first | exact id | assumption)⟩ (by first | rfl | assumption), ?_⟩ | refine ⟨_, q_load_extb rfl rfl rfl rfl ⟨by assumption, (by first | exact id | assumption)⟩ (by rfl), ?_⟩ | refine ⟨_, q_loadA_extb rfl rfl rfl rfl ⟨by assumption, (by first | exact id | assumption)⟩ (by rfl), ?_⟩ | refine ⟨_, q_load_ext0 rfl rfl rfl rfl ⟨by assumption, (by first | exact id | assumption)⟩ (by rfl), ?_⟩) | refine jfield rfl rfl rfl rfl rfl rfl rfl rfl ?_ | refine jar rfl rfl rfl rfl rfl rfl rfl (by omega) ?_ | (refine gF ?_; refine j_mapUpdate (v := .bool true) rfl rfl rfl rfl rfl rfl rfl rfl rfl rfl (by (repeat constructor)) ?_; rw [← met_snoc]) | (refine gF ?_; first | refine j_store rfl rfl rfl rfl rfl rfl rfl rfl (by (repeat constructor)) (by rfl) ?_ | (refine j_alloc rfl rfl rfl rfl rfl ?_; intro b) | (refine j_box rfl rfl rfl rfl rfl ?_; intro b)) | (refine j_qe rfl rfl rfl ?_; first | refine ⟨_, q_index_nat rfl rfl rfl rfl rfl (by omega), ?_⟩ | refine ⟨_, q_index_slice rfl rfl rfl rfl rfl (by omega), ?_⟩ | refine ⟨_, q_index_arr rfl rfl rfl rfl rfl (by omega), ?_⟩ | refine ⟨_, q_index_arr_ext rfl rfl rfl rfl rfl (by omega), ?_⟩ | refine ⟨_, q_len_slice rfl rfl rfl rfl, ?_⟩ | refine ⟨_, q_field_ext rfl rfl rfl rfl rfl, ?_⟩ | refine ⟨_, q_addu8 rfl rfl rfl (by omega), ?_⟩) | refine j_guard_undef rfl rfl rfl rfl rfl ?_) | (refine gSC ?_; first | refine sc_mv rfl ?_ | refine sc_q rfl ?_ | refine sc_region ?_) | (refine gSQ ?_; first | refine sq_go rfl ?_ | refine sq_mv rfl ?_ | refine sq_ende (by first | exact .inl rfl | exact .inr rfl) rfl rfl ⟨_, (RVs.cons (RV.tmp rfl) (RVs.nil)), ?_⟩) | refine j_nil ?_ | ((first | refine j_guard rfl rfl rfl rfl rfl ?_ ?_ | refine sc_cond rfl ?_ ?_) <;> intro hc <;> (first | exact absurd hc (by decide) | ((try simp only [engHC] at hc) <;> first | (exfalso; omega) | exact absurd trivial hc | skip))))
      all_goals exact sq_loop (i + 1) (by show i + 1 ≤ n; omega) (by show n - (i + 1) < n - i; omega) (by repeat (first | exact FSub.nil | refine FSub.cons rfl ?_ | refine FSub.conse rfl (by congr 1; omega) ?_)) (by rw [hs]; exact (by repeat (first | exact LSub.refl | refine LSub.cons (by repeat (first | exact Rem.here | apply Rem.there)) ?_ | apply LSub.skip)))
  · have e : l.take i = l := List.take_of_length_le (by omega)
    rw [e]
    generalize hK : stL l p q = K at *
    repeat' (first | (refine gJ ?_; first | refine js rfl rfl rfl rfl ?_ | (refine gload rfl rfl ?_; refine j_qe rfl rfl rfl ?_; first | refine ⟨_, q_load_own rfl rfl rfl rfl (by (repeat constructor)) (by first | rfl | assumption), ?_⟩ | refine ⟨_, q_loadA_own rfl rfl rfl rfl (by (repeat constructor)) (by rfl), ?_⟩ | refine ⟨_, q_loadA_ext rfl rfl rfl rfl ⟨by assumption, (by first | exact id | assumption)⟩ (by rfl), ?_⟩ | refine ⟨_, q_load_ext rfl rfl rfl rfl ⟨by assumption, (by first | exact id | assumption)⟩ (by first | rfl | assumption), ?_⟩ | refine ⟨_, q_load_extb rfl rfl rfl rfl ⟨by assumption, (by first | exact id | assumption)⟩ (by rfl), ?_⟩ | refine ⟨_, q_loadA_extb rfl rfl rfl rfl ⟨by assumption, (by first | exact id | assumption)⟩ (by rfl), ?_⟩ | refine ⟨_, q_load_ext0 rfl rfl rfl rfl ⟨by assumption, (by first | exact id | assumption)⟩ (by rfl), ?_⟩) | refine jfield rfl rfl rfl rfl rfl rfl rfl rfl ?_ | refine jar rfl rfl rfl rfl rfl rfl rfl (by omega) ?_ | (refine gcall rfl rfl ?_; refine gF ?_; refine j_callN (f := 88) rfl rfl rfl rfl rfl rfl rfl (fun b : Nat => .func (.func 97) #[] #[.pointer (some ⟨b, 0, none⟩)]) (fun _ => True) (fun b => [.cells b 103 [.map (some bm)]]) (fun w' hs => keysB_c bm w') (fun _ => trivial) ?_; intro bk _) | (refine gcall rfl rfl ?_; refine gF ?_; refine j_callN (f := 75) rfl rfl rfl rfl rfl rfl rfl (fun v : Value => v) (fun _ => True) (fun v => [.own v 3 1 (sortI (keysOf K)).length ((sortI (keysOf K)).flatMap intC)]) (fun w' hs => by obtain ⟨es, clk, hG⟩ := hs.mapG (b := bm) (M := metM K) (by (repeat constructor)); exact sorted_c 97 [.pointer (some ⟨bk, 0, none⟩)] (keysOf K) (PreK (metM K)) w' rfl hkl (fun l hl => by have h1 := hl.len; unfold keysOf at hkl; rw [List.length_map] at hkl; omega) (keysB_hit bk bm (metM K) es clk w' (hs.ext (b := bk) (cs := [.map (some bm)]) (u := 103) (by (repeat constructor))) hG)) (fun _ => trivial) ?_; intro v9 _) | (refine gF ?_; first | refine j_store rfl rfl rfl rfl rfl rfl rfl rfl (by (repeat constructor)) (by rfl) ?_ | (refine j_alloc rfl rfl rfl rfl rfl ?_; intro b) | (refine j_box rfl rfl rfl rfl rfl ?_; intro b)) | (refine j_qe rfl rfl rfl ?_; first | refine ⟨_, q_index_nat rfl rfl rfl rfl rfl (by omega), ?_⟩ | refine ⟨_, q_index_slice rfl rfl rfl rfl rfl (by omega), ?_⟩ | refine ⟨_, q_index_arr rfl rfl rfl rfl rfl (by omega), ?_⟩ | refine ⟨_, q_index_arr_ext rfl rfl rfl rfl rfl (by omega), ?_⟩ | refine ⟨_, q_len_slice rfl rfl rfl rfl, ?_⟩ | refine ⟨_, q_field_ext rfl rfl rfl rfl rfl, ?_⟩ | refine ⟨_, q_addu8 rfl rfl rfl (by omega), ?_⟩) | refine j_guard_undef rfl rfl rfl rfl rfl ?_) | (refine gSC ?_; first | refine sc_mv rfl ?_ | refine sc_q rfl ?_ | refine sc_region ?_) | (refine gSQ ?_; first | refine sq_go rfl ?_ | refine sq_mv rfl ?_ | refine sq_ende (by first | exact .inl rfl | exact .inr rfl) rfl rfl ⟨_, (RVs.cons (RV.tmp rfl) (RVs.nil)), ?_⟩) | refine j_nil ?_ | ((first | refine j_guard rfl rfl rfl rfl rfl ?_ ?_ | refine sc_cond rfl ?_ ?_) <;> intro hc <;> (first | exact absurd hc (by decide) | ((try simp only [engHC] at hc) <;> first | (exfalso; omega) | exact absurd trivial hc | skip))))
    intro w' hS
    exact ⟨v9, trivial, rfl, hS.sub (by repeat (first | exact LSub.refl | refine LSub.cons (by repeat (first | exact Rem.here | apply Rem.there)) ?_ | apply LSub.skip))⟩
end Go.Proofs.Ytmcmmmaffdenjaa
