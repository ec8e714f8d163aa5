/-
  In one text: Opl, Osn.
-/
import Derived.Test.YtmcmmmaffdenjaaAk5
import Derived.Test.YtmcmmmaffdenjaaLcm
import Derived.Test.YtmcmmmaffdenjaaEngCoreB
/-
  Plain facts of chapter 35's laws.
-/
namespace Go.Proofs.Ytmcmmmaffdenjaa
open Go.RowKit Eng
set_option linter.unusedVariables false
set_option linter.unusedSimpArgs false
set_option maxHeartbeats 8000000
attribute [local irreducible] SC SQ J Qt Calls Iterates
theorem cov_prop (o : Od) (d : Int) : cov o d = true ↔ o.st ≤ d ∧ (o.kd = 1 ∨ d ≤ o.en) := by
  unfold cov
  rw [decide_eq_true_eq]
end Go.Proofs.Ytmcmmmaffdenjaa

/-
  OrderSpans.
-/
namespace Go.Proofs.Ytmcmmmaffdenjaa
open Go.RowKit Eng
set_option linter.unusedVariables false
set_option linter.unusedSimpArgs false
set_option maxHeartbeats 8000000
attribute [local irreducible] SC SQ J Qt Calls Iterates
theorem frc_congr {l : List Od} {d e : Int} (h : ∀ o ∈ l, cov o d = cov o e) : frc l d = frc l e := by
  unfold frc
  have key : ∀ (l : List Od) (b : Od), (∀ o ∈ l, cov o d = cov o e) → l.foldl (stF d) b = l.foldl (stF e) b := by
    intro l
    induction l with
    | nil => intro b _; rfl
    | cons x l ih =>
      intro b h
      rw [List.foldl_cons, List.foldl_cons, show stF d b x = stF e b x from by unfold stF; rw [h x List.mem_cons_self]]
      exact ih _ fun o ho => h o (List.mem_cons_of_mem _ ho)
  exact key l odZ h
/-- Between two days at which nothing changes the same order is in force. -/
theorem frc_const {l : List Od} (hok : okL l) {a z u t : Int} (h1 : a ≤ u) (h2 : u ≤ t) (h3 : t ≤ z) (hn : ∀ k ∈ stL l a z, ¬ (u < k ∧ k ≤ t)) : frc l t = frc l u := by
  refine frc_congr fun o ho => ?_
  have hko := okL_ok hok o ho
  rw [Bool.eq_iff_iff, cov_prop, cov_prop]
  have m1 : a < o.st → o.st ≤ z → o.st ∈ stL l a z := fun g1 g2 => by
    unfold stL
    refine List.mem_cons_of_mem _ (List.mem_flatMap.2 ⟨o, ho, ?_⟩)
    unfold stq
    rw [if_pos ⟨g1, g2⟩]
    simp
  have m2 : o.kd ≠ 1 → a ≤ o.en → o.en < z → o.en + 1 ∈ stL l a z := fun g0 g1 g2 => by
    unfold stL
    refine List.mem_cons_of_mem _ (List.mem_flatMap.2 ⟨o, ho, ?_⟩)
    unfold stq
    rw [if_pos (show o.kd ≠ 1 ∧ a ≤ o.en ∧ o.en < z from ⟨g0, g1, g2⟩)]
    simp
  constructor
  · rintro ⟨g1, g2⟩
    refine ⟨?_, ?_⟩
    · apply Classical.byContradiction
      intro g3
      exact hn _ (m1 (by omega) (by omega)) ⟨by omega, by omega⟩
    · rcases g2 with g2 | g2
      · exact .inl g2
      · exact .inr (by omega)
  · rintro ⟨g1, g2⟩
    refine ⟨by omega, ?_⟩
    by_cases hk : o.kd = 1
    · exact .inl hk
    · right
      rcases g2 with g2 | g2
      · exact absurd g2 hk
      · apply Classical.byContradiction
        intro g3
        exact hn _ (m2 hk (by omega) (by omega)) ⟨by omega, by omega⟩
def Tl (g : Int → Int) (z : Int) : Int → List Sp → Prop
  | _, [] => False
  | s, x :: R => x.f = s ∧ s ≤ x.l ∧ (∀ t, s ≤ t → t ≤ x.l → g t = x.o) ∧ match R with
    | [] => x.l = z
    | y :: _ => x.l < z ∧ x.o ≠ y.o ∧ Tl g z (x.l + 1) R
theorem spanGo_head (g : Int → Int) (z : Int) : ∀ (xs : List Int) (s o : Int), ∃ l R, spanGo g z s o xs = ⟨s, l, o⟩ :: R
  | [], s, o => ⟨_, _, rfl⟩
  | x :: xs, s, o => by
    simp only [spanGo]
    split
    · exact spanGo_head g z xs s o
    · exact ⟨_, _, rfl⟩
theorem spanGo_tl (g : Int → Int) (a z : Int) (K : List Int) (hc : ∀ u t, a ≤ u → u ≤ t → t ≤ z → (∀ k ∈ K, ¬ (u < k ∧ k ≤ t)) → g t = g u) :
    ∀ (xs : List Int) (s o cur : Int), a ≤ s → s ≤ cur → cur ≤ z → xs.Pairwise (· < ·) → (∀ x ∈ xs, cur ≤ x ∧ x ≤ z) → (∀ k ∈ K, cur < k → k ∈ xs) → (∀ t, s ≤ t → t ≤ cur → g t = o) → Tl g z s (spanGo g z s o xs)
  | [], s, o, cur, h1, h2, h3, _, _, h6, h7 => by
    refine ⟨rfl, by dsimp only; omega, fun t t1 t2 => ?_, rfl⟩
    by_cases ht : t ≤ cur
    · exact h7 t t1 ht
    · rw [hc cur t (by omega) (by omega) t2 (fun k hk hh => by have := h6 k hk hh.1; cases this)]
      exact h7 cur h2 (Int.le_refl _)
  | x :: xs, s, o, cur, h1, h2, h3, h4, h5, h6, h7 => by
    obtain ⟨hx1, hx2⟩ := h5 x List.mem_cons_self
    rw [List.pairwise_cons] at h4
    have hbet : ∀ t, s ≤ t → t < x → g t = o := fun t t1 t2 => by
      by_cases ht : t ≤ cur
      · exact h7 t t1 ht
      · rw [hc cur t (by omega) (by omega) (by omega) (fun k hk hh => by
          rcases List.mem_cons.1 (h6 k hk hh.1) with rfl | h9
          · omega
          · have := h4.1 k h9; omega)]
        exact h7 cur h2 (Int.le_refl _)
    have hxs : ∀ y ∈ xs, x ≤ y ∧ y ≤ z := fun y hy => ⟨by have := h4.1 y hy; omega, (h5 y (List.mem_cons_of_mem _ hy)).2⟩
    have hK : ∀ k ∈ K, x < k → k ∈ xs := fun k hk hlt => by
      rcases List.mem_cons.1 (h6 k hk (by omega)) with rfl | h9
      · omega
      · exact h9
    simp only [spanGo]
    by_cases hg : g x = o
    · rw [if_pos hg]
      refine spanGo_tl g a z K hc xs s o x h1 (by omega) hx2 h4.2 hxs hK fun t t1 t2 => ?_
      by_cases ht : t < x
      · exact hbet t t1 ht
      · rw [show t = x by omega]; exact hg
    · rw [if_neg hg]
      have hne : x ≠ cur := fun e => hg (by rw [e]; exact h7 cur h2 (Int.le_refl _))
      have ih := spanGo_tl g a z K hc xs x (g x) x (by omega) (Int.le_refl _) hx2 h4.2 hxs hK fun t t1 t2 => by rw [show t = x by omega]
      obtain ⟨l9, R9, e9⟩ := spanGo_head g z xs x (g x)
      rw [e9] at ih ⊢
      refine ⟨rfl, by dsimp only; omega, fun t t1 t2 => hbet t t1 (by dsimp only at t2; omega), ?_⟩
      dsimp only
      refine ⟨by omega, fun e => hg e.symm, ?_⟩
      rw [show x - 1 + 1 = x by omega]
      exact ih
theorem spans_tl {l : List Od} (hok : okL l) {a z : Int} (h0 : a ≤ z) : Tl (fun d => (frc l d).idn) z a (spansF l a z) := by
  have hmem : ∀ x, x ∈ sortI (keysOf (stL l a z)) ↔ x ∈ stL l a z := fun x => by rw [mem_sortI, mem_keysOf]
  have hnd : (sortI (keysOf (stL l a z))).Nodup := by
    have hp : (sortI (keysOf (stL l a z))).Perm (keysOf (stL l a z)) := by unfold sortI; exact List.mergeSort_perm _ _
    exact hp.nodup_iff.2 (nodup_keysOf _)
  have hlt : (sortI (keysOf (stL l a z))).Pairwise (· < ·) := ((sortI_sorted _).and hnd).imp (fun {x y} h => by have := h.1; have := h.2; omega)
  unfold spansF
  refine spanGo_tl _ a z (stL l a z) (fun u t g1 g2 g3 g4 => by rw [frc_const hok g1 g2 g3 g4]) _ a _ a (Int.le_refl _) (Int.le_refl _) h0 hlt (fun x hx => ?_) (fun k hk _ => (hmem k).2 hk) (fun t t1 t2 => by rw [show t = a by omega])
  rw [hmem] at hx
  unfold stL at hx
  rcases List.mem_cons.1 hx with rfl | hx
  · omega
  · obtain ⟨o, ho, hx⟩ := List.mem_flatMap.1 hx
    unfold stq at hx
    rcases List.mem_append.1 hx with hx | hx <;> split at hx <;> simp at hx <;> omega
end Go.Proofs.Ytmcmmmaffdenjaa
