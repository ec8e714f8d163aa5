/-
  Circles, plain.
-/
import Derived.Test.YtmcmmmaffdenjaaWyp
namespace Go.Proofs.Ytmcmmmaffdenjaa
open Go.RowKit Eng
set_option linter.unusedVariables false
set_option linter.unusedSimpArgs false
set_option maxHeartbeats 8000000
attribute [local irreducible] SC SQ J Qt Calls Iterates
/-- A circle. -/
structure IsC (f : Int → Od) (C : List Int) : Prop where
  pos : 0 < C.length
  nd : C.Nodup
  step : ∀ (i : Nat) (q : Int), C[i]? = some q → (f q).idn ≠ 0 ∧ (f q).kd ≠ 3 ∧ C[(i + 1) % C.length]? = some (f q).to
theorem IsC.closed {f : Int → Od} {C : List Int} (h : IsC f C) : Closed f (fun q => q ∈ C) := fun q hq => by
  obtain ⟨i, hi⟩ := List.mem_iff_getElem?.1 hq
  obtain ⟨a, b, c⟩ := h.step i q hi
  exact ⟨a, b, List.mem_of_getElem? c⟩
/-- Two circles with one point in common have the same points. -/
theorem IsC.sub {f : Int → Od} {C : List Int} {S : Int → Prop} (h : IsC f C) (hS : Closed f S) {q : Int} (hq : q ∈ C) (hq2 : S q) : ∀ z ∈ C, S z := by
  obtain ⟨i, hi, hx⟩ := List.mem_iff_getElem.1 hq
  have hp := h.pos
  have key : ∀ j : Nat, ∀ z, C[(i + j) % C.length]? = some z → S z := by
    intro j
    induction j with
    | zero =>
      intro z hz
      rw [Nat.add_zero, Nat.mod_eq_of_lt hi, List.getElem?_eq_getElem hi, hx] at hz
      injection hz with hz
      exact hz ▸ hq2
    | succ j ih =>
      intro z hz
      obtain ⟨y, hy⟩ : ∃ y, C[(i + j) % C.length]? = some y := ⟨_, List.getElem?_eq_getElem (Nat.mod_lt _ hp)⟩
      have h1 := (h.step _ y hy).2.2
      rw [Nat.mod_add_mod, Nat.add_assoc, hz] at h1
      injection h1 with h1
      rw [h1]
      exact (hS y (ih y hy)).2.2
  intro z hz
  obtain ⟨m, hm, hz⟩ := List.mem_iff_getElem.1 hz
  refine key (m + (C.length - i)) z ?_
  rw [show i + (m + (C.length - i)) = m + C.length by omega, Nat.add_mod_right, Nat.mod_eq_of_lt hm, List.getElem?_eq_getElem hm, hz]
theorem minF_self {x : Int} {l : List Int} (h : ∀ q ∈ l, x ≤ q) : minF x l = x := by
  obtain ⟨⟨h1, _⟩, h2⟩ := minF_le x l x
  rcases h2 with h2 | h2
  · exact h2
  · have := h _ h2; omega
section
variable {l : List Od} {d : Int}
theorem lastD_eq {W : List Int} {y : Int} (h : W[W.length - 1]? = some y) : lastD W = y := by unfold lastD; rw [h]; rfl
/-- A circle that is told. -/
theorem lp_isC (hl : rightL l) {x : Int} (h : isLp l d x = true) : IsC (fun k => fo l k d) (wayF l x d).pts ∧ (wayF l x d).pts[0]? = some x ∧ ∀ q ∈ (wayF l x d).pts, x ≤ q := by
  unfold isLp at h
  rw [decide_eq_true_eq] at h
  obtain ⟨h1, h2, h3⟩ := h
  obtain ⟨f1, f2, f3, _⟩ := way_facts hl x d
  have hw := way_isW hl x d
  generalize wayF l x d = W at *
  refine ⟨⟨by omega, f2, fun i q hq => ?_⟩, f3, fun q hq => ?_⟩
  · have hlt := (List.getElem?_eq_some_iff.1 hq).1
    by_cases hi : i < W.ords.length
    · obtain ⟨y, ho⟩ : ∃ y, W.ords[i]? = some y := ⟨_, List.getElem?_eq_getElem hi⟩
      obtain ⟨a, b, _, c⟩ := isW_step hw i q y ho hq
      refine ⟨a, b, ?_⟩
      rw [Nat.mod_eq_of_lt (by omega)]
      exact c
    · have e : i = W.ords.length := by omega
      subst e
      obtain ⟨z, g1, g2⟩ := isW_last hw
      rw [hq] at g1
      injection g1 with g1
      subst g1
      have e2 : lastD W.pts = q := lastD_eq (by rw [show W.pts.length - 1 = W.ords.length by omega]; exact hq)
      rw [e2] at h2
      rcases g2 with ⟨a, _⟩ | ⟨a, _⟩ | ⟨_, a, b, _⟩
      · omega
      · omega
      · refine ⟨a, b, ?_⟩
        rw [show W.ords.length + 1 = W.pts.length by omega, Nat.mod_self, f3]
        show some x = some (fo l q d).to
        rw [h2]
  · obtain ⟨⟨g1, g2⟩, _⟩ := minF_le x (W.pts.drop 1) x
    rw [h3] at g2
    obtain ⟨i, hi⟩ := List.mem_iff_getElem?.1 hq
    cases i with
    | zero => rw [f3] at hi; injection hi with hi; omega
    | succ i => exact g2 q (List.mem_of_getElem? (i := i) (by rw [List.getElem?_drop, Nat.add_comm]; exact hi))
theorem mem_loopsF {C : List Int} : C ∈ loopsF l d ↔ ∃ x ∈ ptsF l d, isLp l d x = true ∧ (wayF l x d).pts = C := by
  unfold loopsF loopsOf
  rw [List.mem_map]
  constructor
  · rintro ⟨x, hx, e⟩
    obtain ⟨a, b⟩ := List.mem_filter.1 hx
    exact ⟨x, a, b, e⟩
  · rintro ⟨x, a, b, e⟩
    exact ⟨x, List.mem_filter.2 ⟨a, b⟩, e⟩
theorem ptsF_sorted (l : List Od) (d : Int) : (ptsF l d).Pairwise (· < ·) := by
  have h1 : (ptsF l d).Pairwise (· ≤ ·) := sortI_sorted _
  have h2 : (ptsF l d).Nodup := by
    unfold ptsF
    have h3 := List.mergeSort_perm ((keysOf (l.map (·.frm))).filter fun k => decide ((fo l k d).idn ≠ 0)) (fun x y : Int => decide (x ≤ y))
    unfold sortI
    exact h3.nodup_iff.2 ((nodup_keysOf _).filter _)
  exact (h1.and h2).imp fun ⟨a, b⟩ => by omega
end
end Go.Proofs.Ytmcmmmaffdenjaa
