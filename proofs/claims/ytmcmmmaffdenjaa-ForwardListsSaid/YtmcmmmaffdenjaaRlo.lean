/-
  letterbagref36.Loops.
-/
import Derived.Test.YtmcmmmaffdenjaaRfs
namespace Go.Proofs.Ytmcmmmaffdenjaa
open Go.RowKit Eng
set_option linter.unusedVariables false
set_option linter.unusedSimpArgs false
set_option maxHeartbeats 8000000
attribute [local irreducible] SC SQ J Qt Calls Iterates
/-- The least point behind another one. -/
def pkS (la pt : Int) (o : Od) : Int := if la < o.frm ∧ (pt = 0 ∨ o.frm < pt) then o.frm else pt
def pkF (la : Int) (l : List Od) : Int := l.foldl (pkS la) 0
theorem pk_snoc {l : List Od} {i : Nat} {o : Od} (h : l[i]? = some o) (la : Int) : pkF la (l.take (i + 1)) = pkS la (pkF la (l.take i)) o := by
  unfold pkF
  rw [take_snocG h, List.foldl_append]
  rfl
theorem pk_spec {l : List Od} (hl : okL l) (la : Int) (hla : 0 ≤ la) : (pkF la l = 0 ∧ ∀ o ∈ l, o.frm ≤ la) ∨ (la < pkF la l ∧ (∃ o ∈ l, o.frm = pkF la l) ∧ ∀ o ∈ l, la < o.frm → pkF la l ≤ o.frm) := by
  have key : ∀ (l : List Od) (pt : Int), (∀ o ∈ l, 1 ≤ o.frm) → (pt = 0 ∨ la < pt) →
      (l.foldl (pkS la) pt = pt ∧ (pt = 0 → ∀ o ∈ l, o.frm ≤ la) ∧ (pt ≠ 0 → ∀ o ∈ l, la < o.frm → pt ≤ o.frm)) ∨ (la < l.foldl (pkS la) pt ∧ (∃ o ∈ l, o.frm = l.foldl (pkS la) pt) ∧ (∀ o ∈ l, la < o.frm → l.foldl (pkS la) pt ≤ o.frm) ∧ (pt ≠ 0 → l.foldl (pkS la) pt ≤ pt)) := by
    intro l
    induction l with
    | nil => intro pt _ _; exact .inl ⟨rfl, fun _ o ho => (by cases ho), fun _ o ho => (by cases ho)⟩
    | cons x l ih =>
      intro pt h1 hpt
      have hx := h1 x List.mem_cons_self
      rw [List.foldl_cons]
      by_cases hc : la < x.frm ∧ (pt = 0 ∨ x.frm < pt)
      · have e : pkS la pt x = x.frm := by unfold pkS; rw [if_pos hc]
        rw [e]
        right
        rcases ih x.frm (fun o ho => h1 o (List.mem_cons_of_mem _ ho)) (.inr hc.1) with ⟨g1, g2, g3⟩ | ⟨g1, ⟨o, ho, g2⟩, g3, g4⟩
        · rw [g1]
          refine ⟨hc.1, ⟨x, List.mem_cons_self, rfl⟩, fun o ho hlt => ?_, fun hne => by rcases hc.2 with h | h <;> omega⟩
          rcases List.mem_cons.1 ho with rfl | ho
          · exact Int.le_refl _
          · exact g3 (by omega) o ho hlt
        · have g5 := g4 (by omega)
          refine ⟨g1, ⟨o, List.mem_cons_of_mem _ ho, g2⟩, fun o ho hlt => ?_, fun hne => by rcases hc.2 with h | h <;> omega⟩
          rcases List.mem_cons.1 ho with rfl | ho
          · exact g5
          · exact g3 o ho hlt
      · have e : pkS la pt x = pt := by unfold pkS; rw [if_neg hc]
        rw [e]
        rcases ih pt (fun o ho => h1 o (List.mem_cons_of_mem _ ho)) hpt with ⟨g1, g2, g3⟩ | ⟨g1, ⟨o, ho, g2⟩, g3, g4⟩
        · left
          refine ⟨g1, fun hz o ho => ?_, fun hz o ho hlt => ?_⟩
          · rcases List.mem_cons.1 ho with rfl | ho
            · rcases Int.lt_or_le la o.frm with h | h
              · exact absurd ⟨h, .inl hz⟩ hc
              · exact h
            · exact g2 hz o ho
          · rcases List.mem_cons.1 ho with rfl | ho
            · rcases Int.lt_or_le o.frm pt with h | h
              · exact absurd ⟨hlt, .inr h⟩ hc
              · exact h
            · exact g3 hz o ho hlt
        · right
          refine ⟨g1, ⟨o, List.mem_cons_of_mem _ ho, g2⟩, fun o ho hlt => ?_, g4⟩
          rcases List.mem_cons.1 ho with rfl | ho
          · by_cases hz : pt = 0
            · exact absurd ⟨hlt, .inl hz⟩ hc
            · rcases Int.lt_or_le o.frm pt with h | h
              · exact absurd ⟨hlt, .inr h⟩ hc
              · have := g4 hz; omega
          · exact g3 o ho hlt
  have hp : ∀ o ∈ l, 1 ≤ o.frm := fun o ho => (okL_ok hl o ho).1.2.1.1
  rcases key l 0 hp (.inl rfl) with ⟨g1, g2, _⟩ | ⟨g1, g2, g3, _⟩
  · exact .inl ⟨g1, g2 rfl⟩
  · exact .inr ⟨g1, g2, g3⟩
/-- The circles of the points up to one. -/
def loopsTo (l : List Od) (d la : Int) : List (List Int) := loopsOf l d ((ptsF l d).filter fun x => decide (x ≤ la))
theorem filter_step {D : List Int} (hD : D.Pairwise (· < ·)) {la x : Int} (hlx : la < x) (hno : ∀ y ∈ D, la < y → x ≤ y) : D.filter (fun y => decide (y ≤ x)) = D.filter (fun y => decide (y ≤ la)) ++ (if x ∈ D then [x] else []) := by
  induction D with
  | nil => simp
  | cons y D ih =>
    obtain ⟨h1, h2⟩ := List.pairwise_cons.1 hD
    have ih := ih h2 (fun z hz => hno z (List.mem_cons_of_mem _ hz))
    rw [List.filter_cons, List.filter_cons]
    by_cases hy : y ≤ la
    · rw [if_pos (by simp; omega), if_pos (by simpa using hy), ih, List.cons_append]
      have : ¬ x = y := by omega
      simp [List.mem_cons, this]
    · have hxy := hno y List.mem_cons_self (by omega)
      have hle0 : D.filter (fun z => decide (z ≤ la)) = [] := List.filter_eq_nil_iff.2 fun z hz => by have := h1 z hz; rw [decide_eq_true_eq]; omega
      have hle1 : D.filter (fun z => decide (z ≤ x)) = [] := List.filter_eq_nil_iff.2 fun z hz => by have := h1 z hz; rw [decide_eq_true_eq]; omega
      rw [if_neg (show ¬ decide (y ≤ la) = true from by rw [decide_eq_true_eq]; exact hy), hle0, hle1]
      by_cases he : x = y
      · subst he
        simp
      · have hnm : x ∉ D := fun hm => by have := h1 x hm; omega
        rw [if_neg (show ¬ decide (y ≤ x) = true from by rw [decide_eq_true_eq]; omega), if_neg (show ¬ x ∈ y :: D from fun hm => by rcases List.mem_cons.1 hm with h9 | h9; exact he h9; exact hnm h9)]
        rfl
theorem loopsTo_step {l : List Od} (hl : okL l) {d la x : Int} (hlx : la < x) (hno : ∀ o ∈ l, la < o.frm → x ≤ o.frm) : loopsTo l d x = loopsTo l d la ++ (if isLp l d x = true then [(wayF l x d).pts] else []) := by
  have hD := ptsF_sorted l d
  have hno2 : ∀ y ∈ ptsF l d, la < y → x ≤ y := fun y hy hlt => by
    have h1 := (mem_ptsF hl).1 hy
    rcases fo_spec hl y d with ⟨h2, _⟩ | ⟨h2, h3, _⟩
    · rw [h2] at h1; exact absurd rfl h1
    · have := hno _ h2 (by omega); omega
  unfold loopsTo
  rw [filter_step hD hlx hno2]
  unfold loopsOf
  rw [List.filter_append, List.map_append]
  congr 1
  by_cases hx : x ∈ ptsF l d
  · rw [if_pos hx]
    by_cases hlp : isLp l d x = true
    · rw [if_pos hlp]; simp [hlp]
    · rw [if_neg hlp]; simp [hlp]
  · rw [if_neg hx, if_neg]
    · rfl
    · intro hlp
      -- a circle's point has an order
      unfold isLp at hlp
      rw [decide_eq_true_eq] at hlp
      have h0 : (fo l x d).idn = 0 := Classical.byContradiction fun g => hx ((mem_ptsF hl).2 g)
      have hw : (wayF l x d).kd = 1 := by
        unfold wayF way
        have e0 : along (fun k => fo l k d) 500 x = (x, fo l x d) :: (if (fo l x d).to = 0 then [] else along (fun k => fo l k d) 499 (fo l x d).to) := rfl
        rw [e0]
        simp only [wrun]
        have e : wst ⟨[], [], 0, 0⟩ (x, fo l x d) = (⟨[] ++ [x], [], 1, 0⟩, true) := by unfold wst; rw [if_pos h0]
        rw [e]
      omega
theorem loopsTo_zero {l : List Od} (hl : okL l) (d : Int) : loopsTo l d 0 = [] := by
  unfold loopsTo
  rw [List.filter_eq_nil_iff.2 fun x hx => ?_]
  · rfl
  · have h1 := (mem_ptsF hl).1 hx
    rcases fo_spec hl x d with ⟨h2, _⟩ | ⟨h2, h3, _⟩
    · rw [h2] at h1; exact absurd rfl h1
    · have := (okL_ok hl _ h2).1.2.1.1; rw [decide_eq_true_eq]; omega
theorem loopsTo_all {l : List Od} (hl : okL l) {d la : Int} (h : ∀ o ∈ l, o.frm ≤ la) : loopsTo l d la = loopsF l d := by
  unfold loopsTo loopsF
  rw [List.filter_eq_self.2 fun x hx => ?_]
  have h1 := (mem_ptsF hl).1 hx
  rcases fo_spec hl x d with ⟨h2, _⟩ | ⟨h2, h3, _⟩
  · rw [h2] at h1; exact absurd rfl h1
  · have := h _ h2; rw [decide_eq_true_eq]; omega
/-- Where a way may go on. -/
theorem circ_next {l : List Od} (hl : rightL l) {x d : Int} {k : Nat} {y : Int} (hk : 1 ≤ k) (hy : (wayF l x d).pts[k - 1]? = some y) (hx : 1 ≤ x) (hp : x < (fo l y d).to) (hn : (fo l y d).to ∉ (wayF l x d).pts.take k) : (wayF l x d).pts[k]? = some (fo l y d).to := by
  obtain ⟨f1, f2, f3, f4⟩ := way_facts hl x d
  have hw := way_isW hl x d
  generalize wayF l x d = W at *
  have hlt := (List.getElem?_eq_some_iff.1 hy).1
  by_cases hk2 : k - 1 < W.ords.length
  · obtain ⟨z, hz⟩ : ∃ z, W.ords[k - 1]? = some z := ⟨_, List.getElem?_eq_getElem hk2⟩
    have := (isW_step hw (k - 1) y z hz hy).2.2.2
    rw [show k - 1 + 1 = k by omega] at this
    exact this
  · exfalso
    have e : k - 1 = W.ords.length := by omega
    obtain ⟨z, g1, g2⟩ := isW_last hw
    rw [← e, hy] at g1
    injection g1 with g1
    subst g1
    have hto : (fo l y d).idn = 0 → (fo l y d).to = 0 := fun h0 => by rw [fo_zero hl.2 h0]; rfl
    have hto3 : (fo l y d).idn ≠ 0 → (fo l y d).kd = 3 → (fo l y d).to = 0 := fun h0 h3 => by
      rcases fo_spec hl.2 y d with ⟨h5, _⟩ | ⟨h5, _⟩
      · rw [h5] at h0; exact absurd rfl h0
      · rcases (okL_ok hl.2 _ h5).2 with ⟨h6, _⟩ | ⟨h6, _⟩ | ⟨_, h6, _⟩
        · omega
        · omega
        · exact h6
    rcases g2 with ⟨_, g2, _⟩ | ⟨_, g2, g3, _⟩ | ⟨_, _, _, g2, _⟩
    · have := hto g2; omega
    · have := hto3 g2 g3; omega
    · rw [List.nil_append] at g2
      rw [List.take_of_length_le (by omega)] at hn
      exact hn g2
theorem circ_yes {l : List Od} (hl : rightL l) {x d : Int} {k : Nat} {y : Int} (hk : 1 ≤ k) (hy : (wayF l x d).pts[k - 1]? = some y) (hx : 1 ≤ x) (hgt : ∀ i z, 0 < i → i < k → (wayF l x d).pts[i]? = some z → x < z) (hp : (fo l y d).to = x) : isLp l d x = true ∧ k = (wayF l x d).pts.length := by
  obtain ⟨f1, f2, f3, f4⟩ := way_facts hl x d
  have hw := way_isW hl x d
  have hlp : isLp l d x = decide ((wayF l x d).kd = 3 ∧ (fo l (lastD (wayF l x d).pts) d).to = x ∧ minF x ((wayF l x d).pts.drop 1) = x) := rfl
  generalize wayF l x d = W at *
  have hlt := (List.getElem?_eq_some_iff.1 hy).1
  have hkl : k - 1 = W.ords.length := by
    rcases Nat.lt_or_ge (k - 1) W.ords.length with hk2 | hk2
    · exfalso
      obtain ⟨z, hz⟩ : ∃ z, W.ords[k - 1]? = some z := ⟨_, List.getElem?_eq_getElem hk2⟩
      have h1 := (isW_step hw (k - 1) y z hz hy).2.2.2
      have h2 : W.pts[k - 1 + 1]? = some x := by rw [h1]; exact congrArg some hp
      obtain ⟨l1, e1⟩ := List.getElem?_eq_some_iff.1 h2
      obtain ⟨l2, e2⟩ := List.getElem?_eq_some_iff.1 f3
      have := (List.getElem_inj f2).1 (e1.trans e2.symm)
      omega
    · omega
  refine ⟨?_, by omega⟩
  rw [hlp, decide_eq_true_eq]
  refine ⟨?_, ?_, minF_self fun q hq => ?_⟩
  · obtain ⟨z, g1, g2⟩ := isW_last hw
    rw [← hkl, hy] at g1
    injection g1 with g1
    subst g1
    rcases g2 with ⟨_, g2, _⟩ | ⟨_, g2, g3, _⟩ | ⟨g2, _⟩
    · have := fo_zero hl.2 g2
      rw [this] at hp
      have : (0 : Int) = x := hp
      omega
    · rcases fo_spec hl.2 y d with ⟨h5, _⟩ | ⟨h5, _⟩
      · rw [h5] at g2; exact absurd rfl g2
      · rcases (okL_ok hl.2 _ h5).2 with ⟨h6, _⟩ | ⟨h6, _⟩ | ⟨_, h6, _⟩
        · have g9 : (fo l y d).kd = 3 := g3; omega
        · have g9 : (fo l y d).kd = 3 := g3; omega
        · omega
    · exact g2
  · rw [lastD_eq (by rw [show W.pts.length - 1 = k - 1 by omega]; exact hy)]
    exact hp
  · obtain ⟨i, hi⟩ := List.mem_iff_getElem?.1 hq
    rw [List.getElem?_drop] at hi
    have := hgt (1 + i) q (by omega) (by have := (List.getElem?_eq_some_iff.1 hi).1; omega) hi
    omega
theorem circ_no {l : List Od} (hl : rightL l) {x d : Int} {k : Nat} {y : Int} (hk : 1 ≤ k) (hy : (wayF l x d).pts[k - 1]? = some y) (hp : (fo l y d).to ≠ x) (hstop : ¬ (x < (fo l y d).to ∧ (fo l y d).to ∉ (wayF l x d).pts.take k)) : isLp l d x = false := by
  cases h : isLp l d x with
  | false => rfl
  | true =>
    exfalso
    obtain ⟨hC, h0, hmin⟩ := lp_isC hl h
    have h1 := (hC.step (k - 1) y hy).2.2
    rw [show k - 1 + 1 = k by omega] at h1
    have hlt := (List.getElem?_eq_some_iff.1 hy).1
    by_cases hkn : k = (wayF l x d).pts.length
    · rw [hkn, Nat.mod_self, h0] at h1
      injection h1 with h1
      exact hp h1.symm
    · rw [Nat.mod_eq_of_lt (by omega)] at h1
      have hge := hmin _ (List.mem_of_getElem? h1)
      refine hstop ⟨by have : (fo l y d).to ≠ x := hp; have h9 : x ≤ (fo l y d).to := hge; omega, fun hm => ?_⟩
      obtain ⟨j, hj⟩ := List.mem_iff_getElem?.1 hm
      rw [List.getElem?_take] at hj
      split at hj
      · obtain ⟨l1, e1⟩ := List.getElem?_eq_some_iff.1 hj
        obtain ⟨l2, e2⟩ := List.getElem?_eq_some_iff.1 h1
        have := (List.getElem_inj hC.nd).1 (e1.trans e2.symm)
        omega
      · cases hj
end Go.Proofs.Ytmcmmmaffdenjaa
