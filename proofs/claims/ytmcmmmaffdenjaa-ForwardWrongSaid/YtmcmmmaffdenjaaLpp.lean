/-
  Circles, plain.
-/
import Derived.Test.YtmcmmmaffdenjaaWyp
namespace Go.Proofs.Ytmcmmmaffdenjaa
open Go.RowKit Eng
set_option linter.unusedVariables false
set_option linter.unusedSimpArgs false
set_option maxHeartbeats 8000000
attribute [local irreducible] SC SQ J Qt Calls Iterates
/-- A circle. -/
structure IsC (f : Int → Od) (C : List Int) : Prop where
  pos : 0 < C.length
  nd : C.Nodup
  step : ∀ (i : Nat) (q : Int), C[i]? = some q → (f q).idn ≠ 0 ∧ (f q).kd ≠ 3 ∧ C[(i + 1) % C.length]? = some (f q).to
theorem IsC.closed {f : Int → Od} {C : List Int} (h : IsC f C) : Closed f (fun q => q ∈ C) := fun q hq => by
  obtain ⟨i, hi⟩ := List.mem_iff_getElem?.1 hq
  obtain ⟨a, b, c⟩ := h.step i q hi
  exact ⟨a, b, List.mem_of_getElem? c⟩
theorem isC_way {f : Int → Od} {C : List Int} (h : IsC f C) {x : Int} (hx : C[0]? = some x) : ∃ ords, IsW f [] x C ords 3 0 := by
  have key : ∀ (n i : Nat) (q : Int), i + n + 1 = C.length → C[i]? = some q → ∃ ords, IsW f (C.take i) q (C.drop i) ords 3 0 := by
    intro n
    induction n with
    | zero =>
      intro i q hn hq
      obtain ⟨a, b, c⟩ := h.step i q hq
      rw [show i + 1 = C.length by omega, Nat.mod_self] at c
      have e : C.drop i = [q] := by rw [drop_cons hq, List.drop_of_length_le (by omega)]
      rw [e]
      refine ⟨[], .back a b ?_⟩
      rw [← take_snocG hq, List.take_of_length_le (by omega)]
      exact List.mem_of_getElem? c
    | succ n ih =>
      intro i q hn hq
      obtain ⟨a, b, c⟩ := h.step i q hq
      rw [Nat.mod_eq_of_lt (by omega)] at c
      obtain ⟨ords, ho⟩ := ih (i + 1) _ (by omega) c
      rw [drop_cons hq]
      rw [take_snocG hq] at ho
      refine ⟨_, .go a b ?_ ho⟩
      rw [← take_snocG hq]
      intro hm
      obtain ⟨j, hj, hx⟩ := List.mem_iff_getElem.1 hm
      rw [List.length_take] at hj
      rw [List.getElem_take] at hx
      obtain ⟨hlt, hx2⟩ := List.getElem?_eq_some_iff.1 c
      have := (List.getElem_inj h.nd).1 (hx.trans hx2.symm)
      omega
  obtain ⟨ords, ho⟩ := key (C.length - 1) 0 x (by have := h.pos; omega) hx
  exact ⟨ords, by simpa using ho⟩
theorem rot_get {α : Type} (C : List α) (k i : Nat) (hk : k < C.length) (hi : i < C.length) : (C.drop k ++ C.take k)[i]? = C[(i + k) % C.length]? := by
  by_cases h : i < C.length - k
  · rw [List.getElem?_append_left (by rw [List.length_drop]; exact h), List.getElem?_drop, Nat.mod_eq_of_lt (by omega), Nat.add_comm]
  · rw [List.getElem?_append_right (by rw [List.length_drop]; omega), List.length_drop, List.getElem?_take, if_pos (by omega), Nat.mod_eq_sub_mod (by omega : i + k ≥ C.length), Nat.mod_eq_of_lt (by omega)]
    congr 1
    omega
theorem rot_len {α : Type} (C : List α) (k : Nat) (hk : k < C.length) : (C.drop k ++ C.take k).length = C.length := by
  rw [List.length_append, List.length_drop, List.length_take]
  omega
theorem rot_mem {α : Type} (C : List α) (k : Nat) (q : α) : q ∈ C.drop k ++ C.take k ↔ q ∈ C := by
  rw [List.mem_append, Or.comm, ← List.mem_append, List.take_append_drop]
theorem IsC.rot {f : Int → Od} {C : List Int} (h : IsC f C) {k : Nat} (hk : k < C.length) : IsC f (C.drop k ++ C.take k) := by
  refine ⟨by rw [rot_len C k hk]; exact h.pos, ?_, fun i q hq => ?_⟩
  · have h1 := h.nd
    rw [← List.take_append_drop k C] at h1
    exact (List.perm_append_comm (l₁ := C.take k) (l₂ := C.drop k)).nodup_iff.1 h1
  · have hi : i < C.length := by have := (List.getElem?_eq_some_iff.1 hq).1; rwa [rot_len C k hk] at this
    rw [rot_get C k i hk hi] at hq
    obtain ⟨a, b, c⟩ := h.step _ q hq
    refine ⟨a, b, ?_⟩
    have hp := h.pos
    rw [rot_len C k hk, rot_get C k _ hk (Nat.mod_lt _ hp), ← c]
    congr 1
    rw [Nat.mod_add_mod, Nat.mod_add_mod]
    congr 1
    omega
theorem exists_least : ∀ (C : List Int), 0 < C.length → ∃ (k : Nat) (x : Int), C[k]? = some x ∧ ∀ q ∈ C, x ≤ q
  | [], h => by simp at h
  | [a], _ => ⟨0, a, rfl, by simp⟩
  | a :: y :: C, _ => by
    obtain ⟨k, x, h1, h2⟩ := exists_least (y :: C) (by simp)
    by_cases h : a ≤ x
    · refine ⟨0, a, rfl, fun q hq => ?_⟩
      rcases List.mem_cons.1 hq with rfl | hq
      · exact Int.le_refl _
      · have := h2 q hq; omega
    · refine ⟨k + 1, x, by simpa using h1, fun q hq => ?_⟩
      rcases List.mem_cons.1 hq with rfl | hq
      · omega
      · exact h2 q hq
/-- Two circles with one point in common have the same points. -/
theorem IsC.sub {f : Int → Od} {C : List Int} {S : Int → Prop} (h : IsC f C) (hS : Closed f S) {q : Int} (hq : q ∈ C) (hq2 : S q) : ∀ z ∈ C, S z := by
  obtain ⟨i, hi, hx⟩ := List.mem_iff_getElem.1 hq
  have hp := h.pos
  have key : ∀ j : Nat, ∀ z, C[(i + j) % C.length]? = some z → S z := by
    intro j
    induction j with
    | zero =>
      intro z hz
      rw [Nat.add_zero, Nat.mod_eq_of_lt hi, List.getElem?_eq_getElem hi, hx] at hz
      injection hz with hz
      exact hz ▸ hq2
    | succ j ih =>
      intro z hz
      obtain ⟨y, hy⟩ : ∃ y, C[(i + j) % C.length]? = some y := ⟨_, List.getElem?_eq_getElem (Nat.mod_lt _ hp)⟩
      have h1 := (h.step _ y hy).2.2
      rw [Nat.mod_add_mod, Nat.add_assoc, hz] at h1
      injection h1 with h1
      rw [h1]
      exact (hS y (ih y hy)).2.2
  intro z hz
  obtain ⟨m, hm, hz⟩ := List.mem_iff_getElem.1 hz
  refine key (m + (C.length - i)) z ?_
  rw [show i + (m + (C.length - i)) = m + C.length by omega, Nat.add_mod_right, Nat.mod_eq_of_lt hm, List.getElem?_eq_getElem hm, hz]
theorem minF_self {x : Int} {l : List Int} (h : ∀ q ∈ l, x ≤ q) : minF x l = x := by
  obtain ⟨⟨h1, _⟩, h2⟩ := minF_le x l x
  rcases h2 with h2 | h2
  · exact h2
  · have := h _ h2; omega
section
variable {l : List Od} {d : Int}
theorem lastD_eq {W : List Int} {y : Int} (h : W[W.length - 1]? = some y) : lastD W = y := by unfold lastD; rw [h]; rfl
/-- A circle that is told. -/
theorem lp_isC (hl : rightL l) {x : Int} (h : isLp l d x = true) : IsC (fun k => fo l k d) (wayF l x d).pts ∧ (wayF l x d).pts[0]? = some x ∧ ∀ q ∈ (wayF l x d).pts, x ≤ q := by
  unfold isLp at h
  rw [decide_eq_true_eq] at h
  obtain ⟨h1, h2, h3⟩ := h
  obtain ⟨f1, f2, f3, _⟩ := way_facts hl x d
  have hw := way_isW hl x d
  generalize wayF l x d = W at *
  refine ⟨⟨by omega, f2, fun i q hq => ?_⟩, f3, fun q hq => ?_⟩
  · have hlt := (List.getElem?_eq_some_iff.1 hq).1
    by_cases hi : i < W.ords.length
    · obtain ⟨y, ho⟩ : ∃ y, W.ords[i]? = some y := ⟨_, List.getElem?_eq_getElem hi⟩
      obtain ⟨a, b, _, c⟩ := isW_step hw i q y ho hq
      refine ⟨a, b, ?_⟩
      rw [Nat.mod_eq_of_lt (by omega)]
      exact c
    · have e : i = W.ords.length := by omega
      subst e
      obtain ⟨z, g1, g2⟩ := isW_last hw
      rw [hq] at g1
      injection g1 with g1
      subst g1
      have e2 : lastD W.pts = q := lastD_eq (by rw [show W.pts.length - 1 = W.ords.length by omega]; exact hq)
      rw [e2] at h2
      rcases g2 with ⟨a, _⟩ | ⟨a, _⟩ | ⟨_, a, b, _⟩
      · omega
      · omega
      · refine ⟨a, b, ?_⟩
        rw [show W.ords.length + 1 = W.pts.length by omega, Nat.mod_self, f3]
        show some x = some (fo l q d).to
        rw [h2]
  · obtain ⟨⟨g1, g2⟩, _⟩ := minF_le x (W.pts.drop 1) x
    rw [h3] at g2
    obtain ⟨i, hi⟩ := List.mem_iff_getElem?.1 hq
    cases i with
    | zero => rw [f3] at hi; injection hi with hi; omega
    | succ i => exact g2 q (List.mem_of_getElem? (i := i) (by rw [List.getElem?_drop, Nat.add_comm]; exact hi))
theorem isC_lp (hl : rightL l) {C : List Int} (h : IsC (fun k => fo l k d) C) {x : Int} (hx : C[0]? = some x) (hm : ∀ q ∈ C, x ≤ q) : isLp l d x = true ∧ (wayF l x d).pts = C ∧ x ∈ ptsF l d := by
  obtain ⟨ords, ho⟩ := isC_way h hx
  have hw := way_unique hl ho
  have hp := h.pos
  obtain ⟨y, hy⟩ : ∃ y, C[C.length - 1]? = some y := ⟨_, List.getElem?_eq_getElem (by omega)⟩
  have h1 := (h.step _ y hy).2.2
  rw [show C.length - 1 + 1 = C.length by omega, Nat.mod_self, hx] at h1
  injection h1 with h1
  refine ⟨?_, by rw [hw], (mem_ptsF hl.2).2 (h.step 0 x hx).1⟩
  unfold isLp
  rw [hw, decide_eq_true_eq]
  refine ⟨rfl, ?_, minF_self fun q hq => hm q (List.mem_of_mem_drop hq)⟩
  rw [lastD_eq hy]
  exact h1.symm
theorem mem_loopsF {C : List Int} : C ∈ loopsF l d ↔ ∃ x ∈ ptsF l d, isLp l d x = true ∧ (wayF l x d).pts = C := by
  unfold loopsF loopsOf
  rw [List.mem_map]
  constructor
  · rintro ⟨x, hx, e⟩
    obtain ⟨a, b⟩ := List.mem_filter.1 hx
    exact ⟨x, a, b, e⟩
  · rintro ⟨x, a, b, e⟩
    exact ⟨x, List.mem_filter.2 ⟨a, b⟩, e⟩
/-- Each circle has one that is told. -/
theorem isC_told (hl : rightL l) {C : List Int} (h : IsC (fun k => fo l k d) C) : ∃ k x, k < C.length ∧ (C.drop k ++ C.take k)[0]? = some x ∧ (∀ q ∈ C, x ≤ q) ∧ C.drop k ++ C.take k ∈ loopsF l d := by
  obtain ⟨k, x, h1, h2⟩ := exists_least C h.pos
  have hk := (List.getElem?_eq_some_iff.1 h1).1
  have h3 : (C.drop k ++ C.take k)[0]? = some x := by rw [rot_get C k 0 hk h.pos, Nat.zero_add, Nat.mod_eq_of_lt hk, h1]
  obtain ⟨a, b, c⟩ := isC_lp hl (h.rot hk) h3 (fun q hq => h2 q ((rot_mem C k q).1 hq))
  exact ⟨k, x, hk, h3, h2, mem_loopsF.2 ⟨x, c, a, b⟩⟩
/-- The circle at the end of a way that leads back. -/
theorem back_isC (hl : rightL l) {p : Int} (hk : (wayF l p d).kd = 3) {j : Nat} {y : Int} (hy : (wayF l p d).pts[(wayF l p d).ords.length]? = some y) (hj : (wayF l p d).pts[j]? = some (fo l y d).to) : IsC (fun k => fo l k d) ((wayF l p d).pts.drop j) := by
  obtain ⟨f1, f2, f3, _⟩ := way_facts hl p d
  have hw := way_isW hl p d
  generalize wayF l p d = W at *
  have hjl := (List.getElem?_eq_some_iff.1 hj).1
  refine ⟨by rw [List.length_drop]; omega, f2.sublist (List.drop_sublist _ _), fun i q hq => ?_⟩
  rw [List.getElem?_drop] at hq
  have hlt := (List.getElem?_eq_some_iff.1 hq).1
  rw [List.length_drop]
  by_cases hi : j + i < W.ords.length
  · obtain ⟨z, ho⟩ : ∃ z, W.ords[j + i]? = some z := ⟨_, List.getElem?_eq_getElem hi⟩
    obtain ⟨a, b, _, c⟩ := isW_step hw (j + i) q z ho hq
    refine ⟨a, b, ?_⟩
    rw [Nat.mod_eq_of_lt (by omega), List.getElem?_drop, ← Nat.add_assoc]
    exact c
  · have e : j + i = W.ords.length := by omega
    rw [e] at hq
    obtain ⟨z, g1, g2⟩ := isW_last hw
    rw [hq] at g1 hy
    injection g1 with g1
    subst g1
    injection hy with hy
    subst hy
    rcases g2 with ⟨a, _⟩ | ⟨a, _⟩ | ⟨_, a, b, _⟩
    · omega
    · omega
    · refine ⟨a, b, ?_⟩
      rw [show i + 1 = W.pts.length - j by omega, Nat.mod_self, List.getElem?_drop, Nat.add_zero, hj]
theorem isC_two (hl : rightL l) {C : List Int} (h : IsC (fun k => fo l k d) C) : 2 ≤ C.length := by
  have hp := h.pos
  rcases Nat.lt_or_ge C.length 2 with h2 | h2
  · exfalso
    obtain ⟨q, hq⟩ : ∃ q, C[0]? = some q := ⟨_, List.getElem?_eq_getElem hp⟩
    obtain ⟨a, b, c⟩ := h.step 0 q hq
    rw [show C.length = 1 by omega, Nat.mod_one, hq] at c
    injection c with c
    rcases fo_spec hl.2 q d with ⟨h1, _⟩ | ⟨h1, h3, _⟩
    · rw [h1] at a; exact a rfl
    · have hk := (okL_ok hl.2 _ h1).2
      rcases hk with ⟨_, ⟨_, h5⟩, _⟩ | ⟨_, ⟨_, h5⟩, _⟩ | ⟨h5, _⟩
      · exact h5 (by rw [h3]; exact c.symm)
      · exact h5 (by rw [h3]; exact c.symm)
      · exact b h5
  · exact h2
theorem ptsF_sorted (l : List Od) (d : Int) : (ptsF l d).Pairwise (· < ·) := by
  have h1 : (ptsF l d).Pairwise (· ≤ ·) := sortI_sorted _
  have h2 : (ptsF l d).Nodup := by
    unfold ptsF
    have h3 := List.mergeSort_perm ((keysOf (l.map (·.frm))).filter fun k => decide ((fo l k d).idn ≠ 0)) (fun x y : Int => decide (x ≤ y))
    unfold sortI
    exact h3.nodup_iff.2 ((nodup_keysOf _).filter _)
  exact (h1.and h2).imp fun ⟨a, b⟩ => by omega
/-- Heads of the circles that are told: in order. -/
theorem loops_heads (hl : rightL l) : (loopsF l d).Pairwise fun a b => ∃ x y, a[0]? = some x ∧ b[0]? = some y ∧ x < y := by
  unfold loopsF loopsOf
  rw [List.pairwise_map]
  refine ((ptsF_sorted l d).filter _).imp fun {x y} h => ?_
  exact ⟨x, y, (way_facts hl x d).2.2.1, (way_facts hl y d).2.2.1, h⟩
theorem loop_isC (hl : rightL l) {C : List Int} (h : C ∈ loopsF l d) : IsC (fun k => fo l k d) C ∧ ∃ x, C[0]? = some x ∧ ∀ q ∈ C, x ≤ q := by
  obtain ⟨x, _, h1, rfl⟩ := mem_loopsF.1 h
  obtain ⟨a, b, c⟩ := lp_isC hl h1
  exact ⟨a, x, b, c⟩
theorem loops_apart (hl : rightL l) : (loopsF l d).flatten.Nodup := by
  unfold List.Nodup
  rw [List.pairwise_flatten]
  refine ⟨fun C hC => (loop_isC hl hC).1.nd, ?_⟩
  refine (List.Pairwise.imp_of_mem ?_ (loops_heads (d := d) hl))
  intro a b ha hb ⟨x, y, hx, hy, hlt⟩ q hq q2 hq2 e
  subst e
  obtain ⟨ca, x', hx', hmx⟩ := loop_isC hl ha
  obtain ⟨cb, y', hy', hmy⟩ := loop_isC hl hb
  rw [hx] at hx'; injection hx' with hx'; subst hx'
  rw [hy] at hy'; injection hy' with hy'; subst hy'
  have h1 := ca.sub cb.closed hq hq2 x (List.mem_of_getElem? hx)
  have h2 := cb.sub ca.closed hq2 hq y (List.mem_of_getElem? hy)
  have := hmx y h2
  have := hmy x h1
  omega
/-- A way leads back just if it has a point of a circle that is told. -/
theorem back_iff (hl : rightL l) (p : Int) : (wayF l p d).kd = 3 ↔ ∃ q ∈ (wayF l p d).pts, q ∈ (loopsF l d).flatten := by
  constructor
  · intro hk
    obtain ⟨y, h1, h2⟩ := isW_last (way_isW hl p d)
    rcases h2 with ⟨a, _⟩ | ⟨a, _⟩ | ⟨_, a, b, c, _⟩
    · omega
    · omega
    · rw [List.nil_append] at c
      obtain ⟨j, hj⟩ := List.mem_iff_getElem?.1 c
      have hC := back_isC hl hk h1 hj
      obtain ⟨k, x, hk2, h3, h4, h5⟩ := isC_told hl hC
      have hx : x ∈ (wayF l p d).pts.drop j := (rot_mem _ k x).1 (List.mem_of_getElem? h3)
      exact ⟨x, List.mem_of_mem_drop hx, List.mem_flatten.2 ⟨_, h5, List.mem_of_getElem? h3⟩⟩
  · rintro ⟨q, hq, hf⟩
    obtain ⟨C, hC, hqC⟩ := List.mem_flatten.1 hf
    obtain ⟨i, hi⟩ := List.mem_iff_getElem?.1 hq
    have h1 := (way_rest hl hi).1
    rw [← h1]
    exact (isW_closed (loop_isC hl hC).1.closed (way_isW hl q d) hqC).1
/-- The circle of a way that leads back is told, begun at its least point. -/
theorem back_told (hl : rightL l) {p : Int} (hk : (wayF l p d).kd = 3) {j : Nat} {y : Int} (hy : (wayF l p d).pts[(wayF l p d).ords.length]? = some y) (hj : (wayF l p d).pts[j]? = some (fo l y d).to) :
    ∃ C ∈ loopsF l d, C.length = ((wayF l p d).pts.drop j).length ∧ 2 ≤ C.length ∧ (∀ i a b, 0 < i → C[i]? = some b → C[0]? = some a → a < b) ∧ ∃ k < ((wayF l p d).pts.drop j).length, C = ((wayF l p d).pts.drop j).drop k ++ ((wayF l p d).pts.drop j).take k := by
  have hC := back_isC hl hk hy hj
  obtain ⟨k, x, hk2, h3, h4, h5⟩ := isC_told hl hC
  generalize (wayF l p d).pts.drop j = D at *
  refine ⟨_, h5, rot_len D k hk2, by rw [rot_len D k hk2]; exact isC_two hl hC, fun i a b hi hb ha => ?_, k, hk2, rfl⟩
  rw [h3] at ha
  injection ha with ha
  subst ha
  have h6 := h4 b ((rot_mem D k b).1 (List.mem_of_getElem? hb))
  have hn := (hC.rot hk2).nd
  obtain ⟨i1, e1⟩ := List.getElem?_eq_some_iff.1 h3
  obtain ⟨i2, e2⟩ := List.getElem?_eq_some_iff.1 hb
  have hne : x ≠ b := fun e => by
    have := (List.getElem_inj hn).1 (e1.trans (e.trans e2.symm))
    omega
  omega
end
end Go.Proofs.Ytmcmmmaffdenjaa
