/-
  What arguments read as: slices with their capacities.
-/
import Derived.Test.YtmcmmmaffdenjaaEngLaw
import Derived.SizedLaws
namespace Go.Proofs.Ytmcmmmaffdenjaa
namespace Eng
open Go.RowKit Go.ChangeShapes Go.WideShapes Go.Deep
set_option linter.unusedVariables false
section
variable {H : Type} {enc : TypeId × Value → H} {P : Program} {w : World} {base : Nat} {spare : Nat → Bool} {held : Bool}
/-- A slice that came in: its length, its capacity, whether it is nil. -/
structure Sl (A : Option Addr) (n c : Nat) : Prop where
  nil : A = none → n = 0 ∧ c = 0
  le : n ≤ c
  top : c ≤ 9223372036854775807
theorem rs_of_trod2 {α : Type} {t e : TypeId} {sz : Nat} (f : α → List Value) (ok : α → Prop) (ht : P.underlying t = some (.slice e)) (hC : P.cellsOf e = sz) (hsz : 0 < sz) (dec : ∀ n cs x, DataW.trod enc P w base spare held n e cs = some x → ∃ y, cs = f y ∧ ok y)
    {n : Nat} {cs : List Value} {x : DataW H × List MemPlace} (h : DataW.trod enc P w base spare held n t cs = some x) :
    ∃ (A : Option Addr) (c : Nat) (l : List α), cs = [.slice A l.length c] ∧ Sl A l.length c ∧ RS w sz f A l ∧ ∀ y ∈ l, ok y := by
  rcases open_slice ht h with ⟨rfl, _⟩ | ⟨a, len, cap, m, k, D, Pl, rfl, _, hlc, hcm, hm, _, hat⟩
  · exact ⟨none, 0, [], rfl, ⟨fun _ => ⟨rfl, rfl⟩, Nat.le_refl _, by simp⟩, RS.nil, fun y hy => by cases hy⟩
  · have hlm : len ≤ m := by rw [hm]; split <;> omega
    have hch : ∀ i : Fin len, ∃ y : α, w.cells? base (a.add (i.1 * sz)) sz = some (f y) ∧ ok y := fun i => by
      obtain ⟨cs', h1, h2⟩ := hat i.1 (by have := i.2; omega)
      obtain ⟨y, rfl, hy⟩ := dec _ _ _ h2
      rw [hC] at h1
      exact ⟨y, h1, hy⟩
    refine ⟨some a, cap, List.ofFn fun i => (hch i).choose, by simp, ⟨fun h => (by cases h), (by simp only [List.length_ofFn]; exact hlc), (by unfold maxLen at hcm; omega)⟩, fun i y hy => ?_, fun y hy => ?_⟩
    · have hi : i < len := by have := (List.getElem?_eq_some_iff.1 hy).1; simpa using this
      have e1 : y = (hch ⟨i, hi⟩).choose := by
        rw [List.getElem?_eq_getElem (by simpa using hi)] at hy
        simpa using hy.symm
      subst e1
      exact ⟨a, rfl, ext_of_cells (hch ⟨i, hi⟩).choose_spec.1 hsz⟩
    · obtain ⟨i, rfl⟩ := (List.mem_ofFn).1 hy
      exact (hch i).choose_spec.2
theorem open_rs2 {α : Type} {t e : TypeId} {sz : Nat} (f : α → List Value) (ok : α → Prop) (ht : P.underlying t = some (.slice e)) (hC : P.cellsOf e = sz) (hsz : 0 < sz) (dec : ∀ n cs x, DataW.trod enc P w base spare held n e cs = some x → ∃ y, cs = f y ∧ ok y)
    {r : Reach} {b0 : Nat} {v : Value} {d : DataW H} {ps : List MemPlace} (hv : Value.okWide P w r b0 t v) (h : DataW.Trod enc P w base spare held t v d ps) :
    ∃ (A : Option Addr) (c : Nat) (l : List α), v = .slice A l.length c ∧ Sl A l.length c ∧ RS w sz f A l ∧ ∀ y ∈ l, ok y := by
  obtain ⟨n, hn⟩ := trod_slice_cell ht hv h
  obtain ⟨A, c, l, h1, h2⟩ := rs_of_trod2 f ok ht hC hsz dec hn
  simp only [List.cons.injEq, and_true] at h1
  exact ⟨A, c, l, h1, h2⟩
/-- How a reading of a slice looks. -/
def Shp (d : DataW H) (n : Nat) : Prop := (d = .nil ∧ n = 0) ∨ ∃ es sp, d = .slice es sp ∧ es.length = n
theorem sized_rs {d : DataW H} {n b : Nat} (hs : Shp d n) (h : ∀ es sp, d = .slice es sp → (es.length + sp.length) * b ≤ reachBytes) : n * b ≤ 140737488351232 := by
  rcases hs with ⟨_, rfl⟩ | ⟨es, sp, e, rfl⟩
  · omega
  · have h1 := h es sp e
    have h2 : es.length * b ≤ (es.length + sp.length) * b := Nat.mul_le_mul_right _ (Nat.le_add_right _ _)
    have h3 : reachBytes = 140737488351232 := by decide
    omega
theorem rs_of_trod3 {α : Type} {t e : TypeId} {sz : Nat} (f : α → List Value) (ok : α → Prop) (ht : P.underlying t = some (.slice e)) (hC : P.cellsOf e = sz) (hsz : 0 < sz) (dec : ∀ n cs x, DataW.trod enc P w base spare held n e cs = some x → ∃ y, cs = f y ∧ ok y)
    {n : Nat} {cs : List Value} {x : DataW H × List MemPlace} (h : DataW.trod enc P w base spare held n t cs = some x) :
    ∃ (A : Option Addr) (c : Nat) (l : List α), cs = [.slice A l.length c] ∧ Sl A l.length c ∧ RS w sz f A l ∧ (∀ y ∈ l, ok y) ∧ Shp x.1 l.length := by
  rcases open_slice ht h with ⟨rfl, rfl⟩ | ⟨a, len, cap, m, k, D, Pl, rfl, _, hlc, hcm, hm, rfl, hat⟩
  · exact ⟨none, 0, [], rfl, ⟨fun _ => ⟨rfl, rfl⟩, Nat.le_refl _, by simp⟩, RS.nil, fun y hy => (by cases hy), .inl ⟨rfl, rfl⟩⟩
  · have hlm : len ≤ m := by rw [hm]; split <;> omega
    have hch : ∀ i : Fin len, ∃ y : α, w.cells? base (a.add (i.1 * sz)) sz = some (f y) ∧ ok y := fun i => by
      obtain ⟨cs', h1, h2⟩ := hat i.1 (by have := i.2; omega)
      obtain ⟨y, rfl, hy⟩ := dec _ _ _ h2
      rw [hC] at h1
      exact ⟨y, h1, hy⟩
    refine ⟨some a, cap, List.ofFn fun i => (hch i).choose, by simp, ⟨fun h => (by cases h), (by simp only [List.length_ofFn]; exact hlc), (by unfold maxLen at hcm; omega)⟩, fun i y hy => ?_, fun y hy => ?_, .inr ⟨_, _, rfl, by simp⟩⟩
    · have hi : i < len := by have := (List.getElem?_eq_some_iff.1 hy).1; simpa using this
      have e1 : y = (hch ⟨i, hi⟩).choose := by
        rw [List.getElem?_eq_getElem (by simpa using hi)] at hy
        simpa using hy.symm
      subst e1
      exact ⟨a, rfl, ext_of_cells (hch ⟨i, hi⟩).choose_spec.1 hsz⟩
    · obtain ⟨i, rfl⟩ := (List.mem_ofFn).1 hy
      exact (hch i).choose_spec.2
theorem open_rs3 {α : Type} {t e : TypeId} {sz : Nat} (f : α → List Value) (ok : α → Prop) (ht : P.underlying t = some (.slice e)) (hC : P.cellsOf e = sz) (hsz : 0 < sz) (dec : ∀ n cs x, DataW.trod enc P w base spare held n e cs = some x → ∃ y, cs = f y ∧ ok y)
    {r : Reach} {b0 : Nat} {v : Value} {d : DataW H} {ps : List MemPlace} (hv : Value.okWide P w r b0 t v) (h : DataW.Trod enc P w base spare held t v d ps) :
    ∃ (A : Option Addr) (c : Nat) (l : List α), v = .slice A l.length c ∧ Sl A l.length c ∧ RS w sz f A l ∧ (∀ y ∈ l, ok y) ∧ Shp d l.length := by
  obtain ⟨n, hn⟩ := trod_slice_cell ht hv h
  obtain ⟨A, c, l, h1, h2⟩ := rs_of_trod3 f ok ht hC hsz dec hn
  simp only [List.cons.injEq, and_true] at h1
  exact ⟨A, c, l, h1, h2⟩
end
/-- A head of a slice. -/
theorem RS.take {α : Type} {w : World} {sz : Nat} {f : α → List Value} {A : Option Addr} {l : List α} (h : RS w sz f A l) (k : Nat) : RS w sz f A (l.take k) := fun i x hx => by
  rw [List.getElem?_take] at hx
  split at hx
  · exact h i x hx
  · cases hx
end Eng
end Go.Proofs.Ytmcmmmaffdenjaa
