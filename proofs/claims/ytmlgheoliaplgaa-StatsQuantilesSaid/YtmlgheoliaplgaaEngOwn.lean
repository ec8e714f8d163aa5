/-
  Own rows: what they read as, and that they are slices.
-/
import Derived.Test.YtmlgheoliaplgaaEngRow
import Derived.Test.YtmlgheoliaplgaaEngLaw2
namespace Go.Proofs.Ytmlgheoliaplgaa
namespace Eng
open Go.RowKit
set_option linter.unusedVariables false
section
variable {C : Cx} {F : Fr} {L : List HA} {K : List KI} {ops : Array Oper}
theorem sc_ownq {c' : Code} {v : Value} {e sz n : Nat} {xs : List Value} (hin : InL L (.own v e sz n xs)) (hn : 0 < n) (h : ∀ ad c, v = .slice (some ad) n c → n ≤ c → SC C c' K F L) : SC C c' K F L := fun a w hf hs => by
  have hA := hs.at hin
  rcases hA.2.2 with ⟨_, h0⟩ | ⟨g, cap, cur, hv, _, _, hnc, _⟩
  · omega
  · exact h _ _ hv hnc a w hf hs
theorem j_ownp {l : List Oper} {v : Value} {e sz n : Nat} {xs : List Value} (hin : InL L (.own v e sz n xs)) (hn : 0 < n) (h : ∀ ad c, v = .slice (some ad) n c → n ≤ c → J C ops false l K F L) : J C ops false l K F L := fun a w hf hs => by
  have hA := hs.at hin
  rcases hA.2.2 with ⟨_, h0⟩ | ⟨g, cap, cur, hv, _, _, hnc, _⟩
  · omega
  · exact h _ _ hv hnc a w hf hs
/-- Whatever its length. -/
theorem sc_owns {c' : Code} {v : Value} {e sz n : Nat} {xs : List Value} (hin : InL L (.own v e sz n xs)) (h : ∀ A c, v = .slice A n c → Sl A n c → SC C c' K F L) : SC C c' K F L := fun a w hf hs => by
  have hA := hs.at hin
  rcases hA.2.2 with ⟨hv, h0⟩ | ⟨g, cap, cur, hv, _, _, hnc, hcm, _⟩
  · subst h0
    exact h _ _ hv ⟨fun _ => ⟨rfl, rfl⟩, Nat.le_refl _, by omega⟩ a w hf hs
  · exact h _ _ hv ⟨fun h => (by cases h), hnc, by unfold maxLen at hcm; omega⟩ a w hf hs
theorem j_owns {l : List Oper} {v : Value} {e sz n : Nat} {xs : List Value} (hin : InL L (.own v e sz n xs)) (h : ∀ A c, v = .slice A n c → Sl A n c → J C ops false l K F L) : J C ops false l K F L := fun a w hf hs => by
  have hA := hs.at hin
  rcases hA.2.2 with ⟨hv, h0⟩ | ⟨g, cap, cur, hv, _, _, hnc, hcm, _⟩
  · subst h0
    exact h _ _ hv ⟨fun _ => ⟨rfl, rfl⟩, Nat.le_refl _, by omega⟩ a w hf hs
  · exact h _ _ hv ⟨fun h => (by cases h), hnc, by unfold maxLen at hcm; omega⟩ a w hf hs
end
section
variable {w0 w : World} {hot : Nat → Prop} {L : List HA}
theorem rs_own {α : Type} {f : α → List Value} {sz n c e : Nat} {A : Option Addr} {xs : List Value} {l : List α} (hf : ∀ x, (f x).length = sz) (hs : St w0 hot L w) (hin : InL L (.own (.slice A n c) e sz n xs)) (hn : n = l.length) (hx : xs = l.flatMap f) : RS w sz f A l := by
  subst hn
  subst hx
  have hA := hs.at hin
  rcases hA.2.2 with ⟨hv, h0⟩ | ⟨g, cap, cur, hv, _, hg, hnc, _⟩
  · have : l = [] := List.length_eq_zero_iff.1 h0
    subst this
    exact RS.nil
  · injection hv with h1 _ h3
    subst h1
    subst h3
    intro i x hx
    have hlt := (Array.getElem?_eq_some_iff.1 hg).1
    refine ⟨_, rfl, by rw [block_add]; exact hlt, fun j u hu => ?_⟩
    rw [nth_eq] at hu
    rw [Eng.add_add]
    exact own_cell hs hin (flat_at f sz hf l i x j u hx hu)
theorem sl_own {e sz n c : Nat} {A : Option Addr} {xs : List Value} (hs : St w0 hot L w) (hin : InL L (.own (.slice A n c) e sz n xs)) : Sl A n c := by
  have hA := hs.at hin
  rcases hA.2.2 with ⟨hv, h0⟩ | ⟨g, cap, cur, hv, _, hg, hnc, hcm, _⟩
  · injection hv with h1 _ h3
    subst h1; subst h3; subst h0
    exact ⟨fun _ => ⟨rfl, rfl⟩, Nat.le_refl _, by omega⟩
  · injection hv with h1 _ h3
    subst h1; subst h3
    exact ⟨fun h => (by cases h), hnc, by unfold maxLen at hcm; omega⟩
end
end Eng
end Go.Proofs.Ytmlgheoliaplgaa
