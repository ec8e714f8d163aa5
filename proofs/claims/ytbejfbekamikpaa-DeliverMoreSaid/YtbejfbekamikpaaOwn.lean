/-
  Rows of the call's own, read.
-/
import Derived.Test.YtbejfbekamikpaaCom
namespace Go.Proofs.Ytbejfbekamikpaa
open Go.RowKit Eng
set_option linter.unusedVariables false
set_option linter.unusedSimpArgs false
attribute [local irreducible] SC SQ J Qt Calls Iterates
theorem rs_of_own2 {w0 w : World} {hot : Nat → Prop} {L : List HA} {α : Type} {f : α → List Value} {e sz n : Nat} {xs : List Value} {A : Option Addr} {c : Nat} {l : List α} (hs : St w0 hot L w) (hf : ∀ x, (f x).length = sz) (hin : InL L (.own (.slice A n c) e sz n xs)) (hn : n = l.length) (hx : xs = l.flatMap f) : RS w sz f A l := by
  subst hn
  subst hx
  exact rs_of_own hs hf hin
theorem own_none {w0 w : World} {hot : Nat → Prop} {L : List HA} {e sz n c : Nat} {A : Option Addr} {xs : List Value} (hs : St w0 hot L w) (hin : InL L (.own (.slice A n c) e sz n xs)) : A = none → n = 0 ∧ c = 0 := fun ha => by
  have hA := hs.at hin
  rcases hA.2.2 with ⟨hv, hn⟩ | ⟨g, cap, cur, hv, _⟩
  · injection hv with _ _ h3
    exact ⟨hn, h3⟩
  · rw [ha] at hv
    injection hv with h1
    cases h1
end Go.Proofs.Ytbejfbekamikpaa
