/-
  law36.awake returns true.
-/
import Derived.Test.YtmcmmmaffdenjaaAwk
namespace Go.Proofs.Ytmcmmmaffdenjaa
open Go.RowKit Eng
set_option linter.unusedVariables false
set_option linter.unusedSimpArgs false
set_option maxHeartbeats 8000000
attribute [local irreducible] SC SQ J Qt Calls Iterates
theorem rs_ext {α : Type} {f : α → List Value} {sz : Nat} {w : World} {ad : Addr} {l : List α} (hf : ∀ x, (f x).length = sz) (h : Ext w ad (l.flatMap f)) : RS w sz f (some ad) l := fun i x hx =>
  ⟨ad, rfl, by rw [block_add]; exact h.lt, fun j u hu => by
    rw [nth_eq] at hu
    rw [Eng.add_add]
    exact h.cell _ u (by rw [nth_eq]; exact flat_at f sz hf l i x j u hx hu)⟩
theorem rs_lit {α : Type} {f : α → List Value} {sz b e : Nat} {w0 w : World} {hot : Nat → Prop} {L : List HA} {l : List α} (hf : ∀ x, (f x).length = sz) (hs : St w0 hot L w) (hin : InL L (.cells b e (l.flatMap f))) : RS w sz f (some ⟨b, 0, none⟩) l := rs_ext hf (hs.ext hin)
end Go.Proofs.Ytmcmmmaffdenjaa
