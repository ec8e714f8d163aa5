/-
  The law's file of six points, and its status.
-/
import Derived.Test.YtbejfbekamikpaaAwk
namespace Go.Proofs.Ytbejfbekamikpaa
open Go.RowKit Eng
set_option linter.unusedVariables false
set_option linter.unusedSimpArgs false
set_option maxHeartbeats 8000000
attribute [local irreducible] SC SQ J Qt Calls Iterates
def lstF (pts : List Pt) (l : List Ru) (hol : List Int) (t d : Int) : Int := if (statF pts l hol t d).2 ≠ 0 then 9 else (statF pts l hol t d).1
def sixP (k : Nat) : Pt := if k ≤ 3 then ⟨k, 1, 2, k, ⟨#[]⟩, ⟨#[]⟩, 0, k⟩ else ⟨k, 1, 0, 0, ⟨#[]⟩, ⟨#[]⟩, k, k⟩
def sixU (k : Nat) : List Pt := (List.range k).map fun i => sixP (i + 1)
end Go.Proofs.Ytbejfbekamikpaa
