/-
  What the laws' beginnings have in common.
-/
import Derived.Test.YtbejfbekamikpaaPl2
import Derived.Test.YtbejfbekamikpaaEngBase
namespace Go.Proofs.Ytbejfbekamikpaa
open Go.RowKit Eng
set_option linter.unusedVariables false
set_option linter.unusedSimpArgs false
attribute [local irreducible] SC SQ J Qt Calls Iterates
abbrev sixV (v : Value) : Value := .agg #[.slice none 0 0, .slice none 0 0, .slice none 0 0, v]
abbrev sixL (v : Value) : List HA := [.own v 39 8 6 ((sixU 6).flatMap ptC)]
abbrev ruL (l : List Nt) (v : Value) : List HA := [.own v 37 5 (rulesF l).length ((rulesF l).flatMap ruC)]
abbrev offL (l : List Int) (v : Value) : List HA := [.own v 3 1 (offF l).length ((offF l).flatMap intC)]
theorem filter_take {α : Type} (p : α → Bool) (l : List α) (k : Nat) (x : α) (h : l[k]? = some x) : (l.take (k + 1)).filter p = (l.take k).filter p ++ (if p x then [x] else []) := by
  rw [List.take_add_one, h, List.filter_append]
  simp [List.filter_cons]
theorem own_len {α : Type} (f : α → List Value) (v : Value) (e sz : Nat) (l : List α) (x : α) : HA.own v e sz (l ++ [x]).length ((l ++ [x]).flatMap f) = HA.own v e sz (l.length + 1) (l.flatMap f ++ f x) := by simp
end Go.Proofs.Ytbejfbekamikpaa
