/-
  The law's rules.
-/
import Derived.Test.YtbejfbekamikpaaSix
namespace Go.Proofs.Ytbejfbekamikpaa
open Go.RowKit Eng
set_option linter.unusedVariables false
set_option linter.unusedSimpArgs false
set_option maxHeartbeats 8000000
attribute [local irreducible] SC SQ J Qt Calls Iterates
structure Nt where
  pt : Int
  kd : Int
  a : Int
  b : Int
abbrev ntC (n : Nt) : List Value := [.int .u8 n.pt, .int .u8 n.kd, .int .u8 n.a, .int .u8 n.b]
def ntOk (n : Nt) : Prop := (0 ≤ n.pt ∧ n.pt ≤ 255) ∧ (0 ≤ n.kd ∧ n.kd ≤ 255) ∧ (0 ≤ n.a ∧ n.a ≤ 255) ∧ (0 ≤ n.b ∧ n.b ≤ 255)
def mdayF (a : Int) : Int := 100 * (1 + a % 12) + 1 + a / 12
def ruledF (n : Nt) : Ru :=
  if n.kd % 3 = 0 then ⟨1 + n.pt % 6, 1 + n.kd % 3, mdayF n.a, mdayF n.b, 0⟩
  else if n.kd % 3 = 1 then ⟨1 + n.pt % 6, 1 + n.kd % 3, 2 * n.a, 2 * n.a + n.b % 200, 0⟩
  else ⟨1 + n.pt % 6, 1 + n.kd % 3, 0, 0, 1 + n.a % 127⟩
end Go.Proofs.Ytbejfbekamikpaa
