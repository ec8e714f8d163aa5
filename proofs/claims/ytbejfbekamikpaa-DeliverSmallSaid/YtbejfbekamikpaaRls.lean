/-
  The law's lists of rules and of holidays.
-/
import Derived.Test.YtbejfbekamikpaaRul
namespace Go.Proofs.Ytbejfbekamikpaa
open Go.RowKit Eng
set_option linter.unusedVariables false
set_option linter.unusedSimpArgs false
set_option maxHeartbeats 8000000
attribute [local irreducible] SC SQ J Qt Calls Iterates
def rulesF (l : List Nt) : List Ru := (l.take 30).map ruledF
def offG (a : Int) : List Int → List Int
  | [] => []
  | x :: l => (a + (1 + x % 64)) :: offG (a + (1 + x % 64)) l
def offF (l : List Int) : List Int := offG (-1) (l.take 30)
def offA (a : Int) : List Int → Int
  | [] => a
  | x :: l => offA (a + (1 + x % 64)) l
abbrev u8C (x : Int) : List Value := [.int .u8 x]
end Go.Proofs.Ytbejfbekamikpaa
