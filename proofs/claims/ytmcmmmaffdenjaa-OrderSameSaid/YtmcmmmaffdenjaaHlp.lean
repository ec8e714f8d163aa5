/-
  Helpers of the laws: SameInts, is.
-/
import Derived.Test.YtmcmmmaffdenjaaOr3
namespace Go.Proofs.Ytmcmmmaffdenjaa
open Go.RowKit Eng
set_option linter.unusedVariables false
set_option linter.unusedSimpArgs false
set_option maxHeartbeats 8000000
attribute [local irreducible] SC SQ J Qt Calls Iterates
def sameF : List Int → List Int → Bool
  | [], [] => true
  | x :: l, y :: m => decide (x = y) && sameF l m
  | _, _ => false
abbrev wyA (A1 : Option Addr) (n1 c1 : Nat) (A2 : Option Addr) (n2 c2 : Nat) (kd un : Int) : Value := .agg #[.slice A1 n1 c1, .slice A2 n2 c2, .int .u8 kd, .int .i64 un]
def isF (W : Wy) (e : Int) (pts ords : List Int) (kd un : Int) : Bool := decide (e = 0) && (sameF W.pts pts && (sameF W.ords ords && (decide (W.kd = kd) && decide (W.un = un))))
end Go.Proofs.Ytmcmmmaffdenjaa
