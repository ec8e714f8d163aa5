/-
  The law's orders.
-/
import Derived.Test.YtmcmmmaffdenjaaOr3
import Derived.Test.YtmcmmmaffdenjaaEngCoreB
namespace Go.Proofs.Ytmcmmmaffdenjaa
open Go.RowKit Eng
set_option linter.unusedVariables false
set_option linter.unusedSimpArgs false
set_option maxHeartbeats 8000000
attribute [local irreducible] SC SQ J Qt Calls Iterates
structure Fm where
  kd : Int
  fr : Int
  to : Int
  st : Int
  dy : Int
abbrev fmC (f : Fm) : List Value := [.int .u8 f.kd, .int .u8 f.fr, .int .u8 f.to, .int .u8 f.st, .int .u8 f.dy]
def fmOk (f : Fm) : Prop := (0 ≤ f.kd ∧ f.kd ≤ 255) ∧ (0 ≤ f.fr ∧ f.fr ≤ 255) ∧ (0 ≤ f.to ∧ f.to ≤ 255) ∧ (0 ≤ f.st ∧ f.st ≤ 255) ∧ (0 ≤ f.dy ∧ f.dy ≤ 255)
def toF (f : Fm) : Int := if 1 + f.to % 5 = 1 + f.fr % 5 then 6 else 1 + f.to % 5
def bltO (i : Nat) (f : Fm) : Od := ⟨1 + (7 * (i : Int) + 3) % 20, 1 + f.fr % 5, if 1 + f.kd % 3 = 3 then 0 else toF f, f.st % 80, if 1 + f.kd % 3 = 1 then 0 else f.st % 80 + f.dy % 20, 1 + f.kd % 3⟩
def bltL : Nat → List Fm → List Od
  | _, [] => []
  | i, f :: l => bltO i f :: bltL (i + 1) l
def builtF (l : List Fm) : List Od := bltL 0 (l.take 20)
end Go.Proofs.Ytmcmmmaffdenjaa
