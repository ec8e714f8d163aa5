/-
  forward: Resolve.
-/
import Derived.Test.YtmcmmmaffdenjaaPat
namespace Go.Proofs.Ytmcmmmaffdenjaa
open Go.RowKit Eng
set_option linter.unusedVariables false
set_option linter.unusedSimpArgs false
set_option maxHeartbeats 8000000
attribute [local irreducible] SC SQ J Qt Calls Iterates
abbrev bpV (x : Nat × List (Int × Row)) : Value := .map (some x.1)
abbrev bpL (x : Nat × List (Int × Row)) : List HA := haMap x.1 .i64 (valsG rowV x.2) :: rowsH x.2
abbrev chV (x : Nat × List (Int × Od)) : Value := .map (some x.1)
abbrev chL (x : Nat × List (Int × Od)) : List HA := [haMap x.1 .i64 (valsG odV x.2)]
def wayF (l : List Od) (p d : Int) : Wy := way (fun k => fo l k d) 500 p
def wyZ : Wy := ⟨[], [], 0, 0⟩
def resolveF (l : List Od) (p d : Int) : Wy × Int := if rightB l = true ∧ idI p ∧ dayI d then (wayF l p d, 0) else (wyZ, 2)
abbrev wyV (x : Value × Value) (W : Wy) : Value := .agg #[x.1, x.2, .int .u8 W.kd, .int .i64 W.un]
abbrev wyL (W : Wy) (x : Value × Value) : List HA := [.own x.1 3 1 W.pts.length (W.pts.flatMap intC), .own x.2 3 1 W.ords.length (W.ords.flatMap intC)]
end Go.Proofs.Ytmcmmmaffdenjaa
