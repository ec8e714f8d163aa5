/-
  In one text: Byp, On, Alo, Pat, Res.
-/
import Derived.Test.YtmcmmmaffdenjaaOr3
import Derived.Test.YtmcmmmaffdenjaaEngCoreB
/-
  forward: byPoint.
-/
namespace Go.Proofs.Ytmcmmmaffdenjaa
open Go.RowKit Eng
set_option linter.unusedVariables false
set_option linter.unusedSimpArgs false
set_option maxHeartbeats 8000000
attribute [local irreducible] SC SQ J Qt Calls Iterates
abbrev Row := Value × List Od
abbrev rowsH (M : List (Int × Row)) : List HA := M.map fun q => .own q.2.1 30 6 q.2.2.length (q.2.2.flatMap odC)
abbrev rowV (r : Row) : Value := r.1
/-- What the map holds behind the first rules. -/
def bpI (l : List Od) (M : List (Int × Row)) : Prop := (∀ k, ((lkG M k).map (·.2)).getD [] = l.filter (fun x => decide (x.frm = k))) ∧ (M.map (·.1)).Nodup
end Go.Proofs.Ytmcmmmaffdenjaa

/-
  forward: on.
-/
namespace Go.Proofs.Ytmcmmmaffdenjaa
open Go.RowKit Eng
set_option linter.unusedVariables false
set_option linter.unusedSimpArgs false
set_option maxHeartbeats 8000000
attribute [local irreducible] SC SQ J Qt Calls Iterates
/-- The rows of a map that is given. -/
def RowsG (w : World) (M : List (Int × Row)) : Prop := ∀ q ∈ M, ∃ A c, q.2.1 = .slice A q.2.2.length c ∧ RS w 6 odC A q.2.2
/-- A chart: what is in force at the points at which something is. -/
structure ChartP (f : Int → Od) (N : List (Int × Od)) : Prop where
  lk : ∀ k, lkG N k = if (f k).idn = 0 then none else some (f k)
  nd : (N.map (·.1)).Nodup
/-- Behind the points of P. -/
structure onI (f : Int → Od) (M : List (Int × Row)) (left : List (Int × Row)) (N : List (Int × Od)) : Prop where
  perm : ∃ P, (P ++ left).Perm M ∧ (∀ k, lkG N k = if k ∈ P.map (·.1) then (if (f k).idn = 0 then none else some (f k)) else none)
  nd : (N.map (·.1)).Nodup
end Go.Proofs.Ytmcmmmaffdenjaa

/-
  forward: along.
-/
namespace Go.Proofs.Ytmcmmmaffdenjaa
open Go.RowKit Eng
set_option linter.unusedVariables false
set_option linter.unusedSimpArgs false
set_option maxHeartbeats 8000000
attribute [local irreducible] SC SQ J Qt Calls Iterates
def chF (N : List (Int × Od)) (k : Int) : Od := (lkG N k).getD odZ
abbrev encP (x : Int × Od) : List Value := [.int .i64 x.1, odV x.2]
end Go.Proofs.Ytmcmmmaffdenjaa

/-
  forward: path.
-/
namespace Go.Proofs.Ytmcmmmaffdenjaa
open Go.RowKit Eng
set_option linter.unusedVariables false
set_option linter.unusedSimpArgs false
set_option maxHeartbeats 8000000
attribute [local irreducible] SC SQ J Qt Calls Iterates
def metM (l : List Int) : List (Int × Value) := l.foldl (fun M k => mset M k (.bool true)) []
theorem met_snoc (l : List Int) (k : Int) : metM (l ++ [k]) = mset (metM l) k (.bool true) := by
  unfold metM
  rw [List.foldl_append]
  rfl
/-- A step, and whether the way ends. -/
def stW (s : Wy) (x : Int × Od) : Wy × Option Code := ((wst s x).1, if (wst s x).2 = true then some (.exit 0) else none)
end Go.Proofs.Ytmcmmmaffdenjaa

/-
  forward: Resolve.
-/
namespace Go.Proofs.Ytmcmmmaffdenjaa
open Go.RowKit Eng
set_option linter.unusedVariables false
set_option linter.unusedSimpArgs false
set_option maxHeartbeats 8000000
attribute [local irreducible] SC SQ J Qt Calls Iterates
abbrev bpV (x : Nat × List (Int × Row)) : Value := .map (some x.1)
abbrev bpL (x : Nat × List (Int × Row)) : List HA := haMap x.1 .i64 (valsG rowV x.2) :: rowsH x.2
abbrev chV (x : Nat × List (Int × Od)) : Value := .map (some x.1)
abbrev chL (x : Nat × List (Int × Od)) : List HA := [haMap x.1 .i64 (valsG odV x.2)]
def wayF (l : List Od) (p d : Int) : Wy := way (fun k => fo l k d) 500 p
def wyZ : Wy := ⟨[], [], 0, 0⟩
def resolveF (l : List Od) (p d : Int) : Wy × Int := if rightB l = true ∧ idI p ∧ dayI d then (wayF l p d, 0) else (wyZ, 2)
abbrev wyV (x : Value × Value) (W : Wy) : Value := .agg #[x.1, x.2, .int .u8 W.kd, .int .i64 W.un]
abbrev wyL (W : Wy) (x : Value × Value) : List HA := [.own x.1 3 1 W.pts.length (W.pts.flatMap intC), .own x.2 3 1 W.ords.length (W.ords.flatMap intC)]
end Go.Proofs.Ytmcmmmaffdenjaa
