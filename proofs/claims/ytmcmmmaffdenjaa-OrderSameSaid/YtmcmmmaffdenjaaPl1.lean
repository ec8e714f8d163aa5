/-
  Ways, plain.
-/
import Derived.Test.YtmcmmmaffdenjaaPl0
namespace Go.Proofs.Ytmcmmmaffdenjaa
set_option linter.unusedVariables false
set_option linter.unusedSimpArgs false
/-- The way of mail. -/
structure Wy where
  pts : List Int
  ords : List Int
  kd : Int
  un : Int
/-- What happens at a point: the way behind it, and whether it ends. -/
def wst (s : Wy) (x : Int × Od) : Wy × Bool :=
  if x.2.idn = 0 then (⟨s.pts ++ [x.1], s.ords, 1, s.un⟩, true)
  else if x.2.kd = 3 then (⟨s.pts ++ [x.1], s.ords, 2, x.2.en⟩, true)
  else if x.2.to ∈ s.pts ++ [x.1] then (⟨s.pts ++ [x.1], s.ords, 3, s.un⟩, true)
  else (⟨s.pts ++ [x.1], s.ords ++ [x.2.idn], s.kd, s.un⟩, false)
/-- The points to which orders lead from a point on. -/
def along (f : Int → Od) : Nat → Int → List (Int × Od)
  | 0, p => [(p, f p)]
  | n + 1, p => (p, f p) :: (if (f p).to = 0 then [] else along f n (f p).to)
def wrun : Wy → List (Int × Od) → Wy × Bool
  | s, [] => (s, false)
  | s, x :: xs => match wst s x with
    | (s', true) => (s', true)
    | (s', false) => wrun s' xs
def way (f : Int → Od) (n : Nat) (p : Int) : Wy := (wrun ⟨[], [], 0, 0⟩ (along f n p)).1
/-- A way from a point on, behind points that have been met. -/
inductive IsW (f : Int → Od) : List Int → Int → List Int → List Int → Int → Int → Prop where
  | here {met : List Int} {p : Int} (h : (f p).idn = 0) : IsW f met p [p] [] 1 0
  | held {met : List Int} {p : Int} (h : (f p).idn ≠ 0) (h3 : (f p).kd = 3) : IsW f met p [p] [] 2 (f p).en
  | back {met : List Int} {p : Int} (h : (f p).idn ≠ 0) (h3 : (f p).kd ≠ 3) (hm : (f p).to ∈ met ++ [p]) : IsW f met p [p] [] 3 0
  | go {met : List Int} {p : Int} {pts ords : List Int} {k u : Int} (h : (f p).idn ≠ 0) (h3 : (f p).kd ≠ 3) (hm : (f p).to ∉ met ++ [p]) (hr : IsW f (met ++ [p]) (f p).to pts ords k u) : IsW f met p (p :: pts) ((f p).idn :: ords) k u
end Go.Proofs.Ytmcmmmaffdenjaa
