/-
  In one text: Cha, Rel, Loo, Lps, Sou, Hlp, Awp, Awk, Awa, Blt, Blp, Rlp, Lcm.
-/
import Derived.Test.YtmcmmmaffdenjaaRes
import Derived.Test.YtmcmmmaffdenjaaSrt
import Derived.Test.YtmcmmmaffdenjaaEngCoreB
import Derived.Test.YtmcmmmaffdenjaaOr3
/-
  forward: changes, Release.
-/
namespace Go.Proofs.Ytmcmmmaffdenjaa
open Go.RowKit Eng
set_option linter.unusedVariables false
set_option linter.unusedSimpArgs false
set_option maxHeartbeats 8000000
attribute [local irreducible] SC SQ J Qt Calls Iterates
section
variable {C : Cx} {F : Fr} {L : List HA} {o : Oper} {K : List KI} {ops : Array Oper} {m : Bool} {rest : List Oper}
attribute [local semireducible] SC J
theorem j_insert {t kt et : Nat} {x y z : Operand} {ti tk : TI} {ik : IntKind} {b : Nat} {M : List (Int × Value)} {k : Int} {v : Value} {L' : List HA} (ho : o.op = .insert t x y z) (hg : o.guard = none) (hd : o.dst = none) (ht : tget C.tab t = some ti)
    (hk : ti.kind = .map kt et) (htk : tget C.tab kt = some tk) (hkk : tk.kind = .int ik) (hx : ev F x = some (.map (some b))) (hy : ev F y = some (.int ik k)) (hz : ev F z = some v) (hup : Upd L (haMap b ik M) (haMap b ik (mset M k v)) L')
    (h : J C ops false rest K F L') : J C ops false (o :: rest) K F L := by
  intro a w hf hs
  obtain ⟨N, hp1, hp2⟩ := hup.perm
  have hA := (hs.perm hp1).head
  obtain ⟨ob, h1, h2⟩ := hA.2.1
  obtain ⟨ob', hr, hM'⟩ := run_mapUpdate (C.ok.get ht) hk (C.ok.get htk) hkk h1 h2 k v
  have hrun : (execOp a.eval o).run C.P w = .ok .skip { w with heap := w.heap.setIfInBounds b ob' } := by
    simp [execOp, ho, hf.ev hx, hf.ev hy, hf.ev hz, hr]
  refine wpListIn_run (by simp [Region.wanted, hg]) (wpIn_skip_ hrun ?_)
  rw [hd]
  have hlt := (hA.1 b rfl).2
  refine h a _ (hf.put_none undef) (hs.upd hup ⟨rfl, rfl, rfl, by simp, fun k hk => by omega⟩ ?_ (haMap_holds (hA.1 b rfl).1 (by simp [hlt]) hM') (fun c hc => .inl hc))
  intro c hc hne
  simp only [Array.getElem?_setIfInBounds]
  rw [if_neg (fun e => hne e.symm)]
end
def chg (d : Int) (o : Od) : List Int := (if d < o.st then [o.st] else []) ++ (if o.kd ≠ 1 ∧ d ≤ o.en ∧ o.en < 730484 then [o.en + 1] else [])
def chgL (l : List Od) (d : Int) : List Int := d :: l.flatMap (chg d)
def keysOf (l : List Int) : List Int := (metM l).map (·.1)
theorem mem_mset_keys (M : List (Int × Value)) (k : Int) (v : Value) (x : Int) : x ∈ (mset M k v).map (·.1) ↔ x = k ∨ x ∈ M.map (·.1) := by
  induction M with
  | nil => simp [mset]
  | cons q M ih =>
    obtain ⟨q1, q2⟩ := q
    simp only [mset]
    split
    · rename_i h; subst h; simp
    · simp only [List.map_cons, List.mem_cons, ih]
      constructor
      · rintro (h | h | h) <;> simp [h]
      · rintro (h | h | h) <;> simp [h]
theorem keys_len (M : List (Int × Value)) (k : Int) (v : Value) : (mset M k v).length ≤ M.length + 1 := by
  induction M with
  | nil => simp [mset]
  | cons q M ih =>
    obtain ⟨q1, q2⟩ := q
    simp only [mset]
    split
    · simp
    · simp only [List.length_cons]; omega
theorem mem_keysOf (l : List Int) (x : Int) : x ∈ keysOf l ↔ x ∈ l := by
  have key : ∀ (l : List Int) (M : List (Int × Value)), x ∈ (l.foldl (fun M k => mset M k (.bool true)) M).map (·.1) ↔ x ∈ l ∨ x ∈ M.map (·.1) := by
    intro l
    induction l with
    | nil => intro M; simp
    | cons y l ih =>
      intro M
      rw [List.foldl_cons, ih, mem_mset_keys, List.mem_cons]
      constructor
      · rintro (h | h | h) <;> simp [h]
      · rintro ((h | h) | h) <;> simp [h]
  have := key l []
  simpa [keysOf, metM] using this
theorem len_metM (l : List Int) : (metM l).length ≤ l.length := by
  have key : ∀ (l : List Int) (M : List (Int × Value)), (l.foldl (fun M k => mset M k (.bool true)) M).length ≤ l.length + M.length := by
    intro l
    induction l with
    | nil => intro M; simp
    | cons y l ih =>
      intro M
      have h1 := ih (mset M y (.bool true))
      have h2 := keys_len M y (.bool true)
      rw [List.foldl_cons, List.length_cons]
      omega
  have := key l []
  simpa [metM] using this
end Go.Proofs.Ytmcmmmaffdenjaa

/-
  forward: Release.
-/
namespace Go.Proofs.Ytmcmmmaffdenjaa
open Go.RowKit Eng
set_option linter.unusedVariables false
set_option linter.unusedSimpArgs false
set_option maxHeartbeats 8000000
attribute [local irreducible] SC SQ J Qt Calls Iterates
def firstFree (l : List Od) (p : Int) : List Int → Int × Int
  | [] => (0, 6)
  | x :: xs => if (wayF l p x).kd = 2 then firstFree l p xs else (x, 0)
def releaseF (l : List Od) (p d : Int) : Int × Int := if rightB l = true ∧ idI p ∧ dayI d then firstFree l p (sortI (keysOf (chgL l d))) else (0, 2)
end Go.Proofs.Ytmcmmmaffdenjaa

/-
  forward: last, slices.Min, Loops.
-/
namespace Go.Proofs.Ytmcmmmaffdenjaa
open Go.RowKit Eng
set_option linter.unusedVariables false
set_option linter.unusedSimpArgs false
set_option maxHeartbeats 8000000
attribute [local irreducible] SC SQ J Qt Calls Iterates
def minF : Int → List Int → Int
  | a, [] => a
  | a, x :: xs => minF (if x < a then x else a) xs
/-- The points at which something is in force, in order. -/
def ptsF (l : List Od) (d : Int) : List Int := sortI ((keysOf (l.map (·.frm))).filter fun k => decide ((fo l k d).idn ≠ 0))
end Go.Proofs.Ytmcmmmaffdenjaa

/-
  forward: Loops.
-/
namespace Go.Proofs.Ytmcmmmaffdenjaa
open Go.RowKit Eng
set_option linter.unusedVariables false
set_option linter.unusedSimpArgs false
set_option maxHeartbeats 8000000
attribute [local irreducible] SC SQ J Qt Calls Iterates
def lastD (l : List Int) : Int := (l[l.length - 1]?).getD 0
def isLp (l : List Od) (d x : Int) : Bool := decide ((wayF l x d).kd = 3 ∧ (fo l (lastD (wayF l x d).pts) d).to = x ∧ minF x ((wayF l x d).pts.drop 1) = x)
def loopsOf (l : List Od) (d : Int) (D : List Int) : List (List Int) := (D.filter (isLp l d)).map fun x => (wayF l x d).pts
def loopsF (l : List Od) (d : Int) : List (List Int) := loopsOf l d (ptsF l d)
abbrev LRow := Value × List Int
abbrev lrC (q : LRow) : List Value := [q.1]
abbrev rowsI (R : List LRow) : List HA := R.map fun q => .own q.1 3 1 q.2.length (q.2.flatMap intC)
end Go.Proofs.Ytmcmmmaffdenjaa

/-
  forward: Sources.
-/
namespace Go.Proofs.Ytmcmmmaffdenjaa
open Go.RowKit Eng
set_option linter.unusedVariables false
set_option linter.unusedSimpArgs false
set_option maxHeartbeats 8000000
attribute [local irreducible] SC SQ J Qt Calls Iterates
def allI : List Int → Bool
  | [] => true
  | q :: l => decide (idI q) && allI l
def srcF (l : List Od) (p d : Int) (pts : List Int) : List Int := pts.filter fun q => decide (lastD (wayF l q d).pts = p)
def sourcesF (l : List Od) (pts : List Int) (p d : Int) : List Int × Int :=
  if ¬ rightB l = true then ([], 2) else if 1000 < pts.length then ([], 5) else if ¬ (idI p ∧ dayI d) then ([], 2) else if ¬ allI pts = true then ([], 2) else (srcF l p d pts, 0)
abbrev SrcR (w : World) (r : List Int × Int) : Ending → World → Prop := fun e w' => ∃ v : Value, True ∧ e = .returned (.tuple #[v, .int .i64 r.2]) ∧ St w Cold [.own v 3 1 r.1.length (r.1.flatMap intC)] w'
end Go.Proofs.Ytmcmmmaffdenjaa

/-
  Helpers of the laws: SameInts, is.
-/
namespace Go.Proofs.Ytmcmmmaffdenjaa
open Go.RowKit Eng
set_option linter.unusedVariables false
set_option linter.unusedSimpArgs false
set_option maxHeartbeats 8000000
attribute [local irreducible] SC SQ J Qt Calls Iterates
def sameF : List Int → List Int → Bool
  | [], [] => true
  | x :: l, y :: m => decide (x = y) && sameF l m
  | _, _ => false
abbrev wyA (A1 : Option Addr) (n1 c1 : Nat) (A2 : Option Addr) (n2 c2 : Nat) (kd un : Int) : Value := .agg #[.slice A1 n1 c1, .slice A2 n2 c2, .int .u8 kd, .int .i64 un]
def isF (W : Wy) (e : Int) (pts ords : List Int) (kd un : Int) : Bool := decide (e = 0) && (sameF W.pts pts && (sameF W.ords ords && (decide (W.kd = kd) && decide (W.un = un))))
end Go.Proofs.Ytmcmmmaffdenjaa

/-
  The examples of chapter 36, plain.
-/
namespace Go.Proofs.Ytmcmmmaffdenjaa
open Go.RowKit Eng
set_option linter.unusedVariables false
set_option linter.unusedSimpArgs false
set_option maxHeartbeats 8000000
attribute [local irreducible] SC SQ J Qt Calls Iterates
def ex1 : Od := ⟨1, 10, 20, 0, 0, 1⟩
def ex2 : Od := ⟨2, 20, 30, 3, 7, 2⟩
def ex3 : Od := ⟨3, 30, 0, 4, 5, 3⟩
def ex4 : Od := ⟨4, 30, 20, 0, 0, 1⟩
def exL : List Od := [ex1, ex2, ex3]
def exM : List Od := [ex1, ex2, ex3, ex4]
theorem w1 : wayF exL 10 5 = ⟨[10, 20, 30], [1, 2], 2, 5⟩ := by kernel_rfl
theorem w2 : wayF exL 10 6 = ⟨[10, 20, 30], [1, 2], 1, 0⟩ := by kernel_rfl
theorem r1 : (wayF exL 10 4).kd = 2 := by kernel_rfl
theorem r2 : (wayF exL 10 6).kd = 1 := by kernel_rfl
end Go.Proofs.Ytmcmmmaffdenjaa

/-
  law36.awake returns true.
-/
namespace Go.Proofs.Ytmcmmmaffdenjaa
open Go.RowKit Eng
set_option linter.unusedVariables false
set_option linter.unusedSimpArgs false
set_option maxHeartbeats 8000000
attribute [local irreducible] SC SQ J Qt Calls Iterates
def rw1 : Wy := ⟨[10, 20, 30], [1, 2], 2, 5⟩
def rw2 : Wy := ⟨[10, 20, 30], [1, 2], 1, 0⟩
def rw3 : Wy := ⟨[10, 20], [1], 1, 0⟩
def rw4 : Wy := ⟨[10, 20, 30], [1, 2], 3, 0⟩
def rw5 : Wy := ⟨[20, 30], [2], 3, 0⟩
def rw6 : Wy := ⟨[30, 20], [4], 3, 0⟩
end Go.Proofs.Ytmcmmmaffdenjaa

/-
  law36.awake returns true.
-/
namespace Go.Proofs.Ytmcmmmaffdenjaa
open Go.RowKit Eng
set_option linter.unusedVariables false
set_option linter.unusedSimpArgs false
set_option maxHeartbeats 8000000
attribute [local irreducible] SC SQ J Qt Calls Iterates
theorem rs_ext {α : Type} {f : α → List Value} {sz : Nat} {w : World} {ad : Addr} {l : List α} (hf : ∀ x, (f x).length = sz) (h : Ext w ad (l.flatMap f)) : RS w sz f (some ad) l := fun i x hx =>
  ⟨ad, rfl, by rw [block_add]; exact h.lt, fun j u hu => by
    rw [nth_eq] at hu
    rw [Eng.add_add]
    exact h.cell _ u (by rw [nth_eq]; exact flat_at f sz hf l i x j u hx hu)⟩
theorem rs_lit {α : Type} {f : α → List Value} {sz b e : Nat} {w0 w : World} {hot : Nat → Prop} {L : List HA} {l : List α} (hf : ∀ x, (f x).length = sz) (hs : St w0 hot L w) (hin : InL L (.cells b e (l.flatMap f))) : RS w sz f (some ⟨b, 0, none⟩) l := rs_ext hf (hs.ext hin)
end Go.Proofs.Ytmcmmmaffdenjaa

/-
  The law's orders.
-/
namespace Go.Proofs.Ytmcmmmaffdenjaa
open Go.RowKit Eng
set_option linter.unusedVariables false
set_option linter.unusedSimpArgs false
set_option maxHeartbeats 8000000
attribute [local irreducible] SC SQ J Qt Calls Iterates
structure Fm where
  kd : Int
  fr : Int
  to : Int
  st : Int
  dy : Int
abbrev fmC (f : Fm) : List Value := [.int .u8 f.kd, .int .u8 f.fr, .int .u8 f.to, .int .u8 f.st, .int .u8 f.dy]
def fmOk (f : Fm) : Prop := (0 ≤ f.kd ∧ f.kd ≤ 255) ∧ (0 ≤ f.fr ∧ f.fr ≤ 255) ∧ (0 ≤ f.to ∧ f.to ≤ 255) ∧ (0 ≤ f.st ∧ f.st ≤ 255) ∧ (0 ≤ f.dy ∧ f.dy ≤ 255)
def toF (f : Fm) : Int := if 1 + f.to % 5 = 1 + f.fr % 5 then 6 else 1 + f.to % 5
def bltO (i : Nat) (f : Fm) : Od := ⟨1 + (7 * (i : Int) + 3) % 20, 1 + f.fr % 5, if 1 + f.kd % 3 = 3 then 0 else toF f, f.st % 80, if 1 + f.kd % 3 = 1 then 0 else f.st % 80 + f.dy % 20, 1 + f.kd % 3⟩
def bltL : Nat → List Fm → List Od
  | _, [] => []
  | i, f :: l => bltO i f :: bltL (i + 1) l
def builtF (l : List Fm) : List Od := bltL 0 (l.take 20)
end Go.Proofs.Ytmcmmmaffdenjaa

/-
  The law's orders are right.
-/
namespace Go.Proofs.Ytmcmmmaffdenjaa
open Go.RowKit Eng
set_option linter.unusedVariables false
set_option linter.unusedSimpArgs false
set_option maxHeartbeats 8000000
attribute [local irreducible] SC SQ J Qt Calls Iterates
end Go.Proofs.Ytmcmmmaffdenjaa

/-
  Releases, plain.
-/
namespace Go.Proofs.Ytmcmmmaffdenjaa
open Go.RowKit Eng
set_option linter.unusedVariables false
set_option linter.unusedSimpArgs false
set_option maxHeartbeats 8000000
attribute [local irreducible] SC SQ J Qt Calls Iterates
end Go.Proofs.Ytmcmmmaffdenjaa

/-
  What the laws of chapter 36 share.
-/
namespace Go.Proofs.Ytmcmmmaffdenjaa
open Go.RowKit Eng
set_option linter.unusedVariables false
set_option linter.unusedSimpArgs false
set_option maxHeartbeats 8000000
attribute [local irreducible] SC SQ J Qt Calls Iterates
/-- Each once. -/
abbrev cntM (seen : List Int) : List (Int × Value) := seen.map fun k => (k, .int .i64 1)
end Go.Proofs.Ytmcmmmaffdenjaa
