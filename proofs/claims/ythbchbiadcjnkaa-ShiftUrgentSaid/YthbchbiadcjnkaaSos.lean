/-
  slices.Sort and slices.Compact of numbers, of own memory.
-/
import Derived.Test.YthbchbiadcjnkaaMp3
import Derived.Test.YthbchbiadcjnkaaSh
import Derived.Test.YthbchbiadcjnkaaPc0
import Derived.Sort.OwnSortedInts
namespace Go.Proofs.Ythbchbiadcjnkaa
open Go.RowKit Eng
set_option linter.unusedVariables false
set_option linter.unusedSimpArgs false
set_option maxHeartbeats 8000000
attribute [local irreducible] SC SQ J Qt Calls Iterates LSub FSub
open Go.Sort Go.RowKit in
theorem sort_c {w0 w : World} {hot : Nat → Prop} {L L' : List HA} {v : Value} {e : Nat} {zs : List Int} (hs : St w0 hot L w) (hlen : zs.length < 4611686018427387904)
    (hup : Upd L (.own v e 1 zs.length (zs.map (Value.int .i64))) (.own v e 1 zs.length ((zs.mergeSort fun x y => decide (x ≤ y)).map (Value.int .i64))) L') :
    Calls Try.prog 28 #[v] w fun e w' => ∃ u : Unit, True ∧ e = .returned (.tuple #[]) ∧ St w0 hot L' w' := by
  obtain ⟨N, hp1, hp2⟩ := hup.perm
  have hA := (hs.perm hp1).head
  rcases hA.2.2 with ⟨rfl, hn⟩ | ⟨g, cap, cur, rfl, hg, hh, hcap, hmax, hsz, htk⟩
  · have hz : zs = [] := List.length_eq_zero_iff.1 hn
    subst hz
    refine (Try.slices_Sort_int_none none 0 w).mono fun e' w' ⟨he, hw⟩ => ⟨(), trivial, he, ?_⟩
    subst hw
    exact (hs.perm hp1).perm (by simpa using hp2.symm)
  · have hH := holds_of_blockI (ss := zs) hh (by simpa using htk)
    have hlt := (Array.getElem?_eq_some_iff.1 hh).1
    refine (Try.slices_Sort_int g 0 cap zs w hH hlt hlen).mono fun e' w' ⟨he, n, os, hw⟩ => ⟨(), trivial, he, ?_⟩
    subst hw
    have hgb := grownBy_sortedI (w := w) (g := g) (n := n) (os := os) (zs.mergeSort fun x y => decide (x ≤ y)).toArray
    have hrow := ownsRow_sortedI (n := n) (os := os) (ts := zs.mergeSort fun x y => decide (x ≤ y)) (ss := zs) (by simp) hg hh hcap hmax (by simpa using hsz)
    refine hs.upd hup ⟨hgb.os, hgb.tape, hgb.output, hgb.size, fun k hk => by omega⟩ (fun b hb hne => hgb.block b hb (fun e => hne ?_)) ⟨hA.1, hrow⟩ (fun b hb => .inl hb)
    exact (congrArg id e.symm : (Value.slice (some ⟨g, 0, none⟩) zs.length cap).ownBlock = some b)
theorem map_flat (l : List Int) : l.map (Value.int .i64) = l.flatMap intC := by
  induction l with
  | nil => rfl
  | cons x l ih => simp [ih]
theorem sortD_c {w0 w : World} {hot : Nat → Prop} {L L' : List HA} {v : Value} {e : Nat} {zs : List Int} (hs : St w0 hot L w) (hlen : zs.length < 4611686018427387904)
    (hup : Upd L (.own v e 1 zs.length (zs.flatMap intC)) (.own v e 1 zs.length ((sortD zs).flatMap intC)) L') :
    Calls Try.prog 28 #[v] w fun e w' => ∃ u : Unit, True ∧ e = .returned (.tuple #[]) ∧ St w0 hot L' w' := sort_c hs hlen (by rw [map_flat, map_flat]; exact hup)
/-- .. and zeros behind. -/
def cmpZ (zs : List Int) : List Int := Go.Lib.compact zs ++ List.replicate (zs.length - (Go.Lib.compact zs).length) 0
theorem compact_len (zs : List Int) : (Go.Lib.compact zs).length ≤ zs.length := by
  unfold Go.Lib.compact Go.Lib.compactUpTo
  rw [List.length_map]
  have := List.length_filter_le (Go.Lib.keeps zs.toArray) (List.range zs.length)
  rwa [List.length_range] at this
theorem cmpZ_len (zs : List Int) : (cmpZ zs).length = zs.length := by
  have := compact_len zs
  unfold cmpZ
  rw [List.length_append, List.length_replicate]
  omega
open Go.Sort Go.RowKit in
theorem compact_c {w0 w : World} {hot : Nat → Prop} {L L' : List HA} {A : Option Addr} {c : Nat} {e : Nat} {zs : List Int} (hs : St w0 hot L w) (hlen : zs.length < 4611686018427387904)
    (hup : Upd L (.own (.slice A zs.length c) e 1 zs.length (zs.flatMap intC)) (.own (.slice A zs.length c) e 1 zs.length ((cmpZ zs).flatMap intC)) L') :
    Calls Try.prog 33 #[.slice A zs.length c] w fun e w' => ∃ u : Unit, True ∧ e = .returned (.slice A (Go.Lib.compact zs).length c) ∧ St w0 hot L' w' := by
  rw [← map_flat, ← map_flat] at hup
  obtain ⟨N, hp1, hp2⟩ := hup.perm
  have hA := (hs.perm hp1).head
  rcases hA.2.2 with ⟨hv, hn⟩ | ⟨g, cap, cur, hv, hg, hh, hcap, hmax, hsz, htk⟩
  · have hz : zs = [] := List.length_eq_zero_iff.1 hn
    subst hz
    refine (Try.slices_Compact_int_empty A c w).mono fun e' w' ⟨he, hw⟩ => ⟨(), trivial, he, ?_⟩
    subst hw
    exact (hs.perm hp1).perm hp2.symm
  · injection hv with h1 _ h2
    subst h1
    subst h2
    have hH := holds_of_blockI (ss := zs) hh (by simpa using htk)
    refine (Try.slices_Compact_int g 0 c zs w hH (by omega) hcap).mono fun e' w' ⟨he, n, hw⟩ => ⟨(), trivial, he, ?_⟩
    have hw2 : w' = grow (putRow (Value.int .i64) (Sort.ahead w n) g 0 (cmpZ zs).toArray) #[] := by rw [grow_empty]; exact hw
    subst hw2
    have hgb := grownBy_sortedI (w := w) (g := g) (n := n) (os := #[]) (cmpZ zs).toArray
    have hrow := ownsRow_sortedI (n := n) (os := #[]) (ts := cmpZ zs) (ss := zs) (cmpZ_len zs) hg hh hcap hmax (by simpa using hsz)
    refine hs.upd hup ⟨hgb.os, hgb.tape, hgb.output, hgb.size, fun k hk => by omega⟩ (fun b hb hne => hgb.block b hb (fun e => hne ?_)) ⟨hA.1, hrow⟩ (fun b hb => .inl hb)
    exact (congrArg id e.symm : (Value.slice (some ⟨g, 0, none⟩) zs.length c).ownBlock = some b)
theorem cmpc_ne {l : List Int} (h : l ≠ []) : ∃ m, cmpc l = l.head h :: m := by
  cases l with
  | nil => exact absurd rfl h
  | cons x l =>
    unfold cmpc
    cases cmpc l with
    | nil => exact ⟨[], rfl⟩
    | cons y m =>
      dsimp only
      split
      · rename_i e; exact ⟨m, by show y :: m = x :: m; rw [e]⟩
      · exact ⟨y :: m, rfl⟩
theorem cmpc_snoc : ∀ (l : List Int) (x : Int), cmpc (l ++ [x]) = if l.getLast? = some x then cmpc l else cmpc l ++ [x]
  | [], x => by simp [cmpc]
  | a :: l, x => by
    have ih := cmpc_snoc l x
    rw [List.cons_append]
    by_cases hl : l = []
    · subst hl
      simp only [List.nil_append, List.getLast?_singleton, Option.some.injEq]
      simp only [cmpc]
      by_cases h : a = x
      · rw [if_pos h, if_pos h, h]
      · rw [if_neg h, if_neg h]; rfl
    · have hlast : (a :: l).getLast? = l.getLast? := by
        cases l with
        | nil => exact absurd rfl hl
        | cons b l => rw [List.getLast?_cons_cons]
      rw [hlast]
      obtain ⟨m, hm⟩ := cmpc_ne hl
      have hm' : cmpc (a :: l) = if a = l.head hl then l.head hl :: m else a :: l.head hl :: m := by
        rw [cmpc, hm]
      have h2 : cmpc (a :: (l ++ [x])) = match cmpc (l ++ [x]) with
        | [] => [a]
        | y :: m => if a = y then y :: m else a :: y :: m := rfl
      rw [h2, ih, hm']
      by_cases hx : l.getLast? = some x
      · rw [if_pos hx, if_pos hx, hm]
      · rw [if_neg hx, if_neg hx, hm]
        show (if a = l.head hl then l.head hl :: (m ++ [x]) else a :: l.head hl :: (m ++ [x])) = _
        split <;> rfl
theorem compact_snoc (l : List Int) (x : Int) : Go.Lib.compact (l ++ [x]) = if l.getLast? = some x then Go.Lib.compact l else Go.Lib.compact l ++ [x] := by
  unfold Go.Lib.compact Go.Lib.compactUpTo
  rw [List.length_append, List.length_singleton, List.range_succ, List.filter_append, List.map_append]
  have hget : ∀ j, j < l.length → (l ++ [x]).toArray[j]! = l.toArray[j]! := fun j hj => by
    simp [getElem!_def, List.getElem?_append_left hj]
  have hf : (List.range l.length).filter (Go.Lib.keeps (l ++ [x]).toArray) = (List.range l.length).filter (Go.Lib.keeps l.toArray) := by
    refine List.filter_congr fun j hj => ?_
    have hj := List.mem_range.1 hj
    unfold Go.Lib.keeps
    rw [hget j hj, hget (j - 1) (by omega)]
  have hm : ((List.range l.length).filter (Go.Lib.keeps l.toArray)).map ((l ++ [x]).toArray[·]!) = ((List.range l.length).filter (Go.Lib.keeps l.toArray)).map (l.toArray[·]!) := by
    refine List.map_congr_left fun j hj => ?_
    exact hget j (List.mem_range.1 (List.mem_filter.1 hj).1)
  have hx : (l ++ [x]).toArray[l.length]! = x := by simp [getElem!_def]
  rw [hf, hm]
  simp only [List.filter_cons, List.filter_nil]
  have hk : Go.Lib.keeps (l ++ [x]).toArray l.length = decide (¬ l.getLast? = some x) := by
    unfold Go.Lib.keeps
    apply decide_eq_decide.2
    rw [hx]
    by_cases h0 : l.length = 0
    · have : l = [] := List.length_eq_zero_iff.1 h0
      subst this
      simp
    · rw [hget (l.length - 1) (by omega), List.getLast?_eq_getElem?, List.getElem?_eq_getElem (show l.length - 1 < l.length by omega)]
      have : l.toArray[l.length - 1]! = l[l.length - 1] := by simp [getElem!_def, List.getElem?_eq_getElem (show l.length - 1 < l.length by omega)]
      rw [this]
      constructor
      · rintro (h | h) e
        · exact h0 h
        · injection e with e; exact h e.symm
      · intro h
        exact .inr fun e => h (by rw [e])
  rw [hk]
  by_cases h : l.getLast? = some x
  · rw [if_pos h, decide_eq_false (fun g => g h)]
    simp
  · rw [if_neg h, decide_eq_true h]
    simp only [if_true, List.map_cons, List.map_nil, hx]
theorem compact_eq (l : List Int) : Go.Lib.compact l = cmpc l := by
  have key : ∀ n (l : List Int), l.length = n → Go.Lib.compact l = cmpc l := by
    intro n
    induction n with
    | zero => intro l hl; rw [List.length_eq_zero_iff.1 hl]; rfl
    | succ n ih =>
      intro l hl
      have hne : l ≠ [] := fun e => by rw [e] at hl; cases hl
      have hd : l = l.dropLast ++ [l.getLast hne] := (List.dropLast_concat_getLast hne).symm
      rw [hd, compact_snoc, cmpc_snoc, ih l.dropLast (by rw [List.length_dropLast, hl]; rfl)]
  exact key l.length l rfl
end Go.Proofs.Ythbchbiadcjnkaa
