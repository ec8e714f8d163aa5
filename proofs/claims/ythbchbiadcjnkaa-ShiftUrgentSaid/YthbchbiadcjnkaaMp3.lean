/-
  Jobs, shifts, slices as cells; maps of jobs, of minutes, of ends.
-/
import Derived.Test.YthbchbiadcjnkaaPb3
import Derived.Test.YthbchbiadcjnkaaEngCoreB
import Derived.Test.YthbchbiadcjnkaaTab
namespace Go.Proofs.Ythbchbiadcjnkaa
open Go.RowKit Eng
set_option linter.unusedVariables false
set_option linter.unusedSimpArgs false
set_option maxHeartbeats 8000000
attribute [local irreducible] SC SQ J Qt Calls Iterates LSub FSub
theorem rb {a b : Bool} (h : a = b) : Ending.returned (.bool a) = .returned (.bool b) := by rw [h]
abbrev jbC (x : Jb) : List Value := [.int .i64 x.idn, .int .i64 x.rel, .int .i64 x.due, .int .i64 x.mn]
abbrev jbV (x : Jb) : Value := .agg (jbC x).toArray
abbrev sfC (x : Sf) : List Value := [.int .i64 x.frm, .int .i64 x.to]
abbrev sfV (x : Sf) : Value := .agg (sfC x).toArray
abbrev pcC (x : Pc) : List Value := [.int .i64 x.jb, .int .i64 x.frm, .int .i64 x.to]
abbrev pcV (x : Pc) : Value := .agg (pcC x).toArray
abbrev intC (x : Int) : List Value := [.int .i64 x]
theorem take_snocS {α : Type} {l : List α} {k : Nat} {x : α} (h : l[k]? = some x) : l.take (k + 1) = l.take k ++ [x] := by
  rw [List.take_add_one, h]; rfl
theorem drop_cons {α : Type} {l : List α} {k : Nat} {x : α} (h : l[k]? = some x) : l.drop k = x :: l.drop (k + 1) := by
  obtain ⟨hlt, hx⟩ := List.getElem?_eq_some_iff.1 h
  rw [List.drop_eq_getElem_cons hlt, hx]
theorem mlk_set : ∀ (M : List (Int × Value)) (k k' : Int) (v : Value), mlk (mset M k v) k' = if k' = k then some v else mlk M k'
  | [], k, k', v => by
    unfold mset mlk
    by_cases h : k = k'
    · rw [if_pos h, if_pos h.symm]
    · rw [if_neg h, if_neg (fun e => h e.symm)]
      rfl
  | (a, u) :: M, k, k', v => by
    unfold mset
    by_cases h : a = k
    · rw [if_pos h]
      unfold mlk
      by_cases h2 : a = k'
      · rw [if_pos h2, if_pos (by omega)]
      · rw [if_neg h2, if_neg (by omega), if_neg h2]
    · rw [if_neg h]
      have ih := mlk_set M k k' v
      unfold mlk
      by_cases h2 : a = k'
      · rw [if_pos h2, if_neg (by omega), if_pos h2]
      · rw [if_neg h2, ih, if_neg h2]
abbrev idsM (seen : List Int) : List (Int × Value) := seen.map fun k => (k, .bool true)
theorem mlk_ids : ∀ (seen : List Int) (k : Int), mlk (idsM seen) k = if k ∈ seen then some (.bool true) else none
  | [], k => rfl
  | x :: seen, k => by
    have ih := mlk_ids seen k
    simp only [idsM, List.map_cons, mlk] at ih ⊢
    by_cases h : x = k
    · rw [if_pos h, if_pos (by rw [h]; exact List.mem_cons_self)]
    · rw [if_neg h, ih]
      by_cases h2 : k ∈ seen
      · rw [if_pos h2, if_pos (List.mem_cons_of_mem _ h2)]
      · rw [if_neg h2, if_neg (fun hm => by rcases List.mem_cons.1 hm with e | hm; exact h e.symm; exact h2 hm)]
theorem mset_ids : ∀ (seen : List Int) (k : Int), k ∉ seen → mset (idsM seen) k (.bool true) = idsM (seen ++ [k])
  | [], k, _ => rfl
  | x :: seen, k, h => by
    have hx : x ≠ k := fun e => h (by rw [e]; exact List.mem_cons_self)
    have ih := mset_ids seen k fun hm => h (List.mem_cons_of_mem _ hm)
    simp only [idsM, List.map_cons, List.cons_append, mset, if_neg hx] at ih ⊢
    rw [ih]
/-- The jobs by their IDs. -/
def knI (l : List Jb) (M : List (Int × Value)) : Prop := ∀ k, mlk M k = (l.find? fun x => decide (x.idn = k)).map jbV
theorem knI_nil : knI [] [] := fun _ => rfl
theorem knI_snoc {l : List Jb} {M : List (Int × Value)} {x : Jb} (h : knI l M) (hx : ∀ y ∈ l, y.idn ≠ x.idn) : knI (l ++ [x]) (mset M x.idn (jbV x)) := fun k => by
  rw [mlk_set, List.find?_append, h k]
  by_cases hk : k = x.idn
  · subst hk
    rw [if_pos rfl, List.find?_eq_none.2 fun y hy => by rw [decide_eq_true_eq]; exact hx y hy]
    simp
  · rw [if_neg hk]
    cases l.find? fun x => decide (x.idn = k) with
    | some y => rfl
    | none => simp [Ne.symm hk]
/-- The minutes that jobs have run. -/
def rnI (l : List Pc) (M : List (Int × Value)) : Prop := ∀ k, mlk M k = if ∃ p ∈ l, p.jb = k then some (.int .i64 (tot l k)) else none
theorem rnI_nil : rnI [] [] := fun k => by rw [if_neg (fun ⟨p, hp, _⟩ => by cases hp)]; rfl
theorem tot_snoc (l : List Pc) (p : Pc) (k : Int) : tot (l ++ [p]) k = tot l k + if p.jb = k then p.to - p.frm else 0 := by
  rw [tot_append]
  unfold tot
  split <;> simp [tot]
theorem rnI_get {l : List Pc} {M : List (Int × Value)} (h : rnI l M) (k : Int) : (mlk M k = some (.int .i64 (tot l k))) ∨ (mlk M k = none ∧ tot l k = 0) := by
  rw [h k]
  by_cases hk : ∃ p ∈ l, p.jb = k
  · rw [if_pos hk]; exact .inl rfl
  · rw [if_neg hk]
    exact .inr ⟨rfl, tot_none fun p hp e => hk ⟨p, hp, e⟩⟩
theorem rnI_snoc {l : List Pc} {M : List (Int × Value)} {p : Pc} (h : rnI l M) : rnI (l ++ [p]) (mset M p.jb (.int .i64 (tot l p.jb + (p.to - p.frm)))) := fun k => by
  rw [mlk_set, tot_snoc]
  by_cases hk : k = p.jb
  · subst hk
    rw [if_pos rfl, if_pos ⟨p, by simp, rfl⟩, if_pos rfl]
  · rw [if_neg hk, h k, if_neg (Ne.symm hk), Int.add_zero]
    by_cases hm : ∃ q ∈ l, q.jb = k
    · obtain ⟨q, hq, e⟩ := hm
      rw [if_pos ⟨q, hq, e⟩, if_pos ⟨q, List.mem_append.2 (.inl hq), e⟩]
    · rw [if_neg hm, if_neg]
      rintro ⟨q, hq, e⟩
      rcases List.mem_append.1 hq with hq | hq
      · exact hm ⟨q, hq, e⟩
      · rw [List.mem_singleton] at hq
        subst hq
        exact hk e.symm
/-- The ends of the last slices. -/
def laI (l : List Pc) (M : List (Int × Value)) : Prop := ∀ k, mlk M k = (lastTo l k).map fun b => .int .i64 b
theorem laI_nil : laI [] [] := fun _ => rfl
theorem lastTo_snoc (l : List Pc) (p : Pc) (k : Int) : lastTo (l ++ [p]) k = if p.jb = k then some p.to else lastTo l k := by
  induction l with
  | nil => unfold lastTo; simp [lastTo]
  | cons q l ih =>
    rw [List.cons_append]
    unfold lastTo
    rw [ih]
    by_cases h : p.jb = k
    · rw [if_pos h, if_pos h]
    · rw [if_neg h, if_neg h]
theorem laI_snoc {l : List Pc} {M : List (Int × Value)} {p : Pc} (h : laI l M) : laI (l ++ [p]) (mset M p.jb (.int .i64 p.to)) := fun k => by
  rw [mlk_set, lastTo_snoc, h k]
  by_cases hk : k = p.jb
  · rw [if_pos hk, if_pos hk.symm]; rfl
  · rw [if_neg hk, if_neg (Ne.symm hk)]
end Go.Proofs.Ythbchbiadcjnkaa
