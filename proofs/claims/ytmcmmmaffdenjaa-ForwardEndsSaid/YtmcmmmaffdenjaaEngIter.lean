/-
  Ranges over maps.
-/
import Derived.Test.YtmcmmmaffdenjaaEngMap
import Derived.Maps.RangeRun
namespace Go.Proofs.Ytmcmmmaffdenjaa
namespace Eng
open Go.RowKit
open Go.ChangeMaps (setBlock)
set_option linter.unusedVariables false
/-- A map under a range: what is left, and the entry at hand. -/
def haIt (b r : Nat) (ik : IntKind) (M left : List (Int × Value)) (cur : Option (Int × Value)) : HA := .abs (fun c => c = b ∨ c = r) (fun w => ∃ es clk seen, w.heap[b]? = some (.map es clk) ∧ pairs es.toList = ipairs ik M ∧ (∀ e ∈ es.toList, e.born < clk) ∧ (es.toList.map (·.born)).Nodup ∧
  w.heap[r]? = some (.mapIter (some b) clk seen clk) ∧ pairs (leftOf es seen).toList = ipairs ik left ∧ (∀ k v, cur = some (k, v) → ∃ e ∈ es.toList, ∃ s0, seen = Array.push s0 e.born ∧ e.key = .int ik k ∧ e.val = v))
section
variable {C : Cx} {F : Fr} {L : List HA} {o : Oper} {K : List KI} {ops : Array Oper} {rest : List Oper}
theorem j_range {d t kt et : Nat} {x : Operand} {ti : TI} {ik : IntKind} {b : Nat} {M : List (Int × Value)} {L' : Nat → List HA} (ho : o.op = .range t x) (hg : o.guard = none) (hd : o.dst = some d) (hn : Nat.blt d C.n = true) (ht : tget C.tab t = some ti) (hk : ti.kind = .map kt et)
    (hx : ev F x = some (.map (some b))) (hup : ∀ r, Upd L (haMap b ik M) (haIt b r ik M M none) (L' r)) (h : ∀ r, J C ops false rest K ((d, .pointer (some ⟨r, 0, none⟩)) :: F) (L' r)) : J C ops false (o :: rest) K F L := by
  intro a w hf hs
  obtain ⟨N, hp1, _⟩ := (hup w.heap.size).perm
  have hA := (hs.perm hp1).head
  obtain ⟨ob, h1, es, clk, rfl, hp, hb, hnd⟩ := hA.2.1
  have hu := tk_map (C.ok.get ht) hk
  have hlt := (hA.1 b rfl).2
  have hrun : (execOp a.eval o).run C.P w = .ok (.value (.pointer (some ⟨w.heap.size, 0, none⟩))) (w.alloc (.mapIter (some b) clk #[] clk)) := by
    have hget : (getObj b).run C.P w = .ok (.map es clk) w := by simp [getObj, Sem.run, h1]
    simp [execOp, ho, hf.ev hx, Instr.range, run_underlying hu, hget]
  refine wpListIn_run (by simp [Region.wanted, hg]) (wpIn_value hrun ?_)
  rw [hd]
  refine h w.heap.size _ _ (hf.put _ hn) (hs.upd (hup _) ((Below.refl 0 w).alloc (Nat.zero_le _) _) (fun c hc _ => ((Below.refl w.heap.size w).alloc (Nat.le_refl _) _).block c hc) ?_ (fun c hc => ?_))
  · have hold : ∀ c, c < w.heap.size → (w.alloc (.mapIter (some b) clk #[] clk)).heap[c]? = w.heap[c]? := fun c hc => ((Below.refl w.heap.size w).alloc (Nat.le_refl _) _).block c hc
    refine ⟨fun c hc => ?_, ⟨es, clk, #[], (hold b hlt).trans h1, hp, hb, hnd, heap_alloc_new _ _, ?_, fun k v e => by cases e⟩, fun w' _ hk' => ?_⟩
    · rcases hc with rfl | rfl
      · exact ⟨(hA.1 _ rfl).1, by rw [World.size_alloc]; omega⟩
      · exact ⟨.inl hs.near.size, by rw [World.size_alloc]; omega⟩
    · rw [show leftOf es #[] = es from by unfold leftOf; exact Array.filter_eq_self.2 (fun x _ => by simp)]
      exact hp
    · exact ⟨es, clk, #[], (hk' b (.inl rfl)).trans ((hold b hlt).trans h1), hp, hb, hnd, (hk' _ (.inr rfl)).trans (heap_alloc_new _ _), by
        rw [show leftOf es #[] = es from by unfold leftOf; exact Array.filter_eq_self.2 (fun x _ => by simp)]
        exact hp, fun k v e => by cases e⟩
  · rcases hc with rfl | rfl
    · exact .inl rfl
    · exact .inr (Nat.le_refl _)
theorem left_push {es : Array MapEntry} {seen : Array Nat} {e : MapEntry} (hnd : (es.toList.map (·.born)).Nodup) (he : e ∈ (leftOf es seen).toList) :
    ∃ L1 L2, (leftOf es seen).toList = L1 ++ e :: L2 ∧ (leftOf es (seen.push e.born)).toList = L1 ++ L2 := by
  obtain ⟨L1, L2, hL⟩ := List.append_of_mem he
  refine ⟨L1, L2, hL, ?_⟩
  have e1 : (leftOf es (seen.push e.born)).toList = (leftOf es seen).toList.filter (fun x => x.born != e.born) := by
    unfold leftOf
    simp only [Array.toList_filter, List.filter_filter]
    congr 1
    funext x
    simp only [Array.contains_push]
    cases h1 : (x.born == e.born) <;> simp_all [bne]
  have hsub : ((leftOf es seen).toList.map (·.born)).Nodup := by
    refine List.Nodup.sublist ?_ hnd
    unfold leftOf
    rw [Array.toList_filter]
    exact (List.filter_sublist).map _
  rw [e1, hL]
  rw [hL] at hsub
  simp only [List.map_append, List.map_cons] at hsub
  have h3 := List.nodup_append.1 hsub
  obtain ⟨h4, h5⟩ := List.nodup_cons.1 h3.2.1
  rw [List.filter_append, List.filter_cons]
  simp only [bne_self_eq_false, Bool.false_eq_true, if_false]
  congr 1
  · refine List.filter_eq_self.2 fun x hx => ?_
    have := h3.2.2 _ (List.mem_map.2 ⟨x, hx, rfl⟩) e.born List.mem_cons_self
    simpa using this
  · refine List.filter_eq_self.2 fun x hx => ?_
    have : x.born ≠ e.born := fun hh => h4 (hh ▸ List.mem_map.2 ⟨x, hx, rfl⟩)
    simpa using this
theorem ipairs_split {ik : IntKind} : ∀ {left : List (Int × Value)} {L1 L2 : List MapEntry} {e : MapEntry}, pairs (L1 ++ e :: L2) = ipairs ik left → ∃ l1 k l2, left = l1 ++ (k, e.val) :: l2 ∧ e.key = .int ik k ∧ pairs (L1 ++ L2) = ipairs ik (l1 ++ l2)
  | [], L1, L2, e, h => by simp [pairs, ipairs] at h
  | (k, v) :: left, [], L2, e, h => by
    simp only [pairs, ipairs, List.nil_append, List.map_cons, List.cons.injEq, Prod.mk.injEq] at h
    obtain ⟨⟨h1, h2⟩, h3⟩ := h
    subst h2
    exact ⟨[], k, left, rfl, h1, h3⟩
  | (k, v) :: left, x :: L1, L2, e, h => by
    simp only [pairs, ipairs, List.cons_append, List.map_cons, List.cons.injEq] at h
    obtain ⟨h1, h3⟩ := h
    obtain ⟨l1, k', l2, rfl, h4, h5⟩ := ipairs_split (left := left) (L1 := L1) h3
    refine ⟨(k, v) :: l1, k', l2, rfl, h4, ?_⟩
    simp only [pairs, ipairs, List.cons_append, List.map_cons, List.cons.injEq] at h5 ⊢
    exact ⟨h1, h5⟩
theorem j_next {d b r : Nat} {x : Operand} {ik : IntKind} {M left : List (Int × Value)} {cur : Option (Int × Value)} {L' : List (Int × Value) → Int → Value → List HA} (ho : o.op = .next x false) (hg : o.guard = none) (hd : o.dst = some d) (hn : Nat.blt d C.n = true)
    (hx : ev F x = some (.pointer (some ⟨r, 0, none⟩))) (hin : InL L (haIt b r ik M left cur)) (hup : ∀ l k v, Upd L (haIt b r ik M left cur) (haIt b r ik M l (some (k, v))) (L' l k v))
    (h0 : left = [] → J C ops false rest K ((d, .tuple #[.bool false]) :: F) L) (h1 : ∀ l1 k v l2, left = l1 ++ (k, v) :: l2 → J C ops false rest K ((d, .tuple #[.bool true, .int ik k, v]) :: F) (L' (l1 ++ l2) k v)) : J C ops false (o :: rest) K F L := by
  intro a w hf hs
  have hA := hs.at hin
  obtain ⟨es, clk, seen, hb, hp, hborn, hnd, hr, hleft, hcur⟩ := hA.2.1
  have hne : b ≠ r := by
    intro e; subst e; rw [hb] at hr; cases hr
  rcases run_next_at (P := C.P) w o.type r b clk clk seen es clk hr hb hborn (Nat.le_refl _) with ⟨hz, hrun⟩ | ⟨e, he, w1, hw1, hrun⟩
  · have hl0 : left = [] := by
      have : (leftOf es seen).toList = [] := by
        have : (leftOf es seen) = #[] := Array.eq_empty_of_size_eq_zero hz
        rw [this]
      rw [this] at hleft
      simp only [pairs, ipairs, List.map_nil] at hleft
      exact List.map_eq_nil_iff.1 hleft.symm
    have hrun' : (execOp a.eval o).run C.P w = .ok (.value (.tuple #[.bool false])) w := by
      simp [execOp, ho, hf.ev hx, hrun]
    refine wpListIn_run (by simp [Region.wanted, hg]) (wpIn_value hrun' ?_)
    rw [hd]
    exact h0 hl0 _ _ (hf.put _ hn) hs
  · obtain ⟨L1, L2, hL, hL'⟩ := left_push hnd he
    rw [hL] at hleft
    obtain ⟨l1, k, l2, rfl, hkey, hl'⟩ := ipairs_split hleft
    have hees : e ∈ es.toList := by
      unfold leftOf at he
      rw [Array.toList_filter] at he
      exact (List.mem_filter.1 he).1
    have hrun' : (execOp a.eval o).run C.P w = .ok (.value (.tuple #[.bool true, .int ik k, e.val])) (setBlock w1 r (.mapIter (some b) clk (seen.push e.born) clk)) := by
      rw [hkey] at hrun
      simp [execOp, ho, hf.ev hx, hrun]
    refine wpListIn_run (by simp [Region.wanted, hg]) (wpIn_value hrun' ?_)
    rw [hd]
    have hlt := hA.1 r (.inr rfl)
    have hltb := hA.1 b (.inl rfl)
    have hw1h : w1.heap = w.heap := by rcases hw1 with rfl | rfl <;> rfl
    have hnew : ∀ c, (setBlock w1 r (.mapIter (some b) clk (seen.push e.born) clk)).heap[c]? = if c = r then some (.mapIter (some b) clk (seen.push e.born) clk) else w.heap[c]? := by
      intro c
      simp only [setBlock, hw1h, Array.getElem?_setIfInBounds]
      by_cases hc : r = c
      · subst hc; simp [hlt.2]
      · rw [if_neg hc, if_neg (fun e => hc e.symm)]
    refine h1 l1 k e.val l2 rfl _ _ (hf.put _ hn) (hs.upd (hup _ _ _) ⟨?_, ?_, ?_, ?_, fun k hk => by omega⟩ (fun c hc hnot => ?_) ?_ (fun c hc => .inl hc))
    · rcases hw1 with rfl | rfl <;> rfl
    · rcases hw1 with rfl | rfl <;> rfl
    · rcases hw1 with rfl | rfl <;> rfl
    · simp [setBlock, hw1h]
    · rw [hnew, if_neg (fun e => hnot (.inr e))]
    · have hp2 : ∀ w' : World, (∀ c, (c = b ∨ c = r) → w'.heap[c]? = (setBlock w1 r (.mapIter (some b) clk (seen.push e.born) clk)).heap[c]?) → ∃ es clk seen, w'.heap[b]? = some (.map es clk) ∧ pairs es.toList = ipairs ik M ∧ (∀ e ∈ es.toList, e.born < clk) ∧ (es.toList.map (·.born)).Nodup ∧
          w'.heap[r]? = some (.mapIter (some b) clk seen clk) ∧ pairs (leftOf es seen).toList = ipairs ik (l1 ++ l2) ∧ (∀ k' v', some (k, e.val) = some (k', v') → ∃ e ∈ es.toList, ∃ s0, seen = Array.push s0 e.born ∧ e.key = .int ik k' ∧ e.val = v') := by
        intro w' hk'
        refine ⟨es, clk, seen.push e.born, ?_, hp, hborn, hnd, ?_, by rw [hL']; exact hl', ?_⟩
        · rw [hk' b (.inl rfl), hnew, if_neg hne]; exact hb
        · rw [hk' r (.inr rfl), hnew, if_pos rfl]
        · intro k' v' hh
          simp only [Option.some.injEq, Prod.mk.injEq] at hh
          obtain ⟨rfl, rfl⟩ := hh
          exact ⟨e, hees, seen, rfl, hkey, rfl⟩
      refine ⟨fun c hc => ?_, hp2 _ (fun c _ => rfl), fun w' _ hk' => hp2 w' hk'⟩
      rcases hc with rfl | rfl
      · exact ⟨hltb.1, by simp [setBlock, hw1h]; exact hltb.2⟩
      · exact ⟨hlt.1, by simp [setBlock, hw1h]; exact hlt.2⟩
theorem q_entry {b r : Nat} {x : Operand} {ik : IntKind} {M left : List (Int × Value)} {k : Int} {v : Value} (ho : o.op = .entry x) (hx : ev F x = some (.pointer (some ⟨r, 0, none⟩))) (hin : InL L (haIt b r ik M left (some (k, v)))) : Qv C o F L (.tuple #[.int ik k, v]) :=
  .of_run fun a w hf hs => by
    obtain ⟨es, clk, seen, hb, hp, hborn, hnd, hr, hleft, hcur⟩ := (hs.at hin).2.1
    obtain ⟨e, he, s0, rfl, hkey, hval⟩ := hcur k v rfl
    have := run_entry_at (P := C.P) w r b clk s0 es clk e hr hb he hnd
    rw [hkey, hval] at this
    simp [execOp, ho, hf.ev hx, this]
end
end Eng
end Go.Proofs.Ytmcmmmaffdenjaa
