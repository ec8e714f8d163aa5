/-
  Maps that came in: looked up, counted, gone over.
-/
import Derived.Test.YtmcmmmaffdenjaaEngIter
namespace Go.Proofs.Ytmcmmmaffdenjaa
namespace Eng
open Go.RowKit
open Go.ChangeMaps (setBlock)
set_option linter.unusedVariables false
/-- A map in memory that is only read. -/
structure MapG (w : World) (b : Nat) (ik : IntKind) (M : List (Int × Value)) (es : Array MapEntry) (clk : Nat) : Prop where
  at_ : w.heap[b]? = some (.map es clk)
  prs : pairs es.toList = ipairs ik M
  born : ∀ e ∈ es.toList, e.born < clk
  nodup : (es.toList.map (·.born)).Nodup
theorem MapG.lt {w : World} {b : Nat} {ik : IntKind} {M : List (Int × Value)} {es : Array MapEntry} {clk : Nat} (h : MapG w b ik M es clk) : b < w.heap.size := (Array.getElem?_eq_some_iff.1 h.at_).1
theorem MapG.imap {w : World} {b : Nat} {ik : IntKind} {M : List (Int × Value)} {es : Array MapEntry} {clk : Nat} (h : MapG w b ik M es clk) : imapOk ik M (.map es clk) := ⟨es, clk, rfl, h.prs, h.born, h.nodup⟩
theorem MapG.near {w w' : World} {B : Nat} {hot : Nat → Prop} {b : Nat} {ik : IntKind} {M : List (Int × Value)} {es : Array MapEntry} {clk : Nat} (h : MapG w b ik M es clk) (hn : Near B hot w w') (hb : b < B) (hh : ¬ hot b) : MapG w' b ik M es clk := ⟨(hn.block b hb hh).trans h.at_, h.prs, h.born, h.nodup⟩
theorem MapG.st {w0 w : World} {L : List HA} {b : Nat} {ik : IntKind} {M : List (Int × Value)} {es : Array MapEntry} {clk : Nat} (h : MapG w0 b ik M es clk) (hs : St w0 Cold L w) : MapG w b ik M es clk := h.near hs.near h.lt (fun h => h)
theorem St.mapG {w0 w : World} {hot : Nat → Prop} {L : List HA} {b : Nat} {ik : IntKind} {M : List (Int × Value)} (hs : St w0 hot L w) (hin : InL L (haMap b ik M)) : ∃ es clk, MapG w b ik M es clk := by
  obtain ⟨ob, h1, es, clk, rfl, h2, h3, h4⟩ := (hs.at hin).2.1
  exact ⟨es, clk, h1, h2, h3, h4⟩
/-- What is left of such a map under a range. -/
def haItG (b r : Nat) (ik : IntKind) (es : Array MapEntry) (clk : Nat) (left : List (Int × Value)) (cur : Option (Int × Value)) : HA := .abs (· = r) (fun w => ∃ seen, w.heap[r]? = some (.mapIter (some b) clk seen clk) ∧ pairs (leftOf es seen).toList = ipairs ik left ∧
  (∀ k v, cur = some (k, v) → ∃ e ∈ es.toList, ∃ s0, seen = Array.push s0 e.born ∧ e.key = .int ik k ∧ e.val = v))
section
variable {C : Cx} {F : Fr} {L : List HA} {o : Oper} {K : List KI} {ops : Array Oper} {rest : List Oper}
/-- In the context: given, and not written. -/
structure MapC (C : Cx) (b : Nat) (ik : IntKind) (M : List (Int × Value)) (es : Array MapEntry) (clk : Nat) : Prop where
  map : MapG C.w0 b ik M es clk
  cold : ¬ C.hot b
theorem MapC.now {b : Nat} {ik : IntKind} {M : List (Int × Value)} {es : Array MapEntry} {clk : Nat} (h : MapC C b ik M es clk) {w : World} (hs : St C.w0 C.hot L w) : MapG w b ik M es clk := h.map.near hs.near h.map.lt h.cold
theorem q_lookupG {t kt et : Nat} {x y : Operand} {ti tk te : TI} {ik : IntKind} {b : Nat} {M : List (Int × Value)} {es : Array MapEntry} {clk : Nat} {k : Int} {v : Value} (ho : o.op = .lookup t x y false) (ht : tget C.tab t = some ti) (hk : ti.kind = .map kt et) (htk : tget C.tab kt = some tk)
    (hkk : tk.kind = .int ik) (hte : tget C.tab et = some te) (hx : ev F x = some (.map (some b))) (hy : ev F y = some (.int ik k)) (hM : MapC C b ik M es clk) (hv : (mlk M k).getD te.zv = v) : Qv C o F L v :=
  .of_run fun a w hf hs => by
    have := run_lookup (C.ok.get ht) hk (C.ok.get htk) hkk (C.ok.get hte) (hM.now hs).at_ (hM.now hs).imap k false
    simp [execOp, ho, hf.ev hx, hf.ev hy, this, hv]
theorem q_lookup_okG {t kt et : Nat} {x y : Operand} {ti tk te : TI} {ik : IntKind} {b : Nat} {M : List (Int × Value)} {es : Array MapEntry} {clk : Nat} {k : Int} {v : Value} {r : Bool} (ho : o.op = .lookup t x y true) (ht : tget C.tab t = some ti) (hk : ti.kind = .map kt et) (htk : tget C.tab kt = some tk)
    (hkk : tk.kind = .int ik) (hte : tget C.tab et = some te) (hx : ev F x = some (.map (some b))) (hy : ev F y = some (.int ik k)) (hM : MapC C b ik M es clk) (hv : (mlk M k).getD te.zv = v) (hr : (mlk M k).isSome = r) : Qv C o F L (.tuple #[v, .bool r]) :=
  .of_run fun a w hf hs => by
    have := run_lookup (C.ok.get ht) hk (C.ok.get htk) hkk (C.ok.get hte) (hM.now hs).at_ (hM.now hs).imap k true
    simp [execOp, ho, hf.ev hx, hf.ev hy, this, hv, hr]
theorem q_len_mapG {x : Operand} {t kt et : TypeId} {ti : TI} {ik : IntKind} {b : Nat} {M : List (Int × Value)} {es : Array MapEntry} {clk : Nat} (ho : o.op = .call { callee := .builtin .len, args := #[x], argTypes := #[t] }) (ht : tget C.tab t = some ti) (hk : ti.kind = .map kt et)
    (hx : ev F x = some (.map (some b))) (hM : MapC C b ik M es clk) : Qv C o F L (.int .i64 (M.length : Int)) :=
  .of_run fun ac w hf hs => by
    have h1 := tk_map (C.ok.get ht) hk
    have hG := hM.now hs
    have hlen : es.size = M.length := by
      have := congrArg List.length hG.prs
      simpa [pairs, ipairs] using this
    have hget : (getObj b).run C.P w = .ok (.map es clk) w := by simp [getObj, Sem.run, hG.at_]
    simp [execOp, ho, resolve, invoke, builtin, Builtin.len_, hf.ev hx, run_underlying h1, goInt, hget, hlen]
theorem leftOf_nil (es : Array MapEntry) : leftOf es #[] = es := by unfold leftOf; exact Array.filter_eq_self.2 (fun x _ => by simp)
theorem j_rangeG {d t kt et : Nat} {x : Operand} {ti : TI} {ik : IntKind} {b : Nat} {M : List (Int × Value)} {es : Array MapEntry} {clk : Nat} (ho : o.op = .range t x) (hg : o.guard = none) (hd : o.dst = some d) (hn : Nat.blt d C.n = true) (ht : tget C.tab t = some ti) (hk : ti.kind = .map kt et)
    (hx : ev F x = some (.map (some b))) (hM : MapC C b ik M es clk) (h : ∀ r, J C ops false rest K ((d, .pointer (some ⟨r, 0, none⟩)) :: F) (haItG b r ik es clk M none :: L)) : J C ops false (o :: rest) K F L := by
  have hu := tk_map (C.ok.get ht) hk
  have hp := hM.map.prs
  refine j_step_new (ob := .mapIter (some b) clk #[] clk) (x := fun r => haItG b r ik es clk M none) hg hd hn (fun r => .pointer (some ⟨r, 0, none⟩)) (fun a w hf hs => ?_) (fun r c hc => hc) (fun w hw => ?_) h
  · have hget : (getObj b).run C.P w = .ok (.map es clk) w := by simp [getObj, Sem.run, (hM.now hs).at_]
    simp [execOp, ho, hf.ev hx, Instr.range, run_underlying hu, hget]
  · refine ⟨fun c hc => ?_, ⟨#[], heap_alloc_new _ _, by rw [leftOf_nil]; exact hp, fun k v e => by cases e⟩, fun w' _ hk' => ⟨#[], (hk' _ rfl).trans (heap_alloc_new _ _), by rw [leftOf_nil]; exact hp, fun k v e => by cases e⟩⟩
    subst hc
    exact ⟨.inl hw, by rw [World.size_alloc]; omega⟩
theorem j_nextG {d b r : Nat} {x : Operand} {ik : IntKind} {M left : List (Int × Value)} {es : Array MapEntry} {clk : Nat} {cur : Option (Int × Value)} {L' : List (Int × Value) → Int → Value → List HA} (ho : o.op = .next x false) (hg : o.guard = none) (hd : o.dst = some d) (hn : Nat.blt d C.n = true)
    (hx : ev F x = some (.pointer (some ⟨r, 0, none⟩))) (hM : MapC C b ik M es clk) (hin : InL L (haItG b r ik es clk left cur)) (hup : ∀ l k v, Upd L (haItG b r ik es clk left cur) (haItG b r ik es clk l (some (k, v))) (L' l k v))
    (h0 : left = [] → J C ops false rest K ((d, .tuple #[.bool false]) :: F) L) (h1 : ∀ l1 k v l2, left = l1 ++ (k, v) :: l2 → J C ops false rest K ((d, .tuple #[.bool true, .int ik k, v]) :: F) (L' (l1 ++ l2) k v)) : J C ops false (o :: rest) K F L := by
  intro a w hf hs
  have hA := hs.at hin
  obtain ⟨seen, hr, hleft, hcur⟩ := hA.2.1
  have hG := hM.now hs
  have hb := hG.at_
  have hne : b ≠ r := by
    intro e; subst e; rw [hb] at hr; cases hr
  rcases run_next_at (P := C.P) w o.type r b clk clk seen es clk hr hb hG.born (Nat.le_refl _) with ⟨hz, hrun⟩ | ⟨e, he, w1, hw1, hrun⟩
  · have hl0 : left = [] := by
      have : (leftOf es seen).toList = [] := by
        have : (leftOf es seen) = #[] := Array.eq_empty_of_size_eq_zero hz
        rw [this]
      rw [this] at hleft
      simp only [pairs, ipairs, List.map_nil] at hleft
      exact List.map_eq_nil_iff.1 hleft.symm
    have hrun' : (execOp a.eval o).run C.P w = .ok (.value (.tuple #[.bool false])) w := by
      simp [execOp, ho, hf.ev hx, hrun]
    refine wpListIn_run (by simp [Region.wanted, hg]) (wpIn_value hrun' ?_)
    rw [hd]
    exact h0 hl0 _ _ (hf.put _ hn) hs
  · obtain ⟨L1, L2, hL, hL'⟩ := left_push hG.nodup he
    rw [hL] at hleft
    obtain ⟨l1, k, l2, rfl, hkey, hl'⟩ := ipairs_split hleft
    have hees : e ∈ es.toList := by
      unfold leftOf at he
      rw [Array.toList_filter] at he
      exact (List.mem_filter.1 he).1
    have hrun' : (execOp a.eval o).run C.P w = .ok (.value (.tuple #[.bool true, .int ik k, e.val])) (setBlock w1 r (.mapIter (some b) clk (seen.push e.born) clk)) := by
      rw [hkey] at hrun
      simp [execOp, ho, hf.ev hx, hrun]
    refine wpListIn_run (by simp [Region.wanted, hg]) (wpIn_value hrun' ?_)
    rw [hd]
    have hlt := hA.1 r rfl
    have hw1h : w1.heap = w.heap := by rcases hw1 with rfl | rfl <;> rfl
    have hnew : ∀ c, (setBlock w1 r (.mapIter (some b) clk (seen.push e.born) clk)).heap[c]? = if c = r then some (.mapIter (some b) clk (seen.push e.born) clk) else w.heap[c]? := by
      intro c
      simp only [setBlock, hw1h, Array.getElem?_setIfInBounds]
      by_cases hc : r = c
      · subst hc; simp [hlt.2]
      · rw [if_neg hc, if_neg (fun e => hc e.symm)]
    refine h1 l1 k e.val l2 rfl _ _ (hf.put _ hn) (hs.upd (hup _ _ _) ⟨?_, ?_, ?_, ?_, fun k hk => by omega⟩ (fun c hc hnot => ?_) ?_ (fun c hc => .inl hc))
    · rcases hw1 with rfl | rfl <;> rfl
    · rcases hw1 with rfl | rfl <;> rfl
    · rcases hw1 with rfl | rfl <;> rfl
    · simp [setBlock, hw1h]
    · rw [hnew, if_neg (fun e : c = r => hnot e)]
    · have hp2 : ∀ w' : World, w'.heap[r]? = (setBlock w1 r (.mapIter (some b) clk (seen.push e.born) clk)).heap[r]? → ∃ seen, w'.heap[r]? = some (.mapIter (some b) clk seen clk) ∧ pairs (leftOf es seen).toList = ipairs ik (l1 ++ l2) ∧
          (∀ k' v', some (k, e.val) = some (k', v') → ∃ e ∈ es.toList, ∃ s0, seen = Array.push s0 e.born ∧ e.key = .int ik k' ∧ e.val = v') := by
        intro w' hk'
        refine ⟨seen.push e.born, by rw [hk', hnew, if_pos rfl], by rw [hL']; exact hl', ?_⟩
        intro k' v' hh
        simp only [Option.some.injEq, Prod.mk.injEq] at hh
        obtain ⟨rfl, rfl⟩ := hh
        exact ⟨e, hees, seen, rfl, hkey, rfl⟩
      refine ⟨fun c hc => ?_, hp2 _ rfl, fun w' _ hk' => hp2 w' (hk' r rfl)⟩
      subst hc
      exact ⟨hlt.1, by simp [setBlock, hw1h]; exact hlt.2⟩
theorem q_entryG {b r : Nat} {x : Operand} {ik : IntKind} {M left : List (Int × Value)} {es : Array MapEntry} {clk : Nat} {k : Int} {v : Value} (ho : o.op = .entry x) (hx : ev F x = some (.pointer (some ⟨r, 0, none⟩))) (hM : MapC C b ik M es clk) (hin : InL L (haItG b r ik es clk left (some (k, v)))) : Qv C o F L (.tuple #[.int ik k, v]) :=
  .of_run fun a w hf hs => by
    obtain ⟨seen, hr, hleft, hcur⟩ := (hs.at hin).2.1
    have hG := hM.now hs
    obtain ⟨e, he, s0, rfl, hkey, hval⟩ := hcur k v rfl
    have := run_entry_at (P := C.P) w r b clk s0 es clk e hr hG.at_ he hG.nodup
    rw [hkey, hval] at this
    simp [execOp, ho, hf.ev hx, this]
end
end Eng
end Go.Proofs.Ytmcmmmaffdenjaa
