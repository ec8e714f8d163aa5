/-
  The engine: rules of symbolic execution over the model's code, in one text (or two).
-/
import Derived.Test.YtbejfbekamikpaaEngCoreA
import Derived.Maps.RangeRun
import Derived.SizedLaws
/-
  Ranges over maps.
-/
namespace Go.Proofs.Ytbejfbekamikpaa
namespace Eng
open Go.RowKit
open Go.ChangeMaps (setBlock)
set_option linter.unusedVariables false
/-- A map under a range: what is left, and the entry at hand. -/
def haIt (b r : Nat) (ik : IntKind) (M left : List (Int × Value)) (cur : Option (Int × Value)) : HA := .abs (fun c => c = b ∨ c = r) (fun w => ∃ es clk seen, w.heap[b]? = some (.map es clk) ∧ pairs es.toList = ipairs ik M ∧ (∀ e ∈ es.toList, e.born < clk) ∧ (es.toList.map (·.born)).Nodup ∧
  w.heap[r]? = some (.mapIter (some b) clk seen clk) ∧ pairs (leftOf es seen).toList = ipairs ik left ∧ (∀ k v, cur = some (k, v) → ∃ e ∈ es.toList, ∃ s0, seen = Array.push s0 e.born ∧ e.key = .int ik k ∧ e.val = v))
section
variable {C : Cx} {F : Fr} {L : List HA} {o : Oper} {K : List KI} {ops : Array Oper} {rest : List Oper}
theorem j_range {d t kt et : Nat} {x : Operand} {ti : TI} {ik : IntKind} {b : Nat} {M : List (Int × Value)} {L' : Nat → List HA} (ho : o.op = .range t x) (hg : o.guard = none) (hd : o.dst = some d) (hn : Nat.blt d C.n = true) (ht : tget C.tab t = some ti) (hk : ti.kind = .map kt et)
    (hx : ev F x = some (.map (some b))) (hup : ∀ r, Upd L (haMap b ik M) (haIt b r ik M M none) (L' r)) (h : ∀ r, J C ops false rest K ((d, .pointer (some ⟨r, 0, none⟩)) :: F) (L' r)) : J C ops false (o :: rest) K F L := by
  intro a w hf hs
  obtain ⟨N, hp1, _⟩ := (hup w.heap.size).perm
  have hA := (hs.perm hp1).head
  obtain ⟨ob, h1, es, clk, rfl, hp, hb, hnd⟩ := hA.2.1
  have hu := tk_map (C.ok.get ht) hk
  have hlt := (hA.1 b rfl).2
  have hrun : (execOp a.eval o).run C.P w = .ok (.value (.pointer (some ⟨w.heap.size, 0, none⟩))) (w.alloc (.mapIter (some b) clk #[] clk)) := by
    have hget : (getObj b).run C.P w = .ok (.map es clk) w := by simp [getObj, Sem.run, h1]
    simp [execOp, ho, hf.ev hx, Instr.range, run_underlying hu, hget]
  refine wpListIn_run (by simp [Region.wanted, hg]) (wpIn_value hrun ?_)
  rw [hd]
  refine h w.heap.size _ _ (hf.put _ hn) (hs.upd (hup _) ((Below.refl 0 w).alloc (Nat.zero_le _) _) (fun c hc _ => ((Below.refl w.heap.size w).alloc (Nat.le_refl _) _).block c hc) ?_ (fun c hc => ?_))
  · have hold : ∀ c, c < w.heap.size → (w.alloc (.mapIter (some b) clk #[] clk)).heap[c]? = w.heap[c]? := fun c hc => ((Below.refl w.heap.size w).alloc (Nat.le_refl _) _).block c hc
    refine ⟨fun c hc => ?_, ⟨es, clk, #[], (hold b hlt).trans h1, hp, hb, hnd, heap_alloc_new _ _, ?_, fun k v e => by cases e⟩, fun w' _ hk' => ?_⟩
    · rcases hc with rfl | rfl
      · exact ⟨(hA.1 _ rfl).1, by rw [World.size_alloc]; omega⟩
      · exact ⟨.inl hs.near.size, by rw [World.size_alloc]; omega⟩
    · rw [show leftOf es #[] = es from by unfold leftOf; exact Array.filter_eq_self.2 (fun x _ => by simp)]
      exact hp
    · exact ⟨es, clk, #[], (hk' b (.inl rfl)).trans ((hold b hlt).trans h1), hp, hb, hnd, (hk' _ (.inr rfl)).trans (heap_alloc_new _ _), by
        rw [show leftOf es #[] = es from by unfold leftOf; exact Array.filter_eq_self.2 (fun x _ => by simp)]
        exact hp, fun k v e => by cases e⟩
  · rcases hc with rfl | rfl
    · exact .inl rfl
    · exact .inr (Nat.le_refl _)
theorem left_push {es : Array MapEntry} {seen : Array Nat} {e : MapEntry} (hnd : (es.toList.map (·.born)).Nodup) (he : e ∈ (leftOf es seen).toList) :
    ∃ L1 L2, (leftOf es seen).toList = L1 ++ e :: L2 ∧ (leftOf es (seen.push e.born)).toList = L1 ++ L2 := by
  obtain ⟨L1, L2, hL⟩ := List.append_of_mem he
  refine ⟨L1, L2, hL, ?_⟩
  have e1 : (leftOf es (seen.push e.born)).toList = (leftOf es seen).toList.filter (fun x => x.born != e.born) := by
    unfold leftOf
    simp only [Array.toList_filter, List.filter_filter]
    congr 1
    funext x
    simp only [Array.contains_push]
    cases h1 : (x.born == e.born) <;> simp_all [bne]
  have hsub : ((leftOf es seen).toList.map (·.born)).Nodup := by
    refine List.Nodup.sublist ?_ hnd
    unfold leftOf
    rw [Array.toList_filter]
    exact (List.filter_sublist).map _
  rw [e1, hL]
  rw [hL] at hsub
  simp only [List.map_append, List.map_cons] at hsub
  have h3 := List.nodup_append.1 hsub
  obtain ⟨h4, h5⟩ := List.nodup_cons.1 h3.2.1
  rw [List.filter_append, List.filter_cons]
  simp only [bne_self_eq_false, Bool.false_eq_true, if_false]
  congr 1
  · refine List.filter_eq_self.2 fun x hx => ?_
    have := h3.2.2 _ (List.mem_map.2 ⟨x, hx, rfl⟩) e.born List.mem_cons_self
    simpa using this
  · refine List.filter_eq_self.2 fun x hx => ?_
    have : x.born ≠ e.born := fun hh => h4 (hh ▸ List.mem_map.2 ⟨x, hx, rfl⟩)
    simpa using this
theorem ipairs_split {ik : IntKind} : ∀ {left : List (Int × Value)} {L1 L2 : List MapEntry} {e : MapEntry}, pairs (L1 ++ e :: L2) = ipairs ik left → ∃ l1 k l2, left = l1 ++ (k, e.val) :: l2 ∧ e.key = .int ik k ∧ pairs (L1 ++ L2) = ipairs ik (l1 ++ l2)
  | [], L1, L2, e, h => by simp [pairs, ipairs] at h
  | (k, v) :: left, [], L2, e, h => by
    simp only [pairs, ipairs, List.nil_append, List.map_cons, List.cons.injEq, Prod.mk.injEq] at h
    obtain ⟨⟨h1, h2⟩, h3⟩ := h
    subst h2
    exact ⟨[], k, left, rfl, h1, h3⟩
  | (k, v) :: left, x :: L1, L2, e, h => by
    simp only [pairs, ipairs, List.cons_append, List.map_cons, List.cons.injEq] at h
    obtain ⟨h1, h3⟩ := h
    obtain ⟨l1, k', l2, rfl, h4, h5⟩ := ipairs_split (left := left) (L1 := L1) h3
    refine ⟨(k, v) :: l1, k', l2, rfl, h4, ?_⟩
    simp only [pairs, ipairs, List.cons_append, List.map_cons, List.cons.injEq] at h5 ⊢
    exact ⟨h1, h5⟩
theorem j_next {d b r : Nat} {x : Operand} {ik : IntKind} {M left : List (Int × Value)} {cur : Option (Int × Value)} {L' : List (Int × Value) → Int → Value → List HA} (ho : o.op = .next x false) (hg : o.guard = none) (hd : o.dst = some d) (hn : Nat.blt d C.n = true)
    (hx : ev F x = some (.pointer (some ⟨r, 0, none⟩))) (hin : InL L (haIt b r ik M left cur)) (hup : ∀ l k v, Upd L (haIt b r ik M left cur) (haIt b r ik M l (some (k, v))) (L' l k v))
    (h0 : left = [] → J C ops false rest K ((d, .tuple #[.bool false]) :: F) L) (h1 : ∀ l1 k v l2, left = l1 ++ (k, v) :: l2 → J C ops false rest K ((d, .tuple #[.bool true, .int ik k, v]) :: F) (L' (l1 ++ l2) k v)) : J C ops false (o :: rest) K F L := by
  intro a w hf hs
  have hA := hs.at hin
  obtain ⟨es, clk, seen, hb, hp, hborn, hnd, hr, hleft, hcur⟩ := hA.2.1
  have hne : b ≠ r := by
    intro e; subst e; rw [hb] at hr; cases hr
  rcases run_next_at (P := C.P) w o.type r b clk clk seen es clk hr hb hborn (Nat.le_refl _) with ⟨hz, hrun⟩ | ⟨e, he, w1, hw1, hrun⟩
  · have hl0 : left = [] := by
      have : (leftOf es seen).toList = [] := by
        have : (leftOf es seen) = #[] := Array.eq_empty_of_size_eq_zero hz
        rw [this]
      rw [this] at hleft
      simp only [pairs, ipairs, List.map_nil] at hleft
      exact List.map_eq_nil_iff.1 hleft.symm
    have hrun' : (execOp a.eval o).run C.P w = .ok (.value (.tuple #[.bool false])) w := by
      simp [execOp, ho, hf.ev hx, hrun]
    refine wpListIn_run (by simp [Region.wanted, hg]) (wpIn_value hrun' ?_)
    rw [hd]
    exact h0 hl0 _ _ (hf.put _ hn) hs
  · obtain ⟨L1, L2, hL, hL'⟩ := left_push hnd he
    rw [hL] at hleft
    obtain ⟨l1, k, l2, rfl, hkey, hl'⟩ := ipairs_split hleft
    have hees : e ∈ es.toList := by
      unfold leftOf at he
      rw [Array.toList_filter] at he
      exact (List.mem_filter.1 he).1
    have hrun' : (execOp a.eval o).run C.P w = .ok (.value (.tuple #[.bool true, .int ik k, e.val])) (setBlock w1 r (.mapIter (some b) clk (seen.push e.born) clk)) := by
      rw [hkey] at hrun
      simp [execOp, ho, hf.ev hx, hrun]
    refine wpListIn_run (by simp [Region.wanted, hg]) (wpIn_value hrun' ?_)
    rw [hd]
    have hlt := hA.1 r (.inr rfl)
    have hltb := hA.1 b (.inl rfl)
    have hw1h : w1.heap = w.heap := by rcases hw1 with rfl | rfl <;> rfl
    have hnew : ∀ c, (setBlock w1 r (.mapIter (some b) clk (seen.push e.born) clk)).heap[c]? = if c = r then some (.mapIter (some b) clk (seen.push e.born) clk) else w.heap[c]? := by
      intro c
      simp only [setBlock, hw1h, Array.getElem?_setIfInBounds]
      by_cases hc : r = c
      · subst hc; simp [hlt.2]
      · rw [if_neg hc, if_neg (fun e => hc e.symm)]
    refine h1 l1 k e.val l2 rfl _ _ (hf.put _ hn) (hs.upd (hup _ _ _) ⟨?_, ?_, ?_, ?_, fun k hk => by omega⟩ (fun c hc hnot => ?_) ?_ (fun c hc => .inl hc))
    · rcases hw1 with rfl | rfl <;> rfl
    · rcases hw1 with rfl | rfl <;> rfl
    · rcases hw1 with rfl | rfl <;> rfl
    · simp [setBlock, hw1h]
    · rw [hnew, if_neg (fun e => hnot (.inr e))]
    · have hp2 : ∀ w' : World, (∀ c, (c = b ∨ c = r) → w'.heap[c]? = (setBlock w1 r (.mapIter (some b) clk (seen.push e.born) clk)).heap[c]?) → ∃ es clk seen, w'.heap[b]? = some (.map es clk) ∧ pairs es.toList = ipairs ik M ∧ (∀ e ∈ es.toList, e.born < clk) ∧ (es.toList.map (·.born)).Nodup ∧
          w'.heap[r]? = some (.mapIter (some b) clk seen clk) ∧ pairs (leftOf es seen).toList = ipairs ik (l1 ++ l2) ∧ (∀ k' v', some (k, e.val) = some (k', v') → ∃ e ∈ es.toList, ∃ s0, seen = Array.push s0 e.born ∧ e.key = .int ik k' ∧ e.val = v') := by
        intro w' hk'
        refine ⟨es, clk, seen.push e.born, ?_, hp, hborn, hnd, ?_, by rw [hL']; exact hl', ?_⟩
        · rw [hk' b (.inl rfl), hnew, if_neg hne]; exact hb
        · rw [hk' r (.inr rfl), hnew, if_pos rfl]
        · intro k' v' hh
          simp only [Option.some.injEq, Prod.mk.injEq] at hh
          obtain ⟨rfl, rfl⟩ := hh
          exact ⟨e, hees, seen, rfl, hkey, rfl⟩
      refine ⟨fun c hc => ?_, hp2 _ (fun c _ => rfl), fun w' _ hk' => hp2 w' hk'⟩
      rcases hc with rfl | rfl
      · exact ⟨hltb.1, by simp [setBlock, hw1h]; exact hltb.2⟩
      · exact ⟨hlt.1, by simp [setBlock, hw1h]; exact hlt.2⟩
theorem q_entry {b r : Nat} {x : Operand} {ik : IntKind} {M left : List (Int × Value)} {k : Int} {v : Value} (ho : o.op = .entry x) (hx : ev F x = some (.pointer (some ⟨r, 0, none⟩))) (hin : InL L (haIt b r ik M left (some (k, v)))) : Qv C o F L (.tuple #[.int ik k, v]) :=
  .of_run fun a w hf hs => by
    obtain ⟨es, clk, seen, hb, hp, hborn, hnd, hr, hleft, hcur⟩ := (hs.at hin).2.1
    obtain ⟨e, he, s0, rfl, hkey, hval⟩ := hcur k v rfl
    have := run_entry_at (P := C.P) w r b clk s0 es clk e hr hb he hnd
    rw [hkey, hval] at this
    simp [execOp, ho, hf.ev hx, this]
end
end Eng
end Go.Proofs.Ytbejfbekamikpaa

/-
  A new beginning in the middle of a function: what the call has made so far is taken as given memory, which is only read from here on.
-/
namespace Go.Proofs.Ytbejfbekamikpaa
namespace Eng
open Go.RowKit
set_option linter.unusedVariables false
def Cx.now (C : Cx) (w1 : World) : Cx := ⟨C.P, C.tab, C.ok, C.fns, C.fok, C.fn, C.R, C.rs, C.hrs, C.Qr, w1, C.n, Cold, C.rd, C.ds⟩
theorem kpost_now (C : Cx) (w1 : World) : ∀ K, kpost (C.now w1) K = kpost C K
  | [] => rfl
  | .seq c :: K => by simp only [kpost, kpost_now C w1 K]; rfl
  | .blk id :: K => by simp only [kpost, kpost_now C w1 K]
  | .loop J :: K => by simp only [kpost, kpost_now C w1 K]
  | .fin J :: K => rfl
section
variable {C : Cx} {F : Fr} {L : List HA} {K : List KI}
theorem sc_now {c : Code} (h : ∀ w1, St C.w0 C.hot L w1 → SC ⟨C.P, C.tab, C.ok, C.fns, C.fok, C.fn, C.R, C.rs, C.hrs, C.Qr, w1, C.n, Cold, C.rd, C.ds⟩ c K F []) : SC C c K F L := fun a w hf hs => by
  have := h w hs a w hf (St.start w Cold)
  have e : kpost (C.now w) K = kpost C K := kpost_now C w K
  unfold Cx.now at e
  rwa [e] at this
end
section
variable {C : Cx} {F : Fr} {L : List HA} {o : Oper}
theorem q_load_extb {t : Nat} {x : Operand} {ti : TI} {b p : Nat} {cs : List Value} {v : Value} (ho : o.op = .load t x) (hx : ev F x = some (.pointer (some ⟨b, p, none⟩))) (ht : tget C.tab t = some ti) (hk : ti.kind.agg = false)
    (hE : ExtC C ⟨b, 0, none⟩ cs) (hv : nth cs p = some v) : Qv C o F L v :=
  .of_run fun a w hf hs => by
    have h1 := hE.now hs p v hv
    rw [add_own, Nat.zero_add] at h1
    have := run_loadOne (C.ok.get ht) hk h1
    simp [execOp, ho, hf.ev hx, Instr.loadAt, Instr.sureAddr, this]
theorem q_loadA_extb {t : Nat} {x : Operand} {ti : TI} {b p : Nat} {cs : List Value} (ho : o.op = .load t x) (hx : ev F x = some (.pointer (some ⟨b, p, none⟩))) (ht : tget C.tab t = some ti) (hk : ti.kind.agg = true)
    (hE : ExtC C ⟨b, 0, none⟩ cs) (hl : ti.size = len (sub cs p ti.size)) : Qv C o F L (.agg (sub cs p ti.size).toArray) :=
  .of_run fun a w hf hs => by
    have := run_loadAgg (C.ok.get ht) hk (ad := ⟨b, p, none⟩) (w := w) hl (fun j v hv => by
      have h1 := hE.now hs (p + j) v (nth_sub _ _ _ _ _ hv)
      rw [add_own, Nat.zero_add] at h1
      rw [add_own]
      exact h1)
    simp [execOp, ho, hf.ev hx, Instr.loadAt, Instr.sureAddr, this]
end
theorem below_then {w0 w1 w2 : World} {L : List HA} (h : Below w0.heap.size w0 w1) (hS : St w1 Cold L w2) : Below w0.heap.size w0 w2 := h.trans (hS.below.mono h.size)
end Eng
end Go.Proofs.Ytbejfbekamikpaa

/-
  A walk stops at a region: to leave what is no longer needed.
-/
namespace Go.Proofs.Ytbejfbekamikpaa
namespace Eng
open Go.RowKit
set_option linter.unusedVariables false
structure SCstop (C : Cx) (c : Code) (K : List KI) (F : Fr) (L : List HA) : Prop where
  h : SC C c K F L
section
variable {C : Cx} {F : Fr} {L : List HA} {K : List KI}
theorem sc_stop (k : Nat) {ops : Array Oper} {d : Bool} (h : SCstop C (.region k ops d) K F L) : SC C (.region k ops d) K F L := h.h
theorem stop_at {c : Code} (F' : Fr) (L' : List HA) (h : SC C c K F' L') (hF : FSub F' F) (hL : LSub L' L) : SCstop C c K F L := ⟨sc_sub h hF hL⟩
end
end Eng
end Go.Proofs.Ytbejfbekamikpaa

/-
  Arguments with slices in slices: what they read as, and how long each slice is.
-/
namespace Go.Proofs.Ytbejfbekamikpaa
namespace Eng
open Go.RowKit Go.ChangeShapes Go.WideShapes Go.Deep
set_option linter.unusedVariables false
section
variable {H : Type} {enc : TypeId × Value → H} {P : Program} {w : World} {base : Nat} {spare : Nat → Bool} {held : Bool}
/-- All slices of a reading are within the form's reach. -/
def BndW (P : Program) (t : TypeId) (d : DataW H) : Prop := ∀ x ∈ d.weights P t, x ≤ reachBytes
theorem bnd_arg {ts : List TypeId} {ds : List (DataW H)} (h : (DataW.weightsEach P ts ds).all (· ≤ reachBytes) = true) {j : Nat} {t : TypeId} {d : DataW H} (ht : ts[j]? = some t) (hd : ds[j]? = some d) : BndW P t d := fun x hx => by
  have := List.all_eq_true.1 h _ (DataW.weights_mem_each ht hd x hx)
  simpa using this
theorem weights_all {e : TypeId} : ∀ {l : List (DataW H)} {j : Nat} {d : DataW H}, l[j]? = some d → ∀ n ∈ d.weights P e, n ∈ DataW.weightsAll P e l
  | d0 :: l, 0, d, hd, n, hn => by
    simp only [List.getElem?_cons_zero, Option.some.injEq] at hd
    subst hd
    simp only [DataW.weightsAll, List.mem_append]
    exact Or.inl hn
  | d0 :: l, j + 1, d, hd, n, hn => by
    simp only [List.getElem?_cons_succ] at hd
    simp only [DataW.weightsAll, List.mem_append]
    exact Or.inr (weights_all hd n hn)
  | [], _, _, hd, _, _ => by simp at hd
theorem bnd_slice {t e : TypeId} {es sp : List (DataW H)} (hu : P.underlying t = some (.slice e)) (h : BndW P t (.slice es sp)) : es.length * P.bytesOf e ≤ reachBytes ∧ ∀ (i : Nat) (d : DataW H), es[i]? = some d → BndW P e d := by
  refine ⟨?_, fun i d hd x hx => ?_⟩
  · have h1 := h ((es.length + sp.length) * P.bytesOf e) (by simp [DataW.weights, hu])
    exact Nat.le_trans (Nat.mul_le_mul_right _ (Nat.le_add_right _ _)) h1
  · refine h x ?_
    simp only [DataW.weights, hu, List.mem_cons, List.mem_append]
    exact .inr (.inl (weights_all hd x hx))
theorem bnd_struct {t : TypeId} {fs : Array Field} {parts : List (DataW H)} (hu : P.underlying t = some (.struct fs)) (h : BndW P t (.agg parts)) {i : Nat} {f : Field} {d : DataW H} (hf : fs[i]? = some f) (hd : parts[i]? = some d) : BndW P f.type d := fun x hx => by
  refine h x ?_
  simp only [DataW.weights, hu]
  exact DataW.weights_mem_each (j := i) (t := f.type) (by simp [hf]) hd x hx
theorem rs_of_trodD {α : Type} {t e : TypeId} {sz : Nat} (f : α → List Value) (ok : α → Prop) (ht : P.underlying t = some (.slice e)) (hC : P.cellsOf e = sz) (hsz : 0 < sz) (dec : ∀ n cs x, DataW.trod enc P w base spare held n e cs = some x → BndW P e x.1 → ∃ y, cs = f y ∧ ok y)
    {n : Nat} {cs : List Value} {x : DataW H × List MemPlace} (h : DataW.trod enc P w base spare held n t cs = some x) (hb : BndW P t x.1) :
    ∃ (A : Option Addr) (c : Nat) (l : List α), cs = [.slice A l.length c] ∧ Sl A l.length c ∧ RS w sz f A l ∧ (∀ y ∈ l, ok y) ∧ l.length * P.bytesOf e ≤ reachBytes := by
  rcases open_slice ht h with ⟨rfl, rfl⟩ | ⟨a, len, cap, m, k, D, Pl, rfl, _, hlc, hcm, hm, rfl, hat⟩
  · exact ⟨none, 0, [], rfl, ⟨fun _ => ⟨rfl, rfl⟩, Nat.le_refl _, by simp⟩, RS.nil, fun y hy => (by cases hy), by simp⟩
  · obtain ⟨hb1, hb2⟩ := bnd_slice ht hb
    have hlm : len ≤ m := by rw [hm]; split <;> omega
    have hch : ∀ i : Fin len, ∃ y : α, w.cells? base (a.add (i.1 * sz)) sz = some (f y) ∧ ok y := fun i => by
      obtain ⟨cs', h1, h2⟩ := hat i.1 (by have := i.2; omega)
      obtain ⟨y, rfl, hy⟩ := dec _ _ _ h2 (hb2 i.1 _ (by have := i.2; simp [this]))
      rw [hC] at h1
      exact ⟨y, h1, hy⟩
    refine ⟨some a, cap, List.ofFn fun i => (hch i).choose, by simp, ⟨fun h => (by cases h), (by simp only [List.length_ofFn]; exact hlc), (by unfold maxLen at hcm; omega)⟩, fun i y hy => ?_, fun y hy => ?_, by simpa using hb1⟩
    · have hi : i < len := by have := (List.getElem?_eq_some_iff.1 hy).1; simpa using this
      have e1 : y = (hch ⟨i, hi⟩).choose := by
        rw [List.getElem?_eq_getElem (by simpa using hi)] at hy
        simpa using hy.symm
      subst e1
      exact ⟨a, rfl, ext_of_cells (hch ⟨i, hi⟩).choose_spec.1 hsz⟩
    · obtain ⟨i, rfl⟩ := (List.mem_ofFn).1 hy
      exact (hch i).choose_spec.2
/-- A struct whose fields are of one cell each: its cells, one by one. -/
theorem one_struct {e : TypeId} {fs : Array Field} (he : P.underlying e = some (.struct fs)) (hone : oneCellFields P fs = true) (hC : P.cellsOf e = fs.size) {n : Nat} {cs : List Value} {x : DataW H × List MemPlace}
    (h : DataW.trod enc P w base spare held n e cs = some x) (hb : BndW P e x.1) : cs.length = fs.size ∧ ∃ m, ∀ (i : Nat) (f : Field) (v : Value), fs[i]? = some f → cs[i]? = some v → ∃ y, DataW.trod enc P w base spare held m f.type [v] = some y ∧ BndW P f.type y.1 := by
  obtain ⟨xs, m, _, rfl, hl, hxl, hat⟩ := DataW.trod_struct he h
  refine ⟨by rw [hl, hC], m, fun i f v hf hv => ?_⟩
  obtain ⟨ho, h1⟩ := hone_of hone i f hf
  have h2 := hat i f hf
  rw [ho, h1] at h2
  have hil := (List.getElem?_eq_some_iff.1 hv).1
  have hd : (cs.drop i).take 1 = [v] := by
    rw [List.drop_eq_getElem_cons hil]
    simp only [List.take_succ_cons, List.take_zero]
    rw [List.getElem?_eq_getElem hil] at hv
    simpa using hv
  rw [hd] at h2
  have hx : i < xs.length := by rw [hxl]; exact (Array.getElem?_eq_some_iff.1 hf).1
  refine ⟨_, h2.trans (List.getElem?_eq_getElem hx), ?_⟩
  exact bnd_struct he hb hf (by simp [List.getElem?_eq_getElem hx])
end
end Eng
end Go.Proofs.Ytbejfbekamikpaa
