/-
  Maps keyed by integers: a list of pairs, in the order in which they came.
-/
import Derived.Test.YtmcmmmaffdenjaaEngFast
namespace Go.Proofs.Ytmcmmmaffdenjaa
namespace Eng
open Go.RowKit
set_option linter.unusedVariables false
def mlk : List (Int × Value) → Int → Option Value
  | [], _ => none
  | (k', v) :: M, k => if k' = k then some v else mlk M k
def mset : List (Int × Value) → Int → Value → List (Int × Value)
  | [], k, v => [(k, v)]
  | (k', v') :: M, k, v => if k' = k then (k', v) :: M else (k', v') :: mset M k v
def pairs (l : List MapEntry) : List (Value × Value) := l.map fun e => (e.key, e.val)
def ipairs (ik : IntKind) (M : List (Int × Value)) : List (Value × Value) := M.map fun p => (Value.int ik p.1, p.2)
def imapOk (ik : IntKind) (M : List (Int × Value)) (o : Obj) : Prop :=
  ∃ es clk, o = .map es clk ∧ pairs es.toList = ipairs ik M ∧ (∀ e ∈ es.toList, e.born < clk) ∧ (es.toList.map (·.born)).Nodup
def haMap (b : Nat) (ik : IntKind) (M : List (Int × Value)) : HA := .abs (· = b) (fun w => ∃ o, w.heap[b]? = some o ∧ imapOk ik M o)
theorem haMap_holds {B : Nat} {hot : Nat → Prop} {w : World} {b : Nat} {ik : IntKind} {M : List (Int × Value)} {o : Obj} (hb : B ≤ b ∨ hot b) (h : w.heap[b]? = some o) (ho : imapOk ik M o) : (haMap b ik M).holds B hot w :=
  ⟨fun c hc => by subst hc; exact ⟨hb, (Array.getElem?_eq_some_iff.1 h).1⟩, ⟨o, h, ho⟩, fun w' _ hk => ⟨o, (hk b rfl).trans h, ho⟩⟩
theorem find_spec (ik : IntKind) (k : Int) : ∀ (l : List MapEntry) (M : List (Int × Value)) (n : Nat), pairs l = ipairs ik M →
    (mlk M k = none → Instr.findNow (.int ik) (.int ik k) l n = some none ∧ ∀ v, ipairs ik (mset M k v) = ipairs ik M ++ [(.int ik k, v)]) ∧
    (∀ v, mlk M k = some v → ∃ i, Instr.findNow (.int ik) (.int ik k) l n = some (some (n + i, v)) ∧ i < l.length ∧ (∃ e, l[i]? = some e ∧ e.key = .int ik k) ∧ ∀ v', pairs (l.modify i fun e => { e with key := .int ik k, val := v' }) = ipairs ik (mset M k v'))
  | [], M, n, h => by
    cases M with
    | nil => exact ⟨fun _ => ⟨rfl, fun v => rfl⟩, fun v hv => by simp [mlk] at hv⟩
    | cons p M => simp [pairs, ipairs] at h
  | e :: l, M, n, h => by
    cases M with
    | nil => simp [pairs, ipairs] at h
    | cons p M =>
      obtain ⟨k', u⟩ := p
      simp only [pairs, ipairs, List.map_cons, List.cons.injEq, Prod.mk.injEq] at h
      obtain ⟨⟨h1, h2⟩, h3⟩ := h
      have ih := find_spec ik k l M (n + 1) h3
      by_cases hk : k' = k
      · subst hk
        refine ⟨fun hn => by simp [mlk] at hn, fun v hv => ?_⟩
        simp only [mlk, if_true, Option.some.injEq] at hv
        refine ⟨0, ?_, by simp, ⟨e, rfl, h1⟩, fun v' => ?_⟩
        · simp [Instr.findNow, h1, Instr.sameNow, h2, hv]
        · simp only [mset, if_true]
          simp only [pairs, ipairs] at h3 ⊢
          simp [List.modify, List.modifyTailIdx, List.modifyTailIdx.go, h3]
      · have hne : (k == k') = false := by simp; exact fun h => hk h.symm
        have hnow : Instr.findNow (.int ik) (.int ik k) (e :: l) n = Instr.findNow (.int ik) (.int ik k) l (n + 1) := by
          simp [Instr.findNow, h1, Instr.sameNow, hne]
        refine ⟨fun hn => ?_, fun v hv => ?_⟩
        · simp only [mlk, if_neg hk] at hn
          obtain ⟨a1, a2⟩ := ih.1 hn
          refine ⟨hnow.trans a1, fun v => ?_⟩
          have := a2 v
          simp only [ipairs] at this ⊢
          simp [mset, if_neg hk, this]
        · simp only [mlk, if_neg hk] at hv
          obtain ⟨i, a1, a2, a3, a4⟩ := ih.2 v hv
          refine ⟨i + 1, ?_, by simp; omega, ?_, fun v' => ?_⟩
          · rw [hnow, a1]; congr 3; omega
          · simpa using a3
          · have := a4 v'
            simp only [pairs, ipairs] at this ⊢
            simp [mset, if_neg hk, this, h1, h2]
section
variable {C : Cx} {F : Fr} {L : List HA} {o : Oper} {K : List KI} {ops : Array Oper} {m : Bool} {rest : List Oper}
theorem tk_map {P : Program} {t : TypeId} {ti : TI} (h : TIok P t ti) {k e : Nat} (hk : ti.kind = .map k e) : P.underlying t = some (.map k e) := by
  have := h.kind
  rw [hk] at this
  simp only [TK.check] at this
  split at this
  · rename_i k' e' hu
    simp only [decide_eq_true_eq] at this
    obtain ⟨rfl, rfl⟩ := this
    exact hu
  · cases this
theorem run_checkKey_ {P : Program} {t : TypeId} {ik : IntKind} (h : P.underlying t = some (.int ik)) (b : Bool) (k : Int) (w : World) (n : Nat) : (Instr.checkKey b (n + 1) t (.int ik k)).run P w = .ok () w := by
  simp [Instr.checkKey, run_underlying h]
theorem run_checkKey {P : Program} {t : TypeId} {ik : IntKind} (h : P.underlying t = some (.int ik)) (b : Bool) (k : Int) (w : World) : (Instr.checkKey b 10000 t (.int ik k)).run P w = .ok () w := run_checkKey_ h b k w 9999
theorem sameBits_ (n : Nat) (ik : IntKind) (k : Int) : Instr.sameBits n (.int ik k) (.int ik k) = true := by cases n <;> simp [Instr.sameBits]
theorem run_zeroValue {P : Program} {t : TypeId} {ti : TI} (h : TIok P t ti) (w : World) : (zeroValue t).run P w = .ok ti.zv w := by
  obtain ⟨i, z, hi, hz, _, _, hzv⟩ := zero_cells h
  subst hzv
  simp [zeroValue, typeInfo, hi, hz]
theorem run_lookup {P : Program} {t kt et : TypeId} {ti tk te : TI} {ik : IntKind} (ht : TIok P t ti) (hk : ti.kind = .map kt et) (htk : TIok P kt tk) (hkk : tk.kind = .int ik) (hte : TIok P et te) {w : World} {b : Nat} {M : List (Int × Value)} {ob : Obj}
    (hb : w.heap[b]? = some ob) (hM : imapOk ik M ob) (k : Int) (ok : Bool) :
    (Instr.lookup t (.map (some b)) (.int ik k) ok).run P w = .ok (if ok then .tuple #[(mlk M k).getD te.zv, .bool (mlk M k).isSome] else (mlk M k).getD te.zv) w := by
  obtain ⟨es, clk, rfl, hp, _, _⟩ := hM
  have h1 := tk_map ht hk
  have h2 := tab_underlying htk hkk
  have hs := find_spec ik k es.toList M 0 hp
  have hget : (getObj b).run P w = .ok (.map es clk) w := by simp [getObj, Sem.run, hb]
  cases hm : mlk M k with
  | none =>
    obtain ⟨a1, _⟩ := hs.1 hm
    have hf : (Instr.findKey kt (.int ik k) es.toList).run P w = .ok none w := by simp [Instr.findKey, run_underlying h2, a1]
    simp [Instr.lookup, run_underlying h1, hget, run_checkKey h2, hf, run_zeroValue hte]
  | some v =>
    obtain ⟨i, a1, _⟩ := hs.2 v hm
    have hf : (Instr.findKey kt (.int ik k) es.toList).run P w = .ok (some (0 + i, v)) w := by simp [Instr.findKey, run_underlying h2, a1]
    simp [Instr.lookup, run_underlying h1, hget, run_checkKey h2, hf]
theorem q_lookup {t kt et : Nat} {x y : Operand} {ti tk te : TI} {ik : IntKind} {b : Nat} {M : List (Int × Value)} {k : Int} {v : Value} (ho : o.op = .lookup t x y false) (ht : tget C.tab t = some ti) (hk : ti.kind = .map kt et) (htk : tget C.tab kt = some tk)
    (hkk : tk.kind = .int ik) (hte : tget C.tab et = some te) (hx : ev F x = some (.map (some b))) (hy : ev F y = some (.int ik k)) (hin : InL L (haMap b ik M)) (hv : (mlk M k).getD te.zv = v) : Qv C o F L v :=
  .of_run fun a w hf hs => by
    obtain ⟨ob, h1, h2⟩ := (hs.at hin).2.1
    have := run_lookup (C.ok.get ht) hk (C.ok.get htk) hkk (C.ok.get hte) h1 h2 k false
    simp [execOp, ho, hf.ev hx, hf.ev hy, this, hv]
theorem q_lookup_ok {t kt et : Nat} {x y : Operand} {ti tk te : TI} {ik : IntKind} {b : Nat} {M : List (Int × Value)} {k : Int} {v : Value} {r : Bool} (ho : o.op = .lookup t x y true) (ht : tget C.tab t = some ti) (hk : ti.kind = .map kt et) (htk : tget C.tab kt = some tk)
    (hkk : tk.kind = .int ik) (hte : tget C.tab et = some te) (hx : ev F x = some (.map (some b))) (hy : ev F y = some (.int ik k)) (hin : InL L (haMap b ik M)) (hv : (mlk M k).getD te.zv = v) (hr : (mlk M k).isSome = r) : Qv C o F L (.tuple #[v, .bool r]) :=
  .of_run fun a w hf hs => by
    obtain ⟨ob, h1, h2⟩ := (hs.at hin).2.1
    have := run_lookup (C.ok.get ht) hk (C.ok.get htk) hkk (C.ok.get hte) h1 h2 k true
    simp [execOp, ho, hf.ev hx, hf.ev hy, this, hv, hr]
theorem imap_nil (ik : IntKind) : imapOk ik [] (.map #[] 0) := ⟨#[], 0, rfl, rfl, fun e he => by simp at he, by simp⟩
theorem j_makeMap {d t : Nat} (ik : IntKind) (ho : o.op = .makeMap t none) (hg : o.guard = none) (hd : o.dst = some d) (hn : Nat.blt d C.n = true)
    (h : ∀ b, J C ops false rest K ((d, .map (some b)) :: F) (haMap b ik [] :: L)) : J C ops false (o :: rest) K F L := by
  refine j_step_new (ob := .map #[] 0) (x := fun b => haMap b ik []) hg hd hn (fun b => .map (some b)) (fun a w hf hs => ?_) (fun b c h => h) (fun w hw => haMap_holds (.inl hw) (heap_alloc_new _ _) (imap_nil ik)) h
  simp [execOp, ho, Instr.makeMap]
theorem j_makeMapN {d t k e : Nat} {ti : TI} {x : Operand} {kk : IntKind} {n : Int} (ik : IntKind) (ho : o.op = .makeMap t (some x)) (ht : tget C.tab t = some ti) (hk : ti.kind = .map k e) (hx : ev F x = some (.int kk n)) (hg : o.guard = none) (hd : o.dst = some d) (hn : Nat.blt d C.n = true)
    (h : ∀ b, J C ops false rest K ((d, .map (some b)) :: F) (haMap b ik [] :: L)) : J C ops false (o :: rest) K F L := by
  refine j_step_new (ob := .map #[] 0) (x := fun b => haMap b ik []) hg hd hn (fun b => .map (some b)) (fun a w hf hs => ?_) (fun b c h => h) (fun w hw => haMap_holds (.inl hw) (heap_alloc_new _ _) (imap_nil ik)) h
  have h1 := tk_map (C.ok.get ht) hk
  simp [execOp, ho, Instr.makeMap, hf.ev hx, run_underlying h1, asInt, asIntOf]
theorem run_mapUpdate {P : Program} {t kt et : TypeId} {ti tk : TI} {ik : IntKind} (ht : TIok P t ti) (hk : ti.kind = .map kt et) (htk : TIok P kt tk) (hkk : tk.kind = .int ik) {w : World} {b : Nat} {M : List (Int × Value)} {ob : Obj}
    (hb : w.heap[b]? = some ob) (hM : imapOk ik M ob) (k : Int) (v : Value) :
    ∃ ob', (Instr.mapUpdate t (.map (some b)) (.int ik k) v).run P w = .ok () { w with heap := w.heap.setIfInBounds b ob' } ∧ imapOk ik (mset M k v) ob' := by
  obtain ⟨es, clk, rfl, hp, hborn, hnd⟩ := hM
  have h1 := tk_map ht hk
  have h2 := tab_underlying htk hkk
  have hs := find_spec ik k es.toList M 0 hp
  have hget : (getObj b).run P w = .ok (.map es clk) w := by simp [getObj, Sem.run, hb]
  have hset : ∀ o', (setObj b o').run P w = .ok () { w with heap := w.heap.setIfInBounds b o' } := fun o' => by simp [setObj, Sem.run, hb]
  cases hm : mlk M k with
  | none =>
    obtain ⟨a1, a2⟩ := hs.1 hm
    have hf : (Instr.findKey kt (.int ik k) es.toList).run P w = .ok none w := by simp [Instr.findKey, run_underlying h2, a1]
    refine ⟨.map (es.push { key := .int ik k, val := v, born := clk }) (clk + 1), ?_, _, _, rfl, ?_, ?_, ?_⟩
    · simp [Instr.mapUpdate, run_underlying h1, hget, run_checkKey h2, hf, hset]
    · rw [a2 v, ← hp]; simp [pairs]
    · intro e he
      simp only [Array.toList_push, List.mem_append, List.mem_singleton] at he
      rcases he with he | he
      · have := hborn e he; omega
      · subst he; simp
    · simp only [Array.toList_push, List.map_append, List.map_cons, List.map_nil]
      rw [List.nodup_append]
      refine ⟨hnd, by simp, ?_⟩
      intro x hx y hy
      simp only [List.mem_singleton] at hy
      subst hy
      obtain ⟨e, he, rfl⟩ := List.mem_map.1 hx
      have := hborn e he
      omega
  | some u =>
    obtain ⟨i, a1, a2, ⟨e0, a3, a3'⟩, a4⟩ := hs.2 u hm
    have hf : (Instr.findKey kt (.int ik k) es.toList).run P w = .ok (some (0 + i, u)) w := by simp [Instr.findKey, run_underlying h2, a1]
    have hgi : es[0 + i]? = some e0 := by rw [Nat.zero_add]; simpa using a3
    have hkeep : (Instr.keyThatStays (.int ik k) (.int ik k)).run P w = .ok (.int ik k) w := by
      have := sameBits_ 10000 ik k
      unfold Instr.keyThatStays
      rw [if_pos this]
      rfl
    refine ⟨.map (es.modify (0 + i) fun e => { e with key := .int ik k, val := v }) clk, ?_, _, _, rfl, ?_, ?_, ?_⟩
    · simp [Instr.mapUpdate, run_underlying h1, hget, run_checkKey h2, hf]
      rw [Nat.zero_add] at hgi
      simp [hgi, a3', hkeep, hset]
    · rw [← a4 v, Nat.zero_add]; simp [pairs]
    · intro e he
      rw [Array.toList_modify] at he
      obtain ⟨j, hj⟩ := List.mem_iff_getElem?.1 he
      rw [List.getElem?_modify] at hj
      cases hq : es.toList[j]? with
      | none => simp [hq] at hj
      | some e1 =>
        simp only [hq, Option.map_eq_map, Option.map_some, Option.some.injEq] at hj
        have h3 := hborn e1 (List.mem_of_getElem? hq)
        split at hj <;> (subst hj; exact h3)
    · have : ((es.modify (0 + i) fun e => { e with key := .int ik k, val := v }).toList.map (·.born)) = es.toList.map (·.born) := by
        apply List.ext_getElem?
        intro j
        simp only [Array.toList_modify, List.getElem?_map, List.getElem?_modify]
        cases es.toList[j]? with
        | none => simp
        | some e1 => simp only [Option.map_eq_map, Option.map_some]; split <;> rfl
      rw [this]; exact hnd
theorem j_mapUpdate {t kt et : Nat} {x y z : Operand} {ti tk : TI} {ik : IntKind} {b : Nat} {M : List (Int × Value)} {k : Int} {v : Value} {L' : List HA} (ho : o.op = .mapUpdate t x y z) (hg : o.guard = none) (hd : o.dst = none) (ht : tget C.tab t = some ti)
    (hk : ti.kind = .map kt et) (htk : tget C.tab kt = some tk) (hkk : tk.kind = .int ik) (hx : ev F x = some (.map (some b))) (hy : ev F y = some (.int ik k)) (hz : ev F z = some v) (hup : Upd L (haMap b ik M) (haMap b ik (mset M k v)) L')
    (h : J C ops false rest K F L') : J C ops false (o :: rest) K F L := by
  intro a w hf hs
  obtain ⟨N, hp1, hp2⟩ := hup.perm
  have hA := (hs.perm hp1).head
  obtain ⟨ob, h1, h2⟩ := hA.2.1
  obtain ⟨ob', hr, hM'⟩ := run_mapUpdate (C.ok.get ht) hk (C.ok.get htk) hkk h1 h2 k v
  have hrun : (execOp a.eval o).run C.P w = .ok .skip { w with heap := w.heap.setIfInBounds b ob' } := by
    simp [execOp, ho, hf.ev hx, hf.ev hy, hf.ev hz, hr]
  refine wpListIn_run (by simp [Region.wanted, hg]) (wpIn_skip_ hrun ?_)
  rw [hd]
  have hlt := (hA.1 b rfl).2
  refine h a _ (hf.put_none undef) (hs.upd hup ⟨rfl, rfl, rfl, by simp, fun k hk => by omega⟩ ?_ (haMap_holds (hA.1 b rfl).1 (by simp [hlt]) hM') (fun c hc => .inl hc))
  intro c hc hne
  simp only [Array.getElem?_setIfInBounds]
  rw [if_neg (fun e => hne e.symm)]
theorem q_len_map {x : Operand} {t kt et : TypeId} {ti : TI} {ik : IntKind} {b : Nat} {M : List (Int × Value)} (ho : o.op = .call { callee := .builtin .len, args := #[x], argTypes := #[t] }) (ht : tget C.tab t = some ti) (hk : ti.kind = .map kt et)
    (hx : ev F x = some (.map (some b))) (hin : InL L (haMap b ik M)) : Qv C o F L (.int .i64 (M.length : Int)) :=
  .of_run fun ac w hf hs => by
    have h1 := tk_map (C.ok.get ht) hk
    obtain ⟨ob, h2, es, clk, rfl, hp, _⟩ := (hs.at hin).2.1
    have hlen : es.size = M.length := by
      have := congrArg List.length hp
      simpa [pairs, ipairs] using this
    have hget : (getObj b).run C.P w = .ok (.map es clk) w := by simp [getObj, Sem.run, h2]
    simp [execOp, ho, resolve, invoke, builtin, Builtin.len_, hf.ev hx, run_underlying h1, goInt, hget, hlen]
end
end Eng
end Go.Proofs.Ytmcmmmaffdenjaa
