/-
  Rows as long as a machine's memory: make and append, bounded by bytes alone.
-/
import Derived.Test.YtmlgheoliaplgaaEngApp
namespace Go.Proofs.Ytmlgheoliaplgaa
namespace Eng
open Go.RowKit
set_option linter.unusedVariables false
section
variable {C : Cx} {F : Fr} {L : List HA} {o : Oper} {K : List KI} {ops : Array Oper} {rest : List Oper}
theorem le_bytes {a b : Nat} (h : a * b ≤ 140737488355328) (hb : Nat.beq b 0 = false) : a ≤ 140737488355328 := Nat.le_trans (Nat.le_mul_of_pos_right _ (Nat.pos_of_ne_zero (Nat.ne_of_beq_eq_false hb))) h
theorem le_bytesI {a : Int} {b : Nat} (h0 : 0 ≤ a) (h : a * (b : Int) ≤ 140737488355328) (hb : Nat.beq b 0 = false) : a ≤ 140737488355328 := by
  have h1 := Nat.pos_of_ne_zero (Nat.ne_of_beq_eq_false hb)
  have : a * 1 ≤ a * (b : Int) := Int.mul_le_mul_of_nonneg_left (by omega) h0
  omega
theorem j_make0B {d t e sz by_ : Nat} {ti te : TI} {x y : Operand} {kl kc : IntKind} {k : Int} (ho : o.op = .makeSlice t x y) (hg : o.guard = none) (hd : o.dst = some d) (hn : Nat.blt d C.n = true) (ht : tget C.tab t = some ti) (hk : ti.kind = .slice e sz by_)
    (hte : tget C.tab e = some te) (hx : ev F x = some (.int kl 0)) (hy : ev F y = some (.int kc k)) (hpb : Nat.beq by_ 0 = false) (hb : 0 ≤ k ∧ k * (by_ : Int) ≤ 140737488355328)
    (h : ∀ b, J C ops false rest K ((d, .slice (some ⟨b, 0, none⟩) 0 k.toNat) :: F) (.own (.slice (some ⟨b, 0, none⟩) 0 k.toNat) e sz 0 [] :: L)) : J C ops false (o :: rest) K F L := by
  obtain ⟨hu, ie, hie, hsz, hby⟩ := tk_slice (C.ok.get ht) hk
  obtain ⟨i, z, hi, hz, hzc, _, _⟩ := zero_cells (C.ok.get hte)
  have e1 : ie = i := by rw [hie] at hi; injection hi
  subst e1
  have hk1 : k ≤ 140737488355328 := le_bytesI hb.1 hb.2 hpb
  have hk2 : (by_ : Int) * k ≤ 140737488355328 := by
    rw [Int.mul_comm]
    exact hb.2
  refine j_step_new (ob := .cells (madeCells z.cells (k.toNat * sz)) e) (x := fun b => .own (.slice (some ⟨b, 0, none⟩) 0 k.toNat) e sz 0 []) hg hd hn (fun b => .slice (some ⟨b, 0, none⟩) 0 k.toNat) (fun a w hf hs => ?_) (fun b c h => own_foot h) (fun w hw => ?_) h
  · have := run_make (P := C.P) w t e ie z hu hie hz kl kc 0 k (Int.le_refl _) hb.1 (by rw [hby]; omega) (by omega)
    rw [hsz] at this
    simp [execOp, ho, hf.ev hx, hf.ev hy, this]
  · refine ⟨fun q hq => ?_, World.ownsRow_made w _ _ (Nat.zero_le _) (by unfold maxLen; omega) (size_madeCells _ _)⟩
    have := own_foot (e := e) (sz := sz) (k := 0) (xs := []) hq
    subst this
    exact .inl hw
theorem j_appendSB {d t e sz by_ : Nat} {ti te : TI} {s x : Operand} {v : Value} {n k c : Nat} {A : Option Addr} {xs cs : List Value} (ho : o.op = .call { callee := .builtin .append, args := #[s, x], argTypes := #[t, t] })
    (hg : o.guard = none) (hd : o.dst = some d) (hn : Nat.blt d C.n = true) (ht : tget C.tab t = some ti) (hk : ti.kind = .slice e sz by_) (hte : tget C.tab e = some te) (hl : len te.zero = sz) (hpos : Nat.beq sz 0 = false)
    (hs : ev F s = some v) (hx : ev F x = some (.slice A k c))
    (hread : ∀ w, St C.w0 C.hot L w → (A = none → k = 0 ∧ c = 0) ∧ cs.length = k * sz ∧ (∀ ad, A = some ad → ∀ j u, cs[j]? = some u → w.cell? (ad.add j) = some u) ∧ ∀ u ∈ cs, u.oneCell' = true)
    (hown : InL L (.own v e sz n xs)) (hpb : Nat.beq by_ 0 = false) (hmax : (n + k) * by_ ≤ 140737488355328)
    {L' : Value → List HA} (hup : ∀ v', Upd L (.own v e sz n xs) (.own v' e sz (n + k) (xs ++ cs)) (L' v'))
    (h : ∀ v', J C ops false rest K ((d, v') :: F) (L' v')) : J C ops false (o :: rest) K F L := by
  intro a w hf hS
  obtain ⟨hu, ie, hie, hsz, hby⟩ := tk_slice (C.ok.get ht) hk
  obtain ⟨i, z, hi, hz, hzc, _, _⟩ := zero_cells (C.ok.get hte)
  have e1 : ie = i := by rw [hie] at hi; injection hi
  subst e1
  obtain ⟨hnil, hlen, hc, h1⟩ := hread w hS
  have hb2 : (n + k) ≤ 140737488355328 := le_bytes hmax hpb
  have hb3 : (n + k) * by_ ≤ 140737488355328 := hmax
  have hpos' : 0 < sz := Nat.pos_of_ne_zero (Nat.ne_of_beq_eq_false hpos)
  have hvl := hS.at hown
  have key : ∃ v' w', (Builtin.append_ #[t, t] o.type #[v, .slice A k c]).run C.P w = .ok v' w' ∧ w'.ownsRow 0 e sz v' (n + k) (xs ++ cs) ∧ w.grownBy w' v.ownBlock ∧ (v'.ownBlock = v.ownBlock ∨ v'.ownBlock = some w.heap.size) := by
    cases A with
    | none =>
      obtain ⟨rfl, rfl⟩ := hnil rfl
      have hcs : cs = [] := List.length_eq_zero_iff.1 (by rw [hlen]; simp)
      subst hcs
      have hr := run_append_owned_none (P := C.P) w 0 t o.type e ie sz hu hie v n xs hvl.2
      refine ⟨v, w, hr, by simpa using hvl.2, ⟨rfl, rfl, rfl, Nat.le_refl _, fun _ _ _ => rfl⟩, .inl rfl⟩
    | some ad =>
      obtain ⟨v', w', hr, hown', hgr, _, hat⟩ := run_append_own_at (P := C.P) w 0 t o.type e ie z sz by_ hu hie hz hsz hby (by rw [hzc, List.size_toArray, ← len_eq, hl]) hpos' v n xs hvl.2 ad k c cs hlen (hc ad rfl) h1
        (by unfold maxLen; omega) hb3 (Nat.zero_le _)
      exact ⟨v', w', hr, hown', hgr, hat⟩
  obtain ⟨v', w', hr, hown', hgr, hat⟩ := key
  have hrun : (execOp a.eval o).run C.P w = .ok (.value v') w' := by
    simp only [execOp, ho, resolve, invoke, builtin, Sem.run_bind, Sem.run_pure, Result.andThen_ok, List.map_toArray, List.map_cons, List.map_nil, hf.ev hs, hf.ev hx, hr]
  refine wpListIn_run (by simp [Region.wanted, hg]) (wpIn_value hrun ?_)
  rw [hd]
  refine h v' _ _ (hf.put _ hn) (hS.upd (hup v') ⟨hgr.os, hgr.tape, hgr.output, hgr.size, fun k hk => by omega⟩ ?_ ⟨fun q hq => ?_, hown'⟩ ?_)
  · intro q hq hne
    exact hgr.block q hq (fun e => hne e.symm)
  · rcases hat with e | e
    · exact hvl.1 q (e ▸ hq)
    · rw [e] at hq
      injection hq with hq
      have := hS.near.size
      exact .inl (by omega)
  · intro q hq
    rcases hat with e | e
    · exact .inl (e.symm.trans hq)
    · simp only [HA.foot, e, Option.some.injEq] at hq
      exact .inr (by omega)
theorem j_appendB {d t e sz by_ : Nat} {ti te : TI} {s x : Operand} {v : Value} {n k c b u : Nat} {xs cs : List Value} (ho : o.op = .call { callee := .builtin .append, args := #[s, x], argTypes := #[t, t] })
    (hg : o.guard = none) (hd : o.dst = some d) (hn : Nat.blt d C.n = true) (ht : tget C.tab t = some ti) (hk : ti.kind = .slice e sz by_) (hte : tget C.tab e = some te) (hl : len te.zero = sz) (hpos : Nat.beq sz 0 = false)
    (hs : ev F s = some v) (hx : ev F x = some (.slice (some ⟨b, 0, none⟩) k c)) (hin : InL L (.cells b u cs)) (hown : InL L (.own v e sz n xs)) (hlen : Nat.beq (len cs) (k * sz) = true) (h1 : ones cs = true)
    (hpb : Nat.beq by_ 0 = false) (hmax : (n + k) * by_ ≤ 140737488355328)
    {L' : Value → List HA} (hup : ∀ v', Upd L (.own v e sz n xs) (.own v' e sz (n + k) (xs ++ cs)) (L' v'))
    (h : ∀ v', J C ops false rest K ((d, v') :: F) (L' v')) : J C ops false (o :: rest) K F L := by
  intro a w hf hS
  obtain ⟨hu, ie, hie, hsz, hby⟩ := tk_slice (C.ok.get ht) hk
  obtain ⟨i, z, hi, hz, hzc, _, _⟩ := zero_cells (C.ok.get hte)
  have e1 : ie = i := by rw [hie] at hi; injection hi
  subst e1
  have hlen' := Nat.eq_of_beq_eq_true hlen
  rw [len_eq] at hlen'
  have hc : ∀ j u, cs[j]? = some u → w.cell? ((⟨b, 0, none⟩ : Addr).add j) = some u := fun j u hj => by
    rw [add_own, cells_cell (hS.at hin), nth_eq, Nat.zero_add]; exact hj
  have hb2 : (n + k) ≤ 140737488355328 := le_bytes hmax hpb
  have hb3 : (n + k) * by_ ≤ 140737488355328 := hmax
  have hpos' : 0 < sz := Nat.pos_of_ne_zero (Nat.ne_of_beq_eq_false hpos)
  have hvl := hS.at hown
  obtain ⟨v', w', hr, hown', hgr, _, hat⟩ := run_append_own_at (P := C.P) w 0 t o.type e ie z sz by_ hu hie hz hsz hby (by rw [hzc, List.size_toArray, ← len_eq, hl]) hpos' v n xs hvl.2 ⟨b, 0, none⟩ k c cs hlen' hc (ones_all h1)
    (by unfold maxLen; omega) hb3 (Nat.zero_le _)
  have hrun : (execOp a.eval o).run C.P w = .ok (.value v') w' := by
    simp only [execOp, ho, resolve, invoke, builtin, Sem.run_bind, Sem.run_pure, Result.andThen_ok, List.map_toArray, List.map_cons, List.map_nil, hf.ev hs, hf.ev hx, hr]
  refine wpListIn_run (by simp [Region.wanted, hg]) (wpIn_value hrun ?_)
  rw [hd]
  refine h v' _ _ (hf.put _ hn) (hS.upd (hup v') ⟨hgr.os, hgr.tape, hgr.output, hgr.size, fun k hk => by omega⟩ ?_ ⟨fun q hq => ?_, hown'⟩ ?_)
  · intro q hq hne
    exact hgr.block q hq (fun e => hne e.symm)
  · rcases hat with e | e
    · exact hvl.1 q (e ▸ hq)
    · rw [e] at hq
      injection hq with hq
      have := hS.near.size
      exact .inl (by omega)
  · intro q hq
    rcases hat with e | e
    · exact .inl (e.symm.trans hq)
    · simp only [HA.foot, e, Option.some.injEq] at hq
      exact .inr (by omega)
end
end Eng
end Go.Proofs.Ytmlgheoliaplgaa
