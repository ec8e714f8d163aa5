/-
  Empty literals of slices, make, and append of whole slices.
-/
import Derived.Test.YtmcmmmaffdenjaaEngMore
import Derived.Laws.MakeOwn
import Derived.Laws.OwnMore
namespace Go.Proofs.Ytmcmmmaffdenjaa
namespace Eng
open Go.RowKit
set_option linter.unusedVariables false
section
variable {C : Cx} {F : Fr} {L : List HA} {o : Oper} {K : List KI} {ops : Array Oper} {m : Bool} {rest : List Oper}
theorem own_foot {b : Nat} {n c : Nat} {e : TypeId} {sz k : Nat} {xs : List Value} {q : Nat} (h : (HA.own (.slice (some ⟨b, 0, none⟩) n c) e sz k xs).foot q) : q = b := by
  simp only [HA.foot, Value.ownBlock, Option.some.injEq] at h
  exact h.symm
theorem j_build0 {d t e sz by_ : Nat} {ti : TI} (ho : o.op = .buildSlice t 0 #[]) (hg : o.guard = none) (hd : o.dst = some d) (hn : Nat.blt d C.n = true) (ht : tget C.tab t = some ti) (hk : ti.kind = .slice e sz by_)
    (h : ∀ b, J C ops false rest K ((d, .slice (some ⟨b, 0, none⟩) 0 0) :: F) (.own (.slice (some ⟨b, 0, none⟩) 0 0) e sz 0 [] :: L)) : J C ops false (o :: rest) K F L := by
  obtain ⟨hu, ie, hie, hsz, _⟩ := tk_slice (C.ok.get ht) hk
  refine j_step_new (ob := .cells #[] e) (x := fun b => .own (.slice (some ⟨b, 0, none⟩) 0 0) e sz 0 []) hg hd hn (fun b => .slice (some ⟨b, 0, none⟩) 0 0) (fun a w hf hs => ?_) (fun b c h => own_foot h) (fun w hw => ?_) h
  · simp [execOp, ho, Instr.buildSlice, run_underlying hu, sizeOf, typeInfo, hie, Instr.fill, newRow, Array.range_zero']
  · refine ⟨fun q hq => ?_, by simp, .inr ⟨w.heap.size, 0, #[], rfl, Nat.zero_le _, heap_alloc_new _ _, Nat.le_refl _, by unfold maxLen; omega, by simp, by simp⟩⟩
    have := own_foot (e := e) (sz := sz) (k := 0) (xs := []) hq
    subst this
    exact .inl hw
theorem made_reps {n : Nat} {z : Value} {ti : List Value} (hz : z.cells = ti.toArray) (h : 0 < ti.length) : (madeCells z.cells (n * ti.length)).toList = reps n ti := by
  unfold madeCells
  have h1 := reps_eq n ti h
  rw [hz, h1]
theorem j_make {d t e sz by_ : Nat} {ti te : TI} {x y : Operand} {kl kc : IntKind} {k : Int} (ho : o.op = .makeSlice t x y) (hg : o.guard = none) (hd : o.dst = some d) (hn : Nat.blt d C.n = true) (ht : tget C.tab t = some ti) (hk : ti.kind = .slice e sz by_)
    (hte : tget C.tab e = some te) (hl : len te.zero = sz) (hpos : Nat.beq sz 0 = false) (hx : ev F x = some (.int kl k)) (hy : ev F y = some (.int kc k)) (hb : 0 ≤ k ∧ k * ((by_ : Int) + 1) ≤ 140737488355328)
    (h : ∀ b, J C ops false rest K ((d, .slice (some ⟨b, 0, none⟩) k.toNat k.toNat) :: F) (.own (.slice (some ⟨b, 0, none⟩) k.toNat k.toNat) e sz k.toNat (reps k.toNat te.zero) :: L)) : J C ops false (o :: rest) K F L := by
  obtain ⟨hu, ie, hie, hsz, hby⟩ := tk_slice (C.ok.get ht) hk
  obtain ⟨i, z, hi, hz, hzc, _, _⟩ := zero_cells (C.ok.get hte)
  have e1 : ie = i := by rw [hie] at hi; injection hi
  subst e1
  have hpos' : 0 < sz := Nat.pos_of_ne_zero (Nat.ne_of_beq_eq_false hpos)
  rw [len_eq] at hl
  have hk1 : k ≤ 140737488355328 := by
    have : k * 1 ≤ k * ((by_ : Int) + 1) := Int.mul_le_mul_of_nonneg_left (by omega) hb.1
    omega
  have hk2 : (by_ : Int) * k ≤ 140737488355328 := by
    have : k * (by_ : Int) ≤ k * ((by_ : Int) + 1) := Int.mul_le_mul_of_nonneg_left (by omega) hb.1
    rw [Int.mul_comm]
    omega
  have hcl : (madeCells z.cells (k.toNat * sz)).toList = reps k.toNat te.zero := by
    have := made_reps (n := k.toNat) hzc (by rw [hl]; exact hpos')
    rwa [hl] at this
  refine j_step_new (ob := .cells (madeCells z.cells (k.toNat * sz)) e) (x := fun b => .own (.slice (some ⟨b, 0, none⟩) k.toNat k.toNat) e sz k.toNat (reps k.toNat te.zero)) hg hd hn (fun b => .slice (some ⟨b, 0, none⟩) k.toNat k.toNat) (fun a w hf hs => ?_) (fun b c h => own_foot h) (fun w hw => ?_) h
  · have := run_make (P := C.P) w t e ie z hu hie hz kl kc k k hb.1 (Int.le_refl _) (by rw [hby]; omega) (by omega)
    rw [hsz] at this
    simp [execOp, ho, hf.ev hx, hf.ev hy, this]
  · refine ⟨fun q hq => ?_, ?_⟩
    · have := own_foot (e := e) (sz := sz) (k := 0) (xs := []) hq
      subst this
      exact .inl hw
    · rw [← hcl]
      exact World.ownsRow_lit w _ _ (Nat.zero_le _) (by unfold maxLen; omega) (by rw [size_madeCells])
theorem j_make0 {d t e sz by_ : Nat} {ti te : TI} {x y : Operand} {kl kc : IntKind} {k : Int} (ho : o.op = .makeSlice t x y) (hg : o.guard = none) (hd : o.dst = some d) (hn : Nat.blt d C.n = true) (ht : tget C.tab t = some ti) (hk : ti.kind = .slice e sz by_)
    (hte : tget C.tab e = some te) (hx : ev F x = some (.int kl 0)) (hy : ev F y = some (.int kc k)) (hb : 0 ≤ k ∧ k * ((by_ : Int) + 1) ≤ 140737488355328)
    (h : ∀ b, J C ops false rest K ((d, .slice (some ⟨b, 0, none⟩) 0 k.toNat) :: F) (.own (.slice (some ⟨b, 0, none⟩) 0 k.toNat) e sz 0 [] :: L)) : J C ops false (o :: rest) K F L := by
  obtain ⟨hu, ie, hie, hsz, hby⟩ := tk_slice (C.ok.get ht) hk
  obtain ⟨i, z, hi, hz, hzc, _, _⟩ := zero_cells (C.ok.get hte)
  have e1 : ie = i := by rw [hie] at hi; injection hi
  subst e1
  have hk1 : k ≤ 140737488355328 := by
    have : k * 1 ≤ k * ((by_ : Int) + 1) := Int.mul_le_mul_of_nonneg_left (by omega) hb.1
    omega
  have hk2 : (by_ : Int) * k ≤ 140737488355328 := by
    have : k * (by_ : Int) ≤ k * ((by_ : Int) + 1) := Int.mul_le_mul_of_nonneg_left (by omega) hb.1
    rw [Int.mul_comm]
    omega
  refine j_step_new (ob := .cells (madeCells z.cells (k.toNat * sz)) e) (x := fun b => .own (.slice (some ⟨b, 0, none⟩) 0 k.toNat) e sz 0 []) hg hd hn (fun b => .slice (some ⟨b, 0, none⟩) 0 k.toNat) (fun a w hf hs => ?_) (fun b c h => own_foot h) (fun w hw => ?_) h
  · have := run_make (P := C.P) w t e ie z hu hie hz kl kc 0 k (Int.le_refl _) hb.1 (by rw [hby]; omega) (by omega)
    rw [hsz] at this
    simp [execOp, ho, hf.ev hx, hf.ev hy, this]
  · refine ⟨fun q hq => ?_, World.ownsRow_made w _ _ (Nat.zero_le _) (by unfold maxLen; omega) (size_madeCells _ _)⟩
    have := own_foot (e := e) (sz := sz) (k := 0) (xs := []) hq
    subst this
    exact .inl hw
/-- Append of a slice whatever it is: nil, or cells that can be read. -/
theorem j_appendS {d t e sz by_ : Nat} {ti te : TI} {s x : Operand} {v : Value} {n k c : Nat} {A : Option Addr} {xs cs : List Value} (ho : o.op = .call { callee := .builtin .append, args := #[s, x], argTypes := #[t, t] })
    (hg : o.guard = none) (hd : o.dst = some d) (hn : Nat.blt d C.n = true) (ht : tget C.tab t = some ti) (hk : ti.kind = .slice e sz by_) (hte : tget C.tab e = some te) (hl : len te.zero = sz) (hpos : Nat.beq sz 0 = false)
    (hs : ev F s = some v) (hx : ev F x = some (.slice A k c))
    (hread : ∀ w, St C.w0 C.hot L w → (A = none → k = 0 ∧ c = 0) ∧ cs.length = k * sz ∧ (∀ ad, A = some ad → ∀ j u, cs[j]? = some u → w.cell? (ad.add j) = some u) ∧ ∀ u ∈ cs, u.oneCell' = true)
    (hown : InL L (.own v e sz n xs)) (hmax : (n + k) * (by_ + 1) ≤ 140737488355328)
    {L' : Value → List HA} (hup : ∀ v', Upd L (.own v e sz n xs) (.own v' e sz (n + k) (xs ++ cs)) (L' v'))
    (h : ∀ v', J C ops false rest K ((d, v') :: F) (L' v')) : J C ops false (o :: rest) K F L := by
  intro a w hf hS
  obtain ⟨hu, ie, hie, hsz, hby⟩ := tk_slice (C.ok.get ht) hk
  obtain ⟨i, z, hi, hz, hzc, _, _⟩ := zero_cells (C.ok.get hte)
  have e1 : ie = i := by rw [hie] at hi; injection hi
  subst e1
  obtain ⟨hnil, hlen, hc, h1⟩ := hread w hS
  have hb2 : (n + k) ≤ 140737488355328 := Nat.le_trans (Nat.le_mul_of_pos_right _ (by omega)) hmax
  have hb3 : (n + k) * by_ ≤ 140737488355328 := Nat.le_trans (Nat.mul_le_mul_left _ (by omega)) hmax
  have hpos' : 0 < sz := Nat.pos_of_ne_zero (Nat.ne_of_beq_eq_false hpos)
  have hvl := hS.at hown
  have key : ∃ v' w', (Builtin.append_ #[t, t] o.type #[v, .slice A k c]).run C.P w = .ok v' w' ∧ w'.ownsRow 0 e sz v' (n + k) (xs ++ cs) ∧ w.grownBy w' v.ownBlock ∧ (v'.ownBlock = v.ownBlock ∨ v'.ownBlock = some w.heap.size) := by
    cases A with
    | none =>
      obtain ⟨rfl, rfl⟩ := hnil rfl
      have hcs : cs = [] := List.length_eq_zero_iff.1 (by rw [hlen]; simp)
      subst hcs
      have hr := run_append_owned_none (P := C.P) w 0 t o.type e ie sz hu hie v n xs hvl.2
      refine ⟨v, w, hr, by simpa using hvl.2, ⟨rfl, rfl, rfl, Nat.le_refl _, fun _ _ _ => rfl⟩, .inl rfl⟩
    | some ad =>
      obtain ⟨v', w', hr, hown', hgr, _, hat⟩ := run_append_own_at (P := C.P) w 0 t o.type e ie z sz by_ hu hie hz hsz hby (by rw [hzc, List.size_toArray, ← len_eq, hl]) hpos' v n xs hvl.2 ad k c cs hlen (hc ad rfl) h1
        (by unfold maxLen; omega) hb3 (Nat.zero_le _)
      exact ⟨v', w', hr, hown', hgr, hat⟩
  obtain ⟨v', w', hr, hown', hgr, hat⟩ := key
  have hrun : (execOp a.eval o).run C.P w = .ok (.value v') w' := by
    simp only [execOp, ho, resolve, invoke, builtin, Sem.run_bind, Sem.run_pure, Result.andThen_ok, List.map_toArray, List.map_cons, List.map_nil, hf.ev hs, hf.ev hx, hr]
  refine wpListIn_run (by simp [Region.wanted, hg]) (wpIn_value hrun ?_)
  rw [hd]
  refine h v' _ _ (hf.put _ hn) (hS.upd (hup v') ⟨hgr.os, hgr.tape, hgr.output, hgr.size, fun k hk => by omega⟩ ?_ ⟨fun q hq => ?_, hown'⟩ ?_)
  · intro q hq hne
    exact hgr.block q hq (fun e => hne e.symm)
  · rcases hat with e | e
    · exact hvl.1 q (e ▸ hq)
    · rw [e] at hq
      injection hq with hq
      have := hS.near.size
      exact .inl (by omega)
  · intro q hq
    rcases hat with e | e
    · exact .inl (e.symm.trans hq)
    · simp only [HA.foot, e, Option.some.injEq] at hq
      exact .inr (by omega)
/-- What a slice that reads as a list is to append. -/
theorem reads_ext {α : Type} {f : α → List Value} {sz : Nat} {A : Option Addr} {c : Nat} {l : List α} {w : World} (hw : ∀ x, (f x).length = sz) (h1 : ∀ x, ones (f x) = true) (h : RS w sz f A l) (hnil : A = none → l = [] ∧ c = 0) :
    (A = none → l.length = 0 ∧ c = 0) ∧ (l.flatMap f).length = l.length * sz ∧ (∀ ad, A = some ad → ∀ j u, (l.flatMap f)[j]? = some u → w.cell? (ad.add j) = some u) ∧ ∀ u ∈ l.flatMap f, u.oneCell' = true := by
  have hlen : ∀ l : List α, (l.flatMap f).length = l.length * sz := by
    intro l
    induction l with
    | nil => simp
    | cons x l ih => simp only [List.flatMap_cons, List.length_append, hw, ih, List.length_cons, Nat.succ_mul]; omega
  refine ⟨fun e => ⟨by rw [(hnil e).1]; rfl, (hnil e).2⟩, hlen l, fun ad e j u hu => ?_, fun u hu => ?_⟩
  · have key : ∀ (l : List α) (b : Nat), (∀ k x, l[k]? = some x → Ext w (ad.add ((b + k) * sz)) (f x)) → ∀ j u, (l.flatMap f)[j]? = some u → w.cell? (ad.add (b * sz + j)) = some u := by
      intro l
      induction l with
      | nil => intro b _ j u hu; simp at hu
      | cons x l ih =>
        intro b hb j u hu
        simp only [List.flatMap_cons] at hu
        by_cases hj : j < sz
        · rw [List.getElem?_append_left (by rw [hw]; exact hj)] at hu
          have := (hb 0 x rfl).cell j u (by rw [nth_eq]; exact hu)
          rw [add_add, Nat.add_zero] at this
          exact this
        · rw [List.getElem?_append_right (by rw [hw]; omega), hw] at hu
          have := ih (b + 1) (fun k y hk => by have := hb (k + 1) y (by simpa using hk); rwa [show b + (k + 1) = b + 1 + k from by omega] at this) (j - sz) u hu
          rw [Nat.succ_mul, show b * sz + sz + (j - sz) = b * sz + j from by omega] at this
          exact this
    have := key l 0 (fun k x hk => by
      obtain ⟨ad', e', hE⟩ := h k x hk
      rw [e] at e'
      injection e' with e'
      subst e'
      rwa [Nat.zero_add]) j u hu
    rwa [Nat.zero_mul, Nat.zero_add] at this
  · obtain ⟨x, _, hx⟩ := List.mem_flatMap.1 hu
    exact ones_all (h1 x) u hx
/-- What an own row is to append. -/
theorem reads_own {w0 w : World} {hot : Nat → Prop} {e sz n c : Nat} {A : Option Addr} {xs : List Value} (hs : St w0 hot L w) (hin : InL L (.own (.slice A n c) e sz n xs)) (h1 : ∀ u ∈ xs, u.oneCell' = true) :
    (A = none → n = 0 ∧ c = 0) ∧ xs.length = n * sz ∧ (∀ ad, A = some ad → ∀ j u, xs[j]? = some u → w.cell? (ad.add j) = some u) ∧ ∀ u ∈ xs, u.oneCell' = true := by
  have hA := hs.at hin
  refine ⟨fun e => ?_, hA.2.1, fun ad e j u hu => ?_, h1⟩
  · rcases hA.2.2 with ⟨hv, hn⟩ | ⟨g, cap, cur, hv, _⟩
    · injection hv with _ _ h3
      exact ⟨hn, h3⟩
    · rw [e] at hv
      injection hv with h1
      cases h1
  · rcases hA.2.2 with ⟨hv, _⟩ | ⟨g, cap, cur, hv, _, hg, _, _, _, htk⟩
    · rw [e] at hv
      injection hv with h1
      cases h1
    · rw [e] at hv
      injection hv with h1
      injection h1 with h1
      subst h1
      rw [add_own, Nat.zero_add]
      simp only [World.cell?, hg]
      rw [← htk, List.getElem?_take] at hu
      split at hu
      · rw [Array.getElem?_toList] at hu
        simpa using hu
      · cases hu
theorem reps_flat {α : Type} (f : α → List Value) (y : α) : ∀ n, reps n (f y) = (List.replicate n y).flatMap f
  | 0 => rfl
  | n + 1 => by simp only [reps, reps_app, List.replicate_succ, List.flatMap_cons]; rw [reps_flat f y n]
end
end Eng
end Go.Proofs.Ytmcmmmaffdenjaa
