/-
  Ranges over functions: what an iterator promises, what a loop's body owes, and the loop's rule.
-/
import Derived.Test.YtmcmmmaffdenjaaEngFast
import Derived.RangeFuncRecord
namespace Go.Proofs.Ytmcmmmaffdenjaa
namespace Eng
open Go.RowKit
set_option linter.unusedVariables false
/-- A call of yield. -/
def YieldRun (P : Program) (l : Nat) (args : List Value) (w : World) (R : Value → World → Prop) : Prop :=
  ∃ fn tmps assign body, (Instr.yield l args.toArray).run P w = .ok (.round l fn tmps assign body) w ∧ RoundIn (fc none) 0 P l fn tmps assign body w (fun e w' => ∃ v, e = .returned v ∧ R v w')
/-- What a loop does with what an iterator hands it: a state, the blocks in which it lies, a step, and whether it goes on. -/
structure Consumer {τ α : Type} (P : Program) (W : World) (S0 : Nat → Prop) (l : Nat) (enc : α → List Value) (ok : α → Prop) (Jn : τ → (Nat → Prop) → World → Prop) (stp : τ → α → τ × Bool) (live : τ → Prop) : Prop where
  step : ∀ s S x w, ok x → live s → Jn s S w → Near W.heap.size S0 W w → YieldRun P l (enc x) w (fun v w' => v = .bool (stp s x).2 ∧ Near w.heap.size S w w' ∧ ∃ S', Jn (stp s x).1 S' w' ∧ ∀ b, S' b → S b ∨ w.heap.size ≤ b)
  goes : ∀ s x, live s → (stp s x).2 = true → live (stp s x).1
  lt : ∀ s S w b, Jn s S w → S b → b < w.heap.size
  stab : ∀ s S w w', Jn s S w → Near W.heap.size S0 w w' → (∀ b, S b → w'.heap[b]? = w.heap[b]?) → (∀ b, S b → S0 b ∨ W.heap.size ≤ b) → Jn s S w'
def runsB {τ α : Type} (stp : τ → α → τ × Bool) : τ → List α → τ
  | s, [] => s
  | s, y :: ys => match stp s y with
    | (s', true) => runsB stp s' ys
    | (s', false) => s'
theorem runsB_cons_t {τ α : Type} {stp : τ → α → τ × Bool} {s : τ} {y : α} {ys : List α} (h : (stp s y).2 = true) : runsB stp s (y :: ys) = runsB stp (stp s y).1 ys := by
  simp only [runsB]
  cases e : stp s y with
  | mk s' b => rw [e] at h; simp only at h; subst h; rfl
theorem runsB_cons_f {τ α : Type} {stp : τ → α → τ × Bool} {s : τ} {y : α} {ys : List α} (h : (stp s y).2 = false) : runsB stp s (y :: ys) = (stp s y).1 := by
  simp only [runsB]
  cases e : stp s y with
  | mk s' b => rw [e] at h; simp only at h; subst h; rfl
theorem Consumer.start {τ α : Type} {P : Program} {W : World} {S0 : Nat → Prop} {l : Nat} {enc : α → List Value} {ok : α → Prop} {Jn : τ → (Nat → Prop) → World → Prop} {stp : τ → α → τ × Bool} {live : τ → Prop}
    (h : Consumer P W S0 l enc ok Jn stp live) {s : τ} (h0 : Jn s S0 W) : St W S0 [.abs S0 (Jn s S0)] W :=
  (St.start W S0).cons ⟨fun b hb => ⟨.inr hb, h.lt _ _ _ _ h0 hb⟩, h0, fun w' hn hk => h.stab _ _ _ _ h0 hn hk (fun b hb => .inl hb)⟩ (fun y hy => by cases hy)
section
variable {C : Cx} {F : Fr} {L : List HA} {o : Oper} {K : List KI} {ops : Array Oper} {m : Bool} {rest : List Oper}
/-- A call of yield, in the iterator. -/
theorem j_yield {τ α : Type} {d l : Nat} {al : List Operand} {fo : Operand} {ats : Array TypeId} {vs : List Value} {enc : α → List Value} {ok : α → Prop} {Jn : τ → (Nat → Prop) → World → Prop} {stp : τ → α → τ × Bool} {live : τ → Prop}
    (hcons : Consumer C.P C.w0 C.hot l enc ok Jn stp live) (ho : o.op = .call { callee := .value fo, args := al.toArray, argTypes := ats }) (hg : o.guard = none) (hd : o.dst = some d) (hn : Nat.blt d C.n = true)
    (hfo : ev F fo = some (.func (.yield l) #[] #[])) (ha : evs F al = some vs) {x : α} (henc : enc x = vs) (hok : ok x) {s : τ} (hlive : live s) {S : Nat → Prop} (hin : InL L (.abs S (Jn s S))) {L' : (Nat → Prop) → List HA}
    (hup : ∀ S', Upd L (.abs S (Jn s S)) (.abs S' (Jn (stp s x).1 S')) (L' S')) (h : ∀ S', J C ops false rest K ((d, .bool (stp s x).2) :: F) (L' S')) : J C ops false (o :: rest) K F L := by
  intro a w hf hs
  have hA := hs.at hin
  obtain ⟨fn, tmps, assign, body, hy, hr⟩ := hcons.step s S x w hok hlive hA.2.1 hs.near
  rw [henc] at hy
  have h1 : al.toArray.map a.eval = vs.toArray := by rw [List.map_toArray, hf.evs ha]
  have hrun : (execOp a.eval o).run C.P w = .ok (.round l fn tmps assign body) w := by
    simp only [execOp, ho, resolve, hf.ev hfo, h1, Deferred.ofValue, Sem.run_bind, Sem.run_pure, Result.andThen_ok, invoke, Array.empty_append, hy]
  refine wpListIn_run (by simp [Region.wanted, hg]) ⟨fun _ _ => trivial, ?_⟩
  rw [show (fc C.rd).round = C.rd from rfl, semAt_of_value hrun (fun d e => by cases e), Oper.uponIn_round]
  refine ⟨fun h => by simp [fc] at h, ?_⟩
  have hr' : RoundIn (fc C.rd) 0 C.P l fn tmps assign body w (fun e w' => ∃ v, e = .returned v ∧ (v = .bool (stp s x).2 ∧ Near w.heap.size S w w' ∧ ∃ S', Jn (stp s x).1 S' w' ∧ ∀ b, S' b → S b ∨ w.heap.size ≤ b)) := hr
  refine hr'.mono fun e w' ⟨v, he, hv, hn', S', hJ, hS'⟩ => ?_
  subst he
  subst hv
  rw [hd]
  have hS'0 : ∀ b, S' b → C.hot b ∨ C.w0.heap.size ≤ b := fun b hb => by
    rcases hS' b hb with h2 | h2
    · rcases (hA.1 b h2).1 with h3 | h3
      · exact .inr h3
      · exact .inl h3
    · exact .inr (Nat.le_trans hs.near.size h2)
  refine h S' _ _ (hf.put _ hn) (hs.upd (hup S') ⟨hn'.os, hn'.tape, hn'.output, hn'.size, fun k hk => by omega⟩ (fun b hb hne => hn'.block b hb hne) ⟨fun b hb => ⟨(hS'0 b hb).symm, hcons.lt _ _ _ _ hJ hb⟩, hJ, fun w'' hnn hk => hcons.stab _ _ _ _ hJ hnn hk hS'0⟩ hS')
end
/-! ### Calls that hand back new memory -/
theorem St.adopt {w0 w w' : World} {hot : Nat → Prop} {L Ln : List HA} (h : St w0 hot L w) (h' : St w Cold Ln w') (habs : ∀ S p, HA.abs S p ∈ Ln → ∀ u u', p u → (∀ b, S b → u'.heap[b]? = u.heap[b]?) → p u') : St w0 hot (Ln ++ L) w' := by
  have h1 := h.later h'.below
  have hft : ∀ b, (w.heap.size ≤ b ∨ Cold b) → w0.heap.size ≤ b ∨ hot b := fun b hb => .inl (Nat.le_trans h.near.size (hb.resolve_right (fun h => h)))
  refine ⟨h1.near, fun x hx => ?_, List.pairwise_append.2 ⟨h'.sep, h.sep, fun x hx y hy b hbx hby => ?_⟩⟩
  · rcases List.mem_append.1 hx with hx | hx
    · have hx' := h'.holds x hx
      cases x with
      | cells b t cs => exact ⟨hft b hx'.1, hx'.2⟩
      | own v e sz n xs => exact ⟨fun b hb => hft b (hx'.1 b hb), hx'.2⟩
      | abs S p => exact ⟨fun b hb => ⟨hft b (hx'.1 b hb).1, (hx'.1 b hb).2⟩, hx'.2.1, fun w'' _ hk => habs S p hx _ _ hx'.2.1 hk⟩
      | pure p => exact hx'
    · exact h1.holds x hx
  · have h2 := ((h'.holds x hx).lt hbx).1
    have h3 := ((h.holds y hy).lt hby).2
    rcases h2 with h2 | h2
    · omega
    · exact h2
section
variable {C : Cx} {F : Fr} {L : List HA} {o : Oper} {K : List KI} {ops : Array Oper} {rest : List Oper}
/-- Assertions of the plain kinds. -/
def plainHA : List HA → Prop
  | [] => True
  | .abs S p :: L => (∀ u u', p u → (∀ b, S b → u'.heap[b]? = u.heap[b]?) → p u') ∧ plainHA L
  | _ :: L => plainHA L
theorem plainHA_abs {L : List HA} (h : plainHA L) (S : Nat → Prop) (p : World → Prop) (hm : HA.abs S p ∈ L) : ∀ u u' : World, p u → (∀ b, S b → u'.heap[b]? = u.heap[b]?) → p u' := by
  induction L with
  | nil => cases hm
  | cons x L ih =>
    rcases List.mem_cons.1 hm with h1 | h1
    · subst h1; exact h.1
    · cases x with
      | abs _ _ => exact ih h.2 h1
      | cells _ _ _ => exact ih h h1
      | own _ _ _ _ _ => exact ih h h1
      | pure _ => exact ih h h1
theorem j_callN {ξ : Type} {al : List Operand} {fo : Operand} {ats : Array TypeId} {f d : Nat} {caps vs : List Value} (ho : o.op = .call { callee := .value fo, args := al.toArray, argTypes := ats })
    (hg : o.guard = none) (hd : o.dst = some d) (hn : Nat.blt d C.n = true) (hfo : ev F fo = some (.func (.func f) #[] caps.toArray)) (ha : evs F al = some vs) (hc : has C.fns f = true) (V : ξ → Value) (pre : ξ → Prop) (Ln : ξ → List HA)
    (hcall : ∀ w, St C.w0 C.hot L w → Calls C.P f (vs ++ caps).toArray w (fun e w' => ∃ x, pre x ∧ e = .returned (V x) ∧ St w Cold (Ln x) w')) (hpl : ∀ x, plainHA (Ln x))
    (h : ∀ x, pre x → J C ops false rest K ((d, V x) :: F) (Ln x ++ L)) : J C ops false (o :: rest) K F L := by
  refine j_call V pre (fun x => Ln x ++ L) ho hg hd hn hfo ha hc (fun w hs => (hcall w hs).mono fun e w' ⟨x, hp, he, hs'⟩ => ⟨x, hp, he, hs.adopt hs' (plainHA_abs (hpl x))⟩) h
end
/-! ### The loop -/
def haRec (l : Nat) (r : Loop) : HA := .abs (· = l) (fun w => w.heap[l]? = some (.loop r))
def haDef (D : Nat) : HA := .abs (· = D) (fun w => w.heap[D]? = some (.deferred (some [])))
theorem haObj_holds {B : Nat} {hot : Nat → Prop} {w : World} {l : Nat} {o : Obj} (hb : B ≤ l ∨ hot l) (h : w.heap[l]? = some o) : (HA.abs (· = l) (fun w => w.heap[l]? = some o)).holds B hot w :=
  ⟨fun b hb' => by subst hb'; exact ⟨hb, (Array.getElem?_eq_some_iff.1 h).1⟩, h, fun w' _ hk => (hk l rfl).trans h⟩
/-- The blocks of a list of assertions. -/
def foots (L : List HA) (b : Nat) : Prop := ∃ x ∈ L, x.foot b
structure LoopIx (σ ξ α : Type) where
  enc : α → List Value
  stp : σ → α → σ × Option Code
  LI : σ → ξ → List HA
def runsJ {σ α : Type} (stp : σ → α → σ × Option Code) : σ → List α → σ × Option Code
  | s, [] => (s, none)
  | s, y :: ys => match stp s y with
    | (s', none) => runsJ stp s' ys
    | (s', some c) => (s', some c)
/-- The step as an iterator sees it. -/
def stpB {σ α : Type} (stp : σ → α → σ × Option Code) (t : σ × Option Code) (x : α) : (σ × Option Code) × Bool := (stp t.1 x, (stp t.1 x).2.isNone)
theorem runsB_runsJ {σ α : Type} (stp : σ → α → σ × Option Code) : ∀ (ys : List α) (s : σ), runsB (stpB stp) (s, none) ys = runsJ stp s ys
  | [], s => rfl
  | y :: ys, s => by
    simp only [runsJ]
    cases e : stp s y with
    | mk s' j =>
      cases j with
      | none =>
        rw [runsB_cons_t (by simp [stpB, e])]
        simp only [stpB, e]
        exact runsB_runsJ stp ys s'
      | some c =>
        rw [runsB_cons_f (by simp [stpB, e])]
        simp [stpB, e]
/-- An iterator's promise: it hands over just these, one after the other, and writes nothing but what its caller's loop writes. -/
def Iterates (P : Program) (gf : Nat) (lb : List Value) {α : Type} (enc : α → List Value) (ok : α → Prop) (ys : List α) (W : World) (S0 : Nat → Prop) : Prop :=
  ∀ (τ : Type) (Jn : τ → (Nat → Prop) → World → Prop) (stp : τ → α → τ × Bool) (live : τ → Prop) (s0 : τ) (l : Nat), Consumer P W S0 l enc ok Jn stp live → live s0 → Jn s0 S0 W →
    Calls P gf ((Value.func (.yield l) #[] #[]) :: lb).toArray W (fun e W' => (∃ v, e = .returned v) ∧ Near W.heap.size S0 W W' ∧ ∃ S', Jn (runsB stp s0 ys) S' W' ∧ ∀ b, S' b → S0 b ∨ W.heap.size ≤ b)
section
variable {C : Cx} {F : Fr} {L : List HA} {K : List KI}
theorem foots_old {B : Nat} {w0 w : World} {hot : Nat → Prop} (h : St w0 hot L w) {b : Nat} (hb : foots L b) : (w0.heap.size ≤ b ∨ hot b) ∧ b < w.heap.size := by
  obtain ⟨x, hx, hf⟩ := hb
  exact (h.holds x hx).lt hf
/-- From the loop's own view of memory to a round's, and back. -/
theorem St.round {w0 w : World} {hot : Nat → Prop} (h : St w0 hot L w) : St w (foots L) L w := by
  refine ⟨Near.refl _ _ _, fun x hx => ?_, h.sep⟩
  have hx' := h.holds x hx
  have hft : ∀ b, x.foot b → w.heap.size ≤ b ∨ foots L b := fun b hb => .inr ⟨x, hx, hb⟩
  cases x with
  | cells b t cs => exact ⟨hft b rfl, hx'.2⟩
  | own v e sz n xs => exact ⟨fun b hb => hft b hb, hx'.2⟩
  | abs S p =>
    refine ⟨fun b hb => ⟨hft b hb, (hx'.1 b hb).2⟩, hx'.2.1, fun w' hn hk => hx'.2.2 w' ⟨hn.os, hn.tape, hn.output, hn.size, fun k hk' hnot => hn.block k (Nat.lt_of_lt_of_le hk' h.near.size) (fun hf => by
      rcases (foots_old (B := 0) h hf).1 with h3 | h3
      · omega
      · exact hnot h3)⟩ hk⟩
  | pure p => exact hx'
/-- Whoever is outside sees what a round has left. -/
theorem St.unround {w0 w w' : World} {hot : Nat → Prop} {L L' : List HA} (h : St w0 hot L w) (h' : St w (foots L) L' w') (habs : ∀ S p, HA.abs S p ∈ L' → ∀ u u', p u → (∀ b, S b → u'.heap[b]? = u.heap[b]?) → p u') : St w0 hot L' w' := by
  have hn : Near w0.heap.size hot w w' := ⟨h'.near.os, h'.near.tape, h'.near.output, h'.near.size, fun k hk hnot => h'.near.block k (Nat.lt_of_lt_of_le hk h.near.size) (fun hf => by
      rcases (foots_old (B := 0) h hf).1 with h3 | h3
      · omega
      · exact hnot h3)⟩
  have hft : ∀ b, (w.heap.size ≤ b ∨ foots L b) → w0.heap.size ≤ b ∨ hot b := fun b hb => by
    rcases hb with h3 | h3
    · exact .inl (Nat.le_trans h.near.size h3)
    · exact (foots_old (B := 0) h h3).1
  refine ⟨h.near.trans hn, fun x hx => ?_, h'.sep⟩
  have hx' := h'.holds x hx
  cases x with
  | cells b t cs => exact ⟨hft b hx'.1, hx'.2⟩
  | own v e sz n xs => exact ⟨fun b hb => hft b (hx'.1 b hb), hx'.2⟩
  | abs S p => exact ⟨fun b hb => ⟨hft b (hx'.1 b hb).1, (hx'.1 b hb).2⟩, hx'.2.1, fun w'' _ hk => habs S p hx _ _ hx'.2.1 hk⟩
  | pure p => exact hx'
end
/-- What a call of a round leaves of the caller's memory. -/
theorem St.inner {w0 w w' : World} {hot : Nat → Prop} {L L' : List HA} (h : St w0 hot L w) (h' : St w (foots L) L' w') : Near w0.heap.size hot w0 w' :=
  h.near.trans ⟨h'.near.os, h'.near.tape, h'.near.output, h'.near.size, fun k hk hnot => h'.near.block k (Nat.lt_of_lt_of_le hk h.near.size) (fun hf => by
      rcases (foots_old (B := 0) h hf).1 with h3 | h3
      · omega
      · exact hnot h3)⟩
def Cx.mark (C : Cx) (D : Nat) : Cx := { C with ds := { target := .collected D, args := #[] } :: C.ds }
theorem kpost_mark (C : Cx) (D : Nat) : ∀ K, kpost (C.mark D) K = kpost C K
  | [] => rfl
  | .seq c :: K => by simp only [kpost, kpost_mark C D K]; rfl
  | .blk id :: K => by simp only [kpost, kpost_mark C D K]
  | .loop J :: K => by simp only [kpost, kpost_mark C D K]
  | .fin J :: K => rfl
/-- The frame and the memory of a round. -/
def Cx.inRound (C : Cx) (l : Nat) (Q : Exit → Act → World → Prop) (W1 : World) (hot : Nat → Prop) : Cx := { C with rd := some l, ds := [], Qr := Q, w0 := W1, hot := hot }
def recSt (r : Loop) : Option Code → Loop
  | none => { r with state := .ready, pending := none }
  | some c => { r with state := .done, pending := some c }
def roundStart (C : Cx) (l : Nat) (body : Code) : Act → World → Prop := fun a w => ∃ w₂, (Instr.beginRound l).run C.P w = .ok () w₂ ∧ body.wpIn (fc (some l)) 0 C.P C.Qf a w₂
section
variable {C : Cx} {F : Fr} {L : List HA} {K : List KI}
theorem st_putObj {w0 w : World} {hot : Nat → Prop} {L' : List HA} {l : Nat} {o o' : Obj} (hs : St w0 hot L w) (hu : Upd L (.abs (· = l) (fun w => w.heap[l]? = some o)) (.abs (· = l) (fun w => w.heap[l]? = some o')) L') : St w0 hot L' (w.putObj l o') := by
  obtain ⟨M, h1, _⟩ := hu.perm
  have hA := (hs.perm h1).head
  have hlt := (hA.1 l rfl).2
  refine hs.upd hu ⟨rfl, rfl, rfl, by simp, fun k hk => by omega⟩ (fun b hb hne => World.putObj_heap_other (fun e => hne e)) (haObj_holds (hA.1 l rfl).1 (World.putObj_heap_same hlt)) (fun b hb => .inl hb)
theorem sq_begin {l : Nat} {r : Loop} {body : Code} {L' : List HA} (hrd : C.rd = some l) (hr : r.state = .ready) (hu : Upd L (haRec l r) (haRec l { r with state := .busy }) L') (h : SC C body [] F L') : SQ C .normal [.fin (roundStart C l body)] F L := by
  intro a w hf hs
  obtain ⟨M, h1, _⟩ := hu.perm
  have hA := (hs.perm h1).head
  refine ⟨_, run_beginRound hA.2.1 hr, ?_⟩
  have := h a _ hf (st_putObj hs hu)
  rw [hrd] at this
  exact this
def jumpOf : Exit → Option (Option Code)
  | .normal => some none
  | .ret => some (some .ret)
  | .exit id => some (some (.exit id))
  | .goto t => some (some (.goto t))
  | _ => none
/-- A round's end. -/
theorem sq_round {l : Nat} {r : Loop} {e : Exit} {jump : Option Code} {L' : List HA} {R : Ending → World → Prop} (hrd : C.rd = some l) (hQ : C.Qr = roundPost C.P l R) (hj : jumpOf e = some jump) (hr : Rem L (haRec l { r with state := .busy }) L')
    (h : ∀ w', St C.w0 C.hot (haRec l (recSt r jump) :: L') w' → R (.returned (.bool jump.isNone)) w') : SQ C e [] F L := by
  intro a w hf hs
  show C.Qf e a w
  have hQf : C.Qf = roundPost C.P l R := by unfold Cx.Qf; rw [hrd]; exact hQ
  rw [hQf]
  have hs1 := hs.perm hr.perm
  have hA := hs1.head
  have h1 := h _ (st_putObj hs1 (o' := .loop (recSt r jump)) Upd.here)
  have h2 := run_endRound (P := C.P) jump hA.2.1
  have e2 : recSt r jump = { { r with state := .busy } with state := if jump.isNone then .ready else .done, pending := jump } := by cases jump <;> rfl
  rw [e2] at h1
  cases e <;> simp only [jumpOf, Option.some.injEq, reduceCtorEq] at hj <;> subst hj <;> exact ⟨_, _, h2, h1⟩
/-- The function's end, behind one range over a function. -/
theorem sq_endm {e : Exit} {D : Nat} {L' : List HA} (he : e = .ret ∨ e = .normal) (hrd : C.rd = none) (hds : C.ds = [{ target := .collected D, args := #[] }]) (hr : Rem L (haDef D) L')
    (h : ∃ vs, RVs C F L' C.rs vs ∧ ∀ w, St C.w0 C.hot L' w → C.R (.returned (pack vs)) w) : SQ C e [] F L := by
  obtain ⟨vs, hv, hR⟩ := h
  intro a w hf hs
  show C.Qf e a w
  have hQ : C.Qf = bodyPostM (fc none) 0 C.P C.fn C.R := by unfold Cx.Qf; rw [hrd]
  rw [hQ]
  have hd : a.defers = [{ target := .collected D, args := #[] }] := hf.dfr.trans hds
  have hs1 := hs.perm hr.perm
  have hA := hs1.head
  have hs2 : St C.w0 C.hot L' (w.putObj D (.deferred none)) := (st_putObj hs1 (o' := .deferred none) Upd.here).tail
  have hl : LeavesInM (fc none) 0 C.P C.fn a.tmps C.R a.defers .returning w := by
    rw [hd]
    exact ⟨by simp, .inl ⟨D, _, rfl, run_takeDeferred hA.2.1, ⟨_, results_run C.hrs hv hf hs2, hR _ hs2⟩⟩⟩
  rcases he with rfl | rfl
  · exact hl
  · exact hl
theorem foldl_size (l : List (Tmp × Value)) : ∀ (t : Array Value), (l.foldl (fun tmps (x : Tmp × Value) => tmps.setIfInBounds x.1 x.2) t).size = t.size := by
  induction l with
  | nil => intro t; rfl
  | cons x l ih => intro t; simp only [List.foldl_cons, ih]; simp
def parFr : List Tmp → List Value → Fr → Fr
  | p :: ps, v :: vs, F => parFr ps vs ((p, v) :: F)
  | _, _, F => F
theorem parFr_fits : ∀ (ps : List Tmp) (vs : List Value) (F : Fr) (n : Nat) (ds : List Deferred) (t : Array Value), (∀ p ∈ ps, p < n) → Fits n ds F ⟨t, ds⟩ →
    Fits n ds (parFr ps vs F) ⟨(ps.zip vs).foldl (fun tmps (x : Tmp × Value) => tmps.setIfInBounds x.1 x.2) t, ds⟩
  | [], vs, F, n, ds, t, _, h => by cases vs <;> exact h
  | p :: ps, [], F, n, ds, t, _, h => h
  | p :: ps, v :: vs, F, n, ds, t, hp, h => by
    have h1 := h.put (d := p) v (by rw [Nat.blt_eq]; exact hp p List.mem_cons_self)
    exact parFr_fits ps vs _ n ds _ (fun q hq => hp q (List.mem_cons_of_mem _ hq)) h1
theorem parsLt {ps : List Tmp} {n : Nat} (h : ps.all (fun p => Nat.blt p n) = true) : ∀ p ∈ ps, p < n := fun p hp => by
  have := List.all_eq_true.1 h p hp
  rwa [Nat.blt_eq] at this
/-- 'for x := range g { body }'. -/
theorem sc_range {σ ξ α : Type} {g : Operand} {ps : List Tmp} {assign body : Code} {gf : Nat} {lb : List Value} (enc : α → List Value) (ok : α → Prop) (ys : List α) (stp : σ → α → σ × Option Code) (LI : σ → ξ → List HA) (s0 : σ) (i0 : ξ)
    (hrd : C.rd = none) (hg : ev F g = some (.func (.func gf) #[] lb.toArray)) (hcal : has C.fns gf = true) (hps : ∀ x, (enc x).length = ps.length) (hpn : ∀ p ∈ ps, p < C.n) (hL : LSub (LI s0 i0) L)
    (hab : ∀ s i S p, HA.abs S p ∈ LI s i → ∀ u u', p u → (∀ b, S b → u'.heap[b]? = u.heap[b]?) → p u')
    (hiter : ∀ w l D r, St C.w0 C.hot (haRec l r :: haDef D :: LI s0 i0) w → Iterates C.P gf lb enc ok ys w (foots (haRec l r :: haDef D :: LI s0 i0)))
    (hbody : ∀ (l D : Nat) (r : Loop) (W1 : World) (s : σ) (i : ξ) (x : α) (Q : Exit → Act → World → Prop), ok x → r.state = .ready → St C.w0 C.hot (haRec l r :: haDef D :: LI s i) W1 →
      (∀ (e : Exit) (jump : Option Code) (i' : ξ) (F' : Fr) (L' M : List HA), jumpOf e = some jump → (stp s x).2 = jump → Rem L' (haRec l { r with state := .busy }) M → LSub (haDef D :: LI (stp s x).1 i') M → SQ (C.inRound l Q W1 (foots (haRec l r :: haDef D :: LI s i))) e [] F' L') →
      SC (C.inRound l Q W1 (foots (haRec l r :: haDef D :: LI s i))) assign [.fin (roundStart (C.inRound l Q W1 (foots (haRec l r :: haDef D :: LI s i))) l body)] (parFr ps (enc x) F) (haRec l r :: haDef D :: LI s i))
    (hend : ∀ D i, (runsJ stp s0 ys).2 = none → SQ (C.mark D) .normal K F (haDef D :: LI (runsJ stp s0 ys).1 i))
    (hjump : ∀ D i c, (runsJ stp s0 ys).2 = some c → SC (C.mark D) c K F (haDef D :: LI (runsJ stp s0 ys).1 i)) : SC C (.rangeFunc g ps.toArray assign body) K F L := by
  intro a w hf hs
  rw [hrd]
  have hs0 := hs.sub hL
  refine wpIn_rangeFunc fun fn _ => ?_
  obtain ⟨r, hr⟩ : ∃ r : Loop, r = { state := .ready, pending := none, fn, tmps := a.tmps, params := ps.toArray, assign, body, defers := w.heap.size } := ⟨_, rfl⟩
  obtain ⟨W, hW⟩ : ∃ W, (w.alloc (.deferred (some []))).alloc (.loop r) = W := ⟨_, rfl⟩
  have hSW : St C.w0 C.hot (haRec (w.heap.size + 1) r :: haDef w.heap.size :: LI s0 i0) W := by
    have h1 : St C.w0 C.hot (haDef w.heap.size :: LI s0 i0) (w.alloc (.deferred (some []))) :=
      hs0.alloc _ (fun b hb => hb) (haObj_holds (.inl hs0.near.size) (World.alloc_heap_new w _))
    have h2 := World.alloc_heap_new (w.alloc (.deferred (some []))) (.loop r)
    rw [World.size_alloc] at h2
    rw [← hW]
    refine h1.alloc _ (fun b hb => by rw [World.size_alloc]; exact hb) (haObj_holds (.inl (by have := hs0.near.size; omega)) h2)
  obtain ⟨S0, hS0⟩ : ∃ S0, foots (haRec (w.heap.size + 1) r :: haDef w.heap.size :: LI s0 i0) = S0 := ⟨_, rfl⟩
  have hready : r.state = .ready := by rw [hr]
  have hr0 : recSt r none = r := by rw [hr]; rfl
  -- the loop's own state, as an iterator sees it
  obtain ⟨Jn, hJn⟩ : ∃ Jn : σ × Option Code → (Nat → Prop) → World → Prop, Jn = fun t S w' => ∃ i, St C.w0 C.hot (haRec (w.heap.size + 1) (recSt r t.2) :: haDef w.heap.size :: LI t.1 i) w' ∧ ∀ b, S b ↔ foots (haRec (w.heap.size + 1) (recSt r t.2) :: haDef w.heap.size :: LI t.1 i) b := ⟨_, rfl⟩
  have habs : ∀ (rr : Loop) s i S p, HA.abs S p ∈ (haRec (w.heap.size + 1) rr :: haDef w.heap.size :: LI s i) → ∀ u u' : World, p u → (∀ b, S b → u'.heap[b]? = u.heap[b]?) → p u' := by
    intro rr s i S p hm u u' hp hk
    rcases List.mem_cons.1 hm with hm | hm
    · unfold haRec at hm
      injection hm with h1 h2
      subst h1; subst h2
      exact (hk _ rfl).trans hp
    · rcases List.mem_cons.1 hm with hm | hm
      · unfold haDef at hm
        injection hm with h1 h2
        subst h1; subst h2
        exact (hk _ rfl).trans hp
      · exact hab s i S p hm u u' hp hk
  have hcons : Consumer C.P W S0 (w.heap.size + 1) enc ok Jn (stpB stp) (fun t => t.2 = none) := by
    refine ⟨?_, ?_, ?_, ?_⟩
    · rintro ⟨s, j⟩ S x W1 hok hlive hJ hn
      simp only at hlive
      subst hlive
      rw [hJn] at hJ
      obtain ⟨i, hSt, hS⟩ := hJ
      rw [hr0] at hSt hS
      have hrec : W1.heap[w.heap.size + 1]? = some (.loop r) := hSt.head.2.1
      refine ⟨_, _, _, _, run_yield (P := C.P) hrec (by rw [hr]; simp [hps x]), ?_⟩
      let R : Ending → World → Prop := fun e w' => ∃ v, e = .returned v ∧ (v = .bool (stpB stp (s, none) x).2 ∧ Near W1.heap.size S W1 w' ∧ ∃ S', Jn (stpB stp (s, none) x).1 S' w' ∧ ∀ b, S' b → S b ∨ W1.heap.size ≤ b)
      have hfx : Fits C.n [] (parFr ps (enc x) F) ⟨(ps.zip (enc x)).foldl (fun tmps (x : Tmp × Value) => tmps.setIfInBounds x.1 x.2) a.tmps, []⟩ :=
        parFr_fits ps (enc x) F C.n [] a.tmps hpn ⟨rfl, hf.size, hf.get⟩
      have hend' : ∀ (e : Exit) (jump : Option Code) (i' : ξ) (F' : Fr) (L' M : List HA), jumpOf e = some jump → (stp s x).2 = jump → Rem L' (haRec (w.heap.size + 1) { r with state := .busy }) M → LSub (haDef w.heap.size :: LI (stp s x).1 i') M →
          SQ (C.inRound (w.heap.size + 1) (roundPost C.P (w.heap.size + 1) R) W1 (foots (haRec (w.heap.size + 1) r :: haDef w.heap.size :: LI s i))) e [] F' L' := by
        intro e jump i' F' L' M hj hstp hrem hsub
        refine sq_round (R := R) rfl rfl hj hrem fun w' hSt' => ?_
        have hSt1 : St W1 (foots (haRec (w.heap.size + 1) r :: haDef w.heap.size :: LI s i)) (haRec (w.heap.size + 1) (recSt r jump) :: haDef w.heap.size :: LI (stp s x).1 i') w' := by
          refine St.sub (L := haRec (w.heap.size + 1) (recSt r jump) :: M) hSt' ?_
          exact LSub.cons Rem.here hsub
        have hout := St.unround hSt hSt1 (habs _ _ _)
        refine ⟨_, rfl, ?_, ⟨hSt1.near.os, hSt1.near.tape, hSt1.near.output, hSt1.near.size, fun k hk hnot => hSt1.near.block k hk (fun hb => hnot ((hS k).2 hb))⟩, foots (haRec (w.heap.size + 1) (recSt r jump) :: haDef w.heap.size :: LI (stp s x).1 i'), ?_, ?_⟩
        · simp only [stpB]; rw [hstp]
        · rw [hJn]
          refine ⟨i', ?_, fun b => ?_⟩
          · simp only [stpB]; rw [hstp]; exact hout
          · simp only [stpB]; rw [hstp]
        · intro b hb
          rcases (foots_old (B := 0) hSt1 hb).1 with h3 | h3
          · exact .inr h3
          · exact .inl ((hS b).2 h3)
      have hb := hbody (w.heap.size + 1) w.heap.size r W1 s i x (roundPost C.P (w.heap.size + 1) R) hok hready hSt hend'
      have hb1 := hb _ W1 hfx hSt.round
      refine (roundIn_of_wpIn (F := fc none) (n := 0) trivial ?_ : RoundIn (fc none) 0 C.P (w.heap.size + 1) _ _ _ _ W1 R)
      have e1 : ((r.params.zip (enc x).toArray).foldl (fun tmps (t, a) => tmps.setIfInBounds t a) r.tmps) = (ps.zip (enc x)).foldl (fun tmps (x : Tmp × Value) => tmps.setIfInBounds x.1 x.2) a.tmps := by
        rw [hr]
        simp only [List.zip_toArray, List.foldl_toArray]
      have e2 : r.assign = assign := by rw [hr]
      have e3 : r.body = body := by rw [hr]
      rw [e1, e2, e3]
      exact hb1
    · rintro ⟨s, j⟩ x hlive hgo
      simp only [stpB] at hgo ⊢
      cases h : (stp s x).2 with
      | none => rfl
      | some c => rw [h] at hgo; simp at hgo
    · rintro ⟨s, j⟩ S W1 b hJ hb
      rw [hJn] at hJ
      obtain ⟨i, hSt, hS⟩ := hJ
      exact (foots_old (B := 0) hSt ((hS b).1 hb)).2
    · rintro ⟨s, j⟩ S W1 W2 hJ hn hk hSb
      rw [hJn] at hJ ⊢
      obtain ⟨i, hSt, hS⟩ := hJ
      have hn' : Near C.w0.heap.size C.hot W1 W2 := ⟨hn.os, hn.tape, hn.output, hn.size, fun k hk' hnot => hn.block k (Nat.lt_of_lt_of_le hk' hSW.near.size) (fun hb => by
        rw [← hS0] at hb
        rcases (foots_old (B := 0) hSW hb).1 with h3 | h3
        · omega
        · exact hnot h3)⟩
      refine ⟨i, ⟨hSt.near.trans hn', fun y hy => (hSt.holds y hy).keep (fun b hb => hk b ((hS b).2 ⟨y, hy, hb⟩)) hn', hSt.sep⟩, hS⟩
  have hit := hiter W (w.heap.size + 1) w.heap.size r hSW _ Jn (stpB stp) (fun t => t.2 = none) (s0, none) (w.heap.size + 1)
  rw [hS0] at hit
  have hJ0 : Jn (s0, none) S0 W := by
    rw [hJn]
    refine ⟨i0, by rw [hr0]; exact hSW, fun b => by rw [hr0, hS0]⟩
  have hcall := hit hcons rfl hJ0
  have hrun := call_run (callable_of hcal) ((Value.func (.yield (w.heap.size + 1)) #[] #[]) :: lb).toArray W
  refine ⟨w.heap.size + 1, [{ target := .collected w.heap.size, args := #[] }], W, { target := .fn (.func gf) lb.toArray, args := #[.func (.yield (w.heap.size + 1)) #[] #[]] }, W, gf, ((Value.func (.yield (w.heap.size + 1)) #[] #[]) :: lb).toArray, W, ?_, ?_, fun _ _ => trivial, ?_, fun h => by simp [fc] at h, ?_⟩
  · rw [← hW, hr]; exact run_enterLoop_outer _ _ _ _ _
  · have h1 := hf.ev hg
    simp only [resolve, h1]
    simp [Deferred.ofValue, Act.eval]
  · simp only [invoke]
    have : (#[Value.func (.yield (w.heap.size + 1)) #[] #[]] ++ lb.toArray) = ((Value.func (.yield (w.heap.size + 1)) #[] #[]) :: lb).toArray := by simp
    rw [this]
    exact hrun
  · refine callsIn_fc.2 (hcall.mono fun e W' ⟨⟨v, he⟩, hn, S', hJ, hS'⟩ => ?_)
    subst he
    rw [runsB_runsJ, hJn] at hJ
    obtain ⟨i, hSt, hS⟩ := hJ
    have hrec : W'.heap[w.heap.size + 1]? = some (.loop (recSt r (runsJ stp s0 ys).2)) := hSt.head.2.1
    have hpend : (recSt r (runsJ stp s0 ys).2).pending = (runsJ stp s0 ys).2 := by cases (runsJ stp s0 ys).2 <;> rfl
    have hbz : (recSt r (runsJ stp s0 ys).2).state ≠ .busy := by cases (runsJ stp s0 ys).2 <;> simp [recSt]
    have hfm : Fits C.n (C.mark w.heap.size).ds F { a with defers := [{ target := .collected w.heap.size, args := #[] }] ++ a.defers } := ⟨by simp [Cx.mark, hf.dfr], hf.size, hf.get⟩
    have hStm := (st_putObj hSt (o' := .loop { recSt r (runsJ stp s0 ys).2 with state := .exhausted }) Upd.here).tail
    refine ⟨_, _, run_endLoop hrec hbz, ?_⟩
    rw [hpend]
    cases hj : (runsJ stp s0 ys).2 with
    | none =>
      have := hend w.heap.size i hj _ _ hfm (by rw [hj] at hStm; exact hStm)
      rw [kpost_mark] at this
      exact this
    | some c =>
      have := hjump w.heap.size i c hj _ _ hfm (by rw [hj] at hStm; exact hStm)
      rw [kpost_mark] at this
      rw [show (C.mark w.heap.size).rd = none from hrd] at this
      exact this
end
end Eng
end Go.Proofs.Ytmcmmmaffdenjaa
