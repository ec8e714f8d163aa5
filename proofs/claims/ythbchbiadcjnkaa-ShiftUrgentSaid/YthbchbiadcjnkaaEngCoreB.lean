/-
  The engine: rules of symbolic execution over the model's code, in one text (or two).
-/
import Derived.Test.YthbchbiadcjnkaaEngCoreA
import Derived.RangeFuncRecord
import Derived.Lib.BitFns
import Derived.WalkSpells
import Derived.Scope
/-
  Ranges over functions: what an iterator promises, what a loop's body owes, and the loop's rule.
-/
namespace Go.Proofs.Ythbchbiadcjnkaa
namespace Eng
open Go.RowKit
set_option linter.unusedVariables false
/-- A call of yield. -/
def YieldRun (P : Program) (l : Nat) (args : List Value) (w : World) (R : Value → World → Prop) : Prop :=
  ∃ fn tmps assign body, (Instr.yield l args.toArray).run P w = .ok (.round l fn tmps assign body) w ∧ RoundIn (fc none) 0 P l fn tmps assign body w (fun e w' => ∃ v, e = .returned v ∧ R v w')
/-- What a loop does with what an iterator hands it: a state, the blocks in which it lies, a step, and whether it goes on. -/
structure Consumer {τ α : Type} (P : Program) (W : World) (S0 : Nat → Prop) (l : Nat) (enc : α → List Value) (ok : α → Prop) (Jn : τ → (Nat → Prop) → World → Prop) (stp : τ → α → τ × Bool) (live : τ → Prop) : Prop where
  step : ∀ s S x w, ok x → live s → Jn s S w → Near W.heap.size S0 W w → YieldRun P l (enc x) w (fun v w' => v = .bool (stp s x).2 ∧ Near w.heap.size S w w' ∧ ∃ S', Jn (stp s x).1 S' w' ∧ ∀ b, S' b → S b ∨ w.heap.size ≤ b)
  goes : ∀ s x, live s → (stp s x).2 = true → live (stp s x).1
  lt : ∀ s S w b, Jn s S w → S b → b < w.heap.size
  stab : ∀ s S w w', Jn s S w → Near W.heap.size S0 w w' → (∀ b, S b → w'.heap[b]? = w.heap[b]?) → (∀ b, S b → S0 b ∨ W.heap.size ≤ b) → Jn s S w'
def runsB {τ α : Type} (stp : τ → α → τ × Bool) : τ → List α → τ
  | s, [] => s
  | s, y :: ys => match stp s y with
    | (s', true) => runsB stp s' ys
    | (s', false) => s'
theorem Consumer.start {τ α : Type} {P : Program} {W : World} {S0 : Nat → Prop} {l : Nat} {enc : α → List Value} {ok : α → Prop} {Jn : τ → (Nat → Prop) → World → Prop} {stp : τ → α → τ × Bool} {live : τ → Prop}
    (h : Consumer P W S0 l enc ok Jn stp live) {s : τ} (h0 : Jn s S0 W) : St W S0 [.abs S0 (Jn s S0)] W :=
  (St.start W S0).cons ⟨fun b hb => ⟨.inr hb, h.lt _ _ _ _ h0 hb⟩, h0, fun w' hn hk => h.stab _ _ _ _ h0 hn hk (fun b hb => .inl hb)⟩ (fun y hy => by cases hy)
section
variable {C : Cx} {F : Fr} {L : List HA} {o : Oper} {K : List KI} {ops : Array Oper} {m : Bool} {rest : List Oper}
end
/-! ### Calls that hand back new memory -/
theorem St.adopt {w0 w w' : World} {hot : Nat → Prop} {L Ln : List HA} (h : St w0 hot L w) (h' : St w Cold Ln w') (habs : ∀ S p, HA.abs S p ∈ Ln → ∀ u u', p u → (∀ b, S b → u'.heap[b]? = u.heap[b]?) → p u') : St w0 hot (Ln ++ L) w' := by
  have h1 := h.later h'.below
  have hft : ∀ b, (w.heap.size ≤ b ∨ Cold b) → w0.heap.size ≤ b ∨ hot b := fun b hb => .inl (Nat.le_trans h.near.size (hb.resolve_right (fun h => h)))
  refine ⟨h1.near, fun x hx => ?_, List.pairwise_append.2 ⟨h'.sep, h.sep, fun x hx y hy b hbx hby => ?_⟩⟩
  · rcases List.mem_append.1 hx with hx | hx
    · have hx' := h'.holds x hx
      cases x with
      | cells b t cs => exact ⟨hft b hx'.1, hx'.2⟩
      | own v e sz n xs => exact ⟨fun b hb => hft b (hx'.1 b hb), hx'.2⟩
      | abs S p => exact ⟨fun b hb => ⟨hft b (hx'.1 b hb).1, (hx'.1 b hb).2⟩, hx'.2.1, fun w'' _ hk => habs S p hx _ _ hx'.2.1 hk⟩
      | pure p => exact hx'
    · exact h1.holds x hx
  · have h2 := ((h'.holds x hx).lt hbx).1
    have h3 := ((h.holds y hy).lt hby).2
    rcases h2 with h2 | h2
    · omega
    · exact h2
section
variable {C : Cx} {F : Fr} {L : List HA} {o : Oper} {K : List KI} {ops : Array Oper} {rest : List Oper}
/-- Assertions of the plain kinds. -/
def plainHA : List HA → Prop
  | [] => True
  | .abs S p :: L => (∀ u u', p u → (∀ b, S b → u'.heap[b]? = u.heap[b]?) → p u') ∧ plainHA L
  | _ :: L => plainHA L
theorem plainHA_abs {L : List HA} (h : plainHA L) (S : Nat → Prop) (p : World → Prop) (hm : HA.abs S p ∈ L) : ∀ u u' : World, p u → (∀ b, S b → u'.heap[b]? = u.heap[b]?) → p u' := by
  induction L with
  | nil => cases hm
  | cons x L ih =>
    rcases List.mem_cons.1 hm with h1 | h1
    · subst h1; exact h.1
    · cases x with
      | abs _ _ => exact ih h.2 h1
      | cells _ _ _ => exact ih h h1
      | own _ _ _ _ _ => exact ih h h1
      | pure _ => exact ih h h1
theorem j_callN {ξ : Type} {al : List Operand} {fo : Operand} {ats : Array TypeId} {f d : Nat} {caps vs : List Value} (ho : o.op = .call { callee := .value fo, args := al.toArray, argTypes := ats })
    (hg : o.guard = none) (hd : o.dst = some d) (hn : Nat.blt d C.n = true) (hfo : ev F fo = some (.func (.func f) #[] caps.toArray)) (ha : evs F al = some vs) (hc : has C.fns f = true) (V : ξ → Value) (pre : ξ → Prop) (Ln : ξ → List HA)
    (hcall : ∀ w, St C.w0 C.hot L w → Calls C.P f (vs ++ caps).toArray w (fun e w' => ∃ x, pre x ∧ e = .returned (V x) ∧ St w Cold (Ln x) w')) (hpl : ∀ x, plainHA (Ln x))
    (h : ∀ x, pre x → J C ops false rest K ((d, V x) :: F) (Ln x ++ L)) : J C ops false (o :: rest) K F L := by
  refine j_call V pre (fun x => Ln x ++ L) ho hg hd hn hfo ha hc (fun w hs => (hcall w hs).mono fun e w' ⟨x, hp, he, hs'⟩ => ⟨x, hp, he, hs.adopt hs' (plainHA_abs (hpl x))⟩) h
end
/-! ### The loop -/
def haRec (l : Nat) (r : Loop) : HA := .abs (· = l) (fun w => w.heap[l]? = some (.loop r))
def haDef (D : Nat) : HA := .abs (· = D) (fun w => w.heap[D]? = some (.deferred (some [])))
/-- The blocks of a list of assertions. -/
def foots (L : List HA) (b : Nat) : Prop := ∃ x ∈ L, x.foot b
structure LoopIx (σ ξ α : Type) where
  enc : α → List Value
  stp : σ → α → σ × Option Code
  LI : σ → ξ → List HA
def runsJ {σ α : Type} (stp : σ → α → σ × Option Code) : σ → List α → σ × Option Code
  | s, [] => (s, none)
  | s, y :: ys => match stp s y with
    | (s', none) => runsJ stp s' ys
    | (s', some c) => (s', some c)
/-- The step as an iterator sees it. -/
def stpB {σ α : Type} (stp : σ → α → σ × Option Code) (t : σ × Option Code) (x : α) : (σ × Option Code) × Bool := (stp t.1 x, (stp t.1 x).2.isNone)
/-- An iterator's promise: it hands over just these, one after the other, and writes nothing but what its caller's loop writes. -/
def Iterates (P : Program) (gf : Nat) (lb : List Value) {α : Type} (enc : α → List Value) (ok : α → Prop) (ys : List α) (W : World) (S0 : Nat → Prop) : Prop :=
  ∀ (τ : Type) (Jn : τ → (Nat → Prop) → World → Prop) (stp : τ → α → τ × Bool) (live : τ → Prop) (s0 : τ) (l : Nat), Consumer P W S0 l enc ok Jn stp live → live s0 → Jn s0 S0 W →
    Calls P gf ((Value.func (.yield l) #[] #[]) :: lb).toArray W (fun e W' => (∃ v, e = .returned v) ∧ Near W.heap.size S0 W W' ∧ ∃ S', Jn (runsB stp s0 ys) S' W' ∧ ∀ b, S' b → S0 b ∨ W.heap.size ≤ b)
section
variable {C : Cx} {F : Fr} {L : List HA} {K : List KI}
theorem foots_old {B : Nat} {w0 w : World} {hot : Nat → Prop} (h : St w0 hot L w) {b : Nat} (hb : foots L b) : (w0.heap.size ≤ b ∨ hot b) ∧ b < w.heap.size := by
  obtain ⟨x, hx, hf⟩ := hb
  exact (h.holds x hx).lt hf
/-- From the loop's own view of memory to a round's, and back. -/
theorem St.round {w0 w : World} {hot : Nat → Prop} (h : St w0 hot L w) : St w (foots L) L w := by
  refine ⟨Near.refl _ _ _, fun x hx => ?_, h.sep⟩
  have hx' := h.holds x hx
  have hft : ∀ b, x.foot b → w.heap.size ≤ b ∨ foots L b := fun b hb => .inr ⟨x, hx, hb⟩
  cases x with
  | cells b t cs => exact ⟨hft b rfl, hx'.2⟩
  | own v e sz n xs => exact ⟨fun b hb => hft b hb, hx'.2⟩
  | abs S p =>
    refine ⟨fun b hb => ⟨hft b hb, (hx'.1 b hb).2⟩, hx'.2.1, fun w' hn hk => hx'.2.2 w' ⟨hn.os, hn.tape, hn.output, hn.size, fun k hk' hnot => hn.block k (Nat.lt_of_lt_of_le hk' h.near.size) (fun hf => by
      rcases (foots_old (B := 0) h hf).1 with h3 | h3
      · omega
      · exact hnot h3)⟩ hk⟩
  | pure p => exact hx'
end
def Cx.mark (C : Cx) (D : Nat) : Cx := { C with ds := { target := .collected D, args := #[] } :: C.ds }
/-- The frame and the memory of a round. -/
def Cx.inRound (C : Cx) (l : Nat) (Q : Exit → Act → World → Prop) (W1 : World) (hot : Nat → Prop) : Cx := { C with rd := some l, ds := [], Qr := Q, w0 := W1, hot := hot }
def recSt (r : Loop) : Option Code → Loop
  | none => { r with state := .ready, pending := none }
  | some c => { r with state := .done, pending := some c }
def roundStart (C : Cx) (l : Nat) (body : Code) : Act → World → Prop := fun a w => ∃ w₂, (Instr.beginRound l).run C.P w = .ok () w₂ ∧ body.wpIn (fc (some l)) 0 C.P C.Qf a w₂
section
variable {C : Cx} {F : Fr} {L : List HA} {K : List KI}
def jumpOf : Exit → Option (Option Code)
  | .normal => some none
  | .ret => some (some .ret)
  | .exit id => some (some (.exit id))
  | .goto t => some (some (.goto t))
  | _ => none
def parFr : List Tmp → List Value → Fr → Fr
  | p :: ps, v :: vs, F => parFr ps vs ((p, v) :: F)
  | _, _, F => F
end
end Eng
end Go.Proofs.Ythbchbiadcjnkaa

/-
  Ranges over functions that hand over memory of their own.
-/
namespace Go.Proofs.Ythbchbiadcjnkaa
namespace Eng
open Go.RowKit
set_option linter.unusedVariables false
/-- What a loop does with what an iterator hands it: a state, the blocks in which it lies, a step, and whether it goes on. -/
structure ConsumerW {τ α : Type} (P : Program) (W : World) (S0 : Nat → Prop) (l : Nat) (encW : α → (Nat → Prop) → List Value → World → Prop) (Jn : τ → (Nat → Prop) → World → Prop) (stp : τ → α → τ × Bool) (live : τ → Prop) (att : τ → α → Prop) : Prop where
  step : ∀ s S x vs w, encW x S vs w → live s → att s x → Jn s S w → Near W.heap.size S0 W w → YieldRun P l vs w (fun v w' => v = .bool (stp s x).2 ∧ Near w.heap.size S w w' ∧ ∃ S', Jn (stp s x).1 S' w' ∧ ∀ b, S' b → S b ∨ w.heap.size ≤ b)
  goes : ∀ s x, live s → (stp s x).2 = true → live (stp s x).1
  lt : ∀ s S w b, Jn s S w → S b → b < w.heap.size
  stab : ∀ s S w w', Jn s S w → Near W.heap.size S0 w w' → (∀ b, S b → w'.heap[b]? = w.heap[b]?) → (∀ b, S b → S0 b ∨ W.heap.size ≤ b) → Jn s S w'
theorem ConsumerW.start {τ α : Type} {P : Program} {W : World} {S0 : Nat → Prop} {l : Nat} {encW : α → (Nat → Prop) → List Value → World → Prop} {Jn : τ → (Nat → Prop) → World → Prop} {stp : τ → α → τ × Bool} {live : τ → Prop} {att : τ → α → Prop}
    (h : ConsumerW P W S0 l encW Jn stp live att) {s : τ} (h0 : Jn s S0 W) : St W S0 [.abs S0 (Jn s S0)] W :=
  (St.start W S0).cons ⟨fun b hb => ⟨.inr hb, h.lt _ _ _ _ h0 hb⟩, h0, fun w' hn hk => h.stab _ _ _ _ h0 hn hk (fun b hb => .inl hb)⟩ (fun y hy => by cases hy)
section
variable {C : Cx} {F : Fr} {L : List HA} {o : Oper} {K : List KI} {ops : Array Oper} {m : Bool} {rest : List Oper}
end
/-- The states along a list. -/
def trc {τ α : Type} (stp : τ → α → τ × Bool) (s : τ) (l : List α) : τ := l.foldl (fun s y => (stp s y).1) s
def Att {τ α : Type} (stp : τ → α → τ × Bool) (s0 : τ) (ys : List α) (s : τ) (x : α) : Prop := ∃ i, ys[i]? = some x ∧ s = trc stp s0 (ys.take i)
/-- An iterator's promise: it hands over just these, one after the other, and writes nothing but what its caller's loop writes. -/
def IteratesW (P : Program) (gf : Nat) (lb : List Value) {α : Type} (encW : α → (Nat → Prop) → List Value → World → Prop) (ys : List α) (W : World) (S0 : Nat → Prop) : Prop :=
  ∀ (τ : Type) (Jn : τ → (Nat → Prop) → World → Prop) (stp : τ → α → τ × Bool) (live : τ → Prop) (s0 : τ) (l : Nat), ConsumerW P W S0 l encW Jn stp live (Att stp s0 ys) → live s0 → Jn s0 S0 W →
    Calls P gf ((Value.func (.yield l) #[] #[]) :: lb).toArray W (fun e W' => (∃ v, e = .returned v) ∧ Near W.heap.size S0 W W' ∧ ∃ S', Jn (runsB stp s0 ys) S' W' ∧ ∀ b, S' b → S0 b ∨ W.heap.size ≤ b)
section
variable {C : Cx} {F : Fr} {L : List HA} {K : List KI}
end
end Eng
end Go.Proofs.Ythbchbiadcjnkaa

/-
  A byte of the table of lengths; remainders of numbers without a sign.
-/
namespace Go.Proofs.Ythbchbiadcjnkaa
namespace Eng
open Go.RowKit
set_option linter.unusedVariables false
set_option linter.unusedSimpArgs false
section
variable {C : Cx} {F : Fr} {L : List HA} {o : Oper} {K : List KI} {ops : Array Oper} {m : Bool} {rest : List Oper} {x y : Operand} {t u : TypeId} {k k' : IntKind} {a b : Int}
theorem tab_str {P : Program} {t : TypeId} {ti : TI} (h : TIok P t ti) (hk : ti.kind = .str) : P.underlying t = some .string := by
  have := h.kind
  rw [hk] at this
  simp only [TK.check] at this
  split at this
  · assumption
  · cases this
theorem q_index_len8 {ti : TI} (ho : o.op = .index t x y) (ht : tget C.tab t = some ti) (hk : ti.kind = .str) (hx : ev F x = some (.string Lib.len8tab)) (hy : ev F y = some (.int k a)) (hr : 0 ≤ a ∧ a ≤ 255) : Qv C o F L (.int .u8 (Lib.bitLen a.toNat : Nat)) :=
  .of_run fun ac w hf hs => by
    have h1 := Lib.run_index_len8tab (P := C.P) w t k a (tab_str (C.ok.get ht) hk) hr.1 hr.2
    rw [Lib.len8_of a hr.1 hr.2] at h1
    simp [execOp, ho, hf.ev hx, hf.ev hy, h1]
theorem q_minr {r : Int} (ho : o.op = .call { callee := .builtin .min, args := #[x, y], argTypes := #[t, u] }) (hx : ev F x = some (.int k a)) (hy : ev F y = some (.int k b)) (hr : (if b < a then b else a) = r) : Qv C o F L (.int k r) :=
  .of_run fun ac w hf hs => by
    subst hr
    simp [execOp, ho, resolve, invoke, builtin, Builtin.min_, Builtin.min2, hf.ev hx, hf.ev hy]
theorem q_maxr {r : Int} (ho : o.op = .call { callee := .builtin .max, args := #[x, y], argTypes := #[t, u] }) (hx : ev F x = some (.int k a)) (hy : ev F y = some (.int k b)) (hr : (if a < b then b else a) = r) : Qv C o F L (.int k r) :=
  .of_run fun ac w hf hs => by
    subst hr
    simp [execOp, ho, resolve, invoke, builtin, Builtin.max_, Builtin.max2, hf.ev hx, hf.ev hy]
theorem q_eqlnil {A : Option Addr} {n c n' c' e sz by_ : Nat} {ti : TI} (ho : o.op = .binOp .eql t x y u) (ht : tget C.tab t = some ti) (hk : ti.kind = .slice e sz by_) (hx : ev F x = some (.slice A n c)) (hy : ev F y = some (.slice none n' c')) : Qv C o F L (.bool A.isNone) :=
  .of_run fun ac w hf hs => by
    obtain ⟨hu, _⟩ := tk_slice (C.ok.get ht) hk
    have h1 : (binOp .eql t (.slice A n c) (.slice none n' c')).run C.P w = .ok (.bool A.isNone) w := by
      simp only [binOp]
      simp [Op.equal, Op.maxDepth, Lib.run_equalIn_slice_nil w 9999 t e A n c n' c' hu]
    simp only [execOp, ho, hf.ev hx, hf.ev hy]
    simp only [eqGuard]
    simp [h1]
theorem q_eqlsome {A : Addr} {n c n' c' e sz by_ : Nat} {ti : TI} (ho : o.op = .binOp .eql t x y u) (ht : tget C.tab t = some ti) (hk : ti.kind = .slice e sz by_) (hx : ev F x = some (.slice (some A) n c)) (hy : ev F y = some (.slice none n' c')) : Qv C o F L (.bool false) :=
  q_eqlnil ho ht hk hx hy
end
end Eng
end Go.Proofs.Ythbchbiadcjnkaa

/-
  Ways that meet again: what follows is shown once.
-/
namespace Go.Proofs.Ythbchbiadcjnkaa
namespace Eng
open Go.RowKit
set_option linter.unusedVariables false
section
variable {C : Cx} {F : Fr} {L Lp : List HA} {K : List KI} {ops : Array Oper} {fuel : Nat} {listed : Array Bool}
theorem ja_cut {ι : Type} (I : ι → Prop) (F' : ι → Fr) (L' : ι → List HA) (main : (∀ i, I i → SQ C .normal K (F' i) (L' i)) → JA C ops (kpost C K .normal) Lp fuel listed F L) (tail : ∀ i, I i → SQ C .normal K (F' i) (L' i)) : JA C ops (kpost C K .normal) Lp fuel listed F L := main tail
theorem sc_cut {ι : Type} (I : ι → Prop) (F' : ι → Fr) (L' : ι → List HA) {c : Code} {id : Nat} (main : (∀ i, I i → SQ C .normal K (F' i) (L' i)) → SC C c (.blk id :: K) F L) (tail : ∀ i, I i → SQ C .normal K (F' i) (L' i)) : SC C c (.blk id :: K) F L := main tail
theorem sc_cutq {ι : Type} (I : ι → Prop) (F' : ι → Fr) (L' : ι → List HA) {c d : Code} (main : (∀ i, I i → SC C d K (F' i) (L' i)) → SC C c (.seq d :: K) F L) (tail : ∀ i, I i → SC C d K (F' i) (L' i)) : SC C c (.seq d :: K) F L := main tail
end
end Eng
end Go.Proofs.Ythbchbiadcjnkaa

/-
  A new beginning in the middle of a function: what the call has made so far is taken as given memory, which is only read from here on.
-/
namespace Go.Proofs.Ythbchbiadcjnkaa
namespace Eng
open Go.RowKit
set_option linter.unusedVariables false
def Cx.now (C : Cx) (w1 : World) : Cx := ⟨C.P, C.tab, C.ok, C.fns, C.fok, C.fn, C.R, C.rs, C.hrs, C.Qr, w1, C.n, Cold, C.rd, C.ds⟩
section
variable {C : Cx} {F : Fr} {L : List HA} {K : List KI}
/-- A loop, from a world in which all that was made is only read. -/
theorem sc_own_nil_at {c : Code} (e sz : Nat) (h : SC C c K F (.own (.slice none 0 0) e sz 0 [] :: L)) : SC C c K F L := fun a w hf hs => h a w hf hs.own_nil
end
section
variable {C : Cx} {F : Fr} {L : List HA} {o : Oper}
theorem q_load_extb {t : Nat} {x : Operand} {ti : TI} {b p : Nat} {cs : List Value} {v : Value} (ho : o.op = .load t x) (hx : ev F x = some (.pointer (some ⟨b, p, none⟩))) (ht : tget C.tab t = some ti) (hk : ti.kind.agg = false)
    (hE : ExtC C ⟨b, 0, none⟩ cs) (hv : nth cs p = some v) : Qv C o F L v :=
  .of_run fun a w hf hs => by
    have h1 := hE.now hs p v hv
    rw [add_own, Nat.zero_add] at h1
    have := run_loadOne (C.ok.get ht) hk h1
    simp [execOp, ho, hf.ev hx, Instr.loadAt, Instr.sureAddr, this]
theorem q_loadA_extb {t : Nat} {x : Operand} {ti : TI} {b p : Nat} {cs : List Value} (ho : o.op = .load t x) (hx : ev F x = some (.pointer (some ⟨b, p, none⟩))) (ht : tget C.tab t = some ti) (hk : ti.kind.agg = true)
    (hE : ExtC C ⟨b, 0, none⟩ cs) (hl : ti.size = len (sub cs p ti.size)) : Qv C o F L (.agg (sub cs p ti.size).toArray) :=
  .of_run fun a w hf hs => by
    have := run_loadAgg (C.ok.get ht) hk (ad := ⟨b, p, none⟩) (w := w) hl (fun j v hv => by
      have h1 := hE.now hs (p + j) v (nth_sub _ _ _ _ _ hv)
      rw [add_own, Nat.zero_add] at h1
      rw [add_own]
      exact h1)
    simp [execOp, ho, hf.ev hx, Instr.loadAt, Instr.sureAddr, this]
end
end Eng
end Go.Proofs.Ythbchbiadcjnkaa

/-
  A literal's cells read as a list.
-/
namespace Go.Proofs.Ythbchbiadcjnkaa
namespace Eng
open Go.RowKit
set_option linter.unusedVariables false
theorem rs_lit {α : Type} {f : α → List Value} {sz b u : Nat} {cs : List Value} {w0 w : World} {hot : Nat → Prop} {L : List HA} (l : List α) (hf : ∀ x, (f x).length = sz) (hs : St w0 hot L w) (hin : InL L (.cells b u cs)) (hx : cs = l.flatMap f) : RS w sz f (some ⟨b, 0, none⟩) l := by
  subst hx
  intro i x hx
  refine ⟨_, rfl, by rw [block_add]; exact (Array.getElem?_eq_some_iff.1 (hs.at hin).2).1, fun j v hv => ?_⟩
  rw [nth_eq] at hv
  rw [Eng.add_add, add_own, cells_cell (hs.at hin), nth_eq, Nat.zero_add]
  exact flat_at f sz hf l i x j v hx hv
end Eng
end Go.Proofs.Ythbchbiadcjnkaa

/-
  A walk stops at a region: to leave what is no longer needed.
-/
namespace Go.Proofs.Ythbchbiadcjnkaa
namespace Eng
open Go.RowKit
set_option linter.unusedVariables false
structure SCstop (C : Cx) (c : Code) (K : List KI) (F : Fr) (L : List HA) : Prop where
  h : SC C c K F L
section
variable {C : Cx} {F : Fr} {L : List HA} {K : List KI}
theorem sc_stop (k : Nat) {ops : Array Oper} {d : Bool} (h : SCstop C (.region k ops d) K F L) : SC C (.region k ops d) K F L := h.h
end
end Eng
end Go.Proofs.Ythbchbiadcjnkaa

/-
  What is own behind a region: a slice.
-/
namespace Go.Proofs.Ythbchbiadcjnkaa
namespace Eng
open Go.RowKit
theorem sq_owns {C : Cx} {K : List KI} {F : Fr} {L : List HA} {ex : Exit} {v : Value} {e sz n : Nat} {xs : List Value} (hin : InL L (.own v e sz n xs)) (h : ∀ A c, v = .slice A n c → Sl A n c → SQ C ex K F L) : SQ C ex K F L := fun a w hf hs => by
  have hA := hs.at hin
  rcases hA.2.2 with ⟨hv, h0⟩ | ⟨g, cap, cur, hv, _, _, hnc, hcm, _⟩
  · subst h0
    exact h _ _ hv ⟨fun _ => ⟨rfl, rfl⟩, Nat.le_refl _, by omega⟩ a w hf hs
  · exact h _ _ hv ⟨(fun h => by cases h), hnc, by unfold maxLen at hcm; omega⟩ a w hf hs
end Eng
end Go.Proofs.Ythbchbiadcjnkaa

/-
  Method values.
-/
namespace Go.Proofs.Ythbchbiadcjnkaa
namespace Eng
open Go.RowKit
set_option linter.unusedVariables false
section
variable {C : Cx} {F : Fr} {L : List HA} {o : Oper} {K : List KI} {ops : Array Oper} {m : Bool} {rest : List Oper}
end
end Eng
end Go.Proofs.Ythbchbiadcjnkaa

/-
  Functions with labels whose jumps are left out or leave rounds.
-/
namespace Go.Proofs.Ythbchbiadcjnkaa
namespace Eng
open Go.RowKit
section
variable {C : Cx} {F : Fr} {L : List HA} {K : List KI}
theorem sc_label {l : Nat} (h : SQ C .normal K F L) : SC C (.label l) K F L := fun a w hf hs => wpIn_label (h a w hf hs)
theorem kpost_goto (hrd : C.rd = none) {l : Nat} {a : Act} {w : World} : ∀ K, kpost C K (.goto l) a w → False
  | [], h => by
    simp only [kpost, Cx.Qf, hrd] at h
    exact h
  | .seq c :: K, h => kpost_goto hrd K h
  | .blk id :: K, h => kpost_goto hrd K h
  | .loop J :: K, h => kpost_goto hrd K h
  | .fin J :: K, h => h
theorem sc_scope {c : Code} (hrd : C.rd = none) (h : SC C c K F L) : SC C (.scope c) K F L := fun a w hf hs => by
  have h1 := h a w hf hs
  rw [hrd, fc_none] at h1 ⊢
  rw [wpIn_wide] at h1 ⊢
  refine wp_scope_straight (wp_mono h1 fun e a w hq => ?_)
  cases e with
  | goto l => exact kpost_goto hrd K hq
  | _ => exact hq
end
end Eng
end Go.Proofs.Ythbchbiadcjnkaa
