/-
  The engine: rules of symbolic execution over the model's code, in one text (or two).
-/
import Derived.Test.YtmcmmmaffdenjaaEngCoreA
import Derived.Scope
import Derived.Lib.BitFns
import Derived.WalkSpells
import Derived.Sort.AssemblyPlain
import Derived.Laws.StructEq
/-
  Ranges over functions that keep state of their own in cells, and that need not end by themselves.
-/
namespace Go.Proofs.Ytmcmmmaffdenjaa
namespace Eng
open Go.RowKit
set_option linter.unusedVariables false
/-- The consumer stops somewhere among these. -/
def stopsB {τ α : Type} (stp : τ → α → τ × Bool) : τ → List α → Prop
  | _, [] => False
  | s, y :: ys => (stp s y).2 = false ∨ ((stp s y).2 = true ∧ stopsB stp (stp s y).1 ys)
/-- An iterator's promise: it hands over these one after the other as long as it is asked; it writes nothing but what its caller's loop writes, and blocks E of its own. -/
def IteratesE (P : Program) (gf : Nat) (lb : List Value) {α : Type} (enc : α → List Value) (ok : α → Prop) (ys : List α) (W : World) (S0 E : Nat → Prop) : Prop :=
  ∀ (τ : Type) (Jn : τ → (Nat → Prop) → World → Prop) (stp : τ → α → τ × Bool) (live : τ → Prop) (s0 : τ) (l : Nat), ConsumerW P W (fun b => S0 b ∨ E b) l (fun x _ vs _ => vs = enc x ∧ ok x) Jn stp live (Att stp s0 ys) → live s0 → Jn s0 S0 W → stopsB stp s0 ys →
    Calls P gf ((Value.func (.yield l) #[] #[]) :: lb).toArray W (fun e W' => (∃ v, e = .returned v) ∧ Near W.heap.size (fun b => S0 b ∨ E b) W W' ∧ ∃ S', Jn (runsB stp s0 ys) S' W' ∧ ∀ b, S' b → S0 b ∨ W.heap.size ≤ b)
section
variable {C : Cx} {F : Fr} {L : List HA} {K : List KI}
end
end Eng
end Go.Proofs.Ytmcmmmaffdenjaa

/-
  Functions with labels whose jumps are left out or leave rounds.
-/
namespace Go.Proofs.Ytmcmmmaffdenjaa
namespace Eng
open Go.RowKit
section
variable {C : Cx} {F : Fr} {L : List HA} {K : List KI}
end
end Eng
end Go.Proofs.Ytmcmmmaffdenjaa

/-
  Ranges over functions that hand over things in an order that is not known.
-/
namespace Go.Proofs.Ytmcmmmaffdenjaa
namespace Eng
open Go.RowKit
set_option linter.unusedVariables false
/-- An iterator's promise: it hands over just these, one after the other, and writes nothing but what its caller's loop writes. -/
def IteratesP (P : Program) (gf : Nat) (lb : List Value) {α : Type} (encW : α → (Nat → Prop) → List Value → World → Prop) (Pre Ys : List α → Prop) (W : World) (S0 : Nat → Prop) : Prop :=
  ∀ (τ : Type) (Jn : τ → (Nat → Prop) → World → Prop) (stp : τ → α → τ × Bool) (live : τ → Prop) (s0 : τ) (l : Nat), ConsumerW P W S0 l encW Jn stp live (fun s x => ∃ pre, Pre (pre ++ [x]) ∧ s = trc stp s0 pre) → live s0 → Jn s0 S0 W →
    Calls P gf ((Value.func (.yield l) #[] #[]) :: lb).toArray W (fun e W' => (∃ v, e = .returned v) ∧ Near W.heap.size S0 W W' ∧ ∃ ys, Ys ys ∧ ∃ S', Jn (runsB stp s0 ys) S' W' ∧ ∀ b, S' b → S0 b ∨ W.heap.size ≤ b)
section
variable {C : Cx} {F : Fr} {L : List HA} {K : List KI}
/-- 'for x := range g { body }'. -/
theorem sc_rangeP {σ ξ α : Type} {g : Operand} {ps : List Tmp} {assign body : Code} {gf : Nat} {lb : List Value} (encW : α → (Nat → Prop) → List Value → World → Prop) (Pre Ys : List α → Prop) (stp : σ → α → σ × Option Code) (LI : σ → ξ → List HA) (s0 : σ) (i0 : ξ)
    (hrd : C.rd = none) (hg : ev F g = some (.func (.func gf) #[] lb.toArray)) (hcal : has C.fns gf = true) (hps : ∀ x S vs w, encW x S vs w → vs.length = ps.length) (hpn : ∀ p ∈ ps, p < C.n) (hL : LSub (LI s0 i0) L)
    (hab : ∀ s i S p, HA.abs S p ∈ LI s i → ∀ u u', p u → (∀ b, S b → u'.heap[b]? = u.heap[b]?) → p u')
    (hiter : ∀ w l D r, St C.w0 C.hot (haRec l r :: haDef D :: LI s0 i0) w → IteratesP C.P gf lb encW Pre Ys w (foots (haRec l r :: haDef D :: LI s0 i0)))
    (hbody : ∀ (l D : Nat) (r : Loop) (W1 : World) (s : σ) (i : ξ) (x : α) (vs : List Value) (Q : Exit → Act → World → Prop), encW x (foots (haRec l r :: haDef D :: LI s i)) vs W1 → (∃ pre, Pre (pre ++ [x]) ∧ s = pre.foldl (fun s y => (stp s y).1) s0) → r.state = .ready → St C.w0 C.hot (haRec l r :: haDef D :: LI s i) W1 →
      (∀ (e : Exit) (jump : Option Code) (i' : ξ) (F' : Fr) (L' M : List HA), jumpOf e = some jump → (stp s x).2 = jump → Rem L' (haRec l { r with state := .busy }) M → LSub (haDef D :: LI (stp s x).1 i') M → SQ (C.inRound l Q W1 (foots (haRec l r :: haDef D :: LI s i))) e [] F' L') →
      SC (C.inRound l Q W1 (foots (haRec l r :: haDef D :: LI s i))) assign [.fin (roundStart (C.inRound l Q W1 (foots (haRec l r :: haDef D :: LI s i))) l body)] (parFr ps vs F) (haRec l r :: haDef D :: LI s i))
    (hend : ∀ D i ys, Ys ys → (runsJ stp s0 ys).2 = none → SQ (C.mark D) .normal K F (haDef D :: LI (runsJ stp s0 ys).1 i))
    (hjump : ∀ D i ys c, Ys ys → (runsJ stp s0 ys).2 = some c → SC (C.mark D) c K F (haDef D :: LI (runsJ stp s0 ys).1 i)) : SC C (.rangeFunc g ps.toArray assign body) K F L := by
  intro a w hf hs
  rw [hrd]
  have hs0 := hs.sub hL
  refine wpIn_rangeFunc fun fn _ => ?_
  obtain ⟨r, hr⟩ : ∃ r : Loop, r = { state := .ready, pending := none, fn, tmps := a.tmps, params := ps.toArray, assign, body, defers := w.heap.size } := ⟨_, rfl⟩
  obtain ⟨W, hW⟩ : ∃ W, (w.alloc (.deferred (some []))).alloc (.loop r) = W := ⟨_, rfl⟩
  have hSW : St C.w0 C.hot (haRec (w.heap.size + 1) r :: haDef w.heap.size :: LI s0 i0) W := by
    have h1 : St C.w0 C.hot (haDef w.heap.size :: LI s0 i0) (w.alloc (.deferred (some []))) :=
      hs0.alloc _ (fun b hb => hb) (haObj_holds (.inl hs0.near.size) (World.alloc_heap_new w _))
    have h2 := World.alloc_heap_new (w.alloc (.deferred (some []))) (.loop r)
    rw [World.size_alloc] at h2
    rw [← hW]
    refine h1.alloc _ (fun b hb => by rw [World.size_alloc]; exact hb) (haObj_holds (.inl (by have := hs0.near.size; omega)) h2)
  obtain ⟨S0, hS0⟩ : ∃ S0, foots (haRec (w.heap.size + 1) r :: haDef w.heap.size :: LI s0 i0) = S0 := ⟨_, rfl⟩
  have hready : r.state = .ready := by rw [hr]
  have hr0 : recSt r none = r := by rw [hr]; rfl
  -- the loop's own state, as an iterator sees it
  obtain ⟨Jn, hJn⟩ : ∃ Jn : σ × Option Code → (Nat → Prop) → World → Prop, Jn = fun t S w' => ∃ i, St C.w0 C.hot (haRec (w.heap.size + 1) (recSt r t.2) :: haDef w.heap.size :: LI t.1 i) w' ∧ ∀ b, S b ↔ foots (haRec (w.heap.size + 1) (recSt r t.2) :: haDef w.heap.size :: LI t.1 i) b := ⟨_, rfl⟩
  have habs : ∀ (rr : Loop) s i S p, HA.abs S p ∈ (haRec (w.heap.size + 1) rr :: haDef w.heap.size :: LI s i) → ∀ u u' : World, p u → (∀ b, S b → u'.heap[b]? = u.heap[b]?) → p u' := by
    intro rr s i S p hm u u' hp hk
    rcases List.mem_cons.1 hm with hm | hm
    · unfold haRec at hm
      injection hm with h1 h2
      subst h1; subst h2
      exact (hk _ rfl).trans hp
    · rcases List.mem_cons.1 hm with hm | hm
      · unfold haDef at hm
        injection hm with h1 h2
        subst h1; subst h2
        exact (hk _ rfl).trans hp
      · exact hab s i S p hm u u' hp hk
  have hcons : ConsumerW C.P W S0 (w.heap.size + 1) encW Jn (stpB stp) (fun t => t.2 = none) (fun t x => ∃ pre, Pre (pre ++ [x]) ∧ t = trc (stpB stp) (s0, none) pre) := by
    refine ⟨?_, ?_, ?_, ?_⟩
    · rintro ⟨s, j⟩ S x vs W1 hok hlive ⟨ix, hix, hsx⟩ hJ hn
      have hsx' := congrArg Prod.fst hsx
      rw [trc_stpB] at hsx'
      simp only at hlive
      subst hlive
      rw [hJn] at hJ
      obtain ⟨i, hSt, hS⟩ := hJ
      rw [hr0] at hSt hS
      have hrec : W1.heap[w.heap.size + 1]? = some (.loop r) := hSt.head.2.1
      refine ⟨_, _, _, _, run_yield (P := C.P) hrec (by rw [hr]; simp [hps x _ _ _ hok]), ?_⟩
      let R : Ending → World → Prop := fun e w' => ∃ v, e = .returned v ∧ (v = .bool (stpB stp (s, none) x).2 ∧ Near W1.heap.size S W1 w' ∧ ∃ S', Jn (stpB stp (s, none) x).1 S' w' ∧ ∀ b, S' b → S b ∨ W1.heap.size ≤ b)
      have hfx : Fits C.n [] (parFr ps vs F) ⟨(ps.zip vs).foldl (fun tmps (x : Tmp × Value) => tmps.setIfInBounds x.1 x.2) a.tmps, []⟩ :=
        parFr_fits ps vs F C.n [] a.tmps hpn ⟨rfl, hf.size, hf.get⟩
      have hend' : ∀ (e : Exit) (jump : Option Code) (i' : ξ) (F' : Fr) (L' M : List HA), jumpOf e = some jump → (stp s x).2 = jump → Rem L' (haRec (w.heap.size + 1) { r with state := .busy }) M → LSub (haDef w.heap.size :: LI (stp s x).1 i') M →
          SQ (C.inRound (w.heap.size + 1) (roundPost C.P (w.heap.size + 1) R) W1 (foots (haRec (w.heap.size + 1) r :: haDef w.heap.size :: LI s i))) e [] F' L' := by
        intro e jump i' F' L' M hj hstp hrem hsub
        refine sq_round (R := R) rfl rfl hj hrem fun w' hSt' => ?_
        have hSt1 : St W1 (foots (haRec (w.heap.size + 1) r :: haDef w.heap.size :: LI s i)) (haRec (w.heap.size + 1) (recSt r jump) :: haDef w.heap.size :: LI (stp s x).1 i') w' := by
          refine St.sub (L := haRec (w.heap.size + 1) (recSt r jump) :: M) hSt' ?_
          exact LSub.cons Rem.here hsub
        have hout := St.unround hSt hSt1 (habs _ _ _)
        refine ⟨_, rfl, ?_, ⟨hSt1.near.os, hSt1.near.tape, hSt1.near.output, hSt1.near.size, fun k hk hnot => hSt1.near.block k hk (fun hb => hnot ((hS k).2 hb))⟩, foots (haRec (w.heap.size + 1) (recSt r jump) :: haDef w.heap.size :: LI (stp s x).1 i'), ?_, ?_⟩
        · simp only [stpB]; rw [hstp]
        · rw [hJn]
          refine ⟨i', ?_, fun b => ?_⟩
          · simp only [stpB]; rw [hstp]; exact hout
          · simp only [stpB]; rw [hstp]
        · intro b hb
          rcases (foots_old (B := 0) hSt1 hb).1 with h3 | h3
          · exact .inr h3
          · exact .inl ((hS b).2 h3)
      have hb := hbody (w.heap.size + 1) w.heap.size r W1 s i x vs (roundPost C.P (w.heap.size + 1) R) (by rw [show foots (haRec (w.heap.size + 1) r :: haDef w.heap.size :: LI s i) = S from funext fun b => propext (hS b).symm]; exact hok) ⟨ix, hix, hsx'⟩ hready hSt hend'
      have hb1 := hb _ W1 hfx hSt.round
      refine (roundIn_of_wpIn (F := fc none) (n := 0) trivial ?_ : RoundIn (fc none) 0 C.P (w.heap.size + 1) _ _ _ _ W1 R)
      have e1 : ((r.params.zip vs.toArray).foldl (fun tmps (t, a) => tmps.setIfInBounds t a) r.tmps) = (ps.zip vs).foldl (fun tmps (x : Tmp × Value) => tmps.setIfInBounds x.1 x.2) a.tmps := by
        rw [hr]
        simp only [List.zip_toArray, List.foldl_toArray]
      have e2 : r.assign = assign := by rw [hr]
      have e3 : r.body = body := by rw [hr]
      rw [e1, e2, e3]
      exact hb1
    · rintro ⟨s, j⟩ x hlive hgo
      simp only [stpB] at hgo ⊢
      cases h : (stp s x).2 with
      | none => rfl
      | some c => rw [h] at hgo; simp at hgo
    · rintro ⟨s, j⟩ S W1 b hJ hb
      rw [hJn] at hJ
      obtain ⟨i, hSt, hS⟩ := hJ
      exact (foots_old (B := 0) hSt ((hS b).1 hb)).2
    · rintro ⟨s, j⟩ S W1 W2 hJ hn hk hSb
      rw [hJn] at hJ ⊢
      obtain ⟨i, hSt, hS⟩ := hJ
      have hn' : Near C.w0.heap.size C.hot W1 W2 := ⟨hn.os, hn.tape, hn.output, hn.size, fun k hk' hnot => hn.block k (Nat.lt_of_lt_of_le hk' hSW.near.size) (fun hb => by
        rw [← hS0] at hb
        rcases (foots_old (B := 0) hSW hb).1 with h3 | h3
        · omega
        · exact hnot h3)⟩
      refine ⟨i, ⟨hSt.near.trans hn', fun y hy => (hSt.holds y hy).keep (fun b hb => hk b ((hS b).2 ⟨y, hy, hb⟩)) hn', hSt.sep⟩, hS⟩
  have hit := hiter W (w.heap.size + 1) w.heap.size r hSW _ Jn (stpB stp) (fun t => t.2 = none) (s0, none) (w.heap.size + 1)
  rw [hS0] at hit
  have hJ0 : Jn (s0, none) S0 W := by
    rw [hJn]
    refine ⟨i0, by rw [hr0]; exact hSW, fun b => by rw [hr0, hS0]⟩
  have hcall := hit hcons rfl hJ0
  have hrun := call_run (callable_of hcal) ((Value.func (.yield (w.heap.size + 1)) #[] #[]) :: lb).toArray W
  refine ⟨w.heap.size + 1, [{ target := .collected w.heap.size, args := #[] }], W, { target := .fn (.func gf) lb.toArray, args := #[.func (.yield (w.heap.size + 1)) #[] #[]] }, W, gf, ((Value.func (.yield (w.heap.size + 1)) #[] #[]) :: lb).toArray, W, ?_, ?_, fun _ _ => trivial, ?_, fun h => by simp [fc] at h, ?_⟩
  · rw [← hW, hr]; exact run_enterLoop_outer _ _ _ _ _
  · have h1 := hf.ev hg
    simp only [resolve, h1]
    simp [Deferred.ofValue, Act.eval]
  · simp only [invoke]
    have : (#[Value.func (.yield (w.heap.size + 1)) #[] #[]] ++ lb.toArray) = ((Value.func (.yield (w.heap.size + 1)) #[] #[]) :: lb).toArray := by simp
    rw [this]
    exact hrun
  · refine callsIn_fc.2 (hcall.mono fun e W' ⟨⟨v, he⟩, hn, ys, hys, S', hJ, hS'⟩ => ?_)
    subst he
    rw [runsB_runsJ, hJn] at hJ
    obtain ⟨i, hSt, hS⟩ := hJ
    have hrec : W'.heap[w.heap.size + 1]? = some (.loop (recSt r (runsJ stp s0 ys).2)) := hSt.head.2.1
    have hpend : (recSt r (runsJ stp s0 ys).2).pending = (runsJ stp s0 ys).2 := by cases (runsJ stp s0 ys).2 <;> rfl
    have hbz : (recSt r (runsJ stp s0 ys).2).state ≠ .busy := by cases (runsJ stp s0 ys).2 <;> simp [recSt]
    have hfm : Fits C.n (C.mark w.heap.size).ds F { a with defers := [{ target := .collected w.heap.size, args := #[] }] ++ a.defers } := ⟨by simp [Cx.mark, hf.dfr], hf.size, hf.get⟩
    have hStm := (st_putObj hSt (o' := .loop { recSt r (runsJ stp s0 ys).2 with state := .exhausted }) Upd.here).tail
    refine ⟨_, _, run_endLoop hrec hbz, ?_⟩
    rw [hpend]
    cases hj : (runsJ stp s0 ys).2 with
    | none =>
      have := hend w.heap.size i ys hys hj _ _ hfm (by rw [hj] at hStm; exact hStm)
      rw [kpost_mark] at this
      exact this
    | some c =>
      have := hjump w.heap.size i ys c hys hj _ _ hfm (by rw [hj] at hStm; exact hStm)
      rw [kpost_mark] at this
      rw [show (C.mark w.heap.size).rd = none from hrd] at this
      exact this
end
end Eng
end Go.Proofs.Ytmcmmmaffdenjaa

/-
  A field of a struct's value, in one cell.
-/
namespace Go.Proofs.Ytmcmmmaffdenjaa
namespace Eng
open Go.RowKit
section
variable {C : Cx} {F : Fr} {L : List HA} {o : Oper}
theorem q_fieldv {t j : Nat} {x : Operand} {vs : List Value} {fs : Array Field} {fd : Field} {ti : TI} {v : Value} (ho : o.op = .field t x j) (hu : C.P.underlying t = some (.struct fs)) (hf : fs[j]? = some fd) (ht : tget C.tab fd.type = some ti) (hk : ti.kind.agg = false)
    (hx : ev F x = some (.agg vs.toArray)) (hv : nth vs fd.offset = some v) : Qv C o F L v :=
  .of_run fun a w hfa hs => by
    have h1 := tk_isAgg (C.ok.get ht) w
    rw [hk] at h1
    rw [nth_eq] at hv
    have h2 : vs.toArray[fd.offset]? = some v := by simpa using hv
    simp [execOp, ho, hfa.ev hx, Instr.field, run_underlying hu, hf, asAgg, part, h1, hv]
end
end Eng
end Go.Proofs.Ytmcmmmaffdenjaa

/-
  A byte of the table of lengths; remainders of numbers without a sign.
-/
namespace Go.Proofs.Ytmcmmmaffdenjaa
namespace Eng
open Go.RowKit
set_option linter.unusedVariables false
set_option linter.unusedSimpArgs false
section
variable {C : Cx} {F : Fr} {L : List HA} {o : Oper} {K : List KI} {ops : Array Oper} {m : Bool} {rest : List Oper} {x y : Operand} {t u : TypeId} {k k' : IntKind} {a b : Int}
theorem tab_str {P : Program} {t : TypeId} {ti : TI} (h : TIok P t ti) (hk : ti.kind = .str) : P.underlying t = some .string := by
  have := h.kind
  rw [hk] at this
  simp only [TK.check] at this
  split at this
  · assumption
  · cases this
theorem q_index_len8 {ti : TI} (ho : o.op = .index t x y) (ht : tget C.tab t = some ti) (hk : ti.kind = .str) (hx : ev F x = some (.string Lib.len8tab)) (hy : ev F y = some (.int k a)) (hr : 0 ≤ a ∧ a ≤ 255) : Qv C o F L (.int .u8 (Lib.bitLen a.toNat : Nat)) :=
  .of_run fun ac w hf hs => by
    have h1 := Lib.run_index_len8tab (P := C.P) w t k a (tab_str (C.ok.get ht) hk) hr.1 hr.2
    rw [Lib.len8_of a hr.1 hr.2] at h1
    simp [execOp, ho, hf.ev hx, hf.ev hy, h1]
theorem q_minr {r : Int} (ho : o.op = .call { callee := .builtin .min, args := #[x, y], argTypes := #[t, u] }) (hx : ev F x = some (.int k a)) (hy : ev F y = some (.int k b)) (hr : (if b < a then b else a) = r) : Qv C o F L (.int k r) :=
  .of_run fun ac w hf hs => by
    subst hr
    simp [execOp, ho, resolve, invoke, builtin, Builtin.min_, Builtin.min2, hf.ev hx, hf.ev hy]
end
end Eng
end Go.Proofs.Ytmcmmmaffdenjaa

/-
  Memory lent to a call.
-/
namespace Go.Proofs.Ytmcmmmaffdenjaa
namespace Eng
open Go.RowKit
set_option linter.unusedVariables false
section
variable {w0 w w' : World} {hot : Nat → Prop} {L L' : List HA}
def HA.kind1 : HA → Prop
  | .cells _ _ _ => True
  | .own _ _ _ _ _ => True
  | _ => False
/-- What is lent, in the callee's eyes. -/
theorem St.lent {x : HA} (h : St w0 hot L w) (hi : InL L x) (hk : x.kind1) : St w x.foot [x] w := by
  refine ⟨Near.refl _ _ _, fun y hy => ?_, List.pairwise_singleton _ _⟩
  rw [List.mem_singleton] at hy
  subst hy
  have hx := h.at hi
  cases y with
  | cells b t cs => exact ⟨.inr rfl, hx.2⟩
  | own v e sz n xs => exact ⟨fun b hb => .inr hb, hx.2⟩
  | abs S p => exact hk.elim
  | pure p => exact hk.elim
/-- What comes back. -/
theorem St.back {x y : HA} (h : St w0 hot L w) (hu : Upd L x y L') (h' : St w x.foot [y] w') (hk : y.kind1) : St w0 hot L' w' := by
  obtain ⟨M, h1, _⟩ := hu.perm
  have hx := (h.perm h1).head
  have hy := h'.head
  have hfoot : ∀ b, y.foot b → w0.heap.size ≤ b ∨ hot b := fun b hb => by
    rcases (hy.lt hb).1 with h3 | h3
    · exact .inl (Nat.le_trans h.near.size h3)
    · exact (hx.lt h3).1
  refine h.upd hu ⟨h'.near.os, h'.near.tape, h'.near.output, h'.near.size, fun k hk => by omega⟩ (fun b hb hne => h'.near.block b hb hne) ?_ (fun b hb => ((hy.lt hb).1).symm)
  cases y with
  | cells b t cs => exact ⟨hfoot b rfl, hy.2⟩
  | own v e sz n xs => exact ⟨fun b hb => hfoot b hb, hy.2⟩
  | abs S p => exact hk.elim
  | pure p => exact hk.elim
end
end Eng
end Go.Proofs.Ytmcmmmaffdenjaa

/-
  What the walks of slices.SortFunc need: elements of a row exchanged, calls of bound values, two pieces of memory lent.
-/
namespace Go.Proofs.Ytmcmmmaffdenjaa
namespace Eng
open Go.RowKit
set_option linter.unusedVariables false
set_option linter.unusedSimpArgs false
theorem splice_whole (cs vs : List Value) (h : cs.length = vs.length) : splice cs 0 vs = vs := by
  rw [splice_eq _ _ _ (by omega)]
  simp [h]
theorem row_at {α : Type} [Inhabited α] (d : Array α) {x : Nat} (hx : x < d.size) : ∃ x1, d[x]! = x1 ∧ d.toList[x]? = some x1 :=
  ⟨d[x]!, rfl, by rw [Array.getElem?_toList, Array.getElem?_eq_getElem hx, getElem!_pos d x hx]⟩
theorem swp_facts {α : Type} [Inhabited α] (d : Array α) {x y : Nat} (hx : x < d.size) (hy : y < d.size) :
    ∃ (x1 x2 : α) (d' : Array α), d[x]! = x1 ∧ d[y]! = x2 ∧ Go.Sort.swp d x y = d' ∧ d.toList[x]? = some x1 ∧ d.toList[y]? = some x2 ∧ (d.toList.set x x2).set y x1 = d'.toList ∧ d'.size = d.size ∧ x < d.toList.length ∧ y < (d.toList.set x x2).length := by
  obtain ⟨x1, e1, g1⟩ := row_at d hx
  obtain ⟨x2, e2, g2⟩ := row_at d hy
  refine ⟨x1, x2, _, e1, e2, rfl, g1, g2, ?_, Go.Sort.swp_size d x y, by simpa using hx, by simpa using hy⟩
  subst e1; subst e2
  unfold Go.Sort.swp
  simp
section
variable {C : Cx} {F : Fr} {L : List HA} {o : Oper} {K : List KI} {ops : Array Oper} {m : Bool} {rest : List Oper}
theorem q_index_at {t : Nat} {x y : Operand} {ti : TI} {e sz by_ n c : Nat} {ad : Addr} {k : IntKind} {z : Int} (i : Nat) (ho : o.op = .indexAddr t x y) (ht : tget C.tab t = some ti) (hk : ti.kind = .slice e sz by_)
    (hx : ev F x = some (.slice (some ad) n c)) (hy : ev F y = some (.int k z)) (h : z = (i : Int) ∧ i < n) : Qv C o F L (.pointer (some (ad.add (i * sz)))) := by
  obtain ⟨rfl, h⟩ := h
  exact q_index_nat ho ht hk hx hy h
theorem j_store_el {α : Type} {f : α → List Value} {l : List α} (i : Nat) (z' : α) {t n c e sz : Nat} {x y : Operand} {ti : TI} {ad : Addr} {v : Value} {L' : List HA} (ho : o.op = .store t x y) (hg : o.guard = none) (hd : o.dst = none)
    (hx : ev F x = some (.pointer (some (ad.add (i * sz))))) (hy : ev F y = some v) (ht : tget C.tab t = some ti) (hl : ti.size = len (vcells v)) (h1 : ones (vcells v) = true) (hin : InL L (.own (.slice (some ad) n c) e sz n (l.flatMap f))) (hf : ∀ x, (f x).length = sz) (hi : i < l.length)
    (hv : vcells v = f z') (hup : Upd L (.own (.slice (some ad) n c) e sz n (l.flatMap f)) (.own (.slice (some ad) n c) e sz n ((l.set i z').flatMap f)) L')
    (h : J C ops false rest K F L') : J C ops false (o :: rest) K F L :=
  j_store_row (z := l[i]) (z' := z') ho hg hd hx hy ht hl h1 hin hf (List.getElem?_eq_getElem hi) (by rw [hv]; exact splice_whole _ _ (by rw [hf, hf])) (by rw [hv, len_eq, hf]; simp) hup h
theorem run_callb {C : Cx} {F : Fr} {o : Oper} {al : List Operand} {fo : Operand} {ats : Array TypeId} {f : Nat} {pre caps vs : List Value} (ho : o.op = .call { callee := .value fo, args := al.toArray, argTypes := ats })
    (hfo : ev F fo = some (.func (.func f) pre.toArray caps.toArray)) (ha : evs F al = some vs) (hc : has C.fns f = true) {a : Act} (hf : Fits C.n C.ds F a) (w : World) :
    (execOp a.eval o).run C.P w = .ok (.enter f (pre ++ vs ++ caps).toArray) w := by
  have h1 : al.toArray.map a.eval = vs.toArray := by rw [List.map_toArray, hf.evs ha]
  have h2 := call_run (callable_of hc) (pre.toArray ++ vs.toArray ++ caps.toArray) w
  simp only [execOp, ho, resolve, hf.ev hfo, h1, Deferred.ofValue, Sem.run_bind, Sem.run_pure, Result.andThen_ok, invoke]
  rw [h2]
  simp
theorem q_callb {al : List Operand} {fo : Operand} {ats : Array TypeId} {f : Nat} {pre caps vs : List Value} {v : Value} (ho : o.op = .call { callee := .value fo, args := al.toArray, argTypes := ats })
    (hfo : ev F fo = some (.func (.func f) pre.toArray caps.toArray)) (ha : evs F al = some vs) (hc : has C.fns f = true)
    (hcall : ∀ w, St C.w0 C.hot L w → Calls C.P f (pre ++ vs ++ caps).toArray w (fun e w' => e = .returned v ∧ Below w.heap.size w w')) : Qt C o F L v := by
  intro a w hf hs
  unfold Oper.quietAt
  rw [run_callb ho hfo ha hc hf w]
  exact ⟨rfl, (hcall w hs).mono fun e w' ⟨he, hb⟩ => ⟨he, hs.later hb⟩⟩
theorem j_qcb {al : List Operand} {fo : Operand} {ats : Array TypeId} {f d : Nat} {pre caps vs : List Value} (ho : o.op = .call { callee := .value fo, args := al.toArray, argTypes := ats })
    (hg : o.guard = none) (hd : o.dst = some d) (hn : Nat.blt d C.n = true) (hfo : ev F fo = some (.func (.func f) pre.toArray caps.toArray)) (ha : evs F al = some vs) (hc : has C.fns f = true)
    (h : ∃ v, (∀ w, St C.w0 C.hot L w → Calls C.P f (pre ++ vs ++ caps).toArray w (fun e w' => e = .returned v ∧ Below w.heap.size w w')) ∧ J C ops m rest K ((d, v) :: F) L) : J C ops m (o :: rest) K F L :=
  let ⟨_, hcall, hj⟩ := h
  j_q hg hd hn (q_callb ho hfo ha hc hcall) hj
def noStore (l : List Oper) : Bool := l.all fun o => match o.op with
  | .store _ _ _ => false
  | _ => true
/-- A region that draws and does not store. -/
theorem sc_drawr {id : Nat} {l : List Oper} (hns : noStore l = true) (hrd : C.rd = none) (hm : C.P.follows .mixedOrders = true) (hB : Region.lexB .any l.toArray = true) (h : J C l.toArray true l K F L) : SC C (.region id l.toArray true) K F L :=
  sc_draw hrd hm hB h
theorem u64_range (x : Int) : 0 ≤ IntKind.u64.wrap x ∧ IntKind.u64.wrap x ≤ 18446744073709551615 := by
  rw [u64_wrapm]
  omega
theorem q_xor64 {t u : TypeId} {x y : Operand} {a b : Int} (ho : o.op = .binOp .xor t x y u) (hx : ev F x = some (.int .u64 a)) (hy : ev F y = some (.int .u64 b)) :
    Qv C o F L (.int .u64 (IntKind.u64.wrap ((BitVec.ofInt 64 a ^^^ BitVec.ofInt 64 b).toNat : Int))) :=
  q_bin ho hx hy fun w => by
    have h3 : (Op.intBits .xor .u64 a b) = (pure (.int .u64 (IntKind.u64.wrap ((BitVec.ofInt 64 a ^^^ BitVec.ofInt 64 b).toNat : Int))) : Sem Value) := rfl
    simp only [binOp, ne_eq, not_true_eq_false, if_false, h3]
    simp
theorem and_le64 (a b : Nat) (ha : a < 2 ^ 64) (hb : b < 2 ^ 64) : (BitVec.ofInt 64 (a : Int) &&& BitVec.ofInt 64 (b : Int)).toNat = a &&& b := by
  rw [BitVec.toNat_and, BitVec.toNat_ofInt, BitVec.toNat_ofInt]
  congr 1
  · have : ((a : Int) % ((2 ^ 64 : Nat) : Int)) = a := Int.emod_eq_of_lt (by omega) (by exact_mod_cast ha)
    rw [this]; rfl
  · have : ((b : Int) % ((2 ^ 64 : Nat) : Int)) = b := Int.emod_eq_of_lt (by omega) (by exact_mod_cast hb)
    rw [this]; rfl
theorem q_and64 {t u : TypeId} {x y : Operand} {a b : Nat} (ho : o.op = .binOp .and t x y u) (hx : ev F x = some (.int .u64 (a : Int))) (hy : ev F y = some (.int .u64 (b : Int))) (ha : a < 18446744073709551616) (hb : b < 18446744073709551616) :
    Qv C o F L (.int .u64 ((a &&& b : Nat) : Int)) :=
  q_bin ho hx hy fun w => by
    have h3 : (Op.intBits .and .u64 (a : Int) (b : Int)) = (pure (.int .u64 (IntKind.u64.wrap ((BitVec.ofInt 64 (a : Int) &&& BitVec.ofInt 64 (b : Int)).toNat : Int))) : Sem Value) := rfl
    have h4 : (a &&& b) ≤ b := Nat.and_le_right
    simp only [binOp, ne_eq, not_true_eq_false, if_false, h3, and_le64 a b ha hb, u64_wrap (x := ((a &&& b : Nat) : Int)) (by omega) (by omega)]
    simp
end
/-! ### Two pieces of memory lent, of which the second is written -/
section
variable {w0 w w' : World} {hot : Nat → Prop} {L L' : List HA}
theorem St.lent2 {x y : HA} (h : St w0 hot L w) (hs : LSub [x, y] L) (hx : x.kind1) (hy : y.kind1) : St w (fun b => x.foot b ∨ y.foot b) [x, y] w := by
  have h2 := h.sub hs
  refine ⟨Near.refl _ _ _, fun z hz => ?_, h2.sep⟩
  have hz' := h2.holds z hz
  have hk : z.kind1 := by
    simp only [List.mem_cons, List.mem_nil_iff, or_false] at hz
    rcases hz with rfl | rfl <;> assumption
  have hft : ∀ b, z.foot b → x.foot b ∨ y.foot b := fun b hb => by
    simp only [List.mem_cons, List.mem_nil_iff, or_false] at hz
    rcases hz with rfl | rfl
    · exact .inl hb
    · exact .inr hb
  cases z with
  | cells b t cs => exact ⟨.inr (hft b rfl), hz'.2⟩
  | own v e sz n xs => exact ⟨fun b hb => .inr (hft b hb), hz'.2⟩
  | abs S p => exact hk.elim
  | pure p => exact hk.elim
theorem St.back2 {x y y' : HA} (h : St w0 hot L w) (hs : LSub [x, y] L) (hu : Upd L y y' L') (h' : St w (fun b => x.foot b ∨ y.foot b) [x, y'] w') (hx : x.kind1) (hy' : y'.kind1) (hf : ∀ b, y'.foot b → y.foot b) : St w0 hot L' w' := by
  obtain ⟨N, hN⟩ := hs
  obtain ⟨M, h1, h2⟩ := hu.perm
  have hM : M.Perm (x :: N) := by
    have : (y :: M).Perm (y :: x :: N) := h1.symm.trans (hN.trans (List.Perm.swap _ _ _))
    exact (List.perm_cons y).1 this
  have hp := h.perm hN
  have hx0 : x.holds w0.heap.size hot w := hp.holds x (by simp)
  have hy0 : y.holds w0.heap.size hot w := hp.holds y (by simp)
  have hN0 : ∀ z ∈ N, z.holds w0.heap.size hot w := fun z hz => hp.holds z (by simp [hz])
  have hsep := hp.sep
  simp only [List.cons_append, List.nil_append, List.pairwise_cons] at hsep
  have hn : Near w0.heap.size hot w w' := ⟨h'.near.os, h'.near.tape, h'.near.output, h'.near.size, fun k hk hnot => h'.near.block k (Nat.lt_of_lt_of_le hk h.near.size) (fun hh => by
    rcases hh with hh | hh
    · rcases (hx0.lt hh).1 with h3 | h3
      · omega
      · exact hnot h3
    · rcases (hy0.lt hh).1 with h3 | h3
      · omega
      · exact hnot h3)⟩
  have hx1 : x.holds w0.heap.size hot w' := by
    have h9 := h'.holds x (by simp)
    cases x with
    | cells b t cs => exact ⟨hx0.1, h9.2⟩
    | own v e sz n xs => exact ⟨hx0.1, h9.2⟩
    | abs S p => exact hx.elim
    | pure p => exact hx.elim
  have hy1 : y'.holds w0.heap.size hot w' := by
    have h9 := h'.holds y' (by simp)
    cases y' with
    | cells b t cs => exact ⟨(hy0.lt (hf b rfl)).1, h9.2⟩
    | own v e sz n xs => exact ⟨fun b hb => (hy0.lt (hf b hb)).1, h9.2⟩
    | abs S p => exact hy'.elim
    | pure p => exact hy'.elim
  have hN1 : ∀ z ∈ N, z.holds w0.heap.size hot w' := fun z hz => (hN0 z hz).keep (fun b hb => h'.near.block b ((hN0 z hz).lt hb).2 (fun hh => by
    rcases hh with hh | hh
    · exact hsep.1 z (by simp [hz]) b hh hb
    · exact hsep.2.1 z hz b hh hb)) hn
  have hall : St w0 hot (x :: y' :: N) w' := ⟨h.near.trans hn, fun z hz => by
      simp only [List.mem_cons] at hz
      rcases hz with rfl | rfl | hz
      · exact hx1
      · exact hy1
      · exact hN1 z hz, List.pairwise_cons.2 ⟨fun z hz b hb hzb => by
        rcases List.mem_cons.1 hz with rfl | hz
        · exact hsep.1 y (by simp) b hb (hf b hzb)
        · exact hsep.1 z (by simp [hz]) b hb hzb, List.pairwise_cons.2 ⟨fun z hz b hb hzb => hsep.2.1 z hz b (hf b hb) hzb, hsep.2.2⟩⟩⟩
  exact hall.perm ((List.Perm.swap _ _ _).trans ((List.Perm.cons _ hM.symm).trans h2.symm))
end
end Eng
end Go.Proofs.Ytmcmmmaffdenjaa

/-
  Ways that meet again: what follows is shown once.
-/
namespace Go.Proofs.Ytmcmmmaffdenjaa
namespace Eng
open Go.RowKit
set_option linter.unusedVariables false
section
variable {C : Cx} {F : Fr} {L Lp : List HA} {K : List KI} {ops : Array Oper} {fuel : Nat} {listed : Array Bool}
theorem ja_cut {ι : Type} (I : ι → Prop) (F' : ι → Fr) (L' : ι → List HA) (main : (∀ i, I i → SQ C .normal K (F' i) (L' i)) → JA C ops (kpost C K .normal) Lp fuel listed F L) (tail : ∀ i, I i → SQ C .normal K (F' i) (L' i)) : JA C ops (kpost C K .normal) Lp fuel listed F L := main tail
theorem sc_cut {ι : Type} (I : ι → Prop) (F' : ι → Fr) (L' : ι → List HA) {c : Code} {id : Nat} (main : (∀ i, I i → SQ C .normal K (F' i) (L' i)) → SC C c (.blk id :: K) F L) (tail : ∀ i, I i → SQ C .normal K (F' i) (L' i)) : SC C c (.blk id :: K) F L := main tail
theorem sc_cutq {ι : Type} (I : ι → Prop) (F' : ι → Fr) (L' : ι → List HA) {c d : Code} (main : (∀ i, I i → SC C d K (F' i) (L' i)) → SC C c (.seq d :: K) F L) (tail : ∀ i, I i → SC C d K (F' i) (L' i)) : SC C c (.seq d :: K) F L := main tail
end
end Eng
end Go.Proofs.Ytmcmmmaffdenjaa

/-
  Method values.
-/
namespace Go.Proofs.Ytmcmmmaffdenjaa
namespace Eng
open Go.RowKit
set_option linter.unusedVariables false
section
variable {C : Cx} {F : Fr} {L : List HA} {o : Oper} {K : List KI} {ops : Array Oper} {m : Bool} {rest : List Oper}
theorem q_makeFuncB {fn : Fn} {pre caps : List Operand} {ps vs : List Value} (ho : o.op = .makeFunc fn pre.toArray caps.toArray) (hp : evs F pre = some ps) (hx : evs F caps = some vs) : Qv C o F L (.func fn ps.toArray vs.toArray) :=
  .of_run fun a w hf hs => by
    have h1 : (caps.toArray.map a.eval) = vs.toArray := by rw [List.map_toArray, hf.evs hx]
    have h2 : (pre.toArray.map a.eval) = ps.toArray := by rw [List.map_toArray, hf.evs hp]
    simp only [execOp, ho, Instr.makeFunc, h1, h2]
    simp
end
end Eng
end Go.Proofs.Ytmcmmmaffdenjaa

/-
  Equality of structs.
-/
namespace Go.Proofs.Ytmcmmmaffdenjaa
namespace Eng
open Go.RowKit
set_option linter.unusedVariables false
set_option linter.unusedSimpArgs false
section
variable {C : Cx} {F : Fr} {L : List HA} {o : Oper} {x y : Operand} {t u : TypeId} {xs ys : Array Value}
theorem q_eqS {r : Bool} (ho : o.op = .binOp .eql t x y u) (hm : C.P.eqGuardType C.P.depth t = false) (hx : ev F x = some (.agg xs)) (hy : ev F y = some (.agg ys)) (hr : ∀ w, (Op.equalIn 10000 t (.agg xs) (.agg ys)).run C.P w = .ok r w) : Qv C o F L (.bool r) :=
  .of_run fun a w hf hs => by
    simp only [execOp, ho, Sem.run_bind, hf.ev hx, hf.ev hy, run_eqGuard_agg _ _ _ _ _ _ _ hm, Result.andThen_ok, run_eql_struct, hr w]
    simp
theorem q_neS {r : Bool} (ho : o.op = .binOp .neq t x y u) (hm : C.P.eqGuardType C.P.depth t = false) (hx : ev F x = some (.agg xs)) (hy : ev F y = some (.agg ys)) (hr : ∀ w, (Op.equalIn 10000 t (.agg xs) (.agg ys)).run C.P w = .ok r w) : Qv C o F L (.bool (!r)) :=
  .of_run fun a w hf hs => by
    simp only [execOp, ho, Sem.run_bind, hf.ev hx, hf.ev hy, run_eqGuard_agg _ _ _ _ _ _ _ hm, Result.andThen_ok, run_neq_struct, hr w]
    simp
end
end Eng
end Go.Proofs.Ytmcmmmaffdenjaa

/-
  Parts of slices.
-/
namespace Go.Proofs.Ytmcmmmaffdenjaa
namespace Eng
open Go.RowKit
set_option linter.unusedVariables false
theorem RS.drop {α : Type} {w : World} {sz : Nat} {f : α → List Value} {ad : Addr} {l : List α} (h : RS w sz f (some ad) l) (k : Nat) : RS w sz f (some (ad.add (k * sz))) (l.drop k) := fun i x hx => by
  rw [List.getElem?_drop] at hx
  obtain ⟨ad', e, hX⟩ := h (k + i) x hx
  injection e with e
  subst e
  refine ⟨_, rfl, ?_⟩
  rw [add_add, ← Nat.add_mul]
  exact hX
section
variable {C : Cx} {F : Fr} {L : List HA} {o : Oper}
end
theorem q_cap_slice {C : Cx} {F : Fr} {L : List HA} {o : Oper} {x : Operand} {t : TypeId} {ti : TI} {e sz by_ : Nat} {ad : Option Addr} {n c : Nat} (ho : o.op = .call { callee := .builtin .cap, args := #[x], argTypes := #[t] }) (ht : tget C.tab t = some ti) (hk : ti.kind = .slice e sz by_)
    (hx : ev F x = some (.slice ad n c)) : Qv C o F L (.int .i64 (c : Int)) :=
  .of_run fun ac w hf hs => by
    have h1 := (tk_slice (C.ok.get ht) hk).1
    simp [execOp, ho, resolve, invoke, builtin, Builtin.cap_, hf.ev hx, run_underlying h1, goInt]
end Eng
end Go.Proofs.Ytmcmmmaffdenjaa

/-
  Regions that draw, with guards: operations whose guard is known to hold.
-/
namespace Go.Proofs.Ytmcmmmaffdenjaa
namespace Eng
open Go.RowKit
set_option linter.unusedVariables false
section
variable {C : Cx} {F : Fr} {L Lp : List HA} {K : List KI} {ops : Array Oper} {Φ : Act → World → Prop} {fuel : Nat} {listed : Array Bool}
theorem yielded_of {gd j : Nat} {bb : Bool} (hj : (ops[j]?).bind (·.dst) = some gd) (hF : F.get gd = some (.bool bb)) {n : Nat} {ds : List Deferred} {a : Act} (hfa : Fits n ds F a) : yielded ops a.tmps j = some bb := by
  unfold yielded
  rw [hj]
  simp [hfa.get gd _ hF]
theorem ja_takeg {oi : Oper} {d j gd : Nat} {bb : Bool} (i : Nat) (hi : ops[i]? = some oi) (hchk : ((Region.ready .any ops listed).contains i && Region.free .any ops listed i && Region.noSelect ops) = true) (hg : oi.guard = some (j, bb)) (hj : (ops[j]?).bind (·.dst) = some gd) (hF : F.get gd = some (.bool bb)) (hd : oi.dst = some d) (hn : Nat.blt d C.n = true) (hsub : LSub Lp L)
    (h : ∃ v, Qv C oi F Lp v ∧ JA C ops Φ Lp fuel (listed.setIfInBounds i true) ((d, v) :: F) L) : JA C ops Φ Lp (fuel + 1) listed F L := by
  obtain ⟨v, hq, hja⟩ := h
  simp only [Bool.and_eq_true, List.contains_iff_mem] at hchk
  obtain ⟨⟨hr, hfr⟩, hns⟩ := hchk
  intro a w hf hs
  refine anyS_first hi (Region.noSelect_spec hns) (fun l w h => h) fuel listed a w (Region.free_spec hi hfr) hr ⟨by simp [Region.wanted, hg, yielded_of hj hF hf], fun w' ⟨l, _, hw'⟩ => hq a w' hf hw'⟩ (hs.sub hsub) ?_ (fun l w' _ h _ _ => h)
  rw [hd]
  exact hja _ w (hf.put v hn) hs
theorem ja_oneg {oi : Oper} {j gd : Nat} {bb : Bool} (i : Nat) (hr : Region.ready .any ops listed = [i]) (hi : ops[i]? = some oi) (hg : oi.guard = some (j, bb)) (hj : (ops[j]?).bind (·.dst) = some gd) (hF : F.get gd = some (.bool bb))
    (h : J C ops false [{ oi with guard := none }] [.fin (fun a' w' => St C.w0 C.hot Lp w' ∧ anyS C.P C.rd ops Φ (SS C Lp) fuel (listed.setIfInBounds i true) a' w')] F L) : JA C ops Φ Lp (fuel + 1) listed F L := by
  intro a w hf hs
  refine ⟨(fun e => by rw [hr] at e; cases e), fun i' hi' => ?_⟩
  rw [hr, List.mem_singleton] at hi'
  subst hi'
  have h1 := h a w hf hs
  unfold wpListIn at h1
  rw [if_pos (by simp [Region.wanted])] at h1
  unfold wpOpIn
  simp only [hi]
  rw [if_pos (by simp [Region.wanted, hg, yielded_of hj hF hf])]
  exact h1
end
end Eng
end Go.Proofs.Ytmcmmmaffdenjaa

/-
  Regions that draw, with guards: operations whose guard is known to fail are passed over first.
-/
namespace Go.Proofs.Ytmcmmmaffdenjaa
namespace Eng
open Go.RowKit
set_option linter.unusedVariables false
section
variable {P : Program} {rd : Option Nat} {ops : Array Oper} {Φ : Act → World → Prop} {S : Array Bool → World → Prop}
def Off (ops : Array Oper) (o : Oper) (a : Act) : Prop := Region.wanted o (yielded ops a.tmps) = false
theorem Off.run {i : Nat} {o : Oper} {a : Act} {w : World} (hi : ops[i]? = some o) (hy : Off ops o a) {K : Act → World → Prop}
    (h : K (a.put o.dst undef) w) : wpOpIn (fc rd) 0 P ops (normOnly Φ) i K a w := by
  unfold wpOpIn
  simp only [hi]
  rw [if_neg (by rw [hy]; decide)]
  exact ⟨fun _ _ => trivial, h⟩
theorem opn_put {j : Nat} {oi oj : Oper} (hj : ops[j]? = some oj) (hap : oi.apart ops oj = true) (hsj : ∀ cs b, oj.op ≠ .select cs b) {K : Act → World → Prop} {a : Act} {w : World}
    (hy : Off ops oi a) (h : wpOpIn (fc rd) 0 P ops (normOnly Φ) j K (a.put oi.dst undef) w) :
    wpOpIn (fc rd) 0 P ops (normOnly Φ) j (fun a' w' => Off ops oi a' ∧ K (a'.put oi.dst undef) w') a w := by
  obtain ⟨h1, h2, h3⟩ := Oper.apart_spec hap
  have keep : ∀ (a : Act), Off ops oi a → ∀ u, Off ops oi (a.put oj.dst u) := fun a hy u => (wanted_put oi a oj.dst u h3).trans hy
  unfold wpOpIn at *
  simp only [hj] at *
  rw [wanted_put oj a oi.dst undef h1] at h
  split
  · rename_i hw
    simp only [hw, if_true] at h
    refine ⟨fun _ _ => trivial, ?_⟩
    have h := h.2
    rw [show (fc rd).round = rd from rfl] at h ⊢
    rw [semAt_put rd oj hsj a oi.dst undef h1] at h
    generalize (oj.semAt rd a.eval).run P w = r at *
    cases r with
    | ok x w' =>
      cases x <;> simp only [Oper.uponIn] at h ⊢
      case value u => exact ⟨keep a hy u, by rw [← Act.put_comm a undef u h2]; exact h⟩
      case skip => exact ⟨keep a hy _, by rw [← Act.put_comm a undef undef h2]; exact h⟩
      case defer d =>
        refine ⟨keep { a with defers := d :: a.defers } hy _, ?_⟩
        rw [← Act.put_comm _ undef undef h2, ← Act.put_defers]
        exact h
      case enter f args =>
        refine ⟨h.1, h.2.mono fun e w'' he => ?_⟩
        cases e with
        | returned u => exact ⟨keep a hy u, by rw [← Act.put_comm a undef u h2]; exact he⟩
        | panicked c => exact he
        | outgrown => exact he
      case round l f tmps assign body =>
        refine ⟨h.1, h.2.mono fun e w'' he => ?_⟩
        cases e with
        | returned u => exact ⟨keep a hy u, by rw [← Act.put_comm a undef u h2]; exact he⟩
        | panicked c => exact he
        | outgrown => exact he
      case row row args => exact ⟨h.1, h.2.mono fun u w'' he => ⟨keep a hy u, by rw [← Act.put_comm a undef u h2]; exact he⟩⟩
    | halt x w' =>
      cases x <;> simp only [Oper.uponIn] at h ⊢
      case panic u => exact h
  · rename_i hw
    simp only [hw] at h
    exact ⟨fun _ _ => trivial, keep a hy _, by rw [← Act.put_comm a undef undef h2]; exact h.2⟩
theorem anyS_off {i : Nat} {oi : Oper} (hi : ops[i]? = some oi) (hsel : ∀ (j : Nat) (o : Oper) cs b, ops[j]? = some o → o.op ≠ .select cs b) (hmono : ∀ l w, S l w → S (l.setIfInBounds i true) w) :
    ∀ (fuel : Nat) (listed : Array Bool) (a : Act) (w : World),
      (∀ j oj, ops[j]? = some oj → j ≠ i → listed.getD j true = false → (∀ e ∈ oj.after, Region.binds .any e = true → e.on ≠ i) → oi.apart ops oj = true) →
      i ∈ Region.ready .any ops listed → Off ops oi a → S listed w →
      anyS P rd ops Φ S fuel (listed.setIfInBounds i true) (a.put oi.dst undef) w → (hback : ∀ l w', l.getD i true = false → S (l.setIfInBounds i true) w' → Region.ready .any ops l ≠ [] → i ∈ Region.ready .any ops l → S l w') →
      anyS P rd ops Φ S (fuel + 1) listed a w := by
  intro fuel
  induction fuel with
  | zero =>
    intro listed a w _ hr hy hS H hback
    refine ⟨fun h => (by rw [h] at hr; cases hr), fun j hj => ?_⟩
    by_cases hji : j = i
    · subst hji; exact hy.run hi ⟨hmono _ _ hS, H⟩
    · have := ready_mono hj hji
      rw [H.1] at this
      cases this
  | succ fuel ih =>
    intro listed a w hfree hr hy hS H hback
    refine ⟨fun h => (by rw [h] at hr; cases hr), fun j hj => ?_⟩
    by_cases hji : j = i
    · subst hji; exact hy.run hi ⟨hmono _ _ hS, H⟩
    · have h1 := H.2 j (ready_mono hj hji)
      obtain ⟨hjun, oj, hoj, hall⟩ := mem_ready.1 hj
      have hnot : ∀ e ∈ oj.after, Region.binds .any e = true → e.on ≠ i := fun e he hb heq => by
        have h1 := hall e he hb
        have h0 := (mem_ready.1 hr).1
        rw [heq] at h1
        rcases Nat.lt_or_ge i listed.size with h' | h'
        · simp [h'] at h0 h1; rw [h0] at h1; cases h1
        · simp [Array.getElem?_eq_none h'] at h1
      have h2 := opn_put hoj (hfree j oj hoj hji hjun hnot) (fun cs b => hsel j oj cs b hoj) hy h1
      have hfree' : ∀ k ok, ops[k]? = some ok → k ≠ i → (listed.setIfInBounds j true).getD k true = false → (∀ e ∈ ok.after, Region.binds .any e = true → e.on ≠ i) → oi.apart ops ok = true := fun k ok hk hki hun hno => by
        refine hfree k ok hk hki ?_ hno
        by_cases hjk : j = k
        · subst hjk; exact hjun
        · rw [getD_set_ne true hjk] at hun; exact hun
      have hr' := ready_mono hr (Ne.symm hji)
      refine wpOpIn_mono (fun a' w' h3 => ?_) h2
      have hS' : S (listed.setIfInBounds j true) w' := by
        have h4 := h3.2.1
        rw [Array.setIfInBounds_comm _ _ (Ne.symm hji)] at h4
        exact hback _ w' (mem_ready.1 hr').1 h4 (fun e => by rw [e] at hr'; cases hr') hr'
      refine ⟨hS', ih (listed.setIfInBounds j true) a' w' hfree' hr' h3.1 hS' ?_ hback⟩
      rw [Array.setIfInBounds_comm _ _ hji]
      exact h3.2.2
end
section
variable {C : Cx} {F : Fr} {L Lp : List HA} {K : List KI} {ops : Array Oper} {Φ : Act → World → Prop} {fuel : Nat} {listed : Array Bool}
/-- An operation whose guard has the other answer. -/
theorem ja_off {oi : Oper} {d j gd : Nat} {bb : Bool} (i : Nat) (hi : ops[i]? = some oi) (hchk : ((Region.ready .any ops listed).contains i && Region.free .any ops listed i && Region.noSelect ops) = true) (hg : oi.guard = some (j, !bb)) (hj : (ops[j]?).bind (·.dst) = some gd) (hF : F.get gd = some (.bool bb)) (hd : oi.dst = some d) (hn : Nat.blt d C.n = true) (hsub : LSub Lp L)
    (h : JA C ops Φ Lp fuel (listed.setIfInBounds i true) ((d, undef) :: F) L) : JA C ops Φ Lp (fuel + 1) listed F L := by
  simp only [Bool.and_eq_true, List.contains_iff_mem] at hchk
  obtain ⟨⟨hr, hfr⟩, hns⟩ := hchk
  intro a w hf hs
  refine anyS_off hi (Region.noSelect_spec hns) (fun l w h => h) fuel listed a w (Region.free_spec hi hfr) hr (by unfold Off; simp [Region.wanted, hg, yielded_of hj hF hf]) (hs.sub hsub) ?_ (fun l w' _ h _ _ => h)
  rw [hd]
  exact h _ w (hf.put undef hn) hs
theorem q_neqv {o : Oper} {x y : Operand} {t u : TypeId} {k : IntKind} {a b : Int} (r : Bool) (ho : o.op = .binOp .neq t x y u) (hx : ev F x = some (.int k a)) (hy : ev F y = some (.int k b)) (hr : decide (a ≠ b) = r) : Qv C o F L (.bool r) := hr ▸ q_neq ho hx hy
theorem q_eqlv {o : Oper} {x y : Operand} {t u : TypeId} {k : IntKind} {a b : Int} (r : Bool) (ho : o.op = .binOp .eql t x y u) (hx : ev F x = some (.int k a)) (hy : ev F y = some (.int k b)) (hr : decide (a = b) = r) : Qv C o F L (.bool r) := hr ▸ q_eql ho hx hy
/-- Each of those that are ready, all with a guard that holds. -/
theorem ja_allg (rs : List Nat) (hr : Region.ready .any ops listed = rs) (hne : rs.isEmpty = false)
    (h : ∀ i ∈ rs, ∃ oi j gd bb, ops[i]? = some oi ∧ oi.guard = some (j, bb) ∧ (ops[j]?).bind (·.dst) = some gd ∧ F.get gd = some (.bool bb) ∧ J C ops false [{ oi with guard := none }] [.fin (fun a' w' => St C.w0 C.hot Lp w' ∧ anyS C.P C.rd ops Φ (SS C Lp) fuel (listed.setIfInBounds i true) a' w')] F L) (hrd : C.rd = C.rd) : JA C ops Φ Lp (fuel + 1) listed F L := by
  intro a w hf hs
  refine ⟨fun e => by rw [hr] at e; subst e; simp at hne, fun i hi => ?_⟩
  rw [hr] at hi
  obtain ⟨oi, j, gd, bb, ho, hg, hj, hF, hJ⟩ := h i hi
  have h1 := hJ a w hf hs
  unfold wpListIn at h1
  rw [if_pos (by simp [Region.wanted])] at h1
  unfold wpOpIn
  simp only [ho]
  rw [if_pos (by simp [Region.wanted, hg, yielded_of hj hF hf])]
  exact h1
end
end Eng
end Go.Proofs.Ytmcmmmaffdenjaa
