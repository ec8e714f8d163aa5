/-
  The engine: rules of symbolic execution over the model's code, in one text (or two).
-/
import Derived.Test.YtmakokbpadmfbaaGreatEngCoreA
import Derived.Laws.Small
import Derived.Laws.StructEq
/-
  Ranges over functions that hand over memory of their own.
-/
namespace Go.Proofs.YtmakokbpadmfbaaGreat
namespace Eng
open Go.RowKit
set_option linter.unusedVariables false
/-- What a loop does with what an iterator hands it: a state, the blocks in which it lies, a step, and whether it goes on. -/
structure ConsumerW {τ α : Type} (P : Program) (W : World) (S0 : Nat → Prop) (l : Nat) (encW : α → (Nat → Prop) → List Value → World → Prop) (Jn : τ → (Nat → Prop) → World → Prop) (stp : τ → α → τ × Bool) (live : τ → Prop) (att : τ → α → Prop) : Prop where
  step : ∀ s S x vs w, encW x S vs w → live s → att s x → Jn s S w → Near W.heap.size S0 W w → YieldRun P l vs w (fun v w' => v = .bool (stp s x).2 ∧ Near w.heap.size S w w' ∧ ∃ S', Jn (stp s x).1 S' w' ∧ ∀ b, S' b → S b ∨ w.heap.size ≤ b)
  goes : ∀ s x, live s → (stp s x).2 = true → live (stp s x).1
  lt : ∀ s S w b, Jn s S w → S b → b < w.heap.size
  stab : ∀ s S w w', Jn s S w → Near W.heap.size S0 w w' → (∀ b, S b → w'.heap[b]? = w.heap[b]?) → (∀ b, S b → S0 b ∨ W.heap.size ≤ b) → Jn s S w'
theorem ConsumerW.start {τ α : Type} {P : Program} {W : World} {S0 : Nat → Prop} {l : Nat} {encW : α → (Nat → Prop) → List Value → World → Prop} {Jn : τ → (Nat → Prop) → World → Prop} {stp : τ → α → τ × Bool} {live : τ → Prop} {att : τ → α → Prop}
    (h : ConsumerW P W S0 l encW Jn stp live att) {s : τ} (h0 : Jn s S0 W) : St W S0 [.abs S0 (Jn s S0)] W :=
  (St.start W S0).cons ⟨fun b hb => ⟨.inr hb, h.lt _ _ _ _ h0 hb⟩, h0, fun w' hn hk => h.stab _ _ _ _ h0 hn hk (fun b hb => .inl hb)⟩ (fun y hy => by cases hy)
section
variable {C : Cx} {F : Fr} {L : List HA} {o : Oper} {K : List KI} {ops : Array Oper} {m : Bool} {rest : List Oper}
/-- A call of yield, in the iterator. -/
theorem j_yieldW {τ α : Type} {d l : Nat} {al : List Operand} {fo : Operand} {ats : Array TypeId} {vs : List Value} {encW : α → (Nat → Prop) → List Value → World → Prop} {Jn : τ → (Nat → Prop) → World → Prop} {stp : τ → α → τ × Bool} {live : τ → Prop} {att : τ → α → Prop}
    (hcons : ConsumerW C.P C.w0 C.hot l encW Jn stp live att) (ho : o.op = .call { callee := .value fo, args := al.toArray, argTypes := ats }) (hg : o.guard = none) (hd : o.dst = some d) (hn : Nat.blt d C.n = true)
    (hfo : ev F fo = some (.func (.yield l) #[] #[])) (ha : evs F al = some vs) {x : α} {s : τ} (hlive : live s) (hat : att s x) {S : Nat → Prop} (hok : ∀ w, St C.w0 C.hot L w → encW x S vs w) (hin : InL L (.abs S (Jn s S))) {L' : (Nat → Prop) → List HA}
    (hup : ∀ S', Upd L (.abs S (Jn s S)) (.abs S' (Jn (stp s x).1 S')) (L' S')) (h : ∀ S', J C ops false rest K ((d, .bool (stp s x).2) :: F) (L' S')) : J C ops false (o :: rest) K F L := by
  intro a w hf hs
  have hA := hs.at hin
  obtain ⟨fn, tmps, assign, body, hy, hr⟩ := hcons.step s S x vs w (hok w hs) hlive hat hA.2.1 hs.near
  have h1 : al.toArray.map a.eval = vs.toArray := by rw [List.map_toArray, hf.evs ha]
  have hrun : (execOp a.eval o).run C.P w = .ok (.round l fn tmps assign body) w := by
    simp only [execOp, ho, resolve, hf.ev hfo, h1, Deferred.ofValue, Sem.run_bind, Sem.run_pure, Result.andThen_ok, invoke, Array.empty_append, hy]
  refine wpListIn_run (by simp [Region.wanted, hg]) ⟨fun _ _ => trivial, ?_⟩
  rw [show (fc C.rd).round = C.rd from rfl, semAt_of_value hrun (fun d e => by cases e), Oper.uponIn_round]
  refine ⟨fun h => by simp [fc] at h, ?_⟩
  have hr' : RoundIn (fc C.rd) 0 C.P l fn tmps assign body w (fun e w' => ∃ v, e = .returned v ∧ (v = .bool (stp s x).2 ∧ Near w.heap.size S w w' ∧ ∃ S', Jn (stp s x).1 S' w' ∧ ∀ b, S' b → S b ∨ w.heap.size ≤ b)) := hr
  refine hr'.mono fun e w' ⟨v, he, hv, hn', S', hJ, hS'⟩ => ?_
  subst he
  subst hv
  rw [hd]
  have hS'0 : ∀ b, S' b → C.hot b ∨ C.w0.heap.size ≤ b := fun b hb => by
    rcases hS' b hb with h2 | h2
    · rcases (hA.1 b h2).1 with h3 | h3
      · exact .inr h3
      · exact .inl h3
    · exact .inr (Nat.le_trans hs.near.size h2)
  refine h S' _ _ (hf.put _ hn) (hs.upd (hup S') ⟨hn'.os, hn'.tape, hn'.output, hn'.size, fun k hk => by omega⟩ (fun b hb hne => hn'.block b hb hne) ⟨fun b hb => ⟨(hS'0 b hb).symm, hcons.lt _ _ _ _ hJ hb⟩, hJ, fun w'' hnn hk => hcons.stab _ _ _ _ hJ hnn hk hS'0⟩ hS')
end
/-- The states along a list. -/
def trc {τ α : Type} (stp : τ → α → τ × Bool) (s : τ) (l : List α) : τ := l.foldl (fun s y => (stp s y).1) s
def Att {τ α : Type} (stp : τ → α → τ × Bool) (s0 : τ) (ys : List α) (s : τ) (x : α) : Prop := ∃ i, ys[i]? = some x ∧ s = trc stp s0 (ys.take i)
theorem trc_succ {τ α : Type} {stp : τ → α → τ × Bool} {s0 : τ} {ys : List α} {i : Nat} {x : α} (h : ys[i]? = some x) : trc stp s0 (ys.take (i + 1)) = (stp (trc stp s0 (ys.take i)) x).1 := by
  unfold trc
  rw [List.take_add_one, h]
  simp
theorem trc_stpB {σ α : Type} (stp : σ → α → σ × Option Code) : ∀ (l : List α) (t : σ × Option Code), (trc (stpB stp) t l).1 = l.foldl (fun s y => (stp s y).1) t.1
  | [], t => rfl
  | y :: l, t => by
    have := trc_stpB stp l (stp t.1 y)
    simp only [trc, List.foldl_cons, stpB] at this ⊢
    exact this
/-- An iterator's promise: it hands over just these, one after the other, and writes nothing but what its caller's loop writes. -/
def IteratesW (P : Program) (gf : Nat) (lb : List Value) {α : Type} (encW : α → (Nat → Prop) → List Value → World → Prop) (ys : List α) (W : World) (S0 : Nat → Prop) : Prop :=
  ∀ (τ : Type) (Jn : τ → (Nat → Prop) → World → Prop) (stp : τ → α → τ × Bool) (live : τ → Prop) (s0 : τ) (l : Nat), ConsumerW P W S0 l encW Jn stp live (Att stp s0 ys) → live s0 → Jn s0 S0 W →
    Calls P gf ((Value.func (.yield l) #[] #[]) :: lb).toArray W (fun e W' => (∃ v, e = .returned v) ∧ Near W.heap.size S0 W W' ∧ ∃ S', Jn (runsB stp s0 ys) S' W' ∧ ∀ b, S' b → S0 b ∨ W.heap.size ≤ b)
section
variable {C : Cx} {F : Fr} {L : List HA} {K : List KI}
/-- 'for x := range g { body }'. -/
theorem sc_rangeW {σ ξ α : Type} {g : Operand} {ps : List Tmp} {assign body : Code} {gf : Nat} {lb : List Value} (encW : α → (Nat → Prop) → List Value → World → Prop) (ys : List α) (stp : σ → α → σ × Option Code) (LI : σ → ξ → List HA) (s0 : σ) (i0 : ξ)
    (hrd : C.rd = none) (hg : ev F g = some (.func (.func gf) #[] lb.toArray)) (hcal : has C.fns gf = true) (hps : ∀ x S vs w, encW x S vs w → vs.length = ps.length) (hpn : ∀ p ∈ ps, p < C.n) (hL : LSub (LI s0 i0) L)
    (hab : ∀ s i S p, HA.abs S p ∈ LI s i → ∀ u u', p u → (∀ b, S b → u'.heap[b]? = u.heap[b]?) → p u')
    (hiter : ∀ w l D r, St C.w0 C.hot (haRec l r :: haDef D :: LI s0 i0) w → IteratesW C.P gf lb encW ys w (foots (haRec l r :: haDef D :: LI s0 i0)))
    (hbody : ∀ (l D : Nat) (r : Loop) (W1 : World) (s : σ) (i : ξ) (x : α) (vs : List Value) (Q : Exit → Act → World → Prop), encW x (foots (haRec l r :: haDef D :: LI s i)) vs W1 → (∃ j, ys[j]? = some x ∧ s = (ys.take j).foldl (fun s y => (stp s y).1) s0) → r.state = .ready → St C.w0 C.hot (haRec l r :: haDef D :: LI s i) W1 →
      (∀ (e : Exit) (jump : Option Code) (i' : ξ) (F' : Fr) (L' M : List HA), jumpOf e = some jump → (stp s x).2 = jump → Rem L' (haRec l { r with state := .busy }) M → LSub (haDef D :: LI (stp s x).1 i') M → SQ (C.inRound l Q W1 (foots (haRec l r :: haDef D :: LI s i))) e [] F' L') →
      SC (C.inRound l Q W1 (foots (haRec l r :: haDef D :: LI s i))) assign [.fin (roundStart (C.inRound l Q W1 (foots (haRec l r :: haDef D :: LI s i))) l body)] (parFr ps vs F) (haRec l r :: haDef D :: LI s i))
    (hend : ∀ D i, (runsJ stp s0 ys).2 = none → SQ (C.mark D) .normal K F (haDef D :: LI (runsJ stp s0 ys).1 i))
    (hjump : ∀ D i c, (runsJ stp s0 ys).2 = some c → SC (C.mark D) c K F (haDef D :: LI (runsJ stp s0 ys).1 i)) : SC C (.rangeFunc g ps.toArray assign body) K F L := by
  intro a w hf hs
  rw [hrd]
  have hs0 := hs.sub hL
  refine wpIn_rangeFunc fun fn _ => ?_
  obtain ⟨r, hr⟩ : ∃ r : Loop, r = { state := .ready, pending := none, fn, tmps := a.tmps, params := ps.toArray, assign, body, defers := w.heap.size } := ⟨_, rfl⟩
  obtain ⟨W, hW⟩ : ∃ W, (w.alloc (.deferred (some []))).alloc (.loop r) = W := ⟨_, rfl⟩
  have hSW : St C.w0 C.hot (haRec (w.heap.size + 1) r :: haDef w.heap.size :: LI s0 i0) W := by
    have h1 : St C.w0 C.hot (haDef w.heap.size :: LI s0 i0) (w.alloc (.deferred (some []))) :=
      hs0.alloc _ (fun b hb => hb) (haObj_holds (.inl hs0.near.size) (World.alloc_heap_new w _))
    have h2 := World.alloc_heap_new (w.alloc (.deferred (some []))) (.loop r)
    rw [World.size_alloc] at h2
    rw [← hW]
    refine h1.alloc _ (fun b hb => by rw [World.size_alloc]; exact hb) (haObj_holds (.inl (by have := hs0.near.size; omega)) h2)
  obtain ⟨S0, hS0⟩ : ∃ S0, foots (haRec (w.heap.size + 1) r :: haDef w.heap.size :: LI s0 i0) = S0 := ⟨_, rfl⟩
  have hready : r.state = .ready := by rw [hr]
  have hr0 : recSt r none = r := by rw [hr]; rfl
  -- the loop's own state, as an iterator sees it
  obtain ⟨Jn, hJn⟩ : ∃ Jn : σ × Option Code → (Nat → Prop) → World → Prop, Jn = fun t S w' => ∃ i, St C.w0 C.hot (haRec (w.heap.size + 1) (recSt r t.2) :: haDef w.heap.size :: LI t.1 i) w' ∧ ∀ b, S b ↔ foots (haRec (w.heap.size + 1) (recSt r t.2) :: haDef w.heap.size :: LI t.1 i) b := ⟨_, rfl⟩
  have habs : ∀ (rr : Loop) s i S p, HA.abs S p ∈ (haRec (w.heap.size + 1) rr :: haDef w.heap.size :: LI s i) → ∀ u u' : World, p u → (∀ b, S b → u'.heap[b]? = u.heap[b]?) → p u' := by
    intro rr s i S p hm u u' hp hk
    rcases List.mem_cons.1 hm with hm | hm
    · unfold haRec at hm
      injection hm with h1 h2
      subst h1; subst h2
      exact (hk _ rfl).trans hp
    · rcases List.mem_cons.1 hm with hm | hm
      · unfold haDef at hm
        injection hm with h1 h2
        subst h1; subst h2
        exact (hk _ rfl).trans hp
      · exact hab s i S p hm u u' hp hk
  have hcons : ConsumerW C.P W S0 (w.heap.size + 1) encW Jn (stpB stp) (fun t => t.2 = none) (Att (stpB stp) (s0, none) ys) := by
    refine ⟨?_, ?_, ?_, ?_⟩
    · rintro ⟨s, j⟩ S x vs W1 hok hlive ⟨ix, hix, hsx⟩ hJ hn
      have hsx' := congrArg Prod.fst hsx
      rw [trc_stpB] at hsx'
      simp only at hlive
      subst hlive
      rw [hJn] at hJ
      obtain ⟨i, hSt, hS⟩ := hJ
      rw [hr0] at hSt hS
      have hrec : W1.heap[w.heap.size + 1]? = some (.loop r) := hSt.head.2.1
      refine ⟨_, _, _, _, run_yield (P := C.P) hrec (by rw [hr]; simp [hps x _ _ _ hok]), ?_⟩
      let R : Ending → World → Prop := fun e w' => ∃ v, e = .returned v ∧ (v = .bool (stpB stp (s, none) x).2 ∧ Near W1.heap.size S W1 w' ∧ ∃ S', Jn (stpB stp (s, none) x).1 S' w' ∧ ∀ b, S' b → S b ∨ W1.heap.size ≤ b)
      have hfx : Fits C.n [] (parFr ps vs F) ⟨(ps.zip vs).foldl (fun tmps (x : Tmp × Value) => tmps.setIfInBounds x.1 x.2) a.tmps, []⟩ :=
        parFr_fits ps vs F C.n [] a.tmps hpn ⟨rfl, hf.size, hf.get⟩
      have hend' : ∀ (e : Exit) (jump : Option Code) (i' : ξ) (F' : Fr) (L' M : List HA), jumpOf e = some jump → (stp s x).2 = jump → Rem L' (haRec (w.heap.size + 1) { r with state := .busy }) M → LSub (haDef w.heap.size :: LI (stp s x).1 i') M →
          SQ (C.inRound (w.heap.size + 1) (roundPost C.P (w.heap.size + 1) R) W1 (foots (haRec (w.heap.size + 1) r :: haDef w.heap.size :: LI s i))) e [] F' L' := by
        intro e jump i' F' L' M hj hstp hrem hsub
        refine sq_round (R := R) rfl rfl hj hrem fun w' hSt' => ?_
        have hSt1 : St W1 (foots (haRec (w.heap.size + 1) r :: haDef w.heap.size :: LI s i)) (haRec (w.heap.size + 1) (recSt r jump) :: haDef w.heap.size :: LI (stp s x).1 i') w' := by
          refine St.sub (L := haRec (w.heap.size + 1) (recSt r jump) :: M) hSt' ?_
          exact LSub.cons Rem.here hsub
        have hout := St.unround hSt hSt1 (habs _ _ _)
        refine ⟨_, rfl, ?_, ⟨hSt1.near.os, hSt1.near.tape, hSt1.near.output, hSt1.near.size, fun k hk hnot => hSt1.near.block k hk (fun hb => hnot ((hS k).2 hb))⟩, foots (haRec (w.heap.size + 1) (recSt r jump) :: haDef w.heap.size :: LI (stp s x).1 i'), ?_, ?_⟩
        · simp only [stpB]; rw [hstp]
        · rw [hJn]
          refine ⟨i', ?_, fun b => ?_⟩
          · simp only [stpB]; rw [hstp]; exact hout
          · simp only [stpB]; rw [hstp]
        · intro b hb
          rcases (foots_old (B := 0) hSt1 hb).1 with h3 | h3
          · exact .inr h3
          · exact .inl ((hS b).2 h3)
      have hb := hbody (w.heap.size + 1) w.heap.size r W1 s i x vs (roundPost C.P (w.heap.size + 1) R) (by rw [show foots (haRec (w.heap.size + 1) r :: haDef w.heap.size :: LI s i) = S from funext fun b => propext (hS b).symm]; exact hok) ⟨ix, hix, hsx'⟩ hready hSt hend'
      have hb1 := hb _ W1 hfx hSt.round
      refine (roundIn_of_wpIn (F := fc none) (n := 0) trivial ?_ : RoundIn (fc none) 0 C.P (w.heap.size + 1) _ _ _ _ W1 R)
      have e1 : ((r.params.zip vs.toArray).foldl (fun tmps (t, a) => tmps.setIfInBounds t a) r.tmps) = (ps.zip vs).foldl (fun tmps (x : Tmp × Value) => tmps.setIfInBounds x.1 x.2) a.tmps := by
        rw [hr]
        simp only [List.zip_toArray, List.foldl_toArray]
      have e2 : r.assign = assign := by rw [hr]
      have e3 : r.body = body := by rw [hr]
      rw [e1, e2, e3]
      exact hb1
    · rintro ⟨s, j⟩ x hlive hgo
      simp only [stpB] at hgo ⊢
      cases h : (stp s x).2 with
      | none => rfl
      | some c => rw [h] at hgo; simp at hgo
    · rintro ⟨s, j⟩ S W1 b hJ hb
      rw [hJn] at hJ
      obtain ⟨i, hSt, hS⟩ := hJ
      exact (foots_old (B := 0) hSt ((hS b).1 hb)).2
    · rintro ⟨s, j⟩ S W1 W2 hJ hn hk hSb
      rw [hJn] at hJ ⊢
      obtain ⟨i, hSt, hS⟩ := hJ
      have hn' : Near C.w0.heap.size C.hot W1 W2 := ⟨hn.os, hn.tape, hn.output, hn.size, fun k hk' hnot => hn.block k (Nat.lt_of_lt_of_le hk' hSW.near.size) (fun hb => by
        rw [← hS0] at hb
        rcases (foots_old (B := 0) hSW hb).1 with h3 | h3
        · omega
        · exact hnot h3)⟩
      refine ⟨i, ⟨hSt.near.trans hn', fun y hy => (hSt.holds y hy).keep (fun b hb => hk b ((hS b).2 ⟨y, hy, hb⟩)) hn', hSt.sep⟩, hS⟩
  have hit := hiter W (w.heap.size + 1) w.heap.size r hSW _ Jn (stpB stp) (fun t => t.2 = none) (s0, none) (w.heap.size + 1)
  rw [hS0] at hit
  have hJ0 : Jn (s0, none) S0 W := by
    rw [hJn]
    refine ⟨i0, by rw [hr0]; exact hSW, fun b => by rw [hr0, hS0]⟩
  have hcall := hit hcons rfl hJ0
  have hrun := call_run (callable_of hcal) ((Value.func (.yield (w.heap.size + 1)) #[] #[]) :: lb).toArray W
  refine ⟨w.heap.size + 1, [{ target := .collected w.heap.size, args := #[] }], W, { target := .fn (.func gf) lb.toArray, args := #[.func (.yield (w.heap.size + 1)) #[] #[]] }, W, gf, ((Value.func (.yield (w.heap.size + 1)) #[] #[]) :: lb).toArray, W, ?_, ?_, fun _ _ => trivial, ?_, fun h => by simp [fc] at h, ?_⟩
  · rw [← hW, hr]; exact run_enterLoop_outer _ _ _ _ _
  · have h1 := hf.ev hg
    simp only [resolve, h1]
    simp [Deferred.ofValue, Act.eval]
  · simp only [invoke]
    have : (#[Value.func (.yield (w.heap.size + 1)) #[] #[]] ++ lb.toArray) = ((Value.func (.yield (w.heap.size + 1)) #[] #[]) :: lb).toArray := by simp
    rw [this]
    exact hrun
  · refine callsIn_fc.2 (hcall.mono fun e W' ⟨⟨v, he⟩, hn, S', hJ, hS'⟩ => ?_)
    subst he
    rw [runsB_runsJ, hJn] at hJ
    obtain ⟨i, hSt, hS⟩ := hJ
    have hrec : W'.heap[w.heap.size + 1]? = some (.loop (recSt r (runsJ stp s0 ys).2)) := hSt.head.2.1
    have hpend : (recSt r (runsJ stp s0 ys).2).pending = (runsJ stp s0 ys).2 := by cases (runsJ stp s0 ys).2 <;> rfl
    have hbz : (recSt r (runsJ stp s0 ys).2).state ≠ .busy := by cases (runsJ stp s0 ys).2 <;> simp [recSt]
    have hfm : Fits C.n (C.mark w.heap.size).ds F { a with defers := [{ target := .collected w.heap.size, args := #[] }] ++ a.defers } := ⟨by simp [Cx.mark, hf.dfr], hf.size, hf.get⟩
    have hStm := (st_putObj hSt (o' := .loop { recSt r (runsJ stp s0 ys).2 with state := .exhausted }) Upd.here).tail
    refine ⟨_, _, run_endLoop hrec hbz, ?_⟩
    rw [hpend]
    cases hj : (runsJ stp s0 ys).2 with
    | none =>
      have := hend w.heap.size i hj _ _ hfm (by rw [hj] at hStm; exact hStm)
      rw [kpost_mark] at this
      exact this
    | some c =>
      have := hjump w.heap.size i c hj _ _ hfm (by rw [hj] at hStm; exact hStm)
      rw [kpost_mark] at this
      rw [show (C.mark w.heap.size).rd = none from hrd] at this
      exact this
end
theorem pw_apart {L : List HA} (h : L.Pairwise HA.apart) {x y : HA} (hx : x ∈ L) (hy : y ∈ L) (hne : x ≠ y) : x.apart y := by
  induction L with
  | nil => cases hx
  | cons z L ih =>
    rw [List.pairwise_cons] at h
    rcases List.mem_cons.1 hx with h1 | h1
    · subst h1
      rcases List.mem_cons.1 hy with h2 | h2
      · exact absurd h2.symm hne
      · exact h.1 _ h2
    · rcases List.mem_cons.1 hy with h2 | h2
      · subst h2
        exact (h.1 _ h1).symm
      · exact ih h.2 h1 h2
end Eng
end Go.Proofs.YtmakokbpadmfbaaGreat

/-
  Regions that draw their order, walked by a plan: quiet operations, with their guards, and calls that only make memory are taken when they stand in the plan; the others when nothing else is ready.
-/
namespace Go.Proofs.YtmakokbpadmfbaaGreat
namespace Eng
open Go.RowKit
set_option linter.unusedVariables false
section
variable {P : Program} {rd : Option Nat} {ops : Array Oper} {Φ : Act → World → Prop} {S : World → Prop}
/-- Each order, in this world or in one that has grown from it. -/
def anyG (P : Program) (rd : Option Nat) (ops : Array Oper) (Φ : Act → World → Prop) (S : World → Prop) : Nat → Array Bool → Act → World → Prop
  | 0, listed, a, w => ∀ w1, Below w.heap.size w w1 → Region.ready .any ops listed = [] ∧ Φ a w1
  | fuel + 1, listed, a, w => ∀ w1, Below w.heap.size w w1 → (Region.ready .any ops listed = [] → Φ a w1) ∧
      ∀ i ∈ Region.ready .any ops listed, wpOpIn (fc rd) 0 P ops (normOnly Φ) i (fun a' w' => S w' ∧ anyG P rd ops Φ S fuel (listed.setIfInBounds i true) a' w') a w1
theorem below_tr {a b c : World} (h : Below a.heap.size a b) (k : Below b.heap.size b c) : Below a.heap.size a c := h.trans (k.mono h.size)
theorem anyG_grow {fuel : Nat} {listed : Array Bool} {a : Act} {w w' : World} (h : anyG P rd ops Φ S fuel listed a w) (hb : Below w.heap.size w w') : anyG P rd ops Φ S fuel listed a w' := by
  cases fuel with
  | zero => exact fun w1 h1 => h w1 (below_tr hb h1)
  | succ fuel => exact fun w1 h1 => h w1 (below_tr hb h1)
theorem anyG_sound : ∀ (fuel : Nat) (listed : Array Bool) (a : Act) (w : World), anyG P rd ops Φ S fuel listed a w → wpAnyIn (fc rd) 0 P .any ops (normOnly Φ) fuel listed a w
  | 0, _, _, w, h => h w (Below.refl _ _)
  | fuel + 1, _, _, w, h => ⟨(h w (Below.refl _ _)).1, fun i hi => wpOpIn_mono (fun a' w' h' => anyG_sound fuel _ a' w' h'.2) ((h w (Below.refl _ _)).2 i hi)⟩
/-- Operation i yields v whenever it comes, or is passed over. -/
def YG (P : Program) (ops : Array Oper) (S : World → Prop) (o : Oper) (v : Value) (a : Act) : Prop :=
  (Region.wanted o (yielded ops a.tmps) = true ∧ ∀ w, S w → o.quietAt P a (fun w'' => Below w.heap.size w w'') w v) ∨ (Region.wanted o (yielded ops a.tmps) = false ∧ v = undef)
theorem YG.run {i : Nat} {o : Oper} {v : Value} {a : Act} {w : World} (hi : ops[i]? = some o) (hy : YG P ops S o v a) (hS : S w) {K : Act → World → Prop}
    (h : ∀ w', Below w.heap.size w w' → K (a.put o.dst v) w') : wpOpIn (fc rd) 0 P ops (normOnly Φ) i K a w := by
  unfold wpOpIn
  simp only [hi]
  rcases hy with ⟨hw, hq⟩ | ⟨hw, hv⟩
  · rw [if_pos hw]
    have h1 := hq w hS
    unfold Oper.quietAt at h1
    generalize hr : (execOp a.eval o).run P w = r at h1
    cases r with
    | ok x w' =>
      cases x <;> simp only [Oper.quietUpon] at h1
      case value u =>
        obtain ⟨rfl, rfl⟩ := h1
        exact wpIn_value hr (h _ (Below.refl _ _))
      case skip =>
        obtain ⟨rfl, rfl⟩ := h1
        exact wpIn_skip_ hr (h _ (Below.refl _ _))
      case enter f args =>
        obtain ⟨rfl, hc⟩ := h1
        refine wpIn_enter_ hr (hc.mono fun e w'' ⟨he, hs'⟩ => ?_)
        subst he
        exact h _ hs'
    | halt x w' => simp only [Oper.quietUpon] at h1
  · rw [if_neg (by rw [hw]; decide), ← hv]
    exact ⟨fun _ _ => trivial, h w (Below.refl _ _)⟩
theorem opG_put {j : Nat} {oi oj : Oper} {v : Value} (hj : ops[j]? = some oj) (hap : oi.apart ops oj = true) (hsi : ∀ cs b, oi.op ≠ .select cs b) (hsj : ∀ cs b, oj.op ≠ .select cs b) {K : Act → World → Prop} {a : Act} {w : World}
    (hy : YG P ops S oi v a) (h : wpOpIn (fc rd) 0 P ops (normOnly Φ) j K (a.put oi.dst v) w) :
    wpOpIn (fc rd) 0 P ops (normOnly Φ) j (fun a' w' => YG P ops S oi v a' ∧ K (a'.put oi.dst v) w') a w := by
  obtain ⟨h1, h2, h3⟩ := Oper.apart_spec hap
  have same : ∀ (a a' : Act), execOp a'.eval oi = execOp a.eval oi → Region.wanted oi (yielded ops a'.tmps) = Region.wanted oi (yielded ops a.tmps) → YG P ops S oi v a → YG P ops S oi v a' := fun a a' he hw hy => by
    unfold YG Oper.quietAt at hy ⊢
    rw [he, hw]
    exact hy
  have keep : ∀ (a : Act), YG P ops S oi v a → ∀ u, YG P ops S oi v (a.put oj.dst u) := fun a hy u => same a _ (execOp_put oi hsi a oj.dst u h3) (wanted_put oi a oj.dst u h3) hy
  unfold wpOpIn at *
  simp only [hj] at *
  rw [wanted_put oj a oi.dst v h1] at h
  split
  · rename_i hw
    simp only [hw, if_true] at h
    refine ⟨fun _ _ => trivial, ?_⟩
    have h := h.2
    rw [show (fc rd).round = rd from rfl] at h ⊢
    rw [semAt_put rd oj hsj a oi.dst v h1] at h
    generalize (oj.semAt rd a.eval).run P w = r at *
    cases r with
    | ok x w' =>
      cases x <;> simp only [Oper.uponIn] at h ⊢
      case value u => exact ⟨keep a hy u, by rw [← Act.put_comm a v u h2]; exact h⟩
      case skip => exact ⟨keep a hy _, by rw [← Act.put_comm a v undef h2]; exact h⟩
      case defer d =>
        refine ⟨keep { a with defers := d :: a.defers } (same a { a with defers := d :: a.defers } rfl rfl hy) _, ?_⟩
        rw [← Act.put_comm _ v undef h2, ← Act.put_defers]
        exact h
      case enter f args =>
        refine ⟨h.1, h.2.mono fun e w'' he => ?_⟩
        cases e with
        | returned u => exact ⟨keep a hy u, by rw [← Act.put_comm a v u h2]; exact he⟩
        | panicked c => exact he
        | outgrown => exact he
      case round l f tmps assign body =>
        refine ⟨h.1, h.2.mono fun e w'' he => ?_⟩
        cases e with
        | returned u => exact ⟨keep a hy u, by rw [← Act.put_comm a v u h2]; exact he⟩
        | panicked c => exact he
        | outgrown => exact he
      case row row args => exact ⟨h.1, h.2.mono fun u w'' he => ⟨keep a hy u, by rw [← Act.put_comm a v u h2]; exact he⟩⟩
    | halt x w' =>
      cases x <;> simp only [Oper.uponIn] at h ⊢
      case panic u => exact h
  · rename_i hw
    simp only [hw] at h
    exact ⟨fun _ _ => trivial, keep a hy _, by rw [← Act.put_comm a v undef h2]; exact h.2⟩
theorem anyG_first {i : Nat} {oi : Oper} {v : Value} (hi : ops[i]? = some oi) (hsel : ∀ (j : Nat) (o : Oper) cs b, ops[j]? = some o → o.op ≠ .select cs b) (hgr : ∀ w w', S w → Below w.heap.size w w' → S w') :
    ∀ (fuel : Nat) (listed : Array Bool) (a : Act) (w : World),
      (∀ j oj, ops[j]? = some oj → j ≠ i → listed.getD j true = false → (∀ e ∈ oj.after, Region.binds .any e = true → e.on ≠ i) → oi.apart ops oj = true) →
      i ∈ Region.ready .any ops listed → YG P ops S oi v a → S w →
      anyG P rd ops Φ S fuel (listed.setIfInBounds i true) (a.put oi.dst v) w → anyG P rd ops Φ S (fuel + 1) listed a w := by
  intro fuel
  induction fuel with
  | zero =>
    intro listed a w _ hr hy hS H w1 hw1
    refine ⟨fun h => (by rw [h] at hr; cases hr), fun j hj => ?_⟩
    by_cases hji : j = i
    · subst hji
      exact hy.run hi (hgr _ _ hS hw1) fun w' hw' => ⟨hgr _ _ hS (below_tr hw1 hw'), anyG_grow H (below_tr hw1 hw')⟩
    · have := ready_mono hj hji
      rw [(H w1 hw1).1] at this
      cases this
  | succ fuel ih =>
    intro listed a w hfree hr hy hS H w1 hw1
    refine ⟨fun h => (by rw [h] at hr; cases hr), fun j hj => ?_⟩
    by_cases hji : j = i
    · subst hji
      exact hy.run hi (hgr _ _ hS hw1) fun w' hw' => ⟨hgr _ _ hS (below_tr hw1 hw'), anyG_grow H (below_tr hw1 hw')⟩
    · have h1 := (H w1 hw1).2 j (ready_mono hj hji)
      obtain ⟨hjun, oj, hoj, hall⟩ := mem_ready.1 hj
      have hnot : ∀ e ∈ oj.after, Region.binds .any e = true → e.on ≠ i := fun e he hb heq => by
        have h1 := hall e he hb
        have h0 := (mem_ready.1 hr).1
        rw [heq] at h1
        rcases Nat.lt_or_ge i listed.size with h' | h'
        · simp [h'] at h0 h1; rw [h0] at h1; cases h1
        · simp [Array.getElem?_eq_none h'] at h1
      have h2 := opG_put hoj (hfree j oj hoj hji hjun hnot) (fun cs b => hsel i oi cs b hi) (fun cs b => hsel j oj cs b hoj) hy h1
      have hfree' : ∀ k ok, ops[k]? = some ok → k ≠ i → (listed.setIfInBounds j true).getD k true = false → (∀ e ∈ ok.after, Region.binds .any e = true → e.on ≠ i) → oi.apart ops ok = true := fun k ok hk hki hun hno => by
        refine hfree k ok hk hki ?_ hno
        by_cases hjk : j = k
        · subst hjk; exact hjun
        · rw [getD_set_ne true hjk] at hun; exact hun
      have hr' := ready_mono hr (Ne.symm hji)
      refine wpOpIn_mono (fun a' w' h3 => ?_) h2
      refine ⟨h3.2.1, ih (listed.setIfInBounds j true) a' w' hfree' hr' h3.1 h3.2.1 ?_⟩
      rw [Array.setIfInBounds_comm _ _ hji]
      exact h3.2.2
end
/-! ### The rules -/
/-- A plan: operation i is quiet; it alone is ready; these two are ready. -/
inductive Pl where
  | z
  | q (i : Nat) (p : Pl)
  | e (i : Nat) (p : Pl)
  | b (i j : Nat) (p r : Pl)
def JG (C : Cx) (ops : Array Oper) (Φ : Act → World → Prop) (Lp : List HA) (plan : Pl) (fuel : Nat) (listed : Array Bool) (F : Fr) (L : List HA) : Prop :=
  LSub Lp L → ∀ a w, Fits C.n C.ds F a → St C.w0 C.hot L w → anyG C.P C.rd ops Φ (St C.w0 C.hot Lp) fuel listed a w
/-- What stands behind a quiet operation, and behind another one: the memory ahead of it beside it. -/
def FQ (C : Cx) (ops : Array Oper) (Φ : Act → World → Prop) (Lp : List HA) (plan : Pl) (fuel : Nat) (listed : Array Bool) (L : List HA) (a : Act) (w : World) : Prop :=
  LSub Lp L → ∀ w, St C.w0 C.hot L w → anyG C.P C.rd ops Φ (St C.w0 C.hot Lp) fuel listed a w
def FE (C : Cx) (ops : Array Oper) (Φ : Act → World → Prop) (Lp : List HA) (plan : Pl) (fuel : Nat) (listed : Array Bool) (L : List HA) (a : Act) (w : World) : Prop :=
  LSub Lp L → St C.w0 C.hot Lp w ∧ anyG C.P C.rd ops Φ (St C.w0 C.hot Lp) fuel listed a w
section
variable {C : Cx} {F : Fr} {L Lp : List HA} {K : List KI} {ops : Array Oper} {Φ : Act → World → Prop} {fuel : Nat} {listed : Array Bool} {plan plan2 : Pl}
theorem gJG (h : JG C ops Φ Lp plan fuel listed F L) : JG C ops Φ Lp plan fuel listed F L := h
/-- Region k, by a plan: (true, i): operation i is quiet; (false, i): it alone is ready. -/
theorem sc_autoL (k : Nat) {l : List Oper} (Lp : List HA) (plan : Pl) (hsub : LSub Lp L) (hm : C.P.follows .mixedOrders = true) (h : JG C l.toArray (kpost C K .normal) Lp plan l.toArray.size (Array.replicate l.toArray.size false) F L) : SC C (.region k l.toArray true) K F L := by
  intro a w hf hs
  have h1 := anyG_sound _ _ _ _ (h hsub a w.drew hf (hs.later (Below.refl _ _).drew))
  refine wpIn_mono (wpIn_region_any (Q := normOnly (kpost C K .normal)) hm h1) fun e a w hq => ?_
  cases e <;> first | exact hq | exact hq.elim
theorem sc_auto (k : Nat) {l : List Oper} (plan : Pl) (hm : C.P.follows .mixedOrders = true) (h : JG C l.toArray (kpost C K .normal) L plan l.toArray.size (Array.replicate l.toArray.size false) F L) : SC C (.region k l.toArray true) K F L :=
  sc_autoL k L plan LSub.refl hm h
/-- A region in which x is written: it is not kept. -/
theorem sc_autoR (k : Nat) (x : HA) {l : List Oper} (plan : Pl) (hr : Rem L x Lp) (hm : C.P.follows .mixedOrders = true) (h : JG C l.toArray (kpost C K .normal) Lp plan l.toArray.size (Array.replicate l.toArray.size false) F L) : SC C (.region k l.toArray true) K F L :=
  sc_autoL k Lp plan ⟨[x], hr.perm.trans (List.perm_append_comm (l₁ := [x]))⟩ hm h
/-- A region that writes what it reads: nothing is kept. -/
theorem sc_auto0 (k : Nat) {l : List Oper} (plan : Pl) (hm : C.P.follows .mixedOrders = true) (h : JG C l.toArray (kpost C K .normal) [] plan l.toArray.size (Array.replicate l.toArray.size false) F L) : SC C (.region k l.toArray true) K F L :=
  sc_autoL k [] plan LSub.nil hm h
theorem jg_q {oi : Oper} {i : Nat} (hi : ops[i]? = some oi) (hchk : ((Region.ready .any ops listed).contains i && Region.free .any ops listed i && Region.noSelect ops) = true)
    (h : J C ops true [oi] [.fin (FQ C ops Φ Lp plan fuel (listed.setIfInBounds i true) L)] F Lp) : JG C ops Φ Lp (.q i plan) (fuel + 1) listed F L := by
  simp only [Bool.and_eq_true, List.contains_iff_mem] at hchk
  obtain ⟨⟨hr, hfr⟩, hns⟩ := hchk
  intro hsub a w hf hs
  have h1 := h a hf
  unfold wpQB at h1
  have hS := hs.sub hsub
  have hex : ∃ v, YG C.P ops (St C.w0 C.hot Lp) oi v a ∧ ∀ w, St C.w0 C.hot L w → anyG C.P C.rd ops Φ (St C.w0 C.hot Lp) fuel (listed.setIfInBounds i true) (a.put oi.dst v) w := by
    split at h1
    · rename_i hw
      obtain ⟨v, h2, h3⟩ := h1
      exact ⟨v, .inl ⟨hw, h2⟩, h3 w hS hsub⟩
    · rename_i hw
      exact ⟨undef, .inr ⟨by simpa using hw, rfl⟩, h1 w hS hsub⟩
  obtain ⟨v, hy, hn⟩ := hex
  exact anyG_first hi (Region.noSelect_spec hns) (fun w w' h hb => h.later hb) fuel listed a w (Region.free_spec hi hfr) hr hy hS (hn w hs)
theorem jg_next {Lq : List HA} (h : JG C ops Φ Lp plan fuel listed F L) : SQ C .normal [.fin (FQ C ops Φ Lp plan fuel listed L)] F Lq :=
  fun a w hf hs => fun hsub w1 hs1 => h hsub a w1 hf hs1
theorem jg_e {oi : Oper} {i : Nat} (hr : Region.ready .any ops listed = [i]) (hi : ops[i]? = some oi)
    (h : J C ops false [oi] [.fin (FE C ops Φ Lp plan fuel (listed.setIfInBounds i true) L)] F L) : JG C ops Φ Lp (.e i plan) (fuel + 1) listed F L := by
  intro hsub a w hf hs w1 hw1
  refine ⟨fun e => (by rw [hr] at e; cases e), fun i' hi' => ?_⟩
  rw [hr, List.mem_singleton] at hi'
  subst hi'
  have h1 := h a w1 hf (hs.later hw1)
  unfold wpListIn at h1
  unfold wpOpIn
  simp only [hi]
  split
  · rename_i hw
    rw [if_pos hw] at h1
    have h2 : oi.wpIn (fc C.rd) 0 C.P a w1 (FE C ops Φ Lp plan fuel (listed.setIfInBounds i' true) L) (normOnly Φ) := h1
    exact Oper.wpIn_mono (fun a' w' h3 => h3 hsub) h2
  · rename_i hw
    rw [if_neg hw] at h1
    exact ⟨h1.1, h1.2 hsub⟩
theorem jg_b {oi oj : Oper} {i j : Nat} (hr : Region.ready .any ops listed = [i, j]) (hi : ops[i]? = some oi) (hj : ops[j]? = some oj)
    (h : J C ops false [oi] [.fin (FE C ops Φ Lp plan fuel (listed.setIfInBounds i true) L)] F L) (h2 : J C ops false [oj] [.fin (FE C ops Φ Lp plan2 fuel (listed.setIfInBounds j true) L)] F L) : JG C ops Φ Lp (.b i j plan plan2) (fuel + 1) listed F L := by
  have key : ∀ {k : Nat} {ok : Oper} {pl : Pl}, ops[k]? = some ok → J C ops false [ok] [.fin (FE C ops Φ Lp pl fuel (listed.setIfInBounds k true) L)] F L → LSub Lp L → ∀ a w1, Fits C.n C.ds F a → St C.w0 C.hot L w1 → wpOpIn (fc C.rd) 0 C.P ops (normOnly Φ) k (fun a' w' => St C.w0 C.hot Lp w' ∧ anyG C.P C.rd ops Φ (St C.w0 C.hot Lp) fuel (listed.setIfInBounds k true) a' w') a w1 := by
    intro k ok pl hk hJ hsub a w1 hf hs
    have h1 := hJ a w1 hf hs
    unfold wpListIn at h1
    unfold wpOpIn
    simp only [hk]
    split
    · rename_i hw
      rw [if_pos hw] at h1
      have h2 : ok.wpIn (fc C.rd) 0 C.P a w1 (FE C ops Φ Lp pl fuel (listed.setIfInBounds k true) L) (normOnly Φ) := h1
      exact Oper.wpIn_mono (fun a' w' h3 => h3 hsub) h2
    · rename_i hw
      rw [if_neg hw] at h1
      exact ⟨h1.1, h1.2 hsub⟩
  intro hsub a w hf hs w1 hw1
  refine ⟨fun e => (by rw [hr] at e; cases e), fun i' hi' => ?_⟩
  rw [hr, List.mem_cons, List.mem_singleton] at hi'
  rcases hi' with e | e <;> subst e
  · exact key hi h hsub a w1 hf (hs.later hw1)
  · exact key hj h2 hsub a w1 hf (hs.later hw1)
/-- Behind one that wrote nothing of what is kept: the same memory; one assertion more; whatever holds what is kept. -/
theorem jg_next0 (h : JG C ops Φ Lp plan fuel listed F L) : SQ C .normal [.fin (FE C ops Φ Lp plan fuel listed L)] F L := fun a w hf hs => fun hsub => ⟨hs.sub hsub, h hsub a w hf hs⟩
theorem jg_next1 {x : HA} (h : JG C ops Φ Lp plan fuel listed F (x :: L)) : SQ C .normal [.fin (FE C ops Φ Lp plan fuel listed L)] F (x :: L) := fun a w hf hs => fun hsub => ⟨hs.tail.sub hsub, h (by
  obtain ⟨M, hM⟩ := hsub
  exact ⟨x :: M, (List.Perm.cons _ hM).trans List.perm_middle.symm⟩) a w hf hs⟩
theorem jg_nextE {L0 : List HA} (hsub : LSub Lp L) (h : JG C ops Φ Lp plan fuel listed F L) : SQ C .normal [.fin (FE C ops Φ Lp plan fuel listed L0)] F L := fun a w hf hs => fun _ => ⟨hs.sub hsub, h hsub a w hf hs⟩
theorem gFE {L0 : List HA} (h : SQ C .normal [.fin (FE C ops Φ Lp plan fuel listed L0)] F L) : SQ C .normal [.fin (FE C ops Φ Lp plan fuel listed L0)] F L := h
theorem jg_done {K : List KI} (hr : Region.ready .any ops listed = []) (h : SQ C .normal K F L) : JG C ops (kpost C K .normal) Lp .z fuel listed F L := by
  intro _ a w hf hs
  cases fuel with
  | zero => exact fun w1 hw1 => ⟨hr, h a w1 hf (hs.later hw1)⟩
  | succ fuel => exact fun w1 hw1 => ⟨fun _ => h a w1 hf (hs.later hw1), fun i hi => by rw [hr] at hi; cases hi⟩
end
end Eng
end Go.Proofs.YtmakokbpadmfbaaGreat

/-
  A literal's cells read as a list.
-/
namespace Go.Proofs.YtmakokbpadmfbaaGreat
namespace Eng
open Go.RowKit
set_option linter.unusedVariables false
theorem rs_lit {α : Type} {f : α → List Value} {sz b u : Nat} {cs : List Value} {w0 w : World} {hot : Nat → Prop} {L : List HA} (l : List α) (hf : ∀ x, (f x).length = sz) (hs : St w0 hot L w) (hin : InL L (.cells b u cs)) (hx : cs = l.flatMap f) : RS w sz f (some ⟨b, 0, none⟩) l := by
  subst hx
  intro i x hx
  refine ⟨_, rfl, by rw [block_add]; exact (Array.getElem?_eq_some_iff.1 (hs.at hin).2).1, fun j v hv => ?_⟩
  rw [nth_eq] at hv
  rw [Eng.add_add, add_own, cells_cell (hs.at hin), nth_eq, Nat.zero_add]
  exact flat_at f sz hf l i x j v hx hv
end Eng
end Go.Proofs.YtmakokbpadmfbaaGreat

/-
  Maps keyed by integers: a list of pairs, in the order in which they came.
-/
namespace Go.Proofs.YtmakokbpadmfbaaGreat
namespace Eng
open Go.RowKit
set_option linter.unusedVariables false
def mlk : List (Int × Value) → Int → Option Value
  | [], _ => none
  | (k', v) :: M, k => if k' = k then some v else mlk M k
def mset : List (Int × Value) → Int → Value → List (Int × Value)
  | [], k, v => [(k, v)]
  | (k', v') :: M, k, v => if k' = k then (k', v) :: M else (k', v') :: mset M k v
def pairs (l : List MapEntry) : List (Value × Value) := l.map fun e => (e.key, e.val)
def ipairs (ik : IntKind) (M : List (Int × Value)) : List (Value × Value) := M.map fun p => (Value.int ik p.1, p.2)
def imapOk (ik : IntKind) (M : List (Int × Value)) (o : Obj) : Prop :=
  ∃ es clk, o = .map es clk ∧ pairs es.toList = ipairs ik M ∧ (∀ e ∈ es.toList, e.born < clk) ∧ (es.toList.map (·.born)).Nodup
def haMap (b : Nat) (ik : IntKind) (M : List (Int × Value)) : HA := .abs (· = b) (fun w => ∃ o, w.heap[b]? = some o ∧ imapOk ik M o)
theorem haMap_holds {B : Nat} {hot : Nat → Prop} {w : World} {b : Nat} {ik : IntKind} {M : List (Int × Value)} {o : Obj} (hb : B ≤ b ∨ hot b) (h : w.heap[b]? = some o) (ho : imapOk ik M o) : (haMap b ik M).holds B hot w :=
  ⟨fun c hc => by subst hc; exact ⟨hb, (Array.getElem?_eq_some_iff.1 h).1⟩, ⟨o, h, ho⟩, fun w' _ hk => ⟨o, (hk b rfl).trans h, ho⟩⟩
theorem find_spec (ik : IntKind) (k : Int) : ∀ (l : List MapEntry) (M : List (Int × Value)) (n : Nat), pairs l = ipairs ik M →
    (mlk M k = none → Instr.findNow (.int ik) (.int ik k) l n = some none ∧ ∀ v, ipairs ik (mset M k v) = ipairs ik M ++ [(.int ik k, v)]) ∧
    (∀ v, mlk M k = some v → ∃ i, Instr.findNow (.int ik) (.int ik k) l n = some (some (n + i, v)) ∧ i < l.length ∧ (∃ e, l[i]? = some e ∧ e.key = .int ik k) ∧ ∀ v', pairs (l.modify i fun e => { e with key := .int ik k, val := v' }) = ipairs ik (mset M k v'))
  | [], M, n, h => by
    cases M with
    | nil => exact ⟨fun _ => ⟨rfl, fun v => rfl⟩, fun v hv => by simp [mlk] at hv⟩
    | cons p M => simp [pairs, ipairs] at h
  | e :: l, M, n, h => by
    cases M with
    | nil => simp [pairs, ipairs] at h
    | cons p M =>
      obtain ⟨k', u⟩ := p
      simp only [pairs, ipairs, List.map_cons, List.cons.injEq, Prod.mk.injEq] at h
      obtain ⟨⟨h1, h2⟩, h3⟩ := h
      have ih := find_spec ik k l M (n + 1) h3
      by_cases hk : k' = k
      · subst hk
        refine ⟨fun hn => by simp [mlk] at hn, fun v hv => ?_⟩
        simp only [mlk, if_true, Option.some.injEq] at hv
        refine ⟨0, ?_, by simp, ⟨e, rfl, h1⟩, fun v' => ?_⟩
        · simp [Instr.findNow, h1, Instr.sameNow, h2, hv]
        · simp only [mset, if_true]
          simp only [pairs, ipairs] at h3 ⊢
          simp [List.modify, List.modifyTailIdx, List.modifyTailIdx.go, h3]
      · have hne : (k == k') = false := by simp; exact fun h => hk h.symm
        have hnow : Instr.findNow (.int ik) (.int ik k) (e :: l) n = Instr.findNow (.int ik) (.int ik k) l (n + 1) := by
          simp [Instr.findNow, h1, Instr.sameNow, hne]
        refine ⟨fun hn => ?_, fun v hv => ?_⟩
        · simp only [mlk, if_neg hk] at hn
          obtain ⟨a1, a2⟩ := ih.1 hn
          refine ⟨hnow.trans a1, fun v => ?_⟩
          have := a2 v
          simp only [ipairs] at this ⊢
          simp [mset, if_neg hk, this]
        · simp only [mlk, if_neg hk] at hv
          obtain ⟨i, a1, a2, a3, a4⟩ := ih.2 v hv
          refine ⟨i + 1, ?_, by simp; omega, ?_, fun v' => ?_⟩
          · rw [hnow, a1]; congr 3; omega
          · simpa using a3
          · have := a4 v'
            simp only [pairs, ipairs] at this ⊢
            simp [mset, if_neg hk, this, h1, h2]
section
variable {C : Cx} {F : Fr} {L : List HA} {o : Oper} {K : List KI} {ops : Array Oper} {m : Bool} {rest : List Oper}
theorem tk_map {P : Program} {t : TypeId} {ti : TI} (h : TIok P t ti) {k e : Nat} (hk : ti.kind = .map k e) : P.underlying t = some (.map k e) := by
  have := h.kind
  rw [hk] at this
  simp only [TK.check] at this
  split at this
  · rename_i k' e' hu
    simp only [decide_eq_true_eq] at this
    obtain ⟨rfl, rfl⟩ := this
    exact hu
  · cases this
theorem run_checkKey_ {P : Program} {t : TypeId} {ik : IntKind} (h : P.underlying t = some (.int ik)) (b : Bool) (k : Int) (w : World) (n : Nat) : (Instr.checkKey b (n + 1) t (.int ik k)).run P w = .ok () w := by
  simp [Instr.checkKey, run_underlying h]
theorem run_checkKey {P : Program} {t : TypeId} {ik : IntKind} (h : P.underlying t = some (.int ik)) (b : Bool) (k : Int) (w : World) : (Instr.checkKey b 10000 t (.int ik k)).run P w = .ok () w := run_checkKey_ h b k w 9999
theorem sameBits_ (n : Nat) (ik : IntKind) (k : Int) : Instr.sameBits n (.int ik k) (.int ik k) = true := by cases n <;> simp [Instr.sameBits]
theorem run_zeroValue {P : Program} {t : TypeId} {ti : TI} (h : TIok P t ti) (w : World) : (zeroValue t).run P w = .ok ti.zv w := by
  obtain ⟨i, z, hi, hz, _, _, hzv⟩ := zero_cells h
  subst hzv
  simp [zeroValue, typeInfo, hi, hz]
theorem run_lookup {P : Program} {t kt et : TypeId} {ti tk te : TI} {ik : IntKind} (ht : TIok P t ti) (hk : ti.kind = .map kt et) (htk : TIok P kt tk) (hkk : tk.kind = .int ik) (hte : TIok P et te) {w : World} {b : Nat} {M : List (Int × Value)} {ob : Obj}
    (hb : w.heap[b]? = some ob) (hM : imapOk ik M ob) (k : Int) (ok : Bool) :
    (Instr.lookup t (.map (some b)) (.int ik k) ok).run P w = .ok (if ok then .tuple #[(mlk M k).getD te.zv, .bool (mlk M k).isSome] else (mlk M k).getD te.zv) w := by
  obtain ⟨es, clk, rfl, hp, _, _⟩ := hM
  have h1 := tk_map ht hk
  have h2 := tab_underlying htk hkk
  have hs := find_spec ik k es.toList M 0 hp
  have hget : (getObj b).run P w = .ok (.map es clk) w := by simp [getObj, Sem.run, hb]
  cases hm : mlk M k with
  | none =>
    obtain ⟨a1, _⟩ := hs.1 hm
    have hf : (Instr.findKey kt (.int ik k) es.toList).run P w = .ok none w := by simp [Instr.findKey, run_underlying h2, a1]
    simp [Instr.lookup, run_underlying h1, hget, run_checkKey h2, hf, run_zeroValue hte]
  | some v =>
    obtain ⟨i, a1, _⟩ := hs.2 v hm
    have hf : (Instr.findKey kt (.int ik k) es.toList).run P w = .ok (some (0 + i, v)) w := by simp [Instr.findKey, run_underlying h2, a1]
    simp [Instr.lookup, run_underlying h1, hget, run_checkKey h2, hf]
theorem q_lookup {t kt et : Nat} {x y : Operand} {ti tk te : TI} {ik : IntKind} {b : Nat} {M : List (Int × Value)} {k : Int} {v : Value} (ho : o.op = .lookup t x y false) (ht : tget C.tab t = some ti) (hk : ti.kind = .map kt et) (htk : tget C.tab kt = some tk)
    (hkk : tk.kind = .int ik) (hte : tget C.tab et = some te) (hx : ev F x = some (.map (some b))) (hy : ev F y = some (.int ik k)) (hin : InL L (haMap b ik M)) (hv : (mlk M k).getD te.zv = v) : Qv C o F L v :=
  .of_run fun a w hf hs => by
    obtain ⟨ob, h1, h2⟩ := (hs.at hin).2.1
    have := run_lookup (C.ok.get ht) hk (C.ok.get htk) hkk (C.ok.get hte) h1 h2 k false
    simp [execOp, ho, hf.ev hx, hf.ev hy, this, hv]
theorem imap_nil (ik : IntKind) : imapOk ik [] (.map #[] 0) := ⟨#[], 0, rfl, rfl, fun e he => by simp at he, by simp⟩
theorem j_makeMapN {d t k e : Nat} {ti : TI} {x : Operand} {kk : IntKind} {n : Int} (ik : IntKind) (ho : o.op = .makeMap t (some x)) (ht : tget C.tab t = some ti) (hk : ti.kind = .map k e) (hx : ev F x = some (.int kk n)) (hg : o.guard = none) (hd : o.dst = some d) (hn : Nat.blt d C.n = true)
    (h : ∀ b, J C ops false rest K ((d, .map (some b)) :: F) (haMap b ik [] :: L)) : J C ops false (o :: rest) K F L := by
  refine j_step_new (ob := .map #[] 0) (x := fun b => haMap b ik []) hg hd hn (fun b => .map (some b)) (fun a w hf hs => ?_) (fun b c h => h) (fun w hw => haMap_holds (.inl hw) (heap_alloc_new _ _) (imap_nil ik)) h
  have h1 := tk_map (C.ok.get ht) hk
  simp [execOp, ho, Instr.makeMap, hf.ev hx, run_underlying h1, asInt, asIntOf]
theorem run_mapUpdate {P : Program} {t kt et : TypeId} {ti tk : TI} {ik : IntKind} (ht : TIok P t ti) (hk : ti.kind = .map kt et) (htk : TIok P kt tk) (hkk : tk.kind = .int ik) {w : World} {b : Nat} {M : List (Int × Value)} {ob : Obj}
    (hb : w.heap[b]? = some ob) (hM : imapOk ik M ob) (k : Int) (v : Value) :
    ∃ ob', (Instr.mapUpdate t (.map (some b)) (.int ik k) v).run P w = .ok () { w with heap := w.heap.setIfInBounds b ob' } ∧ imapOk ik (mset M k v) ob' := by
  obtain ⟨es, clk, rfl, hp, hborn, hnd⟩ := hM
  have h1 := tk_map ht hk
  have h2 := tab_underlying htk hkk
  have hs := find_spec ik k es.toList M 0 hp
  have hget : (getObj b).run P w = .ok (.map es clk) w := by simp [getObj, Sem.run, hb]
  have hset : ∀ o', (setObj b o').run P w = .ok () { w with heap := w.heap.setIfInBounds b o' } := fun o' => by simp [setObj, Sem.run, hb]
  cases hm : mlk M k with
  | none =>
    obtain ⟨a1, a2⟩ := hs.1 hm
    have hf : (Instr.findKey kt (.int ik k) es.toList).run P w = .ok none w := by simp [Instr.findKey, run_underlying h2, a1]
    refine ⟨.map (es.push { key := .int ik k, val := v, born := clk }) (clk + 1), ?_, _, _, rfl, ?_, ?_, ?_⟩
    · simp [Instr.mapUpdate, run_underlying h1, hget, run_checkKey h2, hf, hset]
    · rw [a2 v, ← hp]; simp [pairs]
    · intro e he
      simp only [Array.toList_push, List.mem_append, List.mem_singleton] at he
      rcases he with he | he
      · have := hborn e he; omega
      · subst he; simp
    · simp only [Array.toList_push, List.map_append, List.map_cons, List.map_nil]
      rw [List.nodup_append]
      refine ⟨hnd, by simp, ?_⟩
      intro x hx y hy
      simp only [List.mem_singleton] at hy
      subst hy
      obtain ⟨e, he, rfl⟩ := List.mem_map.1 hx
      have := hborn e he
      omega
  | some u =>
    obtain ⟨i, a1, a2, ⟨e0, a3, a3'⟩, a4⟩ := hs.2 u hm
    have hf : (Instr.findKey kt (.int ik k) es.toList).run P w = .ok (some (0 + i, u)) w := by simp [Instr.findKey, run_underlying h2, a1]
    have hgi : es[0 + i]? = some e0 := by rw [Nat.zero_add]; simpa using a3
    have hkeep : (Instr.keyThatStays (.int ik k) (.int ik k)).run P w = .ok (.int ik k) w := by
      have := sameBits_ 10000 ik k
      unfold Instr.keyThatStays
      rw [if_pos this]
      rfl
    refine ⟨.map (es.modify (0 + i) fun e => { e with key := .int ik k, val := v }) clk, ?_, _, _, rfl, ?_, ?_, ?_⟩
    · simp [Instr.mapUpdate, run_underlying h1, hget, run_checkKey h2, hf]
      rw [Nat.zero_add] at hgi
      simp [hgi, a3', hkeep, hset]
    · rw [← a4 v, Nat.zero_add]; simp [pairs]
    · intro e he
      rw [Array.toList_modify] at he
      obtain ⟨j, hj⟩ := List.mem_iff_getElem?.1 he
      rw [List.getElem?_modify] at hj
      cases hq : es.toList[j]? with
      | none => simp [hq] at hj
      | some e1 =>
        simp only [hq, Option.map_eq_map, Option.map_some, Option.some.injEq] at hj
        have h3 := hborn e1 (List.mem_of_getElem? hq)
        split at hj <;> (subst hj; exact h3)
    · have : ((es.modify (0 + i) fun e => { e with key := .int ik k, val := v }).toList.map (·.born)) = es.toList.map (·.born) := by
        apply List.ext_getElem?
        intro j
        simp only [Array.toList_modify, List.getElem?_map, List.getElem?_modify]
        cases es.toList[j]? with
        | none => simp
        | some e1 => simp only [Option.map_eq_map, Option.map_some]; split <;> rfl
      rw [this]; exact hnd
theorem j_mapUpdate {t kt et : Nat} {x y z : Operand} {ti tk : TI} {ik : IntKind} {b : Nat} {M : List (Int × Value)} {k : Int} {v : Value} {L' : List HA} (ho : o.op = .mapUpdate t x y z) (hg : o.guard = none) (hd : o.dst = none) (ht : tget C.tab t = some ti)
    (hk : ti.kind = .map kt et) (htk : tget C.tab kt = some tk) (hkk : tk.kind = .int ik) (hx : ev F x = some (.map (some b))) (hy : ev F y = some (.int ik k)) (hz : ev F z = some v) (hup : Upd L (haMap b ik M) (haMap b ik (mset M k v)) L')
    (h : J C ops false rest K F L') : J C ops false (o :: rest) K F L := by
  intro a w hf hs
  obtain ⟨N, hp1, hp2⟩ := hup.perm
  have hA := (hs.perm hp1).head
  obtain ⟨ob, h1, h2⟩ := hA.2.1
  obtain ⟨ob', hr, hM'⟩ := run_mapUpdate (C.ok.get ht) hk (C.ok.get htk) hkk h1 h2 k v
  have hrun : (execOp a.eval o).run C.P w = .ok .skip { w with heap := w.heap.setIfInBounds b ob' } := by
    simp [execOp, ho, hf.ev hx, hf.ev hy, hf.ev hz, hr]
  refine wpListIn_run (by simp [Region.wanted, hg]) (wpIn_skip_ hrun ?_)
  rw [hd]
  have hlt := (hA.1 b rfl).2
  refine h a _ (hf.put_none undef) (hs.upd hup ⟨rfl, rfl, rfl, by simp, fun k hk => by omega⟩ ?_ (haMap_holds (hA.1 b rfl).1 (by simp [hlt]) hM') (fun c hc => .inl hc))
  intro c hc hne
  simp only [Array.getElem?_setIfInBounds]
  rw [if_neg (fun e => hne e.symm)]
end
end Eng
end Go.Proofs.YtmakokbpadmfbaaGreat

/-
  Signs turned.
-/
namespace Go.Proofs.YtmakokbpadmfbaaGreat
namespace Eng
open Go.RowKit
set_option linter.unusedVariables false
set_option linter.unusedSimpArgs false
section
variable {C : Cx} {F : Fr} {L : List HA} {o : Oper} {x : Operand} {t : TypeId} {k : IntKind} {a : Int}
end
section
variable {C : Cx} {F : Fr} {L : List HA} {o : Oper} {x y : Operand} {t u : TypeId}
end
end Eng
end Go.Proofs.YtmakokbpadmfbaaGreat

/-
  Maps keyed by structs: a list of pairs, in the order in which they came.
-/
namespace Go.Proofs.YtmakokbpadmfbaaGreat
namespace Eng
open Go.RowKit
set_option linter.unusedVariables false
structure KeyOk {α : Type} [DecidableEq α] (P : Program) (kt : Nat) (enc : α → Value) : Prop where
  und : ∃ d, P.underlying kt = some d ∧ ∀ a b, Instr.sameNow d (enc a) (enc b) = none
  chk : ∀ (b : Bool) k w, (Instr.checkKey b 10000 kt (enc k)).run P w = .ok () w
  eq : ∀ a b w, (Op.equal kt (enc a) (enc b)).run P w = .ok (decide (a = b)) w
  bits : ∀ k, Instr.sameBits 10000 (enc k) (enc k) = true
section
variable {α : Type}
def klk [DecidableEq α] : List (α × Value) → α → Option Value
  | [], _ => none
  | (k', v) :: M, k => if k' = k then some v else klk M k
def kset [DecidableEq α] : List (α × Value) → α → Value → List (α × Value)
  | [], k, v => [(k, v)]
  | (k', v') :: M, k, v => if k' = k then (k', v) :: M else (k', v') :: kset M k v
def kpairs (enc : α → Value) (M : List (α × Value)) : List (Value × Value) := M.map fun p => (enc p.1, p.2)
def kmapOk (enc : α → Value) (M : List (α × Value)) (o : Obj) : Prop :=
  ∃ es clk, o = .map es clk ∧ pairs es.toList = kpairs enc M ∧ (∀ e ∈ es.toList, e.born < clk) ∧ (es.toList.map (·.born)).Nodup
def haKMap (b : Nat) (enc : α → Value) (M : List (α × Value)) : HA := .abs (· = b) (fun w => ∃ o, w.heap[b]? = some o ∧ kmapOk enc M o)
theorem haKMap_holds {B : Nat} {hot : Nat → Prop} {w : World} {b : Nat} {enc : α → Value} {M : List (α × Value)} {o : Obj} (hb : B ≤ b ∨ hot b) (h : w.heap[b]? = some o) (ho : kmapOk enc M o) : (haKMap b enc M).holds B hot w :=
  ⟨fun c hc => by subst hc; exact ⟨hb, (Array.getElem?_eq_some_iff.1 h).1⟩, ⟨o, h, ho⟩, fun w' _ hk => ⟨o, (hk b rfl).trans h, ho⟩⟩
theorem kmap_nil (enc : α → Value) : kmapOk enc [] (.map #[] 0) := ⟨#[], 0, rfl, rfl, fun e he => by simp at he, by simp⟩
section
variable {C : Cx} {F : Fr} {L : List HA} {o : Oper} {K : List KI} {ops : Array Oper} {m : Bool} {rest : List Oper}
theorem j_makeKMap {d t : Nat} (enc : α → Value) (ho : o.op = .makeMap t none) (hg : o.guard = none) (hd : o.dst = some d) (hn : Nat.blt d C.n = true)
    (h : ∀ b, J C ops false rest K ((d, .map (some b)) :: F) (haKMap b enc [] :: L)) : J C ops false (o :: rest) K F L := by
  refine j_step_new (ob := .map #[] 0) (x := fun b => haKMap b enc []) hg hd hn (fun b => .map (some b)) (fun a w hf hs => ?_) (fun b c h => h) (fun w hw => haKMap_holds (.inl hw) (heap_alloc_new _ _) (kmap_nil enc)) h
  simp [execOp, ho, Instr.makeMap]
end
variable [DecidableEq α]
theorem findA_spec {P : Program} {kt : Nat} {enc : α → Value} (hK : KeyOk P kt enc) (k : α) (w : World) : ∀ (l : List MapEntry) (M : List (α × Value)) (n : Nat), pairs l = kpairs enc M →
    (klk M k = none → (Instr.findAsking kt (enc k) l n).run P w = .ok none w ∧ ∀ v, kpairs enc (kset M k v) = kpairs enc M ++ [(enc k, v)]) ∧
    (∀ v, klk M k = some v → ∃ i, (Instr.findAsking kt (enc k) l n).run P w = .ok (some (n + i, v)) w ∧ i < l.length ∧ (∃ e, l[i]? = some e ∧ e.key = enc k) ∧ ∀ v', pairs (l.modify i fun e => { e with key := enc k, val := v' }) = kpairs enc (kset M k v'))
  | [], M, n, h => by
    cases M with
    | nil => exact ⟨fun _ => ⟨by simp [Instr.findAsking], fun v => rfl⟩, fun v hv => by simp [klk] at hv⟩
    | cons p M => simp [pairs, kpairs] at h
  | e :: l, M, n, h => by
    cases M with
    | nil => simp [pairs, kpairs] at h
    | cons p M =>
      obtain ⟨k', u⟩ := p
      simp only [pairs, kpairs, List.map_cons, List.cons.injEq, Prod.mk.injEq] at h
      obtain ⟨⟨h1, h2⟩, h3⟩ := h
      have ih := findA_spec hK k w l M (n + 1) h3
      have heq := hK.eq k k' w
      by_cases hk : k' = k
      · subst hk
        rw [decide_eq_true rfl] at heq
        refine ⟨fun hn => by simp [klk] at hn, fun v hv => ?_⟩
        simp only [klk, if_true, Option.some.injEq] at hv
        refine ⟨0, ?_, by simp, ⟨e, rfl, h1⟩, fun v' => ?_⟩
        · simp [Instr.findAsking, h1, heq, h2, hv]
        · simp only [kset, if_true]
          simp only [pairs, kpairs] at h3 ⊢
          simp [List.modify, List.modifyTailIdx, List.modifyTailIdx.go, h3]
      · rw [decide_eq_false (fun e => hk e.symm)] at heq
        have hnow : (Instr.findAsking kt (enc k) (e :: l) n).run P w = (Instr.findAsking kt (enc k) l (n + 1)).run P w := by
          simp [Instr.findAsking, h1, heq]
        refine ⟨fun hn => ?_, fun v hv => ?_⟩
        · simp only [klk, if_neg hk] at hn
          obtain ⟨a1, a2⟩ := ih.1 hn
          refine ⟨hnow.trans a1, fun v => ?_⟩
          have := a2 v
          simp only [kpairs] at this ⊢
          simp [kset, if_neg hk, this]
        · simp only [klk, if_neg hk] at hv
          obtain ⟨i, a1, a2, a3, a4⟩ := ih.2 v hv
          refine ⟨i + 1, ?_, by simp; omega, ?_, fun v' => ?_⟩
          · rw [hnow, a1]; congr 3; omega
          · simpa using a3
          · have := a4 v'
            simp only [pairs, kpairs] at this ⊢
            simp [kset, if_neg hk, this, h1, h2]
theorem findK_spec {P : Program} {kt : Nat} {enc : α → Value} (hK : KeyOk P kt enc) (k : α) (w : World) (l : List MapEntry) (M : List (α × Value)) (h : pairs l = kpairs enc M) :
    (Instr.findKey kt (enc k) l).run P w = (Instr.findAsking kt (enc k) l 0).run P w := by
  obtain ⟨d, hd, hs⟩ := hK.und
  cases l with
  | nil => simp [Instr.findKey, run_underlying hd, Instr.findNow, Instr.findAsking]
  | cons e l =>
    cases M with
    | nil => simp [pairs, kpairs] at h
    | cons p M =>
      simp only [pairs, kpairs, List.map_cons, List.cons.injEq, Prod.mk.injEq] at h
      simp [Instr.findKey, run_underlying hd, Instr.findNow, h.1.1, hs]
theorem run_klookup {P : Program} {t kt et : TypeId} {ti te : TI} {enc : α → Value} (ht : TIok P t ti) (hk : ti.kind = .map kt et) (hK : KeyOk P kt enc) (hte : TIok P et te) {w : World} {b : Nat} {M : List (α × Value)} {ob : Obj}
    (hb : w.heap[b]? = some ob) (hM : kmapOk enc M ob) (k : α) (ok : Bool) :
    (Instr.lookup t (.map (some b)) (enc k) ok).run P w = .ok (if ok then .tuple #[(klk M k).getD te.zv, .bool (klk M k).isSome] else (klk M k).getD te.zv) w := by
  obtain ⟨es, clk, rfl, hp, _, _⟩ := hM
  have h1 := tk_map ht hk
  have hs := findA_spec hK k w es.toList M 0 hp
  have hfk := findK_spec hK k w es.toList M hp
  have hget : (getObj b).run P w = .ok (.map es clk) w := by simp [getObj, Sem.run, hb]
  cases hm : klk M k with
  | none =>
    obtain ⟨a1, _⟩ := hs.1 hm
    simp [Instr.lookup, run_underlying h1, hget, hK.chk, hfk, a1, run_zeroValue hte]
  | some v =>
    obtain ⟨i, a1, _⟩ := hs.2 v hm
    simp [Instr.lookup, run_underlying h1, hget, hK.chk, hfk, a1]
section
variable {C : Cx} {F : Fr} {L : List HA} {o : Oper} {K : List KI} {ops : Array Oper} {m : Bool} {rest : List Oper}
theorem q_klookup {t kt et : Nat} {x y : Operand} {ti te : TI} {enc : α → Value} {b : Nat} {M : List (α × Value)} (k : α) {v : Value} (hK : KeyOk C.P kt enc) (ho : o.op = .lookup t x y false) (ht : tget C.tab t = some ti) (hk : ti.kind = .map kt et)
    (hte : tget C.tab et = some te) (hx : ev F x = some (.map (some b))) (hy : ev F y = some (enc k)) (hin : InL L (haKMap b enc M)) (hv : (klk M k).getD te.zv = v) : Qv C o F L v :=
  .of_run fun a w hf hs => by
    obtain ⟨ob, h1, h2⟩ := (hs.at hin).2.1
    have := run_klookup (C.ok.get ht) hk hK (C.ok.get hte) h1 h2 k false
    simp [execOp, ho, hf.ev hx, hf.ev hy, this, hv]
theorem run_kmapUpdate {P : Program} {t kt et : TypeId} {ti : TI} {enc : α → Value} (ht : TIok P t ti) (hk : ti.kind = .map kt et) (hK : KeyOk P kt enc) {w : World} {b : Nat} {M : List (α × Value)} {ob : Obj}
    (hb : w.heap[b]? = some ob) (hM : kmapOk enc M ob) (k : α) (v : Value) :
    ∃ ob', (Instr.mapUpdate t (.map (some b)) (enc k) v).run P w = .ok () { w with heap := w.heap.setIfInBounds b ob' } ∧ kmapOk enc (kset M k v) ob' := by
  obtain ⟨es, clk, rfl, hp, hborn, hnd⟩ := hM
  have h1 := tk_map ht hk
  have hs := findA_spec hK k w es.toList M 0 hp
  have hfk := findK_spec hK k w es.toList M hp
  have hget : (getObj b).run P w = .ok (.map es clk) w := by simp [getObj, Sem.run, hb]
  have hset : ∀ o', (setObj b o').run P w = .ok () { w with heap := w.heap.setIfInBounds b o' } := fun o' => by simp [setObj, Sem.run, hb]
  cases hm : klk M k with
  | none =>
    obtain ⟨a1, a2⟩ := hs.1 hm
    refine ⟨.map (es.push { key := enc k, val := v, born := clk }) (clk + 1), ?_, _, _, rfl, ?_, ?_, ?_⟩
    · simp [Instr.mapUpdate, run_underlying h1, hget, hK.chk, hfk, a1, hset]
    · rw [a2 v, ← hp]; simp [pairs]
    · intro e he
      simp only [Array.toList_push, List.mem_append, List.mem_singleton] at he
      rcases he with he | he
      · have := hborn e he; omega
      · subst he; simp
    · simp only [Array.toList_push, List.map_append, List.map_cons, List.map_nil]
      rw [List.nodup_append]
      refine ⟨hnd, by simp, ?_⟩
      intro x hx y hy
      simp only [List.mem_singleton] at hy
      subst hy
      obtain ⟨e, he, rfl⟩ := List.mem_map.1 hx
      have := hborn e he
      omega
  | some u =>
    obtain ⟨i, a1, a2, ⟨e0, a3, a3'⟩, a4⟩ := hs.2 u hm
    have hgi : es[0 + i]? = some e0 := by rw [Nat.zero_add]; simpa using a3
    have hkeep : (Instr.keyThatStays (enc k) (enc k)).run P w = .ok (enc k) w := by
      have := hK.bits k
      unfold Instr.keyThatStays
      rw [if_pos this]
      rfl
    refine ⟨.map (es.modify (0 + i) fun e => { e with key := enc k, val := v }) clk, ?_, _, _, rfl, ?_, ?_, ?_⟩
    · simp [Instr.mapUpdate, run_underlying h1, hget, hK.chk, hfk, a1]
      rw [Nat.zero_add] at hgi
      simp [hgi, a3', hkeep, hset]
    · rw [← a4 v, Nat.zero_add]; simp [pairs]
    · intro e he
      rw [Array.toList_modify] at he
      obtain ⟨j, hj⟩ := List.mem_iff_getElem?.1 he
      rw [List.getElem?_modify] at hj
      cases hq : es.toList[j]? with
      | none => simp [hq] at hj
      | some e1 =>
        simp only [hq, Option.map_eq_map, Option.map_some, Option.some.injEq] at hj
        have h3 := hborn e1 (List.mem_of_getElem? hq)
        split at hj <;> (subst hj; exact h3)
    · have : ((es.modify (0 + i) fun e => { e with key := enc k, val := v }).toList.map (·.born)) = es.toList.map (·.born) := by
        apply List.ext_getElem?
        intro j
        simp only [Array.toList_modify, List.getElem?_map, List.getElem?_modify]
        cases es.toList[j]? with
        | none => simp
        | some e1 => simp only [Option.map_eq_map, Option.map_some]; split <;> rfl
      rw [this]; exact hnd
theorem j_kmapUpdate {t kt et : Nat} {x y z : Operand} {ti : TI} {enc : α → Value} {b : Nat} {M : List (α × Value)} (k : α) {v : Value} {L' : List HA} (hK : KeyOk C.P kt enc) (ho : o.op = .mapUpdate t x y z) (hg : o.guard = none) (hd : o.dst = none) (ht : tget C.tab t = some ti)
    (hk : ti.kind = .map kt et) (hx : ev F x = some (.map (some b))) (hy : ev F y = some (enc k)) (hz : ev F z = some v) (hup : Upd L (haKMap b enc M) (haKMap b enc (kset M k v)) L')
    (h : J C ops false rest K F L') : J C ops false (o :: rest) K F L := by
  intro a w hf hs
  obtain ⟨N, hp1, hp2⟩ := hup.perm
  have hA := (hs.perm hp1).head
  obtain ⟨ob, h1, h2⟩ := hA.2.1
  obtain ⟨ob', hr, hM'⟩ := run_kmapUpdate (C.ok.get ht) hk hK h1 h2 k v
  have hrun : (execOp a.eval o).run C.P w = .ok .skip { w with heap := w.heap.setIfInBounds b ob' } := by
    simp [execOp, ho, hf.ev hx, hf.ev hy, hf.ev hz, hr]
  refine wpListIn_run (by simp [Region.wanted, hg]) (wpIn_skip_ hrun ?_)
  rw [hd]
  have hlt := (hA.1 b rfl).2
  refine h a _ (hf.put_none undef) (hs.upd hup ⟨rfl, rfl, rfl, by simp, fun k hk => by omega⟩ ?_ (haKMap_holds (hA.1 b rfl).1 (by simp [hlt]) hM') (fun c hc => .inl hc))
  intro c hc hne
  simp only [Array.getElem?_setIfInBounds]
  rw [if_neg (fun e => hne e.symm)]
/-- A pointer against nil. -/
theorem q_eql_nilp {t u : TypeId} {x y : Operand} {e : TypeId} {p : Option Addr} (ho : o.op = .binOp .eql t x y u) (hu : C.P.underlying t = some (.pointer e)) (hx : ev F x = some (.pointer p)) (hy : ev F y = some (.pointer none)) : Qv C o F L (.bool p.isNone) :=
  .of_run fun ac w hf hs => by
    have h1 : (binOp .eql t (.pointer p) (.pointer none)).run C.P w = .ok (.bool p.isNone) w := by
      have h0 : (Op.equalIn (9999 + 1) t (.pointer p) (.pointer none)).run C.P w = .ok p.isNone w := by
        rw [Op.equalIn]
        simp only [Sem.run_bind, run_underlying hu, Result.andThen_ok]
        cases p <;> simp
      simp only [binOp]
      simp [Op.equal, Op.maxDepth, h0]
    simp only [execOp, ho, hf.ev hx, hf.ev hy]
    simp only [eqGuard]
    simp [h1]
theorem q_eql_nilS {t u : TypeId} {x y : Operand} {e : TypeId} {p : Addr} (ho : o.op = .binOp .eql t x y u) (hu : C.P.underlying t = some (.pointer e)) (hx : ev F x = some (.pointer (some p))) (hy : ev F y = some (.pointer none)) : Qv C o F L (.bool false) := q_eql_nilp ho hu hx hy
theorem q_eql_nilN {t u : TypeId} {x y : Operand} {e : TypeId} (ho : o.op = .binOp .eql t x y u) (hu : C.P.underlying t = some (.pointer e)) (hx : ev F x = some (.pointer none)) (hy : ev F y = some (.pointer none)) : Qv C o F L (.bool true) := q_eql_nilp ho hu hx hy
end
end
end Eng
end Go.Proofs.YtmakokbpadmfbaaGreat

/-
  Equality of structs.
-/
namespace Go.Proofs.YtmakokbpadmfbaaGreat
namespace Eng
open Go.RowKit
set_option linter.unusedVariables false
set_option linter.unusedSimpArgs false
section
variable {C : Cx} {F : Fr} {L : List HA} {o : Oper} {x y : Operand} {t u : TypeId} {xs ys : Array Value}
theorem q_eqS {r : Bool} (ho : o.op = .binOp .eql t x y u) (hm : C.P.eqGuardType C.P.depth t = false) (hx : ev F x = some (.agg xs)) (hy : ev F y = some (.agg ys)) (hr : ∀ w, (Op.equalIn 10000 t (.agg xs) (.agg ys)).run C.P w = .ok r w) : Qv C o F L (.bool r) :=
  .of_run fun a w hf hs => by
    simp only [execOp, ho, Sem.run_bind, hf.ev hx, hf.ev hy, run_eqGuard_agg _ _ _ _ _ _ _ hm, Result.andThen_ok, run_eql_struct, hr w]
    simp
theorem q_neS {r : Bool} (ho : o.op = .binOp .neq t x y u) (hm : C.P.eqGuardType C.P.depth t = false) (hx : ev F x = some (.agg xs)) (hy : ev F y = some (.agg ys)) (hr : ∀ w, (Op.equalIn 10000 t (.agg xs) (.agg ys)).run C.P w = .ok r w) : Qv C o F L (.bool (!r)) :=
  .of_run fun a w hf hs => by
    simp only [execOp, ho, Sem.run_bind, hf.ev hx, hf.ev hy, run_eqGuard_agg _ _ _ _ _ _ _ hm, Result.andThen_ok, run_neq_struct, hr w]
    simp
end
end Eng
end Go.Proofs.YtmakokbpadmfbaaGreat

/-
  A walk stops at a region: to leave what is no longer needed.
-/
namespace Go.Proofs.YtmakokbpadmfbaaGreat
namespace Eng
open Go.RowKit
set_option linter.unusedVariables false
structure SCstop (C : Cx) (c : Code) (K : List KI) (F : Fr) (L : List HA) : Prop where
  h : SC C c K F L
section
variable {C : Cx} {F : Fr} {L : List HA} {K : List KI}
theorem sc_stop (k : Nat) {ops : Array Oper} {d : Bool} (h : SCstop C (.region k ops d) K F L) : SC C (.region k ops d) K F L := h.h
theorem stop_at {c : Code} (F' : Fr) (L' : List HA) (h : SC C c K F' L') (hF : FSub F' F) (hL : LSub L' L) : SCstop C c K F L := ⟨sc_sub h hF hL⟩
end
end Eng
end Go.Proofs.YtmakokbpadmfbaaGreat
