/-
  Ranges over functions that hand over memory of their own.
-/
import Derived.Test.YtmcmmmaffdenjaaEngRange
namespace Go.Proofs.Ytmcmmmaffdenjaa
namespace Eng
open Go.RowKit
set_option linter.unusedVariables false
/-- What a loop does with what an iterator hands it: a state, the blocks in which it lies, a step, and whether it goes on. -/
structure ConsumerW {τ α : Type} (P : Program) (W : World) (S0 : Nat → Prop) (l : Nat) (encW : α → (Nat → Prop) → List Value → World → Prop) (Jn : τ → (Nat → Prop) → World → Prop) (stp : τ → α → τ × Bool) (live : τ → Prop) (att : τ → α → Prop) : Prop where
  step : ∀ s S x vs w, encW x S vs w → live s → att s x → Jn s S w → Near W.heap.size S0 W w → YieldRun P l vs w (fun v w' => v = .bool (stp s x).2 ∧ Near w.heap.size S w w' ∧ ∃ S', Jn (stp s x).1 S' w' ∧ ∀ b, S' b → S b ∨ w.heap.size ≤ b)
  goes : ∀ s x, live s → (stp s x).2 = true → live (stp s x).1
  lt : ∀ s S w b, Jn s S w → S b → b < w.heap.size
  stab : ∀ s S w w', Jn s S w → Near W.heap.size S0 w w' → (∀ b, S b → w'.heap[b]? = w.heap[b]?) → (∀ b, S b → S0 b ∨ W.heap.size ≤ b) → Jn s S w'
theorem ConsumerW.start {τ α : Type} {P : Program} {W : World} {S0 : Nat → Prop} {l : Nat} {encW : α → (Nat → Prop) → List Value → World → Prop} {Jn : τ → (Nat → Prop) → World → Prop} {stp : τ → α → τ × Bool} {live : τ → Prop} {att : τ → α → Prop}
    (h : ConsumerW P W S0 l encW Jn stp live att) {s : τ} (h0 : Jn s S0 W) : St W S0 [.abs S0 (Jn s S0)] W :=
  (St.start W S0).cons ⟨fun b hb => ⟨.inr hb, h.lt _ _ _ _ h0 hb⟩, h0, fun w' hn hk => h.stab _ _ _ _ h0 hn hk (fun b hb => .inl hb)⟩ (fun y hy => by cases hy)
section
variable {C : Cx} {F : Fr} {L : List HA} {o : Oper} {K : List KI} {ops : Array Oper} {m : Bool} {rest : List Oper}
/-- A call of yield, in the iterator. -/
theorem j_yieldW {τ α : Type} {d l : Nat} {al : List Operand} {fo : Operand} {ats : Array TypeId} {vs : List Value} {encW : α → (Nat → Prop) → List Value → World → Prop} {Jn : τ → (Nat → Prop) → World → Prop} {stp : τ → α → τ × Bool} {live : τ → Prop} {att : τ → α → Prop}
    (hcons : ConsumerW C.P C.w0 C.hot l encW Jn stp live att) (ho : o.op = .call { callee := .value fo, args := al.toArray, argTypes := ats }) (hg : o.guard = none) (hd : o.dst = some d) (hn : Nat.blt d C.n = true)
    (hfo : ev F fo = some (.func (.yield l) #[] #[])) (ha : evs F al = some vs) {x : α} {s : τ} (hlive : live s) (hat : att s x) {S : Nat → Prop} (hok : ∀ w, St C.w0 C.hot L w → encW x S vs w) (hin : InL L (.abs S (Jn s S))) {L' : (Nat → Prop) → List HA}
    (hup : ∀ S', Upd L (.abs S (Jn s S)) (.abs S' (Jn (stp s x).1 S')) (L' S')) (h : ∀ S', J C ops false rest K ((d, .bool (stp s x).2) :: F) (L' S')) : J C ops false (o :: rest) K F L := by
  intro a w hf hs
  have hA := hs.at hin
  obtain ⟨fn, tmps, assign, body, hy, hr⟩ := hcons.step s S x vs w (hok w hs) hlive hat hA.2.1 hs.near
  have h1 : al.toArray.map a.eval = vs.toArray := by rw [List.map_toArray, hf.evs ha]
  have hrun : (execOp a.eval o).run C.P w = .ok (.round l fn tmps assign body) w := by
    simp only [execOp, ho, resolve, hf.ev hfo, h1, Deferred.ofValue, Sem.run_bind, Sem.run_pure, Result.andThen_ok, invoke, Array.empty_append, hy]
  refine wpListIn_run (by simp [Region.wanted, hg]) ⟨fun _ _ => trivial, ?_⟩
  rw [show (fc C.rd).round = C.rd from rfl, semAt_of_value hrun (fun d e => by cases e), Oper.uponIn_round]
  refine ⟨fun h => by simp [fc] at h, ?_⟩
  have hr' : RoundIn (fc C.rd) 0 C.P l fn tmps assign body w (fun e w' => ∃ v, e = .returned v ∧ (v = .bool (stp s x).2 ∧ Near w.heap.size S w w' ∧ ∃ S', Jn (stp s x).1 S' w' ∧ ∀ b, S' b → S b ∨ w.heap.size ≤ b)) := hr
  refine hr'.mono fun e w' ⟨v, he, hv, hn', S', hJ, hS'⟩ => ?_
  subst he
  subst hv
  rw [hd]
  have hS'0 : ∀ b, S' b → C.hot b ∨ C.w0.heap.size ≤ b := fun b hb => by
    rcases hS' b hb with h2 | h2
    · rcases (hA.1 b h2).1 with h3 | h3
      · exact .inr h3
      · exact .inl h3
    · exact .inr (Nat.le_trans hs.near.size h2)
  refine h S' _ _ (hf.put _ hn) (hs.upd (hup S') ⟨hn'.os, hn'.tape, hn'.output, hn'.size, fun k hk => by omega⟩ (fun b hb hne => hn'.block b hb hne) ⟨fun b hb => ⟨(hS'0 b hb).symm, hcons.lt _ _ _ _ hJ hb⟩, hJ, fun w'' hnn hk => hcons.stab _ _ _ _ hJ hnn hk hS'0⟩ hS')
end
/-- The states along a list. -/
def trc {τ α : Type} (stp : τ → α → τ × Bool) (s : τ) (l : List α) : τ := l.foldl (fun s y => (stp s y).1) s
def Att {τ α : Type} (stp : τ → α → τ × Bool) (s0 : τ) (ys : List α) (s : τ) (x : α) : Prop := ∃ i, ys[i]? = some x ∧ s = trc stp s0 (ys.take i)
theorem trc_succ {τ α : Type} {stp : τ → α → τ × Bool} {s0 : τ} {ys : List α} {i : Nat} {x : α} (h : ys[i]? = some x) : trc stp s0 (ys.take (i + 1)) = (stp (trc stp s0 (ys.take i)) x).1 := by
  unfold trc
  rw [List.take_add_one, h]
  simp
theorem trc_stpB {σ α : Type} (stp : σ → α → σ × Option Code) : ∀ (l : List α) (t : σ × Option Code), (trc (stpB stp) t l).1 = l.foldl (fun s y => (stp s y).1) t.1
  | [], t => rfl
  | y :: l, t => by
    have := trc_stpB stp l (stp t.1 y)
    simp only [trc, List.foldl_cons, stpB] at this ⊢
    exact this
/-- An iterator's promise: it hands over just these, one after the other, and writes nothing but what its caller's loop writes. -/
def IteratesW (P : Program) (gf : Nat) (lb : List Value) {α : Type} (encW : α → (Nat → Prop) → List Value → World → Prop) (ys : List α) (W : World) (S0 : Nat → Prop) : Prop :=
  ∀ (τ : Type) (Jn : τ → (Nat → Prop) → World → Prop) (stp : τ → α → τ × Bool) (live : τ → Prop) (s0 : τ) (l : Nat), ConsumerW P W S0 l encW Jn stp live (Att stp s0 ys) → live s0 → Jn s0 S0 W →
    Calls P gf ((Value.func (.yield l) #[] #[]) :: lb).toArray W (fun e W' => (∃ v, e = .returned v) ∧ Near W.heap.size S0 W W' ∧ ∃ S', Jn (runsB stp s0 ys) S' W' ∧ ∀ b, S' b → S0 b ∨ W.heap.size ≤ b)
section
variable {C : Cx} {F : Fr} {L : List HA} {K : List KI}
/-- 'for x := range g { body }'. -/
theorem sc_rangeW {σ ξ α : Type} {g : Operand} {ps : List Tmp} {assign body : Code} {gf : Nat} {lb : List Value} (encW : α → (Nat → Prop) → List Value → World → Prop) (ys : List α) (stp : σ → α → σ × Option Code) (LI : σ → ξ → List HA) (s0 : σ) (i0 : ξ)
    (hrd : C.rd = none) (hg : ev F g = some (.func (.func gf) #[] lb.toArray)) (hcal : has C.fns gf = true) (hps : ∀ x S vs w, encW x S vs w → vs.length = ps.length) (hpn : ∀ p ∈ ps, p < C.n) (hL : LSub (LI s0 i0) L)
    (hab : ∀ s i S p, HA.abs S p ∈ LI s i → ∀ u u', p u → (∀ b, S b → u'.heap[b]? = u.heap[b]?) → p u')
    (hiter : ∀ w l D r, St C.w0 C.hot (haRec l r :: haDef D :: LI s0 i0) w → IteratesW C.P gf lb encW ys w (foots (haRec l r :: haDef D :: LI s0 i0)))
    (hbody : ∀ (l D : Nat) (r : Loop) (W1 : World) (s : σ) (i : ξ) (x : α) (vs : List Value) (Q : Exit → Act → World → Prop), encW x (foots (haRec l r :: haDef D :: LI s i)) vs W1 → (∃ j, ys[j]? = some x ∧ s = (ys.take j).foldl (fun s y => (stp s y).1) s0) → r.state = .ready → St C.w0 C.hot (haRec l r :: haDef D :: LI s i) W1 →
      (∀ (e : Exit) (jump : Option Code) (i' : ξ) (F' : Fr) (L' M : List HA), jumpOf e = some jump → (stp s x).2 = jump → Rem L' (haRec l { r with state := .busy }) M → LSub (haDef D :: LI (stp s x).1 i') M → SQ (C.inRound l Q W1 (foots (haRec l r :: haDef D :: LI s i))) e [] F' L') →
      SC (C.inRound l Q W1 (foots (haRec l r :: haDef D :: LI s i))) assign [.fin (roundStart (C.inRound l Q W1 (foots (haRec l r :: haDef D :: LI s i))) l body)] (parFr ps vs F) (haRec l r :: haDef D :: LI s i))
    (hend : ∀ D i, (runsJ stp s0 ys).2 = none → SQ (C.mark D) .normal K F (haDef D :: LI (runsJ stp s0 ys).1 i))
    (hjump : ∀ D i c, (runsJ stp s0 ys).2 = some c → SC (C.mark D) c K F (haDef D :: LI (runsJ stp s0 ys).1 i)) : SC C (.rangeFunc g ps.toArray assign body) K F L := by
  intro a w hf hs
  rw [hrd]
  have hs0 := hs.sub hL
  refine wpIn_rangeFunc fun fn _ => ?_
  obtain ⟨r, hr⟩ : ∃ r : Loop, r = { state := .ready, pending := none, fn, tmps := a.tmps, params := ps.toArray, assign, body, defers := w.heap.size } := ⟨_, rfl⟩
  obtain ⟨W, hW⟩ : ∃ W, (w.alloc (.deferred (some []))).alloc (.loop r) = W := ⟨_, rfl⟩
  have hSW : St C.w0 C.hot (haRec (w.heap.size + 1) r :: haDef w.heap.size :: LI s0 i0) W := by
    have h1 : St C.w0 C.hot (haDef w.heap.size :: LI s0 i0) (w.alloc (.deferred (some []))) :=
      hs0.alloc _ (fun b hb => hb) (haObj_holds (.inl hs0.near.size) (World.alloc_heap_new w _))
    have h2 := World.alloc_heap_new (w.alloc (.deferred (some []))) (.loop r)
    rw [World.size_alloc] at h2
    rw [← hW]
    refine h1.alloc _ (fun b hb => by rw [World.size_alloc]; exact hb) (haObj_holds (.inl (by have := hs0.near.size; omega)) h2)
  obtain ⟨S0, hS0⟩ : ∃ S0, foots (haRec (w.heap.size + 1) r :: haDef w.heap.size :: LI s0 i0) = S0 := ⟨_, rfl⟩
  have hready : r.state = .ready := by rw [hr]
  have hr0 : recSt r none = r := by rw [hr]; rfl
  -- the loop's own state, as an iterator sees it
  obtain ⟨Jn, hJn⟩ : ∃ Jn : σ × Option Code → (Nat → Prop) → World → Prop, Jn = fun t S w' => ∃ i, St C.w0 C.hot (haRec (w.heap.size + 1) (recSt r t.2) :: haDef w.heap.size :: LI t.1 i) w' ∧ ∀ b, S b ↔ foots (haRec (w.heap.size + 1) (recSt r t.2) :: haDef w.heap.size :: LI t.1 i) b := ⟨_, rfl⟩
  have habs : ∀ (rr : Loop) s i S p, HA.abs S p ∈ (haRec (w.heap.size + 1) rr :: haDef w.heap.size :: LI s i) → ∀ u u' : World, p u → (∀ b, S b → u'.heap[b]? = u.heap[b]?) → p u' := by
    intro rr s i S p hm u u' hp hk
    rcases List.mem_cons.1 hm with hm | hm
    · unfold haRec at hm
      injection hm with h1 h2
      subst h1; subst h2
      exact (hk _ rfl).trans hp
    · rcases List.mem_cons.1 hm with hm | hm
      · unfold haDef at hm
        injection hm with h1 h2
        subst h1; subst h2
        exact (hk _ rfl).trans hp
      · exact hab s i S p hm u u' hp hk
  have hcons : ConsumerW C.P W S0 (w.heap.size + 1) encW Jn (stpB stp) (fun t => t.2 = none) (Att (stpB stp) (s0, none) ys) := by
    refine ⟨?_, ?_, ?_, ?_⟩
    · rintro ⟨s, j⟩ S x vs W1 hok hlive ⟨ix, hix, hsx⟩ hJ hn
      have hsx' := congrArg Prod.fst hsx
      rw [trc_stpB] at hsx'
      simp only at hlive
      subst hlive
      rw [hJn] at hJ
      obtain ⟨i, hSt, hS⟩ := hJ
      rw [hr0] at hSt hS
      have hrec : W1.heap[w.heap.size + 1]? = some (.loop r) := hSt.head.2.1
      refine ⟨_, _, _, _, run_yield (P := C.P) hrec (by rw [hr]; simp [hps x _ _ _ hok]), ?_⟩
      let R : Ending → World → Prop := fun e w' => ∃ v, e = .returned v ∧ (v = .bool (stpB stp (s, none) x).2 ∧ Near W1.heap.size S W1 w' ∧ ∃ S', Jn (stpB stp (s, none) x).1 S' w' ∧ ∀ b, S' b → S b ∨ W1.heap.size ≤ b)
      have hfx : Fits C.n [] (parFr ps vs F) ⟨(ps.zip vs).foldl (fun tmps (x : Tmp × Value) => tmps.setIfInBounds x.1 x.2) a.tmps, []⟩ :=
        parFr_fits ps vs F C.n [] a.tmps hpn ⟨rfl, hf.size, hf.get⟩
      have hend' : ∀ (e : Exit) (jump : Option Code) (i' : ξ) (F' : Fr) (L' M : List HA), jumpOf e = some jump → (stp s x).2 = jump → Rem L' (haRec (w.heap.size + 1) { r with state := .busy }) M → LSub (haDef w.heap.size :: LI (stp s x).1 i') M →
          SQ (C.inRound (w.heap.size + 1) (roundPost C.P (w.heap.size + 1) R) W1 (foots (haRec (w.heap.size + 1) r :: haDef w.heap.size :: LI s i))) e [] F' L' := by
        intro e jump i' F' L' M hj hstp hrem hsub
        refine sq_round (R := R) rfl rfl hj hrem fun w' hSt' => ?_
        have hSt1 : St W1 (foots (haRec (w.heap.size + 1) r :: haDef w.heap.size :: LI s i)) (haRec (w.heap.size + 1) (recSt r jump) :: haDef w.heap.size :: LI (stp s x).1 i') w' := by
          refine St.sub (L := haRec (w.heap.size + 1) (recSt r jump) :: M) hSt' ?_
          exact LSub.cons Rem.here hsub
        have hout := St.unround hSt hSt1 (habs _ _ _)
        refine ⟨_, rfl, ?_, ⟨hSt1.near.os, hSt1.near.tape, hSt1.near.output, hSt1.near.size, fun k hk hnot => hSt1.near.block k hk (fun hb => hnot ((hS k).2 hb))⟩, foots (haRec (w.heap.size + 1) (recSt r jump) :: haDef w.heap.size :: LI (stp s x).1 i'), ?_, ?_⟩
        · simp only [stpB]; rw [hstp]
        · rw [hJn]
          refine ⟨i', ?_, fun b => ?_⟩
          · simp only [stpB]; rw [hstp]; exact hout
          · simp only [stpB]; rw [hstp]
        · intro b hb
          rcases (foots_old (B := 0) hSt1 hb).1 with h3 | h3
          · exact .inr h3
          · exact .inl ((hS b).2 h3)
      have hb := hbody (w.heap.size + 1) w.heap.size r W1 s i x vs (roundPost C.P (w.heap.size + 1) R) (by rw [show foots (haRec (w.heap.size + 1) r :: haDef w.heap.size :: LI s i) = S from funext fun b => propext (hS b).symm]; exact hok) ⟨ix, hix, hsx'⟩ hready hSt hend'
      have hb1 := hb _ W1 hfx hSt.round
      refine (roundIn_of_wpIn (F := fc none) (n := 0) trivial ?_ : RoundIn (fc none) 0 C.P (w.heap.size + 1) _ _ _ _ W1 R)
      have e1 : ((r.params.zip vs.toArray).foldl (fun tmps (t, a) => tmps.setIfInBounds t a) r.tmps) = (ps.zip vs).foldl (fun tmps (x : Tmp × Value) => tmps.setIfInBounds x.1 x.2) a.tmps := by
        rw [hr]
        simp only [List.zip_toArray, List.foldl_toArray]
      have e2 : r.assign = assign := by rw [hr]
      have e3 : r.body = body := by rw [hr]
      rw [e1, e2, e3]
      exact hb1
    · rintro ⟨s, j⟩ x hlive hgo
      simp only [stpB] at hgo ⊢
      cases h : (stp s x).2 with
      | none => rfl
      | some c => rw [h] at hgo; simp at hgo
    · rintro ⟨s, j⟩ S W1 b hJ hb
      rw [hJn] at hJ
      obtain ⟨i, hSt, hS⟩ := hJ
      exact (foots_old (B := 0) hSt ((hS b).1 hb)).2
    · rintro ⟨s, j⟩ S W1 W2 hJ hn hk hSb
      rw [hJn] at hJ ⊢
      obtain ⟨i, hSt, hS⟩ := hJ
      have hn' : Near C.w0.heap.size C.hot W1 W2 := ⟨hn.os, hn.tape, hn.output, hn.size, fun k hk' hnot => hn.block k (Nat.lt_of_lt_of_le hk' hSW.near.size) (fun hb => by
        rw [← hS0] at hb
        rcases (foots_old (B := 0) hSW hb).1 with h3 | h3
        · omega
        · exact hnot h3)⟩
      refine ⟨i, ⟨hSt.near.trans hn', fun y hy => (hSt.holds y hy).keep (fun b hb => hk b ((hS b).2 ⟨y, hy, hb⟩)) hn', hSt.sep⟩, hS⟩
  have hit := hiter W (w.heap.size + 1) w.heap.size r hSW _ Jn (stpB stp) (fun t => t.2 = none) (s0, none) (w.heap.size + 1)
  rw [hS0] at hit
  have hJ0 : Jn (s0, none) S0 W := by
    rw [hJn]
    refine ⟨i0, by rw [hr0]; exact hSW, fun b => by rw [hr0, hS0]⟩
  have hcall := hit hcons rfl hJ0
  have hrun := call_run (callable_of hcal) ((Value.func (.yield (w.heap.size + 1)) #[] #[]) :: lb).toArray W
  refine ⟨w.heap.size + 1, [{ target := .collected w.heap.size, args := #[] }], W, { target := .fn (.func gf) lb.toArray, args := #[.func (.yield (w.heap.size + 1)) #[] #[]] }, W, gf, ((Value.func (.yield (w.heap.size + 1)) #[] #[]) :: lb).toArray, W, ?_, ?_, fun _ _ => trivial, ?_, fun h => by simp [fc] at h, ?_⟩
  · rw [← hW, hr]; exact run_enterLoop_outer _ _ _ _ _
  · have h1 := hf.ev hg
    simp only [resolve, h1]
    simp [Deferred.ofValue, Act.eval]
  · simp only [invoke]
    have : (#[Value.func (.yield (w.heap.size + 1)) #[] #[]] ++ lb.toArray) = ((Value.func (.yield (w.heap.size + 1)) #[] #[]) :: lb).toArray := by simp
    rw [this]
    exact hrun
  · refine callsIn_fc.2 (hcall.mono fun e W' ⟨⟨v, he⟩, hn, S', hJ, hS'⟩ => ?_)
    subst he
    rw [runsB_runsJ, hJn] at hJ
    obtain ⟨i, hSt, hS⟩ := hJ
    have hrec : W'.heap[w.heap.size + 1]? = some (.loop (recSt r (runsJ stp s0 ys).2)) := hSt.head.2.1
    have hpend : (recSt r (runsJ stp s0 ys).2).pending = (runsJ stp s0 ys).2 := by cases (runsJ stp s0 ys).2 <;> rfl
    have hbz : (recSt r (runsJ stp s0 ys).2).state ≠ .busy := by cases (runsJ stp s0 ys).2 <;> simp [recSt]
    have hfm : Fits C.n (C.mark w.heap.size).ds F { a with defers := [{ target := .collected w.heap.size, args := #[] }] ++ a.defers } := ⟨by simp [Cx.mark, hf.dfr], hf.size, hf.get⟩
    have hStm := (st_putObj hSt (o' := .loop { recSt r (runsJ stp s0 ys).2 with state := .exhausted }) Upd.here).tail
    refine ⟨_, _, run_endLoop hrec hbz, ?_⟩
    rw [hpend]
    cases hj : (runsJ stp s0 ys).2 with
    | none =>
      have := hend w.heap.size i hj _ _ hfm (by rw [hj] at hStm; exact hStm)
      rw [kpost_mark] at this
      exact this
    | some c =>
      have := hjump w.heap.size i c hj _ _ hfm (by rw [hj] at hStm; exact hStm)
      rw [kpost_mark] at this
      rw [show (C.mark w.heap.size).rd = none from hrd] at this
      exact this
end
theorem pw_apart {L : List HA} (h : L.Pairwise HA.apart) {x y : HA} (hx : x ∈ L) (hy : y ∈ L) (hne : x ≠ y) : x.apart y := by
  induction L with
  | nil => cases hx
  | cons z L ih =>
    rw [List.pairwise_cons] at h
    rcases List.mem_cons.1 hx with h1 | h1
    · subst h1
      rcases List.mem_cons.1 hy with h2 | h2
      · exact absurd h2.symm hne
      · exact h.1 _ h2
    · rcases List.mem_cons.1 hy with h2 | h2
      · subst h2
        exact (h.1 _ h1).symm
      · exact ih h.2 h1 h2
end Eng
end Go.Proofs.Ytmcmmmaffdenjaa
