/-
  The engine: rules of symbolic execution over the model's code, in one text (or two).
-/
import Derived.Test.YtmcmmmaffdenjaaEngCoreA
import Derived.Scope
import Derived.Lib.BitFns
import Derived.WalkSpells
import Derived.Laws.StructEq
/-
  Ranges over functions that keep state of their own in cells, and that need not end by themselves.
-/
namespace Go.Proofs.Ytmcmmmaffdenjaa
namespace Eng
open Go.RowKit
set_option linter.unusedVariables false
/-- The consumer stops somewhere among these. -/
def stopsB {τ α : Type} (stp : τ → α → τ × Bool) : τ → List α → Prop
  | _, [] => False
  | s, y :: ys => (stp s y).2 = false ∨ ((stp s y).2 = true ∧ stopsB stp (stp s y).1 ys)
theorem stops_runsJ {σ α : Type} (stp : σ → α → σ × Option Code) : ∀ (ys : List α) (s : σ), (runsJ stp s ys).2.isSome = true → stopsB (stpB stp) (s, none) ys
  | [], s, h => by simp [runsJ] at h
  | y :: ys, s, h => by
    simp only [runsJ] at h
    cases e : stp s y with
    | mk s' j =>
      cases j with
      | none =>
        rw [e] at h
        refine .inr ⟨by simp [stpB, e], ?_⟩
        simp only [stpB, e]
        exact stops_runsJ stp ys s' h
      | some c => exact .inl (by simp [stpB, e])
/-- An iterator's promise: it hands over these one after the other as long as it is asked; it writes nothing but what its caller's loop writes, and blocks E of its own. -/
def IteratesE (P : Program) (gf : Nat) (lb : List Value) {α : Type} (enc : α → List Value) (ok : α → Prop) (ys : List α) (W : World) (S0 E : Nat → Prop) : Prop :=
  ∀ (τ : Type) (Jn : τ → (Nat → Prop) → World → Prop) (stp : τ → α → τ × Bool) (live : τ → Prop) (s0 : τ) (l : Nat), ConsumerW P W (fun b => S0 b ∨ E b) l (fun x _ vs _ => vs = enc x ∧ ok x) Jn stp live (Att stp s0 ys) → live s0 → Jn s0 S0 W → stopsB stp s0 ys →
    Calls P gf ((Value.func (.yield l) #[] #[]) :: lb).toArray W (fun e W' => (∃ v, e = .returned v) ∧ Near W.heap.size (fun b => S0 b ∨ E b) W W' ∧ ∃ S', Jn (runsB stp s0 ys) S' W' ∧ ∀ b, S' b → S0 b ∨ W.heap.size ≤ b)
/-- The iterator's beginning. -/
theorem ConsumerW.startE {τ α : Type} {P : Program} {W w0 : World} {hot : Nat → Prop} {LE LL : List HA} {l : Nat} {encW : α → (Nat → Prop) → List Value → World → Prop} {Jn : τ → (Nat → Prop) → World → Prop} {stp : τ → α → τ × Bool} {live : τ → Prop} {att : τ → α → Prop}
    (h : ConsumerW P W (fun b => foots LL b ∨ foots LE b) l encW Jn stp live att) (hS : St w0 hot (LE ++ LL) W) (hab : ∀ S p, HA.abs S p ∈ LE → ∀ u u', p u → (∀ b, S b → u'.heap[b]? = u.heap[b]?) → p u') {s : τ} (h0 : Jn s (foots LL) W) :
    St W (fun b => foots LL b ∨ foots LE b) (.abs (foots LL) (Jn s (foots LL)) :: LE) W := by
  have hsep := List.pairwise_append.1 hS.sep
  have hE : St W (fun b => foots LL b ∨ foots LE b) LE W := by
    refine ⟨Near.refl _ _ _, fun x hx => ?_, hsep.1⟩
    have hx' := hS.holds x (List.mem_append_left _ hx)
    have hft : ∀ b, x.foot b → W.heap.size ≤ b ∨ (foots LL b ∨ foots LE b) := fun b hb => .inr (.inr ⟨x, hx, hb⟩)
    cases x with
    | cells b t cs => exact ⟨hft b rfl, hx'.2⟩
    | own v e sz n xs => exact ⟨fun b hb => hft b hb, hx'.2⟩
    | abs S p => exact ⟨fun b hb => ⟨hft b hb, (hx'.1 b hb).2⟩, hx'.2.1, fun w' hn hk => hab S p hx _ _ hx'.2.1 hk⟩
    | pure p => exact hx'
  refine hE.cons ⟨fun b hb => ⟨.inr (.inl hb), h.lt _ _ _ _ h0 hb⟩, h0, fun w' hn hk => h.stab _ _ _ _ h0 hn hk (fun b hb => .inl (.inl hb))⟩ fun y hy b hb hyb => ?_
  obtain ⟨x, hx, hxb⟩ := hb
  exact hsep.2.2 y hy x hx b hyb hxb
section
variable {C : Cx} {F : Fr} {L : List HA} {K : List KI}
/-- 'for x := range g { body }', the iterator keeping state of its own in cells that the caller gives up. -/
theorem sc_rangeE {σ ξ α : Type} {g : Operand} {ps : List Tmp} {assign body : Code} {gf : Nat} {lb : List Value} (enc : α → List Value) (ok : α → Prop) (ys : List α) (stp : σ → α → σ × Option Code) (LI : σ → ξ → List HA) (s0 : σ) (i0 : ξ) (LE : List HA)
    (hrd : C.rd = none) (hg : ev F g = some (.func (.func gf) #[] lb.toArray)) (hcal : has C.fns gf = true) (hps : ∀ x, (enc x).length = ps.length) (hpn : ∀ p ∈ ps, p < C.n) (hL : LSub (LE ++ LI s0 i0) L)
    (hab : ∀ s i S p, HA.abs S p ∈ LI s i → ∀ u u', p u → (∀ b, S b → u'.heap[b]? = u.heap[b]?) → p u')
    (hstop : (runsJ stp s0 ys).2.isSome = true)
    (hiter : ∀ w l D r, St C.w0 C.hot (LE ++ haRec l r :: haDef D :: LI s0 i0) w → IteratesE C.P gf lb enc ok ys w (foots (haRec l r :: haDef D :: LI s0 i0)) (foots LE))
    (hbody : ∀ (l D : Nat) (r : Loop) (W1 : World) (s : σ) (i : ξ) (x : α) (Q : Exit → Act → World → Prop), ok x → (∃ j, ys[j]? = some x ∧ s = (ys.take j).foldl (fun s y => (stp s y).1) s0) → r.state = .ready → St C.w0 C.hot (haRec l r :: haDef D :: LI s i) W1 →
      (∀ (e : Exit) (jump : Option Code) (i' : ξ) (F' : Fr) (L' M : List HA), jumpOf e = some jump → (stp s x).2 = jump → Rem L' (haRec l { r with state := .busy }) M → LSub (haDef D :: LI (stp s x).1 i') M → SQ (C.inRound l Q W1 (foots (haRec l r :: haDef D :: LI s i))) e [] F' L') →
      SC (C.inRound l Q W1 (foots (haRec l r :: haDef D :: LI s i))) assign [.fin (roundStart (C.inRound l Q W1 (foots (haRec l r :: haDef D :: LI s i))) l body)] (parFr ps (enc x) F) (haRec l r :: haDef D :: LI s i))
    (hjump : ∀ D i c, (runsJ stp s0 ys).2 = some c → SC (C.mark D) c K F (haDef D :: LI (runsJ stp s0 ys).1 i)) : SC C (.rangeFunc g ps.toArray assign body) K F L := by
  intro a w hf hs
  rw [hrd]
  have hs0E := hs.sub hL
  refine wpIn_rangeFunc fun fn _ => ?_
  obtain ⟨r, hr⟩ : ∃ r : Loop, r = { state := .ready, pending := none, fn, tmps := a.tmps, params := ps.toArray, assign, body, defers := w.heap.size } := ⟨_, rfl⟩
  obtain ⟨W, hW⟩ : ∃ W, (w.alloc (.deferred (some []))).alloc (.loop r) = W := ⟨_, rfl⟩
  have hSWE : St C.w0 C.hot (haRec (w.heap.size + 1) r :: haDef w.heap.size :: (LE ++ LI s0 i0)) W := by
    have h1 : St C.w0 C.hot (haDef w.heap.size :: (LE ++ LI s0 i0)) (w.alloc (.deferred (some []))) :=
      hs0E.alloc _ (fun b hb => hb) (haObj_holds (.inl hs0E.near.size) (World.alloc_heap_new w _))
    have h2 := World.alloc_heap_new (w.alloc (.deferred (some []))) (.loop r)
    rw [World.size_alloc] at h2
    rw [← hW]
    refine h1.alloc _ (fun b hb => by rw [World.size_alloc]; exact hb) (haObj_holds (.inl (by have := hs0E.near.size; omega)) h2)
  have hSWP : St C.w0 C.hot (LE ++ haRec (w.heap.size + 1) r :: haDef w.heap.size :: LI s0 i0) W := hSWE.perm (((List.perm_middle (l₁ := LE)).trans ((List.perm_middle (l₁ := LE)).cons _)).symm)
  have hSW : St C.w0 C.hot (haRec (w.heap.size + 1) r :: haDef w.heap.size :: LI s0 i0) W := hSWP.sub ⟨LE, List.perm_append_comm⟩
  obtain ⟨S0, hS0⟩ : ∃ S0, foots (haRec (w.heap.size + 1) r :: haDef w.heap.size :: LI s0 i0) = S0 := ⟨_, rfl⟩
  have hready : r.state = .ready := by rw [hr]
  have hr0 : recSt r none = r := by rw [hr]; rfl
  -- the loop's own state, as an iterator sees it
  obtain ⟨Jn, hJn⟩ : ∃ Jn : σ × Option Code → (Nat → Prop) → World → Prop, Jn = fun t S w' => ∃ i, St C.w0 C.hot (haRec (w.heap.size + 1) (recSt r t.2) :: haDef w.heap.size :: LI t.1 i) w' ∧ ∀ b, S b ↔ foots (haRec (w.heap.size + 1) (recSt r t.2) :: haDef w.heap.size :: LI t.1 i) b := ⟨_, rfl⟩
  have habs : ∀ (rr : Loop) s i S p, HA.abs S p ∈ (haRec (w.heap.size + 1) rr :: haDef w.heap.size :: LI s i) → ∀ u u' : World, p u → (∀ b, S b → u'.heap[b]? = u.heap[b]?) → p u' := by
    intro rr s i S p hm u u' hp hk
    rcases List.mem_cons.1 hm with hm | hm
    · unfold haRec at hm
      injection hm with h1 h2
      subst h1; subst h2
      exact (hk _ rfl).trans hp
    · rcases List.mem_cons.1 hm with hm | hm
      · unfold haDef at hm
        injection hm with h1 h2
        subst h1; subst h2
        exact (hk _ rfl).trans hp
      · exact hab s i S p hm u u' hp hk
  have hcons : ConsumerW C.P W (fun b => S0 b ∨ foots LE b) (w.heap.size + 1) (fun x _ vs _ => vs = enc x ∧ ok x) Jn (stpB stp) (fun t => t.2 = none) (Att (stpB stp) (s0, none) ys) := by
    refine ⟨?_, ?_, ?_, ?_⟩
    · rintro ⟨s, j⟩ S x vs W1 ⟨rfl, hok⟩ hlive ⟨ix, hix, hsx⟩ hJ hn
      have hsx' := congrArg Prod.fst hsx
      rw [trc_stpB] at hsx'
      simp only at hlive
      subst hlive
      rw [hJn] at hJ
      obtain ⟨i, hSt, hS⟩ := hJ
      rw [hr0] at hSt hS
      have hrec : W1.heap[w.heap.size + 1]? = some (.loop r) := hSt.head.2.1
      refine ⟨_, _, _, _, run_yield (P := C.P) hrec (by rw [hr]; simp [hps x]), ?_⟩
      let R : Ending → World → Prop := fun e w' => ∃ v, e = .returned v ∧ (v = .bool (stpB stp (s, none) x).2 ∧ Near W1.heap.size S W1 w' ∧ ∃ S', Jn (stpB stp (s, none) x).1 S' w' ∧ ∀ b, S' b → S b ∨ W1.heap.size ≤ b)
      have hfx : Fits C.n [] (parFr ps (enc x) F) ⟨(ps.zip (enc x)).foldl (fun tmps (x : Tmp × Value) => tmps.setIfInBounds x.1 x.2) a.tmps, []⟩ :=
        parFr_fits ps (enc x) F C.n [] a.tmps hpn ⟨rfl, hf.size, hf.get⟩
      have hend' : ∀ (e : Exit) (jump : Option Code) (i' : ξ) (F' : Fr) (L' M : List HA), jumpOf e = some jump → (stp s x).2 = jump → Rem L' (haRec (w.heap.size + 1) { r with state := .busy }) M → LSub (haDef w.heap.size :: LI (stp s x).1 i') M →
          SQ (C.inRound (w.heap.size + 1) (roundPost C.P (w.heap.size + 1) R) W1 (foots (haRec (w.heap.size + 1) r :: haDef w.heap.size :: LI s i))) e [] F' L' := by
        intro e jump i' F' L' M hj hstp hrem hsub
        refine sq_round (R := R) rfl rfl hj hrem fun w' hSt' => ?_
        have hSt1 : St W1 (foots (haRec (w.heap.size + 1) r :: haDef w.heap.size :: LI s i)) (haRec (w.heap.size + 1) (recSt r jump) :: haDef w.heap.size :: LI (stp s x).1 i') w' := by
          refine St.sub (L := haRec (w.heap.size + 1) (recSt r jump) :: M) hSt' ?_
          exact LSub.cons Rem.here hsub
        have hout := St.unround hSt hSt1 (habs _ _ _)
        refine ⟨_, rfl, ?_, ⟨hSt1.near.os, hSt1.near.tape, hSt1.near.output, hSt1.near.size, fun k hk hnot => hSt1.near.block k hk (fun hb => hnot ((hS k).2 hb))⟩, foots (haRec (w.heap.size + 1) (recSt r jump) :: haDef w.heap.size :: LI (stp s x).1 i'), ?_, ?_⟩
        · simp only [stpB]; rw [hstp]
        · rw [hJn]
          refine ⟨i', ?_, fun b => ?_⟩
          · simp only [stpB]; rw [hstp]; exact hout
          · simp only [stpB]; rw [hstp]
        · intro b hb
          rcases (foots_old (B := 0) hSt1 hb).1 with h3 | h3
          · exact .inr h3
          · exact .inl ((hS b).2 h3)
      have hb := hbody (w.heap.size + 1) w.heap.size r W1 s i x (roundPost C.P (w.heap.size + 1) R) hok ⟨ix, hix, hsx'⟩ hready hSt hend'
      have hb1 := hb _ W1 hfx hSt.round
      refine (roundIn_of_wpIn (F := fc none) (n := 0) trivial ?_ : RoundIn (fc none) 0 C.P (w.heap.size + 1) _ _ _ _ W1 R)
      have e1 : ((r.params.zip (enc x).toArray).foldl (fun tmps (t, a) => tmps.setIfInBounds t a) r.tmps) = (ps.zip (enc x)).foldl (fun tmps (x : Tmp × Value) => tmps.setIfInBounds x.1 x.2) a.tmps := by
        rw [hr]
        simp only [List.zip_toArray, List.foldl_toArray]
      have e2 : r.assign = assign := by rw [hr]
      have e3 : r.body = body := by rw [hr]
      rw [e1, e2, e3]
      exact hb1
    · rintro ⟨s, j⟩ x hlive hgo
      simp only [stpB] at hgo ⊢
      cases h : (stp s x).2 with
      | none => rfl
      | some c => rw [h] at hgo; simp at hgo
    · rintro ⟨s, j⟩ S W1 b hJ hb
      rw [hJn] at hJ
      obtain ⟨i, hSt, hS⟩ := hJ
      exact (foots_old (B := 0) hSt ((hS b).1 hb)).2
    · rintro ⟨s, j⟩ S W1 W2 hJ hn hk hSb
      rw [hJn] at hJ ⊢
      obtain ⟨i, hSt, hS⟩ := hJ
      have hn' : Near C.w0.heap.size C.hot W1 W2 := ⟨hn.os, hn.tape, hn.output, hn.size, fun k hk' hnot => hn.block k (Nat.lt_of_lt_of_le hk' hSW.near.size) (fun hb => by
        have hb' : foots (LE ++ haRec (w.heap.size + 1) r :: haDef w.heap.size :: LI s0 i0) k := by
          rcases hb with hb | hb
          · rw [← hS0] at hb
            obtain ⟨x, hx, hf⟩ := hb
            exact ⟨x, List.mem_append_right _ hx, hf⟩
          · obtain ⟨x, hx, hf⟩ := hb
            exact ⟨x, List.mem_append_left _ hx, hf⟩
        rcases (foots_old (B := 0) hSWP hb').1 with h3 | h3
        · omega
        · exact hnot h3)⟩
      refine ⟨i, ⟨hSt.near.trans hn', fun y hy => (hSt.holds y hy).keep (fun b hb => hk b ((hS b).2 ⟨y, hy, hb⟩)) hn', hSt.sep⟩, hS⟩
  have hit := hiter W (w.heap.size + 1) w.heap.size r hSWP _ Jn (stpB stp) (fun t => t.2 = none) (s0, none) (w.heap.size + 1)
  rw [hS0] at hit
  have hJ0 : Jn (s0, none) S0 W := by
    rw [hJn]
    refine ⟨i0, by rw [hr0]; exact hSW, fun b => by rw [hr0, hS0]⟩
  have hcall := hit hcons rfl hJ0 (stops_runsJ stp ys s0 hstop)
  have hrun := call_run (callable_of hcal) ((Value.func (.yield (w.heap.size + 1)) #[] #[]) :: lb).toArray W
  refine ⟨w.heap.size + 1, [{ target := .collected w.heap.size, args := #[] }], W, { target := .fn (.func gf) lb.toArray, args := #[.func (.yield (w.heap.size + 1)) #[] #[]] }, W, gf, ((Value.func (.yield (w.heap.size + 1)) #[] #[]) :: lb).toArray, W, ?_, ?_, fun _ _ => trivial, ?_, fun h => by simp [fc] at h, ?_⟩
  · rw [← hW, hr]; exact run_enterLoop_outer _ _ _ _ _
  · have h1 := hf.ev hg
    simp only [resolve, h1]
    simp [Deferred.ofValue, Act.eval]
  · simp only [invoke]
    have : (#[Value.func (.yield (w.heap.size + 1)) #[] #[]] ++ lb.toArray) = ((Value.func (.yield (w.heap.size + 1)) #[] #[]) :: lb).toArray := by simp
    rw [this]
    exact hrun
  · refine callsIn_fc.2 (hcall.mono fun e W' ⟨⟨v, he⟩, hn, S', hJ, hS'⟩ => ?_)
    subst he
    rw [runsB_runsJ, hJn] at hJ
    obtain ⟨i, hSt, hS⟩ := hJ
    have hrec : W'.heap[w.heap.size + 1]? = some (.loop (recSt r (runsJ stp s0 ys).2)) := hSt.head.2.1
    have hpend : (recSt r (runsJ stp s0 ys).2).pending = (runsJ stp s0 ys).2 := by cases (runsJ stp s0 ys).2 <;> rfl
    have hbz : (recSt r (runsJ stp s0 ys).2).state ≠ .busy := by cases (runsJ stp s0 ys).2 <;> simp [recSt]
    have hfm : Fits C.n (C.mark w.heap.size).ds F { a with defers := [{ target := .collected w.heap.size, args := #[] }] ++ a.defers } := ⟨by simp [Cx.mark, hf.dfr], hf.size, hf.get⟩
    have hStm := (st_putObj hSt (o' := .loop { recSt r (runsJ stp s0 ys).2 with state := .exhausted }) Upd.here).tail
    refine ⟨_, _, run_endLoop hrec hbz, ?_⟩
    rw [hpend]
    cases hj : (runsJ stp s0 ys).2 with
    | none => rw [hj] at hstop; cases hstop
    | some c =>
      have := hjump w.heap.size i c hj _ _ hfm (by rw [hj] at hStm; exact hStm)
      rw [kpost_mark] at this
      rw [show (C.mark w.heap.size).rd = none from hrd] at this
      exact this
end
end Eng
end Go.Proofs.Ytmcmmmaffdenjaa

/-
  Functions with labels whose jumps are left out or leave rounds.
-/
namespace Go.Proofs.Ytmcmmmaffdenjaa
namespace Eng
open Go.RowKit
section
variable {C : Cx} {F : Fr} {L : List HA} {K : List KI}
theorem sc_label {l : Nat} (h : SQ C .normal K F L) : SC C (.label l) K F L := fun a w hf hs => wpIn_label (h a w hf hs)
theorem kpost_goto (hrd : C.rd = none) {l : Nat} {a : Act} {w : World} : ∀ K, kpost C K (.goto l) a w → False
  | [], h => by
    simp only [kpost, Cx.Qf, hrd] at h
    exact h
  | .seq c :: K, h => kpost_goto hrd K h
  | .blk id :: K, h => kpost_goto hrd K h
  | .loop J :: K, h => kpost_goto hrd K h
  | .fin J :: K, h => h
theorem sc_scope {c : Code} (hrd : C.rd = none) (h : SC C c K F L) : SC C (.scope c) K F L := fun a w hf hs => by
  have h1 := h a w hf hs
  rw [hrd, fc_none] at h1 ⊢
  rw [wpIn_wide] at h1 ⊢
  refine wp_scope_straight (wp_mono h1 fun e a w hq => ?_)
  cases e with
  | goto l => exact kpost_goto hrd K hq
  | _ => exact hq
end
end Eng
end Go.Proofs.Ytmcmmmaffdenjaa

/-
  Ranges over functions that hand over things in an order that is not known.
-/
namespace Go.Proofs.Ytmcmmmaffdenjaa
namespace Eng
open Go.RowKit
set_option linter.unusedVariables false
/-- An iterator's promise: it hands over just these, one after the other, and writes nothing but what its caller's loop writes. -/
def IteratesP (P : Program) (gf : Nat) (lb : List Value) {α : Type} (encW : α → (Nat → Prop) → List Value → World → Prop) (Pre Ys : List α → Prop) (W : World) (S0 : Nat → Prop) : Prop :=
  ∀ (τ : Type) (Jn : τ → (Nat → Prop) → World → Prop) (stp : τ → α → τ × Bool) (live : τ → Prop) (s0 : τ) (l : Nat), ConsumerW P W S0 l encW Jn stp live (fun s x => ∃ pre, Pre (pre ++ [x]) ∧ s = trc stp s0 pre) → live s0 → Jn s0 S0 W →
    Calls P gf ((Value.func (.yield l) #[] #[]) :: lb).toArray W (fun e W' => (∃ v, e = .returned v) ∧ Near W.heap.size S0 W W' ∧ ∃ ys, Ys ys ∧ ∃ S', Jn (runsB stp s0 ys) S' W' ∧ ∀ b, S' b → S0 b ∨ W.heap.size ≤ b)
section
variable {C : Cx} {F : Fr} {L : List HA} {K : List KI}
/-- 'for x := range g { body }'. -/
theorem sc_rangeP {σ ξ α : Type} {g : Operand} {ps : List Tmp} {assign body : Code} {gf : Nat} {lb : List Value} (encW : α → (Nat → Prop) → List Value → World → Prop) (Pre Ys : List α → Prop) (stp : σ → α → σ × Option Code) (LI : σ → ξ → List HA) (s0 : σ) (i0 : ξ)
    (hrd : C.rd = none) (hg : ev F g = some (.func (.func gf) #[] lb.toArray)) (hcal : has C.fns gf = true) (hps : ∀ x S vs w, encW x S vs w → vs.length = ps.length) (hpn : ∀ p ∈ ps, p < C.n) (hL : LSub (LI s0 i0) L)
    (hab : ∀ s i S p, HA.abs S p ∈ LI s i → ∀ u u', p u → (∀ b, S b → u'.heap[b]? = u.heap[b]?) → p u')
    (hiter : ∀ w l D r, St C.w0 C.hot (haRec l r :: haDef D :: LI s0 i0) w → IteratesP C.P gf lb encW Pre Ys w (foots (haRec l r :: haDef D :: LI s0 i0)))
    (hbody : ∀ (l D : Nat) (r : Loop) (W1 : World) (s : σ) (i : ξ) (x : α) (vs : List Value) (Q : Exit → Act → World → Prop), encW x (foots (haRec l r :: haDef D :: LI s i)) vs W1 → (∃ pre, Pre (pre ++ [x]) ∧ s = pre.foldl (fun s y => (stp s y).1) s0) → r.state = .ready → St C.w0 C.hot (haRec l r :: haDef D :: LI s i) W1 →
      (∀ (e : Exit) (jump : Option Code) (i' : ξ) (F' : Fr) (L' M : List HA), jumpOf e = some jump → (stp s x).2 = jump → Rem L' (haRec l { r with state := .busy }) M → LSub (haDef D :: LI (stp s x).1 i') M → SQ (C.inRound l Q W1 (foots (haRec l r :: haDef D :: LI s i))) e [] F' L') →
      SC (C.inRound l Q W1 (foots (haRec l r :: haDef D :: LI s i))) assign [.fin (roundStart (C.inRound l Q W1 (foots (haRec l r :: haDef D :: LI s i))) l body)] (parFr ps vs F) (haRec l r :: haDef D :: LI s i))
    (hend : ∀ D i ys, Ys ys → (runsJ stp s0 ys).2 = none → SQ (C.mark D) .normal K F (haDef D :: LI (runsJ stp s0 ys).1 i))
    (hjump : ∀ D i ys c, Ys ys → (runsJ stp s0 ys).2 = some c → SC (C.mark D) c K F (haDef D :: LI (runsJ stp s0 ys).1 i)) : SC C (.rangeFunc g ps.toArray assign body) K F L := by
  intro a w hf hs
  rw [hrd]
  have hs0 := hs.sub hL
  refine wpIn_rangeFunc fun fn _ => ?_
  obtain ⟨r, hr⟩ : ∃ r : Loop, r = { state := .ready, pending := none, fn, tmps := a.tmps, params := ps.toArray, assign, body, defers := w.heap.size } := ⟨_, rfl⟩
  obtain ⟨W, hW⟩ : ∃ W, (w.alloc (.deferred (some []))).alloc (.loop r) = W := ⟨_, rfl⟩
  have hSW : St C.w0 C.hot (haRec (w.heap.size + 1) r :: haDef w.heap.size :: LI s0 i0) W := by
    have h1 : St C.w0 C.hot (haDef w.heap.size :: LI s0 i0) (w.alloc (.deferred (some []))) :=
      hs0.alloc _ (fun b hb => hb) (haObj_holds (.inl hs0.near.size) (World.alloc_heap_new w _))
    have h2 := World.alloc_heap_new (w.alloc (.deferred (some []))) (.loop r)
    rw [World.size_alloc] at h2
    rw [← hW]
    refine h1.alloc _ (fun b hb => by rw [World.size_alloc]; exact hb) (haObj_holds (.inl (by have := hs0.near.size; omega)) h2)
  obtain ⟨S0, hS0⟩ : ∃ S0, foots (haRec (w.heap.size + 1) r :: haDef w.heap.size :: LI s0 i0) = S0 := ⟨_, rfl⟩
  have hready : r.state = .ready := by rw [hr]
  have hr0 : recSt r none = r := by rw [hr]; rfl
  -- the loop's own state, as an iterator sees it
  obtain ⟨Jn, hJn⟩ : ∃ Jn : σ × Option Code → (Nat → Prop) → World → Prop, Jn = fun t S w' => ∃ i, St C.w0 C.hot (haRec (w.heap.size + 1) (recSt r t.2) :: haDef w.heap.size :: LI t.1 i) w' ∧ ∀ b, S b ↔ foots (haRec (w.heap.size + 1) (recSt r t.2) :: haDef w.heap.size :: LI t.1 i) b := ⟨_, rfl⟩
  have habs : ∀ (rr : Loop) s i S p, HA.abs S p ∈ (haRec (w.heap.size + 1) rr :: haDef w.heap.size :: LI s i) → ∀ u u' : World, p u → (∀ b, S b → u'.heap[b]? = u.heap[b]?) → p u' := by
    intro rr s i S p hm u u' hp hk
    rcases List.mem_cons.1 hm with hm | hm
    · unfold haRec at hm
      injection hm with h1 h2
      subst h1; subst h2
      exact (hk _ rfl).trans hp
    · rcases List.mem_cons.1 hm with hm | hm
      · unfold haDef at hm
        injection hm with h1 h2
        subst h1; subst h2
        exact (hk _ rfl).trans hp
      · exact hab s i S p hm u u' hp hk
  have hcons : ConsumerW C.P W S0 (w.heap.size + 1) encW Jn (stpB stp) (fun t => t.2 = none) (fun t x => ∃ pre, Pre (pre ++ [x]) ∧ t = trc (stpB stp) (s0, none) pre) := by
    refine ⟨?_, ?_, ?_, ?_⟩
    · rintro ⟨s, j⟩ S x vs W1 hok hlive ⟨ix, hix, hsx⟩ hJ hn
      have hsx' := congrArg Prod.fst hsx
      rw [trc_stpB] at hsx'
      simp only at hlive
      subst hlive
      rw [hJn] at hJ
      obtain ⟨i, hSt, hS⟩ := hJ
      rw [hr0] at hSt hS
      have hrec : W1.heap[w.heap.size + 1]? = some (.loop r) := hSt.head.2.1
      refine ⟨_, _, _, _, run_yield (P := C.P) hrec (by rw [hr]; simp [hps x _ _ _ hok]), ?_⟩
      let R : Ending → World → Prop := fun e w' => ∃ v, e = .returned v ∧ (v = .bool (stpB stp (s, none) x).2 ∧ Near W1.heap.size S W1 w' ∧ ∃ S', Jn (stpB stp (s, none) x).1 S' w' ∧ ∀ b, S' b → S b ∨ W1.heap.size ≤ b)
      have hfx : Fits C.n [] (parFr ps vs F) ⟨(ps.zip vs).foldl (fun tmps (x : Tmp × Value) => tmps.setIfInBounds x.1 x.2) a.tmps, []⟩ :=
        parFr_fits ps vs F C.n [] a.tmps hpn ⟨rfl, hf.size, hf.get⟩
      have hend' : ∀ (e : Exit) (jump : Option Code) (i' : ξ) (F' : Fr) (L' M : List HA), jumpOf e = some jump → (stp s x).2 = jump → Rem L' (haRec (w.heap.size + 1) { r with state := .busy }) M → LSub (haDef w.heap.size :: LI (stp s x).1 i') M →
          SQ (C.inRound (w.heap.size + 1) (roundPost C.P (w.heap.size + 1) R) W1 (foots (haRec (w.heap.size + 1) r :: haDef w.heap.size :: LI s i))) e [] F' L' := by
        intro e jump i' F' L' M hj hstp hrem hsub
        refine sq_round (R := R) rfl rfl hj hrem fun w' hSt' => ?_
        have hSt1 : St W1 (foots (haRec (w.heap.size + 1) r :: haDef w.heap.size :: LI s i)) (haRec (w.heap.size + 1) (recSt r jump) :: haDef w.heap.size :: LI (stp s x).1 i') w' := by
          refine St.sub (L := haRec (w.heap.size + 1) (recSt r jump) :: M) hSt' ?_
          exact LSub.cons Rem.here hsub
        have hout := St.unround hSt hSt1 (habs _ _ _)
        refine ⟨_, rfl, ?_, ⟨hSt1.near.os, hSt1.near.tape, hSt1.near.output, hSt1.near.size, fun k hk hnot => hSt1.near.block k hk (fun hb => hnot ((hS k).2 hb))⟩, foots (haRec (w.heap.size + 1) (recSt r jump) :: haDef w.heap.size :: LI (stp s x).1 i'), ?_, ?_⟩
        · simp only [stpB]; rw [hstp]
        · rw [hJn]
          refine ⟨i', ?_, fun b => ?_⟩
          · simp only [stpB]; rw [hstp]; exact hout
          · simp only [stpB]; rw [hstp]
        · intro b hb
          rcases (foots_old (B := 0) hSt1 hb).1 with h3 | h3
          · exact .inr h3
          · exact .inl ((hS b).2 h3)
      have hb := hbody (w.heap.size + 1) w.heap.size r W1 s i x vs (roundPost C.P (w.heap.size + 1) R) (by rw [show foots (haRec (w.heap.size + 1) r :: haDef w.heap.size :: LI s i) = S from funext fun b => propext (hS b).symm]; exact hok) ⟨ix, hix, hsx'⟩ hready hSt hend'
      have hb1 := hb _ W1 hfx hSt.round
      refine (roundIn_of_wpIn (F := fc none) (n := 0) trivial ?_ : RoundIn (fc none) 0 C.P (w.heap.size + 1) _ _ _ _ W1 R)
      have e1 : ((r.params.zip vs.toArray).foldl (fun tmps (t, a) => tmps.setIfInBounds t a) r.tmps) = (ps.zip vs).foldl (fun tmps (x : Tmp × Value) => tmps.setIfInBounds x.1 x.2) a.tmps := by
        rw [hr]
        simp only [List.zip_toArray, List.foldl_toArray]
      have e2 : r.assign = assign := by rw [hr]
      have e3 : r.body = body := by rw [hr]
      rw [e1, e2, e3]
      exact hb1
    · rintro ⟨s, j⟩ x hlive hgo
      simp only [stpB] at hgo ⊢
      cases h : (stp s x).2 with
      | none => rfl
      | some c => rw [h] at hgo; simp at hgo
    · rintro ⟨s, j⟩ S W1 b hJ hb
      rw [hJn] at hJ
      obtain ⟨i, hSt, hS⟩ := hJ
      exact (foots_old (B := 0) hSt ((hS b).1 hb)).2
    · rintro ⟨s, j⟩ S W1 W2 hJ hn hk hSb
      rw [hJn] at hJ ⊢
      obtain ⟨i, hSt, hS⟩ := hJ
      have hn' : Near C.w0.heap.size C.hot W1 W2 := ⟨hn.os, hn.tape, hn.output, hn.size, fun k hk' hnot => hn.block k (Nat.lt_of_lt_of_le hk' hSW.near.size) (fun hb => by
        rw [← hS0] at hb
        rcases (foots_old (B := 0) hSW hb).1 with h3 | h3
        · omega
        · exact hnot h3)⟩
      refine ⟨i, ⟨hSt.near.trans hn', fun y hy => (hSt.holds y hy).keep (fun b hb => hk b ((hS b).2 ⟨y, hy, hb⟩)) hn', hSt.sep⟩, hS⟩
  have hit := hiter W (w.heap.size + 1) w.heap.size r hSW _ Jn (stpB stp) (fun t => t.2 = none) (s0, none) (w.heap.size + 1)
  rw [hS0] at hit
  have hJ0 : Jn (s0, none) S0 W := by
    rw [hJn]
    refine ⟨i0, by rw [hr0]; exact hSW, fun b => by rw [hr0, hS0]⟩
  have hcall := hit hcons rfl hJ0
  have hrun := call_run (callable_of hcal) ((Value.func (.yield (w.heap.size + 1)) #[] #[]) :: lb).toArray W
  refine ⟨w.heap.size + 1, [{ target := .collected w.heap.size, args := #[] }], W, { target := .fn (.func gf) lb.toArray, args := #[.func (.yield (w.heap.size + 1)) #[] #[]] }, W, gf, ((Value.func (.yield (w.heap.size + 1)) #[] #[]) :: lb).toArray, W, ?_, ?_, fun _ _ => trivial, ?_, fun h => by simp [fc] at h, ?_⟩
  · rw [← hW, hr]; exact run_enterLoop_outer _ _ _ _ _
  · have h1 := hf.ev hg
    simp only [resolve, h1]
    simp [Deferred.ofValue, Act.eval]
  · simp only [invoke]
    have : (#[Value.func (.yield (w.heap.size + 1)) #[] #[]] ++ lb.toArray) = ((Value.func (.yield (w.heap.size + 1)) #[] #[]) :: lb).toArray := by simp
    rw [this]
    exact hrun
  · refine callsIn_fc.2 (hcall.mono fun e W' ⟨⟨v, he⟩, hn, ys, hys, S', hJ, hS'⟩ => ?_)
    subst he
    rw [runsB_runsJ, hJn] at hJ
    obtain ⟨i, hSt, hS⟩ := hJ
    have hrec : W'.heap[w.heap.size + 1]? = some (.loop (recSt r (runsJ stp s0 ys).2)) := hSt.head.2.1
    have hpend : (recSt r (runsJ stp s0 ys).2).pending = (runsJ stp s0 ys).2 := by cases (runsJ stp s0 ys).2 <;> rfl
    have hbz : (recSt r (runsJ stp s0 ys).2).state ≠ .busy := by cases (runsJ stp s0 ys).2 <;> simp [recSt]
    have hfm : Fits C.n (C.mark w.heap.size).ds F { a with defers := [{ target := .collected w.heap.size, args := #[] }] ++ a.defers } := ⟨by simp [Cx.mark, hf.dfr], hf.size, hf.get⟩
    have hStm := (st_putObj hSt (o' := .loop { recSt r (runsJ stp s0 ys).2 with state := .exhausted }) Upd.here).tail
    refine ⟨_, _, run_endLoop hrec hbz, ?_⟩
    rw [hpend]
    cases hj : (runsJ stp s0 ys).2 with
    | none =>
      have := hend w.heap.size i ys hys hj _ _ hfm (by rw [hj] at hStm; exact hStm)
      rw [kpost_mark] at this
      exact this
    | some c =>
      have := hjump w.heap.size i ys c hys hj _ _ hfm (by rw [hj] at hStm; exact hStm)
      rw [kpost_mark] at this
      rw [show (C.mark w.heap.size).rd = none from hrd] at this
      exact this
end
end Eng
end Go.Proofs.Ytmcmmmaffdenjaa

/-
  A field of a struct's value, in one cell.
-/
namespace Go.Proofs.Ytmcmmmaffdenjaa
namespace Eng
open Go.RowKit
section
variable {C : Cx} {F : Fr} {L : List HA} {o : Oper}
theorem q_fieldv {t j : Nat} {x : Operand} {vs : List Value} {fs : Array Field} {fd : Field} {ti : TI} {v : Value} (ho : o.op = .field t x j) (hu : C.P.underlying t = some (.struct fs)) (hf : fs[j]? = some fd) (ht : tget C.tab fd.type = some ti) (hk : ti.kind.agg = false)
    (hx : ev F x = some (.agg vs.toArray)) (hv : nth vs fd.offset = some v) : Qv C o F L v :=
  .of_run fun a w hfa hs => by
    have h1 := tk_isAgg (C.ok.get ht) w
    rw [hk] at h1
    rw [nth_eq] at hv
    have h2 : vs.toArray[fd.offset]? = some v := by simpa using hv
    simp [execOp, ho, hfa.ev hx, Instr.field, run_underlying hu, hf, asAgg, part, h1, hv]
end
end Eng
end Go.Proofs.Ytmcmmmaffdenjaa

/-
  A byte of the table of lengths; remainders of numbers without a sign.
-/
namespace Go.Proofs.Ytmcmmmaffdenjaa
namespace Eng
open Go.RowKit
set_option linter.unusedVariables false
set_option linter.unusedSimpArgs false
section
variable {C : Cx} {F : Fr} {L : List HA} {o : Oper} {K : List KI} {ops : Array Oper} {m : Bool} {rest : List Oper} {x y : Operand} {t u : TypeId} {k k' : IntKind} {a b : Int}
theorem q_minr {r : Int} (ho : o.op = .call { callee := .builtin .min, args := #[x, y], argTypes := #[t, u] }) (hx : ev F x = some (.int k a)) (hy : ev F y = some (.int k b)) (hr : (if b < a then b else a) = r) : Qv C o F L (.int k r) :=
  .of_run fun ac w hf hs => by
    subst hr
    simp [execOp, ho, resolve, invoke, builtin, Builtin.min_, Builtin.min2, hf.ev hx, hf.ev hy]
end
end Eng
end Go.Proofs.Ytmcmmmaffdenjaa

/-
  Equality of structs.
-/
namespace Go.Proofs.Ytmcmmmaffdenjaa
namespace Eng
open Go.RowKit
set_option linter.unusedVariables false
set_option linter.unusedSimpArgs false
section
variable {C : Cx} {F : Fr} {L : List HA} {o : Oper} {x y : Operand} {t u : TypeId} {xs ys : Array Value}
theorem q_eqS {r : Bool} (ho : o.op = .binOp .eql t x y u) (hm : C.P.eqGuardType C.P.depth t = false) (hx : ev F x = some (.agg xs)) (hy : ev F y = some (.agg ys)) (hr : ∀ w, (Op.equalIn 10000 t (.agg xs) (.agg ys)).run C.P w = .ok r w) : Qv C o F L (.bool r) :=
  .of_run fun a w hf hs => by
    simp only [execOp, ho, Sem.run_bind, hf.ev hx, hf.ev hy, run_eqGuard_agg _ _ _ _ _ _ _ hm, Result.andThen_ok, run_eql_struct, hr w]
    simp
end
end Eng
end Go.Proofs.Ytmcmmmaffdenjaa

/-
  Parts of slices.
-/
namespace Go.Proofs.Ytmcmmmaffdenjaa
namespace Eng
open Go.RowKit
set_option linter.unusedVariables false
theorem RS.drop {α : Type} {w : World} {sz : Nat} {f : α → List Value} {ad : Addr} {l : List α} (h : RS w sz f (some ad) l) (k : Nat) : RS w sz f (some (ad.add (k * sz))) (l.drop k) := fun i x hx => by
  rw [List.getElem?_drop] at hx
  obtain ⟨ad', e, hX⟩ := h (k + i) x hx
  injection e with e
  subst e
  refine ⟨_, rfl, ?_⟩
  rw [add_add, ← Nat.add_mul]
  exact hX
section
variable {C : Cx} {F : Fr} {L : List HA} {o : Oper}
end
theorem RS.dropG {α : Type} {w : World} {sz : Nat} {f : α → List Value} {A : Option Addr} {c : Nat} {l : List α} (h : RS w sz f A l) (hs : Sl A l.length c) (k : Nat) : RS w sz f (if c = k then A else A.map (·.add (k * sz))) (l.drop k) := by
  by_cases hk : l.length ≤ k
  · rw [List.drop_of_length_le hk]
    exact RS.nil
  · have := hs.le
    rw [if_neg (by omega)]
    cases A with
    | none => have := (hs.nil rfl).1; omega
    | some ad => exact RS.drop h k
theorem q_sliceLoG {C : Cx} {F : Fr} {L : List HA} {o : Oper} {t n c e sz by_ : Nat} {x y : Operand} {ti : TI} {A : Option Addr} {kl : IntKind} (a : Nat) (ho : o.op = .slice t x (some y) none none) (ht : tget C.tab t = some ti) (hk : ti.kind = .slice e sz by_) (hx : ev F x = some (.slice A n c)) (hy : ev F y = some (.int kl (a : Int))) (ha : a ≤ n) (hnc : n ≤ c) :
    Qv C o F L (.slice (if c = a then A else A.map (·.add (a * sz))) (n - a) (c - a)) := Qv.of_run fun ac w hf hs => by
  have := run_sliceOp (C.ok.get ht) hk A n c (some (.int kl (a : Int))) none kl kl a n (.inr rfl) (.inl ⟨rfl, rfl⟩) ha hnc w
  have hu := (tk_slice (C.ok.get ht) hk).1
  simp [execOp, ho, hf.ev hx, hf.ev hy, Instr.sliceAt, run_underlying hu, this]
theorem q_cap_slice {C : Cx} {F : Fr} {L : List HA} {o : Oper} {x : Operand} {t : TypeId} {ti : TI} {e sz by_ : Nat} {ad : Option Addr} {n c : Nat} (ho : o.op = .call { callee := .builtin .cap, args := #[x], argTypes := #[t] }) (ht : tget C.tab t = some ti) (hk : ti.kind = .slice e sz by_)
    (hx : ev F x = some (.slice ad n c)) : Qv C o F L (.int .i64 (c : Int)) :=
  .of_run fun ac w hf hs => by
    have h1 := (tk_slice (C.ok.get ht) hk).1
    simp [execOp, ho, resolve, invoke, builtin, Builtin.cap_, hf.ev hx, run_underlying h1, goInt]
end Eng
end Go.Proofs.Ytmcmmmaffdenjaa

/-
  Ways that meet again: what follows is shown once.
-/
namespace Go.Proofs.Ytmcmmmaffdenjaa
namespace Eng
open Go.RowKit
set_option linter.unusedVariables false
section
variable {C : Cx} {F : Fr} {L Lp : List HA} {K : List KI} {ops : Array Oper} {fuel : Nat} {listed : Array Bool}
theorem sc_cut {ι : Type} (I : ι → Prop) (F' : ι → Fr) (L' : ι → List HA) {c : Code} {id : Nat} (main : (∀ i, I i → SQ C .normal K (F' i) (L' i)) → SC C c (.blk id :: K) F L) (tail : ∀ i, I i → SQ C .normal K (F' i) (L' i)) : SC C c (.blk id :: K) F L := main tail
end
end Eng
end Go.Proofs.Ytmcmmmaffdenjaa

/-
  Memory lent to a call.
-/
namespace Go.Proofs.Ytmcmmmaffdenjaa
namespace Eng
open Go.RowKit
set_option linter.unusedVariables false
section
variable {w0 w w' : World} {hot : Nat → Prop} {L L' : List HA}
def HA.kind1 : HA → Prop
  | .cells _ _ _ => True
  | .own _ _ _ _ _ => True
  | _ => False
/-- What is lent, in the callee's eyes. -/
theorem St.lent {x : HA} (h : St w0 hot L w) (hi : InL L x) (hk : x.kind1) : St w x.foot [x] w := by
  refine ⟨Near.refl _ _ _, fun y hy => ?_, List.pairwise_singleton _ _⟩
  rw [List.mem_singleton] at hy
  subst hy
  have hx := h.at hi
  cases y with
  | cells b t cs => exact ⟨.inr rfl, hx.2⟩
  | own v e sz n xs => exact ⟨fun b hb => .inr hb, hx.2⟩
  | abs S p => exact hk.elim
  | pure p => exact hk.elim
/-- What comes back. -/
theorem St.back {x y : HA} (h : St w0 hot L w) (hu : Upd L x y L') (h' : St w x.foot [y] w') (hk : y.kind1) : St w0 hot L' w' := by
  obtain ⟨M, h1, _⟩ := hu.perm
  have hx := (h.perm h1).head
  have hy := h'.head
  have hfoot : ∀ b, y.foot b → w0.heap.size ≤ b ∨ hot b := fun b hb => by
    rcases (hy.lt hb).1 with h3 | h3
    · exact .inl (Nat.le_trans h.near.size h3)
    · exact (hx.lt h3).1
  refine h.upd hu ⟨h'.near.os, h'.near.tape, h'.near.output, h'.near.size, fun k hk => by omega⟩ (fun b hb hne => h'.near.block b hb hne) ?_ (fun b hb => ((hy.lt hb).1).symm)
  cases y with
  | cells b t cs => exact ⟨hfoot b rfl, hy.2⟩
  | own v e sz n xs => exact ⟨fun b hb => hfoot b hb, hy.2⟩
  | abs S p => exact hk.elim
  | pure p => exact hk.elim
end
end Eng
end Go.Proofs.Ytmcmmmaffdenjaa
