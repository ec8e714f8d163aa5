/-
  The engine: rules of symbolic execution over the model's code, in one text (or two).
-/
import Derived.Test.YthbchbiadcjnkaaEngCoreA
import Derived.Sort.AssemblyPlain
import Derived.RangeFuncRecord
import Derived.Lib.BitFns
import Derived.WalkSpells
import Derived.Scope
/-
  Regions that draw their order, walked by a plan: quiet operations, with their guards, and calls that only make memory are taken when they stand in the plan; the others when nothing else is ready.
-/
namespace Go.Proofs.Ythbchbiadcjnkaa
namespace Eng
open Go.RowKit
set_option linter.unusedVariables false
section
variable {P : Program} {rd : Option Nat} {ops : Array Oper} {Φ : Act → World → Prop} {S : World → Prop}
/-- Each order, in this world or in one that has grown from it. -/
def anyG (P : Program) (rd : Option Nat) (ops : Array Oper) (Φ : Act → World → Prop) (S : World → Prop) : Nat → Array Bool → Act → World → Prop
  | 0, listed, a, w => ∀ w1, Below w.heap.size w w1 → Region.ready .any ops listed = [] ∧ Φ a w1
  | fuel + 1, listed, a, w => ∀ w1, Below w.heap.size w w1 → (Region.ready .any ops listed = [] → Φ a w1) ∧
      ∀ i ∈ Region.ready .any ops listed, wpOpIn (fc rd) 0 P ops (normOnly Φ) i (fun a' w' => S w' ∧ anyG P rd ops Φ S fuel (listed.setIfInBounds i true) a' w') a w1
theorem below_tr {a b c : World} (h : Below a.heap.size a b) (k : Below b.heap.size b c) : Below a.heap.size a c := h.trans (k.mono h.size)
theorem anyG_grow {fuel : Nat} {listed : Array Bool} {a : Act} {w w' : World} (h : anyG P rd ops Φ S fuel listed a w) (hb : Below w.heap.size w w') : anyG P rd ops Φ S fuel listed a w' := by
  cases fuel with
  | zero => exact fun w1 h1 => h w1 (below_tr hb h1)
  | succ fuel => exact fun w1 h1 => h w1 (below_tr hb h1)
theorem anyG_sound : ∀ (fuel : Nat) (listed : Array Bool) (a : Act) (w : World), anyG P rd ops Φ S fuel listed a w → wpAnyIn (fc rd) 0 P .any ops (normOnly Φ) fuel listed a w
  | 0, _, _, w, h => h w (Below.refl _ _)
  | fuel + 1, _, _, w, h => ⟨(h w (Below.refl _ _)).1, fun i hi => wpOpIn_mono (fun a' w' h' => anyG_sound fuel _ a' w' h'.2) ((h w (Below.refl _ _)).2 i hi)⟩
/-- Operation i yields v whenever it comes, or is passed over. -/
def YG (P : Program) (ops : Array Oper) (S : World → Prop) (o : Oper) (v : Value) (a : Act) : Prop :=
  (Region.wanted o (yielded ops a.tmps) = true ∧ ∀ w, S w → o.quietAt P a (fun w'' => Below w.heap.size w w'') w v) ∨ (Region.wanted o (yielded ops a.tmps) = false ∧ v = undef)
theorem YG.run {i : Nat} {o : Oper} {v : Value} {a : Act} {w : World} (hi : ops[i]? = some o) (hy : YG P ops S o v a) (hS : S w) {K : Act → World → Prop}
    (h : ∀ w', Below w.heap.size w w' → K (a.put o.dst v) w') : wpOpIn (fc rd) 0 P ops (normOnly Φ) i K a w := by
  unfold wpOpIn
  simp only [hi]
  rcases hy with ⟨hw, hq⟩ | ⟨hw, hv⟩
  · rw [if_pos hw]
    have h1 := hq w hS
    unfold Oper.quietAt at h1
    generalize hr : (execOp a.eval o).run P w = r at h1
    cases r with
    | ok x w' =>
      cases x <;> simp only [Oper.quietUpon] at h1
      case value u =>
        obtain ⟨rfl, rfl⟩ := h1
        exact wpIn_value hr (h _ (Below.refl _ _))
      case skip =>
        obtain ⟨rfl, rfl⟩ := h1
        exact wpIn_skip_ hr (h _ (Below.refl _ _))
      case enter f args =>
        obtain ⟨rfl, hc⟩ := h1
        refine wpIn_enter_ hr (hc.mono fun e w'' ⟨he, hs'⟩ => ?_)
        subst he
        exact h _ hs'
    | halt x w' => simp only [Oper.quietUpon] at h1
  · rw [if_neg (by rw [hw]; decide), ← hv]
    exact ⟨fun _ _ => trivial, h w (Below.refl _ _)⟩
theorem opG_put {j : Nat} {oi oj : Oper} {v : Value} (hj : ops[j]? = some oj) (hap : oi.apart ops oj = true) (hsi : ∀ cs b, oi.op ≠ .select cs b) (hsj : ∀ cs b, oj.op ≠ .select cs b) {K : Act → World → Prop} {a : Act} {w : World}
    (hy : YG P ops S oi v a) (h : wpOpIn (fc rd) 0 P ops (normOnly Φ) j K (a.put oi.dst v) w) :
    wpOpIn (fc rd) 0 P ops (normOnly Φ) j (fun a' w' => YG P ops S oi v a' ∧ K (a'.put oi.dst v) w') a w := by
  obtain ⟨h1, h2, h3⟩ := Oper.apart_spec hap
  have same : ∀ (a a' : Act), execOp a'.eval oi = execOp a.eval oi → Region.wanted oi (yielded ops a'.tmps) = Region.wanted oi (yielded ops a.tmps) → YG P ops S oi v a → YG P ops S oi v a' := fun a a' he hw hy => by
    unfold YG Oper.quietAt at hy ⊢
    rw [he, hw]
    exact hy
  have keep : ∀ (a : Act), YG P ops S oi v a → ∀ u, YG P ops S oi v (a.put oj.dst u) := fun a hy u => same a _ (execOp_put oi hsi a oj.dst u h3) (wanted_put oi a oj.dst u h3) hy
  unfold wpOpIn at *
  simp only [hj] at *
  rw [wanted_put oj a oi.dst v h1] at h
  split
  · rename_i hw
    simp only [hw, if_true] at h
    refine ⟨fun _ _ => trivial, ?_⟩
    have h := h.2
    rw [show (fc rd).round = rd from rfl] at h ⊢
    rw [semAt_put rd oj hsj a oi.dst v h1] at h
    generalize (oj.semAt rd a.eval).run P w = r at *
    cases r with
    | ok x w' =>
      cases x <;> simp only [Oper.uponIn] at h ⊢
      case value u => exact ⟨keep a hy u, by rw [← Act.put_comm a v u h2]; exact h⟩
      case skip => exact ⟨keep a hy _, by rw [← Act.put_comm a v undef h2]; exact h⟩
      case defer d =>
        refine ⟨keep { a with defers := d :: a.defers } (same a { a with defers := d :: a.defers } rfl rfl hy) _, ?_⟩
        rw [← Act.put_comm _ v undef h2, ← Act.put_defers]
        exact h
      case enter f args =>
        refine ⟨h.1, h.2.mono fun e w'' he => ?_⟩
        cases e with
        | returned u => exact ⟨keep a hy u, by rw [← Act.put_comm a v u h2]; exact he⟩
        | panicked c => exact he
        | outgrown => exact he
      case round l f tmps assign body =>
        refine ⟨h.1, h.2.mono fun e w'' he => ?_⟩
        cases e with
        | returned u => exact ⟨keep a hy u, by rw [← Act.put_comm a v u h2]; exact he⟩
        | panicked c => exact he
        | outgrown => exact he
      case row row args => exact ⟨h.1, h.2.mono fun u w'' he => ⟨keep a hy u, by rw [← Act.put_comm a v u h2]; exact he⟩⟩
    | halt x w' =>
      cases x <;> simp only [Oper.uponIn] at h ⊢
      case panic u => exact h
  · rename_i hw
    simp only [hw] at h
    exact ⟨fun _ _ => trivial, keep a hy _, by rw [← Act.put_comm a v undef h2]; exact h.2⟩
theorem anyG_first {i : Nat} {oi : Oper} {v : Value} (hi : ops[i]? = some oi) (hsel : ∀ (j : Nat) (o : Oper) cs b, ops[j]? = some o → o.op ≠ .select cs b) (hgr : ∀ w w', S w → Below w.heap.size w w' → S w') :
    ∀ (fuel : Nat) (listed : Array Bool) (a : Act) (w : World),
      (∀ j oj, ops[j]? = some oj → j ≠ i → listed.getD j true = false → (∀ e ∈ oj.after, Region.binds .any e = true → e.on ≠ i) → oi.apart ops oj = true) →
      i ∈ Region.ready .any ops listed → YG P ops S oi v a → S w →
      anyG P rd ops Φ S fuel (listed.setIfInBounds i true) (a.put oi.dst v) w → anyG P rd ops Φ S (fuel + 1) listed a w := by
  intro fuel
  induction fuel with
  | zero =>
    intro listed a w _ hr hy hS H w1 hw1
    refine ⟨fun h => (by rw [h] at hr; cases hr), fun j hj => ?_⟩
    by_cases hji : j = i
    · subst hji
      exact hy.run hi (hgr _ _ hS hw1) fun w' hw' => ⟨hgr _ _ hS (below_tr hw1 hw'), anyG_grow H (below_tr hw1 hw')⟩
    · have := ready_mono hj hji
      rw [(H w1 hw1).1] at this
      cases this
  | succ fuel ih =>
    intro listed a w hfree hr hy hS H w1 hw1
    refine ⟨fun h => (by rw [h] at hr; cases hr), fun j hj => ?_⟩
    by_cases hji : j = i
    · subst hji
      exact hy.run hi (hgr _ _ hS hw1) fun w' hw' => ⟨hgr _ _ hS (below_tr hw1 hw'), anyG_grow H (below_tr hw1 hw')⟩
    · have h1 := (H w1 hw1).2 j (ready_mono hj hji)
      obtain ⟨hjun, oj, hoj, hall⟩ := mem_ready.1 hj
      have hnot : ∀ e ∈ oj.after, Region.binds .any e = true → e.on ≠ i := fun e he hb heq => by
        have h1 := hall e he hb
        have h0 := (mem_ready.1 hr).1
        rw [heq] at h1
        rcases Nat.lt_or_ge i listed.size with h' | h'
        · simp [h'] at h0 h1; rw [h0] at h1; cases h1
        · simp [Array.getElem?_eq_none h'] at h1
      have h2 := opG_put hoj (hfree j oj hoj hji hjun hnot) (fun cs b => hsel i oi cs b hi) (fun cs b => hsel j oj cs b hoj) hy h1
      have hfree' : ∀ k ok, ops[k]? = some ok → k ≠ i → (listed.setIfInBounds j true).getD k true = false → (∀ e ∈ ok.after, Region.binds .any e = true → e.on ≠ i) → oi.apart ops ok = true := fun k ok hk hki hun hno => by
        refine hfree k ok hk hki ?_ hno
        by_cases hjk : j = k
        · subst hjk; exact hjun
        · rw [getD_set_ne true hjk] at hun; exact hun
      have hr' := ready_mono hr (Ne.symm hji)
      refine wpOpIn_mono (fun a' w' h3 => ?_) h2
      refine ⟨h3.2.1, ih (listed.setIfInBounds j true) a' w' hfree' hr' h3.1 h3.2.1 ?_⟩
      rw [Array.setIfInBounds_comm _ _ hji]
      exact h3.2.2
end
/-! ### The rules -/
/-- A plan: operation i is quiet; it alone is ready; these two are ready. -/
inductive Pl where
  | z
  | q (i : Nat) (p : Pl)
  | e (i : Nat) (p : Pl)
  | b (i j : Nat) (p r : Pl)
def JG (C : Cx) (ops : Array Oper) (Φ : Act → World → Prop) (Lp : List HA) (plan : Pl) (fuel : Nat) (listed : Array Bool) (F : Fr) (L : List HA) : Prop :=
  LSub Lp L → ∀ a w, Fits C.n C.ds F a → St C.w0 C.hot L w → anyG C.P C.rd ops Φ (St C.w0 C.hot Lp) fuel listed a w
/-- What stands behind a quiet operation, and behind another one: the memory ahead of it beside it. -/
def FQ (C : Cx) (ops : Array Oper) (Φ : Act → World → Prop) (Lp : List HA) (plan : Pl) (fuel : Nat) (listed : Array Bool) (L : List HA) (a : Act) (w : World) : Prop :=
  LSub Lp L → ∀ w, St C.w0 C.hot L w → anyG C.P C.rd ops Φ (St C.w0 C.hot Lp) fuel listed a w
def FE (C : Cx) (ops : Array Oper) (Φ : Act → World → Prop) (Lp : List HA) (plan : Pl) (fuel : Nat) (listed : Array Bool) (L : List HA) (a : Act) (w : World) : Prop :=
  LSub Lp L → St C.w0 C.hot Lp w ∧ anyG C.P C.rd ops Φ (St C.w0 C.hot Lp) fuel listed a w
section
variable {C : Cx} {F : Fr} {L Lp : List HA} {K : List KI} {ops : Array Oper} {Φ : Act → World → Prop} {fuel : Nat} {listed : Array Bool} {plan plan2 : Pl}
theorem gJG (h : JG C ops Φ Lp plan fuel listed F L) : JG C ops Φ Lp plan fuel listed F L := h
/-- Region k, by a plan: (true, i): operation i is quiet; (false, i): it alone is ready. -/
theorem sc_autoL (k : Nat) {l : List Oper} (Lp : List HA) (plan : Pl) (hsub : LSub Lp L) (hm : C.P.follows .mixedOrders = true) (h : JG C l.toArray (kpost C K .normal) Lp plan l.toArray.size (Array.replicate l.toArray.size false) F L) : SC C (.region k l.toArray true) K F L := by
  intro a w hf hs
  have h1 := anyG_sound _ _ _ _ (h hsub a w.drew hf (hs.later (Below.refl _ _).drew))
  refine wpIn_mono (wpIn_region_any (Q := normOnly (kpost C K .normal)) hm h1) fun e a w hq => ?_
  cases e <;> first | exact hq | exact hq.elim
theorem sc_auto (k : Nat) {l : List Oper} (plan : Pl) (hm : C.P.follows .mixedOrders = true) (h : JG C l.toArray (kpost C K .normal) L plan l.toArray.size (Array.replicate l.toArray.size false) F L) : SC C (.region k l.toArray true) K F L :=
  sc_autoL k L plan LSub.refl hm h
/-- A region in which x is written: it is not kept. -/
theorem sc_autoR (k : Nat) (x : HA) {l : List Oper} (plan : Pl) (hr : Rem L x Lp) (hm : C.P.follows .mixedOrders = true) (h : JG C l.toArray (kpost C K .normal) Lp plan l.toArray.size (Array.replicate l.toArray.size false) F L) : SC C (.region k l.toArray true) K F L :=
  sc_autoL k Lp plan ⟨[x], hr.perm.trans (List.perm_append_comm (l₁ := [x]))⟩ hm h
/-- A region that writes what it reads: nothing is kept. -/
theorem sc_auto0 (k : Nat) {l : List Oper} (plan : Pl) (hm : C.P.follows .mixedOrders = true) (h : JG C l.toArray (kpost C K .normal) [] plan l.toArray.size (Array.replicate l.toArray.size false) F L) : SC C (.region k l.toArray true) K F L :=
  sc_autoL k [] plan LSub.nil hm h
theorem jg_q {oi : Oper} {i : Nat} (hi : ops[i]? = some oi) (hchk : ((Region.ready .any ops listed).contains i && Region.free .any ops listed i && Region.noSelect ops) = true)
    (h : J C ops true [oi] [.fin (FQ C ops Φ Lp plan fuel (listed.setIfInBounds i true) L)] F Lp) : JG C ops Φ Lp (.q i plan) (fuel + 1) listed F L := by
  simp only [Bool.and_eq_true, List.contains_iff_mem] at hchk
  obtain ⟨⟨hr, hfr⟩, hns⟩ := hchk
  intro hsub a w hf hs
  have h1 := h a hf
  unfold wpQB at h1
  have hS := hs.sub hsub
  have hex : ∃ v, YG C.P ops (St C.w0 C.hot Lp) oi v a ∧ ∀ w, St C.w0 C.hot L w → anyG C.P C.rd ops Φ (St C.w0 C.hot Lp) fuel (listed.setIfInBounds i true) (a.put oi.dst v) w := by
    split at h1
    · rename_i hw
      obtain ⟨v, h2, h3⟩ := h1
      exact ⟨v, .inl ⟨hw, h2⟩, h3 w hS hsub⟩
    · rename_i hw
      exact ⟨undef, .inr ⟨by simpa using hw, rfl⟩, h1 w hS hsub⟩
  obtain ⟨v, hy, hn⟩ := hex
  exact anyG_first hi (Region.noSelect_spec hns) (fun w w' h hb => h.later hb) fuel listed a w (Region.free_spec hi hfr) hr hy hS (hn w hs)
theorem jg_next {Lq : List HA} (h : JG C ops Φ Lp plan fuel listed F L) : SQ C .normal [.fin (FQ C ops Φ Lp plan fuel listed L)] F Lq :=
  fun a w hf hs => fun hsub w1 hs1 => h hsub a w1 hf hs1
theorem jg_e {oi : Oper} {i : Nat} (hr : Region.ready .any ops listed = [i]) (hi : ops[i]? = some oi)
    (h : J C ops false [oi] [.fin (FE C ops Φ Lp plan fuel (listed.setIfInBounds i true) L)] F L) : JG C ops Φ Lp (.e i plan) (fuel + 1) listed F L := by
  intro hsub a w hf hs w1 hw1
  refine ⟨fun e => (by rw [hr] at e; cases e), fun i' hi' => ?_⟩
  rw [hr, List.mem_singleton] at hi'
  subst hi'
  have h1 := h a w1 hf (hs.later hw1)
  unfold wpListIn at h1
  unfold wpOpIn
  simp only [hi]
  split
  · rename_i hw
    rw [if_pos hw] at h1
    have h2 : oi.wpIn (fc C.rd) 0 C.P a w1 (FE C ops Φ Lp plan fuel (listed.setIfInBounds i' true) L) (normOnly Φ) := h1
    exact Oper.wpIn_mono (fun a' w' h3 => h3 hsub) h2
  · rename_i hw
    rw [if_neg hw] at h1
    exact ⟨h1.1, h1.2 hsub⟩
theorem jg_b {oi oj : Oper} {i j : Nat} (hr : Region.ready .any ops listed = [i, j]) (hi : ops[i]? = some oi) (hj : ops[j]? = some oj)
    (h : J C ops false [oi] [.fin (FE C ops Φ Lp plan fuel (listed.setIfInBounds i true) L)] F L) (h2 : J C ops false [oj] [.fin (FE C ops Φ Lp plan2 fuel (listed.setIfInBounds j true) L)] F L) : JG C ops Φ Lp (.b i j plan plan2) (fuel + 1) listed F L := by
  have key : ∀ {k : Nat} {ok : Oper} {pl : Pl}, ops[k]? = some ok → J C ops false [ok] [.fin (FE C ops Φ Lp pl fuel (listed.setIfInBounds k true) L)] F L → LSub Lp L → ∀ a w1, Fits C.n C.ds F a → St C.w0 C.hot L w1 → wpOpIn (fc C.rd) 0 C.P ops (normOnly Φ) k (fun a' w' => St C.w0 C.hot Lp w' ∧ anyG C.P C.rd ops Φ (St C.w0 C.hot Lp) fuel (listed.setIfInBounds k true) a' w') a w1 := by
    intro k ok pl hk hJ hsub a w1 hf hs
    have h1 := hJ a w1 hf hs
    unfold wpListIn at h1
    unfold wpOpIn
    simp only [hk]
    split
    · rename_i hw
      rw [if_pos hw] at h1
      have h2 : ok.wpIn (fc C.rd) 0 C.P a w1 (FE C ops Φ Lp pl fuel (listed.setIfInBounds k true) L) (normOnly Φ) := h1
      exact Oper.wpIn_mono (fun a' w' h3 => h3 hsub) h2
    · rename_i hw
      rw [if_neg hw] at h1
      exact ⟨h1.1, h1.2 hsub⟩
  intro hsub a w hf hs w1 hw1
  refine ⟨fun e => (by rw [hr] at e; cases e), fun i' hi' => ?_⟩
  rw [hr, List.mem_cons, List.mem_singleton] at hi'
  rcases hi' with e | e <;> subst e
  · exact key hi h hsub a w1 hf (hs.later hw1)
  · exact key hj h2 hsub a w1 hf (hs.later hw1)
/-- Behind one that wrote nothing of what is kept: the same memory; one assertion more; whatever holds what is kept. -/
theorem jg_next0 (h : JG C ops Φ Lp plan fuel listed F L) : SQ C .normal [.fin (FE C ops Φ Lp plan fuel listed L)] F L := fun a w hf hs => fun hsub => ⟨hs.sub hsub, h hsub a w hf hs⟩
theorem jg_next1 {x : HA} (h : JG C ops Φ Lp plan fuel listed F (x :: L)) : SQ C .normal [.fin (FE C ops Φ Lp plan fuel listed L)] F (x :: L) := fun a w hf hs => fun hsub => ⟨hs.tail.sub hsub, h (by
  obtain ⟨M, hM⟩ := hsub
  exact ⟨x :: M, (List.Perm.cons _ hM).trans List.perm_middle.symm⟩) a w hf hs⟩
theorem jg_nextE {L0 : List HA} (hsub : LSub Lp L) (h : JG C ops Φ Lp plan fuel listed F L) : SQ C .normal [.fin (FE C ops Φ Lp plan fuel listed L0)] F L := fun a w hf hs => fun _ => ⟨hs.sub hsub, h hsub a w hf hs⟩
theorem gFE {L0 : List HA} (h : SQ C .normal [.fin (FE C ops Φ Lp plan fuel listed L0)] F L) : SQ C .normal [.fin (FE C ops Φ Lp plan fuel listed L0)] F L := h
theorem jg_done {K : List KI} (hr : Region.ready .any ops listed = []) (h : SQ C .normal K F L) : JG C ops (kpost C K .normal) Lp .z fuel listed F L := by
  intro _ a w hf hs
  cases fuel with
  | zero => exact fun w1 hw1 => ⟨hr, h a w1 hf (hs.later hw1)⟩
  | succ fuel => exact fun w1 hw1 => ⟨fun _ => h a w1 hf (hs.later hw1), fun i hi => by rw [hr] at hi; cases hi⟩
end
end Eng
end Go.Proofs.Ythbchbiadcjnkaa

/-
  Parts of slices.
-/
namespace Go.Proofs.Ythbchbiadcjnkaa
namespace Eng
open Go.RowKit
set_option linter.unusedVariables false
theorem RS.drop {α : Type} {w : World} {sz : Nat} {f : α → List Value} {ad : Addr} {l : List α} (h : RS w sz f (some ad) l) (k : Nat) : RS w sz f (some (ad.add (k * sz))) (l.drop k) := fun i x hx => by
  rw [List.getElem?_drop] at hx
  obtain ⟨ad', e, hX⟩ := h (k + i) x hx
  injection e with e
  subst e
  refine ⟨_, rfl, ?_⟩
  rw [add_add, ← Nat.add_mul]
  exact hX
section
variable {C : Cx} {F : Fr} {L : List HA} {o : Oper}
theorem q_sliceLoS {t n c e sz by_ : Nat} {x y : Operand} {ti : TI} {ad : Addr} {kl : IntKind} (a : Nat) (ho : o.op = .slice t x (some y) none none) (ht : tget C.tab t = some ti) (hk : ti.kind = .slice e sz by_) (hx : ev F x = some (.slice (some ad) n c)) (hy : ev F y = some (.int kl (a : Int))) (ha : a < n) (hnc : n ≤ c) :
    Qv C o F L (.slice (some (ad.add (a * sz))) (n - a) (c - a)) := by
  have h := q_sliceLo (L := L) a ho ht hk hx hy (Nat.le_of_lt ha) hnc
  rwa [if_neg (by omega)] at h
end
theorem RS.dropG {α : Type} {w : World} {sz : Nat} {f : α → List Value} {A : Option Addr} {c : Nat} {l : List α} (h : RS w sz f A l) (hs : Sl A l.length c) (k : Nat) : RS w sz f (if c = k then A else A.map (·.add (k * sz))) (l.drop k) := by
  by_cases hk : l.length ≤ k
  · rw [List.drop_of_length_le hk]
    exact RS.nil
  · have := hs.le
    rw [if_neg (by omega)]
    cases A with
    | none => have := (hs.nil rfl).1; omega
    | some ad => exact RS.drop h k
theorem q_sliceLoG {C : Cx} {F : Fr} {L : List HA} {o : Oper} {t n c e sz by_ : Nat} {x y : Operand} {ti : TI} {A : Option Addr} {kl : IntKind} (a : Nat) (ho : o.op = .slice t x (some y) none none) (ht : tget C.tab t = some ti) (hk : ti.kind = .slice e sz by_) (hx : ev F x = some (.slice A n c)) (hy : ev F y = some (.int kl (a : Int))) (ha : a ≤ n) (hnc : n ≤ c) :
    Qv C o F L (.slice (if c = a then A else A.map (·.add (a * sz))) (n - a) (c - a)) := Qv.of_run fun ac w hf hs => by
  have := run_sliceOp (C.ok.get ht) hk A n c (some (.int kl (a : Int))) none kl kl a n (.inr rfl) (.inl ⟨rfl, rfl⟩) ha hnc w
  have hu := (tk_slice (C.ok.get ht) hk).1
  simp [execOp, ho, hf.ev hx, hf.ev hy, Instr.sliceAt, run_underlying hu, this]
theorem q_cap_slice {C : Cx} {F : Fr} {L : List HA} {o : Oper} {x : Operand} {t : TypeId} {ti : TI} {e sz by_ : Nat} {ad : Option Addr} {n c : Nat} (ho : o.op = .call { callee := .builtin .cap, args := #[x], argTypes := #[t] }) (ht : tget C.tab t = some ti) (hk : ti.kind = .slice e sz by_)
    (hx : ev F x = some (.slice ad n c)) : Qv C o F L (.int .i64 (c : Int)) :=
  .of_run fun ac w hf hs => by
    have h1 := (tk_slice (C.ok.get ht) hk).1
    simp [execOp, ho, resolve, invoke, builtin, Builtin.cap_, hf.ev hx, run_underlying h1, goInt]
end Eng
end Go.Proofs.Ythbchbiadcjnkaa

/-
  Memory lent to a call.
-/
namespace Go.Proofs.Ythbchbiadcjnkaa
namespace Eng
open Go.RowKit
set_option linter.unusedVariables false
section
variable {w0 w w' : World} {hot : Nat → Prop} {L L' : List HA}
def HA.kind1 : HA → Prop
  | .cells _ _ _ => True
  | .own _ _ _ _ _ => True
  | _ => False
/-- What is lent, in the callee's eyes. -/
theorem St.lent {x : HA} (h : St w0 hot L w) (hi : InL L x) (hk : x.kind1) : St w x.foot [x] w := by
  refine ⟨Near.refl _ _ _, fun y hy => ?_, List.pairwise_singleton _ _⟩
  rw [List.mem_singleton] at hy
  subst hy
  have hx := h.at hi
  cases y with
  | cells b t cs => exact ⟨.inr rfl, hx.2⟩
  | own v e sz n xs => exact ⟨fun b hb => .inr hb, hx.2⟩
  | abs S p => exact hk.elim
  | pure p => exact hk.elim
/-- What comes back. -/
theorem St.back {x y : HA} (h : St w0 hot L w) (hu : Upd L x y L') (h' : St w x.foot [y] w') (hk : y.kind1) : St w0 hot L' w' := by
  obtain ⟨M, h1, _⟩ := hu.perm
  have hx := (h.perm h1).head
  have hy := h'.head
  have hfoot : ∀ b, y.foot b → w0.heap.size ≤ b ∨ hot b := fun b hb => by
    rcases (hy.lt hb).1 with h3 | h3
    · exact .inl (Nat.le_trans h.near.size h3)
    · exact (hx.lt h3).1
  refine h.upd hu ⟨h'.near.os, h'.near.tape, h'.near.output, h'.near.size, fun k hk => by omega⟩ (fun b hb hne => h'.near.block b hb hne) ?_ (fun b hb => ((hy.lt hb).1).symm)
  cases y with
  | cells b t cs => exact ⟨hfoot b rfl, hy.2⟩
  | own v e sz n xs => exact ⟨fun b hb => hfoot b hb, hy.2⟩
  | abs S p => exact hk.elim
  | pure p => exact hk.elim
end
end Eng
end Go.Proofs.Ythbchbiadcjnkaa

/-
  What the walks of slices.SortFunc need: elements of a row exchanged, calls of bound values, two pieces of memory lent.
-/
namespace Go.Proofs.Ythbchbiadcjnkaa
namespace Eng
open Go.RowKit
set_option linter.unusedVariables false
set_option linter.unusedSimpArgs false
theorem splice_whole (cs vs : List Value) (h : cs.length = vs.length) : splice cs 0 vs = vs := by
  rw [splice_eq _ _ _ (by omega)]
  simp [h]
theorem row_at {α : Type} [Inhabited α] (d : Array α) {x : Nat} (hx : x < d.size) : ∃ x1, d[x]! = x1 ∧ d.toList[x]? = some x1 :=
  ⟨d[x]!, rfl, by rw [Array.getElem?_toList, Array.getElem?_eq_getElem hx, getElem!_pos d x hx]⟩
theorem swp_facts {α : Type} [Inhabited α] (d : Array α) {x y : Nat} (hx : x < d.size) (hy : y < d.size) :
    ∃ (x1 x2 : α) (d' : Array α), d[x]! = x1 ∧ d[y]! = x2 ∧ Go.Sort.swp d x y = d' ∧ d.toList[x]? = some x1 ∧ d.toList[y]? = some x2 ∧ (d.toList.set x x2).set y x1 = d'.toList ∧ d'.size = d.size ∧ x < d.toList.length ∧ y < (d.toList.set x x2).length := by
  obtain ⟨x1, e1, g1⟩ := row_at d hx
  obtain ⟨x2, e2, g2⟩ := row_at d hy
  refine ⟨x1, x2, _, e1, e2, rfl, g1, g2, ?_, Go.Sort.swp_size d x y, by simpa using hx, by simpa using hy⟩
  subst e1; subst e2
  unfold Go.Sort.swp
  simp
section
variable {C : Cx} {F : Fr} {L : List HA} {o : Oper} {K : List KI} {ops : Array Oper} {m : Bool} {rest : List Oper}
theorem q_index_at {t : Nat} {x y : Operand} {ti : TI} {e sz by_ n c : Nat} {ad : Addr} {k : IntKind} {z : Int} (i : Nat) (ho : o.op = .indexAddr t x y) (ht : tget C.tab t = some ti) (hk : ti.kind = .slice e sz by_)
    (hx : ev F x = some (.slice (some ad) n c)) (hy : ev F y = some (.int k z)) (h : z = (i : Int) ∧ i < n) : Qv C o F L (.pointer (some (ad.add (i * sz)))) := by
  obtain ⟨rfl, h⟩ := h
  exact q_index_nat ho ht hk hx hy h
theorem j_store_el {α : Type} {f : α → List Value} {l : List α} (i : Nat) (z' : α) {t n c e sz : Nat} {x y : Operand} {ti : TI} {ad : Addr} {v : Value} {L' : List HA} (ho : o.op = .store t x y) (hg : o.guard = none) (hd : o.dst = none)
    (hx : ev F x = some (.pointer (some (ad.add (i * sz))))) (hy : ev F y = some v) (ht : tget C.tab t = some ti) (hl : ti.size = len (vcells v)) (h1 : ones (vcells v) = true) (hin : InL L (.own (.slice (some ad) n c) e sz n (l.flatMap f))) (hf : ∀ x, (f x).length = sz) (hi : i < l.length)
    (hv : vcells v = f z') (hup : Upd L (.own (.slice (some ad) n c) e sz n (l.flatMap f)) (.own (.slice (some ad) n c) e sz n ((l.set i z').flatMap f)) L')
    (h : J C ops false rest K F L') : J C ops false (o :: rest) K F L :=
  j_store_row (z := l[i]) (z' := z') ho hg hd hx hy ht hl h1 hin hf (List.getElem?_eq_getElem hi) (by rw [hv]; exact splice_whole _ _ (by rw [hf, hf])) (by rw [hv, len_eq, hf]; simp) hup h
theorem run_callb {C : Cx} {F : Fr} {o : Oper} {al : List Operand} {fo : Operand} {ats : Array TypeId} {f : Nat} {pre caps vs : List Value} (ho : o.op = .call { callee := .value fo, args := al.toArray, argTypes := ats })
    (hfo : ev F fo = some (.func (.func f) pre.toArray caps.toArray)) (ha : evs F al = some vs) (hc : has C.fns f = true) {a : Act} (hf : Fits C.n C.ds F a) (w : World) :
    (execOp a.eval o).run C.P w = .ok (.enter f (pre ++ vs ++ caps).toArray) w := by
  have h1 : al.toArray.map a.eval = vs.toArray := by rw [List.map_toArray, hf.evs ha]
  have h2 := call_run (callable_of hc) (pre.toArray ++ vs.toArray ++ caps.toArray) w
  simp only [execOp, ho, resolve, hf.ev hfo, h1, Deferred.ofValue, Sem.run_bind, Sem.run_pure, Result.andThen_ok, invoke]
  rw [h2]
  simp
theorem q_callb {al : List Operand} {fo : Operand} {ats : Array TypeId} {f : Nat} {pre caps vs : List Value} {v : Value} (ho : o.op = .call { callee := .value fo, args := al.toArray, argTypes := ats })
    (hfo : ev F fo = some (.func (.func f) pre.toArray caps.toArray)) (ha : evs F al = some vs) (hc : has C.fns f = true)
    (hcall : ∀ w, St C.w0 C.hot L w → Calls C.P f (pre ++ vs ++ caps).toArray w (fun e w' => e = .returned v ∧ Below w.heap.size w w')) : Qt C o F L v := by
  intro a w hf hs
  unfold Oper.quietAt
  rw [run_callb ho hfo ha hc hf w]
  exact ⟨rfl, (hcall w hs).mono fun e w' ⟨he, hb⟩ => ⟨he, hb⟩⟩
theorem j_qcb {al : List Operand} {fo : Operand} {ats : Array TypeId} {f d : Nat} {pre caps vs : List Value} (ho : o.op = .call { callee := .value fo, args := al.toArray, argTypes := ats })
    (hg : o.guard = none) (hd : o.dst = some d) (hn : Nat.blt d C.n = true) (hfo : ev F fo = some (.func (.func f) pre.toArray caps.toArray)) (ha : evs F al = some vs) (hc : has C.fns f = true)
    (h : ∃ v, (∀ w, St C.w0 C.hot L w → Calls C.P f (pre ++ vs ++ caps).toArray w (fun e w' => e = .returned v ∧ Below w.heap.size w w')) ∧ J C ops m rest K ((d, v) :: F) L) : J C ops m (o :: rest) K F L :=
  let ⟨_, hcall, hj⟩ := h
  j_q hg hd hn (q_callb ho hfo ha hc hcall) hj
def noStore (l : List Oper) : Bool := l.all fun o => match o.op with
  | .store _ _ _ => false
  | _ => true
/-- A region that draws and does not store. -/
theorem sc_drawr {id : Nat} {l : List Oper} (hns : noStore l = true) (hrd : C.rd = none) (hm : C.P.follows .mixedOrders = true) (hB : Region.lexB .any l.toArray = true) (h : J C l.toArray true l K F L) : SC C (.region id l.toArray true) K F L :=
  sc_draw hrd hm hB h
theorem u64_range (x : Int) : 0 ≤ IntKind.u64.wrap x ∧ IntKind.u64.wrap x ≤ 18446744073709551615 := by
  rw [u64_wrapm]
  omega
theorem q_xor64 {t u : TypeId} {x y : Operand} {a b : Int} (ho : o.op = .binOp .xor t x y u) (hx : ev F x = some (.int .u64 a)) (hy : ev F y = some (.int .u64 b)) :
    Qv C o F L (.int .u64 (IntKind.u64.wrap ((BitVec.ofInt 64 a ^^^ BitVec.ofInt 64 b).toNat : Int))) :=
  q_bin ho hx hy fun w => by
    have h3 : (Op.intBits .xor .u64 a b) = (pure (.int .u64 (IntKind.u64.wrap ((BitVec.ofInt 64 a ^^^ BitVec.ofInt 64 b).toNat : Int))) : Sem Value) := rfl
    simp only [binOp, ne_eq, not_true_eq_false, if_false, h3]
    simp
theorem and_le64 (a b : Nat) (ha : a < 2 ^ 64) (hb : b < 2 ^ 64) : (BitVec.ofInt 64 (a : Int) &&& BitVec.ofInt 64 (b : Int)).toNat = a &&& b := by
  rw [BitVec.toNat_and, BitVec.toNat_ofInt, BitVec.toNat_ofInt]
  congr 1
  · have : ((a : Int) % ((2 ^ 64 : Nat) : Int)) = a := Int.emod_eq_of_lt (by omega) (by exact_mod_cast ha)
    rw [this]; rfl
  · have : ((b : Int) % ((2 ^ 64 : Nat) : Int)) = b := Int.emod_eq_of_lt (by omega) (by exact_mod_cast hb)
    rw [this]; rfl
theorem q_and64 {t u : TypeId} {x y : Operand} {a b : Nat} (ho : o.op = .binOp .and t x y u) (hx : ev F x = some (.int .u64 (a : Int))) (hy : ev F y = some (.int .u64 (b : Int))) (ha : a < 18446744073709551616) (hb : b < 18446744073709551616) :
    Qv C o F L (.int .u64 ((a &&& b : Nat) : Int)) :=
  q_bin ho hx hy fun w => by
    have h3 : (Op.intBits .and .u64 (a : Int) (b : Int)) = (pure (.int .u64 (IntKind.u64.wrap ((BitVec.ofInt 64 (a : Int) &&& BitVec.ofInt 64 (b : Int)).toNat : Int))) : Sem Value) := rfl
    have h4 : (a &&& b) ≤ b := Nat.and_le_right
    simp only [binOp, ne_eq, not_true_eq_false, if_false, h3, and_le64 a b ha hb, u64_wrap (x := ((a &&& b : Nat) : Int)) (by omega) (by omega)]
    simp
end
/-! ### Two pieces of memory lent, of which the second is written -/
section
variable {w0 w w' : World} {hot : Nat → Prop} {L L' : List HA}
theorem St.lent2 {x y : HA} (h : St w0 hot L w) (hs : LSub [x, y] L) (hx : x.kind1) (hy : y.kind1) : St w (fun b => x.foot b ∨ y.foot b) [x, y] w := by
  have h2 := h.sub hs
  refine ⟨Near.refl _ _ _, fun z hz => ?_, h2.sep⟩
  have hz' := h2.holds z hz
  have hk : z.kind1 := by
    simp only [List.mem_cons, List.mem_nil_iff, or_false] at hz
    rcases hz with rfl | rfl <;> assumption
  have hft : ∀ b, z.foot b → x.foot b ∨ y.foot b := fun b hb => by
    simp only [List.mem_cons, List.mem_nil_iff, or_false] at hz
    rcases hz with rfl | rfl
    · exact .inl hb
    · exact .inr hb
  cases z with
  | cells b t cs => exact ⟨.inr (hft b rfl), hz'.2⟩
  | own v e sz n xs => exact ⟨fun b hb => .inr (hft b hb), hz'.2⟩
  | abs S p => exact hk.elim
  | pure p => exact hk.elim
theorem St.back2 {x y y' : HA} (h : St w0 hot L w) (hs : LSub [x, y] L) (hu : Upd L y y' L') (h' : St w (fun b => x.foot b ∨ y.foot b) [x, y'] w') (hx : x.kind1) (hy' : y'.kind1) (hf : ∀ b, y'.foot b → y.foot b) : St w0 hot L' w' := by
  obtain ⟨N, hN⟩ := hs
  obtain ⟨M, h1, h2⟩ := hu.perm
  have hM : M.Perm (x :: N) := by
    have : (y :: M).Perm (y :: x :: N) := h1.symm.trans (hN.trans (List.Perm.swap _ _ _))
    exact (List.perm_cons y).1 this
  have hp := h.perm hN
  have hx0 : x.holds w0.heap.size hot w := hp.holds x (by simp)
  have hy0 : y.holds w0.heap.size hot w := hp.holds y (by simp)
  have hN0 : ∀ z ∈ N, z.holds w0.heap.size hot w := fun z hz => hp.holds z (by simp [hz])
  have hsep := hp.sep
  simp only [List.cons_append, List.nil_append, List.pairwise_cons] at hsep
  have hn : Near w0.heap.size hot w w' := ⟨h'.near.os, h'.near.tape, h'.near.output, h'.near.size, fun k hk hnot => h'.near.block k (Nat.lt_of_lt_of_le hk h.near.size) (fun hh => by
    rcases hh with hh | hh
    · rcases (hx0.lt hh).1 with h3 | h3
      · omega
      · exact hnot h3
    · rcases (hy0.lt hh).1 with h3 | h3
      · omega
      · exact hnot h3)⟩
  have hx1 : x.holds w0.heap.size hot w' := by
    have h9 := h'.holds x (by simp)
    cases x with
    | cells b t cs => exact ⟨hx0.1, h9.2⟩
    | own v e sz n xs => exact ⟨hx0.1, h9.2⟩
    | abs S p => exact hx.elim
    | pure p => exact hx.elim
  have hy1 : y'.holds w0.heap.size hot w' := by
    have h9 := h'.holds y' (by simp)
    cases y' with
    | cells b t cs => exact ⟨(hy0.lt (hf b rfl)).1, h9.2⟩
    | own v e sz n xs => exact ⟨fun b hb => (hy0.lt (hf b hb)).1, h9.2⟩
    | abs S p => exact hy'.elim
    | pure p => exact hy'.elim
  have hN1 : ∀ z ∈ N, z.holds w0.heap.size hot w' := fun z hz => (hN0 z hz).keep (fun b hb => h'.near.block b ((hN0 z hz).lt hb).2 (fun hh => by
    rcases hh with hh | hh
    · exact hsep.1 z (by simp [hz]) b hh hb
    · exact hsep.2.1 z hz b hh hb)) hn
  have hall : St w0 hot (x :: y' :: N) w' := ⟨h.near.trans hn, fun z hz => by
      simp only [List.mem_cons] at hz
      rcases hz with rfl | rfl | hz
      · exact hx1
      · exact hy1
      · exact hN1 z hz, List.pairwise_cons.2 ⟨fun z hz b hb hzb => by
        rcases List.mem_cons.1 hz with rfl | hz
        · exact hsep.1 y (by simp) b hb (hf b hzb)
        · exact hsep.1 z (by simp [hz]) b hb hzb, List.pairwise_cons.2 ⟨fun z hz b hb hzb => hsep.2.1 z hz b (hf b hb) hzb, hsep.2.2⟩⟩⟩
  exact hall.perm ((List.Perm.swap _ _ _).trans ((List.Perm.cons _ hM.symm).trans h2.symm))
end
end Eng
end Go.Proofs.Ythbchbiadcjnkaa

/-
  Ranges over functions: what an iterator promises, what a loop's body owes, and the loop's rule.
-/
namespace Go.Proofs.Ythbchbiadcjnkaa
namespace Eng
open Go.RowKit
set_option linter.unusedVariables false
/-- A call of yield. -/
def YieldRun (P : Program) (l : Nat) (args : List Value) (w : World) (R : Value → World → Prop) : Prop :=
  ∃ fn tmps assign body, (Instr.yield l args.toArray).run P w = .ok (.round l fn tmps assign body) w ∧ RoundIn (fc none) 0 P l fn tmps assign body w (fun e w' => ∃ v, e = .returned v ∧ R v w')
/-- What a loop does with what an iterator hands it: a state, the blocks in which it lies, a step, and whether it goes on. -/
structure Consumer {τ α : Type} (P : Program) (W : World) (S0 : Nat → Prop) (l : Nat) (enc : α → List Value) (ok : α → Prop) (Jn : τ → (Nat → Prop) → World → Prop) (stp : τ → α → τ × Bool) (live : τ → Prop) : Prop where
  step : ∀ s S x w, ok x → live s → Jn s S w → Near W.heap.size S0 W w → YieldRun P l (enc x) w (fun v w' => v = .bool (stp s x).2 ∧ Near w.heap.size S w w' ∧ ∃ S', Jn (stp s x).1 S' w' ∧ ∀ b, S' b → S b ∨ w.heap.size ≤ b)
  goes : ∀ s x, live s → (stp s x).2 = true → live (stp s x).1
  lt : ∀ s S w b, Jn s S w → S b → b < w.heap.size
  stab : ∀ s S w w', Jn s S w → Near W.heap.size S0 w w' → (∀ b, S b → w'.heap[b]? = w.heap[b]?) → (∀ b, S b → S0 b ∨ W.heap.size ≤ b) → Jn s S w'
def runsB {τ α : Type} (stp : τ → α → τ × Bool) : τ → List α → τ
  | s, [] => s
  | s, y :: ys => match stp s y with
    | (s', true) => runsB stp s' ys
    | (s', false) => s'
theorem runsB_cons_t {τ α : Type} {stp : τ → α → τ × Bool} {s : τ} {y : α} {ys : List α} (h : (stp s y).2 = true) : runsB stp s (y :: ys) = runsB stp (stp s y).1 ys := by
  simp only [runsB]
  cases e : stp s y with
  | mk s' b => rw [e] at h; simp only at h; subst h; rfl
theorem runsB_cons_f {τ α : Type} {stp : τ → α → τ × Bool} {s : τ} {y : α} {ys : List α} (h : (stp s y).2 = false) : runsB stp s (y :: ys) = (stp s y).1 := by
  simp only [runsB]
  cases e : stp s y with
  | mk s' b => rw [e] at h; simp only at h; subst h; rfl
theorem Consumer.start {τ α : Type} {P : Program} {W : World} {S0 : Nat → Prop} {l : Nat} {enc : α → List Value} {ok : α → Prop} {Jn : τ → (Nat → Prop) → World → Prop} {stp : τ → α → τ × Bool} {live : τ → Prop}
    (h : Consumer P W S0 l enc ok Jn stp live) {s : τ} (h0 : Jn s S0 W) : St W S0 [.abs S0 (Jn s S0)] W :=
  (St.start W S0).cons ⟨fun b hb => ⟨.inr hb, h.lt _ _ _ _ h0 hb⟩, h0, fun w' hn hk => h.stab _ _ _ _ h0 hn hk (fun b hb => .inl hb)⟩ (fun y hy => by cases hy)
section
variable {C : Cx} {F : Fr} {L : List HA} {o : Oper} {K : List KI} {ops : Array Oper} {m : Bool} {rest : List Oper}
/-- A call of yield, in the iterator. -/
theorem j_yield {τ α : Type} {d l : Nat} {al : List Operand} {fo : Operand} {ats : Array TypeId} {vs : List Value} {enc : α → List Value} {ok : α → Prop} {Jn : τ → (Nat → Prop) → World → Prop} {stp : τ → α → τ × Bool} {live : τ → Prop}
    (hcons : Consumer C.P C.w0 C.hot l enc ok Jn stp live) (ho : o.op = .call { callee := .value fo, args := al.toArray, argTypes := ats }) (hg : o.guard = none) (hd : o.dst = some d) (hn : Nat.blt d C.n = true)
    (hfo : ev F fo = some (.func (.yield l) #[] #[])) (ha : evs F al = some vs) {x : α} (henc : enc x = vs) (hok : ok x) {s : τ} (hlive : live s) {S : Nat → Prop} (hin : InL L (.abs S (Jn s S))) {L' : (Nat → Prop) → List HA}
    (hup : ∀ S', Upd L (.abs S (Jn s S)) (.abs S' (Jn (stp s x).1 S')) (L' S')) (h : ∀ S', J C ops false rest K ((d, .bool (stp s x).2) :: F) (L' S')) : J C ops false (o :: rest) K F L := by
  intro a w hf hs
  have hA := hs.at hin
  obtain ⟨fn, tmps, assign, body, hy, hr⟩ := hcons.step s S x w hok hlive hA.2.1 hs.near
  rw [henc] at hy
  have h1 : al.toArray.map a.eval = vs.toArray := by rw [List.map_toArray, hf.evs ha]
  have hrun : (execOp a.eval o).run C.P w = .ok (.round l fn tmps assign body) w := by
    simp only [execOp, ho, resolve, hf.ev hfo, h1, Deferred.ofValue, Sem.run_bind, Sem.run_pure, Result.andThen_ok, invoke, Array.empty_append, hy]
  refine wpListIn_run (by simp [Region.wanted, hg]) ⟨fun _ _ => trivial, ?_⟩
  rw [show (fc C.rd).round = C.rd from rfl, semAt_of_value hrun (fun d e => by cases e), Oper.uponIn_round]
  refine ⟨fun h => by simp [fc] at h, ?_⟩
  have hr' : RoundIn (fc C.rd) 0 C.P l fn tmps assign body w (fun e w' => ∃ v, e = .returned v ∧ (v = .bool (stp s x).2 ∧ Near w.heap.size S w w' ∧ ∃ S', Jn (stp s x).1 S' w' ∧ ∀ b, S' b → S b ∨ w.heap.size ≤ b)) := hr
  refine hr'.mono fun e w' ⟨v, he, hv, hn', S', hJ, hS'⟩ => ?_
  subst he
  subst hv
  rw [hd]
  have hS'0 : ∀ b, S' b → C.hot b ∨ C.w0.heap.size ≤ b := fun b hb => by
    rcases hS' b hb with h2 | h2
    · rcases (hA.1 b h2).1 with h3 | h3
      · exact .inr h3
      · exact .inl h3
    · exact .inr (Nat.le_trans hs.near.size h2)
  refine h S' _ _ (hf.put _ hn) (hs.upd (hup S') ⟨hn'.os, hn'.tape, hn'.output, hn'.size, fun k hk => by omega⟩ (fun b hb hne => hn'.block b hb hne) ⟨fun b hb => ⟨(hS'0 b hb).symm, hcons.lt _ _ _ _ hJ hb⟩, hJ, fun w'' hnn hk => hcons.stab _ _ _ _ hJ hnn hk hS'0⟩ hS')
end
/-! ### Calls that hand back new memory -/
theorem St.adopt {w0 w w' : World} {hot : Nat → Prop} {L Ln : List HA} (h : St w0 hot L w) (h' : St w Cold Ln w') (habs : ∀ S p, HA.abs S p ∈ Ln → ∀ u u', p u → (∀ b, S b → u'.heap[b]? = u.heap[b]?) → p u') : St w0 hot (Ln ++ L) w' := by
  have h1 := h.later h'.below
  have hft : ∀ b, (w.heap.size ≤ b ∨ Cold b) → w0.heap.size ≤ b ∨ hot b := fun b hb => .inl (Nat.le_trans h.near.size (hb.resolve_right (fun h => h)))
  refine ⟨h1.near, fun x hx => ?_, List.pairwise_append.2 ⟨h'.sep, h.sep, fun x hx y hy b hbx hby => ?_⟩⟩
  · rcases List.mem_append.1 hx with hx | hx
    · have hx' := h'.holds x hx
      cases x with
      | cells b t cs => exact ⟨hft b hx'.1, hx'.2⟩
      | own v e sz n xs => exact ⟨fun b hb => hft b (hx'.1 b hb), hx'.2⟩
      | abs S p => exact ⟨fun b hb => ⟨hft b (hx'.1 b hb).1, (hx'.1 b hb).2⟩, hx'.2.1, fun w'' _ hk => habs S p hx _ _ hx'.2.1 hk⟩
      | pure p => exact hx'
    · exact h1.holds x hx
  · have h2 := ((h'.holds x hx).lt hbx).1
    have h3 := ((h.holds y hy).lt hby).2
    rcases h2 with h2 | h2
    · omega
    · exact h2
section
variable {C : Cx} {F : Fr} {L : List HA} {o : Oper} {K : List KI} {ops : Array Oper} {rest : List Oper}
/-- Assertions of the plain kinds. -/
def plainHA : List HA → Prop
  | [] => True
  | .abs S p :: L => (∀ u u', p u → (∀ b, S b → u'.heap[b]? = u.heap[b]?) → p u') ∧ plainHA L
  | _ :: L => plainHA L
theorem plainHA_abs {L : List HA} (h : plainHA L) (S : Nat → Prop) (p : World → Prop) (hm : HA.abs S p ∈ L) : ∀ u u' : World, p u → (∀ b, S b → u'.heap[b]? = u.heap[b]?) → p u' := by
  induction L with
  | nil => cases hm
  | cons x L ih =>
    rcases List.mem_cons.1 hm with h1 | h1
    · subst h1; exact h.1
    · cases x with
      | abs _ _ => exact ih h.2 h1
      | cells _ _ _ => exact ih h h1
      | own _ _ _ _ _ => exact ih h h1
      | pure _ => exact ih h h1
theorem j_callN {ξ : Type} {al : List Operand} {fo : Operand} {ats : Array TypeId} {f d : Nat} {caps vs : List Value} (ho : o.op = .call { callee := .value fo, args := al.toArray, argTypes := ats })
    (hg : o.guard = none) (hd : o.dst = some d) (hn : Nat.blt d C.n = true) (hfo : ev F fo = some (.func (.func f) #[] caps.toArray)) (ha : evs F al = some vs) (hc : has C.fns f = true) (V : ξ → Value) (pre : ξ → Prop) (Ln : ξ → List HA)
    (hcall : ∀ w, St C.w0 C.hot L w → Calls C.P f (vs ++ caps).toArray w (fun e w' => ∃ x, pre x ∧ e = .returned (V x) ∧ St w Cold (Ln x) w')) (hpl : ∀ x, plainHA (Ln x))
    (h : ∀ x, pre x → J C ops false rest K ((d, V x) :: F) (Ln x ++ L)) : J C ops false (o :: rest) K F L := by
  refine j_call V pre (fun x => Ln x ++ L) ho hg hd hn hfo ha hc (fun w hs => (hcall w hs).mono fun e w' ⟨x, hp, he, hs'⟩ => ⟨x, hp, he, hs.adopt hs' (plainHA_abs (hpl x))⟩) h
end
/-! ### The loop -/
def haRec (l : Nat) (r : Loop) : HA := .abs (· = l) (fun w => w.heap[l]? = some (.loop r))
def haDef (D : Nat) : HA := .abs (· = D) (fun w => w.heap[D]? = some (.deferred (some [])))
theorem haObj_holds {B : Nat} {hot : Nat → Prop} {w : World} {l : Nat} {o : Obj} (hb : B ≤ l ∨ hot l) (h : w.heap[l]? = some o) : (HA.abs (· = l) (fun w => w.heap[l]? = some o)).holds B hot w :=
  ⟨fun b hb' => by subst hb'; exact ⟨hb, (Array.getElem?_eq_some_iff.1 h).1⟩, h, fun w' _ hk => (hk l rfl).trans h⟩
/-- The blocks of a list of assertions. -/
def foots (L : List HA) (b : Nat) : Prop := ∃ x ∈ L, x.foot b
structure LoopIx (σ ξ α : Type) where
  enc : α → List Value
  stp : σ → α → σ × Option Code
  LI : σ → ξ → List HA
def runsJ {σ α : Type} (stp : σ → α → σ × Option Code) : σ → List α → σ × Option Code
  | s, [] => (s, none)
  | s, y :: ys => match stp s y with
    | (s', none) => runsJ stp s' ys
    | (s', some c) => (s', some c)
/-- The step as an iterator sees it. -/
def stpB {σ α : Type} (stp : σ → α → σ × Option Code) (t : σ × Option Code) (x : α) : (σ × Option Code) × Bool := (stp t.1 x, (stp t.1 x).2.isNone)
theorem runsB_runsJ {σ α : Type} (stp : σ → α → σ × Option Code) : ∀ (ys : List α) (s : σ), runsB (stpB stp) (s, none) ys = runsJ stp s ys
  | [], s => rfl
  | y :: ys, s => by
    simp only [runsJ]
    cases e : stp s y with
    | mk s' j =>
      cases j with
      | none =>
        rw [runsB_cons_t (by simp [stpB, e])]
        simp only [stpB, e]
        exact runsB_runsJ stp ys s'
      | some c =>
        rw [runsB_cons_f (by simp [stpB, e])]
        simp [stpB, e]
/-- An iterator's promise: it hands over just these, one after the other, and writes nothing but what its caller's loop writes. -/
def Iterates (P : Program) (gf : Nat) (lb : List Value) {α : Type} (enc : α → List Value) (ok : α → Prop) (ys : List α) (W : World) (S0 : Nat → Prop) : Prop :=
  ∀ (τ : Type) (Jn : τ → (Nat → Prop) → World → Prop) (stp : τ → α → τ × Bool) (live : τ → Prop) (s0 : τ) (l : Nat), Consumer P W S0 l enc ok Jn stp live → live s0 → Jn s0 S0 W →
    Calls P gf ((Value.func (.yield l) #[] #[]) :: lb).toArray W (fun e W' => (∃ v, e = .returned v) ∧ Near W.heap.size S0 W W' ∧ ∃ S', Jn (runsB stp s0 ys) S' W' ∧ ∀ b, S' b → S0 b ∨ W.heap.size ≤ b)
section
variable {C : Cx} {F : Fr} {L : List HA} {K : List KI}
theorem foots_old {B : Nat} {w0 w : World} {hot : Nat → Prop} (h : St w0 hot L w) {b : Nat} (hb : foots L b) : (w0.heap.size ≤ b ∨ hot b) ∧ b < w.heap.size := by
  obtain ⟨x, hx, hf⟩ := hb
  exact (h.holds x hx).lt hf
/-- From the loop's own view of memory to a round's, and back. -/
theorem St.round {w0 w : World} {hot : Nat → Prop} (h : St w0 hot L w) : St w (foots L) L w := by
  refine ⟨Near.refl _ _ _, fun x hx => ?_, h.sep⟩
  have hx' := h.holds x hx
  have hft : ∀ b, x.foot b → w.heap.size ≤ b ∨ foots L b := fun b hb => .inr ⟨x, hx, hb⟩
  cases x with
  | cells b t cs => exact ⟨hft b rfl, hx'.2⟩
  | own v e sz n xs => exact ⟨fun b hb => hft b hb, hx'.2⟩
  | abs S p =>
    refine ⟨fun b hb => ⟨hft b hb, (hx'.1 b hb).2⟩, hx'.2.1, fun w' hn hk => hx'.2.2 w' ⟨hn.os, hn.tape, hn.output, hn.size, fun k hk' hnot => hn.block k (Nat.lt_of_lt_of_le hk' h.near.size) (fun hf => by
      rcases (foots_old (B := 0) h hf).1 with h3 | h3
      · omega
      · exact hnot h3)⟩ hk⟩
  | pure p => exact hx'
/-- Whoever is outside sees what a round has left. -/
theorem St.unround {w0 w w' : World} {hot : Nat → Prop} {L L' : List HA} (h : St w0 hot L w) (h' : St w (foots L) L' w') (habs : ∀ S p, HA.abs S p ∈ L' → ∀ u u', p u → (∀ b, S b → u'.heap[b]? = u.heap[b]?) → p u') : St w0 hot L' w' := by
  have hn : Near w0.heap.size hot w w' := ⟨h'.near.os, h'.near.tape, h'.near.output, h'.near.size, fun k hk hnot => h'.near.block k (Nat.lt_of_lt_of_le hk h.near.size) (fun hf => by
      rcases (foots_old (B := 0) h hf).1 with h3 | h3
      · omega
      · exact hnot h3)⟩
  have hft : ∀ b, (w.heap.size ≤ b ∨ foots L b) → w0.heap.size ≤ b ∨ hot b := fun b hb => by
    rcases hb with h3 | h3
    · exact .inl (Nat.le_trans h.near.size h3)
    · exact (foots_old (B := 0) h h3).1
  refine ⟨h.near.trans hn, fun x hx => ?_, h'.sep⟩
  have hx' := h'.holds x hx
  cases x with
  | cells b t cs => exact ⟨hft b hx'.1, hx'.2⟩
  | own v e sz n xs => exact ⟨fun b hb => hft b (hx'.1 b hb), hx'.2⟩
  | abs S p => exact ⟨fun b hb => ⟨hft b (hx'.1 b hb).1, (hx'.1 b hb).2⟩, hx'.2.1, fun w'' _ hk => habs S p hx _ _ hx'.2.1 hk⟩
  | pure p => exact hx'
end
/-- What a call of a round leaves of the caller's memory. -/
theorem St.inner {w0 w w' : World} {hot : Nat → Prop} {L L' : List HA} (h : St w0 hot L w) (h' : St w (foots L) L' w') : Near w0.heap.size hot w0 w' :=
  h.near.trans ⟨h'.near.os, h'.near.tape, h'.near.output, h'.near.size, fun k hk hnot => h'.near.block k (Nat.lt_of_lt_of_le hk h.near.size) (fun hf => by
      rcases (foots_old (B := 0) h hf).1 with h3 | h3
      · omega
      · exact hnot h3)⟩
def Cx.mark (C : Cx) (D : Nat) : Cx := { C with ds := { target := .collected D, args := #[] } :: C.ds }
theorem kpost_mark (C : Cx) (D : Nat) : ∀ K, kpost (C.mark D) K = kpost C K
  | [] => rfl
  | .seq c :: K => by simp only [kpost, kpost_mark C D K]; rfl
  | .blk id :: K => by simp only [kpost, kpost_mark C D K]
  | .loop J :: K => by simp only [kpost, kpost_mark C D K]
  | .fin J :: K => rfl
/-- The frame and the memory of a round. -/
def Cx.inRound (C : Cx) (l : Nat) (Q : Exit → Act → World → Prop) (W1 : World) (hot : Nat → Prop) : Cx := { C with rd := some l, ds := [], Qr := Q, w0 := W1, hot := hot }
def recSt (r : Loop) : Option Code → Loop
  | none => { r with state := .ready, pending := none }
  | some c => { r with state := .done, pending := some c }
def roundStart (C : Cx) (l : Nat) (body : Code) : Act → World → Prop := fun a w => ∃ w₂, (Instr.beginRound l).run C.P w = .ok () w₂ ∧ body.wpIn (fc (some l)) 0 C.P C.Qf a w₂
section
variable {C : Cx} {F : Fr} {L : List HA} {K : List KI}
theorem st_putObj {w0 w : World} {hot : Nat → Prop} {L' : List HA} {l : Nat} {o o' : Obj} (hs : St w0 hot L w) (hu : Upd L (.abs (· = l) (fun w => w.heap[l]? = some o)) (.abs (· = l) (fun w => w.heap[l]? = some o')) L') : St w0 hot L' (w.putObj l o') := by
  obtain ⟨M, h1, _⟩ := hu.perm
  have hA := (hs.perm h1).head
  have hlt := (hA.1 l rfl).2
  refine hs.upd hu ⟨rfl, rfl, rfl, by simp, fun k hk => by omega⟩ (fun b hb hne => World.putObj_heap_other (fun e => hne e)) (haObj_holds (hA.1 l rfl).1 (World.putObj_heap_same hlt)) (fun b hb => .inl hb)
theorem sq_begin {l : Nat} {r : Loop} {body : Code} {L' : List HA} (hrd : C.rd = some l) (hr : r.state = .ready) (hu : Upd L (haRec l r) (haRec l { r with state := .busy }) L') (h : SC C body [] F L') : SQ C .normal [.fin (roundStart C l body)] F L := by
  intro a w hf hs
  obtain ⟨M, h1, _⟩ := hu.perm
  have hA := (hs.perm h1).head
  refine ⟨_, run_beginRound hA.2.1 hr, ?_⟩
  have := h a _ hf (st_putObj hs hu)
  rw [hrd] at this
  exact this
def jumpOf : Exit → Option (Option Code)
  | .normal => some none
  | .ret => some (some .ret)
  | .exit id => some (some (.exit id))
  | .goto t => some (some (.goto t))
  | _ => none
/-- A round's end. -/
theorem sq_round {l : Nat} {r : Loop} {e : Exit} {jump : Option Code} {L' : List HA} {R : Ending → World → Prop} (hrd : C.rd = some l) (hQ : C.Qr = roundPost C.P l R) (hj : jumpOf e = some jump) (hr : Rem L (haRec l { r with state := .busy }) L')
    (h : ∀ w', St C.w0 C.hot (haRec l (recSt r jump) :: L') w' → R (.returned (.bool jump.isNone)) w') : SQ C e [] F L := by
  intro a w hf hs
  show C.Qf e a w
  have hQf : C.Qf = roundPost C.P l R := by unfold Cx.Qf; rw [hrd]; exact hQ
  rw [hQf]
  have hs1 := hs.perm hr.perm
  have hA := hs1.head
  have h1 := h _ (st_putObj hs1 (o' := .loop (recSt r jump)) Upd.here)
  have h2 := run_endRound (P := C.P) jump hA.2.1
  have e2 : recSt r jump = { { r with state := .busy } with state := if jump.isNone then .ready else .done, pending := jump } := by cases jump <;> rfl
  rw [e2] at h1
  cases e <;> simp only [jumpOf, Option.some.injEq, reduceCtorEq] at hj <;> subst hj <;> exact ⟨_, _, h2, h1⟩
/-- The function's end, behind one range over a function. -/
theorem sq_endm {e : Exit} {D : Nat} {L' : List HA} (he : e = .ret ∨ e = .normal) (hrd : C.rd = none) (hds : C.ds = [{ target := .collected D, args := #[] }]) (hr : Rem L (haDef D) L')
    (h : ∃ vs, RVs C F L' C.rs vs ∧ ∀ w, St C.w0 C.hot L' w → C.R (.returned (pack vs)) w) : SQ C e [] F L := by
  obtain ⟨vs, hv, hR⟩ := h
  intro a w hf hs
  show C.Qf e a w
  have hQ : C.Qf = bodyPostM (fc none) 0 C.P C.fn C.R := by unfold Cx.Qf; rw [hrd]
  rw [hQ]
  have hd : a.defers = [{ target := .collected D, args := #[] }] := hf.dfr.trans hds
  have hs1 := hs.perm hr.perm
  have hA := hs1.head
  have hs2 : St C.w0 C.hot L' (w.putObj D (.deferred none)) := (st_putObj hs1 (o' := .deferred none) Upd.here).tail
  have hl : LeavesInM (fc none) 0 C.P C.fn a.tmps C.R a.defers .returning w := by
    rw [hd]
    exact ⟨by simp, .inl ⟨D, _, rfl, run_takeDeferred hA.2.1, ⟨_, results_run C.hrs hv hf hs2, hR _ hs2⟩⟩⟩
  rcases he with rfl | rfl
  · exact hl
  · exact hl
theorem foldl_size (l : List (Tmp × Value)) : ∀ (t : Array Value), (l.foldl (fun tmps (x : Tmp × Value) => tmps.setIfInBounds x.1 x.2) t).size = t.size := by
  induction l with
  | nil => intro t; rfl
  | cons x l ih => intro t; simp only [List.foldl_cons, ih]; simp
def parFr : List Tmp → List Value → Fr → Fr
  | p :: ps, v :: vs, F => parFr ps vs ((p, v) :: F)
  | _, _, F => F
theorem parFr_fits : ∀ (ps : List Tmp) (vs : List Value) (F : Fr) (n : Nat) (ds : List Deferred) (t : Array Value), (∀ p ∈ ps, p < n) → Fits n ds F ⟨t, ds⟩ →
    Fits n ds (parFr ps vs F) ⟨(ps.zip vs).foldl (fun tmps (x : Tmp × Value) => tmps.setIfInBounds x.1 x.2) t, ds⟩
  | [], vs, F, n, ds, t, _, h => by cases vs <;> exact h
  | p :: ps, [], F, n, ds, t, _, h => h
  | p :: ps, v :: vs, F, n, ds, t, hp, h => by
    have h1 := h.put (d := p) v (by rw [Nat.blt_eq]; exact hp p List.mem_cons_self)
    exact parFr_fits ps vs _ n ds _ (fun q hq => hp q (List.mem_cons_of_mem _ hq)) h1
theorem parsLt {ps : List Tmp} {n : Nat} (h : ps.all (fun p => Nat.blt p n) = true) : ∀ p ∈ ps, p < n := fun p hp => by
  have := List.all_eq_true.1 h p hp
  rwa [Nat.blt_eq] at this
/-- 'for x := range g { body }'. -/
theorem sc_range {σ ξ α : Type} {g : Operand} {ps : List Tmp} {assign body : Code} {gf : Nat} {lb : List Value} (enc : α → List Value) (ok : α → Prop) (ys : List α) (stp : σ → α → σ × Option Code) (LI : σ → ξ → List HA) (s0 : σ) (i0 : ξ)
    (hrd : C.rd = none) (hg : ev F g = some (.func (.func gf) #[] lb.toArray)) (hcal : has C.fns gf = true) (hps : ∀ x, (enc x).length = ps.length) (hpn : ∀ p ∈ ps, p < C.n) (hL : LSub (LI s0 i0) L)
    (hab : ∀ s i S p, HA.abs S p ∈ LI s i → ∀ u u', p u → (∀ b, S b → u'.heap[b]? = u.heap[b]?) → p u')
    (hiter : ∀ w l D r, St C.w0 C.hot (haRec l r :: haDef D :: LI s0 i0) w → Iterates C.P gf lb enc ok ys w (foots (haRec l r :: haDef D :: LI s0 i0)))
    (hbody : ∀ (l D : Nat) (r : Loop) (W1 : World) (s : σ) (i : ξ) (x : α) (Q : Exit → Act → World → Prop), ok x → r.state = .ready → St C.w0 C.hot (haRec l r :: haDef D :: LI s i) W1 →
      (∀ (e : Exit) (jump : Option Code) (i' : ξ) (F' : Fr) (L' M : List HA), jumpOf e = some jump → (stp s x).2 = jump → Rem L' (haRec l { r with state := .busy }) M → LSub (haDef D :: LI (stp s x).1 i') M → SQ (C.inRound l Q W1 (foots (haRec l r :: haDef D :: LI s i))) e [] F' L') →
      SC (C.inRound l Q W1 (foots (haRec l r :: haDef D :: LI s i))) assign [.fin (roundStart (C.inRound l Q W1 (foots (haRec l r :: haDef D :: LI s i))) l body)] (parFr ps (enc x) F) (haRec l r :: haDef D :: LI s i))
    (hend : ∀ D i, (runsJ stp s0 ys).2 = none → SQ (C.mark D) .normal K F (haDef D :: LI (runsJ stp s0 ys).1 i))
    (hjump : ∀ D i c, (runsJ stp s0 ys).2 = some c → SC (C.mark D) c K F (haDef D :: LI (runsJ stp s0 ys).1 i)) : SC C (.rangeFunc g ps.toArray assign body) K F L := by
  intro a w hf hs
  rw [hrd]
  have hs0 := hs.sub hL
  refine wpIn_rangeFunc fun fn _ => ?_
  obtain ⟨r, hr⟩ : ∃ r : Loop, r = { state := .ready, pending := none, fn, tmps := a.tmps, params := ps.toArray, assign, body, defers := w.heap.size } := ⟨_, rfl⟩
  obtain ⟨W, hW⟩ : ∃ W, (w.alloc (.deferred (some []))).alloc (.loop r) = W := ⟨_, rfl⟩
  have hSW : St C.w0 C.hot (haRec (w.heap.size + 1) r :: haDef w.heap.size :: LI s0 i0) W := by
    have h1 : St C.w0 C.hot (haDef w.heap.size :: LI s0 i0) (w.alloc (.deferred (some []))) :=
      hs0.alloc _ (fun b hb => hb) (haObj_holds (.inl hs0.near.size) (World.alloc_heap_new w _))
    have h2 := World.alloc_heap_new (w.alloc (.deferred (some []))) (.loop r)
    rw [World.size_alloc] at h2
    rw [← hW]
    refine h1.alloc _ (fun b hb => by rw [World.size_alloc]; exact hb) (haObj_holds (.inl (by have := hs0.near.size; omega)) h2)
  obtain ⟨S0, hS0⟩ : ∃ S0, foots (haRec (w.heap.size + 1) r :: haDef w.heap.size :: LI s0 i0) = S0 := ⟨_, rfl⟩
  have hready : r.state = .ready := by rw [hr]
  have hr0 : recSt r none = r := by rw [hr]; rfl
  -- the loop's own state, as an iterator sees it
  obtain ⟨Jn, hJn⟩ : ∃ Jn : σ × Option Code → (Nat → Prop) → World → Prop, Jn = fun t S w' => ∃ i, St C.w0 C.hot (haRec (w.heap.size + 1) (recSt r t.2) :: haDef w.heap.size :: LI t.1 i) w' ∧ ∀ b, S b ↔ foots (haRec (w.heap.size + 1) (recSt r t.2) :: haDef w.heap.size :: LI t.1 i) b := ⟨_, rfl⟩
  have habs : ∀ (rr : Loop) s i S p, HA.abs S p ∈ (haRec (w.heap.size + 1) rr :: haDef w.heap.size :: LI s i) → ∀ u u' : World, p u → (∀ b, S b → u'.heap[b]? = u.heap[b]?) → p u' := by
    intro rr s i S p hm u u' hp hk
    rcases List.mem_cons.1 hm with hm | hm
    · unfold haRec at hm
      injection hm with h1 h2
      subst h1; subst h2
      exact (hk _ rfl).trans hp
    · rcases List.mem_cons.1 hm with hm | hm
      · unfold haDef at hm
        injection hm with h1 h2
        subst h1; subst h2
        exact (hk _ rfl).trans hp
      · exact hab s i S p hm u u' hp hk
  have hcons : Consumer C.P W S0 (w.heap.size + 1) enc ok Jn (stpB stp) (fun t => t.2 = none) := by
    refine ⟨?_, ?_, ?_, ?_⟩
    · rintro ⟨s, j⟩ S x W1 hok hlive hJ hn
      simp only at hlive
      subst hlive
      rw [hJn] at hJ
      obtain ⟨i, hSt, hS⟩ := hJ
      rw [hr0] at hSt hS
      have hrec : W1.heap[w.heap.size + 1]? = some (.loop r) := hSt.head.2.1
      refine ⟨_, _, _, _, run_yield (P := C.P) hrec (by rw [hr]; simp [hps x]), ?_⟩
      let R : Ending → World → Prop := fun e w' => ∃ v, e = .returned v ∧ (v = .bool (stpB stp (s, none) x).2 ∧ Near W1.heap.size S W1 w' ∧ ∃ S', Jn (stpB stp (s, none) x).1 S' w' ∧ ∀ b, S' b → S b ∨ W1.heap.size ≤ b)
      have hfx : Fits C.n [] (parFr ps (enc x) F) ⟨(ps.zip (enc x)).foldl (fun tmps (x : Tmp × Value) => tmps.setIfInBounds x.1 x.2) a.tmps, []⟩ :=
        parFr_fits ps (enc x) F C.n [] a.tmps hpn ⟨rfl, hf.size, hf.get⟩
      have hend' : ∀ (e : Exit) (jump : Option Code) (i' : ξ) (F' : Fr) (L' M : List HA), jumpOf e = some jump → (stp s x).2 = jump → Rem L' (haRec (w.heap.size + 1) { r with state := .busy }) M → LSub (haDef w.heap.size :: LI (stp s x).1 i') M →
          SQ (C.inRound (w.heap.size + 1) (roundPost C.P (w.heap.size + 1) R) W1 (foots (haRec (w.heap.size + 1) r :: haDef w.heap.size :: LI s i))) e [] F' L' := by
        intro e jump i' F' L' M hj hstp hrem hsub
        refine sq_round (R := R) rfl rfl hj hrem fun w' hSt' => ?_
        have hSt1 : St W1 (foots (haRec (w.heap.size + 1) r :: haDef w.heap.size :: LI s i)) (haRec (w.heap.size + 1) (recSt r jump) :: haDef w.heap.size :: LI (stp s x).1 i') w' := by
          refine St.sub (L := haRec (w.heap.size + 1) (recSt r jump) :: M) hSt' ?_
          exact LSub.cons Rem.here hsub
        have hout := St.unround hSt hSt1 (habs _ _ _)
        refine ⟨_, rfl, ?_, ⟨hSt1.near.os, hSt1.near.tape, hSt1.near.output, hSt1.near.size, fun k hk hnot => hSt1.near.block k hk (fun hb => hnot ((hS k).2 hb))⟩, foots (haRec (w.heap.size + 1) (recSt r jump) :: haDef w.heap.size :: LI (stp s x).1 i'), ?_, ?_⟩
        · simp only [stpB]; rw [hstp]
        · rw [hJn]
          refine ⟨i', ?_, fun b => ?_⟩
          · simp only [stpB]; rw [hstp]; exact hout
          · simp only [stpB]; rw [hstp]
        · intro b hb
          rcases (foots_old (B := 0) hSt1 hb).1 with h3 | h3
          · exact .inr h3
          · exact .inl ((hS b).2 h3)
      have hb := hbody (w.heap.size + 1) w.heap.size r W1 s i x (roundPost C.P (w.heap.size + 1) R) hok hready hSt hend'
      have hb1 := hb _ W1 hfx hSt.round
      refine (roundIn_of_wpIn (F := fc none) (n := 0) trivial ?_ : RoundIn (fc none) 0 C.P (w.heap.size + 1) _ _ _ _ W1 R)
      have e1 : ((r.params.zip (enc x).toArray).foldl (fun tmps (t, a) => tmps.setIfInBounds t a) r.tmps) = (ps.zip (enc x)).foldl (fun tmps (x : Tmp × Value) => tmps.setIfInBounds x.1 x.2) a.tmps := by
        rw [hr]
        simp only [List.zip_toArray, List.foldl_toArray]
      have e2 : r.assign = assign := by rw [hr]
      have e3 : r.body = body := by rw [hr]
      rw [e1, e2, e3]
      exact hb1
    · rintro ⟨s, j⟩ x hlive hgo
      simp only [stpB] at hgo ⊢
      cases h : (stp s x).2 with
      | none => rfl
      | some c => rw [h] at hgo; simp at hgo
    · rintro ⟨s, j⟩ S W1 b hJ hb
      rw [hJn] at hJ
      obtain ⟨i, hSt, hS⟩ := hJ
      exact (foots_old (B := 0) hSt ((hS b).1 hb)).2
    · rintro ⟨s, j⟩ S W1 W2 hJ hn hk hSb
      rw [hJn] at hJ ⊢
      obtain ⟨i, hSt, hS⟩ := hJ
      have hn' : Near C.w0.heap.size C.hot W1 W2 := ⟨hn.os, hn.tape, hn.output, hn.size, fun k hk' hnot => hn.block k (Nat.lt_of_lt_of_le hk' hSW.near.size) (fun hb => by
        rw [← hS0] at hb
        rcases (foots_old (B := 0) hSW hb).1 with h3 | h3
        · omega
        · exact hnot h3)⟩
      refine ⟨i, ⟨hSt.near.trans hn', fun y hy => (hSt.holds y hy).keep (fun b hb => hk b ((hS b).2 ⟨y, hy, hb⟩)) hn', hSt.sep⟩, hS⟩
  have hit := hiter W (w.heap.size + 1) w.heap.size r hSW _ Jn (stpB stp) (fun t => t.2 = none) (s0, none) (w.heap.size + 1)
  rw [hS0] at hit
  have hJ0 : Jn (s0, none) S0 W := by
    rw [hJn]
    refine ⟨i0, by rw [hr0]; exact hSW, fun b => by rw [hr0, hS0]⟩
  have hcall := hit hcons rfl hJ0
  have hrun := call_run (callable_of hcal) ((Value.func (.yield (w.heap.size + 1)) #[] #[]) :: lb).toArray W
  refine ⟨w.heap.size + 1, [{ target := .collected w.heap.size, args := #[] }], W, { target := .fn (.func gf) lb.toArray, args := #[.func (.yield (w.heap.size + 1)) #[] #[]] }, W, gf, ((Value.func (.yield (w.heap.size + 1)) #[] #[]) :: lb).toArray, W, ?_, ?_, fun _ _ => trivial, ?_, fun h => by simp [fc] at h, ?_⟩
  · rw [← hW, hr]; exact run_enterLoop_outer _ _ _ _ _
  · have h1 := hf.ev hg
    simp only [resolve, h1]
    simp [Deferred.ofValue, Act.eval]
  · simp only [invoke]
    have : (#[Value.func (.yield (w.heap.size + 1)) #[] #[]] ++ lb.toArray) = ((Value.func (.yield (w.heap.size + 1)) #[] #[]) :: lb).toArray := by simp
    rw [this]
    exact hrun
  · refine callsIn_fc.2 (hcall.mono fun e W' ⟨⟨v, he⟩, hn, S', hJ, hS'⟩ => ?_)
    subst he
    rw [runsB_runsJ, hJn] at hJ
    obtain ⟨i, hSt, hS⟩ := hJ
    have hrec : W'.heap[w.heap.size + 1]? = some (.loop (recSt r (runsJ stp s0 ys).2)) := hSt.head.2.1
    have hpend : (recSt r (runsJ stp s0 ys).2).pending = (runsJ stp s0 ys).2 := by cases (runsJ stp s0 ys).2 <;> rfl
    have hbz : (recSt r (runsJ stp s0 ys).2).state ≠ .busy := by cases (runsJ stp s0 ys).2 <;> simp [recSt]
    have hfm : Fits C.n (C.mark w.heap.size).ds F { a with defers := [{ target := .collected w.heap.size, args := #[] }] ++ a.defers } := ⟨by simp [Cx.mark, hf.dfr], hf.size, hf.get⟩
    have hStm := (st_putObj hSt (o' := .loop { recSt r (runsJ stp s0 ys).2 with state := .exhausted }) Upd.here).tail
    refine ⟨_, _, run_endLoop hrec hbz, ?_⟩
    rw [hpend]
    cases hj : (runsJ stp s0 ys).2 with
    | none =>
      have := hend w.heap.size i hj _ _ hfm (by rw [hj] at hStm; exact hStm)
      rw [kpost_mark] at this
      exact this
    | some c =>
      have := hjump w.heap.size i c hj _ _ hfm (by rw [hj] at hStm; exact hStm)
      rw [kpost_mark] at this
      rw [show (C.mark w.heap.size).rd = none from hrd] at this
      exact this
end
end Eng
end Go.Proofs.Ythbchbiadcjnkaa

/-
  Ranges over functions that hand over memory of their own.
-/
namespace Go.Proofs.Ythbchbiadcjnkaa
namespace Eng
open Go.RowKit
set_option linter.unusedVariables false
/-- What a loop does with what an iterator hands it: a state, the blocks in which it lies, a step, and whether it goes on. -/
structure ConsumerW {τ α : Type} (P : Program) (W : World) (S0 : Nat → Prop) (l : Nat) (encW : α → (Nat → Prop) → List Value → World → Prop) (Jn : τ → (Nat → Prop) → World → Prop) (stp : τ → α → τ × Bool) (live : τ → Prop) (att : τ → α → Prop) : Prop where
  step : ∀ s S x vs w, encW x S vs w → live s → att s x → Jn s S w → Near W.heap.size S0 W w → YieldRun P l vs w (fun v w' => v = .bool (stp s x).2 ∧ Near w.heap.size S w w' ∧ ∃ S', Jn (stp s x).1 S' w' ∧ ∀ b, S' b → S b ∨ w.heap.size ≤ b)
  goes : ∀ s x, live s → (stp s x).2 = true → live (stp s x).1
  lt : ∀ s S w b, Jn s S w → S b → b < w.heap.size
  stab : ∀ s S w w', Jn s S w → Near W.heap.size S0 w w' → (∀ b, S b → w'.heap[b]? = w.heap[b]?) → (∀ b, S b → S0 b ∨ W.heap.size ≤ b) → Jn s S w'
theorem ConsumerW.start {τ α : Type} {P : Program} {W : World} {S0 : Nat → Prop} {l : Nat} {encW : α → (Nat → Prop) → List Value → World → Prop} {Jn : τ → (Nat → Prop) → World → Prop} {stp : τ → α → τ × Bool} {live : τ → Prop} {att : τ → α → Prop}
    (h : ConsumerW P W S0 l encW Jn stp live att) {s : τ} (h0 : Jn s S0 W) : St W S0 [.abs S0 (Jn s S0)] W :=
  (St.start W S0).cons ⟨fun b hb => ⟨.inr hb, h.lt _ _ _ _ h0 hb⟩, h0, fun w' hn hk => h.stab _ _ _ _ h0 hn hk (fun b hb => .inl hb)⟩ (fun y hy => by cases hy)
section
variable {C : Cx} {F : Fr} {L : List HA} {o : Oper} {K : List KI} {ops : Array Oper} {m : Bool} {rest : List Oper}
/-- A call of yield, in the iterator. -/
theorem j_yieldW {τ α : Type} {d l : Nat} {al : List Operand} {fo : Operand} {ats : Array TypeId} {vs : List Value} {encW : α → (Nat → Prop) → List Value → World → Prop} {Jn : τ → (Nat → Prop) → World → Prop} {stp : τ → α → τ × Bool} {live : τ → Prop} {att : τ → α → Prop}
    (hcons : ConsumerW C.P C.w0 C.hot l encW Jn stp live att) (ho : o.op = .call { callee := .value fo, args := al.toArray, argTypes := ats }) (hg : o.guard = none) (hd : o.dst = some d) (hn : Nat.blt d C.n = true)
    (hfo : ev F fo = some (.func (.yield l) #[] #[])) (ha : evs F al = some vs) {x : α} {s : τ} (hlive : live s) (hat : att s x) {S : Nat → Prop} (hok : ∀ w, St C.w0 C.hot L w → encW x S vs w) (hin : InL L (.abs S (Jn s S))) {L' : (Nat → Prop) → List HA}
    (hup : ∀ S', Upd L (.abs S (Jn s S)) (.abs S' (Jn (stp s x).1 S')) (L' S')) (h : ∀ S', J C ops false rest K ((d, .bool (stp s x).2) :: F) (L' S')) : J C ops false (o :: rest) K F L := by
  intro a w hf hs
  have hA := hs.at hin
  obtain ⟨fn, tmps, assign, body, hy, hr⟩ := hcons.step s S x vs w (hok w hs) hlive hat hA.2.1 hs.near
  have h1 : al.toArray.map a.eval = vs.toArray := by rw [List.map_toArray, hf.evs ha]
  have hrun : (execOp a.eval o).run C.P w = .ok (.round l fn tmps assign body) w := by
    simp only [execOp, ho, resolve, hf.ev hfo, h1, Deferred.ofValue, Sem.run_bind, Sem.run_pure, Result.andThen_ok, invoke, Array.empty_append, hy]
  refine wpListIn_run (by simp [Region.wanted, hg]) ⟨fun _ _ => trivial, ?_⟩
  rw [show (fc C.rd).round = C.rd from rfl, semAt_of_value hrun (fun d e => by cases e), Oper.uponIn_round]
  refine ⟨fun h => by simp [fc] at h, ?_⟩
  have hr' : RoundIn (fc C.rd) 0 C.P l fn tmps assign body w (fun e w' => ∃ v, e = .returned v ∧ (v = .bool (stp s x).2 ∧ Near w.heap.size S w w' ∧ ∃ S', Jn (stp s x).1 S' w' ∧ ∀ b, S' b → S b ∨ w.heap.size ≤ b)) := hr
  refine hr'.mono fun e w' ⟨v, he, hv, hn', S', hJ, hS'⟩ => ?_
  subst he
  subst hv
  rw [hd]
  have hS'0 : ∀ b, S' b → C.hot b ∨ C.w0.heap.size ≤ b := fun b hb => by
    rcases hS' b hb with h2 | h2
    · rcases (hA.1 b h2).1 with h3 | h3
      · exact .inr h3
      · exact .inl h3
    · exact .inr (Nat.le_trans hs.near.size h2)
  refine h S' _ _ (hf.put _ hn) (hs.upd (hup S') ⟨hn'.os, hn'.tape, hn'.output, hn'.size, fun k hk => by omega⟩ (fun b hb hne => hn'.block b hb hne) ⟨fun b hb => ⟨(hS'0 b hb).symm, hcons.lt _ _ _ _ hJ hb⟩, hJ, fun w'' hnn hk => hcons.stab _ _ _ _ hJ hnn hk hS'0⟩ hS')
end
/-- The states along a list. -/
def trc {τ α : Type} (stp : τ → α → τ × Bool) (s : τ) (l : List α) : τ := l.foldl (fun s y => (stp s y).1) s
def Att {τ α : Type} (stp : τ → α → τ × Bool) (s0 : τ) (ys : List α) (s : τ) (x : α) : Prop := ∃ i, ys[i]? = some x ∧ s = trc stp s0 (ys.take i)
theorem trc_succ {τ α : Type} {stp : τ → α → τ × Bool} {s0 : τ} {ys : List α} {i : Nat} {x : α} (h : ys[i]? = some x) : trc stp s0 (ys.take (i + 1)) = (stp (trc stp s0 (ys.take i)) x).1 := by
  unfold trc
  rw [List.take_add_one, h]
  simp
theorem trc_stpB {σ α : Type} (stp : σ → α → σ × Option Code) : ∀ (l : List α) (t : σ × Option Code), (trc (stpB stp) t l).1 = l.foldl (fun s y => (stp s y).1) t.1
  | [], t => rfl
  | y :: l, t => by
    have := trc_stpB stp l (stp t.1 y)
    simp only [trc, List.foldl_cons, stpB] at this ⊢
    exact this
/-- An iterator's promise: it hands over just these, one after the other, and writes nothing but what its caller's loop writes. -/
def IteratesW (P : Program) (gf : Nat) (lb : List Value) {α : Type} (encW : α → (Nat → Prop) → List Value → World → Prop) (ys : List α) (W : World) (S0 : Nat → Prop) : Prop :=
  ∀ (τ : Type) (Jn : τ → (Nat → Prop) → World → Prop) (stp : τ → α → τ × Bool) (live : τ → Prop) (s0 : τ) (l : Nat), ConsumerW P W S0 l encW Jn stp live (Att stp s0 ys) → live s0 → Jn s0 S0 W →
    Calls P gf ((Value.func (.yield l) #[] #[]) :: lb).toArray W (fun e W' => (∃ v, e = .returned v) ∧ Near W.heap.size S0 W W' ∧ ∃ S', Jn (runsB stp s0 ys) S' W' ∧ ∀ b, S' b → S0 b ∨ W.heap.size ≤ b)
section
variable {C : Cx} {F : Fr} {L : List HA} {K : List KI}
/-- 'for x := range g { body }'. -/
theorem sc_rangeW {σ ξ α : Type} {g : Operand} {ps : List Tmp} {assign body : Code} {gf : Nat} {lb : List Value} (encW : α → (Nat → Prop) → List Value → World → Prop) (ys : List α) (stp : σ → α → σ × Option Code) (LI : σ → ξ → List HA) (s0 : σ) (i0 : ξ)
    (hrd : C.rd = none) (hg : ev F g = some (.func (.func gf) #[] lb.toArray)) (hcal : has C.fns gf = true) (hps : ∀ x S vs w, encW x S vs w → vs.length = ps.length) (hpn : ∀ p ∈ ps, p < C.n) (hL : LSub (LI s0 i0) L)
    (hab : ∀ s i S p, HA.abs S p ∈ LI s i → ∀ u u', p u → (∀ b, S b → u'.heap[b]? = u.heap[b]?) → p u')
    (hiter : ∀ w l D r, St C.w0 C.hot (haRec l r :: haDef D :: LI s0 i0) w → IteratesW C.P gf lb encW ys w (foots (haRec l r :: haDef D :: LI s0 i0)))
    (hbody : ∀ (l D : Nat) (r : Loop) (W1 : World) (s : σ) (i : ξ) (x : α) (vs : List Value) (Q : Exit → Act → World → Prop), encW x (foots (haRec l r :: haDef D :: LI s i)) vs W1 → (∃ j, ys[j]? = some x ∧ s = (ys.take j).foldl (fun s y => (stp s y).1) s0) → r.state = .ready → St C.w0 C.hot (haRec l r :: haDef D :: LI s i) W1 →
      (∀ (e : Exit) (jump : Option Code) (i' : ξ) (F' : Fr) (L' M : List HA), jumpOf e = some jump → (stp s x).2 = jump → Rem L' (haRec l { r with state := .busy }) M → LSub (haDef D :: LI (stp s x).1 i') M → SQ (C.inRound l Q W1 (foots (haRec l r :: haDef D :: LI s i))) e [] F' L') →
      SC (C.inRound l Q W1 (foots (haRec l r :: haDef D :: LI s i))) assign [.fin (roundStart (C.inRound l Q W1 (foots (haRec l r :: haDef D :: LI s i))) l body)] (parFr ps vs F) (haRec l r :: haDef D :: LI s i))
    (hend : ∀ D i, (runsJ stp s0 ys).2 = none → SQ (C.mark D) .normal K F (haDef D :: LI (runsJ stp s0 ys).1 i))
    (hjump : ∀ D i c, (runsJ stp s0 ys).2 = some c → SC (C.mark D) c K F (haDef D :: LI (runsJ stp s0 ys).1 i)) : SC C (.rangeFunc g ps.toArray assign body) K F L := by
  intro a w hf hs
  rw [hrd]
  have hs0 := hs.sub hL
  refine wpIn_rangeFunc fun fn _ => ?_
  obtain ⟨r, hr⟩ : ∃ r : Loop, r = { state := .ready, pending := none, fn, tmps := a.tmps, params := ps.toArray, assign, body, defers := w.heap.size } := ⟨_, rfl⟩
  obtain ⟨W, hW⟩ : ∃ W, (w.alloc (.deferred (some []))).alloc (.loop r) = W := ⟨_, rfl⟩
  have hSW : St C.w0 C.hot (haRec (w.heap.size + 1) r :: haDef w.heap.size :: LI s0 i0) W := by
    have h1 : St C.w0 C.hot (haDef w.heap.size :: LI s0 i0) (w.alloc (.deferred (some []))) :=
      hs0.alloc _ (fun b hb => hb) (haObj_holds (.inl hs0.near.size) (World.alloc_heap_new w _))
    have h2 := World.alloc_heap_new (w.alloc (.deferred (some []))) (.loop r)
    rw [World.size_alloc] at h2
    rw [← hW]
    refine h1.alloc _ (fun b hb => by rw [World.size_alloc]; exact hb) (haObj_holds (.inl (by have := hs0.near.size; omega)) h2)
  obtain ⟨S0, hS0⟩ : ∃ S0, foots (haRec (w.heap.size + 1) r :: haDef w.heap.size :: LI s0 i0) = S0 := ⟨_, rfl⟩
  have hready : r.state = .ready := by rw [hr]
  have hr0 : recSt r none = r := by rw [hr]; rfl
  -- the loop's own state, as an iterator sees it
  obtain ⟨Jn, hJn⟩ : ∃ Jn : σ × Option Code → (Nat → Prop) → World → Prop, Jn = fun t S w' => ∃ i, St C.w0 C.hot (haRec (w.heap.size + 1) (recSt r t.2) :: haDef w.heap.size :: LI t.1 i) w' ∧ ∀ b, S b ↔ foots (haRec (w.heap.size + 1) (recSt r t.2) :: haDef w.heap.size :: LI t.1 i) b := ⟨_, rfl⟩
  have habs : ∀ (rr : Loop) s i S p, HA.abs S p ∈ (haRec (w.heap.size + 1) rr :: haDef w.heap.size :: LI s i) → ∀ u u' : World, p u → (∀ b, S b → u'.heap[b]? = u.heap[b]?) → p u' := by
    intro rr s i S p hm u u' hp hk
    rcases List.mem_cons.1 hm with hm | hm
    · unfold haRec at hm
      injection hm with h1 h2
      subst h1; subst h2
      exact (hk _ rfl).trans hp
    · rcases List.mem_cons.1 hm with hm | hm
      · unfold haDef at hm
        injection hm with h1 h2
        subst h1; subst h2
        exact (hk _ rfl).trans hp
      · exact hab s i S p hm u u' hp hk
  have hcons : ConsumerW C.P W S0 (w.heap.size + 1) encW Jn (stpB stp) (fun t => t.2 = none) (Att (stpB stp) (s0, none) ys) := by
    refine ⟨?_, ?_, ?_, ?_⟩
    · rintro ⟨s, j⟩ S x vs W1 hok hlive ⟨ix, hix, hsx⟩ hJ hn
      have hsx' := congrArg Prod.fst hsx
      rw [trc_stpB] at hsx'
      simp only at hlive
      subst hlive
      rw [hJn] at hJ
      obtain ⟨i, hSt, hS⟩ := hJ
      rw [hr0] at hSt hS
      have hrec : W1.heap[w.heap.size + 1]? = some (.loop r) := hSt.head.2.1
      refine ⟨_, _, _, _, run_yield (P := C.P) hrec (by rw [hr]; simp [hps x _ _ _ hok]), ?_⟩
      let R : Ending → World → Prop := fun e w' => ∃ v, e = .returned v ∧ (v = .bool (stpB stp (s, none) x).2 ∧ Near W1.heap.size S W1 w' ∧ ∃ S', Jn (stpB stp (s, none) x).1 S' w' ∧ ∀ b, S' b → S b ∨ W1.heap.size ≤ b)
      have hfx : Fits C.n [] (parFr ps vs F) ⟨(ps.zip vs).foldl (fun tmps (x : Tmp × Value) => tmps.setIfInBounds x.1 x.2) a.tmps, []⟩ :=
        parFr_fits ps vs F C.n [] a.tmps hpn ⟨rfl, hf.size, hf.get⟩
      have hend' : ∀ (e : Exit) (jump : Option Code) (i' : ξ) (F' : Fr) (L' M : List HA), jumpOf e = some jump → (stp s x).2 = jump → Rem L' (haRec (w.heap.size + 1) { r with state := .busy }) M → LSub (haDef w.heap.size :: LI (stp s x).1 i') M →
          SQ (C.inRound (w.heap.size + 1) (roundPost C.P (w.heap.size + 1) R) W1 (foots (haRec (w.heap.size + 1) r :: haDef w.heap.size :: LI s i))) e [] F' L' := by
        intro e jump i' F' L' M hj hstp hrem hsub
        refine sq_round (R := R) rfl rfl hj hrem fun w' hSt' => ?_
        have hSt1 : St W1 (foots (haRec (w.heap.size + 1) r :: haDef w.heap.size :: LI s i)) (haRec (w.heap.size + 1) (recSt r jump) :: haDef w.heap.size :: LI (stp s x).1 i') w' := by
          refine St.sub (L := haRec (w.heap.size + 1) (recSt r jump) :: M) hSt' ?_
          exact LSub.cons Rem.here hsub
        have hout := St.unround hSt hSt1 (habs _ _ _)
        refine ⟨_, rfl, ?_, ⟨hSt1.near.os, hSt1.near.tape, hSt1.near.output, hSt1.near.size, fun k hk hnot => hSt1.near.block k hk (fun hb => hnot ((hS k).2 hb))⟩, foots (haRec (w.heap.size + 1) (recSt r jump) :: haDef w.heap.size :: LI (stp s x).1 i'), ?_, ?_⟩
        · simp only [stpB]; rw [hstp]
        · rw [hJn]
          refine ⟨i', ?_, fun b => ?_⟩
          · simp only [stpB]; rw [hstp]; exact hout
          · simp only [stpB]; rw [hstp]
        · intro b hb
          rcases (foots_old (B := 0) hSt1 hb).1 with h3 | h3
          · exact .inr h3
          · exact .inl ((hS b).2 h3)
      have hb := hbody (w.heap.size + 1) w.heap.size r W1 s i x vs (roundPost C.P (w.heap.size + 1) R) (by rw [show foots (haRec (w.heap.size + 1) r :: haDef w.heap.size :: LI s i) = S from funext fun b => propext (hS b).symm]; exact hok) ⟨ix, hix, hsx'⟩ hready hSt hend'
      have hb1 := hb _ W1 hfx hSt.round
      refine (roundIn_of_wpIn (F := fc none) (n := 0) trivial ?_ : RoundIn (fc none) 0 C.P (w.heap.size + 1) _ _ _ _ W1 R)
      have e1 : ((r.params.zip vs.toArray).foldl (fun tmps (t, a) => tmps.setIfInBounds t a) r.tmps) = (ps.zip vs).foldl (fun tmps (x : Tmp × Value) => tmps.setIfInBounds x.1 x.2) a.tmps := by
        rw [hr]
        simp only [List.zip_toArray, List.foldl_toArray]
      have e2 : r.assign = assign := by rw [hr]
      have e3 : r.body = body := by rw [hr]
      rw [e1, e2, e3]
      exact hb1
    · rintro ⟨s, j⟩ x hlive hgo
      simp only [stpB] at hgo ⊢
      cases h : (stp s x).2 with
      | none => rfl
      | some c => rw [h] at hgo; simp at hgo
    · rintro ⟨s, j⟩ S W1 b hJ hb
      rw [hJn] at hJ
      obtain ⟨i, hSt, hS⟩ := hJ
      exact (foots_old (B := 0) hSt ((hS b).1 hb)).2
    · rintro ⟨s, j⟩ S W1 W2 hJ hn hk hSb
      rw [hJn] at hJ ⊢
      obtain ⟨i, hSt, hS⟩ := hJ
      have hn' : Near C.w0.heap.size C.hot W1 W2 := ⟨hn.os, hn.tape, hn.output, hn.size, fun k hk' hnot => hn.block k (Nat.lt_of_lt_of_le hk' hSW.near.size) (fun hb => by
        rw [← hS0] at hb
        rcases (foots_old (B := 0) hSW hb).1 with h3 | h3
        · omega
        · exact hnot h3)⟩
      refine ⟨i, ⟨hSt.near.trans hn', fun y hy => (hSt.holds y hy).keep (fun b hb => hk b ((hS b).2 ⟨y, hy, hb⟩)) hn', hSt.sep⟩, hS⟩
  have hit := hiter W (w.heap.size + 1) w.heap.size r hSW _ Jn (stpB stp) (fun t => t.2 = none) (s0, none) (w.heap.size + 1)
  rw [hS0] at hit
  have hJ0 : Jn (s0, none) S0 W := by
    rw [hJn]
    refine ⟨i0, by rw [hr0]; exact hSW, fun b => by rw [hr0, hS0]⟩
  have hcall := hit hcons rfl hJ0
  have hrun := call_run (callable_of hcal) ((Value.func (.yield (w.heap.size + 1)) #[] #[]) :: lb).toArray W
  refine ⟨w.heap.size + 1, [{ target := .collected w.heap.size, args := #[] }], W, { target := .fn (.func gf) lb.toArray, args := #[.func (.yield (w.heap.size + 1)) #[] #[]] }, W, gf, ((Value.func (.yield (w.heap.size + 1)) #[] #[]) :: lb).toArray, W, ?_, ?_, fun _ _ => trivial, ?_, fun h => by simp [fc] at h, ?_⟩
  · rw [← hW, hr]; exact run_enterLoop_outer _ _ _ _ _
  · have h1 := hf.ev hg
    simp only [resolve, h1]
    simp [Deferred.ofValue, Act.eval]
  · simp only [invoke]
    have : (#[Value.func (.yield (w.heap.size + 1)) #[] #[]] ++ lb.toArray) = ((Value.func (.yield (w.heap.size + 1)) #[] #[]) :: lb).toArray := by simp
    rw [this]
    exact hrun
  · refine callsIn_fc.2 (hcall.mono fun e W' ⟨⟨v, he⟩, hn, S', hJ, hS'⟩ => ?_)
    subst he
    rw [runsB_runsJ, hJn] at hJ
    obtain ⟨i, hSt, hS⟩ := hJ
    have hrec : W'.heap[w.heap.size + 1]? = some (.loop (recSt r (runsJ stp s0 ys).2)) := hSt.head.2.1
    have hpend : (recSt r (runsJ stp s0 ys).2).pending = (runsJ stp s0 ys).2 := by cases (runsJ stp s0 ys).2 <;> rfl
    have hbz : (recSt r (runsJ stp s0 ys).2).state ≠ .busy := by cases (runsJ stp s0 ys).2 <;> simp [recSt]
    have hfm : Fits C.n (C.mark w.heap.size).ds F { a with defers := [{ target := .collected w.heap.size, args := #[] }] ++ a.defers } := ⟨by simp [Cx.mark, hf.dfr], hf.size, hf.get⟩
    have hStm := (st_putObj hSt (o' := .loop { recSt r (runsJ stp s0 ys).2 with state := .exhausted }) Upd.here).tail
    refine ⟨_, _, run_endLoop hrec hbz, ?_⟩
    rw [hpend]
    cases hj : (runsJ stp s0 ys).2 with
    | none =>
      have := hend w.heap.size i hj _ _ hfm (by rw [hj] at hStm; exact hStm)
      rw [kpost_mark] at this
      exact this
    | some c =>
      have := hjump w.heap.size i c hj _ _ hfm (by rw [hj] at hStm; exact hStm)
      rw [kpost_mark] at this
      rw [show (C.mark w.heap.size).rd = none from hrd] at this
      exact this
end
theorem pw_apart {L : List HA} (h : L.Pairwise HA.apart) {x y : HA} (hx : x ∈ L) (hy : y ∈ L) (hne : x ≠ y) : x.apart y := by
  induction L with
  | nil => cases hx
  | cons z L ih =>
    rw [List.pairwise_cons] at h
    rcases List.mem_cons.1 hx with h1 | h1
    · subst h1
      rcases List.mem_cons.1 hy with h2 | h2
      · exact absurd h2.symm hne
      · exact h.1 _ h2
    · rcases List.mem_cons.1 hy with h2 | h2
      · subst h2
        exact (h.1 _ h1).symm
      · exact ih h.2 h1 h2
end Eng
end Go.Proofs.Ythbchbiadcjnkaa

/-
  A byte of the table of lengths; remainders of numbers without a sign.
-/
namespace Go.Proofs.Ythbchbiadcjnkaa
namespace Eng
open Go.RowKit
set_option linter.unusedVariables false
set_option linter.unusedSimpArgs false
section
variable {C : Cx} {F : Fr} {L : List HA} {o : Oper} {K : List KI} {ops : Array Oper} {m : Bool} {rest : List Oper} {x y : Operand} {t u : TypeId} {k k' : IntKind} {a b : Int}
theorem tab_str {P : Program} {t : TypeId} {ti : TI} (h : TIok P t ti) (hk : ti.kind = .str) : P.underlying t = some .string := by
  have := h.kind
  rw [hk] at this
  simp only [TK.check] at this
  split at this
  · assumption
  · cases this
theorem q_index_len8 {ti : TI} (ho : o.op = .index t x y) (ht : tget C.tab t = some ti) (hk : ti.kind = .str) (hx : ev F x = some (.string Lib.len8tab)) (hy : ev F y = some (.int k a)) (hr : 0 ≤ a ∧ a ≤ 255) : Qv C o F L (.int .u8 (Lib.bitLen a.toNat : Nat)) :=
  .of_run fun ac w hf hs => by
    have h1 := Lib.run_index_len8tab (P := C.P) w t k a (tab_str (C.ok.get ht) hk) hr.1 hr.2
    rw [Lib.len8_of a hr.1 hr.2] at h1
    simp [execOp, ho, hf.ev hx, hf.ev hy, h1]
theorem q_remk (ho : o.op = .binOp .rem t x y u) (hx : ev F x = some (.int k a)) (hy : ev F y = some (.int k b)) (hr : 0 ≤ a ∧ 0 < b) (hw : k.wrap (a % b) = a % b) : Qv C o F L (.int k (a % b)) :=
  q_bin ho hx hy fun w => by
    have h0 : b ≠ 0 := by omega
    simp [binOp, Op.intDiv, h0, Int.tmod_eq_emod_of_nonneg hr.1, hw]
theorem q_minr {r : Int} (ho : o.op = .call { callee := .builtin .min, args := #[x, y], argTypes := #[t, u] }) (hx : ev F x = some (.int k a)) (hy : ev F y = some (.int k b)) (hr : (if b < a then b else a) = r) : Qv C o F L (.int k r) :=
  .of_run fun ac w hf hs => by
    subst hr
    simp [execOp, ho, resolve, invoke, builtin, Builtin.min_, Builtin.min2, hf.ev hx, hf.ev hy]
theorem q_maxr {r : Int} (ho : o.op = .call { callee := .builtin .max, args := #[x, y], argTypes := #[t, u] }) (hx : ev F x = some (.int k a)) (hy : ev F y = some (.int k b)) (hr : (if a < b then b else a) = r) : Qv C o F L (.int k r) :=
  .of_run fun ac w hf hs => by
    subst hr
    simp [execOp, ho, resolve, invoke, builtin, Builtin.max_, Builtin.max2, hf.ev hx, hf.ev hy]
theorem q_eqlnil {A : Option Addr} {n c n' c' e sz by_ : Nat} {ti : TI} (ho : o.op = .binOp .eql t x y u) (ht : tget C.tab t = some ti) (hk : ti.kind = .slice e sz by_) (hx : ev F x = some (.slice A n c)) (hy : ev F y = some (.slice none n' c')) : Qv C o F L (.bool A.isNone) :=
  .of_run fun ac w hf hs => by
    obtain ⟨hu, _⟩ := tk_slice (C.ok.get ht) hk
    have h1 : (binOp .eql t (.slice A n c) (.slice none n' c')).run C.P w = .ok (.bool A.isNone) w := by
      simp only [binOp]
      simp [Op.equal, Op.maxDepth, Lib.run_equalIn_slice_nil w 9999 t e A n c n' c' hu]
    simp only [execOp, ho, hf.ev hx, hf.ev hy]
    simp only [eqGuard]
    simp [h1]
theorem q_eqlsome {A : Addr} {n c n' c' e sz by_ : Nat} {ti : TI} (ho : o.op = .binOp .eql t x y u) (ht : tget C.tab t = some ti) (hk : ti.kind = .slice e sz by_) (hx : ev F x = some (.slice (some A) n c)) (hy : ev F y = some (.slice none n' c')) : Qv C o F L (.bool false) :=
  q_eqlnil ho ht hk hx hy
end
end Eng
end Go.Proofs.Ythbchbiadcjnkaa

/-
  Ways that meet again: what follows is shown once.
-/
namespace Go.Proofs.Ythbchbiadcjnkaa
namespace Eng
open Go.RowKit
set_option linter.unusedVariables false
section
variable {C : Cx} {F : Fr} {L Lp : List HA} {K : List KI} {ops : Array Oper} {fuel : Nat} {listed : Array Bool}
theorem ja_cut {ι : Type} (I : ι → Prop) (F' : ι → Fr) (L' : ι → List HA) (main : (∀ i, I i → SQ C .normal K (F' i) (L' i)) → JA C ops (kpost C K .normal) Lp fuel listed F L) (tail : ∀ i, I i → SQ C .normal K (F' i) (L' i)) : JA C ops (kpost C K .normal) Lp fuel listed F L := main tail
theorem sc_cut {ι : Type} (I : ι → Prop) (F' : ι → Fr) (L' : ι → List HA) {c : Code} {id : Nat} (main : (∀ i, I i → SQ C .normal K (F' i) (L' i)) → SC C c (.blk id :: K) F L) (tail : ∀ i, I i → SQ C .normal K (F' i) (L' i)) : SC C c (.blk id :: K) F L := main tail
theorem sc_cutq {ι : Type} (I : ι → Prop) (F' : ι → Fr) (L' : ι → List HA) {c d : Code} (main : (∀ i, I i → SC C d K (F' i) (L' i)) → SC C c (.seq d :: K) F L) (tail : ∀ i, I i → SC C d K (F' i) (L' i)) : SC C c (.seq d :: K) F L := main tail
end
end Eng
end Go.Proofs.Ythbchbiadcjnkaa

/-
  A new beginning in the middle of a function: what the call has made so far is taken as given memory, which is only read from here on.
-/
namespace Go.Proofs.Ythbchbiadcjnkaa
namespace Eng
open Go.RowKit
set_option linter.unusedVariables false
def Cx.now (C : Cx) (w1 : World) : Cx := ⟨C.P, C.tab, C.ok, C.fns, C.fok, C.fn, C.R, C.rs, C.hrs, C.Qr, w1, C.n, Cold, C.rd, C.ds⟩
theorem kpost_now (C : Cx) (w1 : World) : ∀ K, kpost (C.now w1) K = kpost C K
  | [] => rfl
  | .seq c :: K => by simp only [kpost, kpost_now C w1 K]; rfl
  | .blk id :: K => by simp only [kpost, kpost_now C w1 K]
  | .loop J :: K => by simp only [kpost, kpost_now C w1 K]
  | .fin J :: K => rfl
section
variable {C : Cx} {F : Fr} {L : List HA} {K : List KI}
theorem sc_now {c : Code} (h : ∀ w1, St C.w0 C.hot L w1 → SC ⟨C.P, C.tab, C.ok, C.fns, C.fok, C.fn, C.R, C.rs, C.hrs, C.Qr, w1, C.n, Cold, C.rd, C.ds⟩ c K F []) : SC C c K F L := fun a w hf hs => by
  have := h w hs a w hf (St.start w Cold)
  have e : kpost (C.now w) K = kpost C K := kpost_now C w K
  unfold Cx.now at e
  rwa [e] at this
theorem sc_fr {c : Code} {F' : Fr} (hs : FSub F' F) (h : SC C c K F' L) : SC C c K F L := fun a w hf hS => h a w (hf.sub hs) hS
/-- A loop, from a world in which all that was made is only read. -/
theorem sc_own_nil_at {c : Code} (e sz : Nat) (h : SC C c K F (.own (.slice none 0 0) e sz 0 [] :: L)) : SC C c K F L := fun a w hf hs => h a w hf hs.own_nil
end
section
variable {C : Cx} {F : Fr} {L : List HA} {o : Oper}
theorem q_load_extb {t : Nat} {x : Operand} {ti : TI} {b p : Nat} {cs : List Value} {v : Value} (ho : o.op = .load t x) (hx : ev F x = some (.pointer (some ⟨b, p, none⟩))) (ht : tget C.tab t = some ti) (hk : ti.kind.agg = false)
    (hE : ExtC C ⟨b, 0, none⟩ cs) (hv : nth cs p = some v) : Qv C o F L v :=
  .of_run fun a w hf hs => by
    have h1 := hE.now hs p v hv
    rw [add_own, Nat.zero_add] at h1
    have := run_loadOne (C.ok.get ht) hk h1
    simp [execOp, ho, hf.ev hx, Instr.loadAt, Instr.sureAddr, this]
theorem q_loadA_extb {t : Nat} {x : Operand} {ti : TI} {b p : Nat} {cs : List Value} (ho : o.op = .load t x) (hx : ev F x = some (.pointer (some ⟨b, p, none⟩))) (ht : tget C.tab t = some ti) (hk : ti.kind.agg = true)
    (hE : ExtC C ⟨b, 0, none⟩ cs) (hl : ti.size = len (sub cs p ti.size)) : Qv C o F L (.agg (sub cs p ti.size).toArray) :=
  .of_run fun a w hf hs => by
    have := run_loadAgg (C.ok.get ht) hk (ad := ⟨b, p, none⟩) (w := w) hl (fun j v hv => by
      have h1 := hE.now hs (p + j) v (nth_sub _ _ _ _ _ hv)
      rw [add_own, Nat.zero_add] at h1
      rw [add_own]
      exact h1)
    simp [execOp, ho, hf.ev hx, Instr.loadAt, Instr.sureAddr, this]
end
theorem below_then {w0 w1 w2 : World} {L : List HA} (h : Below w0.heap.size w0 w1) (hS : St w1 Cold L w2) : Below w0.heap.size w0 w2 := h.trans (hS.below.mono h.size)
end Eng
end Go.Proofs.Ythbchbiadcjnkaa

/-
  A literal's cells read as a list.
-/
namespace Go.Proofs.Ythbchbiadcjnkaa
namespace Eng
open Go.RowKit
set_option linter.unusedVariables false
theorem rs_lit {α : Type} {f : α → List Value} {sz b u : Nat} {cs : List Value} {w0 w : World} {hot : Nat → Prop} {L : List HA} (l : List α) (hf : ∀ x, (f x).length = sz) (hs : St w0 hot L w) (hin : InL L (.cells b u cs)) (hx : cs = l.flatMap f) : RS w sz f (some ⟨b, 0, none⟩) l := by
  subst hx
  intro i x hx
  refine ⟨_, rfl, by rw [block_add]; exact (Array.getElem?_eq_some_iff.1 (hs.at hin).2).1, fun j v hv => ?_⟩
  rw [nth_eq] at hv
  rw [Eng.add_add, add_own, cells_cell (hs.at hin), nth_eq, Nat.zero_add]
  exact flat_at f sz hf l i x j v hx hv
end Eng
end Go.Proofs.Ythbchbiadcjnkaa

/-
  A walk stops at a region: to leave what is no longer needed.
-/
namespace Go.Proofs.Ythbchbiadcjnkaa
namespace Eng
open Go.RowKit
set_option linter.unusedVariables false
structure SCstop (C : Cx) (c : Code) (K : List KI) (F : Fr) (L : List HA) : Prop where
  h : SC C c K F L
section
variable {C : Cx} {F : Fr} {L : List HA} {K : List KI}
theorem sc_stop (k : Nat) {ops : Array Oper} {d : Bool} (h : SCstop C (.region k ops d) K F L) : SC C (.region k ops d) K F L := h.h
theorem stop_at {c : Code} (F' : Fr) (L' : List HA) (h : SC C c K F' L') (hF : FSub F' F) (hL : LSub L' L) : SCstop C c K F L := ⟨sc_sub h hF hL⟩
end
end Eng
end Go.Proofs.Ythbchbiadcjnkaa

/-
  What is own behind a region: a slice.
-/
namespace Go.Proofs.Ythbchbiadcjnkaa
namespace Eng
open Go.RowKit
theorem sq_owns {C : Cx} {K : List KI} {F : Fr} {L : List HA} {ex : Exit} {v : Value} {e sz n : Nat} {xs : List Value} (hin : InL L (.own v e sz n xs)) (h : ∀ A c, v = .slice A n c → Sl A n c → SQ C ex K F L) : SQ C ex K F L := fun a w hf hs => by
  have hA := hs.at hin
  rcases hA.2.2 with ⟨hv, h0⟩ | ⟨g, cap, cur, hv, _, _, hnc, hcm, _⟩
  · subst h0
    exact h _ _ hv ⟨fun _ => ⟨rfl, rfl⟩, Nat.le_refl _, by omega⟩ a w hf hs
  · exact h _ _ hv ⟨(fun h => by cases h), hnc, by unfold maxLen at hcm; omega⟩ a w hf hs
end Eng
end Go.Proofs.Ythbchbiadcjnkaa

/-
  Method values.
-/
namespace Go.Proofs.Ythbchbiadcjnkaa
namespace Eng
open Go.RowKit
set_option linter.unusedVariables false
section
variable {C : Cx} {F : Fr} {L : List HA} {o : Oper} {K : List KI} {ops : Array Oper} {m : Bool} {rest : List Oper}
theorem q_makeFuncB {fn : Fn} {pre caps : List Operand} {ps vs : List Value} (ho : o.op = .makeFunc fn pre.toArray caps.toArray) (hp : evs F pre = some ps) (hx : evs F caps = some vs) : Qv C o F L (.func fn ps.toArray vs.toArray) :=
  .of_run fun a w hf hs => by
    have h1 : (caps.toArray.map a.eval) = vs.toArray := by rw [List.map_toArray, hf.evs hx]
    have h2 : (pre.toArray.map a.eval) = ps.toArray := by rw [List.map_toArray, hf.evs hp]
    simp only [execOp, ho, Instr.makeFunc, h1, h2]
    simp
end
end Eng
end Go.Proofs.Ythbchbiadcjnkaa

/-
  Functions with labels whose jumps are left out or leave rounds.
-/
namespace Go.Proofs.Ythbchbiadcjnkaa
namespace Eng
open Go.RowKit
section
variable {C : Cx} {F : Fr} {L : List HA} {K : List KI}
theorem sc_label {l : Nat} (h : SQ C .normal K F L) : SC C (.label l) K F L := fun a w hf hs => wpIn_label (h a w hf hs)
theorem kpost_goto (hrd : C.rd = none) {l : Nat} {a : Act} {w : World} : ∀ K, kpost C K (.goto l) a w → False
  | [], h => by
    simp only [kpost, Cx.Qf, hrd] at h
    exact h
  | .seq c :: K, h => kpost_goto hrd K h
  | .blk id :: K, h => kpost_goto hrd K h
  | .loop J :: K, h => kpost_goto hrd K h
  | .fin J :: K, h => h
theorem sc_scope {c : Code} (hrd : C.rd = none) (h : SC C c K F L) : SC C (.scope c) K F L := fun a w hf hs => by
  have h1 := h a w hf hs
  rw [hrd, fc_none] at h1 ⊢
  rw [wpIn_wide] at h1 ⊢
  refine wp_scope_straight (wp_mono h1 fun e a w hq => ?_)
  cases e with
  | goto l => exact kpost_goto hrd K hq
  | _ => exact hq
end
end Eng
end Go.Proofs.Ythbchbiadcjnkaa
