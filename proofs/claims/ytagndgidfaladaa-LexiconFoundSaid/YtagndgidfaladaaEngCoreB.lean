/-
  The engine: rules of symbolic execution over the model's code, in one text (or two).
-/
import Derived.Test.YtagndgidfaladaaEngCoreA
import Derived.OrdersIn
import Derived.Sort.AssemblyPlain
import Derived.Laws.Cover1
/-
  Regions that draw their order and write memory: quiet operations are taken first, the others in each order that is left.
-/
namespace Go.Proofs.Ytagndgidfaladaa
namespace Eng
open Go.RowKit
set_option linter.unusedVariables false
def normOnly (Φ : Act → World → Prop) : Exit → Act → World → Prop := Exit.then Φ (fun _ _ _ => False)
theorem semAt_put (ro : Option Nat) {ops : Array Oper} (o : Oper) (hs : ∀ cs b, o.op ≠ .select cs b) (a : Act) (dst : Option Tmp) (v : Value) (h : ∀ d, dst = some d → d ∉ o.looksAt ops) :
    o.semAt ro (a.put dst v).eval = o.semAt ro a.eval := by
  have he := execOp_put o hs a dst v h
  have hx : ∀ x ∈ o.op.operands, (a.put dst v).eval x = a.eval x := fun x hx => Act.eval_put fun d hd hxd => h d hd (by
    subst hxd
    exact List.mem_append_left _ (List.mem_filterMap.2 ⟨.tmp d, by simpa using hx, rfl⟩))
  unfold Oper.semAt
  cases ro with
  | none => exact he
  | some l =>
    cases ho : o.op with
    | defer c =>
      rw [ho] at hx
      simp only [resolve_congr c o.type (fun x hx' => hx x (by simpa [Op.operands] using hx'))]
    | _ => exact he
section
variable {P : Program} {rd : Option Nat} {ops : Array Oper} {Φ : Act → World → Prop} {S : Array Bool → World → Prop}
/-- The worlds in which operation i may still come. -/
def Ahead (S : Array Bool → World → Prop) (i : Nat) (w : World) : Prop := ∃ l, l.getD i true = false ∧ S l w
structure Yl (P : Program) (ops : Array Oper) (S : Array Bool → World → Prop) (i : Nat) (o : Oper) (v : Value) (a : Act) : Prop where
  wanted : Region.wanted o (yielded ops a.tmps) = true
  quiet : ∀ w, Ahead S i w → (execOp a.eval o).run P w = .ok (.value v) w
/-- Each order; S is shown behind each operation. -/
def anyS (P : Program) (rd : Option Nat) (ops : Array Oper) (Φ : Act → World → Prop) (S : Array Bool → World → Prop) : Nat → Array Bool → Act → World → Prop
  | 0, listed, a, w => Region.ready .any ops listed = [] ∧ Φ a w
  | fuel + 1, listed, a, w => (Region.ready .any ops listed = [] → Φ a w) ∧
      ∀ i ∈ Region.ready .any ops listed, wpOpIn (fc rd) 0 P ops (normOnly Φ) i (fun a' w' => S (listed.setIfInBounds i true) w' ∧ anyS P rd ops Φ S fuel (listed.setIfInBounds i true) a' w') a w
theorem anyS_sound : ∀ (fuel : Nat) (listed : Array Bool) (a : Act) (w : World), anyS P rd ops Φ S fuel listed a w → wpAnyIn (fc rd) 0 P .any ops (normOnly Φ) fuel listed a w
  | 0, _, _, _, h => h
  | fuel + 1, _, _, _, h => ⟨h.1, fun i hi => wpOpIn_mono (fun a' w' h' => anyS_sound fuel _ a' w' h'.2) (h.2 i hi)⟩
theorem Yl.run {i : Nat} {o : Oper} {v : Value} {a : Act} {w : World} {listed : Array Bool} (hi : ops[i]? = some o) (hy : Yl P ops S i o v a) (hl : listed.getD i true = false) (hS : S listed w) {K : Act → World → Prop}
    (h : K (a.put o.dst v) w) : wpOpIn (fc rd) 0 P ops (normOnly Φ) i K a w := by
  unfold wpOpIn
  simp only [hi, hy.wanted, if_true]
  exact wpIn_value (hy.quiet w ⟨listed, hl, hS⟩) h
theorem op_put {i j : Nat} {oi oj : Oper} {v : Value} (hj : ops[j]? = some oj) (hap : oi.apart ops oj = true) (hsi : ∀ cs b, oi.op ≠ .select cs b) (hsj : ∀ cs b, oj.op ≠ .select cs b) {K : Act → World → Prop} {a : Act} {w : World}
    (hy : Yl P ops S i oi v a) (h : wpOpIn (fc rd) 0 P ops (normOnly Φ) j K (a.put oi.dst v) w) :
    wpOpIn (fc rd) 0 P ops (normOnly Φ) j (fun a' w' => Yl P ops S i oi v a' ∧ K (a'.put oi.dst v) w') a w := by
  obtain ⟨h1, h2, h3⟩ := Oper.apart_spec hap
  have same : ∀ (a a' : Act), execOp a'.eval oi = execOp a.eval oi → Region.wanted oi (yielded ops a'.tmps) = Region.wanted oi (yielded ops a.tmps) → Yl P ops S i oi v a → Yl P ops S i oi v a' := fun a a' he hw hy =>
    ⟨hw.trans hy.wanted, fun w hw' => by have := hy.quiet w hw'; rw [he]; exact this⟩
  have keep : ∀ (a : Act), Yl P ops S i oi v a → ∀ u, Yl P ops S i oi v (a.put oj.dst u) := fun a hy u => same a _ (execOp_put oi hsi a oj.dst u h3) (wanted_put oi a oj.dst u h3) hy
  unfold wpOpIn at *
  simp only [hj] at *
  rw [wanted_put oj a oi.dst v h1] at h
  split
  · rename_i hw
    simp only [hw, if_true] at h
    refine ⟨fun _ _ => trivial, ?_⟩
    have h := h.2
    rw [show (fc rd).round = rd from rfl] at h ⊢
    rw [semAt_put rd oj hsj a oi.dst v h1] at h
    generalize (oj.semAt rd a.eval).run P w = r at *
    cases r with
    | ok x w' =>
      cases x <;> simp only [Oper.uponIn] at h ⊢
      case value u => exact ⟨keep a hy u, by rw [← Act.put_comm a v u h2]; exact h⟩
      case skip => exact ⟨keep a hy _, by rw [← Act.put_comm a v undef h2]; exact h⟩
      case defer d =>
        refine ⟨keep { a with defers := d :: a.defers } (same a { a with defers := d :: a.defers } rfl rfl hy) _, ?_⟩
        rw [← Act.put_comm _ v undef h2, ← Act.put_defers]
        exact h
      case enter f args =>
        refine ⟨h.1, h.2.mono fun e w'' he => ?_⟩
        cases e with
        | returned u => exact ⟨keep a hy u, by rw [← Act.put_comm a v u h2]; exact he⟩
        | panicked c => exact he
        | outgrown => exact he
      case round l f tmps assign body =>
        refine ⟨h.1, h.2.mono fun e w'' he => ?_⟩
        cases e with
        | returned u => exact ⟨keep a hy u, by rw [← Act.put_comm a v u h2]; exact he⟩
        | panicked c => exact he
        | outgrown => exact he
      case row row args => exact ⟨h.1, h.2.mono fun u w'' he => ⟨keep a hy u, by rw [← Act.put_comm a v u h2]; exact he⟩⟩
    | halt x w' =>
      cases x <;> simp only [Oper.uponIn] at h ⊢
      case panic u => exact h
  · rename_i hw
    simp only [hw] at h
    exact ⟨fun _ _ => trivial, keep a hy _, by rw [← Act.put_comm a v undef h2]; exact h.2⟩
theorem anyS_first {i : Nat} {oi : Oper} {v : Value} (hi : ops[i]? = some oi) (hsel : ∀ (j : Nat) (o : Oper) cs b, ops[j]? = some o → o.op ≠ .select cs b) (hmono : ∀ l w, S l w → S (l.setIfInBounds i true) w) :
    ∀ (fuel : Nat) (listed : Array Bool) (a : Act) (w : World),
      (∀ j oj, ops[j]? = some oj → j ≠ i → listed.getD j true = false → (∀ e ∈ oj.after, Region.binds .any e = true → e.on ≠ i) → oi.apart ops oj = true) →
      i ∈ Region.ready .any ops listed → Yl P ops S i oi v a → S listed w →
      anyS P rd ops Φ S fuel (listed.setIfInBounds i true) (a.put oi.dst v) w → (hback : ∀ l w', l.getD i true = false → S (l.setIfInBounds i true) w' → Region.ready .any ops l ≠ [] → i ∈ Region.ready .any ops l → S l w') →
      anyS P rd ops Φ S (fuel + 1) listed a w := by
  intro fuel
  induction fuel with
  | zero =>
    intro listed a w _ hr hy hS H hback
    refine ⟨fun h => (by rw [h] at hr; cases hr), fun j hj => ?_⟩
    by_cases hji : j = i
    · subst hji; exact hy.run hi (mem_ready.1 hr).1 hS ⟨hmono _ _ hS, H⟩
    · have := ready_mono hj hji
      rw [H.1] at this
      cases this
  | succ fuel ih =>
    intro listed a w hfree hr hy hS H hback
    refine ⟨fun h => (by rw [h] at hr; cases hr), fun j hj => ?_⟩
    by_cases hji : j = i
    · subst hji; exact hy.run hi (mem_ready.1 hr).1 hS ⟨hmono _ _ hS, H⟩
    · have h1 := H.2 j (ready_mono hj hji)
      obtain ⟨hjun, oj, hoj, hall⟩ := mem_ready.1 hj
      have hnot : ∀ e ∈ oj.after, Region.binds .any e = true → e.on ≠ i := fun e he hb heq => by
        have h1 := hall e he hb
        have h0 := (mem_ready.1 hr).1
        rw [heq] at h1
        rcases Nat.lt_or_ge i listed.size with h' | h'
        · simp [h'] at h0 h1; rw [h0] at h1; cases h1
        · simp [Array.getElem?_eq_none h'] at h1
      have h2 := op_put hoj (hfree j oj hoj hji hjun hnot) (fun cs b => hsel i oi cs b hi) (fun cs b => hsel j oj cs b hoj) hy h1
      have hfree' : ∀ k ok, ops[k]? = some ok → k ≠ i → (listed.setIfInBounds j true).getD k true = false → (∀ e ∈ ok.after, Region.binds .any e = true → e.on ≠ i) → oi.apart ops ok = true := fun k ok hk hki hun hno => by
        refine hfree k ok hk hki ?_ hno
        by_cases hjk : j = k
        · subst hjk; exact hjun
        · rw [getD_set_ne true hjk] at hun; exact hun
      have hr' := ready_mono hr (Ne.symm hji)
      refine wpOpIn_mono (fun a' w' h3 => ?_) h2
      have hS' : S (listed.setIfInBounds j true) w' := by
        have h4 := h3.2.1
        rw [Array.setIfInBounds_comm _ _ (Ne.symm hji)] at h4
        exact hback _ w' (mem_ready.1 hr').1 h4 (fun e => by rw [e] at hr'; cases hr') hr'
      refine ⟨hS', ih (listed.setIfInBounds j true) a' w' hfree' hr' h3.1 hS' ?_ hback⟩
      rw [Array.setIfInBounds_comm _ _ hji]
      exact h3.2.2
end
/-! ### The rules -/
def SS (C : Cx) (Lp : List HA) : Array Bool → World → Prop := fun _ w => St C.w0 C.hot Lp w
def JA (C : Cx) (ops : Array Oper) (Φ : Act → World → Prop) (Lp : List HA) (fuel : Nat) (listed : Array Bool) (F : Fr) (L : List HA) : Prop :=
  ∀ a w, Fits C.n C.ds F a → St C.w0 C.hot L w → anyS C.P C.rd ops Φ (SS C Lp) fuel listed a w
section
variable {C : Cx} {F : Fr} {L Lp : List HA} {K : List KI} {ops : Array Oper} {Φ : Act → World → Prop} {fuel : Nat} {listed : Array Bool}
theorem sc_mixed {id : Nat} {l : List Oper} (Lp : List HA) (hrd : C.rd = C.rd) (hm : C.P.follows .mixedOrders = true) (h : JA C l.toArray (kpost C K .normal) Lp l.toArray.size (Array.replicate l.toArray.size false) F L) : SC C (.region id l.toArray true) K F L := by
  intro a w hf hs
  have h1 := anyS_sound _ _ _ _ (h a w.drew hf (hs.later (Below.refl _ _).drew))
  refine wpIn_mono (wpIn_region_any (Q := normOnly (kpost C K .normal)) hm h1) fun e a w hq => ?_
  cases e <;> first | exact hq | exact hq.elim
/-- A quiet operation is taken first. -/
theorem ja_take {oi : Oper} {d : Nat} (i : Nat) (hi : ops[i]? = some oi) (hchk : ((Region.ready .any ops listed).contains i && Region.free .any ops listed i && Region.noSelect ops) = true) (hg : oi.guard = none) (hd : oi.dst = some d) (hn : Nat.blt d C.n = true) (hsub : LSub Lp L)
    (h : ∃ v, Qv C oi F Lp v ∧ JA C ops Φ Lp fuel (listed.setIfInBounds i true) ((d, v) :: F) L) : JA C ops Φ Lp (fuel + 1) listed F L := by
  obtain ⟨v, hq, hj⟩ := h
  simp only [Bool.and_eq_true, List.contains_iff_mem] at hchk
  obtain ⟨⟨hr, hfr⟩, hns⟩ := hchk
  intro a w hf hs
  refine anyS_first hi (Region.noSelect_spec hns) (fun l w h => h) fuel listed a w (Region.free_spec hi hfr) hr ⟨by simp [Region.wanted, hg], fun w' ⟨l, _, hw'⟩ => hq a w' hf hw'⟩ (hs.sub hsub) ?_ (fun l w' _ h _ _ => h)
  rw [hd]
  exact hj _ w (hf.put v hn) hs
/-- Those that may come now: each of them. -/
theorem ja_all (rs : List Nat) (hr : Region.ready .any ops listed = rs) (hne : rs.isEmpty = false)
    (h : ∀ i ∈ rs, ∃ oi, ops[i]? = some oi ∧ oi.guard = none ∧ J C ops false [oi] [.fin (fun a' w' => St C.w0 C.hot Lp w' ∧ anyS C.P C.rd ops Φ (SS C Lp) fuel (listed.setIfInBounds i true) a' w')] F L) (hrd : C.rd = C.rd) : JA C ops Φ Lp (fuel + 1) listed F L := by
  intro a w hf hs
  refine ⟨fun e => by rw [hr] at e; subst e; simp at hne, fun i hi => ?_⟩
  rw [hr] at hi
  obtain ⟨oi, ho, hg, hJ⟩ := h i hi
  have h1 := hJ a w hf hs
  unfold wpListIn at h1
  rw [if_pos (by simp [Region.wanted, hg])] at h1
  unfold wpOpIn
  simp only [ho]
  rw [if_pos (by simp [Region.wanted, hg])]
  exact h1
/-- Behind an operation of those: the next one. -/
theorem sq_next {i : Nat} (hsub : LSub Lp L) (h : JA C ops Φ Lp fuel (listed.setIfInBounds i true) F L) :
    SQ C .normal [.fin (fun a' w' => St C.w0 C.hot Lp w' ∧ anyS C.P C.rd ops Φ (SS C Lp) fuel (listed.setIfInBounds i true) a' w')] F L := fun a w hf hs => ⟨hs.sub hsub, h a w hf hs⟩
theorem ja_done {K : List KI} (hr : Region.ready .any ops listed = []) (h : SQ C .normal K F L) : JA C ops (kpost C K .normal) Lp fuel listed F L := by
  intro a w hf hs
  cases fuel with
  | zero => exact ⟨hr, h a w hf hs⟩
  | succ fuel => exact ⟨fun _ => h a w hf hs, fun i hi => by rw [hr] at hi; cases hi⟩
end
end Eng
end Go.Proofs.Ytagndgidfaladaa

/-
  Regions that draw their order, walked by a plan: quiet operations, with their guards, and calls that only make memory are taken when they stand in the plan; the others when nothing else is ready.
-/
namespace Go.Proofs.Ytagndgidfaladaa
namespace Eng
open Go.RowKit
set_option linter.unusedVariables false
section
variable {P : Program} {rd : Option Nat} {ops : Array Oper} {Φ : Act → World → Prop} {S : World → Prop}
/-- Each order, in this world or in one that has grown from it. -/
def anyG (P : Program) (rd : Option Nat) (ops : Array Oper) (Φ : Act → World → Prop) (S : World → Prop) : Nat → Array Bool → Act → World → Prop
  | 0, listed, a, w => ∀ w1, Below w.heap.size w w1 → Region.ready .any ops listed = [] ∧ Φ a w1
  | fuel + 1, listed, a, w => ∀ w1, Below w.heap.size w w1 → (Region.ready .any ops listed = [] → Φ a w1) ∧
      ∀ i ∈ Region.ready .any ops listed, wpOpIn (fc rd) 0 P ops (normOnly Φ) i (fun a' w' => S w' ∧ anyG P rd ops Φ S fuel (listed.setIfInBounds i true) a' w') a w1
theorem below_tr {a b c : World} (h : Below a.heap.size a b) (k : Below b.heap.size b c) : Below a.heap.size a c := h.trans (k.mono h.size)
theorem anyG_grow {fuel : Nat} {listed : Array Bool} {a : Act} {w w' : World} (h : anyG P rd ops Φ S fuel listed a w) (hb : Below w.heap.size w w') : anyG P rd ops Φ S fuel listed a w' := by
  cases fuel with
  | zero => exact fun w1 h1 => h w1 (below_tr hb h1)
  | succ fuel => exact fun w1 h1 => h w1 (below_tr hb h1)
theorem anyG_sound : ∀ (fuel : Nat) (listed : Array Bool) (a : Act) (w : World), anyG P rd ops Φ S fuel listed a w → wpAnyIn (fc rd) 0 P .any ops (normOnly Φ) fuel listed a w
  | 0, _, _, w, h => h w (Below.refl _ _)
  | fuel + 1, _, _, w, h => ⟨(h w (Below.refl _ _)).1, fun i hi => wpOpIn_mono (fun a' w' h' => anyG_sound fuel _ a' w' h'.2) ((h w (Below.refl _ _)).2 i hi)⟩
/-- Operation i yields v whenever it comes, or is passed over. -/
def YG (P : Program) (ops : Array Oper) (S : World → Prop) (o : Oper) (v : Value) (a : Act) : Prop :=
  (Region.wanted o (yielded ops a.tmps) = true ∧ ∀ w, S w → o.quietAt P a (fun w'' => Below w.heap.size w w'') w v) ∨ (Region.wanted o (yielded ops a.tmps) = false ∧ v = undef)
theorem YG.run {i : Nat} {o : Oper} {v : Value} {a : Act} {w : World} (hi : ops[i]? = some o) (hy : YG P ops S o v a) (hS : S w) {K : Act → World → Prop}
    (h : ∀ w', Below w.heap.size w w' → K (a.put o.dst v) w') : wpOpIn (fc rd) 0 P ops (normOnly Φ) i K a w := by
  unfold wpOpIn
  simp only [hi]
  rcases hy with ⟨hw, hq⟩ | ⟨hw, hv⟩
  · rw [if_pos hw]
    have h1 := hq w hS
    unfold Oper.quietAt at h1
    generalize hr : (execOp a.eval o).run P w = r at h1
    cases r with
    | ok x w' =>
      cases x <;> simp only [Oper.quietUpon] at h1
      case value u =>
        obtain ⟨rfl, rfl⟩ := h1
        exact wpIn_value hr (h _ (Below.refl _ _))
      case skip =>
        obtain ⟨rfl, rfl⟩ := h1
        exact wpIn_skip_ hr (h _ (Below.refl _ _))
      case enter f args =>
        obtain ⟨rfl, hc⟩ := h1
        refine wpIn_enter_ hr (hc.mono fun e w'' ⟨he, hs'⟩ => ?_)
        subst he
        exact h _ hs'
    | halt x w' => simp only [Oper.quietUpon] at h1
  · rw [if_neg (by rw [hw]; decide), ← hv]
    exact ⟨fun _ _ => trivial, h w (Below.refl _ _)⟩
theorem opG_put {j : Nat} {oi oj : Oper} {v : Value} (hj : ops[j]? = some oj) (hap : oi.apart ops oj = true) (hsi : ∀ cs b, oi.op ≠ .select cs b) (hsj : ∀ cs b, oj.op ≠ .select cs b) {K : Act → World → Prop} {a : Act} {w : World}
    (hy : YG P ops S oi v a) (h : wpOpIn (fc rd) 0 P ops (normOnly Φ) j K (a.put oi.dst v) w) :
    wpOpIn (fc rd) 0 P ops (normOnly Φ) j (fun a' w' => YG P ops S oi v a' ∧ K (a'.put oi.dst v) w') a w := by
  obtain ⟨h1, h2, h3⟩ := Oper.apart_spec hap
  have same : ∀ (a a' : Act), execOp a'.eval oi = execOp a.eval oi → Region.wanted oi (yielded ops a'.tmps) = Region.wanted oi (yielded ops a.tmps) → YG P ops S oi v a → YG P ops S oi v a' := fun a a' he hw hy => by
    unfold YG Oper.quietAt at hy ⊢
    rw [he, hw]
    exact hy
  have keep : ∀ (a : Act), YG P ops S oi v a → ∀ u, YG P ops S oi v (a.put oj.dst u) := fun a hy u => same a _ (execOp_put oi hsi a oj.dst u h3) (wanted_put oi a oj.dst u h3) hy
  unfold wpOpIn at *
  simp only [hj] at *
  rw [wanted_put oj a oi.dst v h1] at h
  split
  · rename_i hw
    simp only [hw, if_true] at h
    refine ⟨fun _ _ => trivial, ?_⟩
    have h := h.2
    rw [show (fc rd).round = rd from rfl] at h ⊢
    rw [semAt_put rd oj hsj a oi.dst v h1] at h
    generalize (oj.semAt rd a.eval).run P w = r at *
    cases r with
    | ok x w' =>
      cases x <;> simp only [Oper.uponIn] at h ⊢
      case value u => exact ⟨keep a hy u, by rw [← Act.put_comm a v u h2]; exact h⟩
      case skip => exact ⟨keep a hy _, by rw [← Act.put_comm a v undef h2]; exact h⟩
      case defer d =>
        refine ⟨keep { a with defers := d :: a.defers } (same a { a with defers := d :: a.defers } rfl rfl hy) _, ?_⟩
        rw [← Act.put_comm _ v undef h2, ← Act.put_defers]
        exact h
      case enter f args =>
        refine ⟨h.1, h.2.mono fun e w'' he => ?_⟩
        cases e with
        | returned u => exact ⟨keep a hy u, by rw [← Act.put_comm a v u h2]; exact he⟩
        | panicked c => exact he
        | outgrown => exact he
      case round l f tmps assign body =>
        refine ⟨h.1, h.2.mono fun e w'' he => ?_⟩
        cases e with
        | returned u => exact ⟨keep a hy u, by rw [← Act.put_comm a v u h2]; exact he⟩
        | panicked c => exact he
        | outgrown => exact he
      case row row args => exact ⟨h.1, h.2.mono fun u w'' he => ⟨keep a hy u, by rw [← Act.put_comm a v u h2]; exact he⟩⟩
    | halt x w' =>
      cases x <;> simp only [Oper.uponIn] at h ⊢
      case panic u => exact h
  · rename_i hw
    simp only [hw] at h
    exact ⟨fun _ _ => trivial, keep a hy _, by rw [← Act.put_comm a v undef h2]; exact h.2⟩
theorem anyG_first {i : Nat} {oi : Oper} {v : Value} (hi : ops[i]? = some oi) (hsel : ∀ (j : Nat) (o : Oper) cs b, ops[j]? = some o → o.op ≠ .select cs b) (hgr : ∀ w w', S w → Below w.heap.size w w' → S w') :
    ∀ (fuel : Nat) (listed : Array Bool) (a : Act) (w : World),
      (∀ j oj, ops[j]? = some oj → j ≠ i → listed.getD j true = false → (∀ e ∈ oj.after, Region.binds .any e = true → e.on ≠ i) → oi.apart ops oj = true) →
      i ∈ Region.ready .any ops listed → YG P ops S oi v a → S w →
      anyG P rd ops Φ S fuel (listed.setIfInBounds i true) (a.put oi.dst v) w → anyG P rd ops Φ S (fuel + 1) listed a w := by
  intro fuel
  induction fuel with
  | zero =>
    intro listed a w _ hr hy hS H w1 hw1
    refine ⟨fun h => (by rw [h] at hr; cases hr), fun j hj => ?_⟩
    by_cases hji : j = i
    · subst hji
      exact hy.run hi (hgr _ _ hS hw1) fun w' hw' => ⟨hgr _ _ hS (below_tr hw1 hw'), anyG_grow H (below_tr hw1 hw')⟩
    · have := ready_mono hj hji
      rw [(H w1 hw1).1] at this
      cases this
  | succ fuel ih =>
    intro listed a w hfree hr hy hS H w1 hw1
    refine ⟨fun h => (by rw [h] at hr; cases hr), fun j hj => ?_⟩
    by_cases hji : j = i
    · subst hji
      exact hy.run hi (hgr _ _ hS hw1) fun w' hw' => ⟨hgr _ _ hS (below_tr hw1 hw'), anyG_grow H (below_tr hw1 hw')⟩
    · have h1 := (H w1 hw1).2 j (ready_mono hj hji)
      obtain ⟨hjun, oj, hoj, hall⟩ := mem_ready.1 hj
      have hnot : ∀ e ∈ oj.after, Region.binds .any e = true → e.on ≠ i := fun e he hb heq => by
        have h1 := hall e he hb
        have h0 := (mem_ready.1 hr).1
        rw [heq] at h1
        rcases Nat.lt_or_ge i listed.size with h' | h'
        · simp [h'] at h0 h1; rw [h0] at h1; cases h1
        · simp [Array.getElem?_eq_none h'] at h1
      have h2 := opG_put hoj (hfree j oj hoj hji hjun hnot) (fun cs b => hsel i oi cs b hi) (fun cs b => hsel j oj cs b hoj) hy h1
      have hfree' : ∀ k ok, ops[k]? = some ok → k ≠ i → (listed.setIfInBounds j true).getD k true = false → (∀ e ∈ ok.after, Region.binds .any e = true → e.on ≠ i) → oi.apart ops ok = true := fun k ok hk hki hun hno => by
        refine hfree k ok hk hki ?_ hno
        by_cases hjk : j = k
        · subst hjk; exact hjun
        · rw [getD_set_ne true hjk] at hun; exact hun
      have hr' := ready_mono hr (Ne.symm hji)
      refine wpOpIn_mono (fun a' w' h3 => ?_) h2
      refine ⟨h3.2.1, ih (listed.setIfInBounds j true) a' w' hfree' hr' h3.1 h3.2.1 ?_⟩
      rw [Array.setIfInBounds_comm _ _ hji]
      exact h3.2.2
end
/-! ### The rules -/
/-- A plan: operation i is quiet; it alone is ready; these two are ready. -/
inductive Pl where
  | z
  | q (i : Nat) (p : Pl)
  | e (i : Nat) (p : Pl)
  | b (i j : Nat) (p r : Pl)
def JG (C : Cx) (ops : Array Oper) (Φ : Act → World → Prop) (Lp : List HA) (plan : Pl) (fuel : Nat) (listed : Array Bool) (F : Fr) (L : List HA) : Prop :=
  LSub Lp L → ∀ a w, Fits C.n C.ds F a → St C.w0 C.hot L w → anyG C.P C.rd ops Φ (St C.w0 C.hot Lp) fuel listed a w
/-- What stands behind a quiet operation, and behind another one: the memory ahead of it beside it. -/
def FQ (C : Cx) (ops : Array Oper) (Φ : Act → World → Prop) (Lp : List HA) (plan : Pl) (fuel : Nat) (listed : Array Bool) (L : List HA) (a : Act) (w : World) : Prop :=
  LSub Lp L → ∀ w, St C.w0 C.hot L w → anyG C.P C.rd ops Φ (St C.w0 C.hot Lp) fuel listed a w
def FE (C : Cx) (ops : Array Oper) (Φ : Act → World → Prop) (Lp : List HA) (plan : Pl) (fuel : Nat) (listed : Array Bool) (L : List HA) (a : Act) (w : World) : Prop :=
  LSub Lp L → St C.w0 C.hot Lp w ∧ anyG C.P C.rd ops Φ (St C.w0 C.hot Lp) fuel listed a w
section
variable {C : Cx} {F : Fr} {L Lp : List HA} {K : List KI} {ops : Array Oper} {Φ : Act → World → Prop} {fuel : Nat} {listed : Array Bool} {plan plan2 : Pl}
theorem gJG (h : JG C ops Φ Lp plan fuel listed F L) : JG C ops Φ Lp plan fuel listed F L := h
/-- Region k, by a plan: (true, i): operation i is quiet; (false, i): it alone is ready. -/
theorem sc_autoL (k : Nat) {l : List Oper} (Lp : List HA) (plan : Pl) (hsub : LSub Lp L) (hm : C.P.follows .mixedOrders = true) (h : JG C l.toArray (kpost C K .normal) Lp plan l.toArray.size (Array.replicate l.toArray.size false) F L) : SC C (.region k l.toArray true) K F L := by
  intro a w hf hs
  have h1 := anyG_sound _ _ _ _ (h hsub a w.drew hf (hs.later (Below.refl _ _).drew))
  refine wpIn_mono (wpIn_region_any (Q := normOnly (kpost C K .normal)) hm h1) fun e a w hq => ?_
  cases e <;> first | exact hq | exact hq.elim
theorem sc_auto (k : Nat) {l : List Oper} (plan : Pl) (hm : C.P.follows .mixedOrders = true) (h : JG C l.toArray (kpost C K .normal) L plan l.toArray.size (Array.replicate l.toArray.size false) F L) : SC C (.region k l.toArray true) K F L :=
  sc_autoL k L plan LSub.refl hm h
/-- A region that writes what it reads: nothing is kept. -/
theorem sc_auto0 (k : Nat) {l : List Oper} (plan : Pl) (hm : C.P.follows .mixedOrders = true) (h : JG C l.toArray (kpost C K .normal) [] plan l.toArray.size (Array.replicate l.toArray.size false) F L) : SC C (.region k l.toArray true) K F L :=
  sc_autoL k [] plan LSub.nil hm h
theorem jg_q {oi : Oper} {i : Nat} (hi : ops[i]? = some oi) (hchk : ((Region.ready .any ops listed).contains i && Region.free .any ops listed i && Region.noSelect ops) = true)
    (h : J C ops true [oi] [.fin (FQ C ops Φ Lp plan fuel (listed.setIfInBounds i true) L)] F Lp) : JG C ops Φ Lp (.q i plan) (fuel + 1) listed F L := by
  simp only [Bool.and_eq_true, List.contains_iff_mem] at hchk
  obtain ⟨⟨hr, hfr⟩, hns⟩ := hchk
  intro hsub a w hf hs
  have h1 := h a hf
  unfold wpQB at h1
  have hS := hs.sub hsub
  have hex : ∃ v, YG C.P ops (St C.w0 C.hot Lp) oi v a ∧ ∀ w, St C.w0 C.hot L w → anyG C.P C.rd ops Φ (St C.w0 C.hot Lp) fuel (listed.setIfInBounds i true) (a.put oi.dst v) w := by
    split at h1
    · rename_i hw
      obtain ⟨v, h2, h3⟩ := h1
      exact ⟨v, .inl ⟨hw, h2⟩, h3 w hS hsub⟩
    · rename_i hw
      exact ⟨undef, .inr ⟨by simpa using hw, rfl⟩, h1 w hS hsub⟩
  obtain ⟨v, hy, hn⟩ := hex
  exact anyG_first hi (Region.noSelect_spec hns) (fun w w' h hb => h.later hb) fuel listed a w (Region.free_spec hi hfr) hr hy hS (hn w hs)
theorem jg_next {Lq : List HA} (h : JG C ops Φ Lp plan fuel listed F L) : SQ C .normal [.fin (FQ C ops Φ Lp plan fuel listed L)] F Lq :=
  fun a w hf hs => fun hsub w1 hs1 => h hsub a w1 hf hs1
theorem jg_e {oi : Oper} {i : Nat} (hr : Region.ready .any ops listed = [i]) (hi : ops[i]? = some oi)
    (h : J C ops false [oi] [.fin (FE C ops Φ Lp plan fuel (listed.setIfInBounds i true) L)] F L) : JG C ops Φ Lp (.e i plan) (fuel + 1) listed F L := by
  intro hsub a w hf hs w1 hw1
  refine ⟨fun e => (by rw [hr] at e; cases e), fun i' hi' => ?_⟩
  rw [hr, List.mem_singleton] at hi'
  subst hi'
  have h1 := h a w1 hf (hs.later hw1)
  unfold wpListIn at h1
  unfold wpOpIn
  simp only [hi]
  split
  · rename_i hw
    rw [if_pos hw] at h1
    have h2 : oi.wpIn (fc C.rd) 0 C.P a w1 (FE C ops Φ Lp plan fuel (listed.setIfInBounds i' true) L) (normOnly Φ) := h1
    exact Oper.wpIn_mono (fun a' w' h3 => h3 hsub) h2
  · rename_i hw
    rw [if_neg hw] at h1
    exact ⟨h1.1, h1.2 hsub⟩
theorem jg_b {oi oj : Oper} {i j : Nat} (hr : Region.ready .any ops listed = [i, j]) (hi : ops[i]? = some oi) (hj : ops[j]? = some oj)
    (h : J C ops false [oi] [.fin (FE C ops Φ Lp plan fuel (listed.setIfInBounds i true) L)] F L) (h2 : J C ops false [oj] [.fin (FE C ops Φ Lp plan2 fuel (listed.setIfInBounds j true) L)] F L) : JG C ops Φ Lp (.b i j plan plan2) (fuel + 1) listed F L := by
  have key : ∀ {k : Nat} {ok : Oper} {pl : Pl}, ops[k]? = some ok → J C ops false [ok] [.fin (FE C ops Φ Lp pl fuel (listed.setIfInBounds k true) L)] F L → LSub Lp L → ∀ a w1, Fits C.n C.ds F a → St C.w0 C.hot L w1 → wpOpIn (fc C.rd) 0 C.P ops (normOnly Φ) k (fun a' w' => St C.w0 C.hot Lp w' ∧ anyG C.P C.rd ops Φ (St C.w0 C.hot Lp) fuel (listed.setIfInBounds k true) a' w') a w1 := by
    intro k ok pl hk hJ hsub a w1 hf hs
    have h1 := hJ a w1 hf hs
    unfold wpListIn at h1
    unfold wpOpIn
    simp only [hk]
    split
    · rename_i hw
      rw [if_pos hw] at h1
      have h2 : ok.wpIn (fc C.rd) 0 C.P a w1 (FE C ops Φ Lp pl fuel (listed.setIfInBounds k true) L) (normOnly Φ) := h1
      exact Oper.wpIn_mono (fun a' w' h3 => h3 hsub) h2
    · rename_i hw
      rw [if_neg hw] at h1
      exact ⟨h1.1, h1.2 hsub⟩
  intro hsub a w hf hs w1 hw1
  refine ⟨fun e => (by rw [hr] at e; cases e), fun i' hi' => ?_⟩
  rw [hr, List.mem_cons, List.mem_singleton] at hi'
  rcases hi' with e | e <;> subst e
  · exact key hi h hsub a w1 hf (hs.later hw1)
  · exact key hj h2 hsub a w1 hf (hs.later hw1)
/-- Behind one that wrote nothing of what is kept: the same memory; one assertion more; whatever holds what is kept. -/
theorem jg_next0 (h : JG C ops Φ Lp plan fuel listed F L) : SQ C .normal [.fin (FE C ops Φ Lp plan fuel listed L)] F L := fun a w hf hs => fun hsub => ⟨hs.sub hsub, h hsub a w hf hs⟩
theorem jg_next1 {x : HA} (h : JG C ops Φ Lp plan fuel listed F (x :: L)) : SQ C .normal [.fin (FE C ops Φ Lp plan fuel listed L)] F (x :: L) := fun a w hf hs => fun hsub => ⟨hs.tail.sub hsub, h (by
  obtain ⟨M, hM⟩ := hsub
  exact ⟨x :: M, (List.Perm.cons _ hM).trans List.perm_middle.symm⟩) a w hf hs⟩
theorem jg_nextE {L0 : List HA} (hsub : LSub Lp L) (h : JG C ops Φ Lp plan fuel listed F L) : SQ C .normal [.fin (FE C ops Φ Lp plan fuel listed L0)] F L := fun a w hf hs => fun _ => ⟨hs.sub hsub, h hsub a w hf hs⟩
theorem gFE {L0 : List HA} (h : SQ C .normal [.fin (FE C ops Φ Lp plan fuel listed L0)] F L) : SQ C .normal [.fin (FE C ops Φ Lp plan fuel listed L0)] F L := h
theorem jg_done {K : List KI} (hr : Region.ready .any ops listed = []) (h : SQ C .normal K F L) : JG C ops (kpost C K .normal) Lp .z fuel listed F L := by
  intro _ a w hf hs
  cases fuel with
  | zero => exact fun w1 hw1 => ⟨hr, h a w1 hf (hs.later hw1)⟩
  | succ fuel => exact fun w1 hw1 => ⟨fun _ => h a w1 hf (hs.later hw1), fun i hi => by rw [hr] at hi; cases hi⟩
end
end Eng
end Go.Proofs.Ytagndgidfaladaa

/-
  Parts of slices.
-/
namespace Go.Proofs.Ytagndgidfaladaa
namespace Eng
open Go.RowKit
set_option linter.unusedVariables false
theorem RS.drop {α : Type} {w : World} {sz : Nat} {f : α → List Value} {ad : Addr} {l : List α} (h : RS w sz f (some ad) l) (k : Nat) : RS w sz f (some (ad.add (k * sz))) (l.drop k) := fun i x hx => by
  rw [List.getElem?_drop] at hx
  obtain ⟨ad', e, hX⟩ := h (k + i) x hx
  injection e with e
  subst e
  refine ⟨_, rfl, ?_⟩
  rw [add_add, ← Nat.add_mul]
  exact hX
section
variable {C : Cx} {F : Fr} {L : List HA} {o : Oper}
theorem q_sliceLoS {t n c e sz by_ : Nat} {x y : Operand} {ti : TI} {ad : Addr} {kl : IntKind} (a : Nat) (ho : o.op = .slice t x (some y) none none) (ht : tget C.tab t = some ti) (hk : ti.kind = .slice e sz by_) (hx : ev F x = some (.slice (some ad) n c)) (hy : ev F y = some (.int kl (a : Int))) (ha : a < n) (hnc : n ≤ c) :
    Qv C o F L (.slice (some (ad.add (a * sz))) (n - a) (c - a)) := by
  have h := q_sliceLo (L := L) a ho ht hk hx hy (Nat.le_of_lt ha) hnc
  rwa [if_neg (by omega)] at h
end
theorem q_sliceLoG {C : Cx} {F : Fr} {L : List HA} {o : Oper} {t n c e sz by_ : Nat} {x y : Operand} {ti : TI} {A : Option Addr} {kl : IntKind} (a : Nat) (ho : o.op = .slice t x (some y) none none) (ht : tget C.tab t = some ti) (hk : ti.kind = .slice e sz by_) (hx : ev F x = some (.slice A n c)) (hy : ev F y = some (.int kl (a : Int))) (ha : a ≤ n) (hnc : n ≤ c) :
    Qv C o F L (.slice (if c = a then A else A.map (·.add (a * sz))) (n - a) (c - a)) := Qv.of_run fun ac w hf hs => by
  have := run_sliceOp (C.ok.get ht) hk A n c (some (.int kl (a : Int))) none kl kl a n (.inr rfl) (.inl ⟨rfl, rfl⟩) ha hnc w
  have hu := (tk_slice (C.ok.get ht) hk).1
  simp [execOp, ho, hf.ev hx, hf.ev hy, Instr.sliceAt, run_underlying hu, this]
end Eng
end Go.Proofs.Ytagndgidfaladaa

/-
  Memory lent to a call.
-/
namespace Go.Proofs.Ytagndgidfaladaa
namespace Eng
open Go.RowKit
set_option linter.unusedVariables false
section
variable {w0 w w' : World} {hot : Nat → Prop} {L L' : List HA}
def HA.kind1 : HA → Prop
  | .cells _ _ _ => True
  | .own _ _ _ _ _ => True
  | _ => False
/-- What is lent, in the callee's eyes. -/
theorem St.lent {x : HA} (h : St w0 hot L w) (hi : InL L x) (hk : x.kind1) : St w x.foot [x] w := by
  refine ⟨Near.refl _ _ _, fun y hy => ?_, List.pairwise_singleton _ _⟩
  rw [List.mem_singleton] at hy
  subst hy
  have hx := h.at hi
  cases y with
  | cells b t cs => exact ⟨.inr rfl, hx.2⟩
  | own v e sz n xs => exact ⟨fun b hb => .inr hb, hx.2⟩
  | abs S p => exact hk.elim
  | pure p => exact hk.elim
/-- What comes back. -/
theorem St.back {x y : HA} (h : St w0 hot L w) (hu : Upd L x y L') (h' : St w x.foot [y] w') (hk : y.kind1) : St w0 hot L' w' := by
  obtain ⟨M, h1, _⟩ := hu.perm
  have hx := (h.perm h1).head
  have hy := h'.head
  have hfoot : ∀ b, y.foot b → w0.heap.size ≤ b ∨ hot b := fun b hb => by
    rcases (hy.lt hb).1 with h3 | h3
    · exact .inl (Nat.le_trans h.near.size h3)
    · exact (hx.lt h3).1
  refine h.upd hu ⟨h'.near.os, h'.near.tape, h'.near.output, h'.near.size, fun k hk => by omega⟩ (fun b hb hne => h'.near.block b hb hne) ?_ (fun b hb => ((hy.lt hb).1).symm)
  cases y with
  | cells b t cs => exact ⟨hfoot b rfl, hy.2⟩
  | own v e sz n xs => exact ⟨fun b hb => hfoot b hb, hy.2⟩
  | abs S p => exact hk.elim
  | pure p => exact hk.elim
end
end Eng
end Go.Proofs.Ytagndgidfaladaa

/-
  What the walks of slices.SortFunc need: elements of a row exchanged, calls of bound values, two pieces of memory lent.
-/
namespace Go.Proofs.Ytagndgidfaladaa
namespace Eng
open Go.RowKit
set_option linter.unusedVariables false
set_option linter.unusedSimpArgs false
theorem splice_whole (cs vs : List Value) (h : cs.length = vs.length) : splice cs 0 vs = vs := by
  rw [splice_eq _ _ _ (by omega)]
  simp [h]
theorem row_at {α : Type} [Inhabited α] (d : Array α) {x : Nat} (hx : x < d.size) : ∃ x1, d[x]! = x1 ∧ d.toList[x]? = some x1 :=
  ⟨d[x]!, rfl, by rw [Array.getElem?_toList, Array.getElem?_eq_getElem hx, getElem!_pos d x hx]⟩
theorem swp_facts {α : Type} [Inhabited α] (d : Array α) {x y : Nat} (hx : x < d.size) (hy : y < d.size) :
    ∃ (x1 x2 : α) (d' : Array α), d[x]! = x1 ∧ d[y]! = x2 ∧ Go.Sort.swp d x y = d' ∧ d.toList[x]? = some x1 ∧ d.toList[y]? = some x2 ∧ (d.toList.set x x2).set y x1 = d'.toList ∧ d'.size = d.size ∧ x < d.toList.length ∧ y < (d.toList.set x x2).length := by
  obtain ⟨x1, e1, g1⟩ := row_at d hx
  obtain ⟨x2, e2, g2⟩ := row_at d hy
  refine ⟨x1, x2, _, e1, e2, rfl, g1, g2, ?_, Go.Sort.swp_size d x y, by simpa using hx, by simpa using hy⟩
  subst e1; subst e2
  unfold Go.Sort.swp
  simp
section
variable {C : Cx} {F : Fr} {L : List HA} {o : Oper} {K : List KI} {ops : Array Oper} {m : Bool} {rest : List Oper}
theorem q_index_at {t : Nat} {x y : Operand} {ti : TI} {e sz by_ n c : Nat} {ad : Addr} {k : IntKind} {z : Int} (i : Nat) (ho : o.op = .indexAddr t x y) (ht : tget C.tab t = some ti) (hk : ti.kind = .slice e sz by_)
    (hx : ev F x = some (.slice (some ad) n c)) (hy : ev F y = some (.int k z)) (h : z = (i : Int) ∧ i < n) : Qv C o F L (.pointer (some (ad.add (i * sz)))) := by
  obtain ⟨rfl, h⟩ := h
  exact q_index_nat ho ht hk hx hy h
theorem j_store_el {α : Type} {f : α → List Value} {l : List α} (i : Nat) (z' : α) {t n c e sz : Nat} {x y : Operand} {ti : TI} {ad : Addr} {v : Value} {L' : List HA} (ho : o.op = .store t x y) (hg : o.guard = none) (hd : o.dst = none)
    (hx : ev F x = some (.pointer (some (ad.add (i * sz))))) (hy : ev F y = some v) (ht : tget C.tab t = some ti) (hl : ti.size = len (vcells v)) (h1 : ones (vcells v) = true) (hin : InL L (.own (.slice (some ad) n c) e sz n (l.flatMap f))) (hf : ∀ x, (f x).length = sz) (hi : i < l.length)
    (hv : vcells v = f z') (hup : Upd L (.own (.slice (some ad) n c) e sz n (l.flatMap f)) (.own (.slice (some ad) n c) e sz n ((l.set i z').flatMap f)) L')
    (h : J C ops false rest K F L') : J C ops false (o :: rest) K F L :=
  j_store_row (z := l[i]) (z' := z') ho hg hd hx hy ht hl h1 hin hf (List.getElem?_eq_getElem hi) (by rw [hv]; exact splice_whole _ _ (by rw [hf, hf])) (by rw [hv, len_eq, hf]; simp) hup h
theorem run_callb {C : Cx} {F : Fr} {o : Oper} {al : List Operand} {fo : Operand} {ats : Array TypeId} {f : Nat} {pre caps vs : List Value} (ho : o.op = .call { callee := .value fo, args := al.toArray, argTypes := ats })
    (hfo : ev F fo = some (.func (.func f) pre.toArray caps.toArray)) (ha : evs F al = some vs) (hc : has C.fns f = true) {a : Act} (hf : Fits C.n C.ds F a) (w : World) :
    (execOp a.eval o).run C.P w = .ok (.enter f (pre ++ vs ++ caps).toArray) w := by
  have h1 : al.toArray.map a.eval = vs.toArray := by rw [List.map_toArray, hf.evs ha]
  have h2 := call_run (callable_of hc) (pre.toArray ++ vs.toArray ++ caps.toArray) w
  simp only [execOp, ho, resolve, hf.ev hfo, h1, Deferred.ofValue, Sem.run_bind, Sem.run_pure, Result.andThen_ok, invoke]
  rw [h2]
  simp
theorem q_callb {al : List Operand} {fo : Operand} {ats : Array TypeId} {f : Nat} {pre caps vs : List Value} {v : Value} (ho : o.op = .call { callee := .value fo, args := al.toArray, argTypes := ats })
    (hfo : ev F fo = some (.func (.func f) pre.toArray caps.toArray)) (ha : evs F al = some vs) (hc : has C.fns f = true)
    (hcall : ∀ w, St C.w0 C.hot L w → Calls C.P f (pre ++ vs ++ caps).toArray w (fun e w' => e = .returned v ∧ Below w.heap.size w w')) : Qt C o F L v := by
  intro a w hf hs
  unfold Oper.quietAt
  rw [run_callb ho hfo ha hc hf w]
  exact ⟨rfl, (hcall w hs).mono fun e w' ⟨he, hb⟩ => ⟨he, hb⟩⟩
theorem j_qcb {al : List Operand} {fo : Operand} {ats : Array TypeId} {f d : Nat} {pre caps vs : List Value} (ho : o.op = .call { callee := .value fo, args := al.toArray, argTypes := ats })
    (hg : o.guard = none) (hd : o.dst = some d) (hn : Nat.blt d C.n = true) (hfo : ev F fo = some (.func (.func f) pre.toArray caps.toArray)) (ha : evs F al = some vs) (hc : has C.fns f = true)
    (h : ∃ v, (∀ w, St C.w0 C.hot L w → Calls C.P f (pre ++ vs ++ caps).toArray w (fun e w' => e = .returned v ∧ Below w.heap.size w w')) ∧ J C ops m rest K ((d, v) :: F) L) : J C ops m (o :: rest) K F L :=
  let ⟨_, hcall, hj⟩ := h
  j_q hg hd hn (q_callb ho hfo ha hc hcall) hj
def noStore (l : List Oper) : Bool := l.all fun o => match o.op with
  | .store _ _ _ => false
  | _ => true
/-- A region that draws and does not store. -/
theorem sc_drawr {id : Nat} {l : List Oper} (hns : noStore l = true) (hrd : C.rd = none) (hm : C.P.follows .mixedOrders = true) (hB : Region.lexB .any l.toArray = true) (h : J C l.toArray true l K F L) : SC C (.region id l.toArray true) K F L :=
  sc_draw hrd hm hB h
theorem u64_range (x : Int) : 0 ≤ IntKind.u64.wrap x ∧ IntKind.u64.wrap x ≤ 18446744073709551615 := by
  rw [u64_wrapm]
  omega
theorem q_xor64 {t u : TypeId} {x y : Operand} {a b : Int} (ho : o.op = .binOp .xor t x y u) (hx : ev F x = some (.int .u64 a)) (hy : ev F y = some (.int .u64 b)) :
    Qv C o F L (.int .u64 (IntKind.u64.wrap ((BitVec.ofInt 64 a ^^^ BitVec.ofInt 64 b).toNat : Int))) :=
  q_bin ho hx hy fun w => by
    have h3 : (Op.intBits .xor .u64 a b) = (pure (.int .u64 (IntKind.u64.wrap ((BitVec.ofInt 64 a ^^^ BitVec.ofInt 64 b).toNat : Int))) : Sem Value) := rfl
    simp only [binOp, ne_eq, not_true_eq_false, if_false, h3]
    simp
theorem and_le64 (a b : Nat) (ha : a < 2 ^ 64) (hb : b < 2 ^ 64) : (BitVec.ofInt 64 (a : Int) &&& BitVec.ofInt 64 (b : Int)).toNat = a &&& b := by
  rw [BitVec.toNat_and, BitVec.toNat_ofInt, BitVec.toNat_ofInt]
  congr 1
  · have : ((a : Int) % ((2 ^ 64 : Nat) : Int)) = a := Int.emod_eq_of_lt (by omega) (by exact_mod_cast ha)
    rw [this]; rfl
  · have : ((b : Int) % ((2 ^ 64 : Nat) : Int)) = b := Int.emod_eq_of_lt (by omega) (by exact_mod_cast hb)
    rw [this]; rfl
theorem q_and64 {t u : TypeId} {x y : Operand} {a b : Nat} (ho : o.op = .binOp .and t x y u) (hx : ev F x = some (.int .u64 (a : Int))) (hy : ev F y = some (.int .u64 (b : Int))) (ha : a < 18446744073709551616) (hb : b < 18446744073709551616) :
    Qv C o F L (.int .u64 ((a &&& b : Nat) : Int)) :=
  q_bin ho hx hy fun w => by
    have h3 : (Op.intBits .and .u64 (a : Int) (b : Int)) = (pure (.int .u64 (IntKind.u64.wrap ((BitVec.ofInt 64 (a : Int) &&& BitVec.ofInt 64 (b : Int)).toNat : Int))) : Sem Value) := rfl
    have h4 : (a &&& b) ≤ b := Nat.and_le_right
    simp only [binOp, ne_eq, not_true_eq_false, if_false, h3, and_le64 a b ha hb, u64_wrap (x := ((a &&& b : Nat) : Int)) (by omega) (by omega)]
    simp
end
/-! ### Two pieces of memory lent, of which the second is written -/
section
variable {w0 w w' : World} {hot : Nat → Prop} {L L' : List HA}
theorem St.lent2 {x y : HA} (h : St w0 hot L w) (hs : LSub [x, y] L) (hx : x.kind1) (hy : y.kind1) : St w (fun b => x.foot b ∨ y.foot b) [x, y] w := by
  have h2 := h.sub hs
  refine ⟨Near.refl _ _ _, fun z hz => ?_, h2.sep⟩
  have hz' := h2.holds z hz
  have hk : z.kind1 := by
    simp only [List.mem_cons, List.mem_nil_iff, or_false] at hz
    rcases hz with rfl | rfl <;> assumption
  have hft : ∀ b, z.foot b → x.foot b ∨ y.foot b := fun b hb => by
    simp only [List.mem_cons, List.mem_nil_iff, or_false] at hz
    rcases hz with rfl | rfl
    · exact .inl hb
    · exact .inr hb
  cases z with
  | cells b t cs => exact ⟨.inr (hft b rfl), hz'.2⟩
  | own v e sz n xs => exact ⟨fun b hb => .inr (hft b hb), hz'.2⟩
  | abs S p => exact hk.elim
  | pure p => exact hk.elim
theorem St.back2 {x y y' : HA} (h : St w0 hot L w) (hs : LSub [x, y] L) (hu : Upd L y y' L') (h' : St w (fun b => x.foot b ∨ y.foot b) [x, y'] w') (hx : x.kind1) (hy' : y'.kind1) (hf : ∀ b, y'.foot b → y.foot b) : St w0 hot L' w' := by
  obtain ⟨N, hN⟩ := hs
  obtain ⟨M, h1, h2⟩ := hu.perm
  have hM : M.Perm (x :: N) := by
    have : (y :: M).Perm (y :: x :: N) := h1.symm.trans (hN.trans (List.Perm.swap _ _ _))
    exact (List.perm_cons y).1 this
  have hp := h.perm hN
  have hx0 : x.holds w0.heap.size hot w := hp.holds x (by simp)
  have hy0 : y.holds w0.heap.size hot w := hp.holds y (by simp)
  have hN0 : ∀ z ∈ N, z.holds w0.heap.size hot w := fun z hz => hp.holds z (by simp [hz])
  have hsep := hp.sep
  simp only [List.cons_append, List.nil_append, List.pairwise_cons] at hsep
  have hn : Near w0.heap.size hot w w' := ⟨h'.near.os, h'.near.tape, h'.near.output, h'.near.size, fun k hk hnot => h'.near.block k (Nat.lt_of_lt_of_le hk h.near.size) (fun hh => by
    rcases hh with hh | hh
    · rcases (hx0.lt hh).1 with h3 | h3
      · omega
      · exact hnot h3
    · rcases (hy0.lt hh).1 with h3 | h3
      · omega
      · exact hnot h3)⟩
  have hx1 : x.holds w0.heap.size hot w' := by
    have h9 := h'.holds x (by simp)
    cases x with
    | cells b t cs => exact ⟨hx0.1, h9.2⟩
    | own v e sz n xs => exact ⟨hx0.1, h9.2⟩
    | abs S p => exact hx.elim
    | pure p => exact hx.elim
  have hy1 : y'.holds w0.heap.size hot w' := by
    have h9 := h'.holds y' (by simp)
    cases y' with
    | cells b t cs => exact ⟨(hy0.lt (hf b rfl)).1, h9.2⟩
    | own v e sz n xs => exact ⟨fun b hb => (hy0.lt (hf b hb)).1, h9.2⟩
    | abs S p => exact hy'.elim
    | pure p => exact hy'.elim
  have hN1 : ∀ z ∈ N, z.holds w0.heap.size hot w' := fun z hz => (hN0 z hz).keep (fun b hb => h'.near.block b ((hN0 z hz).lt hb).2 (fun hh => by
    rcases hh with hh | hh
    · exact hsep.1 z (by simp [hz]) b hh hb
    · exact hsep.2.1 z hz b hh hb)) hn
  have hall : St w0 hot (x :: y' :: N) w' := ⟨h.near.trans hn, fun z hz => by
      simp only [List.mem_cons] at hz
      rcases hz with rfl | rfl | hz
      · exact hx1
      · exact hy1
      · exact hN1 z hz, List.pairwise_cons.2 ⟨fun z hz b hb hzb => by
        rcases List.mem_cons.1 hz with rfl | hz
        · exact hsep.1 y (by simp) b hb (hf b hzb)
        · exact hsep.1 z (by simp [hz]) b hb hzb, List.pairwise_cons.2 ⟨fun z hz b hb hzb => hsep.2.1 z hz b (hf b hb) hzb, hsep.2.2⟩⟩⟩
  exact hall.perm ((List.Perm.swap _ _ _).trans ((List.Perm.cons _ hM.symm).trans h2.symm))
end
end Eng
end Go.Proofs.Ytagndgidfaladaa

/-
  Ways that meet again: what follows is shown once.
-/
namespace Go.Proofs.Ytagndgidfaladaa
namespace Eng
open Go.RowKit
set_option linter.unusedVariables false
section
variable {C : Cx} {F : Fr} {L Lp : List HA} {K : List KI} {ops : Array Oper} {fuel : Nat} {listed : Array Bool}
theorem ja_cut {ι : Type} (I : ι → Prop) (F' : ι → Fr) (L' : ι → List HA) (main : (∀ i, I i → SQ C .normal K (F' i) (L' i)) → JA C ops (kpost C K .normal) Lp fuel listed F L) (tail : ∀ i, I i → SQ C .normal K (F' i) (L' i)) : JA C ops (kpost C K .normal) Lp fuel listed F L := main tail
theorem sc_cut {ι : Type} (I : ι → Prop) (F' : ι → Fr) (L' : ι → List HA) {c : Code} {id : Nat} (main : (∀ i, I i → SQ C .normal K (F' i) (L' i)) → SC C c (.blk id :: K) F L) (tail : ∀ i, I i → SQ C .normal K (F' i) (L' i)) : SC C c (.blk id :: K) F L := main tail
theorem sc_cutq {ι : Type} (I : ι → Prop) (F' : ι → Fr) (L' : ι → List HA) {c d : Code} (main : (∀ i, I i → SC C d K (F' i) (L' i)) → SC C c (.seq d :: K) F L) (tail : ∀ i, I i → SC C d K (F' i) (L' i)) : SC C c (.seq d :: K) F L := main tail
end
end Eng
end Go.Proofs.Ytagndgidfaladaa

/-
  A new beginning in the middle of a function: what the call has made so far is taken as given memory, which is only read from here on.
-/
namespace Go.Proofs.Ytagndgidfaladaa
namespace Eng
open Go.RowKit
set_option linter.unusedVariables false
def Cx.now (C : Cx) (w1 : World) : Cx := ⟨C.P, C.tab, C.ok, C.fns, C.fok, C.fn, C.R, C.rs, C.hrs, C.Qr, w1, C.n, Cold, C.rd, C.ds⟩
theorem kpost_now (C : Cx) (w1 : World) : ∀ K, kpost (C.now w1) K = kpost C K
  | [] => rfl
  | .seq c :: K => by simp only [kpost, kpost_now C w1 K]; rfl
  | .blk id :: K => by simp only [kpost, kpost_now C w1 K]
  | .loop J :: K => by simp only [kpost, kpost_now C w1 K]
  | .fin J :: K => rfl
section
variable {C : Cx} {F : Fr} {L : List HA} {K : List KI}
theorem sc_now {c : Code} (h : ∀ w1, St C.w0 C.hot L w1 → SC ⟨C.P, C.tab, C.ok, C.fns, C.fok, C.fn, C.R, C.rs, C.hrs, C.Qr, w1, C.n, Cold, C.rd, C.ds⟩ c K F []) : SC C c K F L := fun a w hf hs => by
  have := h w hs a w hf (St.start w Cold)
  have e : kpost (C.now w) K = kpost C K := kpost_now C w K
  unfold Cx.now at e
  rwa [e] at this
/-- A loop, from a world in which all that was made is only read. -/
theorem sc_own_nil_at {c : Code} (e sz : Nat) (h : SC C c K F (.own (.slice none 0 0) e sz 0 [] :: L)) : SC C c K F L := fun a w hf hs => h a w hf hs.own_nil
end
section
variable {C : Cx} {F : Fr} {L : List HA} {o : Oper}
theorem q_load_extb {t : Nat} {x : Operand} {ti : TI} {b p : Nat} {cs : List Value} {v : Value} (ho : o.op = .load t x) (hx : ev F x = some (.pointer (some ⟨b, p, none⟩))) (ht : tget C.tab t = some ti) (hk : ti.kind.agg = false)
    (hE : ExtC C ⟨b, 0, none⟩ cs) (hv : nth cs p = some v) : Qv C o F L v :=
  .of_run fun a w hf hs => by
    have h1 := hE.now hs p v hv
    rw [add_own, Nat.zero_add] at h1
    have := run_loadOne (C.ok.get ht) hk h1
    simp [execOp, ho, hf.ev hx, Instr.loadAt, Instr.sureAddr, this]
theorem q_loadA_extb {t : Nat} {x : Operand} {ti : TI} {b p : Nat} {cs : List Value} (ho : o.op = .load t x) (hx : ev F x = some (.pointer (some ⟨b, p, none⟩))) (ht : tget C.tab t = some ti) (hk : ti.kind.agg = true)
    (hE : ExtC C ⟨b, 0, none⟩ cs) (hl : ti.size = len (sub cs p ti.size)) : Qv C o F L (.agg (sub cs p ti.size).toArray) :=
  .of_run fun a w hf hs => by
    have := run_loadAgg (C.ok.get ht) hk (ad := ⟨b, p, none⟩) (w := w) hl (fun j v hv => by
      have h1 := hE.now hs (p + j) v (nth_sub _ _ _ _ _ hv)
      rw [add_own, Nat.zero_add] at h1
      rw [add_own]
      exact h1)
    simp [execOp, ho, hf.ev hx, Instr.loadAt, Instr.sureAddr, this]
end
theorem below_then {w0 w1 w2 : World} {L : List HA} (h : Below w0.heap.size w0 w1) (hS : St w1 Cold L w2) : Below w0.heap.size w0 w2 := h.trans (hS.below.mono h.size)
end Eng
end Go.Proofs.Ytagndgidfaladaa

/-
  A literal's cells read as a list.
-/
namespace Go.Proofs.Ytagndgidfaladaa
namespace Eng
open Go.RowKit
set_option linter.unusedVariables false
theorem rs_lit {α : Type} {f : α → List Value} {sz b u : Nat} {cs : List Value} {w0 w : World} {hot : Nat → Prop} {L : List HA} (l : List α) (hf : ∀ x, (f x).length = sz) (hs : St w0 hot L w) (hin : InL L (.cells b u cs)) (hx : cs = l.flatMap f) : RS w sz f (some ⟨b, 0, none⟩) l := by
  subst hx
  intro i x hx
  refine ⟨_, rfl, by rw [block_add]; exact (Array.getElem?_eq_some_iff.1 (hs.at hin).2).1, fun j v hv => ?_⟩
  rw [nth_eq] at hv
  rw [Eng.add_add, add_own, cells_cell (hs.at hin), nth_eq, Nat.zero_add]
  exact flat_at f sz hf l i x j v hx hv
end Eng
end Go.Proofs.Ytagndgidfaladaa

/-
  A walk stops at a region: to leave what is no longer needed.
-/
namespace Go.Proofs.Ytagndgidfaladaa
namespace Eng
open Go.RowKit
set_option linter.unusedVariables false
structure SCstop (C : Cx) (c : Code) (K : List KI) (F : Fr) (L : List HA) : Prop where
  h : SC C c K F L
section
variable {C : Cx} {F : Fr} {L : List HA} {K : List KI}
theorem sc_stop (k : Nat) {ops : Array Oper} {d : Bool} (h : SCstop C (.region k ops d) K F L) : SC C (.region k ops d) K F L := h.h
theorem stop_at {c : Code} (F' : Fr) (L' : List HA) (h : SC C c K F' L') (hF : FSub F' F) (hL : LSub L' L) : SCstop C c K F L := ⟨sc_sub h hF hL⟩
end
end Eng
end Go.Proofs.Ytagndgidfaladaa

/-
  What is own behind a region: a slice.
-/
namespace Go.Proofs.Ytagndgidfaladaa
namespace Eng
open Go.RowKit
theorem sq_owns {C : Cx} {K : List KI} {F : Fr} {L : List HA} {ex : Exit} {v : Value} {e sz n : Nat} {xs : List Value} (hin : InL L (.own v e sz n xs)) (h : ∀ A c, v = .slice A n c → Sl A n c → SQ C ex K F L) : SQ C ex K F L := fun a w hf hs => by
  have hA := hs.at hin
  rcases hA.2.2 with ⟨hv, h0⟩ | ⟨g, cap, cur, hv, _, _, hnc, hcm, _⟩
  · subst h0
    exact h _ _ hv ⟨fun _ => ⟨rfl, rfl⟩, Nat.le_refl _, by omega⟩ a w hf hs
  · exact h _ _ hv ⟨(fun h => by cases h), hnc, by unfold maxLen at hcm; omega⟩ a w hf hs
end Eng
end Go.Proofs.Ytagndgidfaladaa

/-
  Ranges over functions that hand over memory of their own.
-/
namespace Go.Proofs.Ytagndgidfaladaa
namespace Eng
open Go.RowKit
set_option linter.unusedVariables false
/-- What a loop does with what an iterator hands it: a state, the blocks in which it lies, a step, and whether it goes on. -/
structure ConsumerW {τ α : Type} (P : Program) (W : World) (S0 : Nat → Prop) (l : Nat) (encW : α → (Nat → Prop) → List Value → World → Prop) (Jn : τ → (Nat → Prop) → World → Prop) (stp : τ → α → τ × Bool) (live : τ → Prop) (att : τ → α → Prop) : Prop where
  step : ∀ s S x vs w, encW x S vs w → live s → att s x → Jn s S w → Near W.heap.size S0 W w → YieldRun P l vs w (fun v w' => v = .bool (stp s x).2 ∧ Near w.heap.size S w w' ∧ ∃ S', Jn (stp s x).1 S' w' ∧ ∀ b, S' b → S b ∨ w.heap.size ≤ b)
  goes : ∀ s x, live s → (stp s x).2 = true → live (stp s x).1
  lt : ∀ s S w b, Jn s S w → S b → b < w.heap.size
  stab : ∀ s S w w', Jn s S w → Near W.heap.size S0 w w' → (∀ b, S b → w'.heap[b]? = w.heap[b]?) → (∀ b, S b → S0 b ∨ W.heap.size ≤ b) → Jn s S w'
theorem ConsumerW.start {τ α : Type} {P : Program} {W : World} {S0 : Nat → Prop} {l : Nat} {encW : α → (Nat → Prop) → List Value → World → Prop} {Jn : τ → (Nat → Prop) → World → Prop} {stp : τ → α → τ × Bool} {live : τ → Prop} {att : τ → α → Prop}
    (h : ConsumerW P W S0 l encW Jn stp live att) {s : τ} (h0 : Jn s S0 W) : St W S0 [.abs S0 (Jn s S0)] W :=
  (St.start W S0).cons ⟨fun b hb => ⟨.inr hb, h.lt _ _ _ _ h0 hb⟩, h0, fun w' hn hk => h.stab _ _ _ _ h0 hn hk (fun b hb => .inl hb)⟩ (fun y hy => by cases hy)
section
variable {C : Cx} {F : Fr} {L : List HA} {o : Oper} {K : List KI} {ops : Array Oper} {m : Bool} {rest : List Oper}
/-- A call of yield, in the iterator. -/
theorem j_yieldW {τ α : Type} {d l : Nat} {al : List Operand} {fo : Operand} {ats : Array TypeId} {vs : List Value} {encW : α → (Nat → Prop) → List Value → World → Prop} {Jn : τ → (Nat → Prop) → World → Prop} {stp : τ → α → τ × Bool} {live : τ → Prop} {att : τ → α → Prop}
    (hcons : ConsumerW C.P C.w0 C.hot l encW Jn stp live att) (ho : o.op = .call { callee := .value fo, args := al.toArray, argTypes := ats }) (hg : o.guard = none) (hd : o.dst = some d) (hn : Nat.blt d C.n = true)
    (hfo : ev F fo = some (.func (.yield l) #[] #[])) (ha : evs F al = some vs) {x : α} {s : τ} (hlive : live s) (hat : att s x) {S : Nat → Prop} (hok : ∀ w, St C.w0 C.hot L w → encW x S vs w) (hin : InL L (.abs S (Jn s S))) {L' : (Nat → Prop) → List HA}
    (hup : ∀ S', Upd L (.abs S (Jn s S)) (.abs S' (Jn (stp s x).1 S')) (L' S')) (h : ∀ S', J C ops false rest K ((d, .bool (stp s x).2) :: F) (L' S')) : J C ops false (o :: rest) K F L := by
  intro a w hf hs
  have hA := hs.at hin
  obtain ⟨fn, tmps, assign, body, hy, hr⟩ := hcons.step s S x vs w (hok w hs) hlive hat hA.2.1 hs.near
  have h1 : al.toArray.map a.eval = vs.toArray := by rw [List.map_toArray, hf.evs ha]
  have hrun : (execOp a.eval o).run C.P w = .ok (.round l fn tmps assign body) w := by
    simp only [execOp, ho, resolve, hf.ev hfo, h1, Deferred.ofValue, Sem.run_bind, Sem.run_pure, Result.andThen_ok, invoke, Array.empty_append, hy]
  refine wpListIn_run (by simp [Region.wanted, hg]) ⟨fun _ _ => trivial, ?_⟩
  rw [show (fc C.rd).round = C.rd from rfl, semAt_of_value hrun (fun d e => by cases e), Oper.uponIn_round]
  refine ⟨fun h => by simp [fc] at h, ?_⟩
  have hr' : RoundIn (fc C.rd) 0 C.P l fn tmps assign body w (fun e w' => ∃ v, e = .returned v ∧ (v = .bool (stp s x).2 ∧ Near w.heap.size S w w' ∧ ∃ S', Jn (stp s x).1 S' w' ∧ ∀ b, S' b → S b ∨ w.heap.size ≤ b)) := hr
  refine hr'.mono fun e w' ⟨v, he, hv, hn', S', hJ, hS'⟩ => ?_
  subst he
  subst hv
  rw [hd]
  have hS'0 : ∀ b, S' b → C.hot b ∨ C.w0.heap.size ≤ b := fun b hb => by
    rcases hS' b hb with h2 | h2
    · rcases (hA.1 b h2).1 with h3 | h3
      · exact .inr h3
      · exact .inl h3
    · exact .inr (Nat.le_trans hs.near.size h2)
  refine h S' _ _ (hf.put _ hn) (hs.upd (hup S') ⟨hn'.os, hn'.tape, hn'.output, hn'.size, fun k hk => by omega⟩ (fun b hb hne => hn'.block b hb hne) ⟨fun b hb => ⟨(hS'0 b hb).symm, hcons.lt _ _ _ _ hJ hb⟩, hJ, fun w'' hnn hk => hcons.stab _ _ _ _ hJ hnn hk hS'0⟩ hS')
end
/-- The states along a list. -/
def trc {τ α : Type} (stp : τ → α → τ × Bool) (s : τ) (l : List α) : τ := l.foldl (fun s y => (stp s y).1) s
def Att {τ α : Type} (stp : τ → α → τ × Bool) (s0 : τ) (ys : List α) (s : τ) (x : α) : Prop := ∃ i, ys[i]? = some x ∧ s = trc stp s0 (ys.take i)
theorem trc_stpB {σ α : Type} (stp : σ → α → σ × Option Code) : ∀ (l : List α) (t : σ × Option Code), (trc (stpB stp) t l).1 = l.foldl (fun s y => (stp s y).1) t.1
  | [], t => rfl
  | y :: l, t => by
    have := trc_stpB stp l (stp t.1 y)
    simp only [trc, List.foldl_cons, stpB] at this ⊢
    exact this
/-- An iterator's promise: it hands over just these, one after the other, and writes nothing but what its caller's loop writes. -/
def IteratesW (P : Program) (gf : Nat) (lb : List Value) {α : Type} (encW : α → (Nat → Prop) → List Value → World → Prop) (ys : List α) (W : World) (S0 : Nat → Prop) : Prop :=
  ∀ (τ : Type) (Jn : τ → (Nat → Prop) → World → Prop) (stp : τ → α → τ × Bool) (live : τ → Prop) (s0 : τ) (l : Nat), ConsumerW P W S0 l encW Jn stp live (Att stp s0 ys) → live s0 → Jn s0 S0 W →
    Calls P gf ((Value.func (.yield l) #[] #[]) :: lb).toArray W (fun e W' => (∃ v, e = .returned v) ∧ Near W.heap.size S0 W W' ∧ ∃ S', Jn (runsB stp s0 ys) S' W' ∧ ∀ b, S' b → S0 b ∨ W.heap.size ≤ b)
section
variable {C : Cx} {F : Fr} {L : List HA} {K : List KI}
end
end Eng
end Go.Proofs.Ytagndgidfaladaa

/-
  Ranges over functions that hand over things in an order that is not known.
-/
namespace Go.Proofs.Ytagndgidfaladaa
namespace Eng
open Go.RowKit
set_option linter.unusedVariables false
/-- An iterator's promise: it hands over just these, one after the other, and writes nothing but what its caller's loop writes. -/
def IteratesP (P : Program) (gf : Nat) (lb : List Value) {α : Type} (encW : α → (Nat → Prop) → List Value → World → Prop) (Pre Ys : List α → Prop) (W : World) (S0 : Nat → Prop) : Prop :=
  ∀ (τ : Type) (Jn : τ → (Nat → Prop) → World → Prop) (stp : τ → α → τ × Bool) (live : τ → Prop) (s0 : τ) (l : Nat), ConsumerW P W S0 l encW Jn stp live (fun s x => ∃ pre, Pre (pre ++ [x]) ∧ s = trc stp s0 pre) → live s0 → Jn s0 S0 W →
    Calls P gf ((Value.func (.yield l) #[] #[]) :: lb).toArray W (fun e W' => (∃ v, e = .returned v) ∧ Near W.heap.size S0 W W' ∧ ∃ ys, Ys ys ∧ ∃ S', Jn (runsB stp s0 ys) S' W' ∧ ∀ b, S' b → S0 b ∨ W.heap.size ≤ b)
section
variable {C : Cx} {F : Fr} {L : List HA} {K : List KI}
/-- 'for x := range g { body }'. -/
theorem sc_rangeP {σ ξ α : Type} {g : Operand} {ps : List Tmp} {assign body : Code} {gf : Nat} {lb : List Value} (encW : α → (Nat → Prop) → List Value → World → Prop) (Pre Ys : List α → Prop) (stp : σ → α → σ × Option Code) (LI : σ → ξ → List HA) (s0 : σ) (i0 : ξ)
    (hrd : C.rd = none) (hg : ev F g = some (.func (.func gf) #[] lb.toArray)) (hcal : has C.fns gf = true) (hps : ∀ x S vs w, encW x S vs w → vs.length = ps.length) (hpn : ∀ p ∈ ps, p < C.n) (hL : LSub (LI s0 i0) L)
    (hab : ∀ s i S p, HA.abs S p ∈ LI s i → ∀ u u', p u → (∀ b, S b → u'.heap[b]? = u.heap[b]?) → p u')
    (hiter : ∀ w l D r, St C.w0 C.hot (haRec l r :: haDef D :: LI s0 i0) w → IteratesP C.P gf lb encW Pre Ys w (foots (haRec l r :: haDef D :: LI s0 i0)))
    (hbody : ∀ (l D : Nat) (r : Loop) (W1 : World) (s : σ) (i : ξ) (x : α) (vs : List Value) (Q : Exit → Act → World → Prop), encW x (foots (haRec l r :: haDef D :: LI s i)) vs W1 → (∃ pre, Pre (pre ++ [x]) ∧ s = pre.foldl (fun s y => (stp s y).1) s0) → r.state = .ready → St C.w0 C.hot (haRec l r :: haDef D :: LI s i) W1 →
      (∀ (e : Exit) (jump : Option Code) (i' : ξ) (F' : Fr) (L' M : List HA), jumpOf e = some jump → (stp s x).2 = jump → Rem L' (haRec l { r with state := .busy }) M → LSub (haDef D :: LI (stp s x).1 i') M → SQ (C.inRound l Q W1 (foots (haRec l r :: haDef D :: LI s i))) e [] F' L') →
      SC (C.inRound l Q W1 (foots (haRec l r :: haDef D :: LI s i))) assign [.fin (roundStart (C.inRound l Q W1 (foots (haRec l r :: haDef D :: LI s i))) l body)] (parFr ps vs F) (haRec l r :: haDef D :: LI s i))
    (hend : ∀ D i ys, Ys ys → (runsJ stp s0 ys).2 = none → SQ (C.mark D) .normal K F (haDef D :: LI (runsJ stp s0 ys).1 i))
    (hjump : ∀ D i ys c, Ys ys → (runsJ stp s0 ys).2 = some c → SC (C.mark D) c K F (haDef D :: LI (runsJ stp s0 ys).1 i)) : SC C (.rangeFunc g ps.toArray assign body) K F L := by
  intro a w hf hs
  rw [hrd]
  have hs0 := hs.sub hL
  refine wpIn_rangeFunc fun fn _ => ?_
  obtain ⟨r, hr⟩ : ∃ r : Loop, r = { state := .ready, pending := none, fn, tmps := a.tmps, params := ps.toArray, assign, body, defers := w.heap.size } := ⟨_, rfl⟩
  obtain ⟨W, hW⟩ : ∃ W, (w.alloc (.deferred (some []))).alloc (.loop r) = W := ⟨_, rfl⟩
  have hSW : St C.w0 C.hot (haRec (w.heap.size + 1) r :: haDef w.heap.size :: LI s0 i0) W := by
    have h1 : St C.w0 C.hot (haDef w.heap.size :: LI s0 i0) (w.alloc (.deferred (some []))) :=
      hs0.alloc _ (fun b hb => hb) (haObj_holds (.inl hs0.near.size) (World.alloc_heap_new w _))
    have h2 := World.alloc_heap_new (w.alloc (.deferred (some []))) (.loop r)
    rw [World.size_alloc] at h2
    rw [← hW]
    refine h1.alloc _ (fun b hb => by rw [World.size_alloc]; exact hb) (haObj_holds (.inl (by have := hs0.near.size; omega)) h2)
  obtain ⟨S0, hS0⟩ : ∃ S0, foots (haRec (w.heap.size + 1) r :: haDef w.heap.size :: LI s0 i0) = S0 := ⟨_, rfl⟩
  have hready : r.state = .ready := by rw [hr]
  have hr0 : recSt r none = r := by rw [hr]; rfl
  -- the loop's own state, as an iterator sees it
  obtain ⟨Jn, hJn⟩ : ∃ Jn : σ × Option Code → (Nat → Prop) → World → Prop, Jn = fun t S w' => ∃ i, St C.w0 C.hot (haRec (w.heap.size + 1) (recSt r t.2) :: haDef w.heap.size :: LI t.1 i) w' ∧ ∀ b, S b ↔ foots (haRec (w.heap.size + 1) (recSt r t.2) :: haDef w.heap.size :: LI t.1 i) b := ⟨_, rfl⟩
  have habs : ∀ (rr : Loop) s i S p, HA.abs S p ∈ (haRec (w.heap.size + 1) rr :: haDef w.heap.size :: LI s i) → ∀ u u' : World, p u → (∀ b, S b → u'.heap[b]? = u.heap[b]?) → p u' := by
    intro rr s i S p hm u u' hp hk
    rcases List.mem_cons.1 hm with hm | hm
    · unfold haRec at hm
      injection hm with h1 h2
      subst h1; subst h2
      exact (hk _ rfl).trans hp
    · rcases List.mem_cons.1 hm with hm | hm
      · unfold haDef at hm
        injection hm with h1 h2
        subst h1; subst h2
        exact (hk _ rfl).trans hp
      · exact hab s i S p hm u u' hp hk
  have hcons : ConsumerW C.P W S0 (w.heap.size + 1) encW Jn (stpB stp) (fun t => t.2 = none) (fun t x => ∃ pre, Pre (pre ++ [x]) ∧ t = trc (stpB stp) (s0, none) pre) := by
    refine ⟨?_, ?_, ?_, ?_⟩
    · rintro ⟨s, j⟩ S x vs W1 hok hlive ⟨ix, hix, hsx⟩ hJ hn
      have hsx' := congrArg Prod.fst hsx
      rw [trc_stpB] at hsx'
      simp only at hlive
      subst hlive
      rw [hJn] at hJ
      obtain ⟨i, hSt, hS⟩ := hJ
      rw [hr0] at hSt hS
      have hrec : W1.heap[w.heap.size + 1]? = some (.loop r) := hSt.head.2.1
      refine ⟨_, _, _, _, run_yield (P := C.P) hrec (by rw [hr]; simp [hps x _ _ _ hok]), ?_⟩
      let R : Ending → World → Prop := fun e w' => ∃ v, e = .returned v ∧ (v = .bool (stpB stp (s, none) x).2 ∧ Near W1.heap.size S W1 w' ∧ ∃ S', Jn (stpB stp (s, none) x).1 S' w' ∧ ∀ b, S' b → S b ∨ W1.heap.size ≤ b)
      have hfx : Fits C.n [] (parFr ps vs F) ⟨(ps.zip vs).foldl (fun tmps (x : Tmp × Value) => tmps.setIfInBounds x.1 x.2) a.tmps, []⟩ :=
        parFr_fits ps vs F C.n [] a.tmps hpn ⟨rfl, hf.size, hf.get⟩
      have hend' : ∀ (e : Exit) (jump : Option Code) (i' : ξ) (F' : Fr) (L' M : List HA), jumpOf e = some jump → (stp s x).2 = jump → Rem L' (haRec (w.heap.size + 1) { r with state := .busy }) M → LSub (haDef w.heap.size :: LI (stp s x).1 i') M →
          SQ (C.inRound (w.heap.size + 1) (roundPost C.P (w.heap.size + 1) R) W1 (foots (haRec (w.heap.size + 1) r :: haDef w.heap.size :: LI s i))) e [] F' L' := by
        intro e jump i' F' L' M hj hstp hrem hsub
        refine sq_round (R := R) rfl rfl hj hrem fun w' hSt' => ?_
        have hSt1 : St W1 (foots (haRec (w.heap.size + 1) r :: haDef w.heap.size :: LI s i)) (haRec (w.heap.size + 1) (recSt r jump) :: haDef w.heap.size :: LI (stp s x).1 i') w' := by
          refine St.sub (L := haRec (w.heap.size + 1) (recSt r jump) :: M) hSt' ?_
          exact LSub.cons Rem.here hsub
        have hout := St.unround hSt hSt1 (habs _ _ _)
        refine ⟨_, rfl, ?_, ⟨hSt1.near.os, hSt1.near.tape, hSt1.near.output, hSt1.near.size, fun k hk hnot => hSt1.near.block k hk (fun hb => hnot ((hS k).2 hb))⟩, foots (haRec (w.heap.size + 1) (recSt r jump) :: haDef w.heap.size :: LI (stp s x).1 i'), ?_, ?_⟩
        · simp only [stpB]; rw [hstp]
        · rw [hJn]
          refine ⟨i', ?_, fun b => ?_⟩
          · simp only [stpB]; rw [hstp]; exact hout
          · simp only [stpB]; rw [hstp]
        · intro b hb
          rcases (foots_old (B := 0) hSt1 hb).1 with h3 | h3
          · exact .inr h3
          · exact .inl ((hS b).2 h3)
      have hb := hbody (w.heap.size + 1) w.heap.size r W1 s i x vs (roundPost C.P (w.heap.size + 1) R) (by rw [show foots (haRec (w.heap.size + 1) r :: haDef w.heap.size :: LI s i) = S from funext fun b => propext (hS b).symm]; exact hok) ⟨ix, hix, hsx'⟩ hready hSt hend'
      have hb1 := hb _ W1 hfx hSt.round
      refine (roundIn_of_wpIn (F := fc none) (n := 0) trivial ?_ : RoundIn (fc none) 0 C.P (w.heap.size + 1) _ _ _ _ W1 R)
      have e1 : ((r.params.zip vs.toArray).foldl (fun tmps (t, a) => tmps.setIfInBounds t a) r.tmps) = (ps.zip vs).foldl (fun tmps (x : Tmp × Value) => tmps.setIfInBounds x.1 x.2) a.tmps := by
        rw [hr]
        simp only [List.zip_toArray, List.foldl_toArray]
      have e2 : r.assign = assign := by rw [hr]
      have e3 : r.body = body := by rw [hr]
      rw [e1, e2, e3]
      exact hb1
    · rintro ⟨s, j⟩ x hlive hgo
      simp only [stpB] at hgo ⊢
      cases h : (stp s x).2 with
      | none => rfl
      | some c => rw [h] at hgo; simp at hgo
    · rintro ⟨s, j⟩ S W1 b hJ hb
      rw [hJn] at hJ
      obtain ⟨i, hSt, hS⟩ := hJ
      exact (foots_old (B := 0) hSt ((hS b).1 hb)).2
    · rintro ⟨s, j⟩ S W1 W2 hJ hn hk hSb
      rw [hJn] at hJ ⊢
      obtain ⟨i, hSt, hS⟩ := hJ
      have hn' : Near C.w0.heap.size C.hot W1 W2 := ⟨hn.os, hn.tape, hn.output, hn.size, fun k hk' hnot => hn.block k (Nat.lt_of_lt_of_le hk' hSW.near.size) (fun hb => by
        rw [← hS0] at hb
        rcases (foots_old (B := 0) hSW hb).1 with h3 | h3
        · omega
        · exact hnot h3)⟩
      refine ⟨i, ⟨hSt.near.trans hn', fun y hy => (hSt.holds y hy).keep (fun b hb => hk b ((hS b).2 ⟨y, hy, hb⟩)) hn', hSt.sep⟩, hS⟩
  have hit := hiter W (w.heap.size + 1) w.heap.size r hSW _ Jn (stpB stp) (fun t => t.2 = none) (s0, none) (w.heap.size + 1)
  rw [hS0] at hit
  have hJ0 : Jn (s0, none) S0 W := by
    rw [hJn]
    refine ⟨i0, by rw [hr0]; exact hSW, fun b => by rw [hr0, hS0]⟩
  have hcall := hit hcons rfl hJ0
  have hrun := call_run (callable_of hcal) ((Value.func (.yield (w.heap.size + 1)) #[] #[]) :: lb).toArray W
  refine ⟨w.heap.size + 1, [{ target := .collected w.heap.size, args := #[] }], W, { target := .fn (.func gf) lb.toArray, args := #[.func (.yield (w.heap.size + 1)) #[] #[]] }, W, gf, ((Value.func (.yield (w.heap.size + 1)) #[] #[]) :: lb).toArray, W, ?_, ?_, fun _ _ => trivial, ?_, fun h => by simp [fc] at h, ?_⟩
  · rw [← hW, hr]; exact run_enterLoop_outer _ _ _ _ _
  · have h1 := hf.ev hg
    simp only [resolve, h1]
    simp [Deferred.ofValue, Act.eval]
  · simp only [invoke]
    have : (#[Value.func (.yield (w.heap.size + 1)) #[] #[]] ++ lb.toArray) = ((Value.func (.yield (w.heap.size + 1)) #[] #[]) :: lb).toArray := by simp
    rw [this]
    exact hrun
  · refine callsIn_fc.2 (hcall.mono fun e W' ⟨⟨v, he⟩, hn, ys, hys, S', hJ, hS'⟩ => ?_)
    subst he
    rw [runsB_runsJ, hJn] at hJ
    obtain ⟨i, hSt, hS⟩ := hJ
    have hrec : W'.heap[w.heap.size + 1]? = some (.loop (recSt r (runsJ stp s0 ys).2)) := hSt.head.2.1
    have hpend : (recSt r (runsJ stp s0 ys).2).pending = (runsJ stp s0 ys).2 := by cases (runsJ stp s0 ys).2 <;> rfl
    have hbz : (recSt r (runsJ stp s0 ys).2).state ≠ .busy := by cases (runsJ stp s0 ys).2 <;> simp [recSt]
    have hfm : Fits C.n (C.mark w.heap.size).ds F { a with defers := [{ target := .collected w.heap.size, args := #[] }] ++ a.defers } := ⟨by simp [Cx.mark, hf.dfr], hf.size, hf.get⟩
    have hStm := (st_putObj hSt (o' := .loop { recSt r (runsJ stp s0 ys).2 with state := .exhausted }) Upd.here).tail
    refine ⟨_, _, run_endLoop hrec hbz, ?_⟩
    rw [hpend]
    cases hj : (runsJ stp s0 ys).2 with
    | none =>
      have := hend w.heap.size i ys hys hj _ _ hfm (by rw [hj] at hStm; exact hStm)
      rw [kpost_mark] at this
      exact this
    | some c =>
      have := hjump w.heap.size i ys c hys hj _ _ hfm (by rw [hj] at hStm; exact hStm)
      rw [kpost_mark] at this
      rw [show (C.mark w.heap.size).rd = none from hrd] at this
      exact this
end
end Eng
end Go.Proofs.Ytagndgidfaladaa

/-
  A consumer, seen from a later world; iterators that call themselves.
-/
namespace Go.Proofs.Ytagndgidfaladaa
namespace Eng
open Go.RowKit
set_option linter.unusedVariables false
theorem Near.chain {W w w1 : World} {S0 S : Nat → Prop} (h : Near W.heap.size S0 W w) (hS : ∀ b, S b → S0 b ∨ W.heap.size ≤ b) (h1 : Near w.heap.size S w w1) : Near W.heap.size S0 W w1 :=
  h.trans ⟨h1.os, h1.tape, h1.output, h1.size, fun k hk hn => h1.block k (Nat.lt_of_lt_of_le hk h.size) (fun hb => (hS k hb).elim hn (fun h2 => by omega))⟩
theorem ConsumerW.later {τ α : Type} {P : Program} {W w : World} {S0 S : Nat → Prop} {l : Nat} {encW : α → (Nat → Prop) → List Value → World → Prop} {Jn : τ → (Nat → Prop) → World → Prop} {stp : τ → α → τ × Bool} {live : τ → Prop} {att : τ → α → Prop}
    (h : ConsumerW P W S0 l encW Jn stp live att) (hn : Near W.heap.size S0 W w) (hS : ∀ b, S b → S0 b ∨ W.heap.size ≤ b) : ConsumerW P w S l encW Jn stp live att where
  step := fun s S1 x vs w1 he hl ha hJ hn1 => h.step s S1 x vs w1 he hl ha hJ (Near.chain hn hS hn1)
  goes := h.goes
  lt := h.lt
  stab := fun s S1 w1 w2 hJ hn1 hk hS1 => h.stab s S1 w1 w2 hJ (hn1.mono hn.size fun k hk hs => (hS k hs).resolve_right (by omega)) hk (fun b hb => (hS1 b hb).elim (hS b) (fun h2 => .inr (Nat.le_trans hn.size h2)))
end Eng
end Go.Proofs.Ytagndgidfaladaa

/-
  The least of three; elements of array values; bytes compared.
-/
namespace Go.Proofs.Ytagndgidfaladaa
namespace Eng
open Go.RowKit
set_option linter.unusedVariables false
set_option linter.unusedSimpArgs false
section
variable {C : Cx} {F : Fr} {L : List HA} {o : Oper} {x y z : Operand} {t u v : TypeId} {k : IntKind} {a b c : Int}
theorem q_min3 {r : Int} (ho : o.op = .call { callee := .builtin .min, args := #[x, y, z], argTypes := #[t, u, v] }) (hx : ev F x = some (.int k a)) (hy : ev F y = some (.int k b)) (hz : ev F z = some (.int k c)) (hr : min (min a b) c = r) : Qv C o F L (.int k r) :=
  .of_run fun ac w hf hs => by
    have h1 := run_min_int3 (P := C.P) w #[t, u, v] o.type k k k a b c
    have h2 : (if c < (if b < a then b else a) then c else (if b < a then b else a)) = r := by rw [← hr]; split <;> split <;> omega
    rw [h2] at h1
    simp [execOp, ho, resolve, invoke, builtin, hf.ev hx, hf.ev hy, hf.ev hz, h1]
theorem q_min2 {r : Int} (ho : o.op = .call { callee := .builtin .min, args := #[x, y], argTypes := #[t, u] }) (hx : ev F x = some (.int k a)) (hy : ev F y = some (.int k b)) (hr : min a b = r) : Qv C o F L (.int k r) :=
  q_minr ho hx hy (by rw [← hr]; split <;> omega)
theorem q_index_aggV {ti te : TI} {e n : Nat} {cs : List Value} {i : Int} {w1 : Value} (m : Nat) (ho : o.op = .index t x y) (ht : tget C.tab t = some ti) (hk : ti.kind = .arr n e 1) (hte : tget C.tab e = some te) (hag : te.kind.agg = false) (hx : ev F x = some (.agg cs.toArray)) (hy : ev F y = some (.int k i)) (hi : i = (m : Int) ∧ m < n) (hv : cs[m]? = some w1) : Qv C o F L w1 :=
  .of_run fun ac w hf hs => by
    obtain ⟨rfl, hm⟩ := hi
    obtain ⟨hu, ie, h3, h4⟩ := tk_arr (C.ok.get ht) hk
    have h5 := tk_isAgg (C.ok.get hte) w
    rw [hag] at h5
    have h6 : cs.toArray[m]? = some w1 := by simpa using hv
    have hm2 : (m : Int) < (n : Int) := by omega
    simp [execOp, ho, hf.ev hx, hf.ev hy, Instr.index, asIntOf, run_underlying hu, hm2, part, h5, sizeOf, typeInfo, h3, h4, hm, hv]
end
end Eng
end Go.Proofs.Ytagndgidfaladaa

/-
  Ranges over functions whose bodies write an outer loop's things.
-/
namespace Go.Proofs.Ytagndgidfaladaa
namespace Eng
open Go.RowKit
set_option linter.unusedVariables false
theorem St.unroundN {w0 w w' : World} {hot : Nat → Prop} {L L' : List HA} (h : St w0 hot L w) (h' : St w (foots L) L' w') (habs : ∀ S p, HA.abs S p ∈ L' → ∀ u u', p u → Near w0.heap.size hot u u' → (∀ b, S b → u'.heap[b]? = u.heap[b]?) → (∀ b, S b → w0.heap.size ≤ b ∨ hot b) → p u') : St w0 hot L' w' := by
  have hn : Near w0.heap.size hot w w' := ⟨h'.near.os, h'.near.tape, h'.near.output, h'.near.size, fun k hk hnot => h'.near.block k (Nat.lt_of_lt_of_le hk h.near.size) (fun hf => by
      rcases (foots_old (B := 0) h hf).1 with h3 | h3
      · omega
      · exact hnot h3)⟩
  have hft : ∀ b, (w.heap.size ≤ b ∨ foots L b) → w0.heap.size ≤ b ∨ hot b := fun b hb => by
    rcases hb with h3 | h3
    · exact .inl (Nat.le_trans h.near.size h3)
    · exact (foots_old (B := 0) h h3).1
  refine ⟨h.near.trans hn, fun x hx => ?_, h'.sep⟩
  have hx' := h'.holds x hx
  cases x with
  | cells b t cs => exact ⟨hft b hx'.1, hx'.2⟩
  | own v e sz n xs => exact ⟨fun b hb => hft b (hx'.1 b hb), hx'.2⟩
  | abs S p => exact ⟨fun b hb => ⟨hft b (hx'.1 b hb).1, (hx'.1 b hb).2⟩, hx'.2.1, fun w'' hn hk => habs S p hx _ _ hx'.2.1 hn hk (fun b hb => hft b (hx'.1 b hb).1)⟩
  | pure p => exact hx'
section
variable {C : Cx} {F : Fr} {L : List HA} {K : List KI}
/-- 'for x := range g { body }'. -/
theorem sc_rangeN {σ ξ α : Type} {g : Operand} {ps : List Tmp} {assign body : Code} {gf : Nat} {lb : List Value} (encW : α → (Nat → Prop) → List Value → World → Prop) (Pre Ys : List α → Prop) (stp : σ → α → σ × Option Code) (LI : σ → ξ → List HA) (s0 : σ) (i0 : ξ) (G : σ → Prop) (hG0 : G s0) (hGs : ∀ s x, G s → (stp s x).2 = none → G (stp s x).1)
    (hrd : C.rd = none) (hg : ev F g = some (.func (.func gf) #[] lb.toArray)) (hcal : has C.fns gf = true) (hps : ∀ x S vs w, encW x S vs w → vs.length = ps.length) (hpn : ∀ p ∈ ps, p < C.n) (hL : LSub (LI s0 i0) L)
    (hab : ∀ s i S p, HA.abs S p ∈ LI s i → ∀ u u', p u → Near C.w0.heap.size C.hot u u' → (∀ b, S b → u'.heap[b]? = u.heap[b]?) → (∀ b, S b → C.w0.heap.size ≤ b ∨ C.hot b) → p u')
    (hiter : ∀ w l D r, St C.w0 C.hot (haRec l r :: haDef D :: LI s0 i0) w → IteratesP C.P gf lb encW Pre Ys w (foots (haRec l r :: haDef D :: LI s0 i0)))
    (hbody : ∀ (l D : Nat) (r : Loop) (W1 : World) (s : σ) (i : ξ) (x : α) (vs : List Value) (Q : Exit → Act → World → Prop), G s → encW x (foots (haRec l r :: haDef D :: LI s i)) vs W1 → (∃ pre, Pre (pre ++ [x]) ∧ s = pre.foldl (fun s y => (stp s y).1) s0) → r.state = .ready → St C.w0 C.hot (haRec l r :: haDef D :: LI s i) W1 →
      (∀ (e : Exit) (jump : Option Code) (i' : ξ) (F' : Fr) (L' M : List HA), jumpOf e = some jump → (stp s x).2 = jump → Rem L' (haRec l { r with state := .busy }) M → LSub (haDef D :: LI (stp s x).1 i') M → SQ (C.inRound l Q W1 (foots (haRec l r :: haDef D :: LI s i))) e [] F' L') →
      SC (C.inRound l Q W1 (foots (haRec l r :: haDef D :: LI s i))) assign [.fin (roundStart (C.inRound l Q W1 (foots (haRec l r :: haDef D :: LI s i))) l body)] (parFr ps vs F) (haRec l r :: haDef D :: LI s i))
    (hend : ∀ D i ys, Ys ys → (runsJ stp s0 ys).2 = none → SQ (C.mark D) .normal K F (haDef D :: LI (runsJ stp s0 ys).1 i))
    (hjump : ∀ D i ys c, Ys ys → (runsJ stp s0 ys).2 = some c → SC (C.mark D) c K F (haDef D :: LI (runsJ stp s0 ys).1 i)) : SC C (.rangeFunc g ps.toArray assign body) K F L := by
  intro a w hf hs
  rw [hrd]
  have hs0 := hs.sub hL
  refine wpIn_rangeFunc fun fn _ => ?_
  obtain ⟨r, hr⟩ : ∃ r : Loop, r = { state := .ready, pending := none, fn, tmps := a.tmps, params := ps.toArray, assign, body, defers := w.heap.size } := ⟨_, rfl⟩
  obtain ⟨W, hW⟩ : ∃ W, (w.alloc (.deferred (some []))).alloc (.loop r) = W := ⟨_, rfl⟩
  have hSW : St C.w0 C.hot (haRec (w.heap.size + 1) r :: haDef w.heap.size :: LI s0 i0) W := by
    have h1 : St C.w0 C.hot (haDef w.heap.size :: LI s0 i0) (w.alloc (.deferred (some []))) :=
      hs0.alloc _ (fun b hb => hb) (haObj_holds (.inl hs0.near.size) (World.alloc_heap_new w _))
    have h2 := World.alloc_heap_new (w.alloc (.deferred (some []))) (.loop r)
    rw [World.size_alloc] at h2
    rw [← hW]
    refine h1.alloc _ (fun b hb => by rw [World.size_alloc]; exact hb) (haObj_holds (.inl (by have := hs0.near.size; omega)) h2)
  obtain ⟨S0, hS0⟩ : ∃ S0, foots (haRec (w.heap.size + 1) r :: haDef w.heap.size :: LI s0 i0) = S0 := ⟨_, rfl⟩
  have hready : r.state = .ready := by rw [hr]
  have hr0 : recSt r none = r := by rw [hr]; rfl
  -- the loop's own state, as an iterator sees it
  obtain ⟨Jn, hJn⟩ : ∃ Jn : σ × Option Code → (Nat → Prop) → World → Prop, Jn = fun t S w' => ∃ i, St C.w0 C.hot (haRec (w.heap.size + 1) (recSt r t.2) :: haDef w.heap.size :: LI t.1 i) w' ∧ ∀ b, S b ↔ foots (haRec (w.heap.size + 1) (recSt r t.2) :: haDef w.heap.size :: LI t.1 i) b := ⟨_, rfl⟩
  have habs : ∀ (rr : Loop) s i S p, HA.abs S p ∈ (haRec (w.heap.size + 1) rr :: haDef w.heap.size :: LI s i) → ∀ u u' : World, p u → Near C.w0.heap.size C.hot u u' → (∀ b, S b → u'.heap[b]? = u.heap[b]?) → (∀ b, S b → C.w0.heap.size ≤ b ∨ C.hot b) → p u' := by
    intro rr s i S p hm u u' hp hn hk hb9
    rcases List.mem_cons.1 hm with hm | hm
    · unfold haRec at hm
      injection hm with h1 h2
      subst h1; subst h2
      exact (hk _ rfl).trans hp
    · rcases List.mem_cons.1 hm with hm | hm
      · unfold haDef at hm
        injection hm with h1 h2
        subst h1; subst h2
        exact (hk _ rfl).trans hp
      · exact hab s i S p hm u u' hp hn hk hb9
  have hcons : ConsumerW C.P W S0 (w.heap.size + 1) encW Jn (stpB stp) (fun t => t.2 = none ∧ G t.1) (fun t x => ∃ pre, Pre (pre ++ [x]) ∧ t = trc (stpB stp) (s0, none) pre) := by
    refine ⟨?_, ?_, ?_, ?_⟩
    · rintro ⟨s, j⟩ S x vs W1 hok hlive ⟨ix, hix, hsx⟩ hJ hn
      have hsx' := congrArg Prod.fst hsx
      rw [trc_stpB] at hsx'
      obtain ⟨hlive, hgs⟩ := hlive
      simp only at hlive hgs
      subst hlive
      rw [hJn] at hJ
      obtain ⟨i, hSt, hS⟩ := hJ
      rw [hr0] at hSt hS
      have hrec : W1.heap[w.heap.size + 1]? = some (.loop r) := hSt.head.2.1
      refine ⟨_, _, _, _, run_yield (P := C.P) hrec (by rw [hr]; simp [hps x _ _ _ hok]), ?_⟩
      let R : Ending → World → Prop := fun e w' => ∃ v, e = .returned v ∧ (v = .bool (stpB stp (s, none) x).2 ∧ Near W1.heap.size S W1 w' ∧ ∃ S', Jn (stpB stp (s, none) x).1 S' w' ∧ ∀ b, S' b → S b ∨ W1.heap.size ≤ b)
      have hfx : Fits C.n [] (parFr ps vs F) ⟨(ps.zip vs).foldl (fun tmps (x : Tmp × Value) => tmps.setIfInBounds x.1 x.2) a.tmps, []⟩ :=
        parFr_fits ps vs F C.n [] a.tmps hpn ⟨rfl, hf.size, hf.get⟩
      have hend' : ∀ (e : Exit) (jump : Option Code) (i' : ξ) (F' : Fr) (L' M : List HA), jumpOf e = some jump → (stp s x).2 = jump → Rem L' (haRec (w.heap.size + 1) { r with state := .busy }) M → LSub (haDef w.heap.size :: LI (stp s x).1 i') M →
          SQ (C.inRound (w.heap.size + 1) (roundPost C.P (w.heap.size + 1) R) W1 (foots (haRec (w.heap.size + 1) r :: haDef w.heap.size :: LI s i))) e [] F' L' := by
        intro e jump i' F' L' M hj hstp hrem hsub
        refine sq_round (R := R) rfl rfl hj hrem fun w' hSt' => ?_
        have hSt1 : St W1 (foots (haRec (w.heap.size + 1) r :: haDef w.heap.size :: LI s i)) (haRec (w.heap.size + 1) (recSt r jump) :: haDef w.heap.size :: LI (stp s x).1 i') w' := by
          refine St.sub (L := haRec (w.heap.size + 1) (recSt r jump) :: M) hSt' ?_
          exact LSub.cons Rem.here hsub
        have hout := St.unroundN hSt hSt1 (habs _ _ _)
        refine ⟨_, rfl, ?_, ⟨hSt1.near.os, hSt1.near.tape, hSt1.near.output, hSt1.near.size, fun k hk hnot => hSt1.near.block k hk (fun hb => hnot ((hS k).2 hb))⟩, foots (haRec (w.heap.size + 1) (recSt r jump) :: haDef w.heap.size :: LI (stp s x).1 i'), ?_, ?_⟩
        · simp only [stpB]; rw [hstp]
        · rw [hJn]
          refine ⟨i', ?_, fun b => ?_⟩
          · simp only [stpB]; rw [hstp]; exact hout
          · simp only [stpB]; rw [hstp]
        · intro b hb
          rcases (foots_old (B := 0) hSt1 hb).1 with h3 | h3
          · exact .inr h3
          · exact .inl ((hS b).2 h3)
      have hb := hbody (w.heap.size + 1) w.heap.size r W1 s i x vs (roundPost C.P (w.heap.size + 1) R) hgs (by rw [show foots (haRec (w.heap.size + 1) r :: haDef w.heap.size :: LI s i) = S from funext fun b => propext (hS b).symm]; exact hok) ⟨ix, hix, hsx'⟩ hready hSt hend'
      have hb1 := hb _ W1 hfx hSt.round
      refine (roundIn_of_wpIn (F := fc none) (n := 0) trivial ?_ : RoundIn (fc none) 0 C.P (w.heap.size + 1) _ _ _ _ W1 R)
      have e1 : ((r.params.zip vs.toArray).foldl (fun tmps (t, a) => tmps.setIfInBounds t a) r.tmps) = (ps.zip vs).foldl (fun tmps (x : Tmp × Value) => tmps.setIfInBounds x.1 x.2) a.tmps := by
        rw [hr]
        simp only [List.zip_toArray, List.foldl_toArray]
      have e2 : r.assign = assign := by rw [hr]
      have e3 : r.body = body := by rw [hr]
      rw [e1, e2, e3]
      exact hb1
    · rintro ⟨s, j⟩ x hlive hgo
      simp only [stpB] at hgo ⊢
      cases h : (stp s x).2 with
      | none => exact ⟨rfl, hGs _ _ hlive.2 h⟩
      | some c => rw [h] at hgo; simp at hgo
    · rintro ⟨s, j⟩ S W1 b hJ hb
      rw [hJn] at hJ
      obtain ⟨i, hSt, hS⟩ := hJ
      exact (foots_old (B := 0) hSt ((hS b).1 hb)).2
    · rintro ⟨s, j⟩ S W1 W2 hJ hn hk hSb
      rw [hJn] at hJ ⊢
      obtain ⟨i, hSt, hS⟩ := hJ
      have hn' : Near C.w0.heap.size C.hot W1 W2 := ⟨hn.os, hn.tape, hn.output, hn.size, fun k hk' hnot => hn.block k (Nat.lt_of_lt_of_le hk' hSW.near.size) (fun hb => by
        rw [← hS0] at hb
        rcases (foots_old (B := 0) hSW hb).1 with h3 | h3
        · omega
        · exact hnot h3)⟩
      refine ⟨i, ⟨hSt.near.trans hn', fun y hy => (hSt.holds y hy).keep (fun b hb => hk b ((hS b).2 ⟨y, hy, hb⟩)) hn', hSt.sep⟩, hS⟩
  have hit := hiter W (w.heap.size + 1) w.heap.size r hSW _ Jn (stpB stp) (fun t => t.2 = none ∧ G t.1) (s0, none) (w.heap.size + 1)
  rw [hS0] at hit
  have hJ0 : Jn (s0, none) S0 W := by
    rw [hJn]
    refine ⟨i0, by rw [hr0]; exact hSW, fun b => by rw [hr0, hS0]⟩
  have hcall := hit hcons ⟨rfl, hG0⟩ hJ0
  have hrun := call_run (callable_of hcal) ((Value.func (.yield (w.heap.size + 1)) #[] #[]) :: lb).toArray W
  refine ⟨w.heap.size + 1, [{ target := .collected w.heap.size, args := #[] }], W, { target := .fn (.func gf) lb.toArray, args := #[.func (.yield (w.heap.size + 1)) #[] #[]] }, W, gf, ((Value.func (.yield (w.heap.size + 1)) #[] #[]) :: lb).toArray, W, ?_, ?_, fun _ _ => trivial, ?_, fun h => by simp [fc] at h, ?_⟩
  · rw [← hW, hr]; exact run_enterLoop_outer _ _ _ _ _
  · have h1 := hf.ev hg
    simp only [resolve, h1]
    simp [Deferred.ofValue, Act.eval]
  · simp only [invoke]
    have : (#[Value.func (.yield (w.heap.size + 1)) #[] #[]] ++ lb.toArray) = ((Value.func (.yield (w.heap.size + 1)) #[] #[]) :: lb).toArray := by simp
    rw [this]
    exact hrun
  · refine callsIn_fc.2 (hcall.mono fun e W' ⟨⟨v, he⟩, hn, ys, hys, S', hJ, hS'⟩ => ?_)
    subst he
    rw [runsB_runsJ, hJn] at hJ
    obtain ⟨i, hSt, hS⟩ := hJ
    have hrec : W'.heap[w.heap.size + 1]? = some (.loop (recSt r (runsJ stp s0 ys).2)) := hSt.head.2.1
    have hpend : (recSt r (runsJ stp s0 ys).2).pending = (runsJ stp s0 ys).2 := by cases (runsJ stp s0 ys).2 <;> rfl
    have hbz : (recSt r (runsJ stp s0 ys).2).state ≠ .busy := by cases (runsJ stp s0 ys).2 <;> simp [recSt]
    have hfm : Fits C.n (C.mark w.heap.size).ds F { a with defers := [{ target := .collected w.heap.size, args := #[] }] ++ a.defers } := ⟨by simp [Cx.mark, hf.dfr], hf.size, hf.get⟩
    have hStm := (st_putObj hSt (o' := .loop { recSt r (runsJ stp s0 ys).2 with state := .exhausted }) Upd.here).tail
    refine ⟨_, _, run_endLoop hrec hbz, ?_⟩
    rw [hpend]
    cases hj : (runsJ stp s0 ys).2 with
    | none =>
      have := hend w.heap.size i ys hys hj _ _ hfm (by rw [hj] at hStm; exact hStm)
      rw [kpost_mark] at this
      exact this
    | some c =>
      have := hjump w.heap.size i ys c hys hj _ _ hfm (by rw [hj] at hStm; exact hStm)
      rw [kpost_mark] at this
      rw [show (C.mark w.heap.size).rd = none from hrd] at this
      exact this
end
end Eng
end Go.Proofs.Ytagndgidfaladaa

/-
  A new beginning in the middle of an iterator: all but what the outer loop writes is only read from here on.
-/
namespace Go.Proofs.Ytagndgidfaladaa
namespace Eng
open Go.RowKit
set_option linter.unusedVariables false
def Cx.nowA (C : Cx) (w1 : World) (S : Nat → Prop) : Cx := ⟨C.P, C.tab, C.ok, C.fns, C.fok, C.fn, C.R, C.rs, C.hrs, C.Qr, w1, C.n, S, C.rd, C.ds⟩
theorem kpost_nowA (C : Cx) (w1 : World) (S : Nat → Prop) : ∀ K, kpost (C.nowA w1 S) K = kpost C K
  | [] => rfl
  | .seq c :: K => by simp only [kpost, kpost_nowA C w1 S K]; rfl
  | .blk id :: K => by simp only [kpost, kpost_nowA C w1 S K]
  | .loop J :: K => by simp only [kpost, kpost_nowA C w1 S K]
  | .fin J :: K => rfl
section
variable {C : Cx} {F : Fr} {L : List HA} {K : List KI}
theorem sc_nowA {c : Code} {S : Nat → Prop} {p : World → Prop} (hin : InL L (.abs S p)) (h : ∀ w1, St C.w0 C.hot L w1 → SC ⟨C.P, C.tab, C.ok, C.fns, C.fok, C.fn, C.R, C.rs, C.hrs, C.Qr, w1, C.n, S, C.rd, C.ds⟩ c K F [.abs S p]) : SC C c K F L := fun a w hf hs => by
  have hA := hs.at hin
  have h1 : St w S [.abs S p] w := by
    refine ⟨Near.refl _ _ _, fun y hy => ?_, List.pairwise_singleton _ _⟩
    rw [List.mem_singleton] at hy
    subst hy
    refine ⟨fun b hb => ⟨.inr hb, (hA.1 b hb).2⟩, hA.2.1, fun w' hn hk => hA.2.2 w' ⟨hn.os, hn.tape, hn.output, hn.size, fun k hk9 hnot => hn.block k (Nat.lt_of_lt_of_le hk9 hs.near.size) (fun hS => ?_)⟩ hk⟩
    rcases (hA.1 k hS).1 with h3 | h3
    · omega
    · exact hnot h3
  have := h w hs a w hf h1
  have e : kpost (C.nowA w S) K = kpost C K := kpost_nowA C w S K
  unfold Cx.nowA at e
  rwa [e] at this
end
end Eng
end Go.Proofs.Ytagndgidfaladaa

/-
  clear of the end of an own row.
-/
namespace Go.Proofs.Ytagndgidfaladaa
namespace Eng
open Go.RowKit
set_option linter.unusedVariables false
set_option linter.unusedSimpArgs false
section
variable {L : List HA}
theorem cells_own {w0 w : World} {hot : Nat → Prop} {L' : List HA} {P : Program} {ad : Addr} {n c e sz p : Nat} {xs : List Value} {cs : List Value} (hs : St w0 hot L w) (hin : InL L (.own (.slice (some ad) n c) e sz n xs))
    (h1 : ones cs = true) (hp : p + cs.length ≤ xs.length) (hup : Upd L (.own (.slice (some ad) n c) e sz n xs) (.own (.slice (some ad) n c) e sz n (splice xs p cs)) L') :
    ∃ w', (storeCells (ad.add p) cs).run P w = .ok () w' ∧ St w0 hot L' w' := by
  obtain ⟨g, cur, rfl, hg, hcs, hnc, hcm, htk, hxl⟩ := own_parts hs hin
  have hA := hs.at hin
  have hle : n * sz ≤ c * sz := Nat.mul_le_mul_right _ hnc
  have hp' : p + cs.length ≤ cur.size := by omega
  have hst := run_storeCells_at (P := P) g p e cs 0 cur w hg (by simpa using hp') (ones_all h1)
  simp only [Nat.add_zero] at hst
  have hcl : (cur.toList.take p ++ cs ++ cur.toList.drop (p + cs.length)).length = cur.size := by simp; omega
  refine ⟨w.setRow g (cur.toList.take p ++ cs ++ cur.toList.drop (p + cs.length)).toArray, ?_, ?_⟩
  · rw [add_own, Nat.zero_add]
    exact hst
  · have hfoot : ∀ b, (HA.own (.slice (some ⟨g, 0, none⟩) n c) e sz n xs).foot b ↔ b = g := fun b => by
      simp only [HA.foot, Value.ownBlock, Option.some.injEq]
      exact eq_comm
    refine hs.upd hup ⟨rfl, rfl, rfl, by simp [World.setRow], fun k hk => by omega⟩ (fun b hb hne => setRow_other w g b _ (fun e => hne ((hfoot b).2 e))) ⟨hA.1, ?_, .inr ⟨g, c, _, rfl, Nat.zero_le _, setRow_heap w g cur _ e _ hg, hnc, hcm, by rw [List.size_toArray, hcl, hcs], ?_⟩⟩ (fun b hb => .inl hb)
    · rw [splice_length _ _ _ hp]; exact hxl
    · rw [splice_eq _ _ _ hp, ← htk]
      simp only [List.take_append, List.length_append, List.length_take, List.length_drop, Array.length_toList]
      rw [hxl] at hp
      rw [List.take_of_length_le (by simp; omega)]
      rw [List.take_take, List.drop_take]
      rw [show min p (n * sz) = p from by omega, show min p cur.size = p from by omega]
      congr 2
      rw [List.take_of_length_le (by omega)]
end
section
variable {C : Cx} {F : Fr} {L : List HA} {o : Oper} {K : List KI} {ops : Array Oper} {rest : List Oper}
theorem ones_of : ∀ {l : List Value}, (∀ v ∈ l, v.oneCell' = true) → ones l = true
  | [], h => rfl
  | x :: l, h => by
    unfold ones
    rw [h x List.mem_cons_self]
    exact ones_of fun v hv => h v (List.mem_cons_of_mem _ hv)
theorem j_clear {t e sz by_ n c k k9 p : Nat} {s : Operand} {ti te : TI} {ad : Addr} {xs : List Value} (ho : o.op = .call { callee := .builtin .clear, args := #[s], argTypes := #[t] }) (hg : o.guard = none) (hd : o.dst = none) (ht : tget C.tab t = some ti) (hk : ti.kind = .slice e sz by_)
    (hte : tget C.tab e = some te) (h1 : ones te.zero = true) (hs : ev F s = some (.slice (some (ad.add p)) k k9)) (hk0 : 0 < k) (hin : InL L (.own (.slice (some ad) n c) e sz n xs)) (hp : p + k * len te.zero ≤ xs.length) {L' : List Value → List HA}
    (hup : ∀ cs, Upd L (.own (.slice (some ad) n c) e sz n xs) (.own (.slice (some ad) n c) e sz n (splice xs p cs)) (L' cs)) (h : ∀ cs, cs.length = k * len te.zero → J C ops false rest K F (L' cs)) : J C ops false (o :: rest) K F L := by
  intro a w hf hS
  obtain ⟨hu, ie, hie, hsz, _⟩ := tk_slice (C.ok.get ht) hk
  obtain ⟨i, z, hi, hz, hzc, _, _⟩ := zero_cells (C.ok.get hte)
  obtain ⟨cs, hcs⟩ : ∃ cs, cs = (Builtin.zeroCells z.cells k).toList := ⟨_, rfl⟩
  have hlen : cs.length = k * len te.zero := by
    rw [hcs, hzc, len_eq]
    simp [Builtin.zeroCells]
  have hones : ∀ u ∈ cs, u.oneCell' = true := fun u hu9 => by
    rw [hcs, hzc] at hu9
    simp only [Builtin.zeroCells, Array.toList_map, List.mem_map, Array.toList_range, List.mem_range, List.size_toArray] at hu9
    obtain ⟨j, hj, rfl⟩ := hu9
    have hpos : 0 < te.zero.length := by
      rcases Nat.eq_zero_or_pos te.zero.length with e0 | e0
      · rw [e0, Nat.mul_zero] at hj; omega
      · exact e0
    have hlt := Nat.mod_lt j hpos
    have e9 : te.zero.toArray[j % te.zero.length]! = te.zero[j % te.zero.length] := by simp [hlt]
    rw [e9]
    exact ones_all h1 _ (List.getElem_mem hlt)
  obtain ⟨w', hr, hS'⟩ := cells_own (P := C.P) (cs := cs) (p := p) hS hin (ones_of hones) (by rw [hlen]; exact hp) (hup cs)
  obtain ⟨m, rfl⟩ : ∃ m, k = m + 1 := ⟨k - 1, by omega⟩
  have hrun : (execOp a.eval o).run C.P w = .ok (.value (.tuple #[])) w' := by
    have hzv : (zeroValue e).run C.P w = .ok z w := by simp [zeroValue, typeInfo, hi, hz]
    rw [hcs] at hr
    simp [execOp, ho, resolve, invoke, builtin, hf.ev hs, Builtin.clear_, run_underlying hu, hzv, hr]
  refine wpListIn_run (by simp [Region.wanted, hg]) (wpIn_value hrun ?_)
  rw [hd]
  exact h cs hlen _ _ (hf.put_none _) hS'
end
end Eng
end Go.Proofs.Ytagndgidfaladaa

/-
  Maps keyed by strings: a list of pairs, in the order in which they came.
-/
namespace Go.Proofs.Ytagndgidfaladaa
namespace Eng
open Go.RowKit
set_option linter.unusedVariables false
theorem bytes_beq (u v : List UInt8) : ((ByteArray.mk u.toArray) == (ByteArray.mk v.toArray)) = decide (u = v) := by
  show (u.toArray == v.toArray) = _
  by_cases h : u = v
  · rw [decide_eq_true h, h]; simp
  · rw [decide_eq_false h]; simpa using h
theorem sfind_spec (k : List UInt8) : ∀ (l : List MapEntry) (M : List (List UInt8 × Value)) (n : Nat), pairs l = kpairs strV M →
    (klk M k = none → Instr.findNow .string (strV k) l n = some none ∧ ∀ v, kpairs strV (kset M k v) = kpairs strV M ++ [(strV k, v)]) ∧
    (∀ v, klk M k = some v → ∃ i, Instr.findNow .string (strV k) l n = some (some (n + i, v)) ∧ i < l.length ∧ (∃ e, l[i]? = some e ∧ e.key = strV k) ∧ ∀ v', pairs (l.modify i fun e => { e with key := strV k, val := v' }) = kpairs strV (kset M k v'))
  | [], M, n, h => by
    cases M with
    | nil => exact ⟨fun _ => ⟨rfl, fun v => rfl⟩, fun v hv => by simp [klk] at hv⟩
    | cons p M => simp [pairs, kpairs] at h
  | e :: l, M, n, h => by
    cases M with
    | nil => simp [pairs, kpairs] at h
    | cons p M =>
      obtain ⟨k', u⟩ := p
      simp only [pairs, kpairs, List.map_cons, List.cons.injEq, Prod.mk.injEq] at h
      obtain ⟨⟨h1, h2⟩, h3⟩ := h
      have ih := sfind_spec k l M (n + 1) h3
      have hsn : Instr.sameNow .string (strV k) (strV k') = some (decide (k = k')) := by
        unfold Instr.sameNow
        exact congrArg some (bytes_beq k k')
      by_cases hk : k' = k
      · subst hk
        rw [decide_eq_true rfl] at hsn
        refine ⟨fun hn => by simp [klk] at hn, fun v hv => ?_⟩
        simp only [klk, if_true, Option.some.injEq] at hv
        refine ⟨0, ?_, by simp, ⟨e, rfl, h1⟩, fun v' => ?_⟩
        · unfold Instr.findNow
          rw [h1, hsn, h2, hv]
          rfl
        · simp only [kset, if_true]
          simp only [pairs, kpairs] at h3 ⊢
          simp [List.modify, List.modifyTailIdx, List.modifyTailIdx.go, h3]
      · rw [decide_eq_false (fun e => hk e.symm)] at hsn
        have hnow : Instr.findNow .string (strV k) (e :: l) n = Instr.findNow .string (strV k) l (n + 1) := by
          conv => lhs; unfold Instr.findNow
          rw [h1, hsn]
        refine ⟨fun hn => ?_, fun v hv => ?_⟩
        · simp only [klk, if_neg hk] at hn
          obtain ⟨a1, a2⟩ := ih.1 hn
          refine ⟨hnow.trans a1, fun v => ?_⟩
          have := a2 v
          simp only [kpairs] at this ⊢
          simp [kset, if_neg hk, this]
        · simp only [klk, if_neg hk] at hv
          obtain ⟨i, a1, a2, a3, a4⟩ := ih.2 v hv
          refine ⟨i + 1, ?_, by simp; omega, ?_, fun v' => ?_⟩
          · rw [hnow, a1]; congr 3; omega
          · simpa using a3
          · have := a4 v'
            simp only [pairs, kpairs] at this ⊢
            simp [kset, if_neg hk, this, h1, h2]
theorem run_checkKeyS_ {P : Program} {t : TypeId} (h : P.underlying t = some .string) (b : Bool) (k : List UInt8) (w : World) (n : Nat) : (Instr.checkKey b (n + 1) t (strV k)).run P w = .ok () w := by
  simp [Instr.checkKey, run_underlying h]
theorem run_checkKeyS {P : Program} {t : TypeId} (h : P.underlying t = some .string) (b : Bool) (k : List UInt8) (w : World) : (Instr.checkKey b 10000 t (strV k)).run P w = .ok () w := run_checkKeyS_ h b k w 9999
theorem run_slookup {P : Program} {t kt et : TypeId} {ti te : TI} (ht : TIok P t ti) (hk : ti.kind = .map kt et) (hu : P.underlying kt = some .string) (hte : TIok P et te) {w : World} {b : Nat} {M : List (List UInt8 × Value)} {ob : Obj}
    (hb : w.heap[b]? = some ob) (hM : kmapOk strV M ob) (k : List UInt8) (ok : Bool) :
    (Instr.lookup t (.map (some b)) (strV k) ok).run P w = .ok (if ok then .tuple #[(klk M k).getD te.zv, .bool (klk M k).isSome] else (klk M k).getD te.zv) w := by
  obtain ⟨es, clk, rfl, hp, _, _⟩ := hM
  have h1 := tk_map ht hk
  have hs := sfind_spec k es.toList M 0 hp
  have hget : (getObj b).run P w = .ok (.map es clk) w := by simp [getObj, Sem.run, hb]
  cases hm : klk M k with
  | none =>
    obtain ⟨a1, _⟩ := hs.1 hm
    have hf : (Instr.findKey kt (strV k) es.toList).run P w = .ok none w := by simp [Instr.findKey, run_underlying hu, a1]
    simp [Instr.lookup, run_underlying h1, hget, run_checkKeyS hu, hf, run_zeroValue hte]
  | some v =>
    obtain ⟨i, a1, _⟩ := hs.2 v hm
    have hf : (Instr.findKey kt (strV k) es.toList).run P w = .ok (some (0 + i, v)) w := by simp [Instr.findKey, run_underlying hu, a1]
    simp [Instr.lookup, run_underlying h1, hget, run_checkKeyS hu, hf]
theorem run_smapUpdate {P : Program} {t kt et : TypeId} {ti : TI} (ht : TIok P t ti) (hk : ti.kind = .map kt et) (hu : P.underlying kt = some .string) {w : World} {b : Nat} {M : List (List UInt8 × Value)} {ob : Obj}
    (hb : w.heap[b]? = some ob) (hM : kmapOk strV M ob) (k : List UInt8) (v : Value) :
    ∃ ob', (Instr.mapUpdate t (.map (some b)) (strV k) v).run P w = .ok () { w with heap := w.heap.setIfInBounds b ob' } ∧ kmapOk strV (kset M k v) ob' := by
  obtain ⟨es, clk, rfl, hp, hborn, hnd⟩ := hM
  have h1 := tk_map ht hk
  have hs := sfind_spec k es.toList M 0 hp
  have hget : (getObj b).run P w = .ok (.map es clk) w := by simp [getObj, Sem.run, hb]
  have hset : ∀ o', (setObj b o').run P w = .ok () { w with heap := w.heap.setIfInBounds b o' } := fun o' => by simp [setObj, Sem.run, hb]
  cases hm : klk M k with
  | none =>
    obtain ⟨a1, a2⟩ := hs.1 hm
    have hf : (Instr.findKey kt (strV k) es.toList).run P w = .ok none w := by simp [Instr.findKey, run_underlying hu, a1]
    refine ⟨.map (es.push { key := strV k, val := v, born := clk }) (clk + 1), ?_, _, _, rfl, ?_, ?_, ?_⟩
    · simp [Instr.mapUpdate, run_underlying h1, hget, run_checkKeyS hu, hf, hset]
    · rw [a2 v, ← hp]; simp [pairs]
    · intro e he
      simp only [Array.toList_push, List.mem_append, List.mem_singleton] at he
      rcases he with he | he
      · have := hborn e he; omega
      · subst he; simp
    · simp only [Array.toList_push, List.map_append, List.map_cons, List.map_nil]
      rw [List.nodup_append]
      refine ⟨hnd, by simp, ?_⟩
      intro x hx y hy
      simp only [List.mem_singleton] at hy
      subst hy
      obtain ⟨e, he, rfl⟩ := List.mem_map.1 hx
      have := hborn e he
      omega
  | some u =>
    obtain ⟨i, a1, a2, ⟨e0, a3, a3'⟩, a4⟩ := hs.2 u hm
    have hf : (Instr.findKey kt (strV k) es.toList).run P w = .ok (some (0 + i, u)) w := by simp [Instr.findKey, run_underlying hu, a1]
    have hgi : es[0 + i]? = some e0 := by rw [Nat.zero_add]; simpa using a3
    have hkeep : (Instr.keyThatStays (strV k) (strV k)).run P w = .ok (strV k) w := by
      have : Instr.sameBits 10000 (strV k) (strV k) = true := (bytes_beq k k).trans (decide_eq_true rfl)
      unfold Instr.keyThatStays
      rw [if_pos this]
      rfl
    refine ⟨.map (es.modify (0 + i) fun e => { e with key := strV k, val := v }) clk, ?_, _, _, rfl, ?_, ?_, ?_⟩
    · simp [Instr.mapUpdate, run_underlying h1, hget, run_checkKeyS hu, hf]
      rw [Nat.zero_add] at hgi
      simp [hgi, a3', hkeep, hset]
    · rw [← a4 v, Nat.zero_add]; simp [pairs]
    · intro e he
      rw [Array.toList_modify] at he
      obtain ⟨j, hj⟩ := List.mem_iff_getElem?.1 he
      rw [List.getElem?_modify] at hj
      cases hq : es.toList[j]? with
      | none => simp [hq] at hj
      | some e1 =>
        simp only [hq, Option.map_eq_map, Option.map_some, Option.some.injEq] at hj
        have h3 := hborn e1 (List.mem_of_getElem? hq)
        split at hj <;> (subst hj; exact h3)
    · have : ((es.modify (0 + i) fun e => { e with key := strV k, val := v }).toList.map (·.born)) = es.toList.map (·.born) := by
        apply List.ext_getElem?
        intro j
        simp only [Array.toList_modify, List.getElem?_map, List.getElem?_modify]
        cases es.toList[j]? with
        | none => simp
        | some e1 => simp only [Option.map_eq_map, Option.map_some]; split <;> rfl
      rw [this]; exact hnd
section
variable {C : Cx} {F : Fr} {L : List HA} {o : Oper} {K : List KI} {ops : Array Oper} {m : Bool} {rest : List Oper}
theorem q_slookup_ok {t kt et : Nat} {x y : Operand} {ti te : TI} {b : Nat} {M : List (List UInt8 × Value)} (k : List UInt8) {v : Value} {r : Bool} (ho : o.op = .lookup t x y true) (ht : tget C.tab t = some ti) (hk : ti.kind = .map kt et) (hu : C.P.underlying kt = some .string)
    (hte : tget C.tab et = some te) (hx : ev F x = some (.map (some b))) (hy : ev F y = some (strV k)) (hin : InL L (haKMap b strV M)) (hv : (klk M k).getD te.zv = v) (hr : (klk M k).isSome = r) : Qv C o F L (.tuple #[v, .bool r]) :=
  .of_run fun a w hf hs => by
    obtain ⟨ob, h1, h2⟩ := (hs.at hin).2.1
    have := run_slookup (C.ok.get ht) hk hu (C.ok.get hte) h1 h2 k true
    simp [execOp, ho, hf.ev hx, hf.ev hy, this, hv, hr]
theorem j_smapUpdate {t kt et : Nat} {x y z : Operand} {ti : TI} {b : Nat} {M : List (List UInt8 × Value)} (k : List UInt8) {v : Value} {L' : List HA} (ho : o.op = .mapUpdate t x y z) (hg : o.guard = none) (hd : o.dst = none) (ht : tget C.tab t = some ti)
    (hk : ti.kind = .map kt et) (hu : C.P.underlying kt = some .string) (hx : ev F x = some (.map (some b))) (hy : ev F y = some (strV k)) (hz : ev F z = some v) (hup : Upd L (haKMap b strV M) (haKMap b strV (kset M k v)) L')
    (h : J C ops false rest K F L') : J C ops false (o :: rest) K F L := by
  intro a w hf hs
  obtain ⟨N, hp1, hp2⟩ := hup.perm
  have hA := (hs.perm hp1).head
  obtain ⟨ob, h1, h2⟩ := hA.2.1
  obtain ⟨ob', hr, hM'⟩ := run_smapUpdate (C.ok.get ht) hk hu h1 h2 k v
  have hrun : (execOp a.eval o).run C.P w = .ok .skip { w with heap := w.heap.setIfInBounds b ob' } := by
    simp [execOp, ho, hf.ev hx, hf.ev hy, hf.ev hz, hr]
  refine wpListIn_run (by simp [Region.wanted, hg]) (wpIn_skip_ hrun ?_)
  rw [hd]
  have hlt := (hA.1 b rfl).2
  refine h a _ (hf.put_none undef) (hs.upd hup ⟨rfl, rfl, rfl, by simp, fun k hk => by omega⟩ ?_ (haKMap_holds (hA.1 b rfl).1 (by simp [hlt]) hM') (fun c hc => .inl hc))
  intro c hc hne
  simp only [Array.getElem?_setIfInBounds]
  rw [if_neg (fun e => hne e.symm)]
end
end Eng
end Go.Proofs.Ytagndgidfaladaa
