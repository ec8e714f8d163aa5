/-
  Regions that draw their order and write memory: quiet operations are taken first, the others in each order that is left.
-/
import Derived.Test.YtmcmmmaffdenjaaEngFast
import Derived.OrdersIn
namespace Go.Proofs.Ytmcmmmaffdenjaa
namespace Eng
open Go.RowKit
set_option linter.unusedVariables false
def normOnly (Φ : Act → World → Prop) : Exit → Act → World → Prop := Exit.then Φ (fun _ _ _ => False)
theorem semAt_put (ro : Option Nat) {ops : Array Oper} (o : Oper) (hs : ∀ cs b, o.op ≠ .select cs b) (a : Act) (dst : Option Tmp) (v : Value) (h : ∀ d, dst = some d → d ∉ o.looksAt ops) :
    o.semAt ro (a.put dst v).eval = o.semAt ro a.eval := by
  have he := execOp_put o hs a dst v h
  have hx : ∀ x ∈ o.op.operands, (a.put dst v).eval x = a.eval x := fun x hx => Act.eval_put fun d hd hxd => h d hd (by
    subst hxd
    exact List.mem_append_left _ (List.mem_filterMap.2 ⟨.tmp d, by simpa using hx, rfl⟩))
  unfold Oper.semAt
  cases ro with
  | none => exact he
  | some l =>
    cases ho : o.op with
    | defer c =>
      rw [ho] at hx
      simp only [resolve_congr c o.type (fun x hx' => hx x (by simpa [Op.operands] using hx'))]
    | _ => exact he
section
variable {P : Program} {rd : Option Nat} {ops : Array Oper} {Φ : Act → World → Prop} {S : Array Bool → World → Prop}
/-- The worlds in which operation i may still come. -/
def Ahead (S : Array Bool → World → Prop) (i : Nat) (w : World) : Prop := ∃ l, l.getD i true = false ∧ S l w
structure Yl (P : Program) (ops : Array Oper) (S : Array Bool → World → Prop) (i : Nat) (o : Oper) (v : Value) (a : Act) : Prop where
  wanted : Region.wanted o (yielded ops a.tmps) = true
  quiet : ∀ w, Ahead S i w → (execOp a.eval o).run P w = .ok (.value v) w
/-- Each order; S is shown behind each operation. -/
def anyS (P : Program) (rd : Option Nat) (ops : Array Oper) (Φ : Act → World → Prop) (S : Array Bool → World → Prop) : Nat → Array Bool → Act → World → Prop
  | 0, listed, a, w => Region.ready .any ops listed = [] ∧ Φ a w
  | fuel + 1, listed, a, w => (Region.ready .any ops listed = [] → Φ a w) ∧
      ∀ i ∈ Region.ready .any ops listed, wpOpIn (fc rd) 0 P ops (normOnly Φ) i (fun a' w' => S (listed.setIfInBounds i true) w' ∧ anyS P rd ops Φ S fuel (listed.setIfInBounds i true) a' w') a w
theorem anyS_sound : ∀ (fuel : Nat) (listed : Array Bool) (a : Act) (w : World), anyS P rd ops Φ S fuel listed a w → wpAnyIn (fc rd) 0 P .any ops (normOnly Φ) fuel listed a w
  | 0, _, _, _, h => h
  | fuel + 1, _, _, _, h => ⟨h.1, fun i hi => wpOpIn_mono (fun a' w' h' => anyS_sound fuel _ a' w' h'.2) (h.2 i hi)⟩
theorem Yl.run {i : Nat} {o : Oper} {v : Value} {a : Act} {w : World} {listed : Array Bool} (hi : ops[i]? = some o) (hy : Yl P ops S i o v a) (hl : listed.getD i true = false) (hS : S listed w) {K : Act → World → Prop}
    (h : K (a.put o.dst v) w) : wpOpIn (fc rd) 0 P ops (normOnly Φ) i K a w := by
  unfold wpOpIn
  simp only [hi, hy.wanted, if_true]
  exact wpIn_value (hy.quiet w ⟨listed, hl, hS⟩) h
theorem op_put {i j : Nat} {oi oj : Oper} {v : Value} (hj : ops[j]? = some oj) (hap : oi.apart ops oj = true) (hsi : ∀ cs b, oi.op ≠ .select cs b) (hsj : ∀ cs b, oj.op ≠ .select cs b) {K : Act → World → Prop} {a : Act} {w : World}
    (hy : Yl P ops S i oi v a) (h : wpOpIn (fc rd) 0 P ops (normOnly Φ) j K (a.put oi.dst v) w) :
    wpOpIn (fc rd) 0 P ops (normOnly Φ) j (fun a' w' => Yl P ops S i oi v a' ∧ K (a'.put oi.dst v) w') a w := by
  obtain ⟨h1, h2, h3⟩ := Oper.apart_spec hap
  have same : ∀ (a a' : Act), execOp a'.eval oi = execOp a.eval oi → Region.wanted oi (yielded ops a'.tmps) = Region.wanted oi (yielded ops a.tmps) → Yl P ops S i oi v a → Yl P ops S i oi v a' := fun a a' he hw hy =>
    ⟨hw.trans hy.wanted, fun w hw' => by have := hy.quiet w hw'; rw [he]; exact this⟩
  have keep : ∀ (a : Act), Yl P ops S i oi v a → ∀ u, Yl P ops S i oi v (a.put oj.dst u) := fun a hy u => same a _ (execOp_put oi hsi a oj.dst u h3) (wanted_put oi a oj.dst u h3) hy
  unfold wpOpIn at *
  simp only [hj] at *
  rw [wanted_put oj a oi.dst v h1] at h
  split
  · rename_i hw
    simp only [hw, if_true] at h
    refine ⟨fun _ _ => trivial, ?_⟩
    have h := h.2
    rw [show (fc rd).round = rd from rfl] at h ⊢
    rw [semAt_put rd oj hsj a oi.dst v h1] at h
    generalize (oj.semAt rd a.eval).run P w = r at *
    cases r with
    | ok x w' =>
      cases x <;> simp only [Oper.uponIn] at h ⊢
      case value u => exact ⟨keep a hy u, by rw [← Act.put_comm a v u h2]; exact h⟩
      case skip => exact ⟨keep a hy _, by rw [← Act.put_comm a v undef h2]; exact h⟩
      case defer d =>
        refine ⟨keep { a with defers := d :: a.defers } (same a { a with defers := d :: a.defers } rfl rfl hy) _, ?_⟩
        rw [← Act.put_comm _ v undef h2, ← Act.put_defers]
        exact h
      case enter f args =>
        refine ⟨h.1, h.2.mono fun e w'' he => ?_⟩
        cases e with
        | returned u => exact ⟨keep a hy u, by rw [← Act.put_comm a v u h2]; exact he⟩
        | panicked c => exact he
        | outgrown => exact he
      case round l f tmps assign body =>
        refine ⟨h.1, h.2.mono fun e w'' he => ?_⟩
        cases e with
        | returned u => exact ⟨keep a hy u, by rw [← Act.put_comm a v u h2]; exact he⟩
        | panicked c => exact he
        | outgrown => exact he
      case row row args => exact ⟨h.1, h.2.mono fun u w'' he => ⟨keep a hy u, by rw [← Act.put_comm a v u h2]; exact he⟩⟩
    | halt x w' =>
      cases x <;> simp only [Oper.uponIn] at h ⊢
      case panic u => exact h
  · rename_i hw
    simp only [hw] at h
    exact ⟨fun _ _ => trivial, keep a hy _, by rw [← Act.put_comm a v undef h2]; exact h.2⟩
theorem anyS_first {i : Nat} {oi : Oper} {v : Value} (hi : ops[i]? = some oi) (hsel : ∀ (j : Nat) (o : Oper) cs b, ops[j]? = some o → o.op ≠ .select cs b) (hmono : ∀ l w, S l w → S (l.setIfInBounds i true) w) :
    ∀ (fuel : Nat) (listed : Array Bool) (a : Act) (w : World),
      (∀ j oj, ops[j]? = some oj → j ≠ i → listed.getD j true = false → (∀ e ∈ oj.after, Region.binds .any e = true → e.on ≠ i) → oi.apart ops oj = true) →
      i ∈ Region.ready .any ops listed → Yl P ops S i oi v a → S listed w →
      anyS P rd ops Φ S fuel (listed.setIfInBounds i true) (a.put oi.dst v) w → (hback : ∀ l w', l.getD i true = false → S (l.setIfInBounds i true) w' → Region.ready .any ops l ≠ [] → i ∈ Region.ready .any ops l → S l w') →
      anyS P rd ops Φ S (fuel + 1) listed a w := by
  intro fuel
  induction fuel with
  | zero =>
    intro listed a w _ hr hy hS H hback
    refine ⟨fun h => (by rw [h] at hr; cases hr), fun j hj => ?_⟩
    by_cases hji : j = i
    · subst hji; exact hy.run hi (mem_ready.1 hr).1 hS ⟨hmono _ _ hS, H⟩
    · have := ready_mono hj hji
      rw [H.1] at this
      cases this
  | succ fuel ih =>
    intro listed a w hfree hr hy hS H hback
    refine ⟨fun h => (by rw [h] at hr; cases hr), fun j hj => ?_⟩
    by_cases hji : j = i
    · subst hji; exact hy.run hi (mem_ready.1 hr).1 hS ⟨hmono _ _ hS, H⟩
    · have h1 := H.2 j (ready_mono hj hji)
      obtain ⟨hjun, oj, hoj, hall⟩ := mem_ready.1 hj
      have hnot : ∀ e ∈ oj.after, Region.binds .any e = true → e.on ≠ i := fun e he hb heq => by
        have h1 := hall e he hb
        have h0 := (mem_ready.1 hr).1
        rw [heq] at h1
        rcases Nat.lt_or_ge i listed.size with h' | h'
        · simp [h'] at h0 h1; rw [h0] at h1; cases h1
        · simp [Array.getElem?_eq_none h'] at h1
      have h2 := op_put hoj (hfree j oj hoj hji hjun hnot) (fun cs b => hsel i oi cs b hi) (fun cs b => hsel j oj cs b hoj) hy h1
      have hfree' : ∀ k ok, ops[k]? = some ok → k ≠ i → (listed.setIfInBounds j true).getD k true = false → (∀ e ∈ ok.after, Region.binds .any e = true → e.on ≠ i) → oi.apart ops ok = true := fun k ok hk hki hun hno => by
        refine hfree k ok hk hki ?_ hno
        by_cases hjk : j = k
        · subst hjk; exact hjun
        · rw [getD_set_ne true hjk] at hun; exact hun
      have hr' := ready_mono hr (Ne.symm hji)
      refine wpOpIn_mono (fun a' w' h3 => ?_) h2
      have hS' : S (listed.setIfInBounds j true) w' := by
        have h4 := h3.2.1
        rw [Array.setIfInBounds_comm _ _ (Ne.symm hji)] at h4
        exact hback _ w' (mem_ready.1 hr').1 h4 (fun e => by rw [e] at hr'; cases hr') hr'
      refine ⟨hS', ih (listed.setIfInBounds j true) a' w' hfree' hr' h3.1 hS' ?_ hback⟩
      rw [Array.setIfInBounds_comm _ _ hji]
      exact h3.2.2
end
/-! ### The rules -/
def SS (C : Cx) (Lp : List HA) : Array Bool → World → Prop := fun _ w => St C.w0 C.hot Lp w
def JA (C : Cx) (ops : Array Oper) (Φ : Act → World → Prop) (Lp : List HA) (fuel : Nat) (listed : Array Bool) (F : Fr) (L : List HA) : Prop :=
  ∀ a w, Fits C.n C.ds F a → St C.w0 C.hot L w → anyS C.P C.rd ops Φ (SS C Lp) fuel listed a w
section
variable {C : Cx} {F : Fr} {L Lp : List HA} {K : List KI} {ops : Array Oper} {Φ : Act → World → Prop} {fuel : Nat} {listed : Array Bool}
theorem sc_mixed {id : Nat} {l : List Oper} (Lp : List HA) (hrd : C.rd = C.rd) (hm : C.P.follows .mixedOrders = true) (h : JA C l.toArray (kpost C K .normal) Lp l.toArray.size (Array.replicate l.toArray.size false) F L) : SC C (.region id l.toArray true) K F L := by
  intro a w hf hs
  have h1 := anyS_sound _ _ _ _ (h a w.drew hf (hs.later (Below.refl _ _).drew))
  refine wpIn_mono (wpIn_region_any (Q := normOnly (kpost C K .normal)) hm h1) fun e a w hq => ?_
  cases e <;> first | exact hq | exact hq.elim
/-- A quiet operation is taken first. -/
theorem ja_take {oi : Oper} {d : Nat} (i : Nat) (hi : ops[i]? = some oi) (hchk : ((Region.ready .any ops listed).contains i && Region.free .any ops listed i && Region.noSelect ops) = true) (hg : oi.guard = none) (hd : oi.dst = some d) (hn : Nat.blt d C.n = true) (hsub : LSub Lp L)
    (h : ∃ v, Qv C oi F Lp v ∧ JA C ops Φ Lp fuel (listed.setIfInBounds i true) ((d, v) :: F) L) : JA C ops Φ Lp (fuel + 1) listed F L := by
  obtain ⟨v, hq, hj⟩ := h
  simp only [Bool.and_eq_true, List.contains_iff_mem] at hchk
  obtain ⟨⟨hr, hfr⟩, hns⟩ := hchk
  intro a w hf hs
  refine anyS_first hi (Region.noSelect_spec hns) (fun l w h => h) fuel listed a w (Region.free_spec hi hfr) hr ⟨by simp [Region.wanted, hg], fun w' ⟨l, _, hw'⟩ => hq a w' hf hw'⟩ (hs.sub hsub) ?_ (fun l w' _ h _ _ => h)
  rw [hd]
  exact hj _ w (hf.put v hn) hs
/-- Those that may come now: each of them. -/
theorem ja_all (rs : List Nat) (hr : Region.ready .any ops listed = rs) (hne : rs.isEmpty = false)
    (h : ∀ i ∈ rs, ∃ oi, ops[i]? = some oi ∧ oi.guard = none ∧ J C ops false [oi] [.fin (fun a' w' => St C.w0 C.hot Lp w' ∧ anyS C.P C.rd ops Φ (SS C Lp) fuel (listed.setIfInBounds i true) a' w')] F L) (hrd : C.rd = C.rd) : JA C ops Φ Lp (fuel + 1) listed F L := by
  intro a w hf hs
  refine ⟨fun e => by rw [hr] at e; subst e; simp at hne, fun i hi => ?_⟩
  rw [hr] at hi
  obtain ⟨oi, ho, hg, hJ⟩ := h i hi
  have h1 := hJ a w hf hs
  unfold wpListIn at h1
  rw [if_pos (by simp [Region.wanted, hg])] at h1
  unfold wpOpIn
  simp only [ho]
  rw [if_pos (by simp [Region.wanted, hg])]
  exact h1
/-- Behind an operation of those: the next one. -/
theorem sq_next {i : Nat} (hsub : LSub Lp L) (h : JA C ops Φ Lp fuel (listed.setIfInBounds i true) F L) :
    SQ C .normal [.fin (fun a' w' => St C.w0 C.hot Lp w' ∧ anyS C.P C.rd ops Φ (SS C Lp) fuel (listed.setIfInBounds i true) a' w')] F L := fun a w hf hs => ⟨hs.sub hsub, h a w hf hs⟩
theorem ja_done {K : List KI} (hr : Region.ready .any ops listed = []) (h : SQ C .normal K F L) : JA C ops (kpost C K .normal) Lp fuel listed F L := by
  intro a w hf hs
  cases fuel with
  | zero => exact ⟨hr, h a w hf hs⟩
  | succ fuel => exact ⟨fun _ => h a w hf hs, fun i hi => by rw [hr] at hi; cases hi⟩
end
end Eng
end Go.Proofs.Ytmcmmmaffdenjaa
