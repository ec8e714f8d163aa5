/-
  The engine: rules of symbolic execution over the model's code, in one text (or two).
-/
import Derived.Test.YtmcmmmaffdenjaaEngCoreA
import Derived.OrdersIn
import Derived.Maps.RangeRun
import Derived.Scope
import Derived.Lib.BitFns
import Derived.WalkSpells
import Derived.Laws.StructEq
/-
  Regions that draw their order and write memory: quiet operations are taken first, the others in each order that is left.
-/
namespace Go.Proofs.Ytmcmmmaffdenjaa
namespace Eng
open Go.RowKit
set_option linter.unusedVariables false
def normOnly (Φ : Act → World → Prop) : Exit → Act → World → Prop := Exit.then Φ (fun _ _ _ => False)
theorem semAt_put (ro : Option Nat) {ops : Array Oper} (o : Oper) (hs : ∀ cs b, o.op ≠ .select cs b) (a : Act) (dst : Option Tmp) (v : Value) (h : ∀ d, dst = some d → d ∉ o.looksAt ops) :
    o.semAt ro (a.put dst v).eval = o.semAt ro a.eval := by
  have he := execOp_put o hs a dst v h
  have hx : ∀ x ∈ o.op.operands, (a.put dst v).eval x = a.eval x := fun x hx => Act.eval_put fun d hd hxd => h d hd (by
    subst hxd
    exact List.mem_append_left _ (List.mem_filterMap.2 ⟨.tmp d, by simpa using hx, rfl⟩))
  unfold Oper.semAt
  cases ro with
  | none => exact he
  | some l =>
    cases ho : o.op with
    | defer c =>
      rw [ho] at hx
      simp only [resolve_congr c o.type (fun x hx' => hx x (by simpa [Op.operands] using hx'))]
    | _ => exact he
section
variable {P : Program} {rd : Option Nat} {ops : Array Oper} {Φ : Act → World → Prop} {S : Array Bool → World → Prop}
/-- The worlds in which operation i may still come. -/
def Ahead (S : Array Bool → World → Prop) (i : Nat) (w : World) : Prop := ∃ l, l.getD i true = false ∧ S l w
structure Yl (P : Program) (ops : Array Oper) (S : Array Bool → World → Prop) (i : Nat) (o : Oper) (v : Value) (a : Act) : Prop where
  wanted : Region.wanted o (yielded ops a.tmps) = true
  quiet : ∀ w, Ahead S i w → (execOp a.eval o).run P w = .ok (.value v) w
/-- Each order; S is shown behind each operation. -/
def anyS (P : Program) (rd : Option Nat) (ops : Array Oper) (Φ : Act → World → Prop) (S : Array Bool → World → Prop) : Nat → Array Bool → Act → World → Prop
  | 0, listed, a, w => Region.ready .any ops listed = [] ∧ Φ a w
  | fuel + 1, listed, a, w => (Region.ready .any ops listed = [] → Φ a w) ∧
      ∀ i ∈ Region.ready .any ops listed, wpOpIn (fc rd) 0 P ops (normOnly Φ) i (fun a' w' => S (listed.setIfInBounds i true) w' ∧ anyS P rd ops Φ S fuel (listed.setIfInBounds i true) a' w') a w
theorem anyS_sound : ∀ (fuel : Nat) (listed : Array Bool) (a : Act) (w : World), anyS P rd ops Φ S fuel listed a w → wpAnyIn (fc rd) 0 P .any ops (normOnly Φ) fuel listed a w
  | 0, _, _, _, h => h
  | fuel + 1, _, _, _, h => ⟨h.1, fun i hi => wpOpIn_mono (fun a' w' h' => anyS_sound fuel _ a' w' h'.2) (h.2 i hi)⟩
theorem Yl.run {i : Nat} {o : Oper} {v : Value} {a : Act} {w : World} {listed : Array Bool} (hi : ops[i]? = some o) (hy : Yl P ops S i o v a) (hl : listed.getD i true = false) (hS : S listed w) {K : Act → World → Prop}
    (h : K (a.put o.dst v) w) : wpOpIn (fc rd) 0 P ops (normOnly Φ) i K a w := by
  unfold wpOpIn
  simp only [hi, hy.wanted, if_true]
  exact wpIn_value (hy.quiet w ⟨listed, hl, hS⟩) h
theorem op_put {i j : Nat} {oi oj : Oper} {v : Value} (hj : ops[j]? = some oj) (hap : oi.apart ops oj = true) (hsi : ∀ cs b, oi.op ≠ .select cs b) (hsj : ∀ cs b, oj.op ≠ .select cs b) {K : Act → World → Prop} {a : Act} {w : World}
    (hy : Yl P ops S i oi v a) (h : wpOpIn (fc rd) 0 P ops (normOnly Φ) j K (a.put oi.dst v) w) :
    wpOpIn (fc rd) 0 P ops (normOnly Φ) j (fun a' w' => Yl P ops S i oi v a' ∧ K (a'.put oi.dst v) w') a w := by
  obtain ⟨h1, h2, h3⟩ := Oper.apart_spec hap
  have same : ∀ (a a' : Act), execOp a'.eval oi = execOp a.eval oi → Region.wanted oi (yielded ops a'.tmps) = Region.wanted oi (yielded ops a.tmps) → Yl P ops S i oi v a → Yl P ops S i oi v a' := fun a a' he hw hy =>
    ⟨hw.trans hy.wanted, fun w hw' => by have := hy.quiet w hw'; rw [he]; exact this⟩
  have keep : ∀ (a : Act), Yl P ops S i oi v a → ∀ u, Yl P ops S i oi v (a.put oj.dst u) := fun a hy u => same a _ (execOp_put oi hsi a oj.dst u h3) (wanted_put oi a oj.dst u h3) hy
  unfold wpOpIn at *
  simp only [hj] at *
  rw [wanted_put oj a oi.dst v h1] at h
  split
  · rename_i hw
    simp only [hw, if_true] at h
    refine ⟨fun _ _ => trivial, ?_⟩
    have h := h.2
    rw [show (fc rd).round = rd from rfl] at h ⊢
    rw [semAt_put rd oj hsj a oi.dst v h1] at h
    generalize (oj.semAt rd a.eval).run P w = r at *
    cases r with
    | ok x w' =>
      cases x <;> simp only [Oper.uponIn] at h ⊢
      case value u => exact ⟨keep a hy u, by rw [← Act.put_comm a v u h2]; exact h⟩
      case skip => exact ⟨keep a hy _, by rw [← Act.put_comm a v undef h2]; exact h⟩
      case defer d =>
        refine ⟨keep { a with defers := d :: a.defers } (same a { a with defers := d :: a.defers } rfl rfl hy) _, ?_⟩
        rw [← Act.put_comm _ v undef h2, ← Act.put_defers]
        exact h
      case enter f args =>
        refine ⟨h.1, h.2.mono fun e w'' he => ?_⟩
        cases e with
        | returned u => exact ⟨keep a hy u, by rw [← Act.put_comm a v u h2]; exact he⟩
        | panicked c => exact he
        | outgrown => exact he
      case round l f tmps assign body =>
        refine ⟨h.1, h.2.mono fun e w'' he => ?_⟩
        cases e with
        | returned u => exact ⟨keep a hy u, by rw [← Act.put_comm a v u h2]; exact he⟩
        | panicked c => exact he
        | outgrown => exact he
      case row row args => exact ⟨h.1, h.2.mono fun u w'' he => ⟨keep a hy u, by rw [← Act.put_comm a v u h2]; exact he⟩⟩
    | halt x w' =>
      cases x <;> simp only [Oper.uponIn] at h ⊢
      case panic u => exact h
  · rename_i hw
    simp only [hw] at h
    exact ⟨fun _ _ => trivial, keep a hy _, by rw [← Act.put_comm a v undef h2]; exact h.2⟩
theorem anyS_first {i : Nat} {oi : Oper} {v : Value} (hi : ops[i]? = some oi) (hsel : ∀ (j : Nat) (o : Oper) cs b, ops[j]? = some o → o.op ≠ .select cs b) (hmono : ∀ l w, S l w → S (l.setIfInBounds i true) w) :
    ∀ (fuel : Nat) (listed : Array Bool) (a : Act) (w : World),
      (∀ j oj, ops[j]? = some oj → j ≠ i → listed.getD j true = false → (∀ e ∈ oj.after, Region.binds .any e = true → e.on ≠ i) → oi.apart ops oj = true) →
      i ∈ Region.ready .any ops listed → Yl P ops S i oi v a → S listed w →
      anyS P rd ops Φ S fuel (listed.setIfInBounds i true) (a.put oi.dst v) w → (hback : ∀ l w', l.getD i true = false → S (l.setIfInBounds i true) w' → Region.ready .any ops l ≠ [] → i ∈ Region.ready .any ops l → S l w') →
      anyS P rd ops Φ S (fuel + 1) listed a w := by
  intro fuel
  induction fuel with
  | zero =>
    intro listed a w _ hr hy hS H hback
    refine ⟨fun h => (by rw [h] at hr; cases hr), fun j hj => ?_⟩
    by_cases hji : j = i
    · subst hji; exact hy.run hi (mem_ready.1 hr).1 hS ⟨hmono _ _ hS, H⟩
    · have := ready_mono hj hji
      rw [H.1] at this
      cases this
  | succ fuel ih =>
    intro listed a w hfree hr hy hS H hback
    refine ⟨fun h => (by rw [h] at hr; cases hr), fun j hj => ?_⟩
    by_cases hji : j = i
    · subst hji; exact hy.run hi (mem_ready.1 hr).1 hS ⟨hmono _ _ hS, H⟩
    · have h1 := H.2 j (ready_mono hj hji)
      obtain ⟨hjun, oj, hoj, hall⟩ := mem_ready.1 hj
      have hnot : ∀ e ∈ oj.after, Region.binds .any e = true → e.on ≠ i := fun e he hb heq => by
        have h1 := hall e he hb
        have h0 := (mem_ready.1 hr).1
        rw [heq] at h1
        rcases Nat.lt_or_ge i listed.size with h' | h'
        · simp [h'] at h0 h1; rw [h0] at h1; cases h1
        · simp [Array.getElem?_eq_none h'] at h1
      have h2 := op_put hoj (hfree j oj hoj hji hjun hnot) (fun cs b => hsel i oi cs b hi) (fun cs b => hsel j oj cs b hoj) hy h1
      have hfree' : ∀ k ok, ops[k]? = some ok → k ≠ i → (listed.setIfInBounds j true).getD k true = false → (∀ e ∈ ok.after, Region.binds .any e = true → e.on ≠ i) → oi.apart ops ok = true := fun k ok hk hki hun hno => by
        refine hfree k ok hk hki ?_ hno
        by_cases hjk : j = k
        · subst hjk; exact hjun
        · rw [getD_set_ne true hjk] at hun; exact hun
      have hr' := ready_mono hr (Ne.symm hji)
      refine wpOpIn_mono (fun a' w' h3 => ?_) h2
      have hS' : S (listed.setIfInBounds j true) w' := by
        have h4 := h3.2.1
        rw [Array.setIfInBounds_comm _ _ (Ne.symm hji)] at h4
        exact hback _ w' (mem_ready.1 hr').1 h4 (fun e => by rw [e] at hr'; cases hr') hr'
      refine ⟨hS', ih (listed.setIfInBounds j true) a' w' hfree' hr' h3.1 hS' ?_ hback⟩
      rw [Array.setIfInBounds_comm _ _ hji]
      exact h3.2.2
end
/-! ### The rules -/
def SS (C : Cx) (Lp : List HA) : Array Bool → World → Prop := fun _ w => St C.w0 C.hot Lp w
def JA (C : Cx) (ops : Array Oper) (Φ : Act → World → Prop) (Lp : List HA) (fuel : Nat) (listed : Array Bool) (F : Fr) (L : List HA) : Prop :=
  ∀ a w, Fits C.n C.ds F a → St C.w0 C.hot L w → anyS C.P C.rd ops Φ (SS C Lp) fuel listed a w
section
variable {C : Cx} {F : Fr} {L Lp : List HA} {K : List KI} {ops : Array Oper} {Φ : Act → World → Prop} {fuel : Nat} {listed : Array Bool}
theorem sc_mixed {id : Nat} {l : List Oper} (Lp : List HA) (hrd : C.rd = C.rd) (hm : C.P.follows .mixedOrders = true) (h : JA C l.toArray (kpost C K .normal) Lp l.toArray.size (Array.replicate l.toArray.size false) F L) : SC C (.region id l.toArray true) K F L := by
  intro a w hf hs
  have h1 := anyS_sound _ _ _ _ (h a w.drew hf (hs.later (Below.refl _ _).drew))
  refine wpIn_mono (wpIn_region_any (Q := normOnly (kpost C K .normal)) hm h1) fun e a w hq => ?_
  cases e <;> first | exact hq | exact hq.elim
/-- A quiet operation is taken first. -/
theorem ja_take {oi : Oper} {d : Nat} (i : Nat) (hi : ops[i]? = some oi) (hchk : ((Region.ready .any ops listed).contains i && Region.free .any ops listed i && Region.noSelect ops) = true) (hg : oi.guard = none) (hd : oi.dst = some d) (hn : Nat.blt d C.n = true) (hsub : LSub Lp L)
    (h : ∃ v, Qv C oi F Lp v ∧ JA C ops Φ Lp fuel (listed.setIfInBounds i true) ((d, v) :: F) L) : JA C ops Φ Lp (fuel + 1) listed F L := by
  obtain ⟨v, hq, hj⟩ := h
  simp only [Bool.and_eq_true, List.contains_iff_mem] at hchk
  obtain ⟨⟨hr, hfr⟩, hns⟩ := hchk
  intro a w hf hs
  refine anyS_first hi (Region.noSelect_spec hns) (fun l w h => h) fuel listed a w (Region.free_spec hi hfr) hr ⟨by simp [Region.wanted, hg], fun w' ⟨l, _, hw'⟩ => hq a w' hf hw'⟩ (hs.sub hsub) ?_ (fun l w' _ h _ _ => h)
  rw [hd]
  exact hj _ w (hf.put v hn) hs
/-- Those that may come now: each of them. -/
theorem ja_all (rs : List Nat) (hr : Region.ready .any ops listed = rs) (hne : rs.isEmpty = false)
    (h : ∀ i ∈ rs, ∃ oi, ops[i]? = some oi ∧ oi.guard = none ∧ J C ops false [oi] [.fin (fun a' w' => St C.w0 C.hot Lp w' ∧ anyS C.P C.rd ops Φ (SS C Lp) fuel (listed.setIfInBounds i true) a' w')] F L) (hrd : C.rd = C.rd) : JA C ops Φ Lp (fuel + 1) listed F L := by
  intro a w hf hs
  refine ⟨fun e => by rw [hr] at e; subst e; simp at hne, fun i hi => ?_⟩
  rw [hr] at hi
  obtain ⟨oi, ho, hg, hJ⟩ := h i hi
  have h1 := hJ a w hf hs
  unfold wpListIn at h1
  rw [if_pos (by simp [Region.wanted, hg])] at h1
  unfold wpOpIn
  simp only [ho]
  rw [if_pos (by simp [Region.wanted, hg])]
  exact h1
/-- Behind an operation of those: the next one. -/
theorem sq_next {i : Nat} (hsub : LSub Lp L) (h : JA C ops Φ Lp fuel (listed.setIfInBounds i true) F L) :
    SQ C .normal [.fin (fun a' w' => St C.w0 C.hot Lp w' ∧ anyS C.P C.rd ops Φ (SS C Lp) fuel (listed.setIfInBounds i true) a' w')] F L := fun a w hf hs => ⟨hs.sub hsub, h a w hf hs⟩
theorem ja_done {K : List KI} (hr : Region.ready .any ops listed = []) (h : SQ C .normal K F L) : JA C ops (kpost C K .normal) Lp fuel listed F L := by
  intro a w hf hs
  cases fuel with
  | zero => exact ⟨hr, h a w hf hs⟩
  | succ fuel => exact ⟨fun _ => h a w hf hs, fun i hi => by rw [hr] at hi; cases hi⟩
end
end Eng
end Go.Proofs.Ytmcmmmaffdenjaa

/-
  Maps keyed by integers: a list of pairs, in the order in which they came.
-/
namespace Go.Proofs.Ytmcmmmaffdenjaa
namespace Eng
open Go.RowKit
set_option linter.unusedVariables false
def mlk : List (Int × Value) → Int → Option Value
  | [], _ => none
  | (k', v) :: M, k => if k' = k then some v else mlk M k
def mset : List (Int × Value) → Int → Value → List (Int × Value)
  | [], k, v => [(k, v)]
  | (k', v') :: M, k, v => if k' = k then (k', v) :: M else (k', v') :: mset M k v
def pairs (l : List MapEntry) : List (Value × Value) := l.map fun e => (e.key, e.val)
def ipairs (ik : IntKind) (M : List (Int × Value)) : List (Value × Value) := M.map fun p => (Value.int ik p.1, p.2)
def imapOk (ik : IntKind) (M : List (Int × Value)) (o : Obj) : Prop :=
  ∃ es clk, o = .map es clk ∧ pairs es.toList = ipairs ik M ∧ (∀ e ∈ es.toList, e.born < clk) ∧ (es.toList.map (·.born)).Nodup
def haMap (b : Nat) (ik : IntKind) (M : List (Int × Value)) : HA := .abs (· = b) (fun w => ∃ o, w.heap[b]? = some o ∧ imapOk ik M o)
theorem haMap_holds {B : Nat} {hot : Nat → Prop} {w : World} {b : Nat} {ik : IntKind} {M : List (Int × Value)} {o : Obj} (hb : B ≤ b ∨ hot b) (h : w.heap[b]? = some o) (ho : imapOk ik M o) : (haMap b ik M).holds B hot w :=
  ⟨fun c hc => by subst hc; exact ⟨hb, (Array.getElem?_eq_some_iff.1 h).1⟩, ⟨o, h, ho⟩, fun w' _ hk => ⟨o, (hk b rfl).trans h, ho⟩⟩
theorem find_spec (ik : IntKind) (k : Int) : ∀ (l : List MapEntry) (M : List (Int × Value)) (n : Nat), pairs l = ipairs ik M →
    (mlk M k = none → Instr.findNow (.int ik) (.int ik k) l n = some none ∧ ∀ v, ipairs ik (mset M k v) = ipairs ik M ++ [(.int ik k, v)]) ∧
    (∀ v, mlk M k = some v → ∃ i, Instr.findNow (.int ik) (.int ik k) l n = some (some (n + i, v)) ∧ i < l.length ∧ (∃ e, l[i]? = some e ∧ e.key = .int ik k) ∧ ∀ v', pairs (l.modify i fun e => { e with key := .int ik k, val := v' }) = ipairs ik (mset M k v'))
  | [], M, n, h => by
    cases M with
    | nil => exact ⟨fun _ => ⟨rfl, fun v => rfl⟩, fun v hv => by simp [mlk] at hv⟩
    | cons p M => simp [pairs, ipairs] at h
  | e :: l, M, n, h => by
    cases M with
    | nil => simp [pairs, ipairs] at h
    | cons p M =>
      obtain ⟨k', u⟩ := p
      simp only [pairs, ipairs, List.map_cons, List.cons.injEq, Prod.mk.injEq] at h
      obtain ⟨⟨h1, h2⟩, h3⟩ := h
      have ih := find_spec ik k l M (n + 1) h3
      by_cases hk : k' = k
      · subst hk
        refine ⟨fun hn => by simp [mlk] at hn, fun v hv => ?_⟩
        simp only [mlk, if_true, Option.some.injEq] at hv
        refine ⟨0, ?_, by simp, ⟨e, rfl, h1⟩, fun v' => ?_⟩
        · simp [Instr.findNow, h1, Instr.sameNow, h2, hv]
        · simp only [mset, if_true]
          simp only [pairs, ipairs] at h3 ⊢
          simp [List.modify, List.modifyTailIdx, List.modifyTailIdx.go, h3]
      · have hne : (k == k') = false := by simp; exact fun h => hk h.symm
        have hnow : Instr.findNow (.int ik) (.int ik k) (e :: l) n = Instr.findNow (.int ik) (.int ik k) l (n + 1) := by
          simp [Instr.findNow, h1, Instr.sameNow, hne]
        refine ⟨fun hn => ?_, fun v hv => ?_⟩
        · simp only [mlk, if_neg hk] at hn
          obtain ⟨a1, a2⟩ := ih.1 hn
          refine ⟨hnow.trans a1, fun v => ?_⟩
          have := a2 v
          simp only [ipairs] at this ⊢
          simp [mset, if_neg hk, this]
        · simp only [mlk, if_neg hk] at hv
          obtain ⟨i, a1, a2, a3, a4⟩ := ih.2 v hv
          refine ⟨i + 1, ?_, by simp; omega, ?_, fun v' => ?_⟩
          · rw [hnow, a1]; congr 3; omega
          · simpa using a3
          · have := a4 v'
            simp only [pairs, ipairs] at this ⊢
            simp [mset, if_neg hk, this, h1, h2]
section
variable {C : Cx} {F : Fr} {L : List HA} {o : Oper} {K : List KI} {ops : Array Oper} {m : Bool} {rest : List Oper}
theorem tk_map {P : Program} {t : TypeId} {ti : TI} (h : TIok P t ti) {k e : Nat} (hk : ti.kind = .map k e) : P.underlying t = some (.map k e) := by
  have := h.kind
  rw [hk] at this
  simp only [TK.check] at this
  split at this
  · rename_i k' e' hu
    simp only [decide_eq_true_eq] at this
    obtain ⟨rfl, rfl⟩ := this
    exact hu
  · cases this
theorem run_checkKey_ {P : Program} {t : TypeId} {ik : IntKind} (h : P.underlying t = some (.int ik)) (b : Bool) (k : Int) (w : World) (n : Nat) : (Instr.checkKey b (n + 1) t (.int ik k)).run P w = .ok () w := by
  simp [Instr.checkKey, run_underlying h]
theorem run_checkKey {P : Program} {t : TypeId} {ik : IntKind} (h : P.underlying t = some (.int ik)) (b : Bool) (k : Int) (w : World) : (Instr.checkKey b 10000 t (.int ik k)).run P w = .ok () w := run_checkKey_ h b k w 9999
theorem sameBits_ (n : Nat) (ik : IntKind) (k : Int) : Instr.sameBits n (.int ik k) (.int ik k) = true := by cases n <;> simp [Instr.sameBits]
theorem run_zeroValue {P : Program} {t : TypeId} {ti : TI} (h : TIok P t ti) (w : World) : (zeroValue t).run P w = .ok ti.zv w := by
  obtain ⟨i, z, hi, hz, _, _, hzv⟩ := zero_cells h
  subst hzv
  simp [zeroValue, typeInfo, hi, hz]
theorem run_lookup {P : Program} {t kt et : TypeId} {ti tk te : TI} {ik : IntKind} (ht : TIok P t ti) (hk : ti.kind = .map kt et) (htk : TIok P kt tk) (hkk : tk.kind = .int ik) (hte : TIok P et te) {w : World} {b : Nat} {M : List (Int × Value)} {ob : Obj}
    (hb : w.heap[b]? = some ob) (hM : imapOk ik M ob) (k : Int) (ok : Bool) :
    (Instr.lookup t (.map (some b)) (.int ik k) ok).run P w = .ok (if ok then .tuple #[(mlk M k).getD te.zv, .bool (mlk M k).isSome] else (mlk M k).getD te.zv) w := by
  obtain ⟨es, clk, rfl, hp, _, _⟩ := hM
  have h1 := tk_map ht hk
  have h2 := tab_underlying htk hkk
  have hs := find_spec ik k es.toList M 0 hp
  have hget : (getObj b).run P w = .ok (.map es clk) w := by simp [getObj, Sem.run, hb]
  cases hm : mlk M k with
  | none =>
    obtain ⟨a1, _⟩ := hs.1 hm
    have hf : (Instr.findKey kt (.int ik k) es.toList).run P w = .ok none w := by simp [Instr.findKey, run_underlying h2, a1]
    simp [Instr.lookup, run_underlying h1, hget, run_checkKey h2, hf, run_zeroValue hte]
  | some v =>
    obtain ⟨i, a1, _⟩ := hs.2 v hm
    have hf : (Instr.findKey kt (.int ik k) es.toList).run P w = .ok (some (0 + i, v)) w := by simp [Instr.findKey, run_underlying h2, a1]
    simp [Instr.lookup, run_underlying h1, hget, run_checkKey h2, hf]
theorem q_lookup {t kt et : Nat} {x y : Operand} {ti tk te : TI} {ik : IntKind} {b : Nat} {M : List (Int × Value)} {k : Int} {v : Value} (ho : o.op = .lookup t x y false) (ht : tget C.tab t = some ti) (hk : ti.kind = .map kt et) (htk : tget C.tab kt = some tk)
    (hkk : tk.kind = .int ik) (hte : tget C.tab et = some te) (hx : ev F x = some (.map (some b))) (hy : ev F y = some (.int ik k)) (hin : InL L (haMap b ik M)) (hv : (mlk M k).getD te.zv = v) : Qv C o F L v :=
  .of_run fun a w hf hs => by
    obtain ⟨ob, h1, h2⟩ := (hs.at hin).2.1
    have := run_lookup (C.ok.get ht) hk (C.ok.get htk) hkk (C.ok.get hte) h1 h2 k false
    simp [execOp, ho, hf.ev hx, hf.ev hy, this, hv]
theorem q_lookup_ok {t kt et : Nat} {x y : Operand} {ti tk te : TI} {ik : IntKind} {b : Nat} {M : List (Int × Value)} {k : Int} {v : Value} {r : Bool} (ho : o.op = .lookup t x y true) (ht : tget C.tab t = some ti) (hk : ti.kind = .map kt et) (htk : tget C.tab kt = some tk)
    (hkk : tk.kind = .int ik) (hte : tget C.tab et = some te) (hx : ev F x = some (.map (some b))) (hy : ev F y = some (.int ik k)) (hin : InL L (haMap b ik M)) (hv : (mlk M k).getD te.zv = v) (hr : (mlk M k).isSome = r) : Qv C o F L (.tuple #[v, .bool r]) :=
  .of_run fun a w hf hs => by
    obtain ⟨ob, h1, h2⟩ := (hs.at hin).2.1
    have := run_lookup (C.ok.get ht) hk (C.ok.get htk) hkk (C.ok.get hte) h1 h2 k true
    simp [execOp, ho, hf.ev hx, hf.ev hy, this, hv, hr]
theorem imap_nil (ik : IntKind) : imapOk ik [] (.map #[] 0) := ⟨#[], 0, rfl, rfl, fun e he => by simp at he, by simp⟩
theorem j_makeMap {d t : Nat} (ik : IntKind) (ho : o.op = .makeMap t none) (hg : o.guard = none) (hd : o.dst = some d) (hn : Nat.blt d C.n = true)
    (h : ∀ b, J C ops false rest K ((d, .map (some b)) :: F) (haMap b ik [] :: L)) : J C ops false (o :: rest) K F L := by
  refine j_step_new (ob := .map #[] 0) (x := fun b => haMap b ik []) hg hd hn (fun b => .map (some b)) (fun a w hf hs => ?_) (fun b c h => h) (fun w hw => haMap_holds (.inl hw) (heap_alloc_new _ _) (imap_nil ik)) h
  simp [execOp, ho, Instr.makeMap]
theorem j_makeMapN {d t k e : Nat} {ti : TI} {x : Operand} {kk : IntKind} {n : Int} (ik : IntKind) (ho : o.op = .makeMap t (some x)) (ht : tget C.tab t = some ti) (hk : ti.kind = .map k e) (hx : ev F x = some (.int kk n)) (hg : o.guard = none) (hd : o.dst = some d) (hn : Nat.blt d C.n = true)
    (h : ∀ b, J C ops false rest K ((d, .map (some b)) :: F) (haMap b ik [] :: L)) : J C ops false (o :: rest) K F L := by
  refine j_step_new (ob := .map #[] 0) (x := fun b => haMap b ik []) hg hd hn (fun b => .map (some b)) (fun a w hf hs => ?_) (fun b c h => h) (fun w hw => haMap_holds (.inl hw) (heap_alloc_new _ _) (imap_nil ik)) h
  have h1 := tk_map (C.ok.get ht) hk
  simp [execOp, ho, Instr.makeMap, hf.ev hx, run_underlying h1, asInt, asIntOf]
theorem run_mapUpdate {P : Program} {t kt et : TypeId} {ti tk : TI} {ik : IntKind} (ht : TIok P t ti) (hk : ti.kind = .map kt et) (htk : TIok P kt tk) (hkk : tk.kind = .int ik) {w : World} {b : Nat} {M : List (Int × Value)} {ob : Obj}
    (hb : w.heap[b]? = some ob) (hM : imapOk ik M ob) (k : Int) (v : Value) :
    ∃ ob', (Instr.mapUpdate t (.map (some b)) (.int ik k) v).run P w = .ok () { w with heap := w.heap.setIfInBounds b ob' } ∧ imapOk ik (mset M k v) ob' := by
  obtain ⟨es, clk, rfl, hp, hborn, hnd⟩ := hM
  have h1 := tk_map ht hk
  have h2 := tab_underlying htk hkk
  have hs := find_spec ik k es.toList M 0 hp
  have hget : (getObj b).run P w = .ok (.map es clk) w := by simp [getObj, Sem.run, hb]
  have hset : ∀ o', (setObj b o').run P w = .ok () { w with heap := w.heap.setIfInBounds b o' } := fun o' => by simp [setObj, Sem.run, hb]
  cases hm : mlk M k with
  | none =>
    obtain ⟨a1, a2⟩ := hs.1 hm
    have hf : (Instr.findKey kt (.int ik k) es.toList).run P w = .ok none w := by simp [Instr.findKey, run_underlying h2, a1]
    refine ⟨.map (es.push { key := .int ik k, val := v, born := clk }) (clk + 1), ?_, _, _, rfl, ?_, ?_, ?_⟩
    · simp [Instr.mapUpdate, run_underlying h1, hget, run_checkKey h2, hf, hset]
    · rw [a2 v, ← hp]; simp [pairs]
    · intro e he
      simp only [Array.toList_push, List.mem_append, List.mem_singleton] at he
      rcases he with he | he
      · have := hborn e he; omega
      · subst he; simp
    · simp only [Array.toList_push, List.map_append, List.map_cons, List.map_nil]
      rw [List.nodup_append]
      refine ⟨hnd, by simp, ?_⟩
      intro x hx y hy
      simp only [List.mem_singleton] at hy
      subst hy
      obtain ⟨e, he, rfl⟩ := List.mem_map.1 hx
      have := hborn e he
      omega
  | some u =>
    obtain ⟨i, a1, a2, ⟨e0, a3, a3'⟩, a4⟩ := hs.2 u hm
    have hf : (Instr.findKey kt (.int ik k) es.toList).run P w = .ok (some (0 + i, u)) w := by simp [Instr.findKey, run_underlying h2, a1]
    have hgi : es[0 + i]? = some e0 := by rw [Nat.zero_add]; simpa using a3
    have hkeep : (Instr.keyThatStays (.int ik k) (.int ik k)).run P w = .ok (.int ik k) w := by
      have := sameBits_ 10000 ik k
      unfold Instr.keyThatStays
      rw [if_pos this]
      rfl
    refine ⟨.map (es.modify (0 + i) fun e => { e with key := .int ik k, val := v }) clk, ?_, _, _, rfl, ?_, ?_, ?_⟩
    · simp [Instr.mapUpdate, run_underlying h1, hget, run_checkKey h2, hf]
      rw [Nat.zero_add] at hgi
      simp [hgi, a3', hkeep, hset]
    · rw [← a4 v, Nat.zero_add]; simp [pairs]
    · intro e he
      rw [Array.toList_modify] at he
      obtain ⟨j, hj⟩ := List.mem_iff_getElem?.1 he
      rw [List.getElem?_modify] at hj
      cases hq : es.toList[j]? with
      | none => simp [hq] at hj
      | some e1 =>
        simp only [hq, Option.map_eq_map, Option.map_some, Option.some.injEq] at hj
        have h3 := hborn e1 (List.mem_of_getElem? hq)
        split at hj <;> (subst hj; exact h3)
    · have : ((es.modify (0 + i) fun e => { e with key := .int ik k, val := v }).toList.map (·.born)) = es.toList.map (·.born) := by
        apply List.ext_getElem?
        intro j
        simp only [Array.toList_modify, List.getElem?_map, List.getElem?_modify]
        cases es.toList[j]? with
        | none => simp
        | some e1 => simp only [Option.map_eq_map, Option.map_some]; split <;> rfl
      rw [this]; exact hnd
theorem j_mapUpdate {t kt et : Nat} {x y z : Operand} {ti tk : TI} {ik : IntKind} {b : Nat} {M : List (Int × Value)} {k : Int} {v : Value} {L' : List HA} (ho : o.op = .mapUpdate t x y z) (hg : o.guard = none) (hd : o.dst = none) (ht : tget C.tab t = some ti)
    (hk : ti.kind = .map kt et) (htk : tget C.tab kt = some tk) (hkk : tk.kind = .int ik) (hx : ev F x = some (.map (some b))) (hy : ev F y = some (.int ik k)) (hz : ev F z = some v) (hup : Upd L (haMap b ik M) (haMap b ik (mset M k v)) L')
    (h : J C ops false rest K F L') : J C ops false (o :: rest) K F L := by
  intro a w hf hs
  obtain ⟨N, hp1, hp2⟩ := hup.perm
  have hA := (hs.perm hp1).head
  obtain ⟨ob, h1, h2⟩ := hA.2.1
  obtain ⟨ob', hr, hM'⟩ := run_mapUpdate (C.ok.get ht) hk (C.ok.get htk) hkk h1 h2 k v
  have hrun : (execOp a.eval o).run C.P w = .ok .skip { w with heap := w.heap.setIfInBounds b ob' } := by
    simp [execOp, ho, hf.ev hx, hf.ev hy, hf.ev hz, hr]
  refine wpListIn_run (by simp [Region.wanted, hg]) (wpIn_skip_ hrun ?_)
  rw [hd]
  have hlt := (hA.1 b rfl).2
  refine h a _ (hf.put_none undef) (hs.upd hup ⟨rfl, rfl, rfl, by simp, fun k hk => by omega⟩ ?_ (haMap_holds (hA.1 b rfl).1 (by simp [hlt]) hM') (fun c hc => .inl hc))
  intro c hc hne
  simp only [Array.getElem?_setIfInBounds]
  rw [if_neg (fun e => hne e.symm)]
theorem q_len_map {x : Operand} {t kt et : TypeId} {ti : TI} {ik : IntKind} {b : Nat} {M : List (Int × Value)} (ho : o.op = .call { callee := .builtin .len, args := #[x], argTypes := #[t] }) (ht : tget C.tab t = some ti) (hk : ti.kind = .map kt et)
    (hx : ev F x = some (.map (some b))) (hin : InL L (haMap b ik M)) : Qv C o F L (.int .i64 (M.length : Int)) :=
  .of_run fun ac w hf hs => by
    have h1 := tk_map (C.ok.get ht) hk
    obtain ⟨ob, h2, es, clk, rfl, hp, _⟩ := (hs.at hin).2.1
    have hlen : es.size = M.length := by
      have := congrArg List.length hp
      simpa [pairs, ipairs] using this
    have hget : (getObj b).run C.P w = .ok (.map es clk) w := by simp [getObj, Sem.run, h2]
    simp [execOp, ho, resolve, invoke, builtin, Builtin.len_, hf.ev hx, run_underlying h1, goInt, hget, hlen]
end
end Eng
end Go.Proofs.Ytmcmmmaffdenjaa

/-
  Ranges over maps.
-/
namespace Go.Proofs.Ytmcmmmaffdenjaa
namespace Eng
open Go.RowKit
open Go.ChangeMaps (setBlock)
set_option linter.unusedVariables false
/-- A map under a range: what is left, and the entry at hand. -/
def haIt (b r : Nat) (ik : IntKind) (M left : List (Int × Value)) (cur : Option (Int × Value)) : HA := .abs (fun c => c = b ∨ c = r) (fun w => ∃ es clk seen, w.heap[b]? = some (.map es clk) ∧ pairs es.toList = ipairs ik M ∧ (∀ e ∈ es.toList, e.born < clk) ∧ (es.toList.map (·.born)).Nodup ∧
  w.heap[r]? = some (.mapIter (some b) clk seen clk) ∧ pairs (leftOf es seen).toList = ipairs ik left ∧ (∀ k v, cur = some (k, v) → ∃ e ∈ es.toList, ∃ s0, seen = Array.push s0 e.born ∧ e.key = .int ik k ∧ e.val = v))
section
variable {C : Cx} {F : Fr} {L : List HA} {o : Oper} {K : List KI} {ops : Array Oper} {rest : List Oper}
theorem j_range {d t kt et : Nat} {x : Operand} {ti : TI} {ik : IntKind} {b : Nat} {M : List (Int × Value)} {L' : Nat → List HA} (ho : o.op = .range t x) (hg : o.guard = none) (hd : o.dst = some d) (hn : Nat.blt d C.n = true) (ht : tget C.tab t = some ti) (hk : ti.kind = .map kt et)
    (hx : ev F x = some (.map (some b))) (hup : ∀ r, Upd L (haMap b ik M) (haIt b r ik M M none) (L' r)) (h : ∀ r, J C ops false rest K ((d, .pointer (some ⟨r, 0, none⟩)) :: F) (L' r)) : J C ops false (o :: rest) K F L := by
  intro a w hf hs
  obtain ⟨N, hp1, _⟩ := (hup w.heap.size).perm
  have hA := (hs.perm hp1).head
  obtain ⟨ob, h1, es, clk, rfl, hp, hb, hnd⟩ := hA.2.1
  have hu := tk_map (C.ok.get ht) hk
  have hlt := (hA.1 b rfl).2
  have hrun : (execOp a.eval o).run C.P w = .ok (.value (.pointer (some ⟨w.heap.size, 0, none⟩))) (w.alloc (.mapIter (some b) clk #[] clk)) := by
    have hget : (getObj b).run C.P w = .ok (.map es clk) w := by simp [getObj, Sem.run, h1]
    simp [execOp, ho, hf.ev hx, Instr.range, run_underlying hu, hget]
  refine wpListIn_run (by simp [Region.wanted, hg]) (wpIn_value hrun ?_)
  rw [hd]
  refine h w.heap.size _ _ (hf.put _ hn) (hs.upd (hup _) ((Below.refl 0 w).alloc (Nat.zero_le _) _) (fun c hc _ => ((Below.refl w.heap.size w).alloc (Nat.le_refl _) _).block c hc) ?_ (fun c hc => ?_))
  · have hold : ∀ c, c < w.heap.size → (w.alloc (.mapIter (some b) clk #[] clk)).heap[c]? = w.heap[c]? := fun c hc => ((Below.refl w.heap.size w).alloc (Nat.le_refl _) _).block c hc
    refine ⟨fun c hc => ?_, ⟨es, clk, #[], (hold b hlt).trans h1, hp, hb, hnd, heap_alloc_new _ _, ?_, fun k v e => by cases e⟩, fun w' _ hk' => ?_⟩
    · rcases hc with rfl | rfl
      · exact ⟨(hA.1 _ rfl).1, by rw [World.size_alloc]; omega⟩
      · exact ⟨.inl hs.near.size, by rw [World.size_alloc]; omega⟩
    · rw [show leftOf es #[] = es from by unfold leftOf; exact Array.filter_eq_self.2 (fun x _ => by simp)]
      exact hp
    · exact ⟨es, clk, #[], (hk' b (.inl rfl)).trans ((hold b hlt).trans h1), hp, hb, hnd, (hk' _ (.inr rfl)).trans (heap_alloc_new _ _), by
        rw [show leftOf es #[] = es from by unfold leftOf; exact Array.filter_eq_self.2 (fun x _ => by simp)]
        exact hp, fun k v e => by cases e⟩
  · rcases hc with rfl | rfl
    · exact .inl rfl
    · exact .inr (Nat.le_refl _)
theorem left_push {es : Array MapEntry} {seen : Array Nat} {e : MapEntry} (hnd : (es.toList.map (·.born)).Nodup) (he : e ∈ (leftOf es seen).toList) :
    ∃ L1 L2, (leftOf es seen).toList = L1 ++ e :: L2 ∧ (leftOf es (seen.push e.born)).toList = L1 ++ L2 := by
  obtain ⟨L1, L2, hL⟩ := List.append_of_mem he
  refine ⟨L1, L2, hL, ?_⟩
  have e1 : (leftOf es (seen.push e.born)).toList = (leftOf es seen).toList.filter (fun x => x.born != e.born) := by
    unfold leftOf
    simp only [Array.toList_filter, List.filter_filter]
    congr 1
    funext x
    simp only [Array.contains_push]
    cases h1 : (x.born == e.born) <;> simp_all [bne]
  have hsub : ((leftOf es seen).toList.map (·.born)).Nodup := by
    refine List.Nodup.sublist ?_ hnd
    unfold leftOf
    rw [Array.toList_filter]
    exact (List.filter_sublist).map _
  rw [e1, hL]
  rw [hL] at hsub
  simp only [List.map_append, List.map_cons] at hsub
  have h3 := List.nodup_append.1 hsub
  obtain ⟨h4, h5⟩ := List.nodup_cons.1 h3.2.1
  rw [List.filter_append, List.filter_cons]
  simp only [bne_self_eq_false, Bool.false_eq_true, if_false]
  congr 1
  · refine List.filter_eq_self.2 fun x hx => ?_
    have := h3.2.2 _ (List.mem_map.2 ⟨x, hx, rfl⟩) e.born List.mem_cons_self
    simpa using this
  · refine List.filter_eq_self.2 fun x hx => ?_
    have : x.born ≠ e.born := fun hh => h4 (hh ▸ List.mem_map.2 ⟨x, hx, rfl⟩)
    simpa using this
theorem ipairs_split {ik : IntKind} : ∀ {left : List (Int × Value)} {L1 L2 : List MapEntry} {e : MapEntry}, pairs (L1 ++ e :: L2) = ipairs ik left → ∃ l1 k l2, left = l1 ++ (k, e.val) :: l2 ∧ e.key = .int ik k ∧ pairs (L1 ++ L2) = ipairs ik (l1 ++ l2)
  | [], L1, L2, e, h => by simp [pairs, ipairs] at h
  | (k, v) :: left, [], L2, e, h => by
    simp only [pairs, ipairs, List.nil_append, List.map_cons, List.cons.injEq, Prod.mk.injEq] at h
    obtain ⟨⟨h1, h2⟩, h3⟩ := h
    subst h2
    exact ⟨[], k, left, rfl, h1, h3⟩
  | (k, v) :: left, x :: L1, L2, e, h => by
    simp only [pairs, ipairs, List.cons_append, List.map_cons, List.cons.injEq] at h
    obtain ⟨h1, h3⟩ := h
    obtain ⟨l1, k', l2, rfl, h4, h5⟩ := ipairs_split (left := left) (L1 := L1) h3
    refine ⟨(k, v) :: l1, k', l2, rfl, h4, ?_⟩
    simp only [pairs, ipairs, List.cons_append, List.map_cons, List.cons.injEq] at h5 ⊢
    exact ⟨h1, h5⟩
theorem j_next {d b r : Nat} {x : Operand} {ik : IntKind} {M left : List (Int × Value)} {cur : Option (Int × Value)} {L' : List (Int × Value) → Int → Value → List HA} (ho : o.op = .next x false) (hg : o.guard = none) (hd : o.dst = some d) (hn : Nat.blt d C.n = true)
    (hx : ev F x = some (.pointer (some ⟨r, 0, none⟩))) (hin : InL L (haIt b r ik M left cur)) (hup : ∀ l k v, Upd L (haIt b r ik M left cur) (haIt b r ik M l (some (k, v))) (L' l k v))
    (h0 : left = [] → J C ops false rest K ((d, .tuple #[.bool false]) :: F) L) (h1 : ∀ l1 k v l2, left = l1 ++ (k, v) :: l2 → J C ops false rest K ((d, .tuple #[.bool true, .int ik k, v]) :: F) (L' (l1 ++ l2) k v)) : J C ops false (o :: rest) K F L := by
  intro a w hf hs
  have hA := hs.at hin
  obtain ⟨es, clk, seen, hb, hp, hborn, hnd, hr, hleft, hcur⟩ := hA.2.1
  have hne : b ≠ r := by
    intro e; subst e; rw [hb] at hr; cases hr
  rcases run_next_at (P := C.P) w o.type r b clk clk seen es clk hr hb hborn (Nat.le_refl _) with ⟨hz, hrun⟩ | ⟨e, he, w1, hw1, hrun⟩
  · have hl0 : left = [] := by
      have : (leftOf es seen).toList = [] := by
        have : (leftOf es seen) = #[] := Array.eq_empty_of_size_eq_zero hz
        rw [this]
      rw [this] at hleft
      simp only [pairs, ipairs, List.map_nil] at hleft
      exact List.map_eq_nil_iff.1 hleft.symm
    have hrun' : (execOp a.eval o).run C.P w = .ok (.value (.tuple #[.bool false])) w := by
      simp [execOp, ho, hf.ev hx, hrun]
    refine wpListIn_run (by simp [Region.wanted, hg]) (wpIn_value hrun' ?_)
    rw [hd]
    exact h0 hl0 _ _ (hf.put _ hn) hs
  · obtain ⟨L1, L2, hL, hL'⟩ := left_push hnd he
    rw [hL] at hleft
    obtain ⟨l1, k, l2, rfl, hkey, hl'⟩ := ipairs_split hleft
    have hees : e ∈ es.toList := by
      unfold leftOf at he
      rw [Array.toList_filter] at he
      exact (List.mem_filter.1 he).1
    have hrun' : (execOp a.eval o).run C.P w = .ok (.value (.tuple #[.bool true, .int ik k, e.val])) (setBlock w1 r (.mapIter (some b) clk (seen.push e.born) clk)) := by
      rw [hkey] at hrun
      simp [execOp, ho, hf.ev hx, hrun]
    refine wpListIn_run (by simp [Region.wanted, hg]) (wpIn_value hrun' ?_)
    rw [hd]
    have hlt := hA.1 r (.inr rfl)
    have hltb := hA.1 b (.inl rfl)
    have hw1h : w1.heap = w.heap := by rcases hw1 with rfl | rfl <;> rfl
    have hnew : ∀ c, (setBlock w1 r (.mapIter (some b) clk (seen.push e.born) clk)).heap[c]? = if c = r then some (.mapIter (some b) clk (seen.push e.born) clk) else w.heap[c]? := by
      intro c
      simp only [setBlock, hw1h, Array.getElem?_setIfInBounds]
      by_cases hc : r = c
      · subst hc; simp [hlt.2]
      · rw [if_neg hc, if_neg (fun e => hc e.symm)]
    refine h1 l1 k e.val l2 rfl _ _ (hf.put _ hn) (hs.upd (hup _ _ _) ⟨?_, ?_, ?_, ?_, fun k hk => by omega⟩ (fun c hc hnot => ?_) ?_ (fun c hc => .inl hc))
    · rcases hw1 with rfl | rfl <;> rfl
    · rcases hw1 with rfl | rfl <;> rfl
    · rcases hw1 with rfl | rfl <;> rfl
    · simp [setBlock, hw1h]
    · rw [hnew, if_neg (fun e => hnot (.inr e))]
    · have hp2 : ∀ w' : World, (∀ c, (c = b ∨ c = r) → w'.heap[c]? = (setBlock w1 r (.mapIter (some b) clk (seen.push e.born) clk)).heap[c]?) → ∃ es clk seen, w'.heap[b]? = some (.map es clk) ∧ pairs es.toList = ipairs ik M ∧ (∀ e ∈ es.toList, e.born < clk) ∧ (es.toList.map (·.born)).Nodup ∧
          w'.heap[r]? = some (.mapIter (some b) clk seen clk) ∧ pairs (leftOf es seen).toList = ipairs ik (l1 ++ l2) ∧ (∀ k' v', some (k, e.val) = some (k', v') → ∃ e ∈ es.toList, ∃ s0, seen = Array.push s0 e.born ∧ e.key = .int ik k' ∧ e.val = v') := by
        intro w' hk'
        refine ⟨es, clk, seen.push e.born, ?_, hp, hborn, hnd, ?_, by rw [hL']; exact hl', ?_⟩
        · rw [hk' b (.inl rfl), hnew, if_neg hne]; exact hb
        · rw [hk' r (.inr rfl), hnew, if_pos rfl]
        · intro k' v' hh
          simp only [Option.some.injEq, Prod.mk.injEq] at hh
          obtain ⟨rfl, rfl⟩ := hh
          exact ⟨e, hees, seen, rfl, hkey, rfl⟩
      refine ⟨fun c hc => ?_, hp2 _ (fun c _ => rfl), fun w' _ hk' => hp2 w' hk'⟩
      rcases hc with rfl | rfl
      · exact ⟨hltb.1, by simp [setBlock, hw1h]; exact hltb.2⟩
      · exact ⟨hlt.1, by simp [setBlock, hw1h]; exact hlt.2⟩
theorem q_entry {b r : Nat} {x : Operand} {ik : IntKind} {M left : List (Int × Value)} {k : Int} {v : Value} (ho : o.op = .entry x) (hx : ev F x = some (.pointer (some ⟨r, 0, none⟩))) (hin : InL L (haIt b r ik M left (some (k, v)))) : Qv C o F L (.tuple #[.int ik k, v]) :=
  .of_run fun a w hf hs => by
    obtain ⟨es, clk, seen, hb, hp, hborn, hnd, hr, hleft, hcur⟩ := (hs.at hin).2.1
    obtain ⟨e, he, s0, rfl, hkey, hval⟩ := hcur k v rfl
    have := run_entry_at (P := C.P) w r b clk s0 es clk e hr hb he hnd
    rw [hkey, hval] at this
    simp [execOp, ho, hf.ev hx, this]
end
end Eng
end Go.Proofs.Ytmcmmmaffdenjaa

/-
  Maps that came in: looked up, counted, gone over.
-/
namespace Go.Proofs.Ytmcmmmaffdenjaa
namespace Eng
open Go.RowKit
open Go.ChangeMaps (setBlock)
set_option linter.unusedVariables false
/-- A map in memory that is only read. -/
structure MapG (w : World) (b : Nat) (ik : IntKind) (M : List (Int × Value)) (es : Array MapEntry) (clk : Nat) : Prop where
  at_ : w.heap[b]? = some (.map es clk)
  prs : pairs es.toList = ipairs ik M
  born : ∀ e ∈ es.toList, e.born < clk
  nodup : (es.toList.map (·.born)).Nodup
theorem MapG.lt {w : World} {b : Nat} {ik : IntKind} {M : List (Int × Value)} {es : Array MapEntry} {clk : Nat} (h : MapG w b ik M es clk) : b < w.heap.size := (Array.getElem?_eq_some_iff.1 h.at_).1
theorem MapG.imap {w : World} {b : Nat} {ik : IntKind} {M : List (Int × Value)} {es : Array MapEntry} {clk : Nat} (h : MapG w b ik M es clk) : imapOk ik M (.map es clk) := ⟨es, clk, rfl, h.prs, h.born, h.nodup⟩
theorem MapG.near {w w' : World} {B : Nat} {hot : Nat → Prop} {b : Nat} {ik : IntKind} {M : List (Int × Value)} {es : Array MapEntry} {clk : Nat} (h : MapG w b ik M es clk) (hn : Near B hot w w') (hb : b < B) (hh : ¬ hot b) : MapG w' b ik M es clk := ⟨(hn.block b hb hh).trans h.at_, h.prs, h.born, h.nodup⟩
theorem MapG.st {w0 w : World} {L : List HA} {b : Nat} {ik : IntKind} {M : List (Int × Value)} {es : Array MapEntry} {clk : Nat} (h : MapG w0 b ik M es clk) (hs : St w0 Cold L w) : MapG w b ik M es clk := h.near hs.near h.lt (fun h => h)
theorem St.mapG {w0 w : World} {hot : Nat → Prop} {L : List HA} {b : Nat} {ik : IntKind} {M : List (Int × Value)} (hs : St w0 hot L w) (hin : InL L (haMap b ik M)) : ∃ es clk, MapG w b ik M es clk := by
  obtain ⟨ob, h1, es, clk, rfl, h2, h3, h4⟩ := (hs.at hin).2.1
  exact ⟨es, clk, h1, h2, h3, h4⟩
/-- What is left of such a map under a range. -/
def haItG (b r : Nat) (ik : IntKind) (es : Array MapEntry) (clk : Nat) (left : List (Int × Value)) (cur : Option (Int × Value)) : HA := .abs (· = r) (fun w => ∃ seen, w.heap[r]? = some (.mapIter (some b) clk seen clk) ∧ pairs (leftOf es seen).toList = ipairs ik left ∧
  (∀ k v, cur = some (k, v) → ∃ e ∈ es.toList, ∃ s0, seen = Array.push s0 e.born ∧ e.key = .int ik k ∧ e.val = v))
section
variable {C : Cx} {F : Fr} {L : List HA} {o : Oper} {K : List KI} {ops : Array Oper} {rest : List Oper}
/-- In the context: given, and not written. -/
structure MapC (C : Cx) (b : Nat) (ik : IntKind) (M : List (Int × Value)) (es : Array MapEntry) (clk : Nat) : Prop where
  map : MapG C.w0 b ik M es clk
  cold : ¬ C.hot b
theorem MapC.now {b : Nat} {ik : IntKind} {M : List (Int × Value)} {es : Array MapEntry} {clk : Nat} (h : MapC C b ik M es clk) {w : World} (hs : St C.w0 C.hot L w) : MapG w b ik M es clk := h.map.near hs.near h.map.lt h.cold
theorem q_lookupG {t kt et : Nat} {x y : Operand} {ti tk te : TI} {ik : IntKind} {b : Nat} {M : List (Int × Value)} {es : Array MapEntry} {clk : Nat} {k : Int} {v : Value} (ho : o.op = .lookup t x y false) (ht : tget C.tab t = some ti) (hk : ti.kind = .map kt et) (htk : tget C.tab kt = some tk)
    (hkk : tk.kind = .int ik) (hte : tget C.tab et = some te) (hx : ev F x = some (.map (some b))) (hy : ev F y = some (.int ik k)) (hM : MapC C b ik M es clk) (hv : (mlk M k).getD te.zv = v) : Qv C o F L v :=
  .of_run fun a w hf hs => by
    have := run_lookup (C.ok.get ht) hk (C.ok.get htk) hkk (C.ok.get hte) (hM.now hs).at_ (hM.now hs).imap k false
    simp [execOp, ho, hf.ev hx, hf.ev hy, this, hv]
theorem q_lookup_okG {t kt et : Nat} {x y : Operand} {ti tk te : TI} {ik : IntKind} {b : Nat} {M : List (Int × Value)} {es : Array MapEntry} {clk : Nat} {k : Int} {v : Value} {r : Bool} (ho : o.op = .lookup t x y true) (ht : tget C.tab t = some ti) (hk : ti.kind = .map kt et) (htk : tget C.tab kt = some tk)
    (hkk : tk.kind = .int ik) (hte : tget C.tab et = some te) (hx : ev F x = some (.map (some b))) (hy : ev F y = some (.int ik k)) (hM : MapC C b ik M es clk) (hv : (mlk M k).getD te.zv = v) (hr : (mlk M k).isSome = r) : Qv C o F L (.tuple #[v, .bool r]) :=
  .of_run fun a w hf hs => by
    have := run_lookup (C.ok.get ht) hk (C.ok.get htk) hkk (C.ok.get hte) (hM.now hs).at_ (hM.now hs).imap k true
    simp [execOp, ho, hf.ev hx, hf.ev hy, this, hv, hr]
theorem q_len_mapG {x : Operand} {t kt et : TypeId} {ti : TI} {ik : IntKind} {b : Nat} {M : List (Int × Value)} {es : Array MapEntry} {clk : Nat} (ho : o.op = .call { callee := .builtin .len, args := #[x], argTypes := #[t] }) (ht : tget C.tab t = some ti) (hk : ti.kind = .map kt et)
    (hx : ev F x = some (.map (some b))) (hM : MapC C b ik M es clk) : Qv C o F L (.int .i64 (M.length : Int)) :=
  .of_run fun ac w hf hs => by
    have h1 := tk_map (C.ok.get ht) hk
    have hG := hM.now hs
    have hlen : es.size = M.length := by
      have := congrArg List.length hG.prs
      simpa [pairs, ipairs] using this
    have hget : (getObj b).run C.P w = .ok (.map es clk) w := by simp [getObj, Sem.run, hG.at_]
    simp [execOp, ho, resolve, invoke, builtin, Builtin.len_, hf.ev hx, run_underlying h1, goInt, hget, hlen]
theorem leftOf_nil (es : Array MapEntry) : leftOf es #[] = es := by unfold leftOf; exact Array.filter_eq_self.2 (fun x _ => by simp)
theorem j_rangeG {d t kt et : Nat} {x : Operand} {ti : TI} {ik : IntKind} {b : Nat} {M : List (Int × Value)} {es : Array MapEntry} {clk : Nat} (ho : o.op = .range t x) (hg : o.guard = none) (hd : o.dst = some d) (hn : Nat.blt d C.n = true) (ht : tget C.tab t = some ti) (hk : ti.kind = .map kt et)
    (hx : ev F x = some (.map (some b))) (hM : MapC C b ik M es clk) (h : ∀ r, J C ops false rest K ((d, .pointer (some ⟨r, 0, none⟩)) :: F) (haItG b r ik es clk M none :: L)) : J C ops false (o :: rest) K F L := by
  have hu := tk_map (C.ok.get ht) hk
  have hp := hM.map.prs
  refine j_step_new (ob := .mapIter (some b) clk #[] clk) (x := fun r => haItG b r ik es clk M none) hg hd hn (fun r => .pointer (some ⟨r, 0, none⟩)) (fun a w hf hs => ?_) (fun r c hc => hc) (fun w hw => ?_) h
  · have hget : (getObj b).run C.P w = .ok (.map es clk) w := by simp [getObj, Sem.run, (hM.now hs).at_]
    simp [execOp, ho, hf.ev hx, Instr.range, run_underlying hu, hget]
  · refine ⟨fun c hc => ?_, ⟨#[], heap_alloc_new _ _, by rw [leftOf_nil]; exact hp, fun k v e => by cases e⟩, fun w' _ hk' => ⟨#[], (hk' _ rfl).trans (heap_alloc_new _ _), by rw [leftOf_nil]; exact hp, fun k v e => by cases e⟩⟩
    subst hc
    exact ⟨.inl hw, by rw [World.size_alloc]; omega⟩
theorem j_nextG {d b r : Nat} {x : Operand} {ik : IntKind} {M left : List (Int × Value)} {es : Array MapEntry} {clk : Nat} {cur : Option (Int × Value)} {L' : List (Int × Value) → Int → Value → List HA} (ho : o.op = .next x false) (hg : o.guard = none) (hd : o.dst = some d) (hn : Nat.blt d C.n = true)
    (hx : ev F x = some (.pointer (some ⟨r, 0, none⟩))) (hM : MapC C b ik M es clk) (hin : InL L (haItG b r ik es clk left cur)) (hup : ∀ l k v, Upd L (haItG b r ik es clk left cur) (haItG b r ik es clk l (some (k, v))) (L' l k v))
    (h0 : left = [] → J C ops false rest K ((d, .tuple #[.bool false]) :: F) L) (h1 : ∀ l1 k v l2, left = l1 ++ (k, v) :: l2 → J C ops false rest K ((d, .tuple #[.bool true, .int ik k, v]) :: F) (L' (l1 ++ l2) k v)) : J C ops false (o :: rest) K F L := by
  intro a w hf hs
  have hA := hs.at hin
  obtain ⟨seen, hr, hleft, hcur⟩ := hA.2.1
  have hG := hM.now hs
  have hb := hG.at_
  have hne : b ≠ r := by
    intro e; subst e; rw [hb] at hr; cases hr
  rcases run_next_at (P := C.P) w o.type r b clk clk seen es clk hr hb hG.born (Nat.le_refl _) with ⟨hz, hrun⟩ | ⟨e, he, w1, hw1, hrun⟩
  · have hl0 : left = [] := by
      have : (leftOf es seen).toList = [] := by
        have : (leftOf es seen) = #[] := Array.eq_empty_of_size_eq_zero hz
        rw [this]
      rw [this] at hleft
      simp only [pairs, ipairs, List.map_nil] at hleft
      exact List.map_eq_nil_iff.1 hleft.symm
    have hrun' : (execOp a.eval o).run C.P w = .ok (.value (.tuple #[.bool false])) w := by
      simp [execOp, ho, hf.ev hx, hrun]
    refine wpListIn_run (by simp [Region.wanted, hg]) (wpIn_value hrun' ?_)
    rw [hd]
    exact h0 hl0 _ _ (hf.put _ hn) hs
  · obtain ⟨L1, L2, hL, hL'⟩ := left_push hG.nodup he
    rw [hL] at hleft
    obtain ⟨l1, k, l2, rfl, hkey, hl'⟩ := ipairs_split hleft
    have hees : e ∈ es.toList := by
      unfold leftOf at he
      rw [Array.toList_filter] at he
      exact (List.mem_filter.1 he).1
    have hrun' : (execOp a.eval o).run C.P w = .ok (.value (.tuple #[.bool true, .int ik k, e.val])) (setBlock w1 r (.mapIter (some b) clk (seen.push e.born) clk)) := by
      rw [hkey] at hrun
      simp [execOp, ho, hf.ev hx, hrun]
    refine wpListIn_run (by simp [Region.wanted, hg]) (wpIn_value hrun' ?_)
    rw [hd]
    have hlt := hA.1 r rfl
    have hw1h : w1.heap = w.heap := by rcases hw1 with rfl | rfl <;> rfl
    have hnew : ∀ c, (setBlock w1 r (.mapIter (some b) clk (seen.push e.born) clk)).heap[c]? = if c = r then some (.mapIter (some b) clk (seen.push e.born) clk) else w.heap[c]? := by
      intro c
      simp only [setBlock, hw1h, Array.getElem?_setIfInBounds]
      by_cases hc : r = c
      · subst hc; simp [hlt.2]
      · rw [if_neg hc, if_neg (fun e => hc e.symm)]
    refine h1 l1 k e.val l2 rfl _ _ (hf.put _ hn) (hs.upd (hup _ _ _) ⟨?_, ?_, ?_, ?_, fun k hk => by omega⟩ (fun c hc hnot => ?_) ?_ (fun c hc => .inl hc))
    · rcases hw1 with rfl | rfl <;> rfl
    · rcases hw1 with rfl | rfl <;> rfl
    · rcases hw1 with rfl | rfl <;> rfl
    · simp [setBlock, hw1h]
    · rw [hnew, if_neg (fun e : c = r => hnot e)]
    · have hp2 : ∀ w' : World, w'.heap[r]? = (setBlock w1 r (.mapIter (some b) clk (seen.push e.born) clk)).heap[r]? → ∃ seen, w'.heap[r]? = some (.mapIter (some b) clk seen clk) ∧ pairs (leftOf es seen).toList = ipairs ik (l1 ++ l2) ∧
          (∀ k' v', some (k, e.val) = some (k', v') → ∃ e ∈ es.toList, ∃ s0, seen = Array.push s0 e.born ∧ e.key = .int ik k' ∧ e.val = v') := by
        intro w' hk'
        refine ⟨seen.push e.born, by rw [hk', hnew, if_pos rfl], by rw [hL']; exact hl', ?_⟩
        intro k' v' hh
        simp only [Option.some.injEq, Prod.mk.injEq] at hh
        obtain ⟨rfl, rfl⟩ := hh
        exact ⟨e, hees, seen, rfl, hkey, rfl⟩
      refine ⟨fun c hc => ?_, hp2 _ rfl, fun w' _ hk' => hp2 w' (hk' r rfl)⟩
      subst hc
      exact ⟨hlt.1, by simp [setBlock, hw1h]; exact hlt.2⟩
theorem q_entryG {b r : Nat} {x : Operand} {ik : IntKind} {M left : List (Int × Value)} {es : Array MapEntry} {clk : Nat} {k : Int} {v : Value} (ho : o.op = .entry x) (hx : ev F x = some (.pointer (some ⟨r, 0, none⟩))) (hM : MapC C b ik M es clk) (hin : InL L (haItG b r ik es clk left (some (k, v)))) : Qv C o F L (.tuple #[.int ik k, v]) :=
  .of_run fun a w hf hs => by
    obtain ⟨seen, hr, hleft, hcur⟩ := (hs.at hin).2.1
    have hG := hM.now hs
    obtain ⟨e, he, s0, rfl, hkey, hval⟩ := hcur k v rfl
    have := run_entry_at (P := C.P) w r b clk s0 es clk e hr hG.at_ he hG.nodup
    rw [hkey, hval] at this
    simp [execOp, ho, hf.ev hx, this]
end
end Eng
end Go.Proofs.Ytmcmmmaffdenjaa

/-
  Ranges over functions that hand over memory of their own.
-/
namespace Go.Proofs.Ytmcmmmaffdenjaa
namespace Eng
open Go.RowKit
set_option linter.unusedVariables false
/-- What a loop does with what an iterator hands it: a state, the blocks in which it lies, a step, and whether it goes on. -/
structure ConsumerW {τ α : Type} (P : Program) (W : World) (S0 : Nat → Prop) (l : Nat) (encW : α → (Nat → Prop) → List Value → World → Prop) (Jn : τ → (Nat → Prop) → World → Prop) (stp : τ → α → τ × Bool) (live : τ → Prop) (att : τ → α → Prop) : Prop where
  step : ∀ s S x vs w, encW x S vs w → live s → att s x → Jn s S w → Near W.heap.size S0 W w → YieldRun P l vs w (fun v w' => v = .bool (stp s x).2 ∧ Near w.heap.size S w w' ∧ ∃ S', Jn (stp s x).1 S' w' ∧ ∀ b, S' b → S b ∨ w.heap.size ≤ b)
  goes : ∀ s x, live s → (stp s x).2 = true → live (stp s x).1
  lt : ∀ s S w b, Jn s S w → S b → b < w.heap.size
  stab : ∀ s S w w', Jn s S w → Near W.heap.size S0 w w' → (∀ b, S b → w'.heap[b]? = w.heap[b]?) → (∀ b, S b → S0 b ∨ W.heap.size ≤ b) → Jn s S w'
theorem ConsumerW.start {τ α : Type} {P : Program} {W : World} {S0 : Nat → Prop} {l : Nat} {encW : α → (Nat → Prop) → List Value → World → Prop} {Jn : τ → (Nat → Prop) → World → Prop} {stp : τ → α → τ × Bool} {live : τ → Prop} {att : τ → α → Prop}
    (h : ConsumerW P W S0 l encW Jn stp live att) {s : τ} (h0 : Jn s S0 W) : St W S0 [.abs S0 (Jn s S0)] W :=
  (St.start W S0).cons ⟨fun b hb => ⟨.inr hb, h.lt _ _ _ _ h0 hb⟩, h0, fun w' hn hk => h.stab _ _ _ _ h0 hn hk (fun b hb => .inl hb)⟩ (fun y hy => by cases hy)
section
variable {C : Cx} {F : Fr} {L : List HA} {o : Oper} {K : List KI} {ops : Array Oper} {m : Bool} {rest : List Oper}
/-- A call of yield, in the iterator. -/
theorem j_yieldW {τ α : Type} {d l : Nat} {al : List Operand} {fo : Operand} {ats : Array TypeId} {vs : List Value} {encW : α → (Nat → Prop) → List Value → World → Prop} {Jn : τ → (Nat → Prop) → World → Prop} {stp : τ → α → τ × Bool} {live : τ → Prop} {att : τ → α → Prop}
    (hcons : ConsumerW C.P C.w0 C.hot l encW Jn stp live att) (ho : o.op = .call { callee := .value fo, args := al.toArray, argTypes := ats }) (hg : o.guard = none) (hd : o.dst = some d) (hn : Nat.blt d C.n = true)
    (hfo : ev F fo = some (.func (.yield l) #[] #[])) (ha : evs F al = some vs) {x : α} {s : τ} (hlive : live s) (hat : att s x) {S : Nat → Prop} (hok : ∀ w, St C.w0 C.hot L w → encW x S vs w) (hin : InL L (.abs S (Jn s S))) {L' : (Nat → Prop) → List HA}
    (hup : ∀ S', Upd L (.abs S (Jn s S)) (.abs S' (Jn (stp s x).1 S')) (L' S')) (h : ∀ S', J C ops false rest K ((d, .bool (stp s x).2) :: F) (L' S')) : J C ops false (o :: rest) K F L := by
  intro a w hf hs
  have hA := hs.at hin
  obtain ⟨fn, tmps, assign, body, hy, hr⟩ := hcons.step s S x vs w (hok w hs) hlive hat hA.2.1 hs.near
  have h1 : al.toArray.map a.eval = vs.toArray := by rw [List.map_toArray, hf.evs ha]
  have hrun : (execOp a.eval o).run C.P w = .ok (.round l fn tmps assign body) w := by
    simp only [execOp, ho, resolve, hf.ev hfo, h1, Deferred.ofValue, Sem.run_bind, Sem.run_pure, Result.andThen_ok, invoke, Array.empty_append, hy]
  refine wpListIn_run (by simp [Region.wanted, hg]) ⟨fun _ _ => trivial, ?_⟩
  rw [show (fc C.rd).round = C.rd from rfl, semAt_of_value hrun (fun d e => by cases e), Oper.uponIn_round]
  refine ⟨fun h => by simp [fc] at h, ?_⟩
  have hr' : RoundIn (fc C.rd) 0 C.P l fn tmps assign body w (fun e w' => ∃ v, e = .returned v ∧ (v = .bool (stp s x).2 ∧ Near w.heap.size S w w' ∧ ∃ S', Jn (stp s x).1 S' w' ∧ ∀ b, S' b → S b ∨ w.heap.size ≤ b)) := hr
  refine hr'.mono fun e w' ⟨v, he, hv, hn', S', hJ, hS'⟩ => ?_
  subst he
  subst hv
  rw [hd]
  have hS'0 : ∀ b, S' b → C.hot b ∨ C.w0.heap.size ≤ b := fun b hb => by
    rcases hS' b hb with h2 | h2
    · rcases (hA.1 b h2).1 with h3 | h3
      · exact .inr h3
      · exact .inl h3
    · exact .inr (Nat.le_trans hs.near.size h2)
  refine h S' _ _ (hf.put _ hn) (hs.upd (hup S') ⟨hn'.os, hn'.tape, hn'.output, hn'.size, fun k hk => by omega⟩ (fun b hb hne => hn'.block b hb hne) ⟨fun b hb => ⟨(hS'0 b hb).symm, hcons.lt _ _ _ _ hJ hb⟩, hJ, fun w'' hnn hk => hcons.stab _ _ _ _ hJ hnn hk hS'0⟩ hS')
end
/-- The states along a list. -/
def trc {τ α : Type} (stp : τ → α → τ × Bool) (s : τ) (l : List α) : τ := l.foldl (fun s y => (stp s y).1) s
def Att {τ α : Type} (stp : τ → α → τ × Bool) (s0 : τ) (ys : List α) (s : τ) (x : α) : Prop := ∃ i, ys[i]? = some x ∧ s = trc stp s0 (ys.take i)
theorem trc_succ {τ α : Type} {stp : τ → α → τ × Bool} {s0 : τ} {ys : List α} {i : Nat} {x : α} (h : ys[i]? = some x) : trc stp s0 (ys.take (i + 1)) = (stp (trc stp s0 (ys.take i)) x).1 := by
  unfold trc
  rw [List.take_add_one, h]
  simp
theorem trc_stpB {σ α : Type} (stp : σ → α → σ × Option Code) : ∀ (l : List α) (t : σ × Option Code), (trc (stpB stp) t l).1 = l.foldl (fun s y => (stp s y).1) t.1
  | [], t => rfl
  | y :: l, t => by
    have := trc_stpB stp l (stp t.1 y)
    simp only [trc, List.foldl_cons, stpB] at this ⊢
    exact this
/-- An iterator's promise: it hands over just these, one after the other, and writes nothing but what its caller's loop writes. -/
def IteratesW (P : Program) (gf : Nat) (lb : List Value) {α : Type} (encW : α → (Nat → Prop) → List Value → World → Prop) (ys : List α) (W : World) (S0 : Nat → Prop) : Prop :=
  ∀ (τ : Type) (Jn : τ → (Nat → Prop) → World → Prop) (stp : τ → α → τ × Bool) (live : τ → Prop) (s0 : τ) (l : Nat), ConsumerW P W S0 l encW Jn stp live (Att stp s0 ys) → live s0 → Jn s0 S0 W →
    Calls P gf ((Value.func (.yield l) #[] #[]) :: lb).toArray W (fun e W' => (∃ v, e = .returned v) ∧ Near W.heap.size S0 W W' ∧ ∃ S', Jn (runsB stp s0 ys) S' W' ∧ ∀ b, S' b → S0 b ∨ W.heap.size ≤ b)
section
variable {C : Cx} {F : Fr} {L : List HA} {K : List KI}
/-- 'for x := range g { body }'. -/
theorem sc_rangeW {σ ξ α : Type} {g : Operand} {ps : List Tmp} {assign body : Code} {gf : Nat} {lb : List Value} (encW : α → (Nat → Prop) → List Value → World → Prop) (ys : List α) (stp : σ → α → σ × Option Code) (LI : σ → ξ → List HA) (s0 : σ) (i0 : ξ)
    (hrd : C.rd = none) (hg : ev F g = some (.func (.func gf) #[] lb.toArray)) (hcal : has C.fns gf = true) (hps : ∀ x S vs w, encW x S vs w → vs.length = ps.length) (hpn : ∀ p ∈ ps, p < C.n) (hL : LSub (LI s0 i0) L)
    (hab : ∀ s i S p, HA.abs S p ∈ LI s i → ∀ u u', p u → (∀ b, S b → u'.heap[b]? = u.heap[b]?) → p u')
    (hiter : ∀ w l D r, St C.w0 C.hot (haRec l r :: haDef D :: LI s0 i0) w → IteratesW C.P gf lb encW ys w (foots (haRec l r :: haDef D :: LI s0 i0)))
    (hbody : ∀ (l D : Nat) (r : Loop) (W1 : World) (s : σ) (i : ξ) (x : α) (vs : List Value) (Q : Exit → Act → World → Prop), encW x (foots (haRec l r :: haDef D :: LI s i)) vs W1 → (∃ j, ys[j]? = some x ∧ s = (ys.take j).foldl (fun s y => (stp s y).1) s0) → r.state = .ready → St C.w0 C.hot (haRec l r :: haDef D :: LI s i) W1 →
      (∀ (e : Exit) (jump : Option Code) (i' : ξ) (F' : Fr) (L' M : List HA), jumpOf e = some jump → (stp s x).2 = jump → Rem L' (haRec l { r with state := .busy }) M → LSub (haDef D :: LI (stp s x).1 i') M → SQ (C.inRound l Q W1 (foots (haRec l r :: haDef D :: LI s i))) e [] F' L') →
      SC (C.inRound l Q W1 (foots (haRec l r :: haDef D :: LI s i))) assign [.fin (roundStart (C.inRound l Q W1 (foots (haRec l r :: haDef D :: LI s i))) l body)] (parFr ps vs F) (haRec l r :: haDef D :: LI s i))
    (hend : ∀ D i, (runsJ stp s0 ys).2 = none → SQ (C.mark D) .normal K F (haDef D :: LI (runsJ stp s0 ys).1 i))
    (hjump : ∀ D i c, (runsJ stp s0 ys).2 = some c → SC (C.mark D) c K F (haDef D :: LI (runsJ stp s0 ys).1 i)) : SC C (.rangeFunc g ps.toArray assign body) K F L := by
  intro a w hf hs
  rw [hrd]
  have hs0 := hs.sub hL
  refine wpIn_rangeFunc fun fn _ => ?_
  obtain ⟨r, hr⟩ : ∃ r : Loop, r = { state := .ready, pending := none, fn, tmps := a.tmps, params := ps.toArray, assign, body, defers := w.heap.size } := ⟨_, rfl⟩
  obtain ⟨W, hW⟩ : ∃ W, (w.alloc (.deferred (some []))).alloc (.loop r) = W := ⟨_, rfl⟩
  have hSW : St C.w0 C.hot (haRec (w.heap.size + 1) r :: haDef w.heap.size :: LI s0 i0) W := by
    have h1 : St C.w0 C.hot (haDef w.heap.size :: LI s0 i0) (w.alloc (.deferred (some []))) :=
      hs0.alloc _ (fun b hb => hb) (haObj_holds (.inl hs0.near.size) (World.alloc_heap_new w _))
    have h2 := World.alloc_heap_new (w.alloc (.deferred (some []))) (.loop r)
    rw [World.size_alloc] at h2
    rw [← hW]
    refine h1.alloc _ (fun b hb => by rw [World.size_alloc]; exact hb) (haObj_holds (.inl (by have := hs0.near.size; omega)) h2)
  obtain ⟨S0, hS0⟩ : ∃ S0, foots (haRec (w.heap.size + 1) r :: haDef w.heap.size :: LI s0 i0) = S0 := ⟨_, rfl⟩
  have hready : r.state = .ready := by rw [hr]
  have hr0 : recSt r none = r := by rw [hr]; rfl
  -- the loop's own state, as an iterator sees it
  obtain ⟨Jn, hJn⟩ : ∃ Jn : σ × Option Code → (Nat → Prop) → World → Prop, Jn = fun t S w' => ∃ i, St C.w0 C.hot (haRec (w.heap.size + 1) (recSt r t.2) :: haDef w.heap.size :: LI t.1 i) w' ∧ ∀ b, S b ↔ foots (haRec (w.heap.size + 1) (recSt r t.2) :: haDef w.heap.size :: LI t.1 i) b := ⟨_, rfl⟩
  have habs : ∀ (rr : Loop) s i S p, HA.abs S p ∈ (haRec (w.heap.size + 1) rr :: haDef w.heap.size :: LI s i) → ∀ u u' : World, p u → (∀ b, S b → u'.heap[b]? = u.heap[b]?) → p u' := by
    intro rr s i S p hm u u' hp hk
    rcases List.mem_cons.1 hm with hm | hm
    · unfold haRec at hm
      injection hm with h1 h2
      subst h1; subst h2
      exact (hk _ rfl).trans hp
    · rcases List.mem_cons.1 hm with hm | hm
      · unfold haDef at hm
        injection hm with h1 h2
        subst h1; subst h2
        exact (hk _ rfl).trans hp
      · exact hab s i S p hm u u' hp hk
  have hcons : ConsumerW C.P W S0 (w.heap.size + 1) encW Jn (stpB stp) (fun t => t.2 = none) (Att (stpB stp) (s0, none) ys) := by
    refine ⟨?_, ?_, ?_, ?_⟩
    · rintro ⟨s, j⟩ S x vs W1 hok hlive ⟨ix, hix, hsx⟩ hJ hn
      have hsx' := congrArg Prod.fst hsx
      rw [trc_stpB] at hsx'
      simp only at hlive
      subst hlive
      rw [hJn] at hJ
      obtain ⟨i, hSt, hS⟩ := hJ
      rw [hr0] at hSt hS
      have hrec : W1.heap[w.heap.size + 1]? = some (.loop r) := hSt.head.2.1
      refine ⟨_, _, _, _, run_yield (P := C.P) hrec (by rw [hr]; simp [hps x _ _ _ hok]), ?_⟩
      let R : Ending → World → Prop := fun e w' => ∃ v, e = .returned v ∧ (v = .bool (stpB stp (s, none) x).2 ∧ Near W1.heap.size S W1 w' ∧ ∃ S', Jn (stpB stp (s, none) x).1 S' w' ∧ ∀ b, S' b → S b ∨ W1.heap.size ≤ b)
      have hfx : Fits C.n [] (parFr ps vs F) ⟨(ps.zip vs).foldl (fun tmps (x : Tmp × Value) => tmps.setIfInBounds x.1 x.2) a.tmps, []⟩ :=
        parFr_fits ps vs F C.n [] a.tmps hpn ⟨rfl, hf.size, hf.get⟩
      have hend' : ∀ (e : Exit) (jump : Option Code) (i' : ξ) (F' : Fr) (L' M : List HA), jumpOf e = some jump → (stp s x).2 = jump → Rem L' (haRec (w.heap.size + 1) { r with state := .busy }) M → LSub (haDef w.heap.size :: LI (stp s x).1 i') M →
          SQ (C.inRound (w.heap.size + 1) (roundPost C.P (w.heap.size + 1) R) W1 (foots (haRec (w.heap.size + 1) r :: haDef w.heap.size :: LI s i))) e [] F' L' := by
        intro e jump i' F' L' M hj hstp hrem hsub
        refine sq_round (R := R) rfl rfl hj hrem fun w' hSt' => ?_
        have hSt1 : St W1 (foots (haRec (w.heap.size + 1) r :: haDef w.heap.size :: LI s i)) (haRec (w.heap.size + 1) (recSt r jump) :: haDef w.heap.size :: LI (stp s x).1 i') w' := by
          refine St.sub (L := haRec (w.heap.size + 1) (recSt r jump) :: M) hSt' ?_
          exact LSub.cons Rem.here hsub
        have hout := St.unround hSt hSt1 (habs _ _ _)
        refine ⟨_, rfl, ?_, ⟨hSt1.near.os, hSt1.near.tape, hSt1.near.output, hSt1.near.size, fun k hk hnot => hSt1.near.block k hk (fun hb => hnot ((hS k).2 hb))⟩, foots (haRec (w.heap.size + 1) (recSt r jump) :: haDef w.heap.size :: LI (stp s x).1 i'), ?_, ?_⟩
        · simp only [stpB]; rw [hstp]
        · rw [hJn]
          refine ⟨i', ?_, fun b => ?_⟩
          · simp only [stpB]; rw [hstp]; exact hout
          · simp only [stpB]; rw [hstp]
        · intro b hb
          rcases (foots_old (B := 0) hSt1 hb).1 with h3 | h3
          · exact .inr h3
          · exact .inl ((hS b).2 h3)
      have hb := hbody (w.heap.size + 1) w.heap.size r W1 s i x vs (roundPost C.P (w.heap.size + 1) R) (by rw [show foots (haRec (w.heap.size + 1) r :: haDef w.heap.size :: LI s i) = S from funext fun b => propext (hS b).symm]; exact hok) ⟨ix, hix, hsx'⟩ hready hSt hend'
      have hb1 := hb _ W1 hfx hSt.round
      refine (roundIn_of_wpIn (F := fc none) (n := 0) trivial ?_ : RoundIn (fc none) 0 C.P (w.heap.size + 1) _ _ _ _ W1 R)
      have e1 : ((r.params.zip vs.toArray).foldl (fun tmps (t, a) => tmps.setIfInBounds t a) r.tmps) = (ps.zip vs).foldl (fun tmps (x : Tmp × Value) => tmps.setIfInBounds x.1 x.2) a.tmps := by
        rw [hr]
        simp only [List.zip_toArray, List.foldl_toArray]
      have e2 : r.assign = assign := by rw [hr]
      have e3 : r.body = body := by rw [hr]
      rw [e1, e2, e3]
      exact hb1
    · rintro ⟨s, j⟩ x hlive hgo
      simp only [stpB] at hgo ⊢
      cases h : (stp s x).2 with
      | none => rfl
      | some c => rw [h] at hgo; simp at hgo
    · rintro ⟨s, j⟩ S W1 b hJ hb
      rw [hJn] at hJ
      obtain ⟨i, hSt, hS⟩ := hJ
      exact (foots_old (B := 0) hSt ((hS b).1 hb)).2
    · rintro ⟨s, j⟩ S W1 W2 hJ hn hk hSb
      rw [hJn] at hJ ⊢
      obtain ⟨i, hSt, hS⟩ := hJ
      have hn' : Near C.w0.heap.size C.hot W1 W2 := ⟨hn.os, hn.tape, hn.output, hn.size, fun k hk' hnot => hn.block k (Nat.lt_of_lt_of_le hk' hSW.near.size) (fun hb => by
        rw [← hS0] at hb
        rcases (foots_old (B := 0) hSW hb).1 with h3 | h3
        · omega
        · exact hnot h3)⟩
      refine ⟨i, ⟨hSt.near.trans hn', fun y hy => (hSt.holds y hy).keep (fun b hb => hk b ((hS b).2 ⟨y, hy, hb⟩)) hn', hSt.sep⟩, hS⟩
  have hit := hiter W (w.heap.size + 1) w.heap.size r hSW _ Jn (stpB stp) (fun t => t.2 = none) (s0, none) (w.heap.size + 1)
  rw [hS0] at hit
  have hJ0 : Jn (s0, none) S0 W := by
    rw [hJn]
    refine ⟨i0, by rw [hr0]; exact hSW, fun b => by rw [hr0, hS0]⟩
  have hcall := hit hcons rfl hJ0
  have hrun := call_run (callable_of hcal) ((Value.func (.yield (w.heap.size + 1)) #[] #[]) :: lb).toArray W
  refine ⟨w.heap.size + 1, [{ target := .collected w.heap.size, args := #[] }], W, { target := .fn (.func gf) lb.toArray, args := #[.func (.yield (w.heap.size + 1)) #[] #[]] }, W, gf, ((Value.func (.yield (w.heap.size + 1)) #[] #[]) :: lb).toArray, W, ?_, ?_, fun _ _ => trivial, ?_, fun h => by simp [fc] at h, ?_⟩
  · rw [← hW, hr]; exact run_enterLoop_outer _ _ _ _ _
  · have h1 := hf.ev hg
    simp only [resolve, h1]
    simp [Deferred.ofValue, Act.eval]
  · simp only [invoke]
    have : (#[Value.func (.yield (w.heap.size + 1)) #[] #[]] ++ lb.toArray) = ((Value.func (.yield (w.heap.size + 1)) #[] #[]) :: lb).toArray := by simp
    rw [this]
    exact hrun
  · refine callsIn_fc.2 (hcall.mono fun e W' ⟨⟨v, he⟩, hn, S', hJ, hS'⟩ => ?_)
    subst he
    rw [runsB_runsJ, hJn] at hJ
    obtain ⟨i, hSt, hS⟩ := hJ
    have hrec : W'.heap[w.heap.size + 1]? = some (.loop (recSt r (runsJ stp s0 ys).2)) := hSt.head.2.1
    have hpend : (recSt r (runsJ stp s0 ys).2).pending = (runsJ stp s0 ys).2 := by cases (runsJ stp s0 ys).2 <;> rfl
    have hbz : (recSt r (runsJ stp s0 ys).2).state ≠ .busy := by cases (runsJ stp s0 ys).2 <;> simp [recSt]
    have hfm : Fits C.n (C.mark w.heap.size).ds F { a with defers := [{ target := .collected w.heap.size, args := #[] }] ++ a.defers } := ⟨by simp [Cx.mark, hf.dfr], hf.size, hf.get⟩
    have hStm := (st_putObj hSt (o' := .loop { recSt r (runsJ stp s0 ys).2 with state := .exhausted }) Upd.here).tail
    refine ⟨_, _, run_endLoop hrec hbz, ?_⟩
    rw [hpend]
    cases hj : (runsJ stp s0 ys).2 with
    | none =>
      have := hend w.heap.size i hj _ _ hfm (by rw [hj] at hStm; exact hStm)
      rw [kpost_mark] at this
      exact this
    | some c =>
      have := hjump w.heap.size i c hj _ _ hfm (by rw [hj] at hStm; exact hStm)
      rw [kpost_mark] at this
      rw [show (C.mark w.heap.size).rd = none from hrd] at this
      exact this
end
theorem pw_apart {L : List HA} (h : L.Pairwise HA.apart) {x y : HA} (hx : x ∈ L) (hy : y ∈ L) (hne : x ≠ y) : x.apart y := by
  induction L with
  | nil => cases hx
  | cons z L ih =>
    rw [List.pairwise_cons] at h
    rcases List.mem_cons.1 hx with h1 | h1
    · subst h1
      rcases List.mem_cons.1 hy with h2 | h2
      · exact absurd h2.symm hne
      · exact h.1 _ h2
    · rcases List.mem_cons.1 hy with h2 | h2
      · subst h2
        exact (h.1 _ h1).symm
      · exact ih h.2 h1 h2
end Eng
end Go.Proofs.Ytmcmmmaffdenjaa

/-
  Ranges over functions that keep state of their own in cells, and that need not end by themselves.
-/
namespace Go.Proofs.Ytmcmmmaffdenjaa
namespace Eng
open Go.RowKit
set_option linter.unusedVariables false
/-- The consumer stops somewhere among these. -/
def stopsB {τ α : Type} (stp : τ → α → τ × Bool) : τ → List α → Prop
  | _, [] => False
  | s, y :: ys => (stp s y).2 = false ∨ ((stp s y).2 = true ∧ stopsB stp (stp s y).1 ys)
theorem stops_runsJ {σ α : Type} (stp : σ → α → σ × Option Code) : ∀ (ys : List α) (s : σ), (runsJ stp s ys).2.isSome = true → stopsB (stpB stp) (s, none) ys
  | [], s, h => by simp [runsJ] at h
  | y :: ys, s, h => by
    simp only [runsJ] at h
    cases e : stp s y with
    | mk s' j =>
      cases j with
      | none =>
        rw [e] at h
        refine .inr ⟨by simp [stpB, e], ?_⟩
        simp only [stpB, e]
        exact stops_runsJ stp ys s' h
      | some c => exact .inl (by simp [stpB, e])
/-- An iterator's promise: it hands over these one after the other as long as it is asked; it writes nothing but what its caller's loop writes, and blocks E of its own. -/
def IteratesE (P : Program) (gf : Nat) (lb : List Value) {α : Type} (enc : α → List Value) (ok : α → Prop) (ys : List α) (W : World) (S0 E : Nat → Prop) : Prop :=
  ∀ (τ : Type) (Jn : τ → (Nat → Prop) → World → Prop) (stp : τ → α → τ × Bool) (live : τ → Prop) (s0 : τ) (l : Nat), ConsumerW P W (fun b => S0 b ∨ E b) l (fun x _ vs _ => vs = enc x ∧ ok x) Jn stp live (Att stp s0 ys) → live s0 → Jn s0 S0 W → stopsB stp s0 ys →
    Calls P gf ((Value.func (.yield l) #[] #[]) :: lb).toArray W (fun e W' => (∃ v, e = .returned v) ∧ Near W.heap.size (fun b => S0 b ∨ E b) W W' ∧ ∃ S', Jn (runsB stp s0 ys) S' W' ∧ ∀ b, S' b → S0 b ∨ W.heap.size ≤ b)
/-- The iterator's beginning. -/
theorem ConsumerW.startE {τ α : Type} {P : Program} {W w0 : World} {hot : Nat → Prop} {LE LL : List HA} {l : Nat} {encW : α → (Nat → Prop) → List Value → World → Prop} {Jn : τ → (Nat → Prop) → World → Prop} {stp : τ → α → τ × Bool} {live : τ → Prop} {att : τ → α → Prop}
    (h : ConsumerW P W (fun b => foots LL b ∨ foots LE b) l encW Jn stp live att) (hS : St w0 hot (LE ++ LL) W) (hab : ∀ S p, HA.abs S p ∈ LE → ∀ u u', p u → (∀ b, S b → u'.heap[b]? = u.heap[b]?) → p u') {s : τ} (h0 : Jn s (foots LL) W) :
    St W (fun b => foots LL b ∨ foots LE b) (.abs (foots LL) (Jn s (foots LL)) :: LE) W := by
  have hsep := List.pairwise_append.1 hS.sep
  have hE : St W (fun b => foots LL b ∨ foots LE b) LE W := by
    refine ⟨Near.refl _ _ _, fun x hx => ?_, hsep.1⟩
    have hx' := hS.holds x (List.mem_append_left _ hx)
    have hft : ∀ b, x.foot b → W.heap.size ≤ b ∨ (foots LL b ∨ foots LE b) := fun b hb => .inr (.inr ⟨x, hx, hb⟩)
    cases x with
    | cells b t cs => exact ⟨hft b rfl, hx'.2⟩
    | own v e sz n xs => exact ⟨fun b hb => hft b hb, hx'.2⟩
    | abs S p => exact ⟨fun b hb => ⟨hft b hb, (hx'.1 b hb).2⟩, hx'.2.1, fun w' hn hk => hab S p hx _ _ hx'.2.1 hk⟩
    | pure p => exact hx'
  refine hE.cons ⟨fun b hb => ⟨.inr (.inl hb), h.lt _ _ _ _ h0 hb⟩, h0, fun w' hn hk => h.stab _ _ _ _ h0 hn hk (fun b hb => .inl (.inl hb))⟩ fun y hy b hb hyb => ?_
  obtain ⟨x, hx, hxb⟩ := hb
  exact hsep.2.2 y hy x hx b hyb hxb
section
variable {C : Cx} {F : Fr} {L : List HA} {K : List KI}
/-- 'for x := range g { body }', the iterator keeping state of its own in cells that the caller gives up. -/
theorem sc_rangeE {σ ξ α : Type} {g : Operand} {ps : List Tmp} {assign body : Code} {gf : Nat} {lb : List Value} (enc : α → List Value) (ok : α → Prop) (ys : List α) (stp : σ → α → σ × Option Code) (LI : σ → ξ → List HA) (s0 : σ) (i0 : ξ) (LE : List HA)
    (hrd : C.rd = none) (hg : ev F g = some (.func (.func gf) #[] lb.toArray)) (hcal : has C.fns gf = true) (hps : ∀ x, (enc x).length = ps.length) (hpn : ∀ p ∈ ps, p < C.n) (hL : LSub (LE ++ LI s0 i0) L)
    (hab : ∀ s i S p, HA.abs S p ∈ LI s i → ∀ u u', p u → (∀ b, S b → u'.heap[b]? = u.heap[b]?) → p u')
    (hstop : (runsJ stp s0 ys).2.isSome = true)
    (hiter : ∀ w l D r, St C.w0 C.hot (LE ++ haRec l r :: haDef D :: LI s0 i0) w → IteratesE C.P gf lb enc ok ys w (foots (haRec l r :: haDef D :: LI s0 i0)) (foots LE))
    (hbody : ∀ (l D : Nat) (r : Loop) (W1 : World) (s : σ) (i : ξ) (x : α) (Q : Exit → Act → World → Prop), ok x → (∃ j, ys[j]? = some x ∧ s = (ys.take j).foldl (fun s y => (stp s y).1) s0) → r.state = .ready → St C.w0 C.hot (haRec l r :: haDef D :: LI s i) W1 →
      (∀ (e : Exit) (jump : Option Code) (i' : ξ) (F' : Fr) (L' M : List HA), jumpOf e = some jump → (stp s x).2 = jump → Rem L' (haRec l { r with state := .busy }) M → LSub (haDef D :: LI (stp s x).1 i') M → SQ (C.inRound l Q W1 (foots (haRec l r :: haDef D :: LI s i))) e [] F' L') →
      SC (C.inRound l Q W1 (foots (haRec l r :: haDef D :: LI s i))) assign [.fin (roundStart (C.inRound l Q W1 (foots (haRec l r :: haDef D :: LI s i))) l body)] (parFr ps (enc x) F) (haRec l r :: haDef D :: LI s i))
    (hjump : ∀ D i c, (runsJ stp s0 ys).2 = some c → SC (C.mark D) c K F (haDef D :: LI (runsJ stp s0 ys).1 i)) : SC C (.rangeFunc g ps.toArray assign body) K F L := by
  intro a w hf hs
  rw [hrd]
  have hs0E := hs.sub hL
  refine wpIn_rangeFunc fun fn _ => ?_
  obtain ⟨r, hr⟩ : ∃ r : Loop, r = { state := .ready, pending := none, fn, tmps := a.tmps, params := ps.toArray, assign, body, defers := w.heap.size } := ⟨_, rfl⟩
  obtain ⟨W, hW⟩ : ∃ W, (w.alloc (.deferred (some []))).alloc (.loop r) = W := ⟨_, rfl⟩
  have hSWE : St C.w0 C.hot (haRec (w.heap.size + 1) r :: haDef w.heap.size :: (LE ++ LI s0 i0)) W := by
    have h1 : St C.w0 C.hot (haDef w.heap.size :: (LE ++ LI s0 i0)) (w.alloc (.deferred (some []))) :=
      hs0E.alloc _ (fun b hb => hb) (haObj_holds (.inl hs0E.near.size) (World.alloc_heap_new w _))
    have h2 := World.alloc_heap_new (w.alloc (.deferred (some []))) (.loop r)
    rw [World.size_alloc] at h2
    rw [← hW]
    refine h1.alloc _ (fun b hb => by rw [World.size_alloc]; exact hb) (haObj_holds (.inl (by have := hs0E.near.size; omega)) h2)
  have hSWP : St C.w0 C.hot (LE ++ haRec (w.heap.size + 1) r :: haDef w.heap.size :: LI s0 i0) W := hSWE.perm (((List.perm_middle (l₁ := LE)).trans ((List.perm_middle (l₁ := LE)).cons _)).symm)
  have hSW : St C.w0 C.hot (haRec (w.heap.size + 1) r :: haDef w.heap.size :: LI s0 i0) W := hSWP.sub ⟨LE, List.perm_append_comm⟩
  obtain ⟨S0, hS0⟩ : ∃ S0, foots (haRec (w.heap.size + 1) r :: haDef w.heap.size :: LI s0 i0) = S0 := ⟨_, rfl⟩
  have hready : r.state = .ready := by rw [hr]
  have hr0 : recSt r none = r := by rw [hr]; rfl
  -- the loop's own state, as an iterator sees it
  obtain ⟨Jn, hJn⟩ : ∃ Jn : σ × Option Code → (Nat → Prop) → World → Prop, Jn = fun t S w' => ∃ i, St C.w0 C.hot (haRec (w.heap.size + 1) (recSt r t.2) :: haDef w.heap.size :: LI t.1 i) w' ∧ ∀ b, S b ↔ foots (haRec (w.heap.size + 1) (recSt r t.2) :: haDef w.heap.size :: LI t.1 i) b := ⟨_, rfl⟩
  have habs : ∀ (rr : Loop) s i S p, HA.abs S p ∈ (haRec (w.heap.size + 1) rr :: haDef w.heap.size :: LI s i) → ∀ u u' : World, p u → (∀ b, S b → u'.heap[b]? = u.heap[b]?) → p u' := by
    intro rr s i S p hm u u' hp hk
    rcases List.mem_cons.1 hm with hm | hm
    · unfold haRec at hm
      injection hm with h1 h2
      subst h1; subst h2
      exact (hk _ rfl).trans hp
    · rcases List.mem_cons.1 hm with hm | hm
      · unfold haDef at hm
        injection hm with h1 h2
        subst h1; subst h2
        exact (hk _ rfl).trans hp
      · exact hab s i S p hm u u' hp hk
  have hcons : ConsumerW C.P W (fun b => S0 b ∨ foots LE b) (w.heap.size + 1) (fun x _ vs _ => vs = enc x ∧ ok x) Jn (stpB stp) (fun t => t.2 = none) (Att (stpB stp) (s0, none) ys) := by
    refine ⟨?_, ?_, ?_, ?_⟩
    · rintro ⟨s, j⟩ S x vs W1 ⟨rfl, hok⟩ hlive ⟨ix, hix, hsx⟩ hJ hn
      have hsx' := congrArg Prod.fst hsx
      rw [trc_stpB] at hsx'
      simp only at hlive
      subst hlive
      rw [hJn] at hJ
      obtain ⟨i, hSt, hS⟩ := hJ
      rw [hr0] at hSt hS
      have hrec : W1.heap[w.heap.size + 1]? = some (.loop r) := hSt.head.2.1
      refine ⟨_, _, _, _, run_yield (P := C.P) hrec (by rw [hr]; simp [hps x]), ?_⟩
      let R : Ending → World → Prop := fun e w' => ∃ v, e = .returned v ∧ (v = .bool (stpB stp (s, none) x).2 ∧ Near W1.heap.size S W1 w' ∧ ∃ S', Jn (stpB stp (s, none) x).1 S' w' ∧ ∀ b, S' b → S b ∨ W1.heap.size ≤ b)
      have hfx : Fits C.n [] (parFr ps (enc x) F) ⟨(ps.zip (enc x)).foldl (fun tmps (x : Tmp × Value) => tmps.setIfInBounds x.1 x.2) a.tmps, []⟩ :=
        parFr_fits ps (enc x) F C.n [] a.tmps hpn ⟨rfl, hf.size, hf.get⟩
      have hend' : ∀ (e : Exit) (jump : Option Code) (i' : ξ) (F' : Fr) (L' M : List HA), jumpOf e = some jump → (stp s x).2 = jump → Rem L' (haRec (w.heap.size + 1) { r with state := .busy }) M → LSub (haDef w.heap.size :: LI (stp s x).1 i') M →
          SQ (C.inRound (w.heap.size + 1) (roundPost C.P (w.heap.size + 1) R) W1 (foots (haRec (w.heap.size + 1) r :: haDef w.heap.size :: LI s i))) e [] F' L' := by
        intro e jump i' F' L' M hj hstp hrem hsub
        refine sq_round (R := R) rfl rfl hj hrem fun w' hSt' => ?_
        have hSt1 : St W1 (foots (haRec (w.heap.size + 1) r :: haDef w.heap.size :: LI s i)) (haRec (w.heap.size + 1) (recSt r jump) :: haDef w.heap.size :: LI (stp s x).1 i') w' := by
          refine St.sub (L := haRec (w.heap.size + 1) (recSt r jump) :: M) hSt' ?_
          exact LSub.cons Rem.here hsub
        have hout := St.unround hSt hSt1 (habs _ _ _)
        refine ⟨_, rfl, ?_, ⟨hSt1.near.os, hSt1.near.tape, hSt1.near.output, hSt1.near.size, fun k hk hnot => hSt1.near.block k hk (fun hb => hnot ((hS k).2 hb))⟩, foots (haRec (w.heap.size + 1) (recSt r jump) :: haDef w.heap.size :: LI (stp s x).1 i'), ?_, ?_⟩
        · simp only [stpB]; rw [hstp]
        · rw [hJn]
          refine ⟨i', ?_, fun b => ?_⟩
          · simp only [stpB]; rw [hstp]; exact hout
          · simp only [stpB]; rw [hstp]
        · intro b hb
          rcases (foots_old (B := 0) hSt1 hb).1 with h3 | h3
          · exact .inr h3
          · exact .inl ((hS b).2 h3)
      have hb := hbody (w.heap.size + 1) w.heap.size r W1 s i x (roundPost C.P (w.heap.size + 1) R) hok ⟨ix, hix, hsx'⟩ hready hSt hend'
      have hb1 := hb _ W1 hfx hSt.round
      refine (roundIn_of_wpIn (F := fc none) (n := 0) trivial ?_ : RoundIn (fc none) 0 C.P (w.heap.size + 1) _ _ _ _ W1 R)
      have e1 : ((r.params.zip (enc x).toArray).foldl (fun tmps (t, a) => tmps.setIfInBounds t a) r.tmps) = (ps.zip (enc x)).foldl (fun tmps (x : Tmp × Value) => tmps.setIfInBounds x.1 x.2) a.tmps := by
        rw [hr]
        simp only [List.zip_toArray, List.foldl_toArray]
      have e2 : r.assign = assign := by rw [hr]
      have e3 : r.body = body := by rw [hr]
      rw [e1, e2, e3]
      exact hb1
    · rintro ⟨s, j⟩ x hlive hgo
      simp only [stpB] at hgo ⊢
      cases h : (stp s x).2 with
      | none => rfl
      | some c => rw [h] at hgo; simp at hgo
    · rintro ⟨s, j⟩ S W1 b hJ hb
      rw [hJn] at hJ
      obtain ⟨i, hSt, hS⟩ := hJ
      exact (foots_old (B := 0) hSt ((hS b).1 hb)).2
    · rintro ⟨s, j⟩ S W1 W2 hJ hn hk hSb
      rw [hJn] at hJ ⊢
      obtain ⟨i, hSt, hS⟩ := hJ
      have hn' : Near C.w0.heap.size C.hot W1 W2 := ⟨hn.os, hn.tape, hn.output, hn.size, fun k hk' hnot => hn.block k (Nat.lt_of_lt_of_le hk' hSW.near.size) (fun hb => by
        have hb' : foots (LE ++ haRec (w.heap.size + 1) r :: haDef w.heap.size :: LI s0 i0) k := by
          rcases hb with hb | hb
          · rw [← hS0] at hb
            obtain ⟨x, hx, hf⟩ := hb
            exact ⟨x, List.mem_append_right _ hx, hf⟩
          · obtain ⟨x, hx, hf⟩ := hb
            exact ⟨x, List.mem_append_left _ hx, hf⟩
        rcases (foots_old (B := 0) hSWP hb').1 with h3 | h3
        · omega
        · exact hnot h3)⟩
      refine ⟨i, ⟨hSt.near.trans hn', fun y hy => (hSt.holds y hy).keep (fun b hb => hk b ((hS b).2 ⟨y, hy, hb⟩)) hn', hSt.sep⟩, hS⟩
  have hit := hiter W (w.heap.size + 1) w.heap.size r hSWP _ Jn (stpB stp) (fun t => t.2 = none) (s0, none) (w.heap.size + 1)
  rw [hS0] at hit
  have hJ0 : Jn (s0, none) S0 W := by
    rw [hJn]
    refine ⟨i0, by rw [hr0]; exact hSW, fun b => by rw [hr0, hS0]⟩
  have hcall := hit hcons rfl hJ0 (stops_runsJ stp ys s0 hstop)
  have hrun := call_run (callable_of hcal) ((Value.func (.yield (w.heap.size + 1)) #[] #[]) :: lb).toArray W
  refine ⟨w.heap.size + 1, [{ target := .collected w.heap.size, args := #[] }], W, { target := .fn (.func gf) lb.toArray, args := #[.func (.yield (w.heap.size + 1)) #[] #[]] }, W, gf, ((Value.func (.yield (w.heap.size + 1)) #[] #[]) :: lb).toArray, W, ?_, ?_, fun _ _ => trivial, ?_, fun h => by simp [fc] at h, ?_⟩
  · rw [← hW, hr]; exact run_enterLoop_outer _ _ _ _ _
  · have h1 := hf.ev hg
    simp only [resolve, h1]
    simp [Deferred.ofValue, Act.eval]
  · simp only [invoke]
    have : (#[Value.func (.yield (w.heap.size + 1)) #[] #[]] ++ lb.toArray) = ((Value.func (.yield (w.heap.size + 1)) #[] #[]) :: lb).toArray := by simp
    rw [this]
    exact hrun
  · refine callsIn_fc.2 (hcall.mono fun e W' ⟨⟨v, he⟩, hn, S', hJ, hS'⟩ => ?_)
    subst he
    rw [runsB_runsJ, hJn] at hJ
    obtain ⟨i, hSt, hS⟩ := hJ
    have hrec : W'.heap[w.heap.size + 1]? = some (.loop (recSt r (runsJ stp s0 ys).2)) := hSt.head.2.1
    have hpend : (recSt r (runsJ stp s0 ys).2).pending = (runsJ stp s0 ys).2 := by cases (runsJ stp s0 ys).2 <;> rfl
    have hbz : (recSt r (runsJ stp s0 ys).2).state ≠ .busy := by cases (runsJ stp s0 ys).2 <;> simp [recSt]
    have hfm : Fits C.n (C.mark w.heap.size).ds F { a with defers := [{ target := .collected w.heap.size, args := #[] }] ++ a.defers } := ⟨by simp [Cx.mark, hf.dfr], hf.size, hf.get⟩
    have hStm := (st_putObj hSt (o' := .loop { recSt r (runsJ stp s0 ys).2 with state := .exhausted }) Upd.here).tail
    refine ⟨_, _, run_endLoop hrec hbz, ?_⟩
    rw [hpend]
    cases hj : (runsJ stp s0 ys).2 with
    | none => rw [hj] at hstop; cases hstop
    | some c =>
      have := hjump w.heap.size i c hj _ _ hfm (by rw [hj] at hStm; exact hStm)
      rw [kpost_mark] at this
      rw [show (C.mark w.heap.size).rd = none from hrd] at this
      exact this
end
end Eng
end Go.Proofs.Ytmcmmmaffdenjaa

/-
  Functions with labels whose jumps are left out or leave rounds.
-/
namespace Go.Proofs.Ytmcmmmaffdenjaa
namespace Eng
open Go.RowKit
section
variable {C : Cx} {F : Fr} {L : List HA} {K : List KI}
theorem sc_label {l : Nat} (h : SQ C .normal K F L) : SC C (.label l) K F L := fun a w hf hs => wpIn_label (h a w hf hs)
theorem kpost_goto (hrd : C.rd = none) {l : Nat} {a : Act} {w : World} : ∀ K, kpost C K (.goto l) a w → False
  | [], h => by
    simp only [kpost, Cx.Qf, hrd] at h
    exact h
  | .seq c :: K, h => kpost_goto hrd K h
  | .blk id :: K, h => kpost_goto hrd K h
  | .loop J :: K, h => kpost_goto hrd K h
  | .fin J :: K, h => h
theorem sc_scope {c : Code} (hrd : C.rd = none) (h : SC C c K F L) : SC C (.scope c) K F L := fun a w hf hs => by
  have h1 := h a w hf hs
  rw [hrd, fc_none] at h1 ⊢
  rw [wpIn_wide] at h1 ⊢
  refine wp_scope_straight (wp_mono h1 fun e a w hq => ?_)
  cases e with
  | goto l => exact kpost_goto hrd K hq
  | _ => exact hq
end
end Eng
end Go.Proofs.Ytmcmmmaffdenjaa

/-
  Ranges over functions that hand over things in an order that is not known.
-/
namespace Go.Proofs.Ytmcmmmaffdenjaa
namespace Eng
open Go.RowKit
set_option linter.unusedVariables false
/-- An iterator's promise: it hands over just these, one after the other, and writes nothing but what its caller's loop writes. -/
def IteratesP (P : Program) (gf : Nat) (lb : List Value) {α : Type} (encW : α → (Nat → Prop) → List Value → World → Prop) (Pre Ys : List α → Prop) (W : World) (S0 : Nat → Prop) : Prop :=
  ∀ (τ : Type) (Jn : τ → (Nat → Prop) → World → Prop) (stp : τ → α → τ × Bool) (live : τ → Prop) (s0 : τ) (l : Nat), ConsumerW P W S0 l encW Jn stp live (fun s x => ∃ pre, Pre (pre ++ [x]) ∧ s = trc stp s0 pre) → live s0 → Jn s0 S0 W →
    Calls P gf ((Value.func (.yield l) #[] #[]) :: lb).toArray W (fun e W' => (∃ v, e = .returned v) ∧ Near W.heap.size S0 W W' ∧ ∃ ys, Ys ys ∧ ∃ S', Jn (runsB stp s0 ys) S' W' ∧ ∀ b, S' b → S0 b ∨ W.heap.size ≤ b)
section
variable {C : Cx} {F : Fr} {L : List HA} {K : List KI}
/-- 'for x := range g { body }'. -/
theorem sc_rangeP {σ ξ α : Type} {g : Operand} {ps : List Tmp} {assign body : Code} {gf : Nat} {lb : List Value} (encW : α → (Nat → Prop) → List Value → World → Prop) (Pre Ys : List α → Prop) (stp : σ → α → σ × Option Code) (LI : σ → ξ → List HA) (s0 : σ) (i0 : ξ)
    (hrd : C.rd = none) (hg : ev F g = some (.func (.func gf) #[] lb.toArray)) (hcal : has C.fns gf = true) (hps : ∀ x S vs w, encW x S vs w → vs.length = ps.length) (hpn : ∀ p ∈ ps, p < C.n) (hL : LSub (LI s0 i0) L)
    (hab : ∀ s i S p, HA.abs S p ∈ LI s i → ∀ u u', p u → (∀ b, S b → u'.heap[b]? = u.heap[b]?) → p u')
    (hiter : ∀ w l D r, St C.w0 C.hot (haRec l r :: haDef D :: LI s0 i0) w → IteratesP C.P gf lb encW Pre Ys w (foots (haRec l r :: haDef D :: LI s0 i0)))
    (hbody : ∀ (l D : Nat) (r : Loop) (W1 : World) (s : σ) (i : ξ) (x : α) (vs : List Value) (Q : Exit → Act → World → Prop), encW x (foots (haRec l r :: haDef D :: LI s i)) vs W1 → (∃ pre, Pre (pre ++ [x]) ∧ s = pre.foldl (fun s y => (stp s y).1) s0) → r.state = .ready → St C.w0 C.hot (haRec l r :: haDef D :: LI s i) W1 →
      (∀ (e : Exit) (jump : Option Code) (i' : ξ) (F' : Fr) (L' M : List HA), jumpOf e = some jump → (stp s x).2 = jump → Rem L' (haRec l { r with state := .busy }) M → LSub (haDef D :: LI (stp s x).1 i') M → SQ (C.inRound l Q W1 (foots (haRec l r :: haDef D :: LI s i))) e [] F' L') →
      SC (C.inRound l Q W1 (foots (haRec l r :: haDef D :: LI s i))) assign [.fin (roundStart (C.inRound l Q W1 (foots (haRec l r :: haDef D :: LI s i))) l body)] (parFr ps vs F) (haRec l r :: haDef D :: LI s i))
    (hend : ∀ D i ys, Ys ys → (runsJ stp s0 ys).2 = none → SQ (C.mark D) .normal K F (haDef D :: LI (runsJ stp s0 ys).1 i))
    (hjump : ∀ D i ys c, Ys ys → (runsJ stp s0 ys).2 = some c → SC (C.mark D) c K F (haDef D :: LI (runsJ stp s0 ys).1 i)) : SC C (.rangeFunc g ps.toArray assign body) K F L := by
  intro a w hf hs
  rw [hrd]
  have hs0 := hs.sub hL
  refine wpIn_rangeFunc fun fn _ => ?_
  obtain ⟨r, hr⟩ : ∃ r : Loop, r = { state := .ready, pending := none, fn, tmps := a.tmps, params := ps.toArray, assign, body, defers := w.heap.size } := ⟨_, rfl⟩
  obtain ⟨W, hW⟩ : ∃ W, (w.alloc (.deferred (some []))).alloc (.loop r) = W := ⟨_, rfl⟩
  have hSW : St C.w0 C.hot (haRec (w.heap.size + 1) r :: haDef w.heap.size :: LI s0 i0) W := by
    have h1 : St C.w0 C.hot (haDef w.heap.size :: LI s0 i0) (w.alloc (.deferred (some []))) :=
      hs0.alloc _ (fun b hb => hb) (haObj_holds (.inl hs0.near.size) (World.alloc_heap_new w _))
    have h2 := World.alloc_heap_new (w.alloc (.deferred (some []))) (.loop r)
    rw [World.size_alloc] at h2
    rw [← hW]
    refine h1.alloc _ (fun b hb => by rw [World.size_alloc]; exact hb) (haObj_holds (.inl (by have := hs0.near.size; omega)) h2)
  obtain ⟨S0, hS0⟩ : ∃ S0, foots (haRec (w.heap.size + 1) r :: haDef w.heap.size :: LI s0 i0) = S0 := ⟨_, rfl⟩
  have hready : r.state = .ready := by rw [hr]
  have hr0 : recSt r none = r := by rw [hr]; rfl
  -- the loop's own state, as an iterator sees it
  obtain ⟨Jn, hJn⟩ : ∃ Jn : σ × Option Code → (Nat → Prop) → World → Prop, Jn = fun t S w' => ∃ i, St C.w0 C.hot (haRec (w.heap.size + 1) (recSt r t.2) :: haDef w.heap.size :: LI t.1 i) w' ∧ ∀ b, S b ↔ foots (haRec (w.heap.size + 1) (recSt r t.2) :: haDef w.heap.size :: LI t.1 i) b := ⟨_, rfl⟩
  have habs : ∀ (rr : Loop) s i S p, HA.abs S p ∈ (haRec (w.heap.size + 1) rr :: haDef w.heap.size :: LI s i) → ∀ u u' : World, p u → (∀ b, S b → u'.heap[b]? = u.heap[b]?) → p u' := by
    intro rr s i S p hm u u' hp hk
    rcases List.mem_cons.1 hm with hm | hm
    · unfold haRec at hm
      injection hm with h1 h2
      subst h1; subst h2
      exact (hk _ rfl).trans hp
    · rcases List.mem_cons.1 hm with hm | hm
      · unfold haDef at hm
        injection hm with h1 h2
        subst h1; subst h2
        exact (hk _ rfl).trans hp
      · exact hab s i S p hm u u' hp hk
  have hcons : ConsumerW C.P W S0 (w.heap.size + 1) encW Jn (stpB stp) (fun t => t.2 = none) (fun t x => ∃ pre, Pre (pre ++ [x]) ∧ t = trc (stpB stp) (s0, none) pre) := by
    refine ⟨?_, ?_, ?_, ?_⟩
    · rintro ⟨s, j⟩ S x vs W1 hok hlive ⟨ix, hix, hsx⟩ hJ hn
      have hsx' := congrArg Prod.fst hsx
      rw [trc_stpB] at hsx'
      simp only at hlive
      subst hlive
      rw [hJn] at hJ
      obtain ⟨i, hSt, hS⟩ := hJ
      rw [hr0] at hSt hS
      have hrec : W1.heap[w.heap.size + 1]? = some (.loop r) := hSt.head.2.1
      refine ⟨_, _, _, _, run_yield (P := C.P) hrec (by rw [hr]; simp [hps x _ _ _ hok]), ?_⟩
      let R : Ending → World → Prop := fun e w' => ∃ v, e = .returned v ∧ (v = .bool (stpB stp (s, none) x).2 ∧ Near W1.heap.size S W1 w' ∧ ∃ S', Jn (stpB stp (s, none) x).1 S' w' ∧ ∀ b, S' b → S b ∨ W1.heap.size ≤ b)
      have hfx : Fits C.n [] (parFr ps vs F) ⟨(ps.zip vs).foldl (fun tmps (x : Tmp × Value) => tmps.setIfInBounds x.1 x.2) a.tmps, []⟩ :=
        parFr_fits ps vs F C.n [] a.tmps hpn ⟨rfl, hf.size, hf.get⟩
      have hend' : ∀ (e : Exit) (jump : Option Code) (i' : ξ) (F' : Fr) (L' M : List HA), jumpOf e = some jump → (stp s x).2 = jump → Rem L' (haRec (w.heap.size + 1) { r with state := .busy }) M → LSub (haDef w.heap.size :: LI (stp s x).1 i') M →
          SQ (C.inRound (w.heap.size + 1) (roundPost C.P (w.heap.size + 1) R) W1 (foots (haRec (w.heap.size + 1) r :: haDef w.heap.size :: LI s i))) e [] F' L' := by
        intro e jump i' F' L' M hj hstp hrem hsub
        refine sq_round (R := R) rfl rfl hj hrem fun w' hSt' => ?_
        have hSt1 : St W1 (foots (haRec (w.heap.size + 1) r :: haDef w.heap.size :: LI s i)) (haRec (w.heap.size + 1) (recSt r jump) :: haDef w.heap.size :: LI (stp s x).1 i') w' := by
          refine St.sub (L := haRec (w.heap.size + 1) (recSt r jump) :: M) hSt' ?_
          exact LSub.cons Rem.here hsub
        have hout := St.unround hSt hSt1 (habs _ _ _)
        refine ⟨_, rfl, ?_, ⟨hSt1.near.os, hSt1.near.tape, hSt1.near.output, hSt1.near.size, fun k hk hnot => hSt1.near.block k hk (fun hb => hnot ((hS k).2 hb))⟩, foots (haRec (w.heap.size + 1) (recSt r jump) :: haDef w.heap.size :: LI (stp s x).1 i'), ?_, ?_⟩
        · simp only [stpB]; rw [hstp]
        · rw [hJn]
          refine ⟨i', ?_, fun b => ?_⟩
          · simp only [stpB]; rw [hstp]; exact hout
          · simp only [stpB]; rw [hstp]
        · intro b hb
          rcases (foots_old (B := 0) hSt1 hb).1 with h3 | h3
          · exact .inr h3
          · exact .inl ((hS b).2 h3)
      have hb := hbody (w.heap.size + 1) w.heap.size r W1 s i x vs (roundPost C.P (w.heap.size + 1) R) (by rw [show foots (haRec (w.heap.size + 1) r :: haDef w.heap.size :: LI s i) = S from funext fun b => propext (hS b).symm]; exact hok) ⟨ix, hix, hsx'⟩ hready hSt hend'
      have hb1 := hb _ W1 hfx hSt.round
      refine (roundIn_of_wpIn (F := fc none) (n := 0) trivial ?_ : RoundIn (fc none) 0 C.P (w.heap.size + 1) _ _ _ _ W1 R)
      have e1 : ((r.params.zip vs.toArray).foldl (fun tmps (t, a) => tmps.setIfInBounds t a) r.tmps) = (ps.zip vs).foldl (fun tmps (x : Tmp × Value) => tmps.setIfInBounds x.1 x.2) a.tmps := by
        rw [hr]
        simp only [List.zip_toArray, List.foldl_toArray]
      have e2 : r.assign = assign := by rw [hr]
      have e3 : r.body = body := by rw [hr]
      rw [e1, e2, e3]
      exact hb1
    · rintro ⟨s, j⟩ x hlive hgo
      simp only [stpB] at hgo ⊢
      cases h : (stp s x).2 with
      | none => rfl
      | some c => rw [h] at hgo; simp at hgo
    · rintro ⟨s, j⟩ S W1 b hJ hb
      rw [hJn] at hJ
      obtain ⟨i, hSt, hS⟩ := hJ
      exact (foots_old (B := 0) hSt ((hS b).1 hb)).2
    · rintro ⟨s, j⟩ S W1 W2 hJ hn hk hSb
      rw [hJn] at hJ ⊢
      obtain ⟨i, hSt, hS⟩ := hJ
      have hn' : Near C.w0.heap.size C.hot W1 W2 := ⟨hn.os, hn.tape, hn.output, hn.size, fun k hk' hnot => hn.block k (Nat.lt_of_lt_of_le hk' hSW.near.size) (fun hb => by
        rw [← hS0] at hb
        rcases (foots_old (B := 0) hSW hb).1 with h3 | h3
        · omega
        · exact hnot h3)⟩
      refine ⟨i, ⟨hSt.near.trans hn', fun y hy => (hSt.holds y hy).keep (fun b hb => hk b ((hS b).2 ⟨y, hy, hb⟩)) hn', hSt.sep⟩, hS⟩
  have hit := hiter W (w.heap.size + 1) w.heap.size r hSW _ Jn (stpB stp) (fun t => t.2 = none) (s0, none) (w.heap.size + 1)
  rw [hS0] at hit
  have hJ0 : Jn (s0, none) S0 W := by
    rw [hJn]
    refine ⟨i0, by rw [hr0]; exact hSW, fun b => by rw [hr0, hS0]⟩
  have hcall := hit hcons rfl hJ0
  have hrun := call_run (callable_of hcal) ((Value.func (.yield (w.heap.size + 1)) #[] #[]) :: lb).toArray W
  refine ⟨w.heap.size + 1, [{ target := .collected w.heap.size, args := #[] }], W, { target := .fn (.func gf) lb.toArray, args := #[.func (.yield (w.heap.size + 1)) #[] #[]] }, W, gf, ((Value.func (.yield (w.heap.size + 1)) #[] #[]) :: lb).toArray, W, ?_, ?_, fun _ _ => trivial, ?_, fun h => by simp [fc] at h, ?_⟩
  · rw [← hW, hr]; exact run_enterLoop_outer _ _ _ _ _
  · have h1 := hf.ev hg
    simp only [resolve, h1]
    simp [Deferred.ofValue, Act.eval]
  · simp only [invoke]
    have : (#[Value.func (.yield (w.heap.size + 1)) #[] #[]] ++ lb.toArray) = ((Value.func (.yield (w.heap.size + 1)) #[] #[]) :: lb).toArray := by simp
    rw [this]
    exact hrun
  · refine callsIn_fc.2 (hcall.mono fun e W' ⟨⟨v, he⟩, hn, ys, hys, S', hJ, hS'⟩ => ?_)
    subst he
    rw [runsB_runsJ, hJn] at hJ
    obtain ⟨i, hSt, hS⟩ := hJ
    have hrec : W'.heap[w.heap.size + 1]? = some (.loop (recSt r (runsJ stp s0 ys).2)) := hSt.head.2.1
    have hpend : (recSt r (runsJ stp s0 ys).2).pending = (runsJ stp s0 ys).2 := by cases (runsJ stp s0 ys).2 <;> rfl
    have hbz : (recSt r (runsJ stp s0 ys).2).state ≠ .busy := by cases (runsJ stp s0 ys).2 <;> simp [recSt]
    have hfm : Fits C.n (C.mark w.heap.size).ds F { a with defers := [{ target := .collected w.heap.size, args := #[] }] ++ a.defers } := ⟨by simp [Cx.mark, hf.dfr], hf.size, hf.get⟩
    have hStm := (st_putObj hSt (o' := .loop { recSt r (runsJ stp s0 ys).2 with state := .exhausted }) Upd.here).tail
    refine ⟨_, _, run_endLoop hrec hbz, ?_⟩
    rw [hpend]
    cases hj : (runsJ stp s0 ys).2 with
    | none =>
      have := hend w.heap.size i ys hys hj _ _ hfm (by rw [hj] at hStm; exact hStm)
      rw [kpost_mark] at this
      exact this
    | some c =>
      have := hjump w.heap.size i ys c hys hj _ _ hfm (by rw [hj] at hStm; exact hStm)
      rw [kpost_mark] at this
      rw [show (C.mark w.heap.size).rd = none from hrd] at this
      exact this
end
end Eng
end Go.Proofs.Ytmcmmmaffdenjaa

/-
  A field of a struct's value, in one cell.
-/
namespace Go.Proofs.Ytmcmmmaffdenjaa
namespace Eng
open Go.RowKit
section
variable {C : Cx} {F : Fr} {L : List HA} {o : Oper}
theorem q_fieldv {t j : Nat} {x : Operand} {vs : List Value} {fs : Array Field} {fd : Field} {ti : TI} {v : Value} (ho : o.op = .field t x j) (hu : C.P.underlying t = some (.struct fs)) (hf : fs[j]? = some fd) (ht : tget C.tab fd.type = some ti) (hk : ti.kind.agg = false)
    (hx : ev F x = some (.agg vs.toArray)) (hv : nth vs fd.offset = some v) : Qv C o F L v :=
  .of_run fun a w hfa hs => by
    have h1 := tk_isAgg (C.ok.get ht) w
    rw [hk] at h1
    rw [nth_eq] at hv
    have h2 : vs.toArray[fd.offset]? = some v := by simpa using hv
    simp [execOp, ho, hfa.ev hx, Instr.field, run_underlying hu, hf, asAgg, part, h1, hv]
end
end Eng
end Go.Proofs.Ytmcmmmaffdenjaa

/-
  A byte of the table of lengths; remainders of numbers without a sign.
-/
namespace Go.Proofs.Ytmcmmmaffdenjaa
namespace Eng
open Go.RowKit
set_option linter.unusedVariables false
set_option linter.unusedSimpArgs false
section
variable {C : Cx} {F : Fr} {L : List HA} {o : Oper} {K : List KI} {ops : Array Oper} {m : Bool} {rest : List Oper} {x y : Operand} {t u : TypeId} {k k' : IntKind} {a b : Int}
theorem tab_str {P : Program} {t : TypeId} {ti : TI} (h : TIok P t ti) (hk : ti.kind = .str) : P.underlying t = some .string := by
  have := h.kind
  rw [hk] at this
  simp only [TK.check] at this
  split at this
  · assumption
  · cases this
theorem q_index_len8 {ti : TI} (ho : o.op = .index t x y) (ht : tget C.tab t = some ti) (hk : ti.kind = .str) (hx : ev F x = some (.string Lib.len8tab)) (hy : ev F y = some (.int k a)) (hr : 0 ≤ a ∧ a ≤ 255) : Qv C o F L (.int .u8 (Lib.bitLen a.toNat : Nat)) :=
  .of_run fun ac w hf hs => by
    have h1 := Lib.run_index_len8tab (P := C.P) w t k a (tab_str (C.ok.get ht) hk) hr.1 hr.2
    rw [Lib.len8_of a hr.1 hr.2] at h1
    simp [execOp, ho, hf.ev hx, hf.ev hy, h1]
theorem q_remk (ho : o.op = .binOp .rem t x y u) (hx : ev F x = some (.int k a)) (hy : ev F y = some (.int k b)) (hr : 0 ≤ a ∧ 0 < b) (hw : k.wrap (a % b) = a % b) : Qv C o F L (.int k (a % b)) :=
  q_bin ho hx hy fun w => by
    have h0 : b ≠ 0 := by omega
    simp [binOp, Op.intDiv, h0, Int.tmod_eq_emod_of_nonneg hr.1, hw]
theorem q_minr {r : Int} (ho : o.op = .call { callee := .builtin .min, args := #[x, y], argTypes := #[t, u] }) (hx : ev F x = some (.int k a)) (hy : ev F y = some (.int k b)) (hr : (if b < a then b else a) = r) : Qv C o F L (.int k r) :=
  .of_run fun ac w hf hs => by
    subst hr
    simp [execOp, ho, resolve, invoke, builtin, Builtin.min_, Builtin.min2, hf.ev hx, hf.ev hy]
theorem q_maxr {r : Int} (ho : o.op = .call { callee := .builtin .max, args := #[x, y], argTypes := #[t, u] }) (hx : ev F x = some (.int k a)) (hy : ev F y = some (.int k b)) (hr : (if a < b then b else a) = r) : Qv C o F L (.int k r) :=
  .of_run fun ac w hf hs => by
    subst hr
    simp [execOp, ho, resolve, invoke, builtin, Builtin.max_, Builtin.max2, hf.ev hx, hf.ev hy]
theorem q_eqlnil {A : Option Addr} {n c n' c' e sz by_ : Nat} {ti : TI} (ho : o.op = .binOp .eql t x y u) (ht : tget C.tab t = some ti) (hk : ti.kind = .slice e sz by_) (hx : ev F x = some (.slice A n c)) (hy : ev F y = some (.slice none n' c')) : Qv C o F L (.bool A.isNone) :=
  .of_run fun ac w hf hs => by
    obtain ⟨hu, _⟩ := tk_slice (C.ok.get ht) hk
    have h1 : (binOp .eql t (.slice A n c) (.slice none n' c')).run C.P w = .ok (.bool A.isNone) w := by
      simp only [binOp]
      simp [Op.equal, Op.maxDepth, Lib.run_equalIn_slice_nil w 9999 t e A n c n' c' hu]
    simp only [execOp, ho, hf.ev hx, hf.ev hy]
    simp only [eqGuard]
    simp [h1]
theorem q_eqlsome {A : Addr} {n c n' c' e sz by_ : Nat} {ti : TI} (ho : o.op = .binOp .eql t x y u) (ht : tget C.tab t = some ti) (hk : ti.kind = .slice e sz by_) (hx : ev F x = some (.slice (some A) n c)) (hy : ev F y = some (.slice none n' c')) : Qv C o F L (.bool false) :=
  q_eqlnil ho ht hk hx hy
end
end Eng
end Go.Proofs.Ytmcmmmaffdenjaa

/-
  Equality of structs.
-/
namespace Go.Proofs.Ytmcmmmaffdenjaa
namespace Eng
open Go.RowKit
set_option linter.unusedVariables false
set_option linter.unusedSimpArgs false
section
variable {C : Cx} {F : Fr} {L : List HA} {o : Oper} {x y : Operand} {t u : TypeId} {xs ys : Array Value}
theorem q_eqS {r : Bool} (ho : o.op = .binOp .eql t x y u) (hm : C.P.eqGuardType C.P.depth t = false) (hx : ev F x = some (.agg xs)) (hy : ev F y = some (.agg ys)) (hr : ∀ w, (Op.equalIn 10000 t (.agg xs) (.agg ys)).run C.P w = .ok r w) : Qv C o F L (.bool r) :=
  .of_run fun a w hf hs => by
    simp only [execOp, ho, Sem.run_bind, hf.ev hx, hf.ev hy, run_eqGuard_agg _ _ _ _ _ _ _ hm, Result.andThen_ok, run_eql_struct, hr w]
    simp
theorem q_neS {r : Bool} (ho : o.op = .binOp .neq t x y u) (hm : C.P.eqGuardType C.P.depth t = false) (hx : ev F x = some (.agg xs)) (hy : ev F y = some (.agg ys)) (hr : ∀ w, (Op.equalIn 10000 t (.agg xs) (.agg ys)).run C.P w = .ok r w) : Qv C o F L (.bool (!r)) :=
  .of_run fun a w hf hs => by
    simp only [execOp, ho, Sem.run_bind, hf.ev hx, hf.ev hy, run_eqGuard_agg _ _ _ _ _ _ _ hm, Result.andThen_ok, run_neq_struct, hr w]
    simp
end
end Eng
end Go.Proofs.Ytmcmmmaffdenjaa

/-
  Parts of slices.
-/
namespace Go.Proofs.Ytmcmmmaffdenjaa
namespace Eng
open Go.RowKit
set_option linter.unusedVariables false
theorem RS.drop {α : Type} {w : World} {sz : Nat} {f : α → List Value} {ad : Addr} {l : List α} (h : RS w sz f (some ad) l) (k : Nat) : RS w sz f (some (ad.add (k * sz))) (l.drop k) := fun i x hx => by
  rw [List.getElem?_drop] at hx
  obtain ⟨ad', e, hX⟩ := h (k + i) x hx
  injection e with e
  subst e
  refine ⟨_, rfl, ?_⟩
  rw [add_add, ← Nat.add_mul]
  exact hX
section
variable {C : Cx} {F : Fr} {L : List HA} {o : Oper}
theorem q_sliceLoS {t n c e sz by_ : Nat} {x y : Operand} {ti : TI} {ad : Addr} {kl : IntKind} (a : Nat) (ho : o.op = .slice t x (some y) none none) (ht : tget C.tab t = some ti) (hk : ti.kind = .slice e sz by_) (hx : ev F x = some (.slice (some ad) n c)) (hy : ev F y = some (.int kl (a : Int))) (ha : a < n) (hnc : n ≤ c) :
    Qv C o F L (.slice (some (ad.add (a * sz))) (n - a) (c - a)) := by
  have h := q_sliceLo (L := L) a ho ht hk hx hy (Nat.le_of_lt ha) hnc
  rwa [if_neg (by omega)] at h
end
theorem RS.dropG {α : Type} {w : World} {sz : Nat} {f : α → List Value} {A : Option Addr} {c : Nat} {l : List α} (h : RS w sz f A l) (hs : Sl A l.length c) (k : Nat) : RS w sz f (if c = k then A else A.map (·.add (k * sz))) (l.drop k) := by
  by_cases hk : l.length ≤ k
  · rw [List.drop_of_length_le hk]
    exact RS.nil
  · have := hs.le
    rw [if_neg (by omega)]
    cases A with
    | none => have := (hs.nil rfl).1; omega
    | some ad => exact RS.drop h k
theorem q_sliceLoG {C : Cx} {F : Fr} {L : List HA} {o : Oper} {t n c e sz by_ : Nat} {x y : Operand} {ti : TI} {A : Option Addr} {kl : IntKind} (a : Nat) (ho : o.op = .slice t x (some y) none none) (ht : tget C.tab t = some ti) (hk : ti.kind = .slice e sz by_) (hx : ev F x = some (.slice A n c)) (hy : ev F y = some (.int kl (a : Int))) (ha : a ≤ n) (hnc : n ≤ c) :
    Qv C o F L (.slice (if c = a then A else A.map (·.add (a * sz))) (n - a) (c - a)) := Qv.of_run fun ac w hf hs => by
  have := run_sliceOp (C.ok.get ht) hk A n c (some (.int kl (a : Int))) none kl kl a n (.inr rfl) (.inl ⟨rfl, rfl⟩) ha hnc w
  have hu := (tk_slice (C.ok.get ht) hk).1
  simp [execOp, ho, hf.ev hx, hf.ev hy, Instr.sliceAt, run_underlying hu, this]
theorem q_cap_slice {C : Cx} {F : Fr} {L : List HA} {o : Oper} {x : Operand} {t : TypeId} {ti : TI} {e sz by_ : Nat} {ad : Option Addr} {n c : Nat} (ho : o.op = .call { callee := .builtin .cap, args := #[x], argTypes := #[t] }) (ht : tget C.tab t = some ti) (hk : ti.kind = .slice e sz by_)
    (hx : ev F x = some (.slice ad n c)) : Qv C o F L (.int .i64 (c : Int)) :=
  .of_run fun ac w hf hs => by
    have h1 := (tk_slice (C.ok.get ht) hk).1
    simp [execOp, ho, resolve, invoke, builtin, Builtin.cap_, hf.ev hx, run_underlying h1, goInt]
end Eng
end Go.Proofs.Ytmcmmmaffdenjaa

/-
  Ways that meet again: what follows is shown once.
-/
namespace Go.Proofs.Ytmcmmmaffdenjaa
namespace Eng
open Go.RowKit
set_option linter.unusedVariables false
section
variable {C : Cx} {F : Fr} {L Lp : List HA} {K : List KI} {ops : Array Oper} {fuel : Nat} {listed : Array Bool}
theorem ja_cut {ι : Type} (I : ι → Prop) (F' : ι → Fr) (L' : ι → List HA) (main : (∀ i, I i → SQ C .normal K (F' i) (L' i)) → JA C ops (kpost C K .normal) Lp fuel listed F L) (tail : ∀ i, I i → SQ C .normal K (F' i) (L' i)) : JA C ops (kpost C K .normal) Lp fuel listed F L := main tail
theorem sc_cut {ι : Type} (I : ι → Prop) (F' : ι → Fr) (L' : ι → List HA) {c : Code} {id : Nat} (main : (∀ i, I i → SQ C .normal K (F' i) (L' i)) → SC C c (.blk id :: K) F L) (tail : ∀ i, I i → SQ C .normal K (F' i) (L' i)) : SC C c (.blk id :: K) F L := main tail
theorem sc_cutq {ι : Type} (I : ι → Prop) (F' : ι → Fr) (L' : ι → List HA) {c d : Code} (main : (∀ i, I i → SC C d K (F' i) (L' i)) → SC C c (.seq d :: K) F L) (tail : ∀ i, I i → SC C d K (F' i) (L' i)) : SC C c (.seq d :: K) F L := main tail
end
end Eng
end Go.Proofs.Ytmcmmmaffdenjaa
