/-
  The engine's rules for single operations: what an operation yields, said of the frame and of the call's own memory.
-/
import Derived.Test.YtmcmmmaffdenjaaEng
namespace Go.Proofs.Ytmcmmmaffdenjaa
namespace Eng
open Go.RowKit
set_option linter.unusedVariables false
section
variable {C : Cx} {F : Fr} {L : List HA} {o : Oper}
/-- The same, and no call: a value, memory left alone. -/
def Qv (C : Cx) (o : Oper) (F : Fr) (L : List HA) (v : Value) : Prop := ∀ a w, Fits C.n C.ds F a → St C.w0 C.hot L w → (execOp a.eval o).run C.P w = .ok (.value v) w
theorem Qv.qt {v : Value} (h : Qv C o F L v) : Qt C o F L v := by
  intro a w hf hs
  unfold Oper.quietAt
  rw [h a w hf hs]
  exact ⟨rfl, rfl⟩
theorem Qv.of_run {v : Value} (h : ∀ a w, Fits C.n C.ds F a → St C.w0 C.hot L w → (execOp a.eval o).run C.P w = .ok (.value v) w) : Qv C o F L v := h
theorem j_qe {K : List KI} {ops : Array Oper} {m : Bool} {rest : List Oper} {d : Nat} (hg : o.guard = none) (hd : o.dst = some d) (hn : Nat.blt d C.n = true) (h : ∃ v, Qv C o F L v ∧ J C ops m rest K ((d, v) :: F) L) : J C ops m (o :: rest) K F L :=
  let ⟨_, hq, hj⟩ := h
  j_q hg hd hn hq.qt hj
def evs (F : Fr) : List Operand → Option (List Value)
  | [] => some []
  | x :: l => match ev F x with
    | some v => match evs F l with
      | some vs => some (v :: vs)
      | none => none
    | none => none
theorem Fits.evs {n : Nat} {ds : List Deferred} {a : Act} (h : Fits n ds F a) {l : List Operand} {vs : List Value} (hl : Eng.evs F l = some vs) : l.map a.eval = vs := by
  induction l generalizing vs with
  | nil => simpa [Eng.evs] using hl
  | cons x l ih =>
    simp only [Eng.evs] at hl
    cases hx : Eng.ev F x with
    | none => simp [hx] at hl
    | some v =>
      cases hr : Eng.evs F l with
      | none => simp [hx, hr] at hl
      | some us =>
        simp only [hx, hr, Option.some.injEq] at hl
        subst hl
        simp [h.ev hx, ih hr]
/-! plain moves -/
theorem q_move {x : Operand} {v : Value} (ho : o.op = .move x) (hx : ev F x = some v) : Qv C o F L v :=
  .of_run fun a w hf hs => by simp [execOp, ho, hf.ev hx]
theorem q_assign {x : Operand} {v : Value} (ho : o.op = .assign x) (hx : ev F x = some v) : Qv C o F L v :=
  .of_run fun a w hf hs => by simp [execOp, ho, hf.ev hx]
theorem q_pick_t {c x y : Operand} {v : Value} (ho : o.op = .pick c x y) (hc : ev F c = some (.bool true)) (hx : ev F x = some v) : Qv C o F L v :=
  .of_run fun a w hf hs => by simp [execOp, ho, hf.ev hc, hf.ev hx, asBool]
theorem q_pick_f {c x y : Operand} {v : Value} (ho : o.op = .pick c x y) (hc : ev F c = some (.bool false)) (hx : ev F y = some v) : Qv C o F L v :=
  .of_run fun a w hf hs => by simp [execOp, ho, hf.ev hc, hf.ev hx, asBool]
theorem q_extract {x : Operand} {i : Nat} {vs : List Value} {v : Value} (ho : o.op = .extract x i) (hx : ev F x = some (.tuple vs.toArray)) (hv : nth vs i = some v) : Qv C o F L v :=
  .of_run fun a w hf hs => by
    rw [nth_eq] at hv
    simp [execOp, ho, hf.ev hx, Instr.extract, hv]
theorem q_makeFunc {fn : Fn} {caps : List Operand} {vs : List Value} (ho : o.op = .makeFunc fn #[] caps.toArray) (hx : evs F caps = some vs) : Qv C o F L (.func fn #[] vs.toArray) :=
  .of_run fun a w hf hs => by
    have h1 : (caps.toArray.map a.eval) = vs.toArray := by rw [List.map_toArray, hf.evs hx]
    simp only [execOp, ho, Instr.makeFunc, h1]
    simp
/-! integers -/
theorem i64_wrap {x : Int} (h1 : -9223372036854775808 ≤ x) (h2 : x ≤ 9223372036854775807) : IntKind.i64.wrap x = x := IntWalk.i64_in _ ⟨h1, h2⟩
theorem run_bin (P : Program) (w : World) (op : BinOp) (t u : TypeId) (x y : Operand) (k : IntKind) (a b : Int) (r : Value) (hr : (binOp op t (.int k a) (.int k b)).run P w = .ok r w) :
    (do eqGuard op t x y (.int k a) (.int k b); binOp op t (.int k a) (.int k b) : Sem Value).run P w = .ok r w := by
  simp only [eqGuard]
  split <;> simp [hr]
section
variable {x y : Operand} {t u : TypeId} {k : IntKind} {a b : Int}
theorem q_bin {op : BinOp} {r : Value} (ho : o.op = .binOp op t x y u) (hx : ev F x = some (.int k a)) (hy : ev F y = some (.int k b)) (hr : ∀ w, (binOp op t (.int k a) (.int k b)).run C.P w = .ok r w) : Qv C o F L r :=
  .of_run fun ac w hf hs => by
    have h1 := run_bin C.P w op t u x y k a b r (hr w)
    simp only [execOp, ho, hf.ev hx, hf.ev hy]
    simp only [Sem.run_bind] at h1 ⊢
    rw [h1]
    simp
theorem q_addw (ho : o.op = .binOp .add t x y u) (hx : ev F x = some (.int k a)) (hy : ev F y = some (.int k b)) : Qv C o F L (.int k (k.wrap (a + b))) :=
  q_bin ho hx hy fun w => by simp [binOp, Op.intArith]
theorem q_subw (ho : o.op = .binOp .sub t x y u) (hx : ev F x = some (.int k a)) (hy : ev F y = some (.int k b)) : Qv C o F L (.int k (k.wrap (a - b))) :=
  q_bin ho hx hy fun w => by simp [binOp, Op.intArith]
theorem q_mulw (ho : o.op = .binOp .mul t x y u) (hx : ev F x = some (.int k a)) (hy : ev F y = some (.int k b)) : Qv C o F L (.int k (k.wrap (a * b))) :=
  q_bin ho hx hy fun w => by simp [binOp, Op.intArith]
theorem q_add (ho : o.op = .binOp .add t x y u) (hx : ev F x = some (.int .i64 a)) (hy : ev F y = some (.int .i64 b)) (hr : -9223372036854775808 ≤ a + b ∧ a + b ≤ 9223372036854775807) : Qv C o F L (.int .i64 (a + b)) := by
  have h := q_addw (C := C) (L := L) ho hx hy
  rwa [i64_wrap hr.1 hr.2] at h
theorem q_sub (ho : o.op = .binOp .sub t x y u) (hx : ev F x = some (.int .i64 a)) (hy : ev F y = some (.int .i64 b)) (hr : -9223372036854775808 ≤ a - b ∧ a - b ≤ 9223372036854775807) : Qv C o F L (.int .i64 (a - b)) := by
  have h := q_subw (C := C) (L := L) ho hx hy
  rwa [i64_wrap hr.1 hr.2] at h
theorem q_mul (ho : o.op = .binOp .mul t x y u) (hx : ev F x = some (.int .i64 a)) (hy : ev F y = some (.int .i64 b)) (hr : -9223372036854775808 ≤ a * b ∧ a * b ≤ 9223372036854775807) : Qv C o F L (.int .i64 (a * b)) := by
  have h := q_mulw (C := C) (L := L) ho hx hy
  rwa [i64_wrap hr.1 hr.2] at h
theorem u8_wrap {x : Int} (h1 : 0 ≤ x) (h2 : x ≤ 255) : IntKind.u8.wrap x = x := by
  simp [IntKind.wrap, IntKind.signed, IntKind.bits]; omega
theorem q_addu8 (ho : o.op = .binOp .add t x y u) (hx : ev F x = some (.int .u8 a)) (hy : ev F y = some (.int .u8 b)) (hr : 0 ≤ a + b ∧ a + b ≤ 255) : Qv C o F L (.int .u8 (a + b)) := by
  have h := q_addw (C := C) (L := L) ho hx hy
  rwa [u8_wrap hr.1 hr.2] at h
theorem q_rem (ho : o.op = .binOp .rem t x y u) (hx : ev F x = some (.int k a)) (hy : ev F y = some (.int k b)) (hr : 0 ≤ a ∧ 0 < b) : Qv C o F L (.int k (a % b)) :=
  q_bin ho hx hy fun w => by
    have h0 : b ≠ 0 := by omega
    simp [binOp, Op.intDiv, h0, Int.tmod_eq_emod_of_nonneg hr.1]
theorem q_quo (ho : o.op = .binOp .quo t x y u) (hx : ev F x = some (.int .i64 a)) (hy : ev F y = some (.int .i64 b)) (hr : 0 ≤ a ∧ a ≤ 9223372036854775807 ∧ 0 < b) : Qv C o F L (.int .i64 (a / b)) :=
  q_bin ho hx hy fun w => by
    have h0 : b ≠ 0 := by omega
    have h1 : a / b ≤ a := Int.ediv_le_self _ hr.1
    have h2 : 0 ≤ a / b := Int.ediv_nonneg hr.1 (by omega)
    simp [binOp, Op.intDiv, h0, Int.tdiv_eq_ediv_of_nonneg hr.1, i64_wrap (x := a / b) (by omega) (by omega)]
theorem q_quou8 (ho : o.op = .binOp .quo t x y u) (hx : ev F x = some (.int .u8 a)) (hy : ev F y = some (.int .u8 b)) (hr : 0 ≤ a ∧ a ≤ 255 ∧ 0 < b) : Qv C o F L (.int .u8 (a / b)) :=
  q_bin ho hx hy fun w => by
    have h0 : b ≠ 0 := by omega
    have h1 : a / b ≤ a := Int.ediv_le_self _ hr.1
    have h2 : 0 ≤ a / b := Int.ediv_nonneg hr.1 (by omega)
    simp [binOp, Op.intDiv, h0, Int.tdiv_eq_ediv_of_nonneg hr.1, u8_wrap (x := a / b) (by omega) (by omega)]
theorem q_quot (ho : o.op = .binOp .quo t x y u) (hx : ev F x = some (.int .i64 a)) (hy : ev F y = some (.int .i64 b)) (hr : -9223372036854775808 ≤ a ∧ a ≤ 9223372036854775807 ∧ 1 < b) : Qv C o F L (.int .i64 (a.tdiv b)) :=
  q_bin ho hx hy fun w => by
    have h0 : b ≠ 0 := by omega
    have h1 : -9223372036854775808 ≤ a.tdiv b ∧ a.tdiv b ≤ 9223372036854775807 := by
      rcases Int.le_total 0 a with ha | ha
      · rw [Int.tdiv_eq_ediv_of_nonneg ha]
        have h1 : a / b ≤ a := Int.ediv_le_self _ ha
        have h2 : 0 ≤ a / b := Int.ediv_nonneg ha (by omega)
        omega
      · have e : a = -(-a) := by omega
        rw [e, Int.neg_tdiv, Int.tdiv_eq_ediv_of_nonneg (by omega : 0 ≤ -a)]
        have h1 : -a / b ≤ -a := Int.ediv_le_self _ (by omega)
        have h2 : 0 ≤ -a / b := Int.ediv_nonneg (by omega) (by omega)
        omega
    simp [binOp, Op.intDiv, h0, i64_wrap (x := a.tdiv b) h1.1 h1.2]
theorem q_remt (ho : o.op = .binOp .rem t x y u) (hx : ev F x = some (.int k a)) (hy : ev F y = some (.int k b)) (hr : 0 < b) : Qv C o F L (.int k (a.tmod b)) :=
  q_bin ho hx hy fun w => by
    have h0 : b ≠ 0 := by omega
    simp [binOp, Op.intDiv, h0]
theorem q_lss (ho : o.op = .binOp .lss t x y u) (hx : ev F x = some (.int k a)) (hy : ev F y = some (.int k b)) : Qv C o F L (.bool (decide (a < b))) :=
  q_bin ho hx hy fun w => by simp [binOp, Op.intCmp]
theorem q_leq (ho : o.op = .binOp .leq t x y u) (hx : ev F x = some (.int k a)) (hy : ev F y = some (.int k b)) : Qv C o F L (.bool (decide (a ≤ b))) :=
  q_bin ho hx hy fun w => by simp [binOp, Op.intCmp]
theorem q_gtr (ho : o.op = .binOp .gtr t x y u) (hx : ev F x = some (.int k a)) (hy : ev F y = some (.int k b)) : Qv C o F L (.bool (decide (b < a))) :=
  q_bin ho hx hy fun w => by simp [binOp, Op.intCmp]
theorem q_geq (ho : o.op = .binOp .geq t x y u) (hx : ev F x = some (.int k a)) (hy : ev F y = some (.int k b)) : Qv C o F L (.bool (decide (b ≤ a))) :=
  q_bin ho hx hy fun w => by simp [binOp, Op.intCmp]
theorem q_eql (ho : o.op = .binOp .eql t x y u) (hx : ev F x = some (.int k a)) (hy : ev F y = some (.int k b)) : Qv C o F L (.bool (decide (a = b))) :=
  q_bin ho hx hy fun w => by
    simp only [binOp, ne_eq, not_true_eq_false, if_false, Op.intCmp, Sem.run_pure]
    congr 2
theorem q_neq (ho : o.op = .binOp .neq t x y u) (hx : ev F x = some (.int k a)) (hy : ev F y = some (.int k b)) : Qv C o F L (.bool (decide (a ≠ b))) :=
  q_bin ho hx hy fun w => by
    simp only [binOp, ne_eq, not_true_eq_false, if_false, Op.intCmp, Sem.run_pure]
    congr 2
    by_cases h : a = b <;> simp [h]
theorem q_not {c : Bool} (ho : o.op = .unOp .not t x) (hx : ev F x = some (.bool c)) : Qv C o F L (.bool (!c)) :=
  .of_run fun ac w hf hs => by simp [execOp, ho, hf.ev hx, Op.unary]
end
theorem tab_underlying {P : Program} {t : TypeId} {ti : TI} (h : TIok P t ti) {k : IntKind} (hk : ti.kind = .int k) : P.underlying t = some (.int k) := by
  have := h.kind
  rw [hk] at this
  simp only [TK.check] at this
  split at this
  · rename_i k' hu; rw [hu]; simp at this; rw [this]
  · cases this
theorem q_conv {src dst : TypeId} {x : Operand} {si di : TI} {k k' : IntKind} {a : Int} (ho : o.op = .convert src dst x) (hsrc : tget C.tab src = some si) (hdst : tget C.tab dst = some di) (hsk : si.kind = .int k') (hdk : di.kind = .int k)
    (hx : ev F x = some (.int k' a)) (hr : k.wrap a = a) : Qv C o F L (.int k a) :=
  .of_run fun ac w hf hs => by
    have h1 := tab_underlying (C.ok.get hsrc) hsk
    have h2 := tab_underlying (C.ok.get hdst) hdk
    simp [execOp, ho, hf.ev hx, convert, run_underlying h1, run_underlying h2, Conv.intToInt, hr]
theorem tk_slice {P : Program} {t : TypeId} {ti : TI} (h : TIok P t ti) {e sz by_ : Nat} (hk : ti.kind = .slice e sz by_) : P.underlying t = some (.slice e) ∧ ∃ i, P.info? e = some i ∧ i.size = sz ∧ i.bytes = by_ := by
  have := h.kind
  rw [hk] at this
  simp only [TK.check] at this
  split at this
  · rename_i e' hu
    simp only [Bool.and_eq_true, decide_eq_true_eq] at this
    obtain ⟨rfl, h2⟩ := this
    refine ⟨hu, ?_⟩
    split at h2
    · rename_i i hi; simp only [decide_eq_true_eq] at h2; exact ⟨i, hi, h2.1, h2.2⟩
    · cases h2
  · cases this
theorem tk_struct {P : Program} {t : TypeId} {ti : TI} (h : TIok P t ti) {offs szs : List Nat} (hk : ti.kind = .struct offs szs) :
    ∃ fs, P.underlying t = some (.struct fs) ∧ fs.toList.map (fun f => f.offset) = offs ∧ (∀ f ∈ fs.toList, ∃ i, P.info? f.type = some i ∧ i.size ≠ 0) ∧
      fs.toList.map (fun f => (match P.info? f.type with | some i => i.size | none => 0)) = szs := by
  have := h.kind
  rw [hk] at this
  simp only [TK.check] at this
  split at this
  · rename_i fs hu
    simp only [Bool.and_eq_true, decide_eq_true_eq] at this
    obtain ⟨⟨h1, h2⟩, h3⟩ := this
    refine ⟨fs, hu, h1, fun f hf => ?_, h2⟩
    have h4 : (match P.info? f.type with | some i => i.size | none => 0) ∈ szs := by rw [← h2]; exact List.mem_map_of_mem hf
    have h5 := List.all_eq_true.1 h3 _ h4
    simp only [decide_eq_true_eq] at h5
    cases hi : P.info? f.type with
    | none => simp [hi] at h5
    | some i => simp only [hi] at h5; exact ⟨i, rfl, h5⟩
  · cases this
theorem tk_arr {P : Program} {t : TypeId} {ti : TI} (h : TIok P t ti) {n e sz : Nat} (hk : ti.kind = .arr n e sz) : P.underlying t = some (.array n e) ∧ ∃ i, P.info? e = some i ∧ i.size = sz := by
  have := h.kind
  rw [hk] at this
  simp only [TK.check] at this
  split at this
  · rename_i n' e' hu
    simp only [Bool.and_eq_true, decide_eq_true_eq] at this
    obtain ⟨⟨rfl, rfl⟩, h2⟩ := this
    refine ⟨hu, ?_⟩
    split at h2
    · rename_i i hi; exact ⟨i, hi, by simpa using h2⟩
    · cases h2
  · cases this
def TK.agg : TK → Bool
  | .struct _ _ => true
  | .arr _ _ _ => true
  | _ => false
theorem tk_isAgg {P : Program} {t : TypeId} {ti : TI} (h : TIok P t ti) (w : World) : (isAgg t).run P w = .ok ti.kind.agg w := by
  have hk := h.kind
  cases e : ti.kind <;> rw [e] at hk <;> simp only [TK.check] at hk <;> (try split at hk) <;> (first | (cases hk; done) | skip) <;> rename_i hu <;> simp [isAgg, run_underlying hu, TK.agg]
  all_goals (rename_i d; cases d <;> simp_all [descOne])
/-! lengths -/
theorem q_len_slice {x : Operand} {t : TypeId} {ti : TI} {e sz by_ : Nat} {ad : Option Addr} {n c : Nat} (ho : o.op = .call { callee := .builtin .len, args := #[x], argTypes := #[t] }) (ht : tget C.tab t = some ti) (hk : ti.kind = .slice e sz by_)
    (hx : ev F x = some (.slice ad n c)) : Qv C o F L (.int .i64 (n : Int)) :=
  .of_run fun ac w hf hs => by
    have h1 := (tk_slice (C.ok.get ht) hk).1
    simp [execOp, ho, resolve, invoke, builtin, Builtin.len_, hf.ev hx, run_underlying h1, goInt]
end
end Eng
end Go.Proofs.Ytmcmmmaffdenjaa
