/-
  The engine's rules for operations on memory, for calls, and for a function's beginning and end.
-/
import Derived.Test.YtmcmmmaffdenjaaEngOps
namespace Go.Proofs.Ytmcmmmaffdenjaa
namespace Eng
open Go.RowKit
set_option linter.unusedVariables false
theorem add_own (b off j : Nat) : (⟨b, off, none⟩ : Addr).add j = ⟨b, off + j, none⟩ := by
  unfold Addr.add
  split
  · rename_i h; subst h; rfl
  · rfl
theorem block_add (a : Addr) (n : Nat) : (a.add n).block = a.block := by unfold Addr.add; split <;> rfl
theorem add_add (a : Addr) (i j : Nat) : (a.add i).add j = a.add (i + j) := by
  unfold Addr.add
  by_cases hi : i = 0 <;> by_cases hj : j = 0 <;> simp [hi, hj, Nat.add_assoc]
/-- What an argument's memory holds from an address on. -/
structure Ext (w0 : World) (ad : Addr) (cs : List Value) : Prop where
  lt : ad.block < w0.heap.size
  cell : ∀ j u, nth cs j = some u → w0.cell? (ad.add j) = some u
/-- What a slice reads as. -/
def RS {α : Type} (w : World) (sz : Nat) (f : α → List Value) (A : Option Addr) (l : List α) : Prop := ∀ k x, l[k]? = some x → ∃ ad, A = some ad ∧ Ext w (ad.add (k * sz)) (f x)
theorem RS.nil {α : Type} {w : World} {sz : Nat} {f : α → List Value} {A : Option Addr} : RS w sz f A [] := fun k x h => by simp at h
def sub : List Value → Nat → Nat → List Value
  | _, _, 0 => []
  | [], _, _ => []
  | c :: cs, 0, n + 1 => c :: sub cs 0 n
  | _ :: cs, o + 1, n + 1 => sub cs o (n + 1)
theorem sub_eq : ∀ (cs : List Value) (o n : Nat), sub cs o n = (cs.drop o).take n
  | cs, o, 0 => by cases cs <;> simp [sub]
  | [], o, n + 1 => by simp [sub]
  | c :: cs, 0, n + 1 => by simp [sub, sub_eq cs 0 n]
  | c :: cs, o + 1, n + 1 => by simp [sub, sub_eq cs o (n + 1)]
def over : List Value → List Value → List Value
  | cs, [] => cs
  | [], _ :: _ => []
  | _ :: cs, v :: vs => v :: over cs vs
def splice : List Value → Nat → List Value → List Value
  | cs, 0, vs => over cs vs
  | [], _ + 1, _ => []
  | c :: cs, n + 1, vs => c :: splice cs n vs
theorem over_eq : ∀ (cs vs : List Value), vs.length ≤ cs.length → over cs vs = vs ++ cs.drop vs.length
  | cs, [], _ => by simp [over]
  | [], v :: vs, h => by simp at h
  | c :: cs, v :: vs, h => by simp [over, over_eq cs vs (by simpa using h)]
theorem splice_eq : ∀ (cs : List Value) (n : Nat) (vs : List Value), n + vs.length ≤ cs.length → splice cs n vs = cs.take n ++ vs ++ cs.drop (n + vs.length)
  | cs, 0, vs, h => by simp [splice, over_eq cs vs (by omega)]
  | [], n + 1, vs, h => by simp at h
  | c :: cs, n + 1, vs, h => by
    have h' : n + vs.length ≤ cs.length := by simp at h; omega
    simp [splice, splice_eq cs n vs h', Nat.add_right_comm n 1]
theorem splice_length (cs : List Value) (n : Nat) (vs : List Value) (h : n + vs.length ≤ cs.length) : (splice cs n vs).length = cs.length := by
  rw [splice_eq cs n vs h]; simp; omega
def len : List Value → Nat
  | [] => 0
  | _ :: l => len l + 1
theorem len_eq (l : List Value) : len l = l.length := by induction l <;> simp [len, *]
def ones : List Value → Bool
  | [] => true
  | v :: l => bif v.oneCell' then ones l else false
theorem ones_all {l : List Value} (h : ones l = true) : ∀ v ∈ l, v.oneCell' = true := by
  induction l with
  | nil => intro v hv; cases hv
  | cons x l ih =>
    simp only [ones] at h
    cases hx : x.oneCell' with
    | false => simp [hx] at h
    | true =>
      simp only [hx, cond_true] at h
      intro v hv
      rcases List.mem_cons.1 hv with rfl | hv
      · exact hx
      · exact ih h v hv
section
variable {C : Cx} {F : Fr} {L : List HA} {o : Oper} {K : List KI} {ops : Array Oper} {m : Bool} {rest : List Oper}
/-! addresses -/
theorem run_fieldAt {P : Program} {t : TypeId} {ti : TI} (h : TIok P t ti) {offs szs : List Nat} (hk : ti.kind = .struct offs szs) {j off : Nat} (hj : offs[j]? = some off) (ad : Addr) (w : World) :
    (Instr.fieldAt t (.pointer (some ad)) j).run P w = .ok (.pointer (some (ad.add off))) w := by
  obtain ⟨fs, hu, ho, hi, _⟩ := tk_struct h hk
  rw [← ho] at hj
  simp only [List.getElem?_map, Array.getElem?_toList, Option.map_eq_some_iff] at hj
  obtain ⟨f, hf, hoff⟩ := hj
  obtain ⟨i, h3, h4⟩ := hi f (by simpa using Array.mem_of_getElem? hf)
  simp [Instr.fieldAt, run_underlying hu, hf, Instr.sureAddr, fieldPlace, sizeOf, typeInfo, h3, h4, hoff]
theorem q_field_own {t j : Nat} {x : Operand} {ti : TI} {offs szs : List Nat} {off b p : Nat} (ho : o.op = .fieldAddr t x j) (ht : tget C.tab t = some ti) (hk : ti.kind = .struct offs szs) (hj : offs[j]? = some off)
    (hx : ev F x = some (.pointer (some ⟨b, p, none⟩))) : Qv C o F L (.pointer (some ⟨b, p + off, none⟩)) :=
  .of_run fun a w hf hs => by
    have := run_fieldAt (C.ok.get ht) hk hj ⟨b, p, none⟩ w
    simp [execOp, ho, hf.ev hx, this, add_own]
theorem q_field_ext {t j : Nat} {x : Operand} {ti : TI} {offs szs : List Nat} {off : Nat} {ad : Addr} (ho : o.op = .fieldAddr t x j) (ht : tget C.tab t = some ti) (hk : ti.kind = .struct offs szs) (hj : offs[j]? = some off)
    (hx : ev F x = some (.pointer (some ad))) : Qv C o F L (.pointer (some (ad.add off))) :=
  .of_run fun a w hf hs => by
    have := run_fieldAt (C.ok.get ht) hk hj ad w
    simp [execOp, ho, hf.ev hx, this]
theorem q_nilCheck {x : Operand} {ad : Addr} (ho : o.op = .nilCheck x) (hx : ev F x = some (.pointer (some ad))) : Qv C o F L (.pointer (some ad)) :=
  .of_run fun a w hf hs => by simp [execOp, ho, hf.ev hx]
theorem run_indexAt_slice {P : Program} {t : TypeId} {ti : TI} (h : TIok P t ti) {e sz by_ : Nat} (hk : ti.kind = .slice e sz by_) (ad : Addr) (n c : Nat) (k : IntKind) (i : Int) (h0 : 0 ≤ i) (h1 : i < n) (w : World) :
    (Instr.indexAt t (.slice (some ad) n c) (.int k i)).run P w = .ok (.pointer (some (ad.add (i.toNat * sz)))) w := by
  obtain ⟨hu, ie, h3, h4, _⟩ := tk_slice h hk
  simp [Instr.indexAt, asIntOf, run_underlying hu, h0, h1, sizeOf, typeInfo, h3, h4]
theorem q_index_slice {t : Nat} {x y : Operand} {ti : TI} {e sz by_ n c : Nat} {ad : Addr} {k : IntKind} {i : Int} (ho : o.op = .indexAddr t x y) (ht : tget C.tab t = some ti) (hk : ti.kind = .slice e sz by_)
    (hx : ev F x = some (.slice (some ad) n c)) (hy : ev F y = some (.int k i)) (h : 0 ≤ i ∧ i < (n : Int)) : Qv C o F L (.pointer (some (ad.add (i.toNat * sz)))) :=
  .of_run fun a w hf hs => by
    have := run_indexAt_slice (C.ok.get ht) hk ad n c k i h.1 h.2 w
    simp [execOp, ho, hf.ev hx, hf.ev hy, this]
/-- The index a natural number. -/
theorem q_index_nat {t : Nat} {x y : Operand} {ti : TI} {e sz by_ n c : Nat} {ad : Addr} {k : IntKind} {i : Nat} (ho : o.op = .indexAddr t x y) (ht : tget C.tab t = some ti) (hk : ti.kind = .slice e sz by_)
    (hx : ev F x = some (.slice (some ad) n c)) (hy : ev F y = some (.int k (i : Int))) (h : i < n) : Qv C o F L (.pointer (some (ad.add (i * sz)))) := by
  have := q_index_slice (C := C) (L := L) ho ht hk hx hy ⟨by omega, by omega⟩
  simpa using this
theorem q_index_arr {t : Nat} {x y : Operand} {ti : TI} {e sz n : Nat} {b p : Nat} {k : IntKind} {i : Int} (ho : o.op = .indexAddr t x y) (ht : tget C.tab t = some ti) (hk : ti.kind = .arr n e sz)
    (hx : ev F x = some (.pointer (some ⟨b, p, none⟩))) (hy : ev F y = some (.int k i)) (h : 0 ≤ i ∧ i < (n : Int)) : Qv C o F L (.pointer (some ⟨b, p + i.toNat * sz, none⟩)) :=
  .of_run fun a w hf hs => by
    obtain ⟨hu, ie, h3, h4⟩ := tk_arr (C.ok.get ht) hk
    simp [execOp, ho, hf.ev hx, hf.ev hy, Instr.indexAt, asIntOf, run_underlying hu, h.1, h.2, sizeOf, typeInfo, h3, h4, Instr.sureAddr, add_own]
theorem q_index_arr_ext {t : Nat} {x y : Operand} {ti : TI} {e sz n : Nat} {ad : Addr} {k : IntKind} {i : Int} (ho : o.op = .indexAddr t x y) (ht : tget C.tab t = some ti) (hk : ti.kind = .arr n e sz)
    (hx : ev F x = some (.pointer (some ad))) (hy : ev F y = some (.int k i)) (h : 0 ≤ i ∧ i < (n : Int)) : Qv C o F L (.pointer (some (ad.add (i.toNat * sz)))) :=
  .of_run fun a w hf hs => by
    obtain ⟨hu, ie, h3, h4⟩ := tk_arr (C.ok.get ht) hk
    simp [execOp, ho, hf.ev hx, hf.ev hy, Instr.indexAt, asIntOf, run_underlying hu, h.1, h.2, sizeOf, typeInfo, h3, h4, Instr.sureAddr]
/-! loads -/
theorem run_loadOne {P : Program} {t : TypeId} {ti : TI} (h : TIok P t ti) (hk : ti.kind.agg = false) {ad : Addr} {v : Value} {w : World} (hc : w.cell? ad = some v) : (loadVar t ad).run P w = .ok v w := by
  have h1 := tk_isAgg h w
  rw [hk] at h1
  simp [loadVar, h1, hc]
theorem run_loadAgg {P : Program} {t : TypeId} {ti : TI} (h : TIok P t ti) (hk : ti.kind.agg = true) {ad : Addr} {cs : List Value} {w : World} (hl : ti.size = len cs) (hc : ∀ j u, nth cs j = some u → w.cell? (ad.add j) = some u) :
    (loadVar t ad).run P w = .ok (.agg cs.toArray) w := by
  have h1 := tk_isAgg h w
  rw [hk] at h1
  have h2 := run_loadCells_list (P := P) w ad cs (fun j v hv => hc j v (by rw [nth_eq]; exact hv))
  have h3 := h.size
  rw [hl, len_eq] at h3
  cases hi : P.info? t with
  | none => simp [hi] at h3
  | some i =>
    simp only [hi, Option.map_some, Option.some.injEq] at h3
    simp [loadVar, h1, sizeOf, typeInfo, hi, h3, h2]
theorem cells_cell {B : Nat} {hot : Nat → Prop} {w : World} {b : Nat} {t : TypeId} {cs : List Value} (h : (HA.cells b t cs).holds B hot w) (j : Nat) : w.cell? ⟨b, j, none⟩ = nth cs j := by
  rw [nth_eq]
  simp [World.cell?, h.2]
theorem q_load_own {t : Nat} {x : Operand} {ti : TI} {b p u : Nat} {cs : List Value} {v : Value} (ho : o.op = .load t x) (hx : ev F x = some (.pointer (some ⟨b, p, none⟩))) (ht : tget C.tab t = some ti) (hk : ti.kind.agg = false)
    (hin : InL L (.cells b u cs)) (hv : nth cs p = some v) : Qv C o F L v :=
  .of_run fun a w hf hs => by
    have := run_loadOne (C.ok.get ht) hk ((cells_cell (hs.at hin) p).trans hv)
    simp [execOp, ho, hf.ev hx, Instr.loadAt, Instr.sureAddr, this]
theorem nth_sub (cs : List Value) (o n j : Nat) (u : Value) (h : nth (sub cs o n) j = some u) : nth cs (o + j) = some u := by
  rw [nth_eq] at *
  rw [sub_eq, List.getElem?_take] at h
  split at h
  · rw [List.getElem?_drop] at h; exact h
  · cases h
theorem q_loadA_own {t : Nat} {x : Operand} {ti : TI} {b p u : Nat} {cs : List Value} (ho : o.op = .load t x) (hx : ev F x = some (.pointer (some ⟨b, p, none⟩))) (ht : tget C.tab t = some ti) (hk : ti.kind.agg = true)
    (hin : InL L (.cells b u cs)) (hl : ti.size = len (sub cs p ti.size)) : Qv C o F L (.agg (sub cs p ti.size).toArray) :=
  .of_run fun a w hf hs => by
    have := run_loadAgg (C.ok.get ht) hk (ad := ⟨b, p, none⟩) (w := w) hl (fun j v hv => by
      rw [add_own, cells_cell (hs.at hin)]; exact nth_sub _ _ _ _ _ hv)
    simp [execOp, ho, hf.ev hx, Instr.loadAt, Instr.sureAddr, this]
/-- The same, in a block that is not written by what is called. -/
structure ExtC (C : Cx) (ad : Addr) (cs : List Value) : Prop where
  ext : Ext C.w0 ad cs
  cold : ¬ C.hot ad.block
theorem ExtC.now {C : Cx} {w : World} {ad : Addr} {cs : List Value} (h : ExtC C ad cs) {L : List HA} (hs : St C.w0 C.hot L w) : ∀ j u, nth cs j = some u → w.cell? (ad.add j) = some u :=
  fun j u hu => (hs.near.cell (by rw [block_add]; exact h.ext.lt) (by rw [block_add]; exact h.cold)).trans (h.ext.cell j u hu)
theorem St.ext {w0 w : World} {hot : Nat → Prop} {L : List HA} {b u : Nat} {cs : List Value} (h : St w0 hot L w) (hi : InL L (.cells b u cs)) : Ext w ⟨b, 0, none⟩ cs :=
  ⟨(HA.holds.lt (h.at hi) (b := b) rfl).2, fun j v hv => by rw [add_own, Nat.zero_add, cells_cell (h.at hi)]; exact hv⟩
theorem Ext.later {w w' : World} {ad : Addr} {cs : List Value} (h : Ext w ad cs) {B : Nat} (hb : Below B w w') (hB : w.heap.size ≤ B) : Ext w' ad cs :=
  ⟨Nat.lt_of_lt_of_le h.lt hb.size, fun j u hu => (hb.cell (by rw [block_add]; exact Nat.lt_of_lt_of_le h.lt hB)).trans (h.cell j u hu)⟩
theorem RS.later {α : Type} {w w' : World} {sz : Nat} {f : α → List Value} {A : Option Addr} {l : List α} (h : RS w sz f A l) {B : Nat} (hb : Below B w w') (hB : w.heap.size ≤ B) : RS w' sz f A l := fun k x hx => by
  obtain ⟨ad, e, hE⟩ := h k x hx
  exact ⟨ad, e, hE.later hb hB⟩
theorem RS.st {α : Type} {w0 w : World} {sz : Nat} {f : α → List Value} {A : Option Addr} {l : List α} (h : RS w0 sz f A l) {L : List HA} (hs : St w0 Cold L w) : RS w sz f A l := h.later hs.below (Nat.le_refl _)
theorem Ext.st {w0 w : World} {ad : Addr} {cs : List Value} (h : Ext w0 ad cs) {L : List HA} (hs : St w0 Cold L w) : Ext w ad cs := h.later hs.below (Nat.le_refl _)
theorem q_load_ext {t : Nat} {x : Operand} {ti : TI} {ad : Addr} {p : Nat} {cs : List Value} {v : Value} (ho : o.op = .load t x) (hx : ev F x = some (.pointer (some (ad.add p)))) (ht : tget C.tab t = some ti) (hk : ti.kind.agg = false)
    (hE : ExtC C ad cs) (hv : nth cs p = some v) : Qv C o F L v :=
  .of_run fun a w hf hs => by
    have := run_loadOne (C.ok.get ht) hk (hE.now hs p v hv)
    simp [execOp, ho, hf.ev hx, Instr.loadAt, Instr.sureAddr, this]
theorem q_load_ext0 {t : Nat} {x : Operand} {ti : TI} {ad : Addr} {cs : List Value} {v : Value} (ho : o.op = .load t x) (hx : ev F x = some (.pointer (some ad))) (ht : tget C.tab t = some ti) (hk : ti.kind.agg = false)
    (hE : ExtC C ad cs) (hv : nth cs 0 = some v) : Qv C o F L v :=
  .of_run fun a w hf hs => by
    have := run_loadOne (C.ok.get ht) hk (ad := ad) (w := w) (hE.now hs 0 v hv)
    simp [execOp, ho, hf.ev hx, Instr.loadAt, Instr.sureAddr, this]
theorem q_loadA_ext {t : Nat} {x : Operand} {ti : TI} {ad : Addr} {cs : List Value} (ho : o.op = .load t x) (hx : ev F x = some (.pointer (some ad))) (ht : tget C.tab t = some ti) (hk : ti.kind.agg = true)
    (hE : ExtC C ad cs) (hl : ti.size = len cs) : Qv C o F L (.agg cs.toArray) :=
  .of_run fun a w hf hs => by
    have := run_loadAgg (C.ok.get ht) hk (ad := ad) (w := w) hl (hE.now hs)
    simp [execOp, ho, hf.ev hx, Instr.loadAt, Instr.sureAddr, this]
/-! new blocks -/
theorem j_step_new {d : Nat} {ob : Obj} {x : Nat → HA} (hg : o.guard = none) (hd : o.dst = some d) (hn : Nat.blt d C.n = true) (V : Nat → Value)
    (hrun : ∀ a w, Fits C.n C.ds F a → St C.w0 C.hot L w → (execOp a.eval o).run C.P w = .ok (.value (V w.heap.size)) (w.alloc ob))
    (hf : ∀ b c, (x b).foot c → c = b) (hx : ∀ w : World, C.w0.heap.size ≤ w.heap.size → (x w.heap.size).holds C.w0.heap.size C.hot (w.alloc ob))
    (h : ∀ b, J C ops false rest K ((d, V b) :: F) (x b :: L)) : J C ops false (o :: rest) K F L := by
  intro a w hfa hs
  refine wpListIn_run (by simp [Region.wanted, hg]) (wpIn_value (hrun a w hfa hs) ?_)
  rw [hd]
  exact h w.heap.size _ _ (hfa.put _ hn) (hs.alloc ob (hf _) (hx w hs.near.size))
theorem vcells_eq (v : Value) : v.cells = (vcells v).toArray := by cases v <;> simp [Value.cells, vcells]
theorem holds_new (w : World) {B : Nat} {hot : Nat → Prop} (hB : B ≤ w.heap.size) (t : TypeId) (cs : List Value) : (HA.cells w.heap.size t cs).holds B hot (w.alloc (.cells cs.toArray t)) := ⟨.inl hB, heap_alloc_new _ _⟩
theorem zero_cells {P : Program} {t : TypeId} {ti : TI} (h : TIok P t ti) : ∃ i z, P.info? t = some i ∧ i.zero = some z ∧ z.cells = ti.zero.toArray ∧ i.size = ti.size ∧ z = ti.zv := by
  have h1 := h.zero
  have h2 := h.size
  cases hi : P.info? t with
  | none => simp [hi] at h1
  | some i =>
    simp only [hi, Option.bind_some, Option.map_some, Option.some.injEq] at h1 h2
    exact ⟨i, _, rfl, h1, vcells_eq _, h2, rfl⟩
theorem j_alloc {d t : Nat} {ti : TI} (ho : o.op = .alloc t) (hg : o.guard = none) (hd : o.dst = some d) (hn : Nat.blt d C.n = true) (ht : tget C.tab t = some ti)
    (h : ∀ b, J C ops false rest K ((d, .pointer (some ⟨b, 0, none⟩)) :: F) (.cells b t ti.zero :: L)) : J C ops false (o :: rest) K F L := by
  refine j_step_new (ob := .cells ti.zero.toArray t) (x := fun b => .cells b t ti.zero) hg hd hn (fun b => .pointer (some ⟨b, 0, none⟩)) (fun a w hf hs => ?_) (fun b c h => h) (fun w hw => holds_new w hw t _) h
  obtain ⟨i, z, hi, hz, h2, _⟩ := zero_cells (C.ok.get ht)
  simp [execOp, ho, Instr.alloc, zeroValue, typeInfo, hi, hz, newVar, newRow, h2]
theorem j_box {d t : Nat} {x : Operand} {v : Value} (ho : o.op = .box t x) (hg : o.guard = none) (hd : o.dst = some d) (hn : Nat.blt d C.n = true) (hx : ev F x = some v)
    (h : ∀ b, J C ops false rest K ((d, .pointer (some ⟨b, 0, none⟩)) :: F) (.cells b t (vcells v) :: L)) : J C ops false (o :: rest) K F L := by
  refine j_step_new (ob := .cells (vcells v).toArray t) (x := fun b => .cells b t (vcells v)) hg hd hn (fun b => .pointer (some ⟨b, 0, none⟩)) (fun a w hf hs => ?_) (fun b c h => h) (fun w hw => holds_new w hw t _) h
  simp [execOp, ho, hf.ev hx, Instr.box, newVar, newRow, vcells_eq]
/-! stores -/
theorem j_store {t : Nat} {x y : Operand} {ti : TI} {b p u : Nat} {cs : List Value} {v : Value} {L' : List HA} (ho : o.op = .store t x y) (hg : o.guard = none) (hd : o.dst = none)
    (hx : ev F x = some (.pointer (some ⟨b, p, none⟩))) (hy : ev F y = some v) (ht : tget C.tab t = some ti) (hl : ti.size = len (vcells v)) (h1 : ones (vcells v) = true)
    (hup : Upd L (.cells b u cs) (.cells b u (splice cs p (vcells v))) L') (hp : Nat.ble (p + len (vcells v)) (len cs) = true)
    (h : J C ops false rest K F L') : J C ops false (o :: rest) K F L := by
  intro a w hf hs
  obtain ⟨M, hp1, hp2⟩ := hup.perm
  have hc : (HA.cells b u cs).holds C.w0.heap.size C.hot w := (hs.perm hp1).head
  have hp' : p + (vcells v).length ≤ cs.length := by have := Nat.le_of_ble_eq_true hp; simpa only [len_eq] using this
  have hst := run_storeCells_at (P := C.P) b p u (vcells v) 0 cs.toArray w hc.2 (by simpa using hp') (ones_all h1)
  have hsz : (sizeOf t).run C.P w = .ok (vcells v).length w := by
    have h2 := (C.ok.get ht).size
    rw [hl, len_eq] at h2
    cases hi : C.P.info? t with
    | none => simp [hi] at h2
    | some i => simp only [hi, Option.map_some, Option.some.injEq] at h2; simp [sizeOf, typeInfo, hi, h2]
  have hrun : (execOp a.eval o).run C.P w = .ok .skip (w.setRow b (splice cs p (vcells v)).toArray) := by
    rw [splice_eq _ _ _ hp']
    simp only [Nat.add_zero] at hst
    simp [execOp, ho, hf.ev hx, hf.ev hy, Instr.storeAt, Instr.sureAddr, storeVar, vcells_eq, hsz, hst]
  refine wpListIn_run (by simp [Region.wanted, hg]) (wpIn_skip_ hrun ?_)
  rw [hd]
  refine h a _ (hf.put_none undef) (hs.upd hup ⟨rfl, rfl, rfl, by simp, fun k hk => by omega⟩ ?_ ⟨hc.1, setRow_heap w b _ _ u _ hc.2⟩ (fun b hb => .inl hb))
  intro k hk hne
  exact setRow_other w b k _ (fun e => hne (by rw [e]; rfl))
/-! calls -/
theorem call_run {P : Program} {f : Nat} (hc : callable P f = true) (args : Array Value) (w : World) : (callFunc f args).run P w = .ok (.enter f args) w := by
  unfold callable at hc
  split at hc
  · rename_i fn hf
    simp only [Bool.and_eq_true, Bool.not_eq_true', Option.isNone_eq_false_iff] at hc
    have h1 : fn.name ≠ "runtime.NumGoroutine" := by simpa using hc.1
    have h2 : fn.body ≠ none := by
      intro e
      rw [e] at hc
      simp at hc
    simp [callFunc, hf, h1, h2]
  · cases hc
theorem callable_of {C : Cx} {f : Nat} (h : has C.fns f = true) : callable C.P f = true := by
  obtain ⟨h1, h2⟩ := has_mem h
  have h3 := List.all_eq_true.1 C.fok f (List.mem_range.2 h2)
  simp only [Bool.or_eq_true, decide_eq_true_eq] at h3
  exact h3.resolve_left (by omega)
theorem run_call {C : Cx} {F : Fr} {o : Oper} {al : List Operand} {fo : Operand} {ats : Array TypeId} {f : Nat} {caps vs : List Value} (ho : o.op = .call { callee := .value fo, args := al.toArray, argTypes := ats })
    (hfo : ev F fo = some (.func (.func f) #[] caps.toArray)) (ha : evs F al = some vs) (hc : has C.fns f = true) {a : Act} (hf : Fits C.n C.ds F a) (w : World) :
    (execOp a.eval o).run C.P w = .ok (.enter f (vs ++ caps).toArray) w := by
  have h1 : al.toArray.map a.eval = vs.toArray := by rw [List.map_toArray, hf.evs ha]
  have h2 := call_run (callable_of hc) (vs.toArray ++ caps.toArray) w
  simp only [execOp, ho, resolve, hf.ev hfo, h1, Deferred.ofValue, Sem.run_bind, Sem.run_pure, Result.andThen_ok, invoke, Array.empty_append]
  rw [h2]
  simp
theorem q_call {al : List Operand} {fo : Operand} {ats : Array TypeId} {f : Nat} {caps vs : List Value} {v : Value} (ho : o.op = .call { callee := .value fo, args := al.toArray, argTypes := ats })
    (hfo : ev F fo = some (.func (.func f) #[] caps.toArray)) (ha : evs F al = some vs) (hc : has C.fns f = true)
    (hcall : ∀ w, St C.w0 C.hot L w → Calls C.P f (vs ++ caps).toArray w (fun e w' => e = .returned v ∧ Below w.heap.size w w')) : Qt C o F L v := by
  intro a w hf hs
  unfold Oper.quietAt
  rw [run_call ho hfo ha hc hf w]
  exact ⟨rfl, (hcall w hs).mono fun e w' ⟨he, hb⟩ => ⟨he, hs.later hb⟩⟩
theorem j_qc {al : List Operand} {fo : Operand} {ats : Array TypeId} {f d : Nat} {caps vs : List Value} (ho : o.op = .call { callee := .value fo, args := al.toArray, argTypes := ats })
    (hg : o.guard = none) (hd : o.dst = some d) (hn : Nat.blt d C.n = true) (hfo : ev F fo = some (.func (.func f) #[] caps.toArray)) (ha : evs F al = some vs) (hc : has C.fns f = true)
    (h : ∃ v, (∀ w, St C.w0 C.hot L w → Calls C.P f (vs ++ caps).toArray w (fun e w' => e = .returned v ∧ Below w.heap.size w w')) ∧ J C ops m rest K ((d, v) :: F) L) : J C ops m (o :: rest) K F L :=
  let ⟨_, hcall, hj⟩ := h
  j_q hg hd hn (q_call ho hfo ha hc hcall) hj
/-- A call whatever it does, said by its contract. -/
theorem j_call {ξ : Type} {al : List Operand} {fo : Operand} {ats : Array TypeId} {f d : Nat} {caps vs : List Value} (V : ξ → Value) (pre : ξ → Prop) (L' : ξ → List HA) (ho : o.op = .call { callee := .value fo, args := al.toArray, argTypes := ats })
    (hg : o.guard = none) (hd : o.dst = some d) (hn : Nat.blt d C.n = true)
    (hfo : ev F fo = some (.func (.func f) #[] caps.toArray)) (ha : evs F al = some vs) (hc : has C.fns f = true)
    (hcall : ∀ w, St C.w0 C.hot L w → Calls C.P f (vs ++ caps).toArray w (fun e w' => ∃ x, pre x ∧ e = .returned (V x) ∧ St C.w0 C.hot (L' x) w'))
    (h : ∀ x, pre x → J C ops false rest K ((d, V x) :: F) (L' x)) : J C ops false (o :: rest) K F L := by
  intro a w hf hs
  refine wpListIn_run (by simp [Region.wanted, hg]) (wpIn_enter_ (run_call ho hfo ha hc hf w) ?_)
  refine (hcall w hs).mono fun e w' ⟨x, hp, he, hs'⟩ => ?_
  subst he
  rw [hd]
  exact h x hp _ _ (hf.put _ hn) hs'
/-! a function's beginning and end -/
def argFr : Nat → List Value → Fr
  | _, [] => []
  | i, v :: l => (i, v) :: argFr (i + 1) l
theorem argFr_get : ∀ (i : Nat) (l : List Value) (j : Nat) (v : Value), (argFr i l).get j = some v → i ≤ j ∧ l[j - i]? = some v
  | i, [], j, v, h => by cases h
  | i, x :: l, j, v, h => by
    simp only [argFr] at h
    rw [Fr.get_cons] at h
    by_cases e : i = j
    · subst e; simp at h; simp [h]
    · rw [if_neg e] at h
      obtain ⟨h1, h2⟩ := argFr_get (i + 1) l j v h
      refine ⟨by omega, ?_⟩
      rw [show j - i = (j - (i + 1)) + 1 from by omega]
      simpa using h2
/-- Behind a function's body: its results, and the marks of its ranges over functions. -/
def takesAll (P : Program) : List Deferred → World → World → Prop
  | [], w, w' => w' = w
  | d :: ds, w, w' => ∃ r w1, d.target = .collected r ∧ (Instr.takeDeferred r).run P w = .ok [] w1 ∧ takesAll P ds w1 w'
theorem eng_start {P : Program} (tab : List (Nat × TI)) (ok : TabOk P tab) (fns : Nat × Nat) (fok : Callables P fns) {f n : Nat} {fn : Func} {c : Code} {args : List Value} {w : World} {R : Ending → World → Prop} (rs : List ResultVar)
    (hf : P.funcs[f]? = some fn) (hb : fn.body = some c) (hn : fn.ntmps = n) (hrs : fn.results = rs.toArray) (hle : Nat.ble (len args) n = true)
    (h : SC ⟨P, tab, ok, fns, fok, fn, R, rs, hrs, fun _ _ _ => False, w, n, Cold, none, []⟩ c [] (argFr 0 args) []) : Calls P f args.toArray w R := by
  refine callsIn_wide.1 (callsIn_of_wp_marks (F := fc none) (n := 0) hf hb trivial (h _ _ ⟨rfl, ?_, ?_⟩ (St.start w _)))
  · have := Nat.le_of_ble_eq_true hle
    rw [len_eq] at this
    simp [hn]; omega
  · intro i v hv
    obtain ⟨_, h2⟩ := argFr_get 0 args i v hv
    simp only [Nat.sub_zero] at h2
    have hlt : i < args.length := (List.getElem?_eq_some_iff.1 h2).1
    rw [Array.getElem?_append_left (by simpa using hlt)]
    simpa using h2
/-- The same where some of the memory that was there is lent, to be written. -/
theorem eng_start_lent {P : Program} (tab : List (Nat × TI)) (ok : TabOk P tab) (fns : Nat × Nat) (fok : Callables P fns) {f n : Nat} {fn : Func} {c : Code} {args : List Value} {w : World} {R : Ending → World → Prop} (rs : List ResultVar) (hot : Nat → Prop) (L : List HA)
    (hf : P.funcs[f]? = some fn) (hb : fn.body = some c) (hn : fn.ntmps = n) (hrs : fn.results = rs.toArray) (hle : Nat.ble (len args) n = true) (hL : St w hot L w)
    (h : SC ⟨P, tab, ok, fns, fok, fn, R, rs, hrs, fun _ _ _ => False, w, n, hot, none, []⟩ c [] (argFr 0 args) L) : Calls P f args.toArray w R := by
  refine callsIn_wide.1 (callsIn_of_wp_marks (F := fc none) (n := 0) hf hb trivial (h _ _ ⟨rfl, ?_, ?_⟩ hL))
  · have := Nat.le_of_ble_eq_true hle
    rw [len_eq] at this
    simp [hn]; omega
  · intro i v hv
    obtain ⟨_, h2⟩ := argFr_get 0 args i v hv
    simp only [Nat.sub_zero] at h2
    have hlt : i < args.length := (List.getElem?_eq_some_iff.1 h2).1
    rw [Array.getElem?_append_left (by simpa using hlt)]
    simpa using h2
inductive RV (C : Cx) (F : Fr) (L : List HA) : ResultVar → Value → Prop where
  | tmp {t : Nat} {v : Value} (h : F.get t = some v) : RV C F L (.tmp t) v
  | cell {t ty b p u : Nat} {ti : TI} {cs : List Value} {v : Value} (h : F.get t = some (.pointer (some ⟨b, p, none⟩))) (ht : tget C.tab ty = some ti) (hk : ti.kind.agg = false) (hin : InL L (.cells b u cs)) (hv : nth cs p = some v) : RV C F L (.cell t ty) v
  | cellA {t ty b p u : Nat} {ti : TI} {cs : List Value} (h : F.get t = some (.pointer (some ⟨b, p, none⟩))) (ht : tget C.tab ty = some ti) (hk : ti.kind.agg = true) (hin : InL L (.cells b u cs)) (hl : ti.size = len (sub cs p ti.size)) : RV C F L (.cell t ty) (.agg (sub cs p ti.size).toArray)
inductive RVs (C : Cx) (F : Fr) (L : List HA) : List ResultVar → List Value → Prop where
  | nil : RVs C F L [] []
  | cons {r : ResultVar} {rs : List ResultVar} {v : Value} {vs : List Value} (h : RV C F L r v) (hs : RVs C F L rs vs) : RVs C F L (r :: rs) (v :: vs)
def pack : List Value → Value
  | [v] => v
  | vs => .tuple vs.toArray
def resSem (tmps : Array Value) : ResultVar → Sem Value
  | .tmp t => pure (tmps.getD t undef)
  | .cell a t => do loadVar t (← asAddr (tmps.getD a undef))
theorem RV.run {r : ResultVar} {v : Value} (h : RV C F L r v) {a : Act} {w : World} (hf : Fits C.n C.ds F a) (hs : St C.w0 C.hot L w) : (resSem a.tmps r).run C.P w = .ok v w := by
  cases h with
  | tmp h => have := hf.get _ _ h; simp [resSem, this]
  | cell h ht hk hin hv =>
    have h1 := hf.get _ _ h
    have h2 := run_loadOne (C.ok.get ht) hk ((cells_cell (hs.at hin) _).trans hv)
    simp [resSem, h1, asAddr, h2]
  | cellA h ht hk hin hl =>
    have h1 := hf.get _ _ h
    have h2 := run_loadAgg (C.ok.get ht) hk (w := w) hl (fun j v hv => by
      rw [add_own, cells_cell (hs.at hin)]; exact nth_sub _ _ _ _ _ hv)
    simp [resSem, h1, asAddr, h2]
theorem RVs.run {rs : List ResultVar} {vs : List Value} (h : RVs C F L rs vs) {a : Act} {w : World} (hf : Fits C.n C.ds F a) (hs : St C.w0 C.hot L w) : (rs.mapM (resSem a.tmps)).run C.P w = .ok vs w := by
  induction h with
  | nil => simp
  | cons h _ ih => simp [h.run hf hs, ih]
theorem results_run {fn : Func} {rs : List ResultVar} {vs : List Value} (hr : fn.results = rs.toArray) (h : RVs C F L rs vs) {a : Act} {w : World} (hf : Fits C.n C.ds F a) (hs : St C.w0 C.hot L w) :
    (results fn a.tmps).run C.P w = .ok (pack vs) w := by
  have h1 := h.run hf hs
  have h2 : (fn.results.mapM (resSem a.tmps)).run C.P w = .ok vs.toArray w := by
    rw [hr, List.mapM_toArray]
    simp [h1]
  have h3 : results fn a.tmps = (do let vs ← fn.results.mapM (resSem a.tmps); pure (if h : vs.size = 1 then vs[0] else .tuple vs)) := by
    unfold results
    congr 1
  rw [h3]
  simp only [Sem.run_bind, h2, Result.andThen_ok, Sem.run_pure]
  match vs with
  | [] => rfl
  | [v] => rfl
  | _ :: _ :: _ => rfl
theorem sq_ende {e : Exit} (he : e = .ret ∨ e = .normal) (hrd : C.rd = none) (hds : C.ds = [])
    (h : ∃ vs, RVs C F L C.rs vs ∧ ∀ w, St C.w0 C.hot L w → C.R (.returned (pack vs)) w) : SQ C e [] F L := by
  obtain ⟨vs, hv, hR⟩ := h
  intro a w hf hs
  show C.Qf e a w
  have hQ : C.Qf = bodyPostM (fc none) 0 C.P C.fn C.R := by unfold Cx.Qf; rw [hrd]
  rw [hQ]
  have hd : a.defers = [] := hf.dfr.trans hds
  have hl : LeavesInM (fc none) 0 C.P C.fn a.tmps C.R a.defers .returning w := by
    rw [hd]
    exact ⟨_, results_run C.hrs hv hf hs, hR w hs⟩
  rcases he with rfl | rfl
  · exact hl
  · exact hl
end
end Eng
end Go.Proofs.Ytmcmmmaffdenjaa
