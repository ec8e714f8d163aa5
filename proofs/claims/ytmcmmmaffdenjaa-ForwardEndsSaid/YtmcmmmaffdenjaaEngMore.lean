/-
  The engine's rules for literals of structs, arrays and slices, and for append.
-/
import Derived.Test.YtmcmmmaffdenjaaEngMem
import Derived.Great.BuildSlice
import Derived.Maps.AppendAt
namespace Go.Proofs.Ytmcmmmaffdenjaa
namespace Eng
open Go.RowKit
set_option linter.unusedVariables false
def nthN : List Nat → Nat → Option Nat
  | [], _ => none
  | x :: _, 0 => some x
  | _ :: l, n + 1 => nthN l n
theorem nthN_eq (l : List Nat) (n : Nat) : nthN l n = l[n]? := by
  induction l generalizing n with
  | nil => simp [nthN]
  | cons x l ih => cases n <;> simp [nthN, ih]
def bld (place : Nat → Option (Nat × Nat)) : List Value → List (Nat × Value) → Option (List Value)
  | cs, [] => some cs
  | cs, (i, v) :: rest => match place i with
    | none => none
    | some (off, sz) => bif Nat.beq (len (vcells v)) sz then (bif Nat.ble (off + len (vcells v)) (len cs) then bld place (splice cs off (vcells v)) rest else none) else none
theorem splice_nil : ∀ (cs : List Value) (p : Nat), splice cs p [] = cs
  | cs, 0 => by cases cs <;> simp [splice, over]
  | [], p + 1 => by simp [splice]
  | c :: cs, p + 1 => by simp [splice, splice_nil cs p]
theorem splice_set : ∀ (cs : List Value) (p : Nat) (v : Value) (vs : List Value), splice (cs.set p v) (p + 1) vs = splice cs p (v :: vs)
  | [], 0, v, vs => by simp [splice, over]
  | [], p + 1, v, vs => by simp [splice]
  | c :: cs, 0, v, vs => by cases cs <;> simp [splice, over]
  | c :: cs, p + 1, v, vs => by simp [splice, splice_set cs p v vs]
theorem foldl_splice : ∀ (vs : List Value) (k off : Nat) (cs : List Value),
    (vs.zipIdx k).foldl (fun (cs : Array Value) (x : Value × Nat) => cs.setIfInBounds (off + x.2) x.1) cs.toArray = (splice cs (off + k) vs).toArray
  | [], k, off, cs => by simp [splice_nil]
  | v :: vs, k, off, cs => by
    simp only [List.zipIdx_cons, List.foldl_cons, List.setIfInBounds_toArray]
    rw [foldl_splice vs (k + 1) off _, ← Nat.add_assoc, splice_set]
theorem fill_bld (place : Nat → Option (Nat × Nat)) : ∀ (parts : List (Nat × Value)) (cs r : List Value), bld place cs parts = some r → Instr.fill place cs.toArray parts = some r.toArray
  | [], cs, r, h => by simp only [bld, Option.some.injEq] at h; simp [Instr.fill, h]
  | (i, v) :: rest, cs, r, h => by
    simp only [bld] at h
    cases hp : place i with
    | none => simp [hp] at h
    | some x =>
      obtain ⟨off, sz⟩ := x
      simp only [hp] at h
      cases h1 : Nat.beq (len (vcells v)) sz with
      | false => simp [h1] at h
      | true =>
        cases h2 : Nat.ble (off + len (vcells v)) (len cs) with
        | false => simp [h1, h2] at h
        | true =>
          simp only [h1, h2, cond_true] at h
          have e1 := Nat.eq_of_beq_eq_true h1
          have e2 := Nat.le_of_ble_eq_true h2
          rw [len_eq] at e1
          simp only [len_eq] at e2
          have hf := foldl_splice (vcells v) 0 off cs
          have hz : v.cells.zipIdx.foldl (fun (cs : Array Value) (x : Value × Nat) => cs.setIfInBounds (off + x.2) x.1) cs.toArray = (splice cs off (vcells v)).toArray := by
            rw [vcells_eq]
            rw [← Array.foldl_toList]
            simpa using hf
          simp only [Instr.fill, hp]
          rw [if_neg (by rw [vcells_eq]; simp [e1]; omega)]
          have := fill_bld place rest _ r h
          rw [← this, ← hz]
section
variable {C : Cx} {F : Fr} {L : List HA} {o : Oper} {K : List KI} {ops : Array Oper} {m : Bool} {rest : List Oper}
def evp (F : Fr) : List (Nat × Operand) → Option (List (Nat × Value))
  | [] => some []
  | (i, x) :: l => match ev F x with
    | some v => match evp F l with
      | some vs => some ((i, v) :: vs)
      | none => none
    | none => none
theorem Fits.evp {n : Nat} {ds : List Deferred} {a : Act} (h : Fits n ds F a) {l : List (Nat × Operand)} {vs : List (Nat × Value)} (hl : Eng.evp F l = some vs) : l.map (fun x => (x.1, a.eval x.2)) = vs := by
  induction l generalizing vs with
  | nil => simpa [Eng.evp] using hl
  | cons x l ih =>
    obtain ⟨i, x⟩ := x
    simp only [Eng.evp] at hl
    cases hx : Eng.ev F x with
    | none => simp [hx] at hl
    | some v =>
      cases hr : Eng.evp F l with
      | none => simp [hx, hr] at hl
      | some us =>
        simp only [hx, hr, Option.some.injEq] at hl
        subst hl
        simp [h.ev hx, ih hr]
def splace (offs szs : List Nat) (j : Nat) : Option (Nat × Nat) :=
  match nthN offs j with
  | some a => match nthN szs j with
    | some b => some (a, b)
    | none => none
  | none => none
theorem run_mapM_list {P : Program} {α β : Type} (g : α → Sem β) (h : α → β) (w : World) : ∀ (l : List α), (∀ x ∈ l, (g x).run P w = .ok (h x) w) → (l.mapM g).run P w = .ok (l.map h) w
  | [], _ => by simp
  | x :: l, hl => by
    have h1 := hl x List.mem_cons_self
    have h2 := run_mapM_list g h w l (fun y hy => hl y (List.mem_cons_of_mem _ hy))
    simp [h1, h2]
theorem run_mapM_arr {P : Program} {α β : Type} (g : α → Sem β) (h : α → β) (w : World) (l : Array α) (hl : ∀ x ∈ l.toList, (g x).run P w = .ok (h x) w) : (l.mapM g).run P w = .ok (l.map h) w := by
  obtain ⟨l⟩ := l
  have h1 := run_mapM_list g h w l hl
  rw [List.mapM_toArray]
  simp [h1]
theorem q_build_struct {t : Nat} {ti : TI} {pl : List (Nat × Operand)} {pv : List (Nat × Value)} {offs szs : List Nat} {cs : List Value} (ho : o.op = .build t pl.toArray) (ht : tget C.tab t = some ti) (hk : ti.kind = .struct offs szs)
    (hp : evp F pl = some pv) (hb : bld (splace offs szs) ti.zero pv = some cs) : Qv C o F L (.agg cs.toArray) :=
  .of_run fun a w hf hs => by
    obtain ⟨fs, hu, h1, h2, h3⟩ := tk_struct (C.ok.get ht) hk
    obtain ⟨i, z, hi, hz, hzc, _, _⟩ := zero_cells (C.ok.get ht)
    have hparts : (pl.toArray.map fun (i, x) => (i, a.eval x)).toList = pv := by
      rw [List.map_toArray]; exact hf.evp hp
    have hm' : (fs.mapM (m := Sem) (fun f => do pure (f.offset, ← sizeOf f.type))).run C.P w = .ok (fs.map fun f => (f.offset, (match C.P.info? f.type with | some i => i.size | none => 0))) w := by
      refine run_mapM_arr _ _ w fs (fun f hf => ?_)
      obtain ⟨i, hi, _⟩ := h2 f hf
      simp [sizeOf, typeInfo, hi]
    have hplace : (fun j => (fs.map fun f => (f.offset, (match C.P.info? f.type with | some i => i.size | none => 0)))[j]?) = splace offs szs := by
      funext j
      unfold splace
      rw [nthN_eq, nthN_eq, ← h1, ← h3]
      simp only [Array.getElem?_map, List.getElem?_map, Array.getElem?_toList]
      cases fs[j]? <;> rfl
    have hfill := fill_bld _ _ _ _ hb
    rw [← hplace] at hfill
    have hzv : (zeroValue t).run C.P w = .ok z w := by simp [zeroValue, typeInfo, hi, hz]
    simp only [execOp, ho, Instr.build, Sem.run_bind, hzv, Result.andThen_ok, run_underlying hu, hm', hparts, hzc, hfill, Sem.run_pure]
theorem q_build_arr {t n e sz : Nat} {ti : TI} {pl : List (Nat × Operand)} {pv : List (Nat × Value)} {cs : List Value} (ho : o.op = .build t pl.toArray) (ht : tget C.tab t = some ti) (hk : ti.kind = .arr n e sz)
    (hp : evp F pl = some pv) (hb : bld (fun i => some (i * sz, sz)) ti.zero pv = some cs) : Qv C o F L (.agg cs.toArray) :=
  .of_run fun a w hf hs => by
    obtain ⟨hu, ie, hie, hsz⟩ := tk_arr (C.ok.get ht) hk
    obtain ⟨i, z, hi, hz, hzc, _, _⟩ := zero_cells (C.ok.get ht)
    have hparts : (pl.toArray.map fun (i, x) => (i, a.eval x)).toList = pv := by
      rw [List.map_toArray]; exact hf.evp hp
    have hfill := fill_bld _ _ _ _ hb
    have hzv : (zeroValue t).run C.P w = .ok z w := by simp [zeroValue, typeInfo, hi, hz]
    have hse : (sizeOf e).run C.P w = .ok sz w := by simp [sizeOf, typeInfo, hie, hsz]
    simp only [execOp, ho, Instr.build, Sem.run_bind, hzv, Result.andThen_ok, run_underlying hu, hse, hparts, hzc, hfill, Sem.run_pure]
def reps : Nat → List Value → List Value
  | 0, _ => []
  | n + 1, z => app z (reps n z)
where app : List Value → List Value → List Value
  | [], l => l
  | x :: xs, l => x :: app xs l
theorem reps_app (xs l : List Value) : reps.app xs l = xs ++ l := by induction xs <;> simp [reps.app, *]
theorem reps_len (n : Nat) (z : List Value) : (reps n z).length = n * z.length := by
  induction n with
  | zero => simp [reps]
  | succ n ih => simp [reps, reps_app, ih, Nat.succ_mul, Nat.add_comm]
theorem reps_get (z : List Value) (hz : 0 < z.length) : ∀ (n i : Nat), i < n * z.length → (reps n z)[i]? = z[i % z.length]?
  | 0, i, h => by simp at h
  | n + 1, i, h => by
    rw [reps, reps_app]
    by_cases hi : i < z.length
    · rw [List.getElem?_append_left hi, Nat.mod_eq_of_lt hi]
    · rw [List.getElem?_append_right (by omega), reps_get z hz n _ (by rw [Nat.succ_mul] at h; omega)]
      congr 1
      rw [Nat.mod_eq_sub_mod (by omega : i ≥ z.length)]
theorem reps_eq (n : Nat) (z : List Value) (hz : 0 < z.length) : (Array.range (n * z.length)).map (z.toArray[· % z.toArray.size]!) = (reps n z).toArray := by
  apply Array.ext'
  apply List.ext_getElem?
  intro i
  by_cases hi : i < n * z.length
  · rw [reps_get z hz n i hi]
    have hm : i % z.length < z.length := Nat.mod_lt _ hz
    simp [hi, List.getElem?_eq_getElem hm]
  · rw [List.getElem?_eq_none (by simp; omega), List.getElem?_eq_none (by simp [reps_len]; omega)]
theorem j_buildSlice {d t n e sz by_ : Nat} {ti te : TI} {pl : List (Nat × Operand)} {pv : List (Nat × Value)} {cs : List Value} (ho : o.op = .buildSlice t n pl.toArray) (hg : o.guard = none) (hd : o.dst = some d) (hn : Nat.blt d C.n = true)
    (ht : tget C.tab t = some ti) (hk : ti.kind = .slice e sz by_) (hte : tget C.tab e = some te) (hsm : Nat.ble (n * sz) 16777216 = true) (hpos : Nat.beq (n * sz) 0 = false) (hl : len te.zero = sz)
    (hp : evp F pl = some pv) (hb : bld (fun i => some (i * sz, sz)) (reps n te.zero) pv = some cs)
    (h : ∀ b, J C ops false rest K ((d, .slice (some ⟨b, 0, none⟩) n n) :: F) (.cells b e cs :: L)) : J C ops false (o :: rest) K F L := by
  obtain ⟨hu, ie, hie, hsz, _⟩ := tk_slice (C.ok.get ht) hk
  obtain ⟨i, z, hi, hz, hzc, _, _⟩ := zero_cells (C.ok.get hte)
  have e1 : ie = i := by rw [hie] at hi; injection hi
  subst e1
  refine j_step_new (ob := .cells cs.toArray e) (x := fun b => .cells b e cs) hg hd hn (fun b => .slice (some ⟨b, 0, none⟩) n n) (fun a w hf hs => ?_) (fun b c h => h) (fun w hw => holds_new w hw e _) h
  have hparts : (pl.toArray.map fun (i, x) => (i, a.eval x)).toList = pv := by
    rw [List.map_toArray]; exact hf.evp hp
  have h1 := Nat.le_of_ble_eq_true hsm
  have h2 : n * sz ≠ 0 := Nat.ne_of_beq_eq_false hpos
  have h3 : 0 < te.zero.length := by rw [← len_eq, hl]; exact Nat.pos_of_ne_zero (fun e => h2 (by rw [e]; simp))
  have hfill := fill_bld _ _ _ _ hb
  rw [← reps_eq n te.zero h3, ← hzc, ← len_eq, hl, ← hsz] at hfill
  have hrun := run_buildSlice (P := C.P) w t e n (pl.toArray.map fun (i, x) => (i, a.eval x)) cs.toArray ie z hu hie hz (by rw [hsz]; omega) (by rw [hsz]; exact h2) (by rw [hparts]; exact hfill)
  simp only [execOp, ho, Sem.run_bind, hrun, Result.andThen_ok, Sem.run_pure]
/-! guards that ask a value that was passed over -/
theorem j_guard_undef {i gd d : Nat} {b : Bool} (hg : o.guard = some (i, b)) (hd : o.dst = some d) (hn : Nat.blt d C.n = true) (hi : (ops[i]?).bind (·.dst) = some gd) (hF : F.get gd = some (.tuple #[]))
    (h : J C ops m rest K ((d, undef) :: F) L) : J C ops m (o :: rest) K F L := by
  have hnw : ∀ a, Fits C.n C.ds F a → Region.wanted o (yielded ops a.tmps) = false := fun a hfa => by
    have hy : yielded ops a.tmps i = none := by
      unfold yielded
      rw [hi]
      simp [hfa.get gd _ hF]
    simp [Region.wanted, hg, hy]
  cases m
  · intro a w hfa hs
    unfold wpListIn
    rw [if_neg (by simp [hnw a hfa]), hd]
    refine ⟨fun _ _ => trivial, ?_⟩
    exact h _ w (hfa.put undef hn) hs
  · intro a hfa
    unfold wpQuiet
    rw [if_neg (by simp [hnw a hfa]), hd]
    exact h _ (hfa.put undef hn)
/-! append onto a row of the call's own -/
theorem St.own_nil {w0 w : World} {hot : Nat → Prop} {e sz : Nat} (h : St w0 hot L w) : St w0 hot (.own (.slice none 0 0) e sz 0 [] :: L) w :=
  h.cons ⟨fun b hb => by simp [Value.ownBlock] at hb, by simp, .inl ⟨rfl, rfl⟩⟩ (fun y _ b hb => by simp [HA.foot, Value.ownBlock] at hb)
theorem sc_own_nil {c : Code} (e sz : Nat) (h : SC C c K F (.own (.slice none 0 0) e sz 0 [] :: L)) : SC C c K F L := fun a w hf hs => h a w hf hs.own_nil
theorem j_own_nil {l : List Oper} (e sz : Nat) (h : J C ops false l K F (.own (.slice none 0 0) e sz 0 [] :: L)) : J C ops false l K F L := fun a w hf hs => h a w hf hs.own_nil
theorem j_append {d t e sz by_ : Nat} {ti te : TI} {s x : Operand} {v : Value} {n k c b u : Nat} {xs cs : List Value} (ho : o.op = .call { callee := .builtin .append, args := #[s, x], argTypes := #[t, t] })
    (hg : o.guard = none) (hd : o.dst = some d) (hn : Nat.blt d C.n = true) (ht : tget C.tab t = some ti) (hk : ti.kind = .slice e sz by_) (hte : tget C.tab e = some te) (hl : len te.zero = sz) (hpos : Nat.beq sz 0 = false)
    (hs : ev F s = some v) (hx : ev F x = some (.slice (some ⟨b, 0, none⟩) k c)) (hin : InL L (.cells b u cs)) (hown : InL L (.own v e sz n xs)) (hlen : Nat.beq (len cs) (k * sz) = true) (h1 : ones cs = true)
    (hmax : (n + k) * (by_ + 1) ≤ 140737488355328)
    {L' : Value → List HA} (hup : ∀ v', Upd L (.own v e sz n xs) (.own v' e sz (n + k) (xs ++ cs)) (L' v'))
    (h : ∀ v', J C ops false rest K ((d, v') :: F) (L' v')) : J C ops false (o :: rest) K F L := by
  intro a w hf hS
  obtain ⟨hu, ie, hie, hsz, hby⟩ := tk_slice (C.ok.get ht) hk
  obtain ⟨i, z, hi, hz, hzc, _, _⟩ := zero_cells (C.ok.get hte)
  have e1 : ie = i := by rw [hie] at hi; injection hi
  subst e1
  have hlen' := Nat.eq_of_beq_eq_true hlen
  rw [len_eq] at hlen'
  have hc : ∀ j u, cs[j]? = some u → w.cell? ((⟨b, 0, none⟩ : Addr).add j) = some u := fun j u hj => by
    rw [add_own, cells_cell (hS.at hin), nth_eq, Nat.zero_add]; exact hj
  have hb2 : (n + k) ≤ 140737488355328 := Nat.le_trans (Nat.le_mul_of_pos_right _ (by omega)) hmax
  have hb3 : (n + k) * by_ ≤ 140737488355328 := Nat.le_trans (Nat.mul_le_mul_left _ (by omega)) hmax
  have hpos' : 0 < sz := Nat.pos_of_ne_zero (Nat.ne_of_beq_eq_false hpos)
  have hvl := hS.at hown
  obtain ⟨v', w', hr, hown', hgr, _, hat⟩ := run_append_own_at (P := C.P) w 0 t o.type e ie z sz by_ hu hie hz hsz hby (by rw [hzc, List.size_toArray, ← len_eq, hl]) hpos' v n xs hvl.2 ⟨b, 0, none⟩ k c cs hlen' hc (ones_all h1)
    (by unfold maxLen; omega) hb3 (Nat.zero_le _)
  have hrun : (execOp a.eval o).run C.P w = .ok (.value v') w' := by
    simp only [execOp, ho, resolve, invoke, builtin, Sem.run_bind, Sem.run_pure, Result.andThen_ok, List.map_toArray, List.map_cons, List.map_nil, hf.ev hs, hf.ev hx, hr]
  refine wpListIn_run (by simp [Region.wanted, hg]) (wpIn_value hrun ?_)
  rw [hd]
  refine h v' _ _ (hf.put _ hn) (hS.upd (hup v') ⟨hgr.os, hgr.tape, hgr.output, hgr.size, fun k hk => by omega⟩ ?_ ⟨fun q hq => ?_, hown'⟩ ?_)
  · intro q hq hne
    exact hgr.block q hq (fun e => hne e.symm)
  · rcases hat with e | e
    · exact hvl.1 q (e ▸ hq)
    · rw [e] at hq
      injection hq with hq
      have := hS.near.size
      exact .inl (by omega)
  · intro q hq
    rcases hat with e | e
    · exact .inl (e.symm.trans hq)
    · simp only [HA.foot, e, Option.some.injEq] at hq
      exact .inr (by omega)
end
end Eng
end Go.Proofs.Ytmcmmmaffdenjaa
