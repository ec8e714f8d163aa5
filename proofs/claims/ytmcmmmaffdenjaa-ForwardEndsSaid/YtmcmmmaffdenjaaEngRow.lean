/-
  Rows of the call's own: their elements read and written.
-/
import Derived.Test.YtmcmmmaffdenjaaEngApp
namespace Go.Proofs.Ytmcmmmaffdenjaa
namespace Eng
open Go.RowKit
set_option linter.unusedVariables false
set_option linter.unusedSimpArgs false
section
variable {C : Cx} {F : Fr} {L : List HA} {o : Oper} {K : List KI} {ops : Array Oper} {m : Bool} {rest : List Oper}
theorem own_parts {w0 w : World} {hot : Nat → Prop} {ad : Addr} {n c e sz : Nat} {xs : List Value} (hs : St w0 hot L w) (hin : InL L (.own (.slice (some ad) n c) e sz n xs)) :
    ∃ g cur, ad = ⟨g, 0, none⟩ ∧ w.heap[g]? = some (.cells cur e (0, 0)) ∧ cur.size = c * sz ∧ n ≤ c ∧ c ≤ maxLen ∧ cur.toList.take (n * sz) = xs ∧ xs.length = n * sz := by
  have hA := hs.at hin
  rcases hA.2.2 with ⟨hv, _⟩ | ⟨g, cap, cur, hv, _, hg, h1, h2, h3, htk⟩
  · injection hv with h1
    cases h1
  · injection hv with h4 _ h5
    injection h4 with h4
    subst h5
    exact ⟨g, cur, h4, hg, h3, h1, h2, htk, hA.2.1⟩
theorem own_cell {w0 w : World} {hot : Nat → Prop} {ad : Addr} {n c e sz p : Nat} {xs : List Value} {u : Value} (hs : St w0 hot L w) (hin : InL L (.own (.slice (some ad) n c) e sz n xs)) (hp : xs[p]? = some u) : w.cell? (ad.add p) = some u := by
  obtain ⟨g, cur, rfl, hg, _, _, _, htk, _⟩ := own_parts hs hin
  rw [add_own, Nat.zero_add]
  simp only [World.cell?, hg]
  rw [← htk, List.getElem?_take] at hp
  split at hp
  · rw [Array.getElem?_toList] at hp
    simpa using hp
  · cases hp
theorem flat_at {α : Type} (f : α → List Value) (sz : Nat) (hf : ∀ x, (f x).length = sz) : ∀ (l : List α) (i : Nat) (x : α) (j : Nat) (v : Value), l[i]? = some x → (f x)[j]? = some v → (l.flatMap f)[i * sz + j]? = some v
  | [], i, x, j, v, h, _ => by simp at h
  | y :: l, 0, x, j, v, h, hj => by
    simp at h
    subst h
    simp only [List.flatMap_cons, Nat.zero_mul, Nat.zero_add]
    rw [List.getElem?_append_left]
    · exact hj
    · exact (List.getElem?_eq_some_iff.1 hj).1
  | y :: l, i + 1, x, j, v, h, hj => by
    have ih := flat_at f sz hf l i x j v (by simpa using h) hj
    simp only [List.flatMap_cons]
    rw [List.getElem?_append_right (by rw [hf, Nat.succ_mul]; omega), hf]
    rw [show (i + 1) * sz + j - sz = i * sz + j from by rw [Nat.succ_mul]; omega]
    exact ih
theorem q_row1 {α : Type} {f : α → List Value} {l : List α} {i t n c e sz : Nat} {x : Operand} {ti : TI} {ad : Addr} {y : α} {v : Value} (ho : o.op = .load t x) (hx : ev F x = some (.pointer (some (ad.add (i * sz))))) (ht : tget C.tab t = some ti) (hk : ti.kind.agg = false)
    (hin : InL L (.own (.slice (some ad) n c) e sz n (l.flatMap f))) (hf : ∀ x, (f x).length = sz) (hi : l[i]? = some y) (hv : nth (f y) 0 = some v) : Qv C o F L v :=
  .of_run fun a w hfa hs => by
    rw [nth_eq] at hv
    have h1 := own_cell hs hin (flat_at f sz hf l i y 0 v hi hv)
    have := run_loadOne (C.ok.get ht) hk h1
    simp only [Nat.add_zero] at this
    simp [execOp, ho, hfa.ev hx, Instr.loadAt, Instr.sureAddr, this]
theorem q_rowF {α : Type} {f : α → List Value} {l : List α} {i t n c e sz off : Nat} {x : Operand} {ti : TI} {ad : Addr} {y : α} {v : Value} (ho : o.op = .load t x) (hx : ev F x = some (.pointer (some ((ad.add (i * sz)).add off)))) (ht : tget C.tab t = some ti) (hk : ti.kind.agg = false)
    (hin : InL L (.own (.slice (some ad) n c) e sz n (l.flatMap f))) (hf : ∀ x, (f x).length = sz) (hi : l[i]? = some y) (hv : nth (f y) off = some v) : Qv C o F L v :=
  .of_run fun a w hfa hs => by
    rw [nth_eq] at hv
    have h1 := own_cell hs hin (flat_at f sz hf l i y off v hi hv)
    rw [← add_add] at h1
    have := run_loadOne (C.ok.get ht) hk h1
    simp [execOp, ho, hfa.ev hx, Instr.loadAt, Instr.sureAddr, this]
theorem q_rowA {α : Type} {f : α → List Value} {l : List α} {i t n c e sz : Nat} {x : Operand} {ti : TI} {ad : Addr} {y : α} (ho : o.op = .load t x) (hx : ev F x = some (.pointer (some (ad.add (i * sz))))) (ht : tget C.tab t = some ti) (hk : ti.kind.agg = true)
    (hin : InL L (.own (.slice (some ad) n c) e sz n (l.flatMap f))) (hf : ∀ x, (f x).length = sz) (hi : l[i]? = some y) (hl : ti.size = len (f y)) : Qv C o F L (.agg (f y).toArray) :=
  .of_run fun a w hfa hs => by
    have := run_loadAgg (C.ok.get ht) hk (ad := ad.add (i * sz)) (w := w) hl (fun j v hv => by
      rw [nth_eq] at hv
      rw [add_add]
      exact own_cell hs hin (flat_at f sz hf l i y j v hi hv))
    simp [execOp, ho, hfa.ev hx, Instr.loadAt, Instr.sureAddr, this]
theorem splice_flat {α : Type} (f : α → List Value) (sz : Nat) (hf : ∀ x, (f x).length = sz) : ∀ (l : List α) (i : Nat) (x y : α) (off : Nat) (vs : List Value), l[i]? = some x → off + vs.length ≤ sz → splice (f x) off vs = f y → splice (l.flatMap f) (i * sz + off) vs = (l.set i y).flatMap f
  | [], i, x, y, off, vs, h, _, _ => by simp at h
  | z :: l, 0, x, y, off, vs, h, ho, hs => by
    simp at h
    subst h
    simp only [List.flatMap_cons, List.set_cons_zero, Nat.zero_mul, Nat.zero_add]
    have hz := hf z
    rw [splice_eq _ _ _ (by simp [hz]; omega)]
    rw [splice_eq _ _ _ (by rw [hz]; exact ho)] at hs
    rw [List.take_append_of_le_length (by omega), List.drop_append_of_le_length (by omega), ← List.append_assoc, ← hs]
  | z :: l, i + 1, x, y, off, vs, h, ho, hs => by
    have ih := splice_flat f sz hf l i x y off vs (by simpa using h) ho hs
    simp only [List.flatMap_cons, List.set_cons_succ]
    have key : ∀ (cs ds : List Value) (q : Nat), splice (cs ++ ds) (cs.length + q) vs = cs ++ splice ds q vs := by
      intro cs
      induction cs with
      | nil => intro ds q; simp
      | cons c cs ihc => intro ds q; rw [List.cons_append, show (c :: cs).length + q = cs.length + q + 1 from by simp; omega]; simp only [splice]; rw [ihc]; rfl
    rw [show (i + 1) * sz + off = (f z).length + (i * sz + off) from by rw [hf, Nat.succ_mul]; omega, key, ih]
theorem store_own {w0 w : World} {hot : Nat → Prop} {L' : List HA} {P : Program} {t : Nat} {ti : TI} {ad : Addr} {n c e sz p : Nat} {xs : List Value} {v : Value} (hok : TIok P t ti) (hs : St w0 hot L w) (hin : InL L (.own (.slice (some ad) n c) e sz n xs))
    (hl : ti.size = len (vcells v)) (h1 : ones (vcells v) = true) (hp : p + (vcells v).length ≤ xs.length) (hup : Upd L (.own (.slice (some ad) n c) e sz n xs) (.own (.slice (some ad) n c) e sz n (splice xs p (vcells v))) L') :
    ∃ w', (storeVar t (ad.add p) v).run P w = .ok () w' ∧ St w0 hot L' w' := by
  obtain ⟨g, cur, rfl, hg, hcs, hnc, hcm, htk, hxl⟩ := own_parts hs hin
  have hA := hs.at hin
  have hle : n * sz ≤ c * sz := Nat.mul_le_mul_right _ hnc
  have hp' : p + (vcells v).length ≤ cur.size := by omega
  have hst := run_storeCells_at (P := P) g p e (vcells v) 0 cur w hg (by simpa using hp') (ones_all h1)
  have hsz : (sizeOf t).run P w = .ok (vcells v).length w := by
    have h2 := hok.size
    rw [hl, len_eq] at h2
    cases hi : P.info? t with
    | none => simp [hi] at h2
    | some i => simp only [hi, Option.map_some, Option.some.injEq] at h2; simp [sizeOf, typeInfo, hi, h2]
  simp only [Nat.add_zero] at hst
  have hcl : (cur.toList.take p ++ vcells v ++ cur.toList.drop (p + (vcells v).length)).length = cur.size := by simp; omega
  refine ⟨w.setRow g (cur.toList.take p ++ vcells v ++ cur.toList.drop (p + (vcells v).length)).toArray, ?_, ?_⟩
  · rw [add_own, Nat.zero_add]
    simp [storeVar, vcells_eq, hsz, hst]
  · have hfoot : ∀ b, (HA.own (.slice (some ⟨g, 0, none⟩) n c) e sz n xs).foot b ↔ b = g := fun b => by
      simp only [HA.foot, Value.ownBlock, Option.some.injEq]
      exact eq_comm
    refine hs.upd hup ⟨rfl, rfl, rfl, by simp [World.setRow], fun k hk => by omega⟩ (fun b hb hne => setRow_other w g b _ (fun e => hne ((hfoot b).2 e))) ⟨hA.1, ?_, .inr ⟨g, c, _, rfl, Nat.zero_le _, setRow_heap w g cur _ e _ hg, hnc, hcm, by rw [List.size_toArray, hcl, hcs], ?_⟩⟩ (fun b hb => .inl hb)
    · rw [splice_length _ _ _ hp]; exact hxl
    · rw [splice_eq _ _ _ hp, ← htk]
      simp only [List.take_append, List.length_append, List.length_take, List.length_drop, Array.length_toList]
      rw [hxl] at hp
      rw [List.take_of_length_le (by simp; omega)]
      rw [List.take_take, List.drop_take]
      rw [show min p (n * sz) = p from by omega, show min p cur.size = p from by omega]
      congr 2
      rw [List.take_of_length_le (by omega)]
theorem j_store_row {α : Type} {f : α → List Value} {l : List α} {i t n c e sz : Nat} {x y : Operand} {ti : TI} {ad : Addr} {z z' : α} {v : Value} {L' : List HA} (ho : o.op = .store t x y) (hg : o.guard = none) (hd : o.dst = none)
    (hx : ev F x = some (.pointer (some (ad.add (i * sz))))) (hy : ev F y = some v) (ht : tget C.tab t = some ti) (hl : ti.size = len (vcells v)) (h1 : ones (vcells v) = true) (hin : InL L (.own (.slice (some ad) n c) e sz n (l.flatMap f))) (hf : ∀ x, (f x).length = sz) (hi : l[i]? = some z)
    (hz : splice (f z) 0 (vcells v) = f z') (hle : Nat.ble (len (vcells v)) sz = true) (hup : Upd L (.own (.slice (some ad) n c) e sz n (l.flatMap f)) (.own (.slice (some ad) n c) e sz n ((l.set i z').flatMap f)) L')
    (h : J C ops false rest K F L') : J C ops false (o :: rest) K F L := by
  intro a w hfa hs
  have hle' := Nat.le_of_ble_eq_true hle
  rw [len_eq] at hle'
  have hsp := splice_flat f sz hf l i z z' 0 (vcells v) hi (by omega) hz
  rw [Nat.add_zero] at hsp
  have hlen : i * sz + (vcells v).length ≤ (l.flatMap f).length := by
    have hil := (List.getElem?_eq_some_iff.1 hi).1
    have : ∀ l : List α, (l.flatMap f).length = l.length * sz := by
      intro l
      induction l with
      | nil => simp
      | cons x l ih => simp only [List.flatMap_cons, List.length_append, hf, ih, List.length_cons, Nat.succ_mul]; omega
    rw [this]
    have h2 : (i + 1) * sz ≤ l.length * sz := Nat.mul_le_mul_right _ hil
    rw [Nat.succ_mul] at h2
    omega
  obtain ⟨w', hr, hs'⟩ := store_own (C.ok.get ht) hs hin hl h1 hlen (by rw [hsp]; exact hup)
  have hrun : (execOp a.eval o).run C.P w = .ok .skip w' := by
    simp [execOp, ho, hfa.ev hx, hfa.ev hy, Instr.storeAt, Instr.sureAddr, hr]
  refine wpListIn_run (by simp [Region.wanted, hg]) (wpIn_skip_ hrun ?_)
  rw [hd]
  exact h a _ (hfa.put_none undef) hs'
theorem j_store_rowF {α : Type} {f : α → List Value} {l : List α} {i t n c e sz off : Nat} {x y : Operand} {ti : TI} {ad : Addr} {z z' : α} {v : Value} {L' : List HA} (ho : o.op = .store t x y) (hg : o.guard = none) (hd : o.dst = none)
    (hx : ev F x = some (.pointer (some ((ad.add (i * sz)).add off)))) (hy : ev F y = some v) (ht : tget C.tab t = some ti) (hl : ti.size = len (vcells v)) (h1 : ones (vcells v) = true) (hin : InL L (.own (.slice (some ad) n c) e sz n (l.flatMap f))) (hf : ∀ x, (f x).length = sz) (hi : l[i]? = some z)
    (hz : splice (f z) off (vcells v) = f z') (hle : Nat.ble (off + len (vcells v)) sz = true) (hup : Upd L (.own (.slice (some ad) n c) e sz n (l.flatMap f)) (.own (.slice (some ad) n c) e sz n ((l.set i z').flatMap f)) L')
    (h : J C ops false rest K F L') : J C ops false (o :: rest) K F L := by
  intro a w hfa hs
  have hle' := Nat.le_of_ble_eq_true hle
  rw [len_eq] at hle'
  have hsp := splice_flat f sz hf l i z z' off (vcells v) hi (by omega) hz
  have hlen : i * sz + off + (vcells v).length ≤ (l.flatMap f).length := by
    have hil := (List.getElem?_eq_some_iff.1 hi).1
    have : ∀ l : List α, (l.flatMap f).length = l.length * sz := by
      intro l
      induction l with
      | nil => simp
      | cons x l ih => simp only [List.flatMap_cons, List.length_append, hf, ih, List.length_cons, Nat.succ_mul]; omega
    rw [this]
    have h2 : (i + 1) * sz ≤ l.length * sz := Nat.mul_le_mul_right _ hil
    rw [Nat.succ_mul] at h2
    omega
  obtain ⟨w', hr, hs'⟩ := store_own (p := i * sz + off) (C.ok.get ht) hs hin hl h1 hlen (by rw [hsp]; exact hup)
  have hrun : (execOp a.eval o).run C.P w = .ok .skip w' := by
    rw [← add_add] at hr
    simp [execOp, ho, hfa.ev hx, hfa.ev hy, Instr.storeAt, Instr.sureAddr, hr]
  refine wpListIn_run (by simp [Region.wanted, hg]) (wpIn_skip_ hrun ?_)
  rw [hd]
  exact h a _ (hfa.put_none undef) hs'
/-- The head of an own row, the same array: 's[:k]'. -/
theorem take_own {w0 w : World} {hot : Nat → Prop} {ad : Addr} {n c e sz k : Nat} {xs : List Value} (hs : St w0 hot L w) (hin : InL L (.own (.slice (some ad) n c) e sz n xs)) (hk : k ≤ n) {L' : List HA} (hup : Upd L (.own (.slice (some ad) n c) e sz n xs) (.own (.slice (some ad) k c) e sz k (xs.take (k * sz))) L') : St w0 hot L' w := by
  obtain ⟨g, cur, rfl, hg, hcs, hnc, hcm, htk, hxl⟩ := own_parts hs hin
  have hA := hs.at hin
  have hle : k * sz ≤ n * sz := Nat.mul_le_mul_right _ hk
  refine hs.upd hup (Below.refl 0 w) (fun b _ _ => rfl) ⟨hA.1, by rw [List.length_take, hxl]; omega, .inr ⟨g, c, cur, rfl, Nat.zero_le _, hg, by omega, hcm, hcs, ?_⟩⟩ (fun b hb => .inl hb)
  rw [← htk, List.take_take, Nat.min_eq_left hle]
/-- 's[lo:hi]' as a value; memory is left alone. -/
theorem run_sliceOp {P : Program} {t : TypeId} {ti : TI} (h : TIok P t ti) {e sz by_ : Nat} (hk : ti.kind = .slice e sz by_) (A : Option Addr) (n c : Nat) (lo hi : Option Value) (kl kh : IntKind) (a b : Nat) (hlo : lo = none ∧ a = 0 ∨ lo = some (.int kl (a : Int))) (hhi : hi = none ∧ b = n ∨ hi = some (.int kh (b : Int)))
    (hab : a ≤ b) (hbc : b ≤ c) (w : World) : (Instr.slice t (.slice A n c) lo hi none).run P w = .ok (.slice (if c = a then A else A.map (·.add (a * sz))) (b - a) (c - a)) w := by
  obtain ⟨hu, ie, h3, h4, _⟩ := tk_slice h hk
  have hb1 : (b : Int) ≤ (c : Int) := by omega
  have ha1 : (a : Int) ≤ (b : Int) := by omega
  rcases hlo with ⟨rfl, rfl⟩ | rfl <;> rcases hhi with ⟨rfl, rfl⟩ | rfl <;>
    simp [Instr.slice, Instr.sliceBounds, Instr.sliceBound, asIntOf, run_underlying hu, sizeOf, typeInfo, h3, h4, hb1, ha1, hab, hbc]
theorem q_sliceHi {t n c e sz by_ : Nat} {x y : Operand} {ti : TI} {A : Option Addr} {kh : IntKind} (b : Nat) (ho : o.op = .slice t x none (some y) none) (ht : tget C.tab t = some ti) (hk : ti.kind = .slice e sz by_) (hx : ev F x = some (.slice A n c)) (hy : ev F y = some (.int kh (b : Int))) (hb : b ≤ c) :
    Qv C o F L (.slice A b c) :=
  .of_run fun a w hf hs => by
    have := run_sliceOp (C.ok.get ht) hk A n c none (some (.int kh (b : Int))) kh kh 0 b (.inl ⟨rfl, rfl⟩) (.inr rfl) (Nat.zero_le _) hb w
    have e1 : (if c = 0 then A else A.map (·.add (0 * sz))) = A := by
      split
      · rfl
      · cases A <;> simp [Addr.add]
    rw [e1, Nat.sub_zero, Nat.sub_zero] at this
    have hu := (tk_slice (C.ok.get ht) hk).1
    simp [execOp, ho, hf.ev hx, hf.ev hy, Instr.sliceAt, run_underlying hu, this]
theorem q_sliceLo {t n c e sz by_ : Nat} {x y : Operand} {ti : TI} {ad : Addr} {kl : IntKind} (a : Nat) (ho : o.op = .slice t x (some y) none none) (ht : tget C.tab t = some ti) (hk : ti.kind = .slice e sz by_) (hx : ev F x = some (.slice (some ad) n c)) (hy : ev F y = some (.int kl (a : Int))) (ha : a ≤ n) (hnc : n ≤ c) :
    Qv C o F L (.slice (if c = a then some ad else some (ad.add (a * sz))) (n - a) (c - a)) :=
  .of_run fun a' w hf hs => by
    have := run_sliceOp (C.ok.get ht) hk (some ad) n c (some (.int kl (a : Int))) none kl kl a n (.inr rfl) (.inl ⟨rfl, rfl⟩) ha hnc w
    simp only [Option.map_some] at this
    have hu := (tk_slice (C.ok.get ht) hk).1
    simp [execOp, ho, hf.ev hx, hf.ev hy, Instr.sliceAt, run_underlying hu, this]
/-- append(s[:i], s[i+1:]...) -/
theorem j_delete {d t e sz by_ : Nat} {ti te : TI} {s x : Operand} {ad : Addr} {n c i : Nat} {xs : List Value} (ho : o.op = .call { callee := .builtin .append, args := #[s, x], argTypes := #[t, t] })
    (hg : o.guard = none) (hd : o.dst = some d) (hn : Nat.blt d C.n = true) (ht : tget C.tab t = some ti) (hk : ti.kind = .slice e sz by_) (hte : tget C.tab e = some te) (hl : len te.zero = sz) (hpos : Nat.beq sz 0 = false)
    (hs : ev F s = some (.slice (some ad) i c)) (hx : ev F x = some (.slice (if c = i + 1 then some ad else some (ad.add ((i + 1) * sz))) (n - (i + 1)) (c - (i + 1)))) (hown : InL L (.own (.slice (some ad) n c) e sz n xs)) (hi : i < n) (h1 : ∀ u ∈ xs, u.oneCell' = true) (hmax : n * (by_ + 1) ≤ 140737488355328)
    {L' : Value → List HA} (hup : ∀ v', Upd L (.own (.slice (some ad) n c) e sz n xs) (.own v' e sz (i + (n - (i + 1))) (xs.take (i * sz) ++ xs.drop ((i + 1) * sz))) (L' v'))
    (h : ∀ v', J C ops false rest K ((d, v') :: F) (L' v')) : J C ops false (o :: rest) K F L := by
  intro a w hf hS
  obtain ⟨hu, ie, hie, hsz, hby⟩ := tk_slice (C.ok.get ht) hk
  obtain ⟨iz, z, hiz, hz, hzc, _, _⟩ := zero_cells (C.ok.get hte)
  have e1 : ie = iz := by rw [hie] at hiz; injection hiz
  subst e1
  have hpos' : 0 < sz := Nat.pos_of_ne_zero (Nat.ne_of_beq_eq_false hpos)
  obtain ⟨g, cur, had, hg', hcs, hnc, hcm, htk, hxl⟩ := own_parts hS hown
  have hb2 : n ≤ 140737488355328 := Nat.le_trans (Nat.le_mul_of_pos_right _ (by omega)) hmax
  have hb3 : n * by_ ≤ 140737488355328 := Nat.le_trans (Nat.mul_le_mul_left _ (by omega)) hmax
  have hni : i + (n - (i + 1)) ≤ n := by omega
  have hle : i * sz ≤ n * sz := Nat.mul_le_mul_right _ (by omega)
  have hle1 : (i + 1) * sz ≤ n * sz := Nat.mul_le_mul_right _ hi
  have hvl : w.ownsRow 0 e sz (.slice (some ad) i c) i (xs.take (i * sz)) := by
    refine ⟨by rw [List.length_take, hxl]; omega, .inr ⟨g, c, cur, by rw [had], Nat.zero_le _, hg', by omega, hcm, hcs, ?_⟩⟩
    rw [← htk, List.take_take, Nat.min_eq_left hle]
  have hnl : (xs.drop ((i + 1) * sz)).length = (n - (i + 1)) * sz := by rw [List.length_drop, hxl, Nat.sub_mul]
  have hnews : ∀ a', (if c = i + 1 then some ad else some (ad.add ((i + 1) * sz))) = some a' → ∀ j u, (xs.drop ((i + 1) * sz))[j]? = some u → w.cell? (a'.add j) = some u := by
    intro a' ha' j u hu
    split at ha'
    · rename_i hc
      have : n = i + 1 := by omega
      exfalso
      have hj := (List.getElem?_eq_some_iff.1 hu).1
      rw [hnl, this] at hj
      simp at hj
    · injection ha' with ha'
      subst ha'
      rw [List.getElem?_drop] at hu
      rw [add_add]
      exact own_cell hS hown hu
  obtain ⟨a', ha'⟩ : ∃ a', (if c = i + 1 then some ad else some (ad.add ((i + 1) * sz))) = some a' := by split <;> exact ⟨_, rfl⟩
  obtain ⟨v', w', hr, hown', hgr, _, hat⟩ := run_append_own_at (P := C.P) w 0 t o.type e ie z sz by_ hu hie hz hsz hby (by rw [hzc, List.size_toArray, ← len_eq, hl]) hpos' _ _ _ hvl a' (n - (i + 1)) (c - (i + 1)) _ hnl (hnews a' ha')
    (fun u hu => h1 u (List.mem_of_mem_drop hu)) (by unfold maxLen; omega) (Nat.le_trans (Nat.mul_le_mul_right _ hni) hb3) (Nat.zero_le _)
  rw [ha'] at hx
  have hrun : (execOp a.eval o).run C.P w = .ok (.value v') w' := by
    simp only [execOp, ho, resolve, invoke, builtin, Sem.run_bind, Sem.run_pure, Result.andThen_ok, List.map_toArray, List.map_cons, List.map_nil, hf.ev hs, hf.ev hx, hr]
  have hA := hS.at hown
  refine wpListIn_run (by simp [Region.wanted, hg]) (wpIn_value hrun ?_)
  rw [hd]
  refine h v' _ _ (hf.put _ hn) (hS.upd (hup v') ⟨hgr.os, hgr.tape, hgr.output, hgr.size, fun k hk => by omega⟩ ?_ ⟨fun q hq => ?_, hown'⟩ ?_)
  · intro q hq hne
    exact hgr.block q hq (fun e => hne e.symm)
  · rcases hat with e | e
    · exact hA.1 q (e ▸ hq)
    · rw [e] at hq
      injection hq with hq
      have := hS.near.size
      exact .inl (by omega)
  · intro q hq
    rcases hat with e | e
    · exact .inl (e.symm.trans hq)
    · simp only [HA.foot, e, Option.some.injEq] at hq
      exact .inr (by omega)
/-- A row said otherwise. -/
theorem sc_own_eq {c : Code} {v : Value} {e sz n : Nat} {xs xs' : List Value} {M : List HA} (hr : Rem L (.own v e sz n xs) M) (hx : xs = xs') (h : SC C c K F (.own v e sz n xs' :: M)) : SC C c K F L := fun a w hf hs => h a w hf (by subst hx; exact hs.perm hr.perm)
theorem sc_own_some {c' : Code} {A : Option Addr} {e sz n c : Nat} {xs : List Value} (hin : InL L (.own (.slice A n c) e sz n xs)) (hn : 0 < n) (h : ∀ ad, A = some ad → n ≤ c → SC C c' K F L) : SC C c' K F L := fun a w hf hs => by
  have hA := hs.at hin
  rcases hA.2.2 with ⟨_, h0⟩ | ⟨g, cap, cur, hv, _, _, hnc, _⟩
  · omega
  · injection hv with h1 _ h3
    subst h3
    exact h _ h1 hnc a w hf hs
theorem cut_ {T G : Prop} (h : T → G) (t : T) : G := h t
theorem sc_sub {c : Code} {F' : Fr} {L' : List HA} (h : SC C c K F' L') (hF : FSub F' F) (hL : LSub L' L) : SC C c K F L := fun a w hf hs => h a w (hf.sub hF) (hs.sub hL)
theorem sq_sub {e : Exit} {F' : Fr} {L' : List HA} (h : SQ C e K F' L') (hF : FSub F' F) (hL : LSub L' L) : SQ C e K F L := fun a w hf hs => h a w (hf.sub hF) (hs.sub hL)
end
end Eng
end Go.Proofs.Ytmcmmmaffdenjaa
