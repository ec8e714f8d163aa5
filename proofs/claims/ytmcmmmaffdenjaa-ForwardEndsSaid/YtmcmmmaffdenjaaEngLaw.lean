/-
  From a law's walk to its row: what arguments read as, opened for the engine; that they read behind the call as before.
-/
import Derived.Test.YtmcmmmaffdenjaaEngMem
import Derived.ProofKit
import Derived.OpenShut
import Derived.Deep.Slices
import Derived.Deep.Fields
import Derived.Carry
import Derived.ChangeSame
namespace Go.Proofs.Ytmcmmmaffdenjaa
namespace Eng
open Go.RowKit Go.ChangeShapes Go.WideShapes Go.Deep
set_option linter.unusedVariables false
section
variable {H : Type} {enc : TypeId × Value → H} {P : Program} {W W' : World}
theorem trodAll_keep (hl : laidOutB P = true) {sp : Nat → Bool} (hb : Below W.heap.size W W') : ∀ {ts : List TypeId} {vs : List Value} {ds : List (DataW H)} {p : List MemPlace}, (∀ t ∈ ts, P.readableRec t = true ∧ t < P.types.size) →
    DataW.TrodAll enc P W 0 (fun _ => true) true ts vs ds p → (∀ x ∈ p, x.block < W.heap.size) → (∀ x ∈ p, sp x.block = true) → DataW.TrodAll enc P W' 0 sp true ts vs ds p
  | [], [], [], p, _, h, _, _ => h
  | t :: ts, v :: vs, d :: ds, p, ht, h, hlt, hsp => by
    obtain ⟨p1, q, h1, h2, rfl⟩ := h
    refine ⟨p1, q, ?_, trodAll_keep hl hb (fun t' h' => ht t' (List.mem_cons_of_mem _ h')) h2 (fun x hx => hlt x (List.mem_append_right _ hx)) (fun x hx => hsp x (List.mem_append_right _ hx)), rfl⟩
    obtain ⟨hr, hrow⟩ := ht t List.mem_cons_self
    exact WideElems.Trod_stays hl hr hrow h1 (fun x hx => hb.same (hlt x (List.mem_append_left _ hx))) (fun x hx => hsp x (List.mem_append_left _ hx))
  | [], [], _ :: _, _, _, h, _, _ => h.elim
  | [], _ :: _, _, _, _, h, _, _ => h.elim
  | _ :: _, [], _, _, _, h, _, _ => h.elim
  | _ :: _, _ :: _, [], _, _, h, _, _ => h.elim
/-- A law's call has returned true and memory that was there is as it was: what the row asks. -/
theorem law_post {f : Func} {s : ChangeSpec} {args : Array Value} {ds gs : List (DataW H)} {before : List MemPlace} {tb : TypeId} (hl : laidOutB P = true) (hrb : f.params.toList.all (fun t => P.readableRec t && decide (t < P.types.size)) = true) (hv : s.vars = [])
    (hs : (s.fn H ds).results = [.lit (.bool true)]) (ha : (s.fn H ds).args = ds) (hva : (s.fn H ds).vars = []) (hres : f.resultTypes = #[tb]) (htb : P.underlying tb = some .bool)
    (hW : DataW.Whole enc P f.params.toList s.vars false W args.toList ds gs before) (hB : Below W.heap.size W W') : s.post enc P f false true false false W args (.bool true) W' := by
  have hr : ∀ t ∈ f.params.toList, P.readableRec t = true ∧ t < P.types.size := fun t ht => by
    have := List.all_eq_true.1 hrb t ht
    simpa using this
  have hW' := hW
  obtain ⟨p, q, hA, hV, hpq, hfz, hnd⟩ := hW
  rw [hv] at hV
  obtain ⟨hg, hq⟩ := trodVars_none hV
  subst hg
  subst hq
  have e : ds ++ ([] : List (DataW H)) = ds := List.append_nil ds
  have hlt : ∀ x ∈ p, x.block < W.heap.size := fun x hx => hW'.lt x (by rw [hpq]; simpa using hx)
  have hpb : before = p := by rw [hpq]; simp
  have hk : ∀ sp : Nat → Bool, (∀ x ∈ p, sp x.block = true) → DataW.TrodAll enc P W' 0 sp true f.params.toList args.toList ds p := fun sp hsp => trodAll_keep hl hB hr hA hlt hsp
  have hR : ∀ b sp hd, DataW.TrodAll enc P W' b sp hd f.resultTypes.toList ((Value.bool true).resultList f.resultTypes.size) [.lit (.bool true)] [] := fun b sp hd => by
    rw [hres]
    exact trodAll_cons_mk (shut_bool htb _) trodAll_mk0
  refine ⟨ds, [], before, [], p, [], hW', by rw [e, hs]; exact hR _ _ _, by rw [e, ha]; exact hk _ (fun x hx => by simpa using hlt x hx), by rw [e, hva, hv]; exact rfl, World.keptBut_mono (fun x hx => ⟨hx, .inr (.inl (hpb ▸ hx))⟩) (hB.frame (· ∈ before)), fun _ => ⟨ok_one hres rfl (okWide_bool_mk htb _), [.lit (.bool true)] ++ ds, [], [] ++ p ++ [], ⟨[] ++ p, [], ?_, by rw [hv]; exact rfl, rfl, ?_, fun h => absurd h (by decide)⟩, ?_⟩⟩
  · exact trodAll_append (hk (fun _ => true) (fun _ _ => rfl)) (hR _ _ _)
  · intro b off hx
    have hin : MemPlace.cell b off ∈ p := by simpa using hx
    rw [hB.frozen (hlt _ hin)]
    exact hfz b off (by rw [hpb]; exact hin)
  · intro x hx _
    rw [hpb]
    simpa using hx
/-! ### What comes in -/
theorem cell_lt {w : World} {a : Addr} {v : Value} (h : w.cell? a = some v) : a.block < w.heap.size := by
  rcases Nat.lt_or_ge a.block w.heap.size with h1 | h1
  · exact h1
  · simp [World.cell?, Array.getElem?_eq_none h1] at h
theorem ext_of_cells {w : World} {base n : Nat} {a : Addr} {cs : List Value} (h : w.cells? base a n = some cs) (hn : 0 < n) : Ext w a cs := by
  obtain ⟨_, hl, hat⟩ := World.cells?_some h
  have h0 := hat 0 hn
  rw [List.getElem?_eq_getElem (by omega)] at h0
  refine ⟨by have := cell_lt h0; rwa [block_add] at this, fun j u hu => ?_⟩
  rw [nth_eq] at hu
  rw [hat j (by have := (List.getElem?_eq_some_iff.1 hu).1; omega), hu]
/-- The kinds of one-cell fields. -/
inductive DK where
  | int (k : IntKind)
  | str
  | bool
  | any (t : TypeId)
variable {w : World} {base : Nat} {spare : Nat → Bool} {held : Bool}
def DK.ok (enc : TypeId × Value → H) (P : Program) (w : World) (base : Nat) (spare : Nat → Bool) (held : Bool) : DK → Value → Prop
  | .int k, v => ∃ n, v = .int k n ∧ k.min ≤ n ∧ n ≤ k.max
  | .str, v => ∃ s, v = .string s ∧ s.size ≤ 9223372036854775807
  | .bool, v => ∃ b, v = .bool b
  | .any t, v => ∃ n y, DataW.trod enc P w base spare held n t [v] = some y
def DK.fits (P : Program) (t : TypeId) : DK → Bool
  | .int k => match P.underlying t with
    | some (.int k') => decide (k' = k)
    | _ => false
  | .str => match P.underlying t with
    | some .string => true
    | _ => false
  | .bool => match P.underlying t with
    | some .bool => true
    | _ => false
  | .any t' => decide (t' = t)
theorem int_wf {k : IntKind} {n : Int} (h : (Lit.int k n).wf = true) : k.min ≤ n ∧ n ≤ k.max := by
  simpa [Lit.wf] using h
theorem DK.ok_of {t : TypeId} {k : DK} (hf : k.fits P t = true) {n : Nat} {v : Value} {x : DataW H × List MemPlace} (h : DataW.trod enc P w base spare held n t [v] = some x) : k.ok enc P w base spare held v := by
  cases k with
  | int k =>
    simp only [DK.fits] at hf
    split at hf
    · rename_i k' hu
      simp only [decide_eq_true_eq] at hf
      subst hf
      obtain ⟨m, hv, _, hw⟩ := DataW.trod_int hu h
      simp only [List.cons.injEq, and_true] at hv
      exact ⟨m, hv, int_wf hw⟩
    · cases hf
  | str =>
    simp only [DK.fits] at hf
    split at hf
    · rename_i hu
      obtain ⟨s, hv, _, hl⟩ := DataW.trod_string hu h
      simp only [List.cons.injEq, and_true] at hv
      exact ⟨s, hv, hl⟩
    · cases hf
  | bool =>
    simp only [DK.fits] at hf
    split at hf
    · rename_i hu
      obtain ⟨s, hv, _⟩ := DataW.trod_bool hu h
      simp only [List.cons.injEq, and_true] at hv
      exact ⟨s, hv⟩
    · cases hf
  | any t' =>
    simp only [DK.fits, decide_eq_true_eq] at hf
    subst hf
    exact ⟨n, x, h⟩
def AllOk (enc : TypeId × Value → H) (P : Program) (w : World) (base : Nat) (spare : Nat → Bool) (held : Bool) : List DK → List Value → Prop
  | [], [] => True
  | k :: ks, v :: vs => k.ok enc P w base spare held v ∧ AllOk enc P w base spare held ks vs
  | _, _ => False
def fitsAll (P : Program) : List Field → List DK → Bool
  | [], [] => true
  | f :: fs, k :: ks => k.fits P f.type && fitsAll P fs ks
  | _, _ => false
theorem allOk_of : ∀ {fs : List Field} {ks : List DK} {vs : List Value} {n : Nat}, fitsAll P fs ks = true → vs.length = fs.length → (∀ (i : Nat) (f : Field) (v : Value), fs[i]? = some f → vs[i]? = some v → ∃ x, DataW.trod enc P w base spare held n f.type [v] = some x) → AllOk enc P w base spare held ks vs
  | [], [], [], n, _, _, _ => trivial
  | f :: fs, k :: ks, v :: vs, n, hf, hl, h => by
    simp only [fitsAll, Bool.and_eq_true] at hf
    obtain ⟨x, hx⟩ := h 0 f v rfl rfl
    exact ⟨DK.ok_of hf.1 hx, allOk_of hf.2 (by simpa using hl) (fun i f' v' h1 h2 => h (i + 1) f' v' (by simpa using h1) (by simpa using h2))⟩
  | [], [], v :: vs, n, _, hl, _ => by simp at hl
  | [], k :: ks, vs, n, hf, _, _ => by simp [fitsAll] at hf
  | f :: fs, [], vs, n, hf, _, _ => by simp [fitsAll] at hf
  | f :: fs, k :: ks, [], n, _, hl, _ => by simp at hl
theorem flat_struct {e : TypeId} {fs : Array Field} (ks : List DK) (he : P.underlying e = some (.struct fs)) (hone : oneCellFields P fs = true) (hC : P.cellsOf e = fs.size) (hk : fitsAll P fs.toList ks = true) {n : Nat} {cs : List Value} {x : DataW H × List MemPlace}
    (h : DataW.trod enc P w base spare held n e cs = some x) : AllOk enc P w base spare held ks cs := by
  obtain ⟨xs, m, _, _, hl, hxl, hat⟩ := DataW.trod_struct he h
  refine allOk_of (n := m) hk (by rw [hl, hC]; simp) (fun i f v hf hv => ?_)
  have hf' : fs[i]? = some f := by simpa using hf
  obtain ⟨ho, h1⟩ := hone_of hone i f hf'
  have h2 := hat i f hf'
  rw [ho, h1] at h2
  have hil := (List.getElem?_eq_some_iff.1 hv).1
  have hd : (cs.drop i).take 1 = [v] := by
    rw [List.drop_eq_getElem_cons hil]
    simp only [List.take_succ_cons, List.take_zero]
    rw [List.getElem?_eq_getElem hil] at hv
    simpa using hv
  rw [hd] at h2
  have hx : i < xs.length := by rw [hxl]; exact (Array.getElem?_eq_some_iff.1 hf').1
  exact ⟨_, h2.trans (List.getElem?_eq_getElem hx)⟩
/-- A slice, by its cell. -/
theorem rs_of_trod {α : Type} {t e : TypeId} {sz : Nat} (f : α → List Value) (ok : α → Prop) (ht : P.underlying t = some (.slice e)) (hC : P.cellsOf e = sz) (hsz : 0 < sz) (dec : ∀ n cs x, DataW.trod enc P w base spare held n e cs = some x → ∃ y, cs = f y ∧ ok y)
    {n : Nat} {cs : List Value} {x : DataW H × List MemPlace} (h : DataW.trod enc P w base spare held n t cs = some x) :
    ∃ (A : Option Addr) (c : Nat) (l : List α), cs = [.slice A l.length c] ∧ l.length ≤ 9223372036854775807 ∧ RS w sz f A l ∧ ∀ y ∈ l, ok y := by
  rcases open_slice ht h with ⟨rfl, _⟩ | ⟨a, len, cap, m, k, D, Pl, rfl, _, hlc, hcm, hm, _, hat⟩
  · exact ⟨none, 0, [], rfl, by simp, RS.nil, fun y hy => by cases hy⟩
  · have hlm : len ≤ m := by rw [hm]; split <;> omega
    have hch : ∀ i : Fin len, ∃ y : α, w.cells? base (a.add (i.1 * sz)) sz = some (f y) ∧ ok y := fun i => by
      obtain ⟨cs', h1, h2⟩ := hat i.1 (by have := i.2; omega)
      obtain ⟨y, rfl, hy⟩ := dec _ _ _ h2
      rw [hC] at h1
      exact ⟨y, h1, hy⟩
    refine ⟨some a, cap, List.ofFn fun i => (hch i).choose, by simp, by simp only [List.length_ofFn]; unfold maxLen at hcm; omega, fun i y hy => ?_, fun y hy => ?_⟩
    · have hi : i < len := by have := (List.getElem?_eq_some_iff.1 hy).1; simpa using this
      have e1 : y = (hch ⟨i, hi⟩).choose := by
        rw [List.getElem?_eq_getElem (by simpa using hi)] at hy
        simpa using hy.symm
      subst e1
      exact ⟨a, rfl, ext_of_cells (hch ⟨i, hi⟩).choose_spec.1 hsz⟩
    · obtain ⟨i, rfl⟩ := (List.mem_ofFn).1 hy
      exact (hch i).choose_spec.2
theorem trod_slice_cell {r : Reach} {b0 : Nat} {t e : TypeId} {v : Value} {d : DataW H} {ps : List MemPlace} (ht : P.underlying t = some (.slice e)) (hv : Value.okWide P w r b0 t v) (h : DataW.Trod enc P w base spare held t v d ps) : ∃ n, DataW.trod enc P w base spare held n t [v] = some (d, ps) := by
  obtain ⟨n, hn⟩ := h
  refine ⟨n, ?_⟩
  have h1 : v.cells.toList = [v] := by
    obtain ⟨a, len, cap, rfl⟩ := okWide_slice ht hv
    rfl
  rwa [h1] at hn
theorem open_rs {α : Type} {t e : TypeId} {sz : Nat} (f : α → List Value) (ok : α → Prop) (ht : P.underlying t = some (.slice e)) (hC : P.cellsOf e = sz) (hsz : 0 < sz) (dec : ∀ n cs x, DataW.trod enc P w base spare held n e cs = some x → ∃ y, cs = f y ∧ ok y)
    {r : Reach} {b0 : Nat} {v : Value} {d : DataW H} {ps : List MemPlace} (hv : Value.okWide P w r b0 t v) (h : DataW.Trod enc P w base spare held t v d ps) :
    ∃ (A : Option Addr) (c : Nat) (l : List α), v = .slice A l.length c ∧ l.length ≤ 9223372036854775807 ∧ RS w sz f A l ∧ ∀ y ∈ l, ok y := by
  obtain ⟨n, hn⟩ := trod_slice_cell ht hv h
  obtain ⟨A, c, l, h1, h2⟩ := rs_of_trod f ok ht hC hsz dec hn
  simp only [List.cons.injEq, and_true] at h1
  exact ⟨A, c, l, h1, h2⟩
theorem dec_int {e : TypeId} {k : IntKind} (he : P.underlying e = some (.int k)) (n : Nat) (cs : List Value) (x : DataW H × List MemPlace) (h : DataW.trod enc P w base spare held n e cs = some x) : ∃ y : Int, cs = [.int k y] ∧ (k.min ≤ y ∧ y ≤ k.max) := by
  obtain ⟨m, hv, _, hw⟩ := DataW.trod_int he h
  exact ⟨m, hv, int_wf hw⟩
theorem open_i {r : Reach} {b0 : Nat} {t : TypeId} {k : IntKind} {v : Value} {d : DataW H} {ps : List MemPlace} (ht : P.underlying t = some (.int k)) (hv : Value.okWide P w r b0 t v) (h : DataW.Trod enc P w base spare held t v d ps) : ∃ n : Int, v = .int k n ∧ k.min ≤ n ∧ n ≤ k.max := by
  obtain ⟨x, rfl, _, _, hw⟩ := open_int ht hv h
  exact ⟨x, rfl, int_wf hw⟩
end
end Eng
end Go.Proofs.Ytmcmmmaffdenjaa
