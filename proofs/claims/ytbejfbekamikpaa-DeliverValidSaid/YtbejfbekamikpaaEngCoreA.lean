/-
  The engine: rules of symbolic execution over the model's code, in one text (or two).
-/
import Derived.WalkKit
import Derived.Deep.Quiet
import Derived.RangeFuncLeaves
import Derived.TacticsIn
import Derived.Great.BuildSlice
import Derived.Maps.AppendAt
import Derived.RangeFuncRecord
import Derived.OrdersIn
import Derived.Laws.MakeOwn
import Derived.Laws.OwnMore
import Derived.ProofKit
import Derived.OpenShut
import Derived.Deep.Slices
import Derived.Deep.Fields
import Derived.Carry
import Derived.ChangeSame
import Derived.SizedLaws
import Derived.Laws.Small
import Derived.Laws.Strings2
import Derived.Laws.Slices
import Derived.Laws.IdiomStrings
import Derived.Laws.StructEq
/-
  The engine: rules of symbolic execution over the model's Code.wp and wpList. The frame is an association list, the memory
  of the call's own is a list of assertions; no world stands in the goals. It speaks of whatever program.
-/
namespace Go.Proofs.Ytbejfbekamikpaa
namespace Eng
open Go.RowKit
set_option linter.unusedVariables false

theorem beq_ne {a b : Nat} (h : a ≠ b) : Nat.beq a b = false := by
  cases hb : Nat.beq a b
  · rfl
  · exact absurd (Nat.eq_of_beq_eq_true hb) h
theorem exists_min (p : Nat → Prop) (h : ∃ k, p k) : ∃ k, p k ∧ ∀ j, p j → k ≤ j := by
  obtain ⟨k, hk⟩ := h
  induction k using Nat.strongRecOn with
  | _ k ih =>
    by_cases hex : ∃ j, j < k ∧ p j
    · obtain ⟨j, hj, hp⟩ := hex
      exact ih j hj hp
    · exact ⟨k, hk, fun j hp => Nat.le_of_not_lt fun hlt => hex ⟨j, hlt, hp⟩⟩

/-! ### Frames -/
abbrev Fr := List (Nat × Value)
def Fr.get : Fr → Nat → Option Value
  | [], _ => none
  | (k, v) :: F, i => bif Nat.beq k i then some v else Fr.get F i
def ev (F : Fr) : Operand → Option Value
  | .tmp t => F.get t
  | .const v => some v
  | .global g => some (.pointer (some ⟨g, 0, none⟩))
  | .func f => some (.func (.func f) #[] #[])
structure Fits (n : Nat) (ds : List Deferred) (F : Fr) (a : Act) : Prop where
  dfr : a.defers = ds
  size : a.tmps.size = n
  get : ∀ i v, F.get i = some v → a.tmps[i]? = some v
theorem Fits.ev {n : Nat} {ds : List Deferred} {F : Fr} {a : Act} (h : Fits n ds F a) {x : Operand} {v : Value} (hx : Eng.ev F x = some v) : a.eval x = v := by
  cases x with
  | tmp t =>
    have := h.get t v hx
    simp [Act.eval, this]
  | const u => simpa [Eng.ev, Act.eval] using hx
  | global g => simpa [Eng.ev, Act.eval] using hx
  | func f => simpa [Eng.ev, Act.eval] using hx
theorem Fr.get_cons (k : Nat) (v : Value) (F : Fr) (i : Nat) : Fr.get ((k, v) :: F) i = if k = i then some v else Fr.get F i := by
  simp only [Fr.get]
  by_cases h : k = i
  · subst h; simp
  · simp [beq_ne h, h]
theorem Fits.put {n : Nat} {ds : List Deferred} {F : Fr} {a : Act} (h : Fits n ds F a) {d : Nat} (v : Value) (hd : Nat.blt d n = true) : Fits n ds ((d, v) :: F) (a.put (some d) v) := by
  have hd' : d < a.tmps.size := by rw [h.size]; simpa [Nat.blt_eq] using hd
  refine ⟨h.dfr, by simp [Act.put, h.size], fun i u hu => ?_⟩
  rw [Fr.get_cons] at hu
  by_cases e : d = i
  · subst e
    simp only [if_true, Option.some.injEq] at hu
    subst hu
    simp [Act.put, hd']
  · rw [if_neg e] at hu
    have := h.get i u hu
    simp only [Act.put, Array.getElem?_setIfInBounds]
    rw [if_neg e]
    exact this
theorem Fits.put_none {n : Nat} {ds : List Deferred} {F : Fr} {a : Act} (h : Fits n ds F a) (v : Value) : Fits n ds F (a.put none v) := h
def FSub (F' F : Fr) : Prop := ∀ i v, F'.get i = some v → F.get i = some v
theorem FSub.nil {F : Fr} : FSub [] F := fun i v h => by cases h
theorem FSub.cons {F' F : Fr} {k : Nat} {v : Value} (h : F.get k = some v) (h' : FSub F' F) : FSub ((k, v) :: F') F := by
  intro i u hu
  rw [Fr.get_cons] at hu
  by_cases e : k = i
  · subst e; simp only [if_true, Option.some.injEq] at hu; subst hu; exact h
  · rw [if_neg e] at hu; exact h' i u hu
theorem FSub.conse {F' F : Fr} {k : Nat} {v u : Value} (h : F.get k = some u) (e : u = v) (h' : FSub F' F) : FSub ((k, v) :: F') F := FSub.cons (e ▸ h) h'
theorem Fits.sub {n : Nat} {ds : List Deferred} {F F' : Fr} {a : Act} (h : Fits n ds F a) (hs : FSub F' F) : Fits n ds F' a := ⟨h.dfr, h.size, fun i v hv => h.get i v (hs i v hv)⟩

/-! ### The memory of the call's own -/
def nth : List Value → Nat → Option Value
  | [], _ => none
  | x :: _, 0 => some x
  | _ :: l, n + 1 => nth l n
theorem nth_eq (l : List Value) (n : Nat) : nth l n = l[n]? := by
  induction l generalizing n with
  | nil => simp [nth]
  | cons x l ih => cases n <;> simp [nth, ih]
/-- What is the same in two worlds, below a bound and but for the blocks that may be written. -/
structure Near (B : Nat) (hot : Nat → Prop) (w w' : World) : Prop where
  os : w'.os = w.os
  tape : w'.tape = w.tape
  output : w'.output = w.output
  size : w.heap.size ≤ w'.heap.size
  block : ∀ k, k < B → ¬ hot k → w'.heap[k]? = w.heap[k]?
def Cold : Nat → Prop := fun _ => False
theorem Near.refl (B : Nat) (hot : Nat → Prop) (w : World) : Near B hot w w := ⟨rfl, rfl, rfl, Nat.le_refl _, fun _ _ _ => rfl⟩
theorem Near.trans {B : Nat} {hot : Nat → Prop} {a b c : World} (h : Near B hot a b) (k : Near B hot b c) : Near B hot a c :=
  ⟨k.os.trans h.os, k.tape.trans h.tape, k.output.trans h.output, Nat.le_trans h.size k.size, fun i hi hn => (k.block i hi hn).trans (h.block i hi hn)⟩
theorem Near.mono {B B' : Nat} {hot hot' : Nat → Prop} {a b : World} (h : Near B hot a b) (hB : B' ≤ B) (hh : ∀ k, k < B' → hot k → hot' k) : Near B' hot' a b :=
  ⟨h.os, h.tape, h.output, h.size, fun k hk hn => h.block k (Nat.lt_of_lt_of_le hk hB) (fun hh' => hn (hh k hk hh'))⟩
theorem Near.below {B : Nat} {a b : World} (h : Near B Cold a b) : Below B a b := ⟨h.os, h.tape, h.output, h.size, fun k hk => h.block k hk (fun h => h)⟩
theorem near_of_below {B : Nat} {hot : Nat → Prop} {a b : World} (h : Below B a b) : Near B hot a b := ⟨h.os, h.tape, h.output, h.size, fun k hk _ => h.block k hk⟩
theorem Near.cell {B : Nat} {hot : Nat → Prop} {w w' : World} (h : Near B hot w w') {p : Addr} (hp : p.block < B) (hn : ¬ hot p.block) : w'.cell? p = w.cell? p := World.cell?_of_block (w := w) (h.block p.block hp hn)
inductive HA where
  | cells (b : Nat) (t : TypeId) (cs : List Value)
  | own (v : Value) (e : TypeId) (sz n : Nat) (xs : List Value)
  | abs (S : Nat → Prop) (p : World → Prop)
  | pure (p : Prop)
def HA.foot : HA → Nat → Prop
  | .cells b _ _, k => k = b
  | .own v _ _ _ _, k => v.ownBlock = some k
  | .abs S _, k => S k
  | .pure _, _ => False
def HA.holds (B : Nat) (hot : Nat → Prop) (w : World) : HA → Prop
  | .cells b t cs => (B ≤ b ∨ hot b) ∧ w.heap[b]? = some (.cells cs.toArray t (0, 0))
  | .own v e sz n xs => (∀ b, v.ownBlock = some b → B ≤ b ∨ hot b) ∧ w.ownsRow 0 e sz v n xs
  | .abs S p => (∀ b, S b → (B ≤ b ∨ hot b) ∧ b < w.heap.size) ∧ p w ∧ ∀ w', Near B hot w w' → (∀ b, S b → w'.heap[b]? = w.heap[b]?) → p w'
  | .pure p => p
def HA.apart (x y : HA) : Prop := ∀ b, x.foot b → ¬ y.foot b
structure St (w0 : World) (hot : Nat → Prop) (L : List HA) (w : World) : Prop where
  near : Near w0.heap.size hot w0 w
  holds : ∀ x ∈ L, x.holds w0.heap.size hot w
  sep : L.Pairwise HA.apart
theorem St.below {w0 : World} {L : List HA} {w : World} (h : St w0 Cold L w) : Below w0.heap.size w0 w := h.near.below
theorem HA.apart.symm {x y : HA} (h : x.apart y) : y.apart x := fun b hy hx => h b hx hy
theorem HA.holds.lt {B : Nat} {hot : Nat → Prop} {w : World} {x : HA} (h : x.holds B hot w) {b : Nat} (hb : x.foot b) : (B ≤ b ∨ hot b) ∧ b < w.heap.size := by
  cases x with
  | cells b' t cs =>
    simp only [HA.foot] at hb
    subst hb
    exact ⟨h.1, (Array.getElem?_eq_some_iff.1 h.2).1⟩
  | own v e sz n xs =>
    refine ⟨h.1 b hb, ?_⟩
    simp only [HA.foot] at hb
    rcases h.2.2 with ⟨rfl, _⟩ | ⟨g, cap, cur, rfl, hg, hh, _⟩
    · simp [Value.ownBlock] at hb
    · simp only [Value.ownBlock, Option.some.injEq] at hb
      subst hb
      exact (Array.getElem?_eq_some_iff.1 hh).1
  | abs S p => exact h.1 b hb
  | pure p => exact hb.elim
/-- An assertion stays while its blocks stay. -/
theorem HA.holds.keep {B : Nat} {hot : Nat → Prop} {w w' : World} {x : HA} (h : x.holds B hot w) (hk : ∀ b, x.foot b → w'.heap[b]? = w.heap[b]?) (hn : Near B hot w w') : x.holds B hot w' := by
  cases x with
  | cells b t cs => exact ⟨h.1, (hk b rfl).trans h.2⟩
  | own v e sz n xs =>
    refine ⟨h.1, h.2.1, ?_⟩
    rcases h.2.2 with ⟨rfl, h0⟩ | ⟨g, cap, cur, rfl, hg, hh, rest⟩
    · exact .inl ⟨rfl, h0⟩
    · exact .inr ⟨g, cap, cur, rfl, hg, (hk g rfl).trans hh, rest⟩
  | abs S p =>
    refine ⟨fun b hb => ⟨(h.1 b hb).1, Nat.lt_of_lt_of_le (h.1 b hb).2 hn.size⟩, h.2.2 w' hn hk, fun w'' hn' hk' => h.2.2 w'' (hn.trans hn') (fun b hb => (hk' b hb).trans (hk b hb))⟩
  | pure p => exact h
theorem St.start (w0 : World) (hot : Nat → Prop) : St w0 hot [] w0 := ⟨Near.refl _ _ _, fun x hx => (by cases hx), List.Pairwise.nil⟩
section
variable {w0 w w' : World} {hot : Nat → Prop} {L L' : List HA} {x y : HA}
/-- A step that writes nothing of what stands in L: blocks from w0 that are not hot stay since whatever is written was new. -/
theorem St.later (h : St w0 hot L w) (hb : Below w.heap.size w w') : St w0 hot L w' :=
  ⟨h.near.trans (near_of_below (hb.mono h.near.size)), fun x hx => (h.holds x hx).keep (fun b hb' => hb.block b ((h.holds x hx).lt hb').2) (near_of_below (hb.mono h.near.size)), h.sep⟩
theorem St.cons (h : St w0 hot L w) (hx : x.holds w0.heap.size hot w) (hs : ∀ y ∈ L, x.apart y) : St w0 hot (x :: L) w :=
  ⟨h.near, fun y hy => (by rcases List.mem_cons.1 hy with rfl | hy; exact hx; exact h.holds y hy), List.Pairwise.cons hs h.sep⟩
theorem St.tail (h : St w0 hot (x :: L) w) : St w0 hot L w :=
  ⟨h.near, fun y hy => h.holds y (List.mem_cons_of_mem _ hy), (List.pairwise_cons.1 h.sep).2⟩
theorem St.head (h : St w0 hot (x :: L) w) : x.holds w0.heap.size hot w := h.holds x List.mem_cons_self
theorem St.head_apart (h : St w0 hot (x :: L) w) : ∀ y ∈ L, x.apart y := (List.pairwise_cons.1 h.sep).1
theorem St.perm (h : St w0 hot L w) (hp : L.Perm L') : St w0 hot L' w :=
  ⟨h.near, fun x hx => h.holds x (hp.mem_iff.2 hx), (hp.pairwise_iff (fun h => HA.apart.symm h)).1 h.sep⟩
/-- A new block. -/
theorem St.alloc (h : St w0 hot L w) (o : Obj) (hf : ∀ b, x.foot b → b = w.heap.size) (hx : x.holds w0.heap.size hot (w.alloc o)) : St w0 hot (x :: L) (w.alloc o) := by
  have h' := h.later ((Below.refl w.heap.size w).alloc (Nat.le_refl _) o)
  refine h'.cons hx fun y hy b hb hb' => ?_
  have e := hf b hb
  subst e
  have := ((h.holds y hy).lt hb').2
  omega
end
inductive InL : List HA → HA → Prop where
  | here {x : HA} {L : List HA} : InL (x :: L) x
  | there {x y : HA} {L : List HA} : InL L x → InL (y :: L) x
inductive Rem : List HA → HA → List HA → Prop where
  | here {x : HA} {L : List HA} : Rem (x :: L) x L
  | there {x y : HA} {L L' : List HA} : Rem L x L' → Rem (y :: L) x (y :: L')
inductive Upd : List HA → HA → HA → List HA → Prop where
  | here {x y : HA} {L : List HA} : Upd (x :: L) x y (y :: L)
  | there {x y z : HA} {L L' : List HA} : Upd L x y L' → Upd (z :: L) x y (z :: L')
theorem InL.mem {L : List HA} {x : HA} (h : InL L x) : x ∈ L := by
  induction h with
  | here => exact List.mem_cons_self
  | there _ ih => exact List.mem_cons_of_mem _ ih
theorem St.at {w0 w : World} {hot : Nat → Prop} {L : List HA} {x : HA} (h : St w0 hot L w) (hi : InL L x) : x.holds w0.heap.size hot w := h.holds x hi.mem
theorem Rem.perm {L L' : List HA} {x : HA} (h : Rem L x L') : L.Perm (x :: L') := by
  induction h with
  | here => exact List.Perm.refl _
  | there _ ih => exact (List.Perm.cons _ ih).trans (List.Perm.swap _ _ _)
theorem Upd.perm {L L' : List HA} {x y : HA} (h : Upd L x y L') : ∃ M, L.Perm (x :: M) ∧ L'.Perm (y :: M) := by
  induction h with
  | @here x y L => exact ⟨L, List.Perm.refl _, List.Perm.refl _⟩
  | @there x y z L L' _ ih =>
    obtain ⟨M, h1, h2⟩ := ih
    exact ⟨z :: M, (List.Perm.cons _ h1).trans (List.Perm.swap _ _ _), (List.Perm.cons _ h2).trans (List.Perm.swap _ _ _)⟩
/-- One assertion is replaced: its blocks have been written, or left for new ones; the others stay. -/
theorem St.upd {w0 w w' : World} {hot : Nat → Prop} {L L' : List HA} {x y : HA} (h : St w0 hot L w) (hu : Upd L x y L') (h0 : Below 0 w w')
    (hk : ∀ b, b < w.heap.size → ¬ x.foot b → w'.heap[b]? = w.heap[b]?) (hy : y.holds w0.heap.size hot w') (hf : ∀ b, y.foot b → x.foot b ∨ w.heap.size ≤ b) : St w0 hot L' w' := by
  obtain ⟨M, h1, h2⟩ := hu.perm
  have hs := h.perm h1
  have hn : Near w0.heap.size hot w w' := ⟨h0.os, h0.tape, h0.output, h0.size, fun k hk' hnot => hk k (Nat.lt_of_lt_of_le hk' h.near.size) (fun hx => by
    rcases (hs.head.lt hx).1 with h3 | h3
    · omega
    · exact hnot h3)⟩
  have ht : St w0 hot M w' := ⟨h.near.trans hn, fun z hz => (hs.tail.holds z hz).keep (fun b hb => hk b ((hs.tail.holds z hz).lt hb).2 (fun hx => hs.head_apart z hz b hx hb)) hn, hs.tail.sep⟩
  refine (ht.cons hy fun z hz b hyb hzb => ?_).perm h2.symm
  rcases hf b hyb with h3 | h3
  · exact hs.head_apart z hz b h3 hzb
  · have h4 := ((hs.tail.holds z hz).lt hzb).2
    omega
def LSub (L' L : List HA) : Prop := ∃ M, L.Perm (L' ++ M)
theorem LSub.refl {L : List HA} : LSub L L := ⟨[], by simp⟩
theorem LSub.nil {L : List HA} : LSub [] L := ⟨L, by simp⟩
theorem LSub.cons {L L' M : List HA} {x : HA} (h : Rem L x M) (h' : LSub L' M) : LSub (x :: L') L := by
  obtain ⟨N, hN⟩ := h'
  exact ⟨N, h.perm.trans (List.Perm.cons _ hN)⟩
theorem St.sub {w0 w : World} {hot : Nat → Prop} {L L' : List HA} (h : St w0 hot L w) (hs : LSub L' L) : St w0 hot L' w := by
  obtain ⟨M, hM⟩ := hs
  have h1 := h.perm hM
  exact ⟨h1.near, fun x hx => h1.holds x (List.mem_append_left _ hx), (List.pairwise_append.1 h1.sep).1⟩

/-! ### Types, as a table -/
inductive TK where
  | one
  | int (k : IntKind)
  | str
  | struct (offs szs : List Nat)
  | arr (len elem sz : Nat)
  | slice (elem sz bytes : Nat)
  | map (key elem : Nat)
def vcells : Value → List Value
  | .agg cs => cs.toList
  | v => [v]
structure TI where
  size : Nat
  zv : Value
  kind : TK
def TI.zero (ti : TI) : List Value := vcells ti.zv
def descOne : TypeDesc → Bool
  | .struct _ | .array _ _ => false
  | _ => true
def TK.check (P : Program) (t : TypeId) : TK → Bool
  | .one => match P.underlying t with
    | some d => descOne d
    | none => false
  | .int k => match P.underlying t with
    | some (.int k') => decide (k' = k)
    | _ => false
  | .str => match P.underlying t with
    | some .string => true
    | _ => false
  | .struct offs szs => match P.underlying t with
    | some (.struct fs) => decide (fs.toList.map (fun f => f.offset) = offs) && decide (fs.toList.map (fun f => (match P.info? f.type with | some i => i.size | none => 0)) = szs) && szs.all (fun s => decide (s ≠ 0))
    | _ => false
  | .arr len e sz => match P.underlying t with
    | some (.array n e') => decide (n = len ∧ e' = e) && (match P.info? e with | some i => decide (i.size = sz) | none => false)
    | _ => false
  | .slice e sz bytes => match P.underlying t with
    | some (.slice e') => decide (e' = e) && (match P.info? e with | some i => decide (i.size = sz ∧ i.bytes = bytes) | none => false)
    | _ => false
  | .map k e => match P.underlying t with
    | some (.map k' e') => decide (k' = k ∧ e' = e)
    | _ => false
structure TIok (P : Program) (t : TypeId) (ti : TI) : Prop where
  size : (P.info? t).map (·.size) = some ti.size
  zero : (P.info? t).bind (·.zero) = some ti.zv
  kind : ti.kind.check P t = true
def tget : List (Nat × TI) → Nat → Option TI
  | [], _ => none
  | (k, v) :: F, i => bif Nat.beq k i then some v else tget F i
def TabOk (P : Program) : List (Nat × TI) → Prop
  | [] => True
  | (t, ti) :: l => TIok P t ti ∧ TabOk P l
theorem TabOk.get {P : Program} {T : List (Nat × TI)} (h : TabOk P T) {t : Nat} {ti : TI} (ht : tget T t = some ti) : TIok P t ti := by
  induction T with
  | nil => cases ht
  | cons x T ih =>
    obtain ⟨k, v⟩ := x
    simp only [tget] at ht
    by_cases e : k = t
    · subst e
      simp only [Nat.beq_refl, cond_true, Option.some.injEq] at ht
      exact ht ▸ h.1
    · have hb : Nat.beq k t = false := beq_ne e
      rw [hb] at ht
      exact ih h.2 ht

/-! ### The judgements -/
def callable (P : Program) (f : Nat) : Bool :=
  match P.funcs[f]? with
  | some fn => !(fn.name == "runtime.NumGoroutine") && !fn.body.isNone
  | none => false
def Callables (P : Program) (l : Nat × Nat) : Prop := (List.range l.2).all (fun i => decide (i < l.1) || callable P i) = true
def has (l : Nat × Nat) (n : Nat) : Bool := bif Nat.ble l.1 n then Nat.blt n l.2 else false
theorem has_mem {l : Nat × Nat} {n : Nat} (h : has l n = true) : l.1 ≤ n ∧ n < l.2 := by
  unfold has at h
  cases h1 : Nat.ble l.1 n with
  | false => simp [h1] at h
  | true =>
    simp only [h1, cond_true] at h
    exact ⟨Nat.le_of_ble_eq_true h1, by simpa [Nat.blt_eq] using h⟩
structure Cx where
  P : Program
  tab : List (Nat × TI)
  ok : TabOk P tab
  fns : Nat × Nat
  fok : Callables P fns
  fn : Func
  R : Ending → World → Prop
  rs : List ResultVar
  hrs : fn.results = rs.toArray
  Qr : Exit → Act → World → Prop
  w0 : World
  n : Nat
  hot : Nat → Prop
  rd : Option Nat
  ds : List Deferred
def fc (rd : Option Nat) : Fence := { fn := fun _ => True, depth := none, alive := false, round := rd }
theorem fc_none : fc none = Fence.wide := rfl
theorem callsIn_fc {rd : Option Nat} {n : Nat} {P : Program} {f : FuncId} {args : Array Value} {w : World} {R : Ending → World → Prop} : CallsIn (fc rd) n P f args w R ↔ Calls P f args w R :=
  (callsIn_wide (n := n))
def Cx.Qf (C : Cx) : Exit → Act → World → Prop :=
  match C.rd with
  | none => bodyPostM (fc none) 0 C.P C.fn C.R
  | some _ => C.Qr
inductive KI where
  | seq (c : Code)
  | blk (id : Nat)
  | loop (J : Act → World → Prop)
  | fin (J : Act → World → Prop)
def kpost (C : Cx) : List KI → Exit → Act → World → Prop
  | [] => C.Qf
  | .seq c :: K => Exit.then (c.wpIn (fc C.rd) 0 C.P (kpost C K)) (kpost C K)
  | .blk id :: K => Exit.inBlock id (kpost C K)
  | .loop J :: K => Exit.then J (kpost C K)
  | .fin J :: _ => Exit.then J (fun _ _ _ => False)
def SC (C : Cx) (c : Code) (K : List KI) (F : Fr) (L : List HA) : Prop := ∀ a w, Fits C.n C.ds F a → St C.w0 C.hot L w → c.wpIn (fc C.rd) 0 C.P (kpost C K) a w
def SQ (C : Cx) (e : Exit) (K : List KI) (F : Fr) (L : List HA) : Prop := ∀ a w, Fits C.n C.ds F a → St C.w0 C.hot L w → kpost C K e a w
/-- A walk in the text's order of operations that leave memory alone, but for what calls make anew. -/
def QB (P : Program) (o : Oper) (a : Act) (S : World → Prop) (next : Act → Prop) : Prop := ∃ v, (∀ w, S w → o.quietAt P a (fun w'' => Below w.heap.size w w'') w v) ∧ next (a.put o.dst v)
def wpQB (P : Program) (ops : Array Oper) (S : World → Prop) (Q : Act → Prop) : List Oper → Act → Prop
  | [], a => Q a
  | o :: rest, a => if Region.wanted o (yielded ops a.tmps) then QB P o a S (wpQB P ops S Q rest) else wpQB P ops S Q rest (a.put o.dst undef)
theorem wpQB_quiet {P : Program} {ops : Array Oper} {S : World → Prop} (hS : ∀ w w', S w → Below w.heap.size w w' → S w') {Q : Act → Prop} : ∀ (l : List Oper) (a : Act), wpQB P ops S Q l a → wpQuiet P ops S Q l a
  | [], a, h => h
  | o :: rest, a, h => by
    unfold wpQB at h
    unfold wpQuiet
    split
    · rename_i hw
      rw [if_pos hw] at h
      obtain ⟨v, h1, h2⟩ := h
      refine ⟨v, fun w hw => ?_, wpQB_quiet hS rest _ h2⟩
      have h3 := h1 w hw
      unfold Oper.quietAt at h3 ⊢
      generalize (execOp a.eval o).run P w = r at h3 ⊢
      cases r with
      | ok x w' =>
        cases x <;> simp only [Oper.quietUpon] at h3 ⊢
        case value u => exact h3
        case skip => exact h3
        case enter f args => exact ⟨h3.1, h3.2.mono fun e w'' ⟨he, hb⟩ => ⟨he, hS w w'' hw hb⟩⟩
      | halt x w' => exact h3
    · rename_i hw
      rw [if_neg hw] at h
      exact wpQB_quiet hS rest _ h
def J (C : Cx) (ops : Array Oper) (m : Bool) (l : List Oper) (K : List KI) (F : Fr) (L : List HA) : Prop :=
  match m with
  | false => ∀ a w, Fits C.n C.ds F a → St C.w0 C.hot L w → wpListIn (fc C.rd) 0 C.P ops (kpost C K) l a w
  | true => ∀ a, Fits C.n C.ds F a → wpQB C.P ops (St C.w0 C.hot L) (fun a' => ∀ w', St C.w0 C.hot L w' → kpost C K .normal a' w') l a
/-- An operation that leaves memory alone, or a call that does: one value, in every world of the class. -/
def Qt (C : Cx) (o : Oper) (F : Fr) (L : List HA) (v : Value) : Prop := ∀ a w, Fits C.n C.ds F a → St C.w0 C.hot L w → o.quietAt C.P a (fun w'' => Below w.heap.size w w'') w v
theorem semAt_of_value {P : Program} {ro : Option Nat} {ρ : Operand → Value} {o : Oper} {w w' : World} {x : Next} (h : (execOp ρ o).run P w = .ok x w') (hx : ∀ d, x ≠ .defer d) : (o.semAt ro ρ).run P w = .ok x w' := by
  rw [Oper.semAt_eq ro ρ o]
  · exact h
  · intro c hc
    simp only [execOp, hc, Sem.run_bind] at h
    cases hr : (resolve ρ c o.type).run P w with
    | ok d w1 =>
      simp only [hr, Result.andThen_ok, Sem.run_pure, Result.ok.injEq] at h
      exact hx _ h.1.symm
    | halt z w1 => simp [hr] at h
theorem wpListIn_run {rd : Option Nat} {P : Program} {ops : Array Oper} {Q : Exit → Act → World → Prop} {o : Oper} {rest : List Oper} {a : Act} {w : World} (hw : Region.wanted o (yielded ops a.tmps) = true)
    (h : o.wpIn (fc rd) 0 P a w (wpListIn (fc rd) 0 P ops Q rest) Q) : wpListIn (fc rd) 0 P ops Q (o :: rest) a w := by
  unfold wpListIn
  rw [if_pos hw]
  exact h
theorem wpIn_value {rd : Option Nat} {P : Program} {o : Oper} {a : Act} {w w' : World} {v : Value} {next : Act → World → Prop} {Q : Exit → Act → World → Prop} (hr : (execOp a.eval o).run P w = .ok (.value v) w') (h : next (a.put o.dst v) w') : o.wpIn (fc rd) 0 P a w next Q :=
  ⟨fun _ _ => trivial, by rw [show (fc rd).round = rd from rfl, semAt_of_value hr (fun d e => by cases e), Oper.uponIn_value]; exact h⟩
theorem wpIn_skip_ {rd : Option Nat} {P : Program} {o : Oper} {a : Act} {w w' : World} {next : Act → World → Prop} {Q : Exit → Act → World → Prop} (hr : (execOp a.eval o).run P w = .ok .skip w') (h : next (a.put o.dst undef) w') : o.wpIn (fc rd) 0 P a w next Q :=
  ⟨fun _ _ => trivial, by rw [show (fc rd).round = rd from rfl, semAt_of_value hr (fun d e => by cases e), Oper.uponIn_skip]; exact h⟩
theorem wpIn_enter_ {rd : Option Nat} {P : Program} {o : Oper} {a : Act} {w w' : World} {f : FuncId} {args : Array Value} {next : Act → World → Prop} {Q : Exit → Act → World → Prop} (hr : (execOp a.eval o).run P w = .ok (.enter f args) w')
    (h : Calls P f args w' fun | .returned v, w'' => next (a.put o.dst v) w'' | .panicked chain, w'' => Q (.panic chain) a w'' | .outgrown, _ => LetsOut Q) : o.wpIn (fc rd) 0 P a w next Q :=
  ⟨fun _ _ => trivial, by rw [show (fc rd).round = rd from rfl, semAt_of_value hr (fun d e => by cases e), Oper.uponIn_enter]; exact ⟨fun h => by simp [fc] at h, callsIn_fc.2 h⟩⟩
section rules
variable {C : Cx} {K : List KI} {F : Fr} {L : List HA} {ops : Array Oper} {m : Bool} {o : Oper} {rest : List Oper}
theorem sc_seq {x y : Code} (h : SC C x (.seq y :: K) F L) : SC C (.seq x y) K F L := fun a w hf hs => wpIn_seq (h a w hf hs)
theorem sc_skip (h : SQ C .normal K F L) : SC C .skip K F L := fun a w hf hs => wpIn_skip (h a w hf hs)
theorem sc_exit {id : Nat} (h : SQ C (.exit id) K F L) : SC C (.exit id) K F L := fun a w hf hs => wpIn_exit (h a w hf hs)
theorem sc_ret (h : SQ C .ret K F L) : SC C .ret K F L := fun a w hf hs => wpIn_ret (h a w hf hs)
theorem sc_block {id : Nat} {c : Code} (h : SC C c (.blk id :: K) F L) : SC C (.block id c) K F L := fun a w hf hs => wpIn_block (h a w hf hs)
theorem sc_region {id : Nat} {l : List Oper} (h : J C l.toArray false l K F L) : SC C (.region id l.toArray false) K F L := fun a w hf hs => wpIn_region_lit (h a w hf hs)
theorem sc_draw {id : Nat} {l : List Oper} (hrd : C.rd = none) (hm : C.P.follows .mixedOrders = true) (hB : Region.lexB .any l.toArray = true) (h : J C l.toArray true l K F L) : SC C (.region id l.toArray true) K F L :=
  fun a w hf hs => by
    rw [hrd, fc_none]
    rw [wpIn_wide]
    exact wp_region_quiet (C := St C.w0 C.hot L) hm hB (hs.later (Below.refl _ _).drew) (by have := wpQB_quiet (fun _ _ h h' => St.later h h') _ _ (h a hf); simpa using this)
theorem sc_cond {c : Operand} {x y : Code} {t : Bool} (hc : ev F c = some (.bool t)) (ht : t = true → SC C x K F L) (hf : t = false → SC C y K F L) : SC C (.cond c x y) K F L :=
  fun a w hF hs => wpIn_cond_split (hF.ev hc) (fun h => ht h a w hF hs) (fun h => hf h a w hF hs)
theorem sc_loop {ι : Type} {body : Code} (I : ι → Prop) (μ : ι → Nat) (FI : ι → Fr) (LI : ι → List HA) (i0 : ι) (h0 : I i0) (hF : FSub (FI i0) F) (hL : LSub (LI i0) L)
    (round : ∀ i, I i → SC C body (.loop (fun a w => ∃ j, I j ∧ μ j < μ i ∧ Fits C.n C.ds (FI j) a ∧ St C.w0 C.hot (LI j) w) :: K) (FI i) (LI i)) : SC C (.loop body) K F L := by
  classical
  intro a w hf hs
  refine wpIn_loop (fun a w => ∃ i, I i ∧ Fits C.n C.ds (FI i) a ∧ St C.w0 C.hot (LI i) w)
    (fun a w => if h : ∃ k, ∃ i, μ i = k ∧ I i ∧ Fits C.n C.ds (FI i) a ∧ St C.w0 C.hot (LI i) w then (exists_min _ h).choose else 0) ⟨i0, h0, hf.sub hF, hs.sub hL⟩ ?_
  intro a w hI
  have hex : ∃ k, ∃ i, μ i = k ∧ I i ∧ Fits C.n C.ds (FI i) a ∧ St C.w0 C.hot (LI i) w := by
    obtain ⟨i, hi, hfi, hsi⟩ := hI
    exact ⟨μ i, i, rfl, hi, hfi, hsi⟩
  obtain ⟨i, hmu, hi, hfi, hsi⟩ := (exists_min _ hex).choose_spec.1
  have hr := round i hi a w hfi hsi
  refine wpIn_mono hr fun e a' w' hq => ?_
  cases e with
  | normal =>
    obtain ⟨j, hj, hlt, hfj, hsj⟩ := hq
    refine ⟨⟨j, hj, hfj, hsj⟩, ?_⟩
    rw [dif_pos hex]
    have hex' : ∃ k, ∃ i, μ i = k ∧ I i ∧ Fits C.n C.ds (FI i) a' ∧ St C.w0 C.hot (LI i) w' := ⟨μ j, j, rfl, hj, hfj, hsj⟩
    rw [dif_pos hex']
    have := (exists_min _ hex').choose_spec.2 _ ⟨j, rfl, hj, hfj, hsj⟩
    omega
  | exit id => exact hq
  | goto l => exact hq
  | ret => exact hq
  | panic ch => exact hq
  | outgrown => exact hq
theorem sq_seq {y : Code} (h : SC C y K F L) : SQ C .normal (.seq y :: K) F L := fun a w hf hs => h a w hf hs
theorem sq_seq_ret {y : Code} (h : SQ C .ret K F L) : SQ C .ret (.seq y :: K) F L := fun a w hf hs => h a w hf hs
theorem sq_seq_exit {id : Nat} {y : Code} (h : SQ C (.exit id) K F L) : SQ C (.exit id) (.seq y :: K) F L := fun a w hf hs => h a w hf hs
theorem sq_blk {id : Nat} (h : SQ C .normal K F L) : SQ C .normal (.blk id :: K) F L := fun a w hf hs => h a w hf hs
theorem sq_blk_ret {id : Nat} (h : SQ C .ret K F L) : SQ C .ret (.blk id :: K) F L := fun a w hf hs => h a w hf hs
theorem sq_blk_hit {id : Nat} (h : SQ C .normal K F L) : SQ C (.exit id) (.blk id :: K) F L := fun a w hf hs => by
  show Exit.inBlock id (kpost C K) (.exit id) a w
  simp only [Exit.inBlock, if_true]
  exact h a w hf hs
theorem sq_blk_miss {id id' : Nat} (hne : Nat.beq id id' = false) (h : SQ C (.exit id) K F L) : SQ C (.exit id) (.blk id' :: K) F L := fun a w hf hs => by
  show Exit.inBlock id' (kpost C K) (.exit id) a w
  have : id ≠ id' := Nat.ne_of_beq_eq_false hne
  simp only [Exit.inBlock, if_neg this]
  exact h a w hf hs
theorem sq_loop_ret {I : Act → World → Prop} (h : SQ C .ret K F L) : SQ C .ret (.loop I :: K) F L := fun a w hf hs => h a w hf hs
theorem sq_loop_exit {id : Nat} {I : Act → World → Prop} (h : SQ C (.exit id) K F L) : SQ C (.exit id) (.loop I :: K) F L := fun a w hf hs => h a w hf hs
theorem sq_loop {ι : Type} {I : ι → Prop} {μ : ι → Nat} {M : Nat} {FI : ι → Fr} {LI : ι → List HA} (j : ι) (hj : I j) (hlt : μ j < M) (hF : FSub (FI j) F) (hL : LSub (LI j) L) :
    SQ C .normal (.loop (fun a w => ∃ j, I j ∧ μ j < M ∧ Fits C.n C.ds (FI j) a ∧ St C.w0 C.hot (LI j) w) :: K) F L :=
  fun a w hf hs => ⟨j, hj, hlt, hf.sub hF, hs.sub hL⟩
theorem j_nil (h : SQ C .normal K F L) : J C ops m [] K F L := by
  cases m
  · exact fun a w hf hs => (h a w hf hs : kpost C K .normal a w)
  · exact fun a hf w' hs => h a w' hf hs
theorem Qt.wp {v : Value} (hq : Qt C o F L v) {a : Act} {w : World} (hf : Fits C.n C.ds F a) (hs : St C.w0 C.hot L w) {Kc : Act → World → Prop} {Q : Exit → Act → World → Prop}
    (h : ∀ w', St C.w0 C.hot L w' → Kc (a.put o.dst v) w') : o.wpIn (fc C.rd) 0 C.P a w Kc Q := by
  have h1 := hq a w hf hs
  unfold Oper.quietAt at h1
  generalize hr : (execOp a.eval o).run C.P w = r at h1
  cases r with
  | ok x w' =>
    cases x <;> simp only [Oper.quietUpon] at h1
    case value u =>
      obtain ⟨rfl, rfl⟩ := h1
      exact wpIn_value hr (h _ hs)
    case skip =>
      obtain ⟨rfl, rfl⟩ := h1
      exact wpIn_skip_ hr (h _ hs)
    case enter f args =>
      obtain ⟨rfl, hc⟩ := h1
      refine wpIn_enter_ hr (hc.mono fun e w'' ⟨he, hs'⟩ => ?_)
      subst he
      exact h _ (hs.later hs')
  | halt x w' => simp only [Oper.quietUpon] at h1
theorem j_any (hw : ∀ a, Fits C.n C.ds F a → Region.wanted o (yielded ops a.tmps) = true) {v : Value} (hq : Qt C o F L v) {F' : Fr} (hF : ∀ a, Fits C.n C.ds F a → Fits C.n C.ds F' (a.put o.dst v))
    (h : J C ops m rest K F' L) : J C ops m (o :: rest) K F L := by
  cases m
  · intro a w hf hs
    exact wpListIn_run (hw a hf) (hq.wp hf hs fun w' hs' => h _ w' (hF a hf) hs')
  · intro a hf
    unfold wpQB
    rw [if_pos (hw a hf)]
    exact ⟨v, fun w hs => hq a w hf hs, h _ (hF a hf)⟩
/-- A quiet operation, without a guard. -/
theorem j_q {d : Nat} {v : Value} (hg : o.guard = none) (hd : o.dst = some d) (hn : Nat.blt d C.n = true) (hq : Qt C o F L v) (h : J C ops m rest K ((d, v) :: F) L) : J C ops m (o :: rest) K F L :=
  j_any (fun a _ => by simp [Region.wanted, hg]) hq (fun a hf => hd ▸ hf.put v hn) h
/-- A guard: the operation runs, or is passed over. -/
theorem j_guard {i gd d : Nat} {b c : Bool} (hg : o.guard = some (i, b)) (hd : o.dst = some d) (hn : Nat.blt d C.n = true) (hi : (ops[i]?).bind (·.dst) = some gd) (hF : F.get gd = some (.bool c))
    (ht : c = b → J C ops m ({ o with guard := none } :: rest) K ((gd, .bool b) :: F) L) (hf : c = !b → J C ops m rest K ((d, undef) :: (gd, .bool !b) :: F) L) : J C ops m (o :: rest) K F L := by
  have hy : ∀ a, Fits C.n C.ds F a → yielded ops a.tmps i = some c := fun a hfa => by
    unfold yielded
    rw [hi]
    simp [hfa.get gd _ hF]
  have hfit : ∀ (u : Bool) (a : Act), u = c → Fits C.n C.ds F a → Fits C.n C.ds ((gd, .bool u) :: F) a := fun u a hu hfa => hfa.sub (FSub.cons (hu ▸ hF) fun _ _ h => h)
  by_cases hcb : c = b
  · have hJ := ht hcb
    cases m
    · intro a w hfa hs
      have h1 := hJ a w (hfit b a hcb.symm hfa) hs
      unfold wpListIn at h1 ⊢
      rw [if_pos (by simp [Region.wanted])] at h1
      rw [if_pos (by simp [Region.wanted, hg, hy a hfa, hcb])]
      exact h1
    · intro a hfa
      have h1 := hJ a (hfit b a hcb.symm hfa)
      unfold wpQB at h1 ⊢
      rw [if_pos (by simp [Region.wanted])] at h1
      rw [if_pos (by simp [Region.wanted, hg, hy a hfa, hcb])]
      exact h1
  · have hcb' : c = !b := by cases c <;> cases b <;> simp_all
    have hJ := hf hcb'
    have hnw : ∀ a, Fits C.n C.ds F a → Region.wanted o (yielded ops a.tmps) = false := fun a hfa => by
      simp only [Region.wanted, hg, hy a hfa]
      simpa using hcb
    cases m
    · intro a w hfa hs
      unfold wpListIn
      rw [if_neg (by simp [hnw a hfa]), hd]
      refine ⟨fun _ _ => trivial, ?_⟩
      exact hJ _ w ((hfit (!b) a hcb'.symm hfa).put undef hn) hs
    · intro a hfa
      unfold wpQB
      rw [if_neg (by simp [hnw a hfa]), hd]
      exact hJ _ ((hfit (!b) a hcb'.symm hfa).put undef hn)
end rules
end Eng
end Go.Proofs.Ytbejfbekamikpaa

/-
  The engine's rules for single operations: what an operation yields, said of the frame and of the call's own memory.
-/
namespace Go.Proofs.Ytbejfbekamikpaa
namespace Eng
open Go.RowKit
set_option linter.unusedVariables false
section
variable {C : Cx} {F : Fr} {L : List HA} {o : Oper}
/-- The same, and no call: a value, memory left alone. -/
def Qv (C : Cx) (o : Oper) (F : Fr) (L : List HA) (v : Value) : Prop := ∀ a w, Fits C.n C.ds F a → St C.w0 C.hot L w → (execOp a.eval o).run C.P w = .ok (.value v) w
theorem Qv.qt {v : Value} (h : Qv C o F L v) : Qt C o F L v := by
  intro a w hf hs
  unfold Oper.quietAt
  rw [h a w hf hs]
  exact ⟨rfl, rfl⟩
theorem Qv.of_run {v : Value} (h : ∀ a w, Fits C.n C.ds F a → St C.w0 C.hot L w → (execOp a.eval o).run C.P w = .ok (.value v) w) : Qv C o F L v := h
theorem j_qe {K : List KI} {ops : Array Oper} {m : Bool} {rest : List Oper} {d : Nat} (hg : o.guard = none) (hd : o.dst = some d) (hn : Nat.blt d C.n = true) (h : ∃ v, Qv C o F L v ∧ J C ops m rest K ((d, v) :: F) L) : J C ops m (o :: rest) K F L :=
  let ⟨_, hq, hj⟩ := h
  j_q hg hd hn hq.qt hj
def evs (F : Fr) : List Operand → Option (List Value)
  | [] => some []
  | x :: l => match ev F x with
    | some v => match evs F l with
      | some vs => some (v :: vs)
      | none => none
    | none => none
theorem Fits.evs {n : Nat} {ds : List Deferred} {a : Act} (h : Fits n ds F a) {l : List Operand} {vs : List Value} (hl : Eng.evs F l = some vs) : l.map a.eval = vs := by
  induction l generalizing vs with
  | nil => simpa [Eng.evs] using hl
  | cons x l ih =>
    simp only [Eng.evs] at hl
    cases hx : Eng.ev F x with
    | none => simp [hx] at hl
    | some v =>
      cases hr : Eng.evs F l with
      | none => simp [hx, hr] at hl
      | some us =>
        simp only [hx, hr, Option.some.injEq] at hl
        subst hl
        simp [h.ev hx, ih hr]
/-! plain moves -/
theorem q_move {x : Operand} {v : Value} (ho : o.op = .move x) (hx : ev F x = some v) : Qv C o F L v :=
  .of_run fun a w hf hs => by simp [execOp, ho, hf.ev hx]
theorem q_assign {x : Operand} {v : Value} (ho : o.op = .assign x) (hx : ev F x = some v) : Qv C o F L v :=
  .of_run fun a w hf hs => by simp [execOp, ho, hf.ev hx]
theorem q_pick_t {c x y : Operand} {v : Value} (ho : o.op = .pick c x y) (hc : ev F c = some (.bool true)) (hx : ev F x = some v) : Qv C o F L v :=
  .of_run fun a w hf hs => by simp [execOp, ho, hf.ev hc, hf.ev hx, asBool]
theorem q_pick_f {c x y : Operand} {v : Value} (ho : o.op = .pick c x y) (hc : ev F c = some (.bool false)) (hx : ev F y = some v) : Qv C o F L v :=
  .of_run fun a w hf hs => by simp [execOp, ho, hf.ev hc, hf.ev hx, asBool]
theorem q_extract {x : Operand} {i : Nat} {vs : List Value} {v : Value} (ho : o.op = .extract x i) (hx : ev F x = some (.tuple vs.toArray)) (hv : nth vs i = some v) : Qv C o F L v :=
  .of_run fun a w hf hs => by
    rw [nth_eq] at hv
    simp [execOp, ho, hf.ev hx, Instr.extract, hv]
theorem q_makeFunc {fn : Fn} {caps : List Operand} {vs : List Value} (ho : o.op = .makeFunc fn #[] caps.toArray) (hx : evs F caps = some vs) : Qv C o F L (.func fn #[] vs.toArray) :=
  .of_run fun a w hf hs => by
    have h1 : (caps.toArray.map a.eval) = vs.toArray := by rw [List.map_toArray, hf.evs hx]
    simp only [execOp, ho, Instr.makeFunc, h1]
    simp
/-! integers -/
theorem i64_wrap {x : Int} (h1 : -9223372036854775808 ≤ x) (h2 : x ≤ 9223372036854775807) : IntKind.i64.wrap x = x := IntWalk.i64_in _ ⟨h1, h2⟩
theorem run_bin (P : Program) (w : World) (op : BinOp) (t u : TypeId) (x y : Operand) (k : IntKind) (a b : Int) (r : Value) (hr : (binOp op t (.int k a) (.int k b)).run P w = .ok r w) :
    (do eqGuard op t x y (.int k a) (.int k b); binOp op t (.int k a) (.int k b) : Sem Value).run P w = .ok r w := by
  simp only [eqGuard]
  split <;> simp [hr]
section
variable {x y : Operand} {t u : TypeId} {k : IntKind} {a b : Int}
theorem q_bin {op : BinOp} {r : Value} (ho : o.op = .binOp op t x y u) (hx : ev F x = some (.int k a)) (hy : ev F y = some (.int k b)) (hr : ∀ w, (binOp op t (.int k a) (.int k b)).run C.P w = .ok r w) : Qv C o F L r :=
  .of_run fun ac w hf hs => by
    have h1 := run_bin C.P w op t u x y k a b r (hr w)
    simp only [execOp, ho, hf.ev hx, hf.ev hy]
    simp only [Sem.run_bind] at h1 ⊢
    rw [h1]
    simp
theorem q_addw (ho : o.op = .binOp .add t x y u) (hx : ev F x = some (.int k a)) (hy : ev F y = some (.int k b)) : Qv C o F L (.int k (k.wrap (a + b))) :=
  q_bin ho hx hy fun w => by simp [binOp, Op.intArith]
theorem q_subw (ho : o.op = .binOp .sub t x y u) (hx : ev F x = some (.int k a)) (hy : ev F y = some (.int k b)) : Qv C o F L (.int k (k.wrap (a - b))) :=
  q_bin ho hx hy fun w => by simp [binOp, Op.intArith]
theorem q_mulw (ho : o.op = .binOp .mul t x y u) (hx : ev F x = some (.int k a)) (hy : ev F y = some (.int k b)) : Qv C o F L (.int k (k.wrap (a * b))) :=
  q_bin ho hx hy fun w => by simp [binOp, Op.intArith]
theorem q_add (ho : o.op = .binOp .add t x y u) (hx : ev F x = some (.int .i64 a)) (hy : ev F y = some (.int .i64 b)) (hr : -9223372036854775808 ≤ a + b ∧ a + b ≤ 9223372036854775807) : Qv C o F L (.int .i64 (a + b)) := by
  have h := q_addw (C := C) (L := L) ho hx hy
  rwa [i64_wrap hr.1 hr.2] at h
theorem q_sub (ho : o.op = .binOp .sub t x y u) (hx : ev F x = some (.int .i64 a)) (hy : ev F y = some (.int .i64 b)) (hr : -9223372036854775808 ≤ a - b ∧ a - b ≤ 9223372036854775807) : Qv C o F L (.int .i64 (a - b)) := by
  have h := q_subw (C := C) (L := L) ho hx hy
  rwa [i64_wrap hr.1 hr.2] at h
theorem q_mul (ho : o.op = .binOp .mul t x y u) (hx : ev F x = some (.int .i64 a)) (hy : ev F y = some (.int .i64 b)) (hr : -9223372036854775808 ≤ a * b ∧ a * b ≤ 9223372036854775807) : Qv C o F L (.int .i64 (a * b)) := by
  have h := q_mulw (C := C) (L := L) ho hx hy
  rwa [i64_wrap hr.1 hr.2] at h
theorem u8_wrap {x : Int} (h1 : 0 ≤ x) (h2 : x ≤ 255) : IntKind.u8.wrap x = x := by
  simp [IntKind.wrap, IntKind.signed, IntKind.bits]; omega
theorem q_addu8 (ho : o.op = .binOp .add t x y u) (hx : ev F x = some (.int .u8 a)) (hy : ev F y = some (.int .u8 b)) (hr : 0 ≤ a + b ∧ a + b ≤ 255) : Qv C o F L (.int .u8 (a + b)) := by
  have h := q_addw (C := C) (L := L) ho hx hy
  rwa [u8_wrap hr.1 hr.2] at h
theorem q_rem (ho : o.op = .binOp .rem t x y u) (hx : ev F x = some (.int k a)) (hy : ev F y = some (.int k b)) (hr : 0 ≤ a ∧ 0 < b) : Qv C o F L (.int k (a % b)) :=
  q_bin ho hx hy fun w => by
    have h0 : b ≠ 0 := by omega
    simp [binOp, Op.intDiv, h0, Int.tmod_eq_emod_of_nonneg hr.1]
theorem q_quo (ho : o.op = .binOp .quo t x y u) (hx : ev F x = some (.int .i64 a)) (hy : ev F y = some (.int .i64 b)) (hr : 0 ≤ a ∧ a ≤ 9223372036854775807 ∧ 0 < b) : Qv C o F L (.int .i64 (a / b)) :=
  q_bin ho hx hy fun w => by
    have h0 : b ≠ 0 := by omega
    have h1 : a / b ≤ a := Int.ediv_le_self _ hr.1
    have h2 : 0 ≤ a / b := Int.ediv_nonneg hr.1 (by omega)
    simp [binOp, Op.intDiv, h0, Int.tdiv_eq_ediv_of_nonneg hr.1, i64_wrap (x := a / b) (by omega) (by omega)]
theorem q_quou8 (ho : o.op = .binOp .quo t x y u) (hx : ev F x = some (.int .u8 a)) (hy : ev F y = some (.int .u8 b)) (hr : 0 ≤ a ∧ a ≤ 255 ∧ 0 < b) : Qv C o F L (.int .u8 (a / b)) :=
  q_bin ho hx hy fun w => by
    have h0 : b ≠ 0 := by omega
    have h1 : a / b ≤ a := Int.ediv_le_self _ hr.1
    have h2 : 0 ≤ a / b := Int.ediv_nonneg hr.1 (by omega)
    simp [binOp, Op.intDiv, h0, Int.tdiv_eq_ediv_of_nonneg hr.1, u8_wrap (x := a / b) (by omega) (by omega)]
theorem q_quot (ho : o.op = .binOp .quo t x y u) (hx : ev F x = some (.int .i64 a)) (hy : ev F y = some (.int .i64 b)) (hr : -9223372036854775808 ≤ a ∧ a ≤ 9223372036854775807 ∧ 1 < b) : Qv C o F L (.int .i64 (a.tdiv b)) :=
  q_bin ho hx hy fun w => by
    have h0 : b ≠ 0 := by omega
    have h1 : -9223372036854775808 ≤ a.tdiv b ∧ a.tdiv b ≤ 9223372036854775807 := by
      rcases Int.le_total 0 a with ha | ha
      · rw [Int.tdiv_eq_ediv_of_nonneg ha]
        have h1 : a / b ≤ a := Int.ediv_le_self _ ha
        have h2 : 0 ≤ a / b := Int.ediv_nonneg ha (by omega)
        omega
      · have e : a = -(-a) := by omega
        rw [e, Int.neg_tdiv, Int.tdiv_eq_ediv_of_nonneg (by omega : 0 ≤ -a)]
        have h1 : -a / b ≤ -a := Int.ediv_le_self _ (by omega)
        have h2 : 0 ≤ -a / b := Int.ediv_nonneg (by omega) (by omega)
        omega
    simp [binOp, Op.intDiv, h0, i64_wrap (x := a.tdiv b) h1.1 h1.2]
theorem q_remt (ho : o.op = .binOp .rem t x y u) (hx : ev F x = some (.int k a)) (hy : ev F y = some (.int k b)) (hr : 0 < b) : Qv C o F L (.int k (a.tmod b)) :=
  q_bin ho hx hy fun w => by
    have h0 : b ≠ 0 := by omega
    simp [binOp, Op.intDiv, h0]
theorem q_lss (ho : o.op = .binOp .lss t x y u) (hx : ev F x = some (.int k a)) (hy : ev F y = some (.int k b)) : Qv C o F L (.bool (decide (a < b))) :=
  q_bin ho hx hy fun w => by simp [binOp, Op.intCmp]
theorem q_leq (ho : o.op = .binOp .leq t x y u) (hx : ev F x = some (.int k a)) (hy : ev F y = some (.int k b)) : Qv C o F L (.bool (decide (a ≤ b))) :=
  q_bin ho hx hy fun w => by simp [binOp, Op.intCmp]
theorem q_gtr (ho : o.op = .binOp .gtr t x y u) (hx : ev F x = some (.int k a)) (hy : ev F y = some (.int k b)) : Qv C o F L (.bool (decide (b < a))) :=
  q_bin ho hx hy fun w => by simp [binOp, Op.intCmp]
theorem q_geq (ho : o.op = .binOp .geq t x y u) (hx : ev F x = some (.int k a)) (hy : ev F y = some (.int k b)) : Qv C o F L (.bool (decide (b ≤ a))) :=
  q_bin ho hx hy fun w => by simp [binOp, Op.intCmp]
theorem q_eql (ho : o.op = .binOp .eql t x y u) (hx : ev F x = some (.int k a)) (hy : ev F y = some (.int k b)) : Qv C o F L (.bool (decide (a = b))) :=
  q_bin ho hx hy fun w => by
    simp only [binOp, ne_eq, not_true_eq_false, if_false, Op.intCmp, Sem.run_pure]
    congr 2
theorem q_neq (ho : o.op = .binOp .neq t x y u) (hx : ev F x = some (.int k a)) (hy : ev F y = some (.int k b)) : Qv C o F L (.bool (decide (a ≠ b))) :=
  q_bin ho hx hy fun w => by
    simp only [binOp, ne_eq, not_true_eq_false, if_false, Op.intCmp, Sem.run_pure]
    congr 2
    by_cases h : a = b <;> simp [h]
theorem q_not {c : Bool} (ho : o.op = .unOp .not t x) (hx : ev F x = some (.bool c)) : Qv C o F L (.bool (!c)) :=
  .of_run fun ac w hf hs => by simp [execOp, ho, hf.ev hx, Op.unary]
end
theorem tab_underlying {P : Program} {t : TypeId} {ti : TI} (h : TIok P t ti) {k : IntKind} (hk : ti.kind = .int k) : P.underlying t = some (.int k) := by
  have := h.kind
  rw [hk] at this
  simp only [TK.check] at this
  split at this
  · rename_i k' hu; rw [hu]; simp at this; rw [this]
  · cases this
theorem q_conv {src dst : TypeId} {x : Operand} {si di : TI} {k k' : IntKind} {a : Int} (ho : o.op = .convert src dst x) (hsrc : tget C.tab src = some si) (hdst : tget C.tab dst = some di) (hsk : si.kind = .int k') (hdk : di.kind = .int k)
    (hx : ev F x = some (.int k' a)) (hr : k.wrap a = a) : Qv C o F L (.int k a) :=
  .of_run fun ac w hf hs => by
    have h1 := tab_underlying (C.ok.get hsrc) hsk
    have h2 := tab_underlying (C.ok.get hdst) hdk
    simp [execOp, ho, hf.ev hx, convert, run_underlying h1, run_underlying h2, Conv.intToInt, hr]
theorem tk_slice {P : Program} {t : TypeId} {ti : TI} (h : TIok P t ti) {e sz by_ : Nat} (hk : ti.kind = .slice e sz by_) : P.underlying t = some (.slice e) ∧ ∃ i, P.info? e = some i ∧ i.size = sz ∧ i.bytes = by_ := by
  have := h.kind
  rw [hk] at this
  simp only [TK.check] at this
  split at this
  · rename_i e' hu
    simp only [Bool.and_eq_true, decide_eq_true_eq] at this
    obtain ⟨rfl, h2⟩ := this
    refine ⟨hu, ?_⟩
    split at h2
    · rename_i i hi; simp only [decide_eq_true_eq] at h2; exact ⟨i, hi, h2.1, h2.2⟩
    · cases h2
  · cases this
theorem tk_struct {P : Program} {t : TypeId} {ti : TI} (h : TIok P t ti) {offs szs : List Nat} (hk : ti.kind = .struct offs szs) :
    ∃ fs, P.underlying t = some (.struct fs) ∧ fs.toList.map (fun f => f.offset) = offs ∧ (∀ f ∈ fs.toList, ∃ i, P.info? f.type = some i ∧ i.size ≠ 0) ∧
      fs.toList.map (fun f => (match P.info? f.type with | some i => i.size | none => 0)) = szs := by
  have := h.kind
  rw [hk] at this
  simp only [TK.check] at this
  split at this
  · rename_i fs hu
    simp only [Bool.and_eq_true, decide_eq_true_eq] at this
    obtain ⟨⟨h1, h2⟩, h3⟩ := this
    refine ⟨fs, hu, h1, fun f hf => ?_, h2⟩
    have h4 : (match P.info? f.type with | some i => i.size | none => 0) ∈ szs := by rw [← h2]; exact List.mem_map_of_mem hf
    have h5 := List.all_eq_true.1 h3 _ h4
    simp only [decide_eq_true_eq] at h5
    cases hi : P.info? f.type with
    | none => simp [hi] at h5
    | some i => simp only [hi] at h5; exact ⟨i, rfl, h5⟩
  · cases this
theorem tk_arr {P : Program} {t : TypeId} {ti : TI} (h : TIok P t ti) {n e sz : Nat} (hk : ti.kind = .arr n e sz) : P.underlying t = some (.array n e) ∧ ∃ i, P.info? e = some i ∧ i.size = sz := by
  have := h.kind
  rw [hk] at this
  simp only [TK.check] at this
  split at this
  · rename_i n' e' hu
    simp only [Bool.and_eq_true, decide_eq_true_eq] at this
    obtain ⟨⟨rfl, rfl⟩, h2⟩ := this
    refine ⟨hu, ?_⟩
    split at h2
    · rename_i i hi; exact ⟨i, hi, by simpa using h2⟩
    · cases h2
  · cases this
def TK.agg : TK → Bool
  | .struct _ _ => true
  | .arr _ _ _ => true
  | _ => false
theorem tk_isAgg {P : Program} {t : TypeId} {ti : TI} (h : TIok P t ti) (w : World) : (isAgg t).run P w = .ok ti.kind.agg w := by
  have hk := h.kind
  cases e : ti.kind <;> rw [e] at hk <;> simp only [TK.check] at hk <;> (try split at hk) <;> (first | (cases hk; done) | skip) <;> rename_i hu <;> simp [isAgg, run_underlying hu, TK.agg]
  all_goals (rename_i d; cases d <;> simp_all [descOne])
/-! lengths -/
theorem q_len_slice {x : Operand} {t : TypeId} {ti : TI} {e sz by_ : Nat} {ad : Option Addr} {n c : Nat} (ho : o.op = .call { callee := .builtin .len, args := #[x], argTypes := #[t] }) (ht : tget C.tab t = some ti) (hk : ti.kind = .slice e sz by_)
    (hx : ev F x = some (.slice ad n c)) : Qv C o F L (.int .i64 (n : Int)) :=
  .of_run fun ac w hf hs => by
    have h1 := (tk_slice (C.ok.get ht) hk).1
    simp [execOp, ho, resolve, invoke, builtin, Builtin.len_, hf.ev hx, run_underlying h1, goInt]
end
end Eng
end Go.Proofs.Ytbejfbekamikpaa

/-
  The engine's rules for operations on memory, for calls, and for a function's beginning and end.
-/
namespace Go.Proofs.Ytbejfbekamikpaa
namespace Eng
open Go.RowKit
set_option linter.unusedVariables false
theorem add_own (b off j : Nat) : (⟨b, off, none⟩ : Addr).add j = ⟨b, off + j, none⟩ := by
  unfold Addr.add
  split
  · rename_i h; subst h; rfl
  · rfl
theorem block_add (a : Addr) (n : Nat) : (a.add n).block = a.block := by unfold Addr.add; split <;> rfl
theorem add_add (a : Addr) (i j : Nat) : (a.add i).add j = a.add (i + j) := by
  unfold Addr.add
  by_cases hi : i = 0 <;> by_cases hj : j = 0 <;> simp [hi, hj, Nat.add_assoc]
/-- What an argument's memory holds from an address on. -/
structure Ext (w0 : World) (ad : Addr) (cs : List Value) : Prop where
  lt : ad.block < w0.heap.size
  cell : ∀ j u, nth cs j = some u → w0.cell? (ad.add j) = some u
/-- What a slice reads as. -/
def RS {α : Type} (w : World) (sz : Nat) (f : α → List Value) (A : Option Addr) (l : List α) : Prop := ∀ k x, l[k]? = some x → ∃ ad, A = some ad ∧ Ext w (ad.add (k * sz)) (f x)
theorem RS.nil {α : Type} {w : World} {sz : Nat} {f : α → List Value} {A : Option Addr} : RS w sz f A [] := fun k x h => by simp at h
def sub : List Value → Nat → Nat → List Value
  | _, _, 0 => []
  | [], _, _ => []
  | c :: cs, 0, n + 1 => c :: sub cs 0 n
  | _ :: cs, o + 1, n + 1 => sub cs o (n + 1)
theorem sub_eq : ∀ (cs : List Value) (o n : Nat), sub cs o n = (cs.drop o).take n
  | cs, o, 0 => by cases cs <;> simp [sub]
  | [], o, n + 1 => by simp [sub]
  | c :: cs, 0, n + 1 => by simp [sub, sub_eq cs 0 n]
  | c :: cs, o + 1, n + 1 => by simp [sub, sub_eq cs o (n + 1)]
def over : List Value → List Value → List Value
  | cs, [] => cs
  | [], _ :: _ => []
  | _ :: cs, v :: vs => v :: over cs vs
def splice : List Value → Nat → List Value → List Value
  | cs, 0, vs => over cs vs
  | [], _ + 1, _ => []
  | c :: cs, n + 1, vs => c :: splice cs n vs
theorem over_eq : ∀ (cs vs : List Value), vs.length ≤ cs.length → over cs vs = vs ++ cs.drop vs.length
  | cs, [], _ => by simp [over]
  | [], v :: vs, h => by simp at h
  | c :: cs, v :: vs, h => by simp [over, over_eq cs vs (by simpa using h)]
theorem splice_eq : ∀ (cs : List Value) (n : Nat) (vs : List Value), n + vs.length ≤ cs.length → splice cs n vs = cs.take n ++ vs ++ cs.drop (n + vs.length)
  | cs, 0, vs, h => by simp [splice, over_eq cs vs (by omega)]
  | [], n + 1, vs, h => by simp at h
  | c :: cs, n + 1, vs, h => by
    have h' : n + vs.length ≤ cs.length := by simp at h; omega
    simp [splice, splice_eq cs n vs h', Nat.add_right_comm n 1]
def len : List Value → Nat
  | [] => 0
  | _ :: l => len l + 1
theorem len_eq (l : List Value) : len l = l.length := by induction l <;> simp [len, *]
def ones : List Value → Bool
  | [] => true
  | v :: l => bif v.oneCell' then ones l else false
theorem ones_all {l : List Value} (h : ones l = true) : ∀ v ∈ l, v.oneCell' = true := by
  induction l with
  | nil => intro v hv; cases hv
  | cons x l ih =>
    simp only [ones] at h
    cases hx : x.oneCell' with
    | false => simp [hx] at h
    | true =>
      simp only [hx, cond_true] at h
      intro v hv
      rcases List.mem_cons.1 hv with rfl | hv
      · exact hx
      · exact ih h v hv
section
variable {C : Cx} {F : Fr} {L : List HA} {o : Oper} {K : List KI} {ops : Array Oper} {m : Bool} {rest : List Oper}
/-! addresses -/
theorem run_fieldAt {P : Program} {t : TypeId} {ti : TI} (h : TIok P t ti) {offs szs : List Nat} (hk : ti.kind = .struct offs szs) {j off : Nat} (hj : offs[j]? = some off) (ad : Addr) (w : World) :
    (Instr.fieldAt t (.pointer (some ad)) j).run P w = .ok (.pointer (some (ad.add off))) w := by
  obtain ⟨fs, hu, ho, hi, _⟩ := tk_struct h hk
  rw [← ho] at hj
  simp only [List.getElem?_map, Array.getElem?_toList, Option.map_eq_some_iff] at hj
  obtain ⟨f, hf, hoff⟩ := hj
  obtain ⟨i, h3, h4⟩ := hi f (by simpa using Array.mem_of_getElem? hf)
  simp [Instr.fieldAt, run_underlying hu, hf, Instr.sureAddr, fieldPlace, sizeOf, typeInfo, h3, h4, hoff]
theorem q_field_own {t j : Nat} {x : Operand} {ti : TI} {offs szs : List Nat} {off b p : Nat} (ho : o.op = .fieldAddr t x j) (ht : tget C.tab t = some ti) (hk : ti.kind = .struct offs szs) (hj : offs[j]? = some off)
    (hx : ev F x = some (.pointer (some ⟨b, p, none⟩))) : Qv C o F L (.pointer (some ⟨b, p + off, none⟩)) :=
  .of_run fun a w hf hs => by
    have := run_fieldAt (C.ok.get ht) hk hj ⟨b, p, none⟩ w
    simp [execOp, ho, hf.ev hx, this, add_own]
theorem q_field_ext {t j : Nat} {x : Operand} {ti : TI} {offs szs : List Nat} {off : Nat} {ad : Addr} (ho : o.op = .fieldAddr t x j) (ht : tget C.tab t = some ti) (hk : ti.kind = .struct offs szs) (hj : offs[j]? = some off)
    (hx : ev F x = some (.pointer (some ad))) : Qv C o F L (.pointer (some (ad.add off))) :=
  .of_run fun a w hf hs => by
    have := run_fieldAt (C.ok.get ht) hk hj ad w
    simp [execOp, ho, hf.ev hx, this]
theorem q_nilCheck {x : Operand} {ad : Addr} (ho : o.op = .nilCheck x) (hx : ev F x = some (.pointer (some ad))) : Qv C o F L (.pointer (some ad)) :=
  .of_run fun a w hf hs => by simp [execOp, ho, hf.ev hx]
theorem run_indexAt_slice {P : Program} {t : TypeId} {ti : TI} (h : TIok P t ti) {e sz by_ : Nat} (hk : ti.kind = .slice e sz by_) (ad : Addr) (n c : Nat) (k : IntKind) (i : Int) (h0 : 0 ≤ i) (h1 : i < n) (w : World) :
    (Instr.indexAt t (.slice (some ad) n c) (.int k i)).run P w = .ok (.pointer (some (ad.add (i.toNat * sz)))) w := by
  obtain ⟨hu, ie, h3, h4, _⟩ := tk_slice h hk
  simp [Instr.indexAt, asIntOf, run_underlying hu, h0, h1, sizeOf, typeInfo, h3, h4]
theorem q_index_slice {t : Nat} {x y : Operand} {ti : TI} {e sz by_ n c : Nat} {ad : Addr} {k : IntKind} {i : Int} (ho : o.op = .indexAddr t x y) (ht : tget C.tab t = some ti) (hk : ti.kind = .slice e sz by_)
    (hx : ev F x = some (.slice (some ad) n c)) (hy : ev F y = some (.int k i)) (h : 0 ≤ i ∧ i < (n : Int)) : Qv C o F L (.pointer (some (ad.add (i.toNat * sz)))) :=
  .of_run fun a w hf hs => by
    have := run_indexAt_slice (C.ok.get ht) hk ad n c k i h.1 h.2 w
    simp [execOp, ho, hf.ev hx, hf.ev hy, this]
/-- The index a natural number. -/
theorem q_index_nat {t : Nat} {x y : Operand} {ti : TI} {e sz by_ n c : Nat} {ad : Addr} {k : IntKind} {i : Nat} (ho : o.op = .indexAddr t x y) (ht : tget C.tab t = some ti) (hk : ti.kind = .slice e sz by_)
    (hx : ev F x = some (.slice (some ad) n c)) (hy : ev F y = some (.int k (i : Int))) (h : i < n) : Qv C o F L (.pointer (some (ad.add (i * sz)))) := by
  have := q_index_slice (C := C) (L := L) ho ht hk hx hy ⟨by omega, by omega⟩
  simpa using this
theorem q_index_arr {t : Nat} {x y : Operand} {ti : TI} {e sz n : Nat} {b p : Nat} {k : IntKind} {i : Int} (ho : o.op = .indexAddr t x y) (ht : tget C.tab t = some ti) (hk : ti.kind = .arr n e sz)
    (hx : ev F x = some (.pointer (some ⟨b, p, none⟩))) (hy : ev F y = some (.int k i)) (h : 0 ≤ i ∧ i < (n : Int)) : Qv C o F L (.pointer (some ⟨b, p + i.toNat * sz, none⟩)) :=
  .of_run fun a w hf hs => by
    obtain ⟨hu, ie, h3, h4⟩ := tk_arr (C.ok.get ht) hk
    simp [execOp, ho, hf.ev hx, hf.ev hy, Instr.indexAt, asIntOf, run_underlying hu, h.1, h.2, sizeOf, typeInfo, h3, h4, Instr.sureAddr, add_own]
theorem q_index_arr_ext {t : Nat} {x y : Operand} {ti : TI} {e sz n : Nat} {ad : Addr} {k : IntKind} {i : Int} (ho : o.op = .indexAddr t x y) (ht : tget C.tab t = some ti) (hk : ti.kind = .arr n e sz)
    (hx : ev F x = some (.pointer (some ad))) (hy : ev F y = some (.int k i)) (h : 0 ≤ i ∧ i < (n : Int)) : Qv C o F L (.pointer (some (ad.add (i.toNat * sz)))) :=
  .of_run fun a w hf hs => by
    obtain ⟨hu, ie, h3, h4⟩ := tk_arr (C.ok.get ht) hk
    simp [execOp, ho, hf.ev hx, hf.ev hy, Instr.indexAt, asIntOf, run_underlying hu, h.1, h.2, sizeOf, typeInfo, h3, h4, Instr.sureAddr]
/-! loads -/
theorem run_loadOne {P : Program} {t : TypeId} {ti : TI} (h : TIok P t ti) (hk : ti.kind.agg = false) {ad : Addr} {v : Value} {w : World} (hc : w.cell? ad = some v) : (loadVar t ad).run P w = .ok v w := by
  have h1 := tk_isAgg h w
  rw [hk] at h1
  simp [loadVar, h1, hc]
theorem run_loadAgg {P : Program} {t : TypeId} {ti : TI} (h : TIok P t ti) (hk : ti.kind.agg = true) {ad : Addr} {cs : List Value} {w : World} (hl : ti.size = len cs) (hc : ∀ j u, nth cs j = some u → w.cell? (ad.add j) = some u) :
    (loadVar t ad).run P w = .ok (.agg cs.toArray) w := by
  have h1 := tk_isAgg h w
  rw [hk] at h1
  have h2 := run_loadCells_list (P := P) w ad cs (fun j v hv => hc j v (by rw [nth_eq]; exact hv))
  have h3 := h.size
  rw [hl, len_eq] at h3
  cases hi : P.info? t with
  | none => simp [hi] at h3
  | some i =>
    simp only [hi, Option.map_some, Option.some.injEq] at h3
    simp [loadVar, h1, sizeOf, typeInfo, hi, h3, h2]
theorem cells_cell {B : Nat} {hot : Nat → Prop} {w : World} {b : Nat} {t : TypeId} {cs : List Value} (h : (HA.cells b t cs).holds B hot w) (j : Nat) : w.cell? ⟨b, j, none⟩ = nth cs j := by
  rw [nth_eq]
  simp [World.cell?, h.2]
theorem q_load_own {t : Nat} {x : Operand} {ti : TI} {b p u : Nat} {cs : List Value} {v : Value} (ho : o.op = .load t x) (hx : ev F x = some (.pointer (some ⟨b, p, none⟩))) (ht : tget C.tab t = some ti) (hk : ti.kind.agg = false)
    (hin : InL L (.cells b u cs)) (hv : nth cs p = some v) : Qv C o F L v :=
  .of_run fun a w hf hs => by
    have := run_loadOne (C.ok.get ht) hk ((cells_cell (hs.at hin) p).trans hv)
    simp [execOp, ho, hf.ev hx, Instr.loadAt, Instr.sureAddr, this]
theorem nth_sub (cs : List Value) (o n j : Nat) (u : Value) (h : nth (sub cs o n) j = some u) : nth cs (o + j) = some u := by
  rw [nth_eq] at *
  rw [sub_eq, List.getElem?_take] at h
  split at h
  · rw [List.getElem?_drop] at h; exact h
  · cases h
theorem q_loadA_own {t : Nat} {x : Operand} {ti : TI} {b p u : Nat} {cs : List Value} (ho : o.op = .load t x) (hx : ev F x = some (.pointer (some ⟨b, p, none⟩))) (ht : tget C.tab t = some ti) (hk : ti.kind.agg = true)
    (hin : InL L (.cells b u cs)) (hl : ti.size = len (sub cs p ti.size)) : Qv C o F L (.agg (sub cs p ti.size).toArray) :=
  .of_run fun a w hf hs => by
    have := run_loadAgg (C.ok.get ht) hk (ad := ⟨b, p, none⟩) (w := w) hl (fun j v hv => by
      rw [add_own, cells_cell (hs.at hin)]; exact nth_sub _ _ _ _ _ hv)
    simp [execOp, ho, hf.ev hx, Instr.loadAt, Instr.sureAddr, this]
/-- The same, in a block that is not written by what is called. -/
structure ExtC (C : Cx) (ad : Addr) (cs : List Value) : Prop where
  ext : Ext C.w0 ad cs
  cold : ¬ C.hot ad.block
theorem ExtC.now {C : Cx} {w : World} {ad : Addr} {cs : List Value} (h : ExtC C ad cs) {L : List HA} (hs : St C.w0 C.hot L w) : ∀ j u, nth cs j = some u → w.cell? (ad.add j) = some u :=
  fun j u hu => (hs.near.cell (by rw [block_add]; exact h.ext.lt) (by rw [block_add]; exact h.cold)).trans (h.ext.cell j u hu)
theorem St.ext {w0 w : World} {hot : Nat → Prop} {L : List HA} {b u : Nat} {cs : List Value} (h : St w0 hot L w) (hi : InL L (.cells b u cs)) : Ext w ⟨b, 0, none⟩ cs :=
  ⟨(HA.holds.lt (h.at hi) (b := b) rfl).2, fun j v hv => by rw [add_own, Nat.zero_add, cells_cell (h.at hi)]; exact hv⟩
theorem Ext.later {w w' : World} {ad : Addr} {cs : List Value} (h : Ext w ad cs) {B : Nat} (hb : Below B w w') (hB : w.heap.size ≤ B) : Ext w' ad cs :=
  ⟨Nat.lt_of_lt_of_le h.lt hb.size, fun j u hu => (hb.cell (by rw [block_add]; exact Nat.lt_of_lt_of_le h.lt hB)).trans (h.cell j u hu)⟩
theorem RS.later {α : Type} {w w' : World} {sz : Nat} {f : α → List Value} {A : Option Addr} {l : List α} (h : RS w sz f A l) {B : Nat} (hb : Below B w w') (hB : w.heap.size ≤ B) : RS w' sz f A l := fun k x hx => by
  obtain ⟨ad, e, hE⟩ := h k x hx
  exact ⟨ad, e, hE.later hb hB⟩
theorem RS.st {α : Type} {w0 w : World} {sz : Nat} {f : α → List Value} {A : Option Addr} {l : List α} (h : RS w0 sz f A l) {L : List HA} (hs : St w0 Cold L w) : RS w sz f A l := h.later hs.below (Nat.le_refl _)
theorem Ext.st {w0 w : World} {ad : Addr} {cs : List Value} (h : Ext w0 ad cs) {L : List HA} (hs : St w0 Cold L w) : Ext w ad cs := h.later hs.below (Nat.le_refl _)
theorem q_load_ext {t : Nat} {x : Operand} {ti : TI} {ad : Addr} {p : Nat} {cs : List Value} {v : Value} (ho : o.op = .load t x) (hx : ev F x = some (.pointer (some (ad.add p)))) (ht : tget C.tab t = some ti) (hk : ti.kind.agg = false)
    (hE : ExtC C ad cs) (hv : nth cs p = some v) : Qv C o F L v :=
  .of_run fun a w hf hs => by
    have := run_loadOne (C.ok.get ht) hk (hE.now hs p v hv)
    simp [execOp, ho, hf.ev hx, Instr.loadAt, Instr.sureAddr, this]
theorem q_load_ext0 {t : Nat} {x : Operand} {ti : TI} {ad : Addr} {cs : List Value} {v : Value} (ho : o.op = .load t x) (hx : ev F x = some (.pointer (some ad))) (ht : tget C.tab t = some ti) (hk : ti.kind.agg = false)
    (hE : ExtC C ad cs) (hv : nth cs 0 = some v) : Qv C o F L v :=
  .of_run fun a w hf hs => by
    have := run_loadOne (C.ok.get ht) hk (ad := ad) (w := w) (hE.now hs 0 v hv)
    simp [execOp, ho, hf.ev hx, Instr.loadAt, Instr.sureAddr, this]
theorem q_loadA_ext {t : Nat} {x : Operand} {ti : TI} {ad : Addr} {cs : List Value} (ho : o.op = .load t x) (hx : ev F x = some (.pointer (some ad))) (ht : tget C.tab t = some ti) (hk : ti.kind.agg = true)
    (hE : ExtC C ad cs) (hl : ti.size = len cs) : Qv C o F L (.agg cs.toArray) :=
  .of_run fun a w hf hs => by
    have := run_loadAgg (C.ok.get ht) hk (ad := ad) (w := w) hl (hE.now hs)
    simp [execOp, ho, hf.ev hx, Instr.loadAt, Instr.sureAddr, this]
/-! new blocks -/
theorem j_step_new {d : Nat} {ob : Obj} {x : Nat → HA} (hg : o.guard = none) (hd : o.dst = some d) (hn : Nat.blt d C.n = true) (V : Nat → Value)
    (hrun : ∀ a w, Fits C.n C.ds F a → St C.w0 C.hot L w → (execOp a.eval o).run C.P w = .ok (.value (V w.heap.size)) (w.alloc ob))
    (hf : ∀ b c, (x b).foot c → c = b) (hx : ∀ w : World, C.w0.heap.size ≤ w.heap.size → (x w.heap.size).holds C.w0.heap.size C.hot (w.alloc ob))
    (h : ∀ b, J C ops false rest K ((d, V b) :: F) (x b :: L)) : J C ops false (o :: rest) K F L := by
  intro a w hfa hs
  refine wpListIn_run (by simp [Region.wanted, hg]) (wpIn_value (hrun a w hfa hs) ?_)
  rw [hd]
  exact h w.heap.size _ _ (hfa.put _ hn) (hs.alloc ob (hf _) (hx w hs.near.size))
theorem vcells_eq (v : Value) : v.cells = (vcells v).toArray := by cases v <;> simp [Value.cells, vcells]
theorem holds_new (w : World) {B : Nat} {hot : Nat → Prop} (hB : B ≤ w.heap.size) (t : TypeId) (cs : List Value) : (HA.cells w.heap.size t cs).holds B hot (w.alloc (.cells cs.toArray t)) := ⟨.inl hB, heap_alloc_new _ _⟩
theorem zero_cells {P : Program} {t : TypeId} {ti : TI} (h : TIok P t ti) : ∃ i z, P.info? t = some i ∧ i.zero = some z ∧ z.cells = ti.zero.toArray ∧ i.size = ti.size ∧ z = ti.zv := by
  have h1 := h.zero
  have h2 := h.size
  cases hi : P.info? t with
  | none => simp [hi] at h1
  | some i =>
    simp only [hi, Option.bind_some, Option.map_some, Option.some.injEq] at h1 h2
    exact ⟨i, _, rfl, h1, vcells_eq _, h2, rfl⟩
theorem j_alloc {d t : Nat} {ti : TI} (ho : o.op = .alloc t) (hg : o.guard = none) (hd : o.dst = some d) (hn : Nat.blt d C.n = true) (ht : tget C.tab t = some ti)
    (h : ∀ b, J C ops false rest K ((d, .pointer (some ⟨b, 0, none⟩)) :: F) (.cells b t ti.zero :: L)) : J C ops false (o :: rest) K F L := by
  refine j_step_new (ob := .cells ti.zero.toArray t) (x := fun b => .cells b t ti.zero) hg hd hn (fun b => .pointer (some ⟨b, 0, none⟩)) (fun a w hf hs => ?_) (fun b c h => h) (fun w hw => holds_new w hw t _) h
  obtain ⟨i, z, hi, hz, h2, _⟩ := zero_cells (C.ok.get ht)
  simp [execOp, ho, Instr.alloc, zeroValue, typeInfo, hi, hz, newVar, newRow, h2]
theorem j_box {d t : Nat} {x : Operand} {v : Value} (ho : o.op = .box t x) (hg : o.guard = none) (hd : o.dst = some d) (hn : Nat.blt d C.n = true) (hx : ev F x = some v)
    (h : ∀ b, J C ops false rest K ((d, .pointer (some ⟨b, 0, none⟩)) :: F) (.cells b t (vcells v) :: L)) : J C ops false (o :: rest) K F L := by
  refine j_step_new (ob := .cells (vcells v).toArray t) (x := fun b => .cells b t (vcells v)) hg hd hn (fun b => .pointer (some ⟨b, 0, none⟩)) (fun a w hf hs => ?_) (fun b c h => h) (fun w hw => holds_new w hw t _) h
  simp [execOp, ho, hf.ev hx, Instr.box, newVar, newRow, vcells_eq]
/-! stores -/
theorem j_store {t : Nat} {x y : Operand} {ti : TI} {b p u : Nat} {cs : List Value} {v : Value} {L' : List HA} (ho : o.op = .store t x y) (hg : o.guard = none) (hd : o.dst = none)
    (hx : ev F x = some (.pointer (some ⟨b, p, none⟩))) (hy : ev F y = some v) (ht : tget C.tab t = some ti) (hl : ti.size = len (vcells v)) (h1 : ones (vcells v) = true)
    (hup : Upd L (.cells b u cs) (.cells b u (splice cs p (vcells v))) L') (hp : Nat.ble (p + len (vcells v)) (len cs) = true)
    (h : J C ops false rest K F L') : J C ops false (o :: rest) K F L := by
  intro a w hf hs
  obtain ⟨M, hp1, hp2⟩ := hup.perm
  have hc : (HA.cells b u cs).holds C.w0.heap.size C.hot w := (hs.perm hp1).head
  have hp' : p + (vcells v).length ≤ cs.length := by have := Nat.le_of_ble_eq_true hp; simpa only [len_eq] using this
  have hst := run_storeCells_at (P := C.P) b p u (vcells v) 0 cs.toArray w hc.2 (by simpa using hp') (ones_all h1)
  have hsz : (sizeOf t).run C.P w = .ok (vcells v).length w := by
    have h2 := (C.ok.get ht).size
    rw [hl, len_eq] at h2
    cases hi : C.P.info? t with
    | none => simp [hi] at h2
    | some i => simp only [hi, Option.map_some, Option.some.injEq] at h2; simp [sizeOf, typeInfo, hi, h2]
  have hrun : (execOp a.eval o).run C.P w = .ok .skip (w.setRow b (splice cs p (vcells v)).toArray) := by
    rw [splice_eq _ _ _ hp']
    simp only [Nat.add_zero] at hst
    simp [execOp, ho, hf.ev hx, hf.ev hy, Instr.storeAt, Instr.sureAddr, storeVar, vcells_eq, hsz, hst]
  refine wpListIn_run (by simp [Region.wanted, hg]) (wpIn_skip_ hrun ?_)
  rw [hd]
  refine h a _ (hf.put_none undef) (hs.upd hup ⟨rfl, rfl, rfl, by simp, fun k hk => by omega⟩ ?_ ⟨hc.1, setRow_heap w b _ _ u _ hc.2⟩ (fun b hb => .inl hb))
  intro k hk hne
  exact setRow_other w b k _ (fun e => hne (by rw [e]; rfl))
/-! calls -/
theorem call_run {P : Program} {f : Nat} (hc : callable P f = true) (args : Array Value) (w : World) : (callFunc f args).run P w = .ok (.enter f args) w := by
  unfold callable at hc
  split at hc
  · rename_i fn hf
    simp only [Bool.and_eq_true, Bool.not_eq_true', Option.isNone_eq_false_iff] at hc
    have h1 : fn.name ≠ "runtime.NumGoroutine" := by simpa using hc.1
    have h2 : fn.body ≠ none := by
      intro e
      rw [e] at hc
      simp at hc
    simp [callFunc, hf, h1, h2]
  · cases hc
theorem callable_of {C : Cx} {f : Nat} (h : has C.fns f = true) : callable C.P f = true := by
  obtain ⟨h1, h2⟩ := has_mem h
  have h3 := List.all_eq_true.1 C.fok f (List.mem_range.2 h2)
  simp only [Bool.or_eq_true, decide_eq_true_eq] at h3
  exact h3.resolve_left (by omega)
theorem run_call {C : Cx} {F : Fr} {o : Oper} {al : List Operand} {fo : Operand} {ats : Array TypeId} {f : Nat} {caps vs : List Value} (ho : o.op = .call { callee := .value fo, args := al.toArray, argTypes := ats })
    (hfo : ev F fo = some (.func (.func f) #[] caps.toArray)) (ha : evs F al = some vs) (hc : has C.fns f = true) {a : Act} (hf : Fits C.n C.ds F a) (w : World) :
    (execOp a.eval o).run C.P w = .ok (.enter f (vs ++ caps).toArray) w := by
  have h1 : al.toArray.map a.eval = vs.toArray := by rw [List.map_toArray, hf.evs ha]
  have h2 := call_run (callable_of hc) (vs.toArray ++ caps.toArray) w
  simp only [execOp, ho, resolve, hf.ev hfo, h1, Deferred.ofValue, Sem.run_bind, Sem.run_pure, Result.andThen_ok, invoke, Array.empty_append]
  rw [h2]
  simp
theorem q_call {al : List Operand} {fo : Operand} {ats : Array TypeId} {f : Nat} {caps vs : List Value} {v : Value} (ho : o.op = .call { callee := .value fo, args := al.toArray, argTypes := ats })
    (hfo : ev F fo = some (.func (.func f) #[] caps.toArray)) (ha : evs F al = some vs) (hc : has C.fns f = true)
    (hcall : ∀ w, St C.w0 C.hot L w → Calls C.P f (vs ++ caps).toArray w (fun e w' => e = .returned v ∧ Below w.heap.size w w')) : Qt C o F L v := by
  intro a w hf hs
  unfold Oper.quietAt
  rw [run_call ho hfo ha hc hf w]
  exact ⟨rfl, (hcall w hs).mono fun e w' ⟨he, hb⟩ => ⟨he, hb⟩⟩
theorem j_qc {al : List Operand} {fo : Operand} {ats : Array TypeId} {f d : Nat} {caps vs : List Value} (ho : o.op = .call { callee := .value fo, args := al.toArray, argTypes := ats })
    (hg : o.guard = none) (hd : o.dst = some d) (hn : Nat.blt d C.n = true) (hfo : ev F fo = some (.func (.func f) #[] caps.toArray)) (ha : evs F al = some vs) (hc : has C.fns f = true)
    (h : ∃ v, (∀ w, St C.w0 C.hot L w → Calls C.P f (vs ++ caps).toArray w (fun e w' => e = .returned v ∧ Below w.heap.size w w')) ∧ J C ops m rest K ((d, v) :: F) L) : J C ops m (o :: rest) K F L :=
  let ⟨_, hcall, hj⟩ := h
  j_q hg hd hn (q_call ho hfo ha hc hcall) hj
/-- A call whatever it does, said by its contract. -/
theorem j_call {ξ : Type} {al : List Operand} {fo : Operand} {ats : Array TypeId} {f d : Nat} {caps vs : List Value} (V : ξ → Value) (pre : ξ → Prop) (L' : ξ → List HA) (ho : o.op = .call { callee := .value fo, args := al.toArray, argTypes := ats })
    (hg : o.guard = none) (hd : o.dst = some d) (hn : Nat.blt d C.n = true)
    (hfo : ev F fo = some (.func (.func f) #[] caps.toArray)) (ha : evs F al = some vs) (hc : has C.fns f = true)
    (hcall : ∀ w, St C.w0 C.hot L w → Calls C.P f (vs ++ caps).toArray w (fun e w' => ∃ x, pre x ∧ e = .returned (V x) ∧ St C.w0 C.hot (L' x) w'))
    (h : ∀ x, pre x → J C ops false rest K ((d, V x) :: F) (L' x)) : J C ops false (o :: rest) K F L := by
  intro a w hf hs
  refine wpListIn_run (by simp [Region.wanted, hg]) (wpIn_enter_ (run_call ho hfo ha hc hf w) ?_)
  refine (hcall w hs).mono fun e w' ⟨x, hp, he, hs'⟩ => ?_
  subst he
  rw [hd]
  exact h x hp _ _ (hf.put _ hn) hs'
/-! a function's beginning and end -/
def argFr : Nat → List Value → Fr
  | _, [] => []
  | i, v :: l => (i, v) :: argFr (i + 1) l
theorem argFr_get : ∀ (i : Nat) (l : List Value) (j : Nat) (v : Value), (argFr i l).get j = some v → i ≤ j ∧ l[j - i]? = some v
  | i, [], j, v, h => by cases h
  | i, x :: l, j, v, h => by
    simp only [argFr] at h
    rw [Fr.get_cons] at h
    by_cases e : i = j
    · subst e; simp at h; simp [h]
    · rw [if_neg e] at h
      obtain ⟨h1, h2⟩ := argFr_get (i + 1) l j v h
      refine ⟨by omega, ?_⟩
      rw [show j - i = (j - (i + 1)) + 1 from by omega]
      simpa using h2
/-- Behind a function's body: its results, and the marks of its ranges over functions. -/
def takesAll (P : Program) : List Deferred → World → World → Prop
  | [], w, w' => w' = w
  | d :: ds, w, w' => ∃ r w1, d.target = .collected r ∧ (Instr.takeDeferred r).run P w = .ok [] w1 ∧ takesAll P ds w1 w'
theorem eng_start {P : Program} (tab : List (Nat × TI)) (ok : TabOk P tab) (fns : Nat × Nat) (fok : Callables P fns) {f n : Nat} {fn : Func} {c : Code} {args : List Value} {w : World} {R : Ending → World → Prop} (rs : List ResultVar)
    (hf : P.funcs[f]? = some fn) (hb : fn.body = some c) (hn : fn.ntmps = n) (hrs : fn.results = rs.toArray) (hle : Nat.ble (len args) n = true)
    (h : SC ⟨P, tab, ok, fns, fok, fn, R, rs, hrs, fun _ _ _ => False, w, n, Cold, none, []⟩ c [] (argFr 0 args) []) : Calls P f args.toArray w R := by
  refine callsIn_wide.1 (callsIn_of_wp_marks (F := fc none) (n := 0) hf hb trivial (h _ _ ⟨rfl, ?_, ?_⟩ (St.start w _)))
  · have := Nat.le_of_ble_eq_true hle
    rw [len_eq] at this
    simp [hn]; omega
  · intro i v hv
    obtain ⟨_, h2⟩ := argFr_get 0 args i v hv
    simp only [Nat.sub_zero] at h2
    have hlt : i < args.length := (List.getElem?_eq_some_iff.1 h2).1
    rw [Array.getElem?_append_left (by simpa using hlt)]
    simpa using h2
/-- The same where some of the memory that was there is lent, to be written. -/
theorem eng_start_lent {P : Program} (tab : List (Nat × TI)) (ok : TabOk P tab) (fns : Nat × Nat) (fok : Callables P fns) {f n : Nat} {fn : Func} {c : Code} {args : List Value} {w : World} {R : Ending → World → Prop} (rs : List ResultVar) (hot : Nat → Prop) (L : List HA)
    (hf : P.funcs[f]? = some fn) (hb : fn.body = some c) (hn : fn.ntmps = n) (hrs : fn.results = rs.toArray) (hle : Nat.ble (len args) n = true) (hL : St w hot L w)
    (h : SC ⟨P, tab, ok, fns, fok, fn, R, rs, hrs, fun _ _ _ => False, w, n, hot, none, []⟩ c [] (argFr 0 args) L) : Calls P f args.toArray w R := by
  refine callsIn_wide.1 (callsIn_of_wp_marks (F := fc none) (n := 0) hf hb trivial (h _ _ ⟨rfl, ?_, ?_⟩ hL))
  · have := Nat.le_of_ble_eq_true hle
    rw [len_eq] at this
    simp [hn]; omega
  · intro i v hv
    obtain ⟨_, h2⟩ := argFr_get 0 args i v hv
    simp only [Nat.sub_zero] at h2
    have hlt : i < args.length := (List.getElem?_eq_some_iff.1 h2).1
    rw [Array.getElem?_append_left (by simpa using hlt)]
    simpa using h2
inductive RV (C : Cx) (F : Fr) (L : List HA) : ResultVar → Value → Prop where
  | tmp {t : Nat} {v : Value} (h : F.get t = some v) : RV C F L (.tmp t) v
  | cell {t ty b p u : Nat} {ti : TI} {cs : List Value} {v : Value} (h : F.get t = some (.pointer (some ⟨b, p, none⟩))) (ht : tget C.tab ty = some ti) (hk : ti.kind.agg = false) (hin : InL L (.cells b u cs)) (hv : nth cs p = some v) : RV C F L (.cell t ty) v
  | cellA {t ty b p u : Nat} {ti : TI} {cs : List Value} (h : F.get t = some (.pointer (some ⟨b, p, none⟩))) (ht : tget C.tab ty = some ti) (hk : ti.kind.agg = true) (hin : InL L (.cells b u cs)) (hl : ti.size = len (sub cs p ti.size)) : RV C F L (.cell t ty) (.agg (sub cs p ti.size).toArray)
inductive RVs (C : Cx) (F : Fr) (L : List HA) : List ResultVar → List Value → Prop where
  | nil : RVs C F L [] []
  | cons {r : ResultVar} {rs : List ResultVar} {v : Value} {vs : List Value} (h : RV C F L r v) (hs : RVs C F L rs vs) : RVs C F L (r :: rs) (v :: vs)
def pack : List Value → Value
  | [v] => v
  | vs => .tuple vs.toArray
def resSem (tmps : Array Value) : ResultVar → Sem Value
  | .tmp t => pure (tmps.getD t undef)
  | .cell a t => do loadVar t (← asAddr (tmps.getD a undef))
theorem RV.run {r : ResultVar} {v : Value} (h : RV C F L r v) {a : Act} {w : World} (hf : Fits C.n C.ds F a) (hs : St C.w0 C.hot L w) : (resSem a.tmps r).run C.P w = .ok v w := by
  cases h with
  | tmp h => have := hf.get _ _ h; simp [resSem, this]
  | cell h ht hk hin hv =>
    have h1 := hf.get _ _ h
    have h2 := run_loadOne (C.ok.get ht) hk ((cells_cell (hs.at hin) _).trans hv)
    simp [resSem, h1, asAddr, h2]
  | cellA h ht hk hin hl =>
    have h1 := hf.get _ _ h
    have h2 := run_loadAgg (C.ok.get ht) hk (w := w) hl (fun j v hv => by
      rw [add_own, cells_cell (hs.at hin)]; exact nth_sub _ _ _ _ _ hv)
    simp [resSem, h1, asAddr, h2]
theorem RVs.run {rs : List ResultVar} {vs : List Value} (h : RVs C F L rs vs) {a : Act} {w : World} (hf : Fits C.n C.ds F a) (hs : St C.w0 C.hot L w) : (rs.mapM (resSem a.tmps)).run C.P w = .ok vs w := by
  induction h with
  | nil => simp
  | cons h _ ih => simp [h.run hf hs, ih]
theorem results_run {fn : Func} {rs : List ResultVar} {vs : List Value} (hr : fn.results = rs.toArray) (h : RVs C F L rs vs) {a : Act} {w : World} (hf : Fits C.n C.ds F a) (hs : St C.w0 C.hot L w) :
    (results fn a.tmps).run C.P w = .ok (pack vs) w := by
  have h1 := h.run hf hs
  have h2 : (fn.results.mapM (resSem a.tmps)).run C.P w = .ok vs.toArray w := by
    rw [hr, List.mapM_toArray]
    simp [h1]
  have h3 : results fn a.tmps = (do let vs ← fn.results.mapM (resSem a.tmps); pure (if h : vs.size = 1 then vs[0] else .tuple vs)) := by
    unfold results
    congr 1
  rw [h3]
  simp only [Sem.run_bind, h2, Result.andThen_ok, Sem.run_pure]
  match vs with
  | [] => rfl
  | [v] => rfl
  | _ :: _ :: _ => rfl
theorem sq_ende {e : Exit} (he : e = .ret ∨ e = .normal) (hrd : C.rd = none) (hds : C.ds = [])
    (h : ∃ vs, RVs C F L C.rs vs ∧ ∀ w, St C.w0 C.hot L w → C.R (.returned (pack vs)) w) : SQ C e [] F L := by
  obtain ⟨vs, hv, hR⟩ := h
  intro a w hf hs
  show C.Qf e a w
  have hQ : C.Qf = bodyPostM (fc none) 0 C.P C.fn C.R := by unfold Cx.Qf; rw [hrd]
  rw [hQ]
  have hd : a.defers = [] := hf.dfr.trans hds
  have hl : LeavesInM (fc none) 0 C.P C.fn a.tmps C.R a.defers .returning w := by
    rw [hd]
    exact ⟨_, results_run C.hrs hv hf hs, hR w hs⟩
  rcases he with rfl | rfl
  · exact hl
  · exact hl
end
end Eng
end Go.Proofs.Ytbejfbekamikpaa

/-
  The engine's rules for literals of structs, arrays and slices, and for append.
-/
namespace Go.Proofs.Ytbejfbekamikpaa
namespace Eng
open Go.RowKit
set_option linter.unusedVariables false
def nthN : List Nat → Nat → Option Nat
  | [], _ => none
  | x :: _, 0 => some x
  | _ :: l, n + 1 => nthN l n
theorem nthN_eq (l : List Nat) (n : Nat) : nthN l n = l[n]? := by
  induction l generalizing n with
  | nil => simp [nthN]
  | cons x l ih => cases n <;> simp [nthN, ih]
def bld (place : Nat → Option (Nat × Nat)) : List Value → List (Nat × Value) → Option (List Value)
  | cs, [] => some cs
  | cs, (i, v) :: rest => match place i with
    | none => none
    | some (off, sz) => bif Nat.beq (len (vcells v)) sz then (bif Nat.ble (off + len (vcells v)) (len cs) then bld place (splice cs off (vcells v)) rest else none) else none
theorem splice_nil : ∀ (cs : List Value) (p : Nat), splice cs p [] = cs
  | cs, 0 => by cases cs <;> simp [splice, over]
  | [], p + 1 => by simp [splice]
  | c :: cs, p + 1 => by simp [splice, splice_nil cs p]
theorem splice_set : ∀ (cs : List Value) (p : Nat) (v : Value) (vs : List Value), splice (cs.set p v) (p + 1) vs = splice cs p (v :: vs)
  | [], 0, v, vs => by simp [splice, over]
  | [], p + 1, v, vs => by simp [splice]
  | c :: cs, 0, v, vs => by cases cs <;> simp [splice, over]
  | c :: cs, p + 1, v, vs => by simp [splice, splice_set cs p v vs]
theorem foldl_splice : ∀ (vs : List Value) (k off : Nat) (cs : List Value),
    (vs.zipIdx k).foldl (fun (cs : Array Value) (x : Value × Nat) => cs.setIfInBounds (off + x.2) x.1) cs.toArray = (splice cs (off + k) vs).toArray
  | [], k, off, cs => by simp [splice_nil]
  | v :: vs, k, off, cs => by
    simp only [List.zipIdx_cons, List.foldl_cons, List.setIfInBounds_toArray]
    rw [foldl_splice vs (k + 1) off _, ← Nat.add_assoc, splice_set]
theorem fill_bld (place : Nat → Option (Nat × Nat)) : ∀ (parts : List (Nat × Value)) (cs r : List Value), bld place cs parts = some r → Instr.fill place cs.toArray parts = some r.toArray
  | [], cs, r, h => by simp only [bld, Option.some.injEq] at h; simp [Instr.fill, h]
  | (i, v) :: rest, cs, r, h => by
    simp only [bld] at h
    cases hp : place i with
    | none => simp [hp] at h
    | some x =>
      obtain ⟨off, sz⟩ := x
      simp only [hp] at h
      cases h1 : Nat.beq (len (vcells v)) sz with
      | false => simp [h1] at h
      | true =>
        cases h2 : Nat.ble (off + len (vcells v)) (len cs) with
        | false => simp [h1, h2] at h
        | true =>
          simp only [h1, h2, cond_true] at h
          have e1 := Nat.eq_of_beq_eq_true h1
          have e2 := Nat.le_of_ble_eq_true h2
          rw [len_eq] at e1
          simp only [len_eq] at e2
          have hf := foldl_splice (vcells v) 0 off cs
          have hz : v.cells.zipIdx.foldl (fun (cs : Array Value) (x : Value × Nat) => cs.setIfInBounds (off + x.2) x.1) cs.toArray = (splice cs off (vcells v)).toArray := by
            rw [vcells_eq]
            rw [← Array.foldl_toList]
            simpa using hf
          simp only [Instr.fill, hp]
          rw [if_neg (by rw [vcells_eq]; simp [e1]; omega)]
          have := fill_bld place rest _ r h
          rw [← this, ← hz]
section
variable {C : Cx} {F : Fr} {L : List HA} {o : Oper} {K : List KI} {ops : Array Oper} {m : Bool} {rest : List Oper}
def evp (F : Fr) : List (Nat × Operand) → Option (List (Nat × Value))
  | [] => some []
  | (i, x) :: l => match ev F x with
    | some v => match evp F l with
      | some vs => some ((i, v) :: vs)
      | none => none
    | none => none
theorem Fits.evp {n : Nat} {ds : List Deferred} {a : Act} (h : Fits n ds F a) {l : List (Nat × Operand)} {vs : List (Nat × Value)} (hl : Eng.evp F l = some vs) : l.map (fun x => (x.1, a.eval x.2)) = vs := by
  induction l generalizing vs with
  | nil => simpa [Eng.evp] using hl
  | cons x l ih =>
    obtain ⟨i, x⟩ := x
    simp only [Eng.evp] at hl
    cases hx : Eng.ev F x with
    | none => simp [hx] at hl
    | some v =>
      cases hr : Eng.evp F l with
      | none => simp [hx, hr] at hl
      | some us =>
        simp only [hx, hr, Option.some.injEq] at hl
        subst hl
        simp [h.ev hx, ih hr]
def splace (offs szs : List Nat) (j : Nat) : Option (Nat × Nat) :=
  match nthN offs j with
  | some a => match nthN szs j with
    | some b => some (a, b)
    | none => none
  | none => none
theorem run_mapM_list {P : Program} {α β : Type} (g : α → Sem β) (h : α → β) (w : World) : ∀ (l : List α), (∀ x ∈ l, (g x).run P w = .ok (h x) w) → (l.mapM g).run P w = .ok (l.map h) w
  | [], _ => by simp
  | x :: l, hl => by
    have h1 := hl x List.mem_cons_self
    have h2 := run_mapM_list g h w l (fun y hy => hl y (List.mem_cons_of_mem _ hy))
    simp [h1, h2]
theorem run_mapM_arr {P : Program} {α β : Type} (g : α → Sem β) (h : α → β) (w : World) (l : Array α) (hl : ∀ x ∈ l.toList, (g x).run P w = .ok (h x) w) : (l.mapM g).run P w = .ok (l.map h) w := by
  obtain ⟨l⟩ := l
  have h1 := run_mapM_list g h w l hl
  rw [List.mapM_toArray]
  simp [h1]
theorem q_build_struct {t : Nat} {ti : TI} {pl : List (Nat × Operand)} {pv : List (Nat × Value)} {offs szs : List Nat} {cs : List Value} (ho : o.op = .build t pl.toArray) (ht : tget C.tab t = some ti) (hk : ti.kind = .struct offs szs)
    (hp : evp F pl = some pv) (hb : bld (splace offs szs) ti.zero pv = some cs) : Qv C o F L (.agg cs.toArray) :=
  .of_run fun a w hf hs => by
    obtain ⟨fs, hu, h1, h2, h3⟩ := tk_struct (C.ok.get ht) hk
    obtain ⟨i, z, hi, hz, hzc, _, _⟩ := zero_cells (C.ok.get ht)
    have hparts : (pl.toArray.map fun (i, x) => (i, a.eval x)).toList = pv := by
      rw [List.map_toArray]; exact hf.evp hp
    have hm' : (fs.mapM (m := Sem) (fun f => do pure (f.offset, ← sizeOf f.type))).run C.P w = .ok (fs.map fun f => (f.offset, (match C.P.info? f.type with | some i => i.size | none => 0))) w := by
      refine run_mapM_arr _ _ w fs (fun f hf => ?_)
      obtain ⟨i, hi, _⟩ := h2 f hf
      simp [sizeOf, typeInfo, hi]
    have hplace : (fun j => (fs.map fun f => (f.offset, (match C.P.info? f.type with | some i => i.size | none => 0)))[j]?) = splace offs szs := by
      funext j
      unfold splace
      rw [nthN_eq, nthN_eq, ← h1, ← h3]
      simp only [Array.getElem?_map, List.getElem?_map, Array.getElem?_toList]
      cases fs[j]? <;> rfl
    have hfill := fill_bld _ _ _ _ hb
    rw [← hplace] at hfill
    have hzv : (zeroValue t).run C.P w = .ok z w := by simp [zeroValue, typeInfo, hi, hz]
    simp only [execOp, ho, Instr.build, Sem.run_bind, hzv, Result.andThen_ok, run_underlying hu, hm', hparts, hzc, hfill, Sem.run_pure]
theorem q_build_arr {t n e sz : Nat} {ti : TI} {pl : List (Nat × Operand)} {pv : List (Nat × Value)} {cs : List Value} (ho : o.op = .build t pl.toArray) (ht : tget C.tab t = some ti) (hk : ti.kind = .arr n e sz)
    (hp : evp F pl = some pv) (hb : bld (fun i => some (i * sz, sz)) ti.zero pv = some cs) : Qv C o F L (.agg cs.toArray) :=
  .of_run fun a w hf hs => by
    obtain ⟨hu, ie, hie, hsz⟩ := tk_arr (C.ok.get ht) hk
    obtain ⟨i, z, hi, hz, hzc, _, _⟩ := zero_cells (C.ok.get ht)
    have hparts : (pl.toArray.map fun (i, x) => (i, a.eval x)).toList = pv := by
      rw [List.map_toArray]; exact hf.evp hp
    have hfill := fill_bld _ _ _ _ hb
    have hzv : (zeroValue t).run C.P w = .ok z w := by simp [zeroValue, typeInfo, hi, hz]
    have hse : (sizeOf e).run C.P w = .ok sz w := by simp [sizeOf, typeInfo, hie, hsz]
    simp only [execOp, ho, Instr.build, Sem.run_bind, hzv, Result.andThen_ok, run_underlying hu, hse, hparts, hzc, hfill, Sem.run_pure]
def reps : Nat → List Value → List Value
  | 0, _ => []
  | n + 1, z => app z (reps n z)
where app : List Value → List Value → List Value
  | [], l => l
  | x :: xs, l => x :: app xs l
theorem reps_app (xs l : List Value) : reps.app xs l = xs ++ l := by induction xs <;> simp [reps.app, *]
theorem reps_len (n : Nat) (z : List Value) : (reps n z).length = n * z.length := by
  induction n with
  | zero => simp [reps]
  | succ n ih => simp [reps, reps_app, ih, Nat.succ_mul, Nat.add_comm]
theorem reps_get (z : List Value) (hz : 0 < z.length) : ∀ (n i : Nat), i < n * z.length → (reps n z)[i]? = z[i % z.length]?
  | 0, i, h => by simp at h
  | n + 1, i, h => by
    rw [reps, reps_app]
    by_cases hi : i < z.length
    · rw [List.getElem?_append_left hi, Nat.mod_eq_of_lt hi]
    · rw [List.getElem?_append_right (by omega), reps_get z hz n _ (by rw [Nat.succ_mul] at h; omega)]
      congr 1
      rw [Nat.mod_eq_sub_mod (by omega : i ≥ z.length)]
theorem reps_eq (n : Nat) (z : List Value) (hz : 0 < z.length) : (Array.range (n * z.length)).map (z.toArray[· % z.toArray.size]!) = (reps n z).toArray := by
  apply Array.ext'
  apply List.ext_getElem?
  intro i
  by_cases hi : i < n * z.length
  · rw [reps_get z hz n i hi]
    have hm : i % z.length < z.length := Nat.mod_lt _ hz
    simp [hi, List.getElem?_eq_getElem hm]
  · rw [List.getElem?_eq_none (by simp; omega), List.getElem?_eq_none (by simp [reps_len]; omega)]
theorem j_buildSlice {d t n e sz by_ : Nat} {ti te : TI} {pl : List (Nat × Operand)} {pv : List (Nat × Value)} {cs : List Value} (ho : o.op = .buildSlice t n pl.toArray) (hg : o.guard = none) (hd : o.dst = some d) (hn : Nat.blt d C.n = true)
    (ht : tget C.tab t = some ti) (hk : ti.kind = .slice e sz by_) (hte : tget C.tab e = some te) (hsm : Nat.ble (n * sz) 16777216 = true) (hpos : Nat.beq (n * sz) 0 = false) (hl : len te.zero = sz)
    (hp : evp F pl = some pv) (hb : bld (fun i => some (i * sz, sz)) (reps n te.zero) pv = some cs)
    (h : ∀ b, J C ops false rest K ((d, .slice (some ⟨b, 0, none⟩) n n) :: F) (.cells b e cs :: L)) : J C ops false (o :: rest) K F L := by
  obtain ⟨hu, ie, hie, hsz, _⟩ := tk_slice (C.ok.get ht) hk
  obtain ⟨i, z, hi, hz, hzc, _, _⟩ := zero_cells (C.ok.get hte)
  have e1 : ie = i := by rw [hie] at hi; injection hi
  subst e1
  refine j_step_new (ob := .cells cs.toArray e) (x := fun b => .cells b e cs) hg hd hn (fun b => .slice (some ⟨b, 0, none⟩) n n) (fun a w hf hs => ?_) (fun b c h => h) (fun w hw => holds_new w hw e _) h
  have hparts : (pl.toArray.map fun (i, x) => (i, a.eval x)).toList = pv := by
    rw [List.map_toArray]; exact hf.evp hp
  have h1 := Nat.le_of_ble_eq_true hsm
  have h2 : n * sz ≠ 0 := Nat.ne_of_beq_eq_false hpos
  have h3 : 0 < te.zero.length := by rw [← len_eq, hl]; exact Nat.pos_of_ne_zero (fun e => h2 (by rw [e]; simp))
  have hfill := fill_bld _ _ _ _ hb
  rw [← reps_eq n te.zero h3, ← hzc, ← len_eq, hl, ← hsz] at hfill
  have hrun := run_buildSlice (P := C.P) w t e n (pl.toArray.map fun (i, x) => (i, a.eval x)) cs.toArray ie z hu hie hz (by rw [hsz]; omega) (by rw [hsz]; exact h2) (by rw [hparts]; exact hfill)
  simp only [execOp, ho, Sem.run_bind, hrun, Result.andThen_ok, Sem.run_pure]
/-! guards that ask a value that was passed over -/
theorem j_guard_undef {i gd d : Nat} {b : Bool} (hg : o.guard = some (i, b)) (hd : o.dst = some d) (hn : Nat.blt d C.n = true) (hi : (ops[i]?).bind (·.dst) = some gd) (hF : F.get gd = some (.tuple #[]))
    (h : J C ops m rest K ((d, undef) :: F) L) : J C ops m (o :: rest) K F L := by
  have hnw : ∀ a, Fits C.n C.ds F a → Region.wanted o (yielded ops a.tmps) = false := fun a hfa => by
    have hy : yielded ops a.tmps i = none := by
      unfold yielded
      rw [hi]
      simp [hfa.get gd _ hF]
    simp [Region.wanted, hg, hy]
  cases m
  · intro a w hfa hs
    unfold wpListIn
    rw [if_neg (by simp [hnw a hfa]), hd]
    refine ⟨fun _ _ => trivial, ?_⟩
    exact h _ w (hfa.put undef hn) hs
  · intro a hfa
    unfold wpQB
    rw [if_neg (by simp [hnw a hfa]), hd]
    exact h _ (hfa.put undef hn)
/-! append onto a row of the call's own -/
theorem St.own_nil {w0 w : World} {hot : Nat → Prop} {e sz : Nat} (h : St w0 hot L w) : St w0 hot (.own (.slice none 0 0) e sz 0 [] :: L) w :=
  h.cons ⟨fun b hb => by simp [Value.ownBlock] at hb, by simp, .inl ⟨rfl, rfl⟩⟩ (fun y _ b hb => by simp [HA.foot, Value.ownBlock] at hb)
theorem sc_own_nil {c : Code} (e sz : Nat) (h : SC C c K F (.own (.slice none 0 0) e sz 0 [] :: L)) : SC C c K F L := fun a w hf hs => h a w hf hs.own_nil
theorem j_own_nil {l : List Oper} (e sz : Nat) (h : J C ops false l K F (.own (.slice none 0 0) e sz 0 [] :: L)) : J C ops false l K F L := fun a w hf hs => h a w hf hs.own_nil
theorem j_append {d t e sz by_ : Nat} {ti te : TI} {s x : Operand} {v : Value} {n k c b u : Nat} {xs cs : List Value} (ho : o.op = .call { callee := .builtin .append, args := #[s, x], argTypes := #[t, t] })
    (hg : o.guard = none) (hd : o.dst = some d) (hn : Nat.blt d C.n = true) (ht : tget C.tab t = some ti) (hk : ti.kind = .slice e sz by_) (hte : tget C.tab e = some te) (hl : len te.zero = sz) (hpos : Nat.beq sz 0 = false)
    (hs : ev F s = some v) (hx : ev F x = some (.slice (some ⟨b, 0, none⟩) k c)) (hin : InL L (.cells b u cs)) (hown : InL L (.own v e sz n xs)) (hlen : Nat.beq (len cs) (k * sz) = true) (h1 : ones cs = true)
    (hmax : (n + k) * (by_ + 1) ≤ 140737488355328)
    {L' : Value → List HA} (hup : ∀ v', Upd L (.own v e sz n xs) (.own v' e sz (n + k) (xs ++ cs)) (L' v'))
    (h : ∀ v', J C ops false rest K ((d, v') :: F) (L' v')) : J C ops false (o :: rest) K F L := by
  intro a w hf hS
  obtain ⟨hu, ie, hie, hsz, hby⟩ := tk_slice (C.ok.get ht) hk
  obtain ⟨i, z, hi, hz, hzc, _, _⟩ := zero_cells (C.ok.get hte)
  have e1 : ie = i := by rw [hie] at hi; injection hi
  subst e1
  have hlen' := Nat.eq_of_beq_eq_true hlen
  rw [len_eq] at hlen'
  have hc : ∀ j u, cs[j]? = some u → w.cell? ((⟨b, 0, none⟩ : Addr).add j) = some u := fun j u hj => by
    rw [add_own, cells_cell (hS.at hin), nth_eq, Nat.zero_add]; exact hj
  have hb2 : (n + k) ≤ 140737488355328 := Nat.le_trans (Nat.le_mul_of_pos_right _ (by omega)) hmax
  have hb3 : (n + k) * by_ ≤ 140737488355328 := Nat.le_trans (Nat.mul_le_mul_left _ (by omega)) hmax
  have hpos' : 0 < sz := Nat.pos_of_ne_zero (Nat.ne_of_beq_eq_false hpos)
  have hvl := hS.at hown
  obtain ⟨v', w', hr, hown', hgr, _, hat⟩ := run_append_own_at (P := C.P) w 0 t o.type e ie z sz by_ hu hie hz hsz hby (by rw [hzc, List.size_toArray, ← len_eq, hl]) hpos' v n xs hvl.2 ⟨b, 0, none⟩ k c cs hlen' hc (ones_all h1)
    (by unfold maxLen; omega) hb3 (Nat.zero_le _)
  have hrun : (execOp a.eval o).run C.P w = .ok (.value v') w' := by
    simp only [execOp, ho, resolve, invoke, builtin, Sem.run_bind, Sem.run_pure, Result.andThen_ok, List.map_toArray, List.map_cons, List.map_nil, hf.ev hs, hf.ev hx, hr]
  refine wpListIn_run (by simp [Region.wanted, hg]) (wpIn_value hrun ?_)
  rw [hd]
  refine h v' _ _ (hf.put _ hn) (hS.upd (hup v') ⟨hgr.os, hgr.tape, hgr.output, hgr.size, fun k hk => by omega⟩ ?_ ⟨fun q hq => ?_, hown'⟩ ?_)
  · intro q hq hne
    exact hgr.block q hq (fun e => hne e.symm)
  · rcases hat with e | e
    · exact hvl.1 q (e ▸ hq)
    · rw [e] at hq
      injection hq with hq
      have := hS.near.size
      exact .inl (by omega)
  · intro q hq
    rcases hat with e | e
    · exact .inl (e.symm.trans hq)
    · simp only [HA.foot, e, Option.some.injEq] at hq
      exact .inr (by omega)
end
end Eng
end Go.Proofs.Ytbejfbekamikpaa

/-
  The engine's frequent rules in one step each.
-/
namespace Go.Proofs.Ytbejfbekamikpaa
namespace Eng
open Go.RowKit
set_option linter.unusedVariables false
section
variable {C : Cx} {F : Fr} {L : List HA} {o : Oper} {K : List KI} {ops : Array Oper} {m : Bool} {rest : List Oper}
theorem gJ (h : J C ops m (o :: rest) K F L) : J C ops m (o :: rest) K F L := h
theorem gF (h : J C ops false (o :: rest) K F L) : J C ops false (o :: rest) K F L := h
theorem gSC {c : Code} (h : SC C c K F L) : SC C c K F L := h
theorem gSQ {e : Exit} (h : SQ C e K F L) : SQ C e K F L := h
theorem gload {t : Nat} {x : Operand} (ho : o.op = .load t x) (hg : o.guard = none) (h : J C ops m (o :: rest) K F L) : J C ops m (o :: rest) K F L := h
theorem gcall {al : Array Operand} {fo : Operand} {ats : Array TypeId} (ho : o.op = .call { callee := .value fo, args := al, argTypes := ats }) (hg : o.guard = none) (h : J C ops m (o :: rest) K F L) : J C ops m (o :: rest) K F L := h
def mvOp : Op → Option Operand
  | .move x => some x
  | .assign x => some x
  | _ => none
def cmpF : BinOp → Int → Int → Option Bool
  | .lss, a, b => some (decide (a < b))
  | .leq, a, b => some (decide (a ≤ b))
  | .gtr, a, b => some (decide (b < a))
  | .geq, a, b => some (decide (b ≤ a))
  | .eql, a, b => some (decide (a = b))
  | .neq, a, b => some (decide (a ≠ b))
  | _, _, _ => none
theorem jcmp {d : Nat} {op : BinOp} {t u : TypeId} {x y : Operand} {k : IntKind} {a b : Int} {r : Bool} (ho : o.op = .binOp op t x y u) (hg : o.guard = none) (hd : o.dst = some d) (hn : Nat.blt d C.n = true)
    (hx : ev F x = some (.int k a)) (hy : ev F y = some (.int k b)) (hr : cmpF op a b = some r) (h : J C ops m rest K ((d, .bool r) :: F) L) : J C ops m (o :: rest) K F L := by
  refine j_q hg hd hn ?_ h
  cases op <;> simp only [cmpF, Option.some.injEq, reduceCtorEq] at hr <;> subst hr
  · exact (q_eql ho hx hy).qt
  · exact (q_neq ho hx hy).qt
  · exact (q_lss ho hx hy).qt
  · exact (q_leq ho hx hy).qt
  · exact (q_gtr ho hx hy).qt
  · exact (q_geq ho hx hy).qt
def arF : BinOp → Int → Int → Option Int
  | .add, a, b => some (a + b)
  | .sub, a, b => some (a - b)
  | .mul, a, b => some (a * b)
  | _, _, _ => none
theorem jar {d : Nat} {op : BinOp} {t u : TypeId} {x y : Operand} {a b r : Int} (ho : o.op = .binOp op t x y u) (hg : o.guard = none) (hd : o.dst = some d) (hn : Nat.blt d C.n = true)
    (hx : ev F x = some (.int .i64 a)) (hy : ev F y = some (.int .i64 b)) (hr : arF op a b = some r) (hb : -9223372036854775808 ≤ r ∧ r ≤ 9223372036854775807) (h : J C ops m rest K ((d, .int .i64 r) :: F) L) : J C ops m (o :: rest) K F L := by
  refine j_q hg hd hn ?_ h
  cases op <;> simp only [arF, Option.some.injEq, reduceCtorEq] at hr <;> subst hr
  · exact (q_add ho hx hy hb).qt
  · exact (q_sub ho hx hy hb).qt
  · exact (q_mul ho hx hy hb).qt
theorem jfield {d t j off b p : Nat} {x : Operand} {ti : TI} {offs szs : List Nat} (ho : o.op = .fieldAddr t x j) (hg : o.guard = none) (hd : o.dst = some d) (hn : Nat.blt d C.n = true) (ht : tget C.tab t = some ti) (hk : ti.kind = .struct offs szs) (hj : offs[j]? = some off)
    (hx : ev F x = some (.pointer (some ⟨b, p, none⟩))) (h : J C ops m rest K ((d, .pointer (some ⟨b, p + off, none⟩)) :: F) L) : J C ops m (o :: rest) K F L := j_q hg hd hn (q_field_own ho ht hk hj hx).qt h
/-! ### Several rules in one -/
def stepF (F : Fr) : Op → Option Value
  | .move x => ev F x
  | .assign x => ev F x
  | .extract x i => match ev F x with
    | some (.tuple vs) => nth vs.toList i
    | _ => none
  | .pick c x y => match ev F c with
    | some (.bool true) => ev F x
    | some (.bool false) => ev F y
    | _ => none
  | .unOp .not _ x => match ev F x with
    | some (.bool c) => some (.bool (!c))
    | _ => none
  | .binOp op _ x y _ => match ev F x, ev F y with
    | some (.int k a), some (.int k' b) => bif decide (k = k') then (cmpF op a b).map Value.bool else none
    | _, _ => none
  | .nilCheck x => match ev F x with
    | some (.pointer (some ad)) => some (.pointer (some ad))
    | _ => none
  | _ => none
theorem js {d : Nat} {v : Value} (h : stepF F o.op = some v) (hg : o.guard = none) (hd : o.dst = some d) (hn : Nat.blt d C.n = true) (k : J C ops m rest K ((d, v) :: F) L) : J C ops m (o :: rest) K F L := by
  cases e : o.op with
  | move y => rw [e] at h; exact j_q hg hd hn (q_move e h).qt k
  | assign y => rw [e] at h; exact j_q hg hd hn (q_assign e h).qt k
  | extract x i =>
    rw [e] at h
    simp only [stepF] at h
    split at h
    · rename_i vs hx
      exact j_q hg hd hn (q_extract (vs := vs.toList) e (by simpa using hx) h).qt k
    · cases h
  | pick c x y =>
    rw [e] at h
    simp only [stepF] at h
    split at h
    · rename_i hx; exact j_q hg hd hn (q_pick_t e hx h).qt k
    · rename_i hx; exact j_q hg hd hn (q_pick_f e hx h).qt k
    · cases h
  | unOp op t x =>
    rw [e] at h
    cases op with
    | not =>
      simp only [stepF] at h
      split at h
      · rename_i c hx
        injection h with h
        subst h
        exact j_q hg hd hn (q_not e hx).qt k
      · cases h
    | _ => cases h
  | binOp op t x y u =>
    rw [e] at h
    simp only [stepF] at h
    split at h
    · rename_i k1 a k2 b hx hy
      by_cases hk : k1 = k2
      · subst hk
        simp only [decide_true, cond_true, Option.map_eq_some_iff] at h
        obtain ⟨r, hr, h⟩ := h
        subst h
        exact jcmp e hg hd hn hx hy hr k
      · simp [hk] at h
    · cases h
  | nilCheck x =>
    rw [e] at h
    simp only [stepF] at h
    split at h
    · rename_i ad hx
      injection h with h
      subst h
      exact j_q hg hd hn (q_nilCheck e hx).qt k
    · cases h
  | _ => rw [e] at h; cases h
def scM : Code → List KI → Option (Code × List KI)
  | .seq x y, K => some (x, .seq y :: K)
  | .block n c, K => some (c, .blk n :: K)
  | _, _ => none
theorem sc_mv {c c' : Code} {K' : List KI} (h : scM c K = some (c', K')) (k : SC C c' K' F L) : SC C c K F L := by
  cases c <;> simp only [scM, Option.some.injEq, Prod.mk.injEq, reduceCtorEq] at h
  · obtain ⟨rfl, rfl⟩ := h; exact sc_seq k
  · obtain ⟨rfl, rfl⟩ := h; exact sc_block k
def scQ : Code → Option Exit
  | .ret => some .ret
  | .exit n => some (.exit n)
  | .skip => some .normal
  | _ => none
theorem sc_q {c : Code} {e : Exit} (h : scQ c = some e) (k : SQ C e K F L) : SC C c K F L := by
  cases c <;> simp only [scQ, Option.some.injEq, reduceCtorEq] at h <;> subst h
  · exact sc_skip k
  · exact sc_exit k
  · exact sc_ret k
def sqG : Exit → List KI → Option (Code × List KI)
  | .normal, .seq y :: K => some (y, K)
  | _, _ => none
theorem sq_go {e : Exit} {c : Code} {K' : List KI} (h : sqG e K = some (c, K')) (k : SC C c K' F L) : SQ C e K F L := by
  unfold sqG at h
  split at h
  · injection h with h
    injection h with h1 h2
    subst h1; subst h2
    exact sq_seq k
  · cases h
def sqM : Exit → List KI → Option (Exit × List KI)
  | .normal, .blk _ :: K => some (.normal, K)
  | .ret, .seq _ :: K => some (.ret, K)
  | .ret, .blk _ :: K => some (.ret, K)
  | .ret, .loop _ :: K => some (.ret, K)
  | .exit n, .seq _ :: K => some (.exit n, K)
  | .exit n, .loop _ :: K => some (.exit n, K)
  | .exit n, .blk n' :: K => some (bif Nat.beq n n' then .normal else .exit n, K)
  | _, _ => none
theorem sq_mv {e e' : Exit} {K' : List KI} (h : sqM e K = some (e', K')) (k : SQ C e' K' F L) : SQ C e K F L := by
  unfold sqM at h
  split at h
  all_goals first
    | (cases h; done)
    | (injection h with h
       injection h with h1 h2
       subst h1; subst h2
       first
         | exact sq_blk k
         | exact sq_seq_ret k
         | exact sq_blk_ret k
         | exact sq_loop_ret k
         | exact sq_seq_exit k
         | exact sq_loop_exit k
         | (rename_i n n' K9
            by_cases hn : n = n'
            · subst hn
              simp only [Nat.beq_refl, cond_true] at k
              exact sq_blk_hit k
            · have hb := beq_ne hn
              rw [hb] at k
              exact sq_blk_miss hb k))
theorem engHC : (∀ (p : Prop) [Decidable p], (decide p = true) = p) ∧ (∀ (p : Prop) [Decidable p], (decide p = false) = ¬ p) ∧ (∀ c : Bool, ((!c) = true) = (c = false)) ∧ (∀ c : Bool, ((!c) = false) = (c = true)) ∧ ((!true) = false) ∧ ((!false) = true) ∧ (∀ {α : Type} (x y : α), (x ≠ y) = ¬ (x = y)) ∧ (∀ (p : Prop) [Decidable p], (¬ ¬ p) = p) :=
  ⟨fun p _ => by simp, fun p _ => by simp, fun c => by simp, fun c => by simp, rfl, rfl, fun x y => rfl, fun p _ => by simp⟩
end
end Eng
end Go.Proofs.Ytbejfbekamikpaa

/-
  Ranges over functions: what an iterator promises, what a loop's body owes, and the loop's rule.
-/
namespace Go.Proofs.Ytbejfbekamikpaa
namespace Eng
open Go.RowKit
set_option linter.unusedVariables false
/-- A call of yield. -/
def YieldRun (P : Program) (l : Nat) (args : List Value) (w : World) (R : Value → World → Prop) : Prop :=
  ∃ fn tmps assign body, (Instr.yield l args.toArray).run P w = .ok (.round l fn tmps assign body) w ∧ RoundIn (fc none) 0 P l fn tmps assign body w (fun e w' => ∃ v, e = .returned v ∧ R v w')
/-- What a loop does with what an iterator hands it: a state, the blocks in which it lies, a step, and whether it goes on. -/
structure Consumer {τ α : Type} (P : Program) (W : World) (S0 : Nat → Prop) (l : Nat) (enc : α → List Value) (ok : α → Prop) (Jn : τ → (Nat → Prop) → World → Prop) (stp : τ → α → τ × Bool) (live : τ → Prop) : Prop where
  step : ∀ s S x w, ok x → live s → Jn s S w → Near W.heap.size S0 W w → YieldRun P l (enc x) w (fun v w' => v = .bool (stp s x).2 ∧ Near w.heap.size S w w' ∧ ∃ S', Jn (stp s x).1 S' w' ∧ ∀ b, S' b → S b ∨ w.heap.size ≤ b)
  goes : ∀ s x, live s → (stp s x).2 = true → live (stp s x).1
  lt : ∀ s S w b, Jn s S w → S b → b < w.heap.size
  stab : ∀ s S w w', Jn s S w → Near W.heap.size S0 w w' → (∀ b, S b → w'.heap[b]? = w.heap[b]?) → (∀ b, S b → S0 b ∨ W.heap.size ≤ b) → Jn s S w'
def runsB {τ α : Type} (stp : τ → α → τ × Bool) : τ → List α → τ
  | s, [] => s
  | s, y :: ys => match stp s y with
    | (s', true) => runsB stp s' ys
    | (s', false) => s'
theorem runsB_cons_t {τ α : Type} {stp : τ → α → τ × Bool} {s : τ} {y : α} {ys : List α} (h : (stp s y).2 = true) : runsB stp s (y :: ys) = runsB stp (stp s y).1 ys := by
  simp only [runsB]
  cases e : stp s y with
  | mk s' b => rw [e] at h; simp only at h; subst h; rfl
theorem runsB_cons_f {τ α : Type} {stp : τ → α → τ × Bool} {s : τ} {y : α} {ys : List α} (h : (stp s y).2 = false) : runsB stp s (y :: ys) = (stp s y).1 := by
  simp only [runsB]
  cases e : stp s y with
  | mk s' b => rw [e] at h; simp only at h; subst h; rfl
theorem Consumer.start {τ α : Type} {P : Program} {W : World} {S0 : Nat → Prop} {l : Nat} {enc : α → List Value} {ok : α → Prop} {Jn : τ → (Nat → Prop) → World → Prop} {stp : τ → α → τ × Bool} {live : τ → Prop}
    (h : Consumer P W S0 l enc ok Jn stp live) {s : τ} (h0 : Jn s S0 W) : St W S0 [.abs S0 (Jn s S0)] W :=
  (St.start W S0).cons ⟨fun b hb => ⟨.inr hb, h.lt _ _ _ _ h0 hb⟩, h0, fun w' hn hk => h.stab _ _ _ _ h0 hn hk (fun b hb => .inl hb)⟩ (fun y hy => by cases hy)
section
variable {C : Cx} {F : Fr} {L : List HA} {o : Oper} {K : List KI} {ops : Array Oper} {m : Bool} {rest : List Oper}
/-- A call of yield, in the iterator. -/
theorem j_yield {τ α : Type} {d l : Nat} {al : List Operand} {fo : Operand} {ats : Array TypeId} {vs : List Value} {enc : α → List Value} {ok : α → Prop} {Jn : τ → (Nat → Prop) → World → Prop} {stp : τ → α → τ × Bool} {live : τ → Prop}
    (hcons : Consumer C.P C.w0 C.hot l enc ok Jn stp live) (ho : o.op = .call { callee := .value fo, args := al.toArray, argTypes := ats }) (hg : o.guard = none) (hd : o.dst = some d) (hn : Nat.blt d C.n = true)
    (hfo : ev F fo = some (.func (.yield l) #[] #[])) (ha : evs F al = some vs) {x : α} (henc : enc x = vs) (hok : ok x) {s : τ} (hlive : live s) {S : Nat → Prop} (hin : InL L (.abs S (Jn s S))) {L' : (Nat → Prop) → List HA}
    (hup : ∀ S', Upd L (.abs S (Jn s S)) (.abs S' (Jn (stp s x).1 S')) (L' S')) (h : ∀ S', J C ops false rest K ((d, .bool (stp s x).2) :: F) (L' S')) : J C ops false (o :: rest) K F L := by
  intro a w hf hs
  have hA := hs.at hin
  obtain ⟨fn, tmps, assign, body, hy, hr⟩ := hcons.step s S x w hok hlive hA.2.1 hs.near
  rw [henc] at hy
  have h1 : al.toArray.map a.eval = vs.toArray := by rw [List.map_toArray, hf.evs ha]
  have hrun : (execOp a.eval o).run C.P w = .ok (.round l fn tmps assign body) w := by
    simp only [execOp, ho, resolve, hf.ev hfo, h1, Deferred.ofValue, Sem.run_bind, Sem.run_pure, Result.andThen_ok, invoke, Array.empty_append, hy]
  refine wpListIn_run (by simp [Region.wanted, hg]) ⟨fun _ _ => trivial, ?_⟩
  rw [show (fc C.rd).round = C.rd from rfl, semAt_of_value hrun (fun d e => by cases e), Oper.uponIn_round]
  refine ⟨fun h => by simp [fc] at h, ?_⟩
  have hr' : RoundIn (fc C.rd) 0 C.P l fn tmps assign body w (fun e w' => ∃ v, e = .returned v ∧ (v = .bool (stp s x).2 ∧ Near w.heap.size S w w' ∧ ∃ S', Jn (stp s x).1 S' w' ∧ ∀ b, S' b → S b ∨ w.heap.size ≤ b)) := hr
  refine hr'.mono fun e w' ⟨v, he, hv, hn', S', hJ, hS'⟩ => ?_
  subst he
  subst hv
  rw [hd]
  have hS'0 : ∀ b, S' b → C.hot b ∨ C.w0.heap.size ≤ b := fun b hb => by
    rcases hS' b hb with h2 | h2
    · rcases (hA.1 b h2).1 with h3 | h3
      · exact .inr h3
      · exact .inl h3
    · exact .inr (Nat.le_trans hs.near.size h2)
  refine h S' _ _ (hf.put _ hn) (hs.upd (hup S') ⟨hn'.os, hn'.tape, hn'.output, hn'.size, fun k hk => by omega⟩ (fun b hb hne => hn'.block b hb hne) ⟨fun b hb => ⟨(hS'0 b hb).symm, hcons.lt _ _ _ _ hJ hb⟩, hJ, fun w'' hnn hk => hcons.stab _ _ _ _ hJ hnn hk hS'0⟩ hS')
end
/-! ### Calls that hand back new memory -/
theorem St.adopt {w0 w w' : World} {hot : Nat → Prop} {L Ln : List HA} (h : St w0 hot L w) (h' : St w Cold Ln w') (habs : ∀ S p, HA.abs S p ∈ Ln → ∀ u u', p u → (∀ b, S b → u'.heap[b]? = u.heap[b]?) → p u') : St w0 hot (Ln ++ L) w' := by
  have h1 := h.later h'.below
  have hft : ∀ b, (w.heap.size ≤ b ∨ Cold b) → w0.heap.size ≤ b ∨ hot b := fun b hb => .inl (Nat.le_trans h.near.size (hb.resolve_right (fun h => h)))
  refine ⟨h1.near, fun x hx => ?_, List.pairwise_append.2 ⟨h'.sep, h.sep, fun x hx y hy b hbx hby => ?_⟩⟩
  · rcases List.mem_append.1 hx with hx | hx
    · have hx' := h'.holds x hx
      cases x with
      | cells b t cs => exact ⟨hft b hx'.1, hx'.2⟩
      | own v e sz n xs => exact ⟨fun b hb => hft b (hx'.1 b hb), hx'.2⟩
      | abs S p => exact ⟨fun b hb => ⟨hft b (hx'.1 b hb).1, (hx'.1 b hb).2⟩, hx'.2.1, fun w'' _ hk => habs S p hx _ _ hx'.2.1 hk⟩
      | pure p => exact hx'
    · exact h1.holds x hx
  · have h2 := ((h'.holds x hx).lt hbx).1
    have h3 := ((h.holds y hy).lt hby).2
    rcases h2 with h2 | h2
    · omega
    · exact h2
section
variable {C : Cx} {F : Fr} {L : List HA} {o : Oper} {K : List KI} {ops : Array Oper} {rest : List Oper}
/-- Assertions of the plain kinds. -/
def plainHA : List HA → Prop
  | [] => True
  | .abs S p :: L => (∀ u u', p u → (∀ b, S b → u'.heap[b]? = u.heap[b]?) → p u') ∧ plainHA L
  | _ :: L => plainHA L
theorem plainHA_abs {L : List HA} (h : plainHA L) (S : Nat → Prop) (p : World → Prop) (hm : HA.abs S p ∈ L) : ∀ u u' : World, p u → (∀ b, S b → u'.heap[b]? = u.heap[b]?) → p u' := by
  induction L with
  | nil => cases hm
  | cons x L ih =>
    rcases List.mem_cons.1 hm with h1 | h1
    · subst h1; exact h.1
    · cases x with
      | abs _ _ => exact ih h.2 h1
      | cells _ _ _ => exact ih h h1
      | own _ _ _ _ _ => exact ih h h1
      | pure _ => exact ih h h1
theorem j_callN {ξ : Type} {al : List Operand} {fo : Operand} {ats : Array TypeId} {f d : Nat} {caps vs : List Value} (ho : o.op = .call { callee := .value fo, args := al.toArray, argTypes := ats })
    (hg : o.guard = none) (hd : o.dst = some d) (hn : Nat.blt d C.n = true) (hfo : ev F fo = some (.func (.func f) #[] caps.toArray)) (ha : evs F al = some vs) (hc : has C.fns f = true) (V : ξ → Value) (pre : ξ → Prop) (Ln : ξ → List HA)
    (hcall : ∀ w, St C.w0 C.hot L w → Calls C.P f (vs ++ caps).toArray w (fun e w' => ∃ x, pre x ∧ e = .returned (V x) ∧ St w Cold (Ln x) w')) (hpl : ∀ x, plainHA (Ln x))
    (h : ∀ x, pre x → J C ops false rest K ((d, V x) :: F) (Ln x ++ L)) : J C ops false (o :: rest) K F L := by
  refine j_call V pre (fun x => Ln x ++ L) ho hg hd hn hfo ha hc (fun w hs => (hcall w hs).mono fun e w' ⟨x, hp, he, hs'⟩ => ⟨x, hp, he, hs.adopt hs' (plainHA_abs (hpl x))⟩) h
end
/-! ### The loop -/
def haRec (l : Nat) (r : Loop) : HA := .abs (· = l) (fun w => w.heap[l]? = some (.loop r))
def haDef (D : Nat) : HA := .abs (· = D) (fun w => w.heap[D]? = some (.deferred (some [])))
theorem haObj_holds {B : Nat} {hot : Nat → Prop} {w : World} {l : Nat} {o : Obj} (hb : B ≤ l ∨ hot l) (h : w.heap[l]? = some o) : (HA.abs (· = l) (fun w => w.heap[l]? = some o)).holds B hot w :=
  ⟨fun b hb' => by subst hb'; exact ⟨hb, (Array.getElem?_eq_some_iff.1 h).1⟩, h, fun w' _ hk => (hk l rfl).trans h⟩
/-- The blocks of a list of assertions. -/
def foots (L : List HA) (b : Nat) : Prop := ∃ x ∈ L, x.foot b
structure LoopIx (σ ξ α : Type) where
  enc : α → List Value
  stp : σ → α → σ × Option Code
  LI : σ → ξ → List HA
def runsJ {σ α : Type} (stp : σ → α → σ × Option Code) : σ → List α → σ × Option Code
  | s, [] => (s, none)
  | s, y :: ys => match stp s y with
    | (s', none) => runsJ stp s' ys
    | (s', some c) => (s', some c)
/-- The step as an iterator sees it. -/
def stpB {σ α : Type} (stp : σ → α → σ × Option Code) (t : σ × Option Code) (x : α) : (σ × Option Code) × Bool := (stp t.1 x, (stp t.1 x).2.isNone)
theorem runsB_runsJ {σ α : Type} (stp : σ → α → σ × Option Code) : ∀ (ys : List α) (s : σ), runsB (stpB stp) (s, none) ys = runsJ stp s ys
  | [], s => rfl
  | y :: ys, s => by
    simp only [runsJ]
    cases e : stp s y with
    | mk s' j =>
      cases j with
      | none =>
        rw [runsB_cons_t (by simp [stpB, e])]
        simp only [stpB, e]
        exact runsB_runsJ stp ys s'
      | some c =>
        rw [runsB_cons_f (by simp [stpB, e])]
        simp [stpB, e]
/-- An iterator's promise: it hands over just these, one after the other, and writes nothing but what its caller's loop writes. -/
def Iterates (P : Program) (gf : Nat) (lb : List Value) {α : Type} (enc : α → List Value) (ok : α → Prop) (ys : List α) (W : World) (S0 : Nat → Prop) : Prop :=
  ∀ (τ : Type) (Jn : τ → (Nat → Prop) → World → Prop) (stp : τ → α → τ × Bool) (live : τ → Prop) (s0 : τ) (l : Nat), Consumer P W S0 l enc ok Jn stp live → live s0 → Jn s0 S0 W →
    Calls P gf ((Value.func (.yield l) #[] #[]) :: lb).toArray W (fun e W' => (∃ v, e = .returned v) ∧ Near W.heap.size S0 W W' ∧ ∃ S', Jn (runsB stp s0 ys) S' W' ∧ ∀ b, S' b → S0 b ∨ W.heap.size ≤ b)
section
variable {C : Cx} {F : Fr} {L : List HA} {K : List KI}
theorem foots_old {B : Nat} {w0 w : World} {hot : Nat → Prop} (h : St w0 hot L w) {b : Nat} (hb : foots L b) : (w0.heap.size ≤ b ∨ hot b) ∧ b < w.heap.size := by
  obtain ⟨x, hx, hf⟩ := hb
  exact (h.holds x hx).lt hf
/-- From the loop's own view of memory to a round's, and back. -/
theorem St.round {w0 w : World} {hot : Nat → Prop} (h : St w0 hot L w) : St w (foots L) L w := by
  refine ⟨Near.refl _ _ _, fun x hx => ?_, h.sep⟩
  have hx' := h.holds x hx
  have hft : ∀ b, x.foot b → w.heap.size ≤ b ∨ foots L b := fun b hb => .inr ⟨x, hx, hb⟩
  cases x with
  | cells b t cs => exact ⟨hft b rfl, hx'.2⟩
  | own v e sz n xs => exact ⟨fun b hb => hft b hb, hx'.2⟩
  | abs S p =>
    refine ⟨fun b hb => ⟨hft b hb, (hx'.1 b hb).2⟩, hx'.2.1, fun w' hn hk => hx'.2.2 w' ⟨hn.os, hn.tape, hn.output, hn.size, fun k hk' hnot => hn.block k (Nat.lt_of_lt_of_le hk' h.near.size) (fun hf => by
      rcases (foots_old (B := 0) h hf).1 with h3 | h3
      · omega
      · exact hnot h3)⟩ hk⟩
  | pure p => exact hx'
/-- Whoever is outside sees what a round has left. -/
theorem St.unround {w0 w w' : World} {hot : Nat → Prop} {L L' : List HA} (h : St w0 hot L w) (h' : St w (foots L) L' w') (habs : ∀ S p, HA.abs S p ∈ L' → ∀ u u', p u → (∀ b, S b → u'.heap[b]? = u.heap[b]?) → p u') : St w0 hot L' w' := by
  have hn : Near w0.heap.size hot w w' := ⟨h'.near.os, h'.near.tape, h'.near.output, h'.near.size, fun k hk hnot => h'.near.block k (Nat.lt_of_lt_of_le hk h.near.size) (fun hf => by
      rcases (foots_old (B := 0) h hf).1 with h3 | h3
      · omega
      · exact hnot h3)⟩
  have hft : ∀ b, (w.heap.size ≤ b ∨ foots L b) → w0.heap.size ≤ b ∨ hot b := fun b hb => by
    rcases hb with h3 | h3
    · exact .inl (Nat.le_trans h.near.size h3)
    · exact (foots_old (B := 0) h h3).1
  refine ⟨h.near.trans hn, fun x hx => ?_, h'.sep⟩
  have hx' := h'.holds x hx
  cases x with
  | cells b t cs => exact ⟨hft b hx'.1, hx'.2⟩
  | own v e sz n xs => exact ⟨fun b hb => hft b (hx'.1 b hb), hx'.2⟩
  | abs S p => exact ⟨fun b hb => ⟨hft b (hx'.1 b hb).1, (hx'.1 b hb).2⟩, hx'.2.1, fun w'' _ hk => habs S p hx _ _ hx'.2.1 hk⟩
  | pure p => exact hx'
end
/-- What a call of a round leaves of the caller's memory. -/
theorem St.inner {w0 w w' : World} {hot : Nat → Prop} {L L' : List HA} (h : St w0 hot L w) (h' : St w (foots L) L' w') : Near w0.heap.size hot w0 w' :=
  h.near.trans ⟨h'.near.os, h'.near.tape, h'.near.output, h'.near.size, fun k hk hnot => h'.near.block k (Nat.lt_of_lt_of_le hk h.near.size) (fun hf => by
      rcases (foots_old (B := 0) h hf).1 with h3 | h3
      · omega
      · exact hnot h3)⟩
def Cx.mark (C : Cx) (D : Nat) : Cx := { C with ds := { target := .collected D, args := #[] } :: C.ds }
theorem kpost_mark (C : Cx) (D : Nat) : ∀ K, kpost (C.mark D) K = kpost C K
  | [] => rfl
  | .seq c :: K => by simp only [kpost, kpost_mark C D K]; rfl
  | .blk id :: K => by simp only [kpost, kpost_mark C D K]
  | .loop J :: K => by simp only [kpost, kpost_mark C D K]
  | .fin J :: K => rfl
/-- The frame and the memory of a round. -/
def Cx.inRound (C : Cx) (l : Nat) (Q : Exit → Act → World → Prop) (W1 : World) (hot : Nat → Prop) : Cx := { C with rd := some l, ds := [], Qr := Q, w0 := W1, hot := hot }
def recSt (r : Loop) : Option Code → Loop
  | none => { r with state := .ready, pending := none }
  | some c => { r with state := .done, pending := some c }
def roundStart (C : Cx) (l : Nat) (body : Code) : Act → World → Prop := fun a w => ∃ w₂, (Instr.beginRound l).run C.P w = .ok () w₂ ∧ body.wpIn (fc (some l)) 0 C.P C.Qf a w₂
section
variable {C : Cx} {F : Fr} {L : List HA} {K : List KI}
theorem st_putObj {w0 w : World} {hot : Nat → Prop} {L' : List HA} {l : Nat} {o o' : Obj} (hs : St w0 hot L w) (hu : Upd L (.abs (· = l) (fun w => w.heap[l]? = some o)) (.abs (· = l) (fun w => w.heap[l]? = some o')) L') : St w0 hot L' (w.putObj l o') := by
  obtain ⟨M, h1, _⟩ := hu.perm
  have hA := (hs.perm h1).head
  have hlt := (hA.1 l rfl).2
  refine hs.upd hu ⟨rfl, rfl, rfl, by simp, fun k hk => by omega⟩ (fun b hb hne => World.putObj_heap_other (fun e => hne e)) (haObj_holds (hA.1 l rfl).1 (World.putObj_heap_same hlt)) (fun b hb => .inl hb)
theorem sq_begin {l : Nat} {r : Loop} {body : Code} {L' : List HA} (hrd : C.rd = some l) (hr : r.state = .ready) (hu : Upd L (haRec l r) (haRec l { r with state := .busy }) L') (h : SC C body [] F L') : SQ C .normal [.fin (roundStart C l body)] F L := by
  intro a w hf hs
  obtain ⟨M, h1, _⟩ := hu.perm
  have hA := (hs.perm h1).head
  refine ⟨_, run_beginRound hA.2.1 hr, ?_⟩
  have := h a _ hf (st_putObj hs hu)
  rw [hrd] at this
  exact this
def jumpOf : Exit → Option (Option Code)
  | .normal => some none
  | .ret => some (some .ret)
  | .exit id => some (some (.exit id))
  | .goto t => some (some (.goto t))
  | _ => none
/-- A round's end. -/
theorem sq_round {l : Nat} {r : Loop} {e : Exit} {jump : Option Code} {L' : List HA} {R : Ending → World → Prop} (hrd : C.rd = some l) (hQ : C.Qr = roundPost C.P l R) (hj : jumpOf e = some jump) (hr : Rem L (haRec l { r with state := .busy }) L')
    (h : ∀ w', St C.w0 C.hot (haRec l (recSt r jump) :: L') w' → R (.returned (.bool jump.isNone)) w') : SQ C e [] F L := by
  intro a w hf hs
  show C.Qf e a w
  have hQf : C.Qf = roundPost C.P l R := by unfold Cx.Qf; rw [hrd]; exact hQ
  rw [hQf]
  have hs1 := hs.perm hr.perm
  have hA := hs1.head
  have h1 := h _ (st_putObj hs1 (o' := .loop (recSt r jump)) Upd.here)
  have h2 := run_endRound (P := C.P) jump hA.2.1
  have e2 : recSt r jump = { { r with state := .busy } with state := if jump.isNone then .ready else .done, pending := jump } := by cases jump <;> rfl
  rw [e2] at h1
  cases e <;> simp only [jumpOf, Option.some.injEq, reduceCtorEq] at hj <;> subst hj <;> exact ⟨_, _, h2, h1⟩
/-- The function's end, behind one range over a function. -/
theorem sq_endm {e : Exit} {D : Nat} {L' : List HA} (he : e = .ret ∨ e = .normal) (hrd : C.rd = none) (hds : C.ds = [{ target := .collected D, args := #[] }]) (hr : Rem L (haDef D) L')
    (h : ∃ vs, RVs C F L' C.rs vs ∧ ∀ w, St C.w0 C.hot L' w → C.R (.returned (pack vs)) w) : SQ C e [] F L := by
  obtain ⟨vs, hv, hR⟩ := h
  intro a w hf hs
  show C.Qf e a w
  have hQ : C.Qf = bodyPostM (fc none) 0 C.P C.fn C.R := by unfold Cx.Qf; rw [hrd]
  rw [hQ]
  have hd : a.defers = [{ target := .collected D, args := #[] }] := hf.dfr.trans hds
  have hs1 := hs.perm hr.perm
  have hA := hs1.head
  have hs2 : St C.w0 C.hot L' (w.putObj D (.deferred none)) := (st_putObj hs1 (o' := .deferred none) Upd.here).tail
  have hl : LeavesInM (fc none) 0 C.P C.fn a.tmps C.R a.defers .returning w := by
    rw [hd]
    exact ⟨by simp, .inl ⟨D, _, rfl, run_takeDeferred hA.2.1, ⟨_, results_run C.hrs hv hf hs2, hR _ hs2⟩⟩⟩
  rcases he with rfl | rfl
  · exact hl
  · exact hl
def parFr : List Tmp → List Value → Fr → Fr
  | p :: ps, v :: vs, F => parFr ps vs ((p, v) :: F)
  | _, _, F => F
theorem parFr_fits : ∀ (ps : List Tmp) (vs : List Value) (F : Fr) (n : Nat) (ds : List Deferred) (t : Array Value), (∀ p ∈ ps, p < n) → Fits n ds F ⟨t, ds⟩ →
    Fits n ds (parFr ps vs F) ⟨(ps.zip vs).foldl (fun tmps (x : Tmp × Value) => tmps.setIfInBounds x.1 x.2) t, ds⟩
  | [], vs, F, n, ds, t, _, h => by cases vs <;> exact h
  | p :: ps, [], F, n, ds, t, _, h => h
  | p :: ps, v :: vs, F, n, ds, t, hp, h => by
    have h1 := h.put (d := p) v (by rw [Nat.blt_eq]; exact hp p List.mem_cons_self)
    exact parFr_fits ps vs _ n ds _ (fun q hq => hp q (List.mem_cons_of_mem _ hq)) h1
theorem parsLt {ps : List Tmp} {n : Nat} (h : ps.all (fun p => Nat.blt p n) = true) : ∀ p ∈ ps, p < n := fun p hp => by
  have := List.all_eq_true.1 h p hp
  rwa [Nat.blt_eq] at this
/-- 'for x := range g { body }'. -/
theorem sc_range {σ ξ α : Type} {g : Operand} {ps : List Tmp} {assign body : Code} {gf : Nat} {lb : List Value} (enc : α → List Value) (ok : α → Prop) (ys : List α) (stp : σ → α → σ × Option Code) (LI : σ → ξ → List HA) (s0 : σ) (i0 : ξ)
    (hrd : C.rd = none) (hg : ev F g = some (.func (.func gf) #[] lb.toArray)) (hcal : has C.fns gf = true) (hps : ∀ x, (enc x).length = ps.length) (hpn : ∀ p ∈ ps, p < C.n) (hL : LSub (LI s0 i0) L)
    (hab : ∀ s i S p, HA.abs S p ∈ LI s i → ∀ u u', p u → (∀ b, S b → u'.heap[b]? = u.heap[b]?) → p u')
    (hiter : ∀ w l D r, St C.w0 C.hot (haRec l r :: haDef D :: LI s0 i0) w → Iterates C.P gf lb enc ok ys w (foots (haRec l r :: haDef D :: LI s0 i0)))
    (hbody : ∀ (l D : Nat) (r : Loop) (W1 : World) (s : σ) (i : ξ) (x : α) (Q : Exit → Act → World → Prop), ok x → r.state = .ready → St C.w0 C.hot (haRec l r :: haDef D :: LI s i) W1 →
      (∀ (e : Exit) (jump : Option Code) (i' : ξ) (F' : Fr) (L' M : List HA), jumpOf e = some jump → (stp s x).2 = jump → Rem L' (haRec l { r with state := .busy }) M → LSub (haDef D :: LI (stp s x).1 i') M → SQ (C.inRound l Q W1 (foots (haRec l r :: haDef D :: LI s i))) e [] F' L') →
      SC (C.inRound l Q W1 (foots (haRec l r :: haDef D :: LI s i))) assign [.fin (roundStart (C.inRound l Q W1 (foots (haRec l r :: haDef D :: LI s i))) l body)] (parFr ps (enc x) F) (haRec l r :: haDef D :: LI s i))
    (hend : ∀ D i, (runsJ stp s0 ys).2 = none → SQ (C.mark D) .normal K F (haDef D :: LI (runsJ stp s0 ys).1 i))
    (hjump : ∀ D i c, (runsJ stp s0 ys).2 = some c → SC (C.mark D) c K F (haDef D :: LI (runsJ stp s0 ys).1 i)) : SC C (.rangeFunc g ps.toArray assign body) K F L := by
  intro a w hf hs
  rw [hrd]
  have hs0 := hs.sub hL
  refine wpIn_rangeFunc fun fn _ => ?_
  obtain ⟨r, hr⟩ : ∃ r : Loop, r = { state := .ready, pending := none, fn, tmps := a.tmps, params := ps.toArray, assign, body, defers := w.heap.size } := ⟨_, rfl⟩
  obtain ⟨W, hW⟩ : ∃ W, (w.alloc (.deferred (some []))).alloc (.loop r) = W := ⟨_, rfl⟩
  have hSW : St C.w0 C.hot (haRec (w.heap.size + 1) r :: haDef w.heap.size :: LI s0 i0) W := by
    have h1 : St C.w0 C.hot (haDef w.heap.size :: LI s0 i0) (w.alloc (.deferred (some []))) :=
      hs0.alloc _ (fun b hb => hb) (haObj_holds (.inl hs0.near.size) (World.alloc_heap_new w _))
    have h2 := World.alloc_heap_new (w.alloc (.deferred (some []))) (.loop r)
    rw [World.size_alloc] at h2
    rw [← hW]
    refine h1.alloc _ (fun b hb => by rw [World.size_alloc]; exact hb) (haObj_holds (.inl (by have := hs0.near.size; omega)) h2)
  obtain ⟨S0, hS0⟩ : ∃ S0, foots (haRec (w.heap.size + 1) r :: haDef w.heap.size :: LI s0 i0) = S0 := ⟨_, rfl⟩
  have hready : r.state = .ready := by rw [hr]
  have hr0 : recSt r none = r := by rw [hr]; rfl
  -- the loop's own state, as an iterator sees it
  obtain ⟨Jn, hJn⟩ : ∃ Jn : σ × Option Code → (Nat → Prop) → World → Prop, Jn = fun t S w' => ∃ i, St C.w0 C.hot (haRec (w.heap.size + 1) (recSt r t.2) :: haDef w.heap.size :: LI t.1 i) w' ∧ ∀ b, S b ↔ foots (haRec (w.heap.size + 1) (recSt r t.2) :: haDef w.heap.size :: LI t.1 i) b := ⟨_, rfl⟩
  have habs : ∀ (rr : Loop) s i S p, HA.abs S p ∈ (haRec (w.heap.size + 1) rr :: haDef w.heap.size :: LI s i) → ∀ u u' : World, p u → (∀ b, S b → u'.heap[b]? = u.heap[b]?) → p u' := by
    intro rr s i S p hm u u' hp hk
    rcases List.mem_cons.1 hm with hm | hm
    · unfold haRec at hm
      injection hm with h1 h2
      subst h1; subst h2
      exact (hk _ rfl).trans hp
    · rcases List.mem_cons.1 hm with hm | hm
      · unfold haDef at hm
        injection hm with h1 h2
        subst h1; subst h2
        exact (hk _ rfl).trans hp
      · exact hab s i S p hm u u' hp hk
  have hcons : Consumer C.P W S0 (w.heap.size + 1) enc ok Jn (stpB stp) (fun t => t.2 = none) := by
    refine ⟨?_, ?_, ?_, ?_⟩
    · rintro ⟨s, j⟩ S x W1 hok hlive hJ hn
      simp only at hlive
      subst hlive
      rw [hJn] at hJ
      obtain ⟨i, hSt, hS⟩ := hJ
      rw [hr0] at hSt hS
      have hrec : W1.heap[w.heap.size + 1]? = some (.loop r) := hSt.head.2.1
      refine ⟨_, _, _, _, run_yield (P := C.P) hrec (by rw [hr]; simp [hps x]), ?_⟩
      let R : Ending → World → Prop := fun e w' => ∃ v, e = .returned v ∧ (v = .bool (stpB stp (s, none) x).2 ∧ Near W1.heap.size S W1 w' ∧ ∃ S', Jn (stpB stp (s, none) x).1 S' w' ∧ ∀ b, S' b → S b ∨ W1.heap.size ≤ b)
      have hfx : Fits C.n [] (parFr ps (enc x) F) ⟨(ps.zip (enc x)).foldl (fun tmps (x : Tmp × Value) => tmps.setIfInBounds x.1 x.2) a.tmps, []⟩ :=
        parFr_fits ps (enc x) F C.n [] a.tmps hpn ⟨rfl, hf.size, hf.get⟩
      have hend' : ∀ (e : Exit) (jump : Option Code) (i' : ξ) (F' : Fr) (L' M : List HA), jumpOf e = some jump → (stp s x).2 = jump → Rem L' (haRec (w.heap.size + 1) { r with state := .busy }) M → LSub (haDef w.heap.size :: LI (stp s x).1 i') M →
          SQ (C.inRound (w.heap.size + 1) (roundPost C.P (w.heap.size + 1) R) W1 (foots (haRec (w.heap.size + 1) r :: haDef w.heap.size :: LI s i))) e [] F' L' := by
        intro e jump i' F' L' M hj hstp hrem hsub
        refine sq_round (R := R) rfl rfl hj hrem fun w' hSt' => ?_
        have hSt1 : St W1 (foots (haRec (w.heap.size + 1) r :: haDef w.heap.size :: LI s i)) (haRec (w.heap.size + 1) (recSt r jump) :: haDef w.heap.size :: LI (stp s x).1 i') w' := by
          refine St.sub (L := haRec (w.heap.size + 1) (recSt r jump) :: M) hSt' ?_
          exact LSub.cons Rem.here hsub
        have hout := St.unround hSt hSt1 (habs _ _ _)
        refine ⟨_, rfl, ?_, ⟨hSt1.near.os, hSt1.near.tape, hSt1.near.output, hSt1.near.size, fun k hk hnot => hSt1.near.block k hk (fun hb => hnot ((hS k).2 hb))⟩, foots (haRec (w.heap.size + 1) (recSt r jump) :: haDef w.heap.size :: LI (stp s x).1 i'), ?_, ?_⟩
        · simp only [stpB]; rw [hstp]
        · rw [hJn]
          refine ⟨i', ?_, fun b => ?_⟩
          · simp only [stpB]; rw [hstp]; exact hout
          · simp only [stpB]; rw [hstp]
        · intro b hb
          rcases (foots_old (B := 0) hSt1 hb).1 with h3 | h3
          · exact .inr h3
          · exact .inl ((hS b).2 h3)
      have hb := hbody (w.heap.size + 1) w.heap.size r W1 s i x (roundPost C.P (w.heap.size + 1) R) hok hready hSt hend'
      have hb1 := hb _ W1 hfx hSt.round
      refine (roundIn_of_wpIn (F := fc none) (n := 0) trivial ?_ : RoundIn (fc none) 0 C.P (w.heap.size + 1) _ _ _ _ W1 R)
      have e1 : ((r.params.zip (enc x).toArray).foldl (fun tmps (t, a) => tmps.setIfInBounds t a) r.tmps) = (ps.zip (enc x)).foldl (fun tmps (x : Tmp × Value) => tmps.setIfInBounds x.1 x.2) a.tmps := by
        rw [hr]
        simp only [List.zip_toArray, List.foldl_toArray]
      have e2 : r.assign = assign := by rw [hr]
      have e3 : r.body = body := by rw [hr]
      rw [e1, e2, e3]
      exact hb1
    · rintro ⟨s, j⟩ x hlive hgo
      simp only [stpB] at hgo ⊢
      cases h : (stp s x).2 with
      | none => rfl
      | some c => rw [h] at hgo; simp at hgo
    · rintro ⟨s, j⟩ S W1 b hJ hb
      rw [hJn] at hJ
      obtain ⟨i, hSt, hS⟩ := hJ
      exact (foots_old (B := 0) hSt ((hS b).1 hb)).2
    · rintro ⟨s, j⟩ S W1 W2 hJ hn hk hSb
      rw [hJn] at hJ ⊢
      obtain ⟨i, hSt, hS⟩ := hJ
      have hn' : Near C.w0.heap.size C.hot W1 W2 := ⟨hn.os, hn.tape, hn.output, hn.size, fun k hk' hnot => hn.block k (Nat.lt_of_lt_of_le hk' hSW.near.size) (fun hb => by
        rw [← hS0] at hb
        rcases (foots_old (B := 0) hSW hb).1 with h3 | h3
        · omega
        · exact hnot h3)⟩
      refine ⟨i, ⟨hSt.near.trans hn', fun y hy => (hSt.holds y hy).keep (fun b hb => hk b ((hS b).2 ⟨y, hy, hb⟩)) hn', hSt.sep⟩, hS⟩
  have hit := hiter W (w.heap.size + 1) w.heap.size r hSW _ Jn (stpB stp) (fun t => t.2 = none) (s0, none) (w.heap.size + 1)
  rw [hS0] at hit
  have hJ0 : Jn (s0, none) S0 W := by
    rw [hJn]
    refine ⟨i0, by rw [hr0]; exact hSW, fun b => by rw [hr0, hS0]⟩
  have hcall := hit hcons rfl hJ0
  have hrun := call_run (callable_of hcal) ((Value.func (.yield (w.heap.size + 1)) #[] #[]) :: lb).toArray W
  refine ⟨w.heap.size + 1, [{ target := .collected w.heap.size, args := #[] }], W, { target := .fn (.func gf) lb.toArray, args := #[.func (.yield (w.heap.size + 1)) #[] #[]] }, W, gf, ((Value.func (.yield (w.heap.size + 1)) #[] #[]) :: lb).toArray, W, ?_, ?_, fun _ _ => trivial, ?_, fun h => by simp [fc] at h, ?_⟩
  · rw [← hW, hr]; exact run_enterLoop_outer _ _ _ _ _
  · have h1 := hf.ev hg
    simp only [resolve, h1]
    simp [Deferred.ofValue, Act.eval]
  · simp only [invoke]
    have : (#[Value.func (.yield (w.heap.size + 1)) #[] #[]] ++ lb.toArray) = ((Value.func (.yield (w.heap.size + 1)) #[] #[]) :: lb).toArray := by simp
    rw [this]
    exact hrun
  · refine callsIn_fc.2 (hcall.mono fun e W' ⟨⟨v, he⟩, hn, S', hJ, hS'⟩ => ?_)
    subst he
    rw [runsB_runsJ, hJn] at hJ
    obtain ⟨i, hSt, hS⟩ := hJ
    have hrec : W'.heap[w.heap.size + 1]? = some (.loop (recSt r (runsJ stp s0 ys).2)) := hSt.head.2.1
    have hpend : (recSt r (runsJ stp s0 ys).2).pending = (runsJ stp s0 ys).2 := by cases (runsJ stp s0 ys).2 <;> rfl
    have hbz : (recSt r (runsJ stp s0 ys).2).state ≠ .busy := by cases (runsJ stp s0 ys).2 <;> simp [recSt]
    have hfm : Fits C.n (C.mark w.heap.size).ds F { a with defers := [{ target := .collected w.heap.size, args := #[] }] ++ a.defers } := ⟨by simp [Cx.mark, hf.dfr], hf.size, hf.get⟩
    have hStm := (st_putObj hSt (o' := .loop { recSt r (runsJ stp s0 ys).2 with state := .exhausted }) Upd.here).tail
    refine ⟨_, _, run_endLoop hrec hbz, ?_⟩
    rw [hpend]
    cases hj : (runsJ stp s0 ys).2 with
    | none =>
      have := hend w.heap.size i hj _ _ hfm (by rw [hj] at hStm; exact hStm)
      rw [kpost_mark] at this
      exact this
    | some c =>
      have := hjump w.heap.size i c hj _ _ hfm (by rw [hj] at hStm; exact hStm)
      rw [kpost_mark] at this
      rw [show (C.mark w.heap.size).rd = none from hrd] at this
      exact this
end
end Eng
end Go.Proofs.Ytbejfbekamikpaa

/-
  Maps keyed by integers: a list of pairs, in the order in which they came.
-/
namespace Go.Proofs.Ytbejfbekamikpaa
namespace Eng
open Go.RowKit
set_option linter.unusedVariables false
def mlk : List (Int × Value) → Int → Option Value
  | [], _ => none
  | (k', v) :: M, k => if k' = k then some v else mlk M k
def mset : List (Int × Value) → Int → Value → List (Int × Value)
  | [], k, v => [(k, v)]
  | (k', v') :: M, k, v => if k' = k then (k', v) :: M else (k', v') :: mset M k v
def pairs (l : List MapEntry) : List (Value × Value) := l.map fun e => (e.key, e.val)
def ipairs (ik : IntKind) (M : List (Int × Value)) : List (Value × Value) := M.map fun p => (Value.int ik p.1, p.2)
def imapOk (ik : IntKind) (M : List (Int × Value)) (o : Obj) : Prop :=
  ∃ es clk, o = .map es clk ∧ pairs es.toList = ipairs ik M ∧ (∀ e ∈ es.toList, e.born < clk) ∧ (es.toList.map (·.born)).Nodup
def haMap (b : Nat) (ik : IntKind) (M : List (Int × Value)) : HA := .abs (· = b) (fun w => ∃ o, w.heap[b]? = some o ∧ imapOk ik M o)
theorem haMap_holds {B : Nat} {hot : Nat → Prop} {w : World} {b : Nat} {ik : IntKind} {M : List (Int × Value)} {o : Obj} (hb : B ≤ b ∨ hot b) (h : w.heap[b]? = some o) (ho : imapOk ik M o) : (haMap b ik M).holds B hot w :=
  ⟨fun c hc => by subst hc; exact ⟨hb, (Array.getElem?_eq_some_iff.1 h).1⟩, ⟨o, h, ho⟩, fun w' _ hk => ⟨o, (hk b rfl).trans h, ho⟩⟩
theorem find_spec (ik : IntKind) (k : Int) : ∀ (l : List MapEntry) (M : List (Int × Value)) (n : Nat), pairs l = ipairs ik M →
    (mlk M k = none → Instr.findNow (.int ik) (.int ik k) l n = some none ∧ ∀ v, ipairs ik (mset M k v) = ipairs ik M ++ [(.int ik k, v)]) ∧
    (∀ v, mlk M k = some v → ∃ i, Instr.findNow (.int ik) (.int ik k) l n = some (some (n + i, v)) ∧ i < l.length ∧ (∃ e, l[i]? = some e ∧ e.key = .int ik k) ∧ ∀ v', pairs (l.modify i fun e => { e with key := .int ik k, val := v' }) = ipairs ik (mset M k v'))
  | [], M, n, h => by
    cases M with
    | nil => exact ⟨fun _ => ⟨rfl, fun v => rfl⟩, fun v hv => by simp [mlk] at hv⟩
    | cons p M => simp [pairs, ipairs] at h
  | e :: l, M, n, h => by
    cases M with
    | nil => simp [pairs, ipairs] at h
    | cons p M =>
      obtain ⟨k', u⟩ := p
      simp only [pairs, ipairs, List.map_cons, List.cons.injEq, Prod.mk.injEq] at h
      obtain ⟨⟨h1, h2⟩, h3⟩ := h
      have ih := find_spec ik k l M (n + 1) h3
      by_cases hk : k' = k
      · subst hk
        refine ⟨fun hn => by simp [mlk] at hn, fun v hv => ?_⟩
        simp only [mlk, if_true, Option.some.injEq] at hv
        refine ⟨0, ?_, by simp, ⟨e, rfl, h1⟩, fun v' => ?_⟩
        · simp [Instr.findNow, h1, Instr.sameNow, h2, hv]
        · simp only [mset, if_true]
          simp only [pairs, ipairs] at h3 ⊢
          simp [List.modify, List.modifyTailIdx, List.modifyTailIdx.go, h3]
      · have hne : (k == k') = false := by simp; exact fun h => hk h.symm
        have hnow : Instr.findNow (.int ik) (.int ik k) (e :: l) n = Instr.findNow (.int ik) (.int ik k) l (n + 1) := by
          simp [Instr.findNow, h1, Instr.sameNow, hne]
        refine ⟨fun hn => ?_, fun v hv => ?_⟩
        · simp only [mlk, if_neg hk] at hn
          obtain ⟨a1, a2⟩ := ih.1 hn
          refine ⟨hnow.trans a1, fun v => ?_⟩
          have := a2 v
          simp only [ipairs] at this ⊢
          simp [mset, if_neg hk, this]
        · simp only [mlk, if_neg hk] at hv
          obtain ⟨i, a1, a2, a3, a4⟩ := ih.2 v hv
          refine ⟨i + 1, ?_, by simp; omega, ?_, fun v' => ?_⟩
          · rw [hnow, a1]; congr 3; omega
          · simpa using a3
          · have := a4 v'
            simp only [pairs, ipairs] at this ⊢
            simp [mset, if_neg hk, this, h1, h2]
section
variable {C : Cx} {F : Fr} {L : List HA} {o : Oper} {K : List KI} {ops : Array Oper} {m : Bool} {rest : List Oper}
theorem tk_map {P : Program} {t : TypeId} {ti : TI} (h : TIok P t ti) {k e : Nat} (hk : ti.kind = .map k e) : P.underlying t = some (.map k e) := by
  have := h.kind
  rw [hk] at this
  simp only [TK.check] at this
  split at this
  · rename_i k' e' hu
    simp only [decide_eq_true_eq] at this
    obtain ⟨rfl, rfl⟩ := this
    exact hu
  · cases this
theorem run_checkKey_ {P : Program} {t : TypeId} {ik : IntKind} (h : P.underlying t = some (.int ik)) (b : Bool) (k : Int) (w : World) (n : Nat) : (Instr.checkKey b (n + 1) t (.int ik k)).run P w = .ok () w := by
  simp [Instr.checkKey, run_underlying h]
theorem run_checkKey {P : Program} {t : TypeId} {ik : IntKind} (h : P.underlying t = some (.int ik)) (b : Bool) (k : Int) (w : World) : (Instr.checkKey b 10000 t (.int ik k)).run P w = .ok () w := run_checkKey_ h b k w 9999
theorem sameBits_ (n : Nat) (ik : IntKind) (k : Int) : Instr.sameBits n (.int ik k) (.int ik k) = true := by cases n <;> simp [Instr.sameBits]
theorem run_zeroValue {P : Program} {t : TypeId} {ti : TI} (h : TIok P t ti) (w : World) : (zeroValue t).run P w = .ok ti.zv w := by
  obtain ⟨i, z, hi, hz, _, _, hzv⟩ := zero_cells h
  subst hzv
  simp [zeroValue, typeInfo, hi, hz]
theorem run_lookup {P : Program} {t kt et : TypeId} {ti tk te : TI} {ik : IntKind} (ht : TIok P t ti) (hk : ti.kind = .map kt et) (htk : TIok P kt tk) (hkk : tk.kind = .int ik) (hte : TIok P et te) {w : World} {b : Nat} {M : List (Int × Value)} {ob : Obj}
    (hb : w.heap[b]? = some ob) (hM : imapOk ik M ob) (k : Int) (ok : Bool) :
    (Instr.lookup t (.map (some b)) (.int ik k) ok).run P w = .ok (if ok then .tuple #[(mlk M k).getD te.zv, .bool (mlk M k).isSome] else (mlk M k).getD te.zv) w := by
  obtain ⟨es, clk, rfl, hp, _, _⟩ := hM
  have h1 := tk_map ht hk
  have h2 := tab_underlying htk hkk
  have hs := find_spec ik k es.toList M 0 hp
  have hget : (getObj b).run P w = .ok (.map es clk) w := by simp [getObj, Sem.run, hb]
  cases hm : mlk M k with
  | none =>
    obtain ⟨a1, _⟩ := hs.1 hm
    have hf : (Instr.findKey kt (.int ik k) es.toList).run P w = .ok none w := by simp [Instr.findKey, run_underlying h2, a1]
    simp [Instr.lookup, run_underlying h1, hget, run_checkKey h2, hf, run_zeroValue hte]
  | some v =>
    obtain ⟨i, a1, _⟩ := hs.2 v hm
    have hf : (Instr.findKey kt (.int ik k) es.toList).run P w = .ok (some (0 + i, v)) w := by simp [Instr.findKey, run_underlying h2, a1]
    simp [Instr.lookup, run_underlying h1, hget, run_checkKey h2, hf]
theorem q_lookup {t kt et : Nat} {x y : Operand} {ti tk te : TI} {ik : IntKind} {b : Nat} {M : List (Int × Value)} {k : Int} {v : Value} (ho : o.op = .lookup t x y false) (ht : tget C.tab t = some ti) (hk : ti.kind = .map kt et) (htk : tget C.tab kt = some tk)
    (hkk : tk.kind = .int ik) (hte : tget C.tab et = some te) (hx : ev F x = some (.map (some b))) (hy : ev F y = some (.int ik k)) (hin : InL L (haMap b ik M)) (hv : (mlk M k).getD te.zv = v) : Qv C o F L v :=
  .of_run fun a w hf hs => by
    obtain ⟨ob, h1, h2⟩ := (hs.at hin).2.1
    have := run_lookup (C.ok.get ht) hk (C.ok.get htk) hkk (C.ok.get hte) h1 h2 k false
    simp [execOp, ho, hf.ev hx, hf.ev hy, this, hv]
theorem q_lookup_ok {t kt et : Nat} {x y : Operand} {ti tk te : TI} {ik : IntKind} {b : Nat} {M : List (Int × Value)} {k : Int} {v : Value} {r : Bool} (ho : o.op = .lookup t x y true) (ht : tget C.tab t = some ti) (hk : ti.kind = .map kt et) (htk : tget C.tab kt = some tk)
    (hkk : tk.kind = .int ik) (hte : tget C.tab et = some te) (hx : ev F x = some (.map (some b))) (hy : ev F y = some (.int ik k)) (hin : InL L (haMap b ik M)) (hv : (mlk M k).getD te.zv = v) (hr : (mlk M k).isSome = r) : Qv C o F L (.tuple #[v, .bool r]) :=
  .of_run fun a w hf hs => by
    obtain ⟨ob, h1, h2⟩ := (hs.at hin).2.1
    have := run_lookup (C.ok.get ht) hk (C.ok.get htk) hkk (C.ok.get hte) h1 h2 k true
    simp [execOp, ho, hf.ev hx, hf.ev hy, this, hv, hr]
theorem imap_nil (ik : IntKind) : imapOk ik [] (.map #[] 0) := ⟨#[], 0, rfl, rfl, fun e he => by simp at he, by simp⟩
theorem j_makeMap {d t : Nat} (ik : IntKind) (ho : o.op = .makeMap t none) (hg : o.guard = none) (hd : o.dst = some d) (hn : Nat.blt d C.n = true)
    (h : ∀ b, J C ops false rest K ((d, .map (some b)) :: F) (haMap b ik [] :: L)) : J C ops false (o :: rest) K F L := by
  refine j_step_new (ob := .map #[] 0) (x := fun b => haMap b ik []) hg hd hn (fun b => .map (some b)) (fun a w hf hs => ?_) (fun b c h => h) (fun w hw => haMap_holds (.inl hw) (heap_alloc_new _ _) (imap_nil ik)) h
  simp [execOp, ho, Instr.makeMap]
theorem run_mapUpdate {P : Program} {t kt et : TypeId} {ti tk : TI} {ik : IntKind} (ht : TIok P t ti) (hk : ti.kind = .map kt et) (htk : TIok P kt tk) (hkk : tk.kind = .int ik) {w : World} {b : Nat} {M : List (Int × Value)} {ob : Obj}
    (hb : w.heap[b]? = some ob) (hM : imapOk ik M ob) (k : Int) (v : Value) :
    ∃ ob', (Instr.mapUpdate t (.map (some b)) (.int ik k) v).run P w = .ok () { w with heap := w.heap.setIfInBounds b ob' } ∧ imapOk ik (mset M k v) ob' := by
  obtain ⟨es, clk, rfl, hp, hborn, hnd⟩ := hM
  have h1 := tk_map ht hk
  have h2 := tab_underlying htk hkk
  have hs := find_spec ik k es.toList M 0 hp
  have hget : (getObj b).run P w = .ok (.map es clk) w := by simp [getObj, Sem.run, hb]
  have hset : ∀ o', (setObj b o').run P w = .ok () { w with heap := w.heap.setIfInBounds b o' } := fun o' => by simp [setObj, Sem.run, hb]
  cases hm : mlk M k with
  | none =>
    obtain ⟨a1, a2⟩ := hs.1 hm
    have hf : (Instr.findKey kt (.int ik k) es.toList).run P w = .ok none w := by simp [Instr.findKey, run_underlying h2, a1]
    refine ⟨.map (es.push { key := .int ik k, val := v, born := clk }) (clk + 1), ?_, _, _, rfl, ?_, ?_, ?_⟩
    · simp [Instr.mapUpdate, run_underlying h1, hget, run_checkKey h2, hf, hset]
    · rw [a2 v, ← hp]; simp [pairs]
    · intro e he
      simp only [Array.toList_push, List.mem_append, List.mem_singleton] at he
      rcases he with he | he
      · have := hborn e he; omega
      · subst he; simp
    · simp only [Array.toList_push, List.map_append, List.map_cons, List.map_nil]
      rw [List.nodup_append]
      refine ⟨hnd, by simp, ?_⟩
      intro x hx y hy
      simp only [List.mem_singleton] at hy
      subst hy
      obtain ⟨e, he, rfl⟩ := List.mem_map.1 hx
      have := hborn e he
      omega
  | some u =>
    obtain ⟨i, a1, a2, ⟨e0, a3, a3'⟩, a4⟩ := hs.2 u hm
    have hf : (Instr.findKey kt (.int ik k) es.toList).run P w = .ok (some (0 + i, u)) w := by simp [Instr.findKey, run_underlying h2, a1]
    have hgi : es[0 + i]? = some e0 := by rw [Nat.zero_add]; simpa using a3
    have hkeep : (Instr.keyThatStays (.int ik k) (.int ik k)).run P w = .ok (.int ik k) w := by
      have := sameBits_ 10000 ik k
      unfold Instr.keyThatStays
      rw [if_pos this]
      rfl
    refine ⟨.map (es.modify (0 + i) fun e => { e with key := .int ik k, val := v }) clk, ?_, _, _, rfl, ?_, ?_, ?_⟩
    · simp [Instr.mapUpdate, run_underlying h1, hget, run_checkKey h2, hf]
      rw [Nat.zero_add] at hgi
      simp [hgi, a3', hkeep, hset]
    · rw [← a4 v, Nat.zero_add]; simp [pairs]
    · intro e he
      rw [Array.toList_modify] at he
      obtain ⟨j, hj⟩ := List.mem_iff_getElem?.1 he
      rw [List.getElem?_modify] at hj
      cases hq : es.toList[j]? with
      | none => simp [hq] at hj
      | some e1 =>
        simp only [hq, Option.map_eq_map, Option.map_some, Option.some.injEq] at hj
        have h3 := hborn e1 (List.mem_of_getElem? hq)
        split at hj <;> (subst hj; exact h3)
    · have : ((es.modify (0 + i) fun e => { e with key := .int ik k, val := v }).toList.map (·.born)) = es.toList.map (·.born) := by
        apply List.ext_getElem?
        intro j
        simp only [Array.toList_modify, List.getElem?_map, List.getElem?_modify]
        cases es.toList[j]? with
        | none => simp
        | some e1 => simp only [Option.map_eq_map, Option.map_some]; split <;> rfl
      rw [this]; exact hnd
theorem j_mapUpdate {t kt et : Nat} {x y z : Operand} {ti tk : TI} {ik : IntKind} {b : Nat} {M : List (Int × Value)} {k : Int} {v : Value} {L' : List HA} (ho : o.op = .mapUpdate t x y z) (hg : o.guard = none) (hd : o.dst = none) (ht : tget C.tab t = some ti)
    (hk : ti.kind = .map kt et) (htk : tget C.tab kt = some tk) (hkk : tk.kind = .int ik) (hx : ev F x = some (.map (some b))) (hy : ev F y = some (.int ik k)) (hz : ev F z = some v) (hup : Upd L (haMap b ik M) (haMap b ik (mset M k v)) L')
    (h : J C ops false rest K F L') : J C ops false (o :: rest) K F L := by
  intro a w hf hs
  obtain ⟨N, hp1, hp2⟩ := hup.perm
  have hA := (hs.perm hp1).head
  obtain ⟨ob, h1, h2⟩ := hA.2.1
  obtain ⟨ob', hr, hM'⟩ := run_mapUpdate (C.ok.get ht) hk (C.ok.get htk) hkk h1 h2 k v
  have hrun : (execOp a.eval o).run C.P w = .ok .skip { w with heap := w.heap.setIfInBounds b ob' } := by
    simp [execOp, ho, hf.ev hx, hf.ev hy, hf.ev hz, hr]
  refine wpListIn_run (by simp [Region.wanted, hg]) (wpIn_skip_ hrun ?_)
  rw [hd]
  have hlt := (hA.1 b rfl).2
  refine h a _ (hf.put_none undef) (hs.upd hup ⟨rfl, rfl, rfl, by simp, fun k hk => by omega⟩ ?_ (haMap_holds (hA.1 b rfl).1 (by simp [hlt]) hM') (fun c hc => .inl hc))
  intro c hc hne
  simp only [Array.getElem?_setIfInBounds]
  rw [if_neg (fun e => hne e.symm)]
end
end Eng
end Go.Proofs.Ytbejfbekamikpaa

/-
  Regions that draw their order and write memory: quiet operations are taken first, the others in each order that is left.
-/
namespace Go.Proofs.Ytbejfbekamikpaa
namespace Eng
open Go.RowKit
set_option linter.unusedVariables false
def normOnly (Φ : Act → World → Prop) : Exit → Act → World → Prop := Exit.then Φ (fun _ _ _ => False)
theorem semAt_put (ro : Option Nat) {ops : Array Oper} (o : Oper) (hs : ∀ cs b, o.op ≠ .select cs b) (a : Act) (dst : Option Tmp) (v : Value) (h : ∀ d, dst = some d → d ∉ o.looksAt ops) :
    o.semAt ro (a.put dst v).eval = o.semAt ro a.eval := by
  have he := execOp_put o hs a dst v h
  have hx : ∀ x ∈ o.op.operands, (a.put dst v).eval x = a.eval x := fun x hx => Act.eval_put fun d hd hxd => h d hd (by
    subst hxd
    exact List.mem_append_left _ (List.mem_filterMap.2 ⟨.tmp d, by simpa using hx, rfl⟩))
  unfold Oper.semAt
  cases ro with
  | none => exact he
  | some l =>
    cases ho : o.op with
    | defer c =>
      rw [ho] at hx
      simp only [resolve_congr c o.type (fun x hx' => hx x (by simpa [Op.operands] using hx'))]
    | _ => exact he
section
variable {P : Program} {rd : Option Nat} {ops : Array Oper} {Φ : Act → World → Prop} {S : Array Bool → World → Prop}
/-- The worlds in which operation i may still come. -/
def Ahead (S : Array Bool → World → Prop) (i : Nat) (w : World) : Prop := ∃ l, l.getD i true = false ∧ S l w
structure Yl (P : Program) (ops : Array Oper) (S : Array Bool → World → Prop) (i : Nat) (o : Oper) (v : Value) (a : Act) : Prop where
  wanted : Region.wanted o (yielded ops a.tmps) = true
  quiet : ∀ w, Ahead S i w → (execOp a.eval o).run P w = .ok (.value v) w
/-- Each order; S is shown behind each operation. -/
def anyS (P : Program) (rd : Option Nat) (ops : Array Oper) (Φ : Act → World → Prop) (S : Array Bool → World → Prop) : Nat → Array Bool → Act → World → Prop
  | 0, listed, a, w => Region.ready .any ops listed = [] ∧ Φ a w
  | fuel + 1, listed, a, w => (Region.ready .any ops listed = [] → Φ a w) ∧
      ∀ i ∈ Region.ready .any ops listed, wpOpIn (fc rd) 0 P ops (normOnly Φ) i (fun a' w' => S (listed.setIfInBounds i true) w' ∧ anyS P rd ops Φ S fuel (listed.setIfInBounds i true) a' w') a w
theorem anyS_sound : ∀ (fuel : Nat) (listed : Array Bool) (a : Act) (w : World), anyS P rd ops Φ S fuel listed a w → wpAnyIn (fc rd) 0 P .any ops (normOnly Φ) fuel listed a w
  | 0, _, _, _, h => h
  | fuel + 1, _, _, _, h => ⟨h.1, fun i hi => wpOpIn_mono (fun a' w' h' => anyS_sound fuel _ a' w' h'.2) (h.2 i hi)⟩
theorem Yl.run {i : Nat} {o : Oper} {v : Value} {a : Act} {w : World} {listed : Array Bool} (hi : ops[i]? = some o) (hy : Yl P ops S i o v a) (hl : listed.getD i true = false) (hS : S listed w) {K : Act → World → Prop}
    (h : K (a.put o.dst v) w) : wpOpIn (fc rd) 0 P ops (normOnly Φ) i K a w := by
  unfold wpOpIn
  simp only [hi, hy.wanted, if_true]
  exact wpIn_value (hy.quiet w ⟨listed, hl, hS⟩) h
theorem op_put {i j : Nat} {oi oj : Oper} {v : Value} (hj : ops[j]? = some oj) (hap : oi.apart ops oj = true) (hsi : ∀ cs b, oi.op ≠ .select cs b) (hsj : ∀ cs b, oj.op ≠ .select cs b) {K : Act → World → Prop} {a : Act} {w : World}
    (hy : Yl P ops S i oi v a) (h : wpOpIn (fc rd) 0 P ops (normOnly Φ) j K (a.put oi.dst v) w) :
    wpOpIn (fc rd) 0 P ops (normOnly Φ) j (fun a' w' => Yl P ops S i oi v a' ∧ K (a'.put oi.dst v) w') a w := by
  obtain ⟨h1, h2, h3⟩ := Oper.apart_spec hap
  have same : ∀ (a a' : Act), execOp a'.eval oi = execOp a.eval oi → Region.wanted oi (yielded ops a'.tmps) = Region.wanted oi (yielded ops a.tmps) → Yl P ops S i oi v a → Yl P ops S i oi v a' := fun a a' he hw hy =>
    ⟨hw.trans hy.wanted, fun w hw' => by have := hy.quiet w hw'; rw [he]; exact this⟩
  have keep : ∀ (a : Act), Yl P ops S i oi v a → ∀ u, Yl P ops S i oi v (a.put oj.dst u) := fun a hy u => same a _ (execOp_put oi hsi a oj.dst u h3) (wanted_put oi a oj.dst u h3) hy
  unfold wpOpIn at *
  simp only [hj] at *
  rw [wanted_put oj a oi.dst v h1] at h
  split
  · rename_i hw
    simp only [hw, if_true] at h
    refine ⟨fun _ _ => trivial, ?_⟩
    have h := h.2
    rw [show (fc rd).round = rd from rfl] at h ⊢
    rw [semAt_put rd oj hsj a oi.dst v h1] at h
    generalize (oj.semAt rd a.eval).run P w = r at *
    cases r with
    | ok x w' =>
      cases x <;> simp only [Oper.uponIn] at h ⊢
      case value u => exact ⟨keep a hy u, by rw [← Act.put_comm a v u h2]; exact h⟩
      case skip => exact ⟨keep a hy _, by rw [← Act.put_comm a v undef h2]; exact h⟩
      case defer d =>
        refine ⟨keep { a with defers := d :: a.defers } (same a { a with defers := d :: a.defers } rfl rfl hy) _, ?_⟩
        rw [← Act.put_comm _ v undef h2, ← Act.put_defers]
        exact h
      case enter f args =>
        refine ⟨h.1, h.2.mono fun e w'' he => ?_⟩
        cases e with
        | returned u => exact ⟨keep a hy u, by rw [← Act.put_comm a v u h2]; exact he⟩
        | panicked c => exact he
        | outgrown => exact he
      case round l f tmps assign body =>
        refine ⟨h.1, h.2.mono fun e w'' he => ?_⟩
        cases e with
        | returned u => exact ⟨keep a hy u, by rw [← Act.put_comm a v u h2]; exact he⟩
        | panicked c => exact he
        | outgrown => exact he
      case row row args => exact ⟨h.1, h.2.mono fun u w'' he => ⟨keep a hy u, by rw [← Act.put_comm a v u h2]; exact he⟩⟩
    | halt x w' =>
      cases x <;> simp only [Oper.uponIn] at h ⊢
      case panic u => exact h
  · rename_i hw
    simp only [hw] at h
    exact ⟨fun _ _ => trivial, keep a hy _, by rw [← Act.put_comm a v undef h2]; exact h.2⟩
theorem anyS_first {i : Nat} {oi : Oper} {v : Value} (hi : ops[i]? = some oi) (hsel : ∀ (j : Nat) (o : Oper) cs b, ops[j]? = some o → o.op ≠ .select cs b) (hmono : ∀ l w, S l w → S (l.setIfInBounds i true) w) :
    ∀ (fuel : Nat) (listed : Array Bool) (a : Act) (w : World),
      (∀ j oj, ops[j]? = some oj → j ≠ i → listed.getD j true = false → (∀ e ∈ oj.after, Region.binds .any e = true → e.on ≠ i) → oi.apart ops oj = true) →
      i ∈ Region.ready .any ops listed → Yl P ops S i oi v a → S listed w →
      anyS P rd ops Φ S fuel (listed.setIfInBounds i true) (a.put oi.dst v) w → (hback : ∀ l w', l.getD i true = false → S (l.setIfInBounds i true) w' → Region.ready .any ops l ≠ [] → i ∈ Region.ready .any ops l → S l w') →
      anyS P rd ops Φ S (fuel + 1) listed a w := by
  intro fuel
  induction fuel with
  | zero =>
    intro listed a w _ hr hy hS H hback
    refine ⟨fun h => (by rw [h] at hr; cases hr), fun j hj => ?_⟩
    by_cases hji : j = i
    · subst hji; exact hy.run hi (mem_ready.1 hr).1 hS ⟨hmono _ _ hS, H⟩
    · have := ready_mono hj hji
      rw [H.1] at this
      cases this
  | succ fuel ih =>
    intro listed a w hfree hr hy hS H hback
    refine ⟨fun h => (by rw [h] at hr; cases hr), fun j hj => ?_⟩
    by_cases hji : j = i
    · subst hji; exact hy.run hi (mem_ready.1 hr).1 hS ⟨hmono _ _ hS, H⟩
    · have h1 := H.2 j (ready_mono hj hji)
      obtain ⟨hjun, oj, hoj, hall⟩ := mem_ready.1 hj
      have hnot : ∀ e ∈ oj.after, Region.binds .any e = true → e.on ≠ i := fun e he hb heq => by
        have h1 := hall e he hb
        have h0 := (mem_ready.1 hr).1
        rw [heq] at h1
        rcases Nat.lt_or_ge i listed.size with h' | h'
        · simp [h'] at h0 h1; rw [h0] at h1; cases h1
        · simp [Array.getElem?_eq_none h'] at h1
      have h2 := op_put hoj (hfree j oj hoj hji hjun hnot) (fun cs b => hsel i oi cs b hi) (fun cs b => hsel j oj cs b hoj) hy h1
      have hfree' : ∀ k ok, ops[k]? = some ok → k ≠ i → (listed.setIfInBounds j true).getD k true = false → (∀ e ∈ ok.after, Region.binds .any e = true → e.on ≠ i) → oi.apart ops ok = true := fun k ok hk hki hun hno => by
        refine hfree k ok hk hki ?_ hno
        by_cases hjk : j = k
        · subst hjk; exact hjun
        · rw [getD_set_ne true hjk] at hun; exact hun
      have hr' := ready_mono hr (Ne.symm hji)
      refine wpOpIn_mono (fun a' w' h3 => ?_) h2
      have hS' : S (listed.setIfInBounds j true) w' := by
        have h4 := h3.2.1
        rw [Array.setIfInBounds_comm _ _ (Ne.symm hji)] at h4
        exact hback _ w' (mem_ready.1 hr').1 h4 (fun e => by rw [e] at hr'; cases hr') hr'
      refine ⟨hS', ih (listed.setIfInBounds j true) a' w' hfree' hr' h3.1 hS' ?_ hback⟩
      rw [Array.setIfInBounds_comm _ _ hji]
      exact h3.2.2
end
/-! ### The rules -/
def SS (C : Cx) (Lp : List HA) : Array Bool → World → Prop := fun _ w => St C.w0 C.hot Lp w
def JA (C : Cx) (ops : Array Oper) (Φ : Act → World → Prop) (Lp : List HA) (fuel : Nat) (listed : Array Bool) (F : Fr) (L : List HA) : Prop :=
  ∀ a w, Fits C.n C.ds F a → St C.w0 C.hot L w → anyS C.P C.rd ops Φ (SS C Lp) fuel listed a w
section
variable {C : Cx} {F : Fr} {L Lp : List HA} {K : List KI} {ops : Array Oper} {Φ : Act → World → Prop} {fuel : Nat} {listed : Array Bool}
theorem sc_mixed {id : Nat} {l : List Oper} (Lp : List HA) (hrd : C.rd = C.rd) (hm : C.P.follows .mixedOrders = true) (h : JA C l.toArray (kpost C K .normal) Lp l.toArray.size (Array.replicate l.toArray.size false) F L) : SC C (.region id l.toArray true) K F L := by
  intro a w hf hs
  have h1 := anyS_sound _ _ _ _ (h a w.drew hf (hs.later (Below.refl _ _).drew))
  refine wpIn_mono (wpIn_region_any (Q := normOnly (kpost C K .normal)) hm h1) fun e a w hq => ?_
  cases e <;> first | exact hq | exact hq.elim
/-- A quiet operation is taken first. -/
theorem ja_take {oi : Oper} {d : Nat} (i : Nat) (hi : ops[i]? = some oi) (hchk : ((Region.ready .any ops listed).contains i && Region.free .any ops listed i && Region.noSelect ops) = true) (hg : oi.guard = none) (hd : oi.dst = some d) (hn : Nat.blt d C.n = true) (hsub : LSub Lp L)
    (h : ∃ v, Qv C oi F Lp v ∧ JA C ops Φ Lp fuel (listed.setIfInBounds i true) ((d, v) :: F) L) : JA C ops Φ Lp (fuel + 1) listed F L := by
  obtain ⟨v, hq, hj⟩ := h
  simp only [Bool.and_eq_true, List.contains_iff_mem] at hchk
  obtain ⟨⟨hr, hfr⟩, hns⟩ := hchk
  intro a w hf hs
  refine anyS_first hi (Region.noSelect_spec hns) (fun l w h => h) fuel listed a w (Region.free_spec hi hfr) hr ⟨by simp [Region.wanted, hg], fun w' ⟨l, _, hw'⟩ => hq a w' hf hw'⟩ (hs.sub hsub) ?_ (fun l w' _ h _ _ => h)
  rw [hd]
  exact hj _ w (hf.put v hn) hs
/-- Those that may come now: each of them. -/
theorem ja_all (rs : List Nat) (hr : Region.ready .any ops listed = rs) (hne : rs.isEmpty = false)
    (h : ∀ i ∈ rs, ∃ oi, ops[i]? = some oi ∧ oi.guard = none ∧ J C ops false [oi] [.fin (fun a' w' => St C.w0 C.hot Lp w' ∧ anyS C.P C.rd ops Φ (SS C Lp) fuel (listed.setIfInBounds i true) a' w')] F L) (hrd : C.rd = C.rd) : JA C ops Φ Lp (fuel + 1) listed F L := by
  intro a w hf hs
  refine ⟨fun e => by rw [hr] at e; subst e; simp at hne, fun i hi => ?_⟩
  rw [hr] at hi
  obtain ⟨oi, ho, hg, hJ⟩ := h i hi
  have h1 := hJ a w hf hs
  unfold wpListIn at h1
  rw [if_pos (by simp [Region.wanted, hg])] at h1
  unfold wpOpIn
  simp only [ho]
  rw [if_pos (by simp [Region.wanted, hg])]
  exact h1
/-- Behind an operation of those: the next one. -/
theorem sq_next {i : Nat} (hsub : LSub Lp L) (h : JA C ops Φ Lp fuel (listed.setIfInBounds i true) F L) :
    SQ C .normal [.fin (fun a' w' => St C.w0 C.hot Lp w' ∧ anyS C.P C.rd ops Φ (SS C Lp) fuel (listed.setIfInBounds i true) a' w')] F L := fun a w hf hs => ⟨hs.sub hsub, h a w hf hs⟩
theorem ja_done {K : List KI} (hr : Region.ready .any ops listed = []) (h : SQ C .normal K F L) : JA C ops (kpost C K .normal) Lp fuel listed F L := by
  intro a w hf hs
  cases fuel with
  | zero => exact ⟨hr, h a w hf hs⟩
  | succ fuel => exact ⟨fun _ => h a w hf hs, fun i hi => by rw [hr] at hi; cases hi⟩
end
end Eng
end Go.Proofs.Ytbejfbekamikpaa

/-
  Shifts, bits and conversions.
-/
namespace Go.Proofs.Ytbejfbekamikpaa
namespace Eng
open Go.RowKit
set_option linter.unusedVariables false
variable {C : Cx} {F : Fr} {L : List HA} {o : Oper} {x y : Operand} {t u : TypeId} {k k' : IntKind} {a b : Int}
theorem u64_wrap {x : Int} (h1 : 0 ≤ x) (h2 : x ≤ 18446744073709551615) : IntKind.u64.wrap x = x := by
  simp [IntKind.wrap, IntKind.signed, IntKind.bits]; omega
theorem u16_wrap {x : Int} (h1 : 0 ≤ x) (h2 : x ≤ 65535) : IntKind.u16.wrap x = x := by
  simp [IntKind.wrap, IntKind.signed, IntKind.bits]; omega
theorem q_shr (ho : o.op = .binOp .shr t x y u) (hx : ev F x = some (.int k a)) (hy : ev F y = some (.int k' b)) (hr : 0 ≤ b ∧ b.toNat ≤ k.bits) : Qv C o F L (.int k (a / (2 ^ b.toNat : Nat))) :=
  .of_run fun ac w hf hs => by
    have h0 : ¬ b < 0 := by omega
    have h1 : (binOp .shr t (.int k a) (.int k' b)).run C.P w = .ok (.int k (a / (2 ^ b.toNat : Nat))) w := by
      simp only [binOp, Op.shift, h0, if_false, Nat.min_eq_left hr.2]
      rw [Int.fdiv_eq_ediv_of_nonneg _ (by exact Int.pow_nonneg (by omega))]
      simp
    simp only [execOp, ho, hf.ev hx, hf.ev hy]
    simp only [eqGuard]
    simp [h1]
theorem q_shr1 (ho : o.op = .binOp .shr t x y u) (hx : ev F x = some (.int .u64 a)) (hy : ev F y = some (.int k' 1)) : Qv C o F L (.int .u64 (a / 2)) :=
  q_shr ho hx hy ⟨by omega, by decide⟩
theorem and_one (n : Nat) (a : Int) (h0 : 0 ≤ a) (h1 : a < 2 ^ (n + 1)) : ((BitVec.ofInt (n + 1) a &&& BitVec.ofInt (n + 1) 1).toNat : Int) = a % 2 := by
  obtain ⟨m, rfl⟩ := Int.eq_ofNat_of_zero_le h0
  have e1 : (BitVec.ofInt (n + 1) (m : Int)).toNat = m := by
    rw [BitVec.toNat_ofInt]
    have : (m : Int) % ((2 ^ (n + 1) : Nat) : Int) = m := Int.emod_eq_of_lt h0 (by exact_mod_cast h1)
    rw [this]; rfl
  have e2 : (BitVec.ofInt (n + 1) (1 : Int)).toNat = 1 := by
    rw [BitVec.toNat_ofInt]
    have h2 : 1 < 2 ^ (n + 1) := Nat.one_lt_two_pow (by omega)
    have : (1 : Int) % ((2 ^ (n + 1) : Nat) : Int) = 1 := Int.emod_eq_of_lt (by omega) (by exact_mod_cast h2)
    rw [this]; rfl
  rw [BitVec.toNat_and, e1, e2, Nat.and_one_is_mod]
  omega
theorem q_and1 (ho : o.op = .binOp .and t x y u) (hx : ev F x = some (.int .u8 a)) (hy : ev F y = some (.int .u8 1)) (hr : 0 ≤ a ∧ a ≤ 255) : Qv C o F L (.int .u8 (a % 2)) :=
  q_bin ho hx hy fun w => by
    have h := and_one 7 a hr.1 (by omega)
    have h2 : IntKind.u8.wrap (a % 2) = a % 2 := u8_wrap (by omega) (by omega)
    have h3 : (Op.intBits .and .u8 a 1) = (pure (.int .u8 (IntKind.u8.wrap ((BitVec.ofInt (7 + 1) a &&& BitVec.ofInt (7 + 1) 1).toNat : Int))) : Sem Value) := rfl
    simp only [binOp, h3, h, h2]
    simp
end Eng
end Go.Proofs.Ytbejfbekamikpaa

/-
  Empty literals of slices, make, and append of whole slices.
-/
namespace Go.Proofs.Ytbejfbekamikpaa
namespace Eng
open Go.RowKit
set_option linter.unusedVariables false
section
variable {C : Cx} {F : Fr} {L : List HA} {o : Oper} {K : List KI} {ops : Array Oper} {m : Bool} {rest : List Oper}
theorem own_foot {b : Nat} {n c : Nat} {e : TypeId} {sz k : Nat} {xs : List Value} {q : Nat} (h : (HA.own (.slice (some ⟨b, 0, none⟩) n c) e sz k xs).foot q) : q = b := by
  simp only [HA.foot, Value.ownBlock, Option.some.injEq] at h
  exact h.symm
theorem j_make0 {d t e sz by_ : Nat} {ti te : TI} {x y : Operand} {kl kc : IntKind} {k : Int} (ho : o.op = .makeSlice t x y) (hg : o.guard = none) (hd : o.dst = some d) (hn : Nat.blt d C.n = true) (ht : tget C.tab t = some ti) (hk : ti.kind = .slice e sz by_)
    (hte : tget C.tab e = some te) (hx : ev F x = some (.int kl 0)) (hy : ev F y = some (.int kc k)) (hb : 0 ≤ k ∧ k * ((by_ : Int) + 1) ≤ 140737488355328)
    (h : ∀ b, J C ops false rest K ((d, .slice (some ⟨b, 0, none⟩) 0 k.toNat) :: F) (.own (.slice (some ⟨b, 0, none⟩) 0 k.toNat) e sz 0 [] :: L)) : J C ops false (o :: rest) K F L := by
  obtain ⟨hu, ie, hie, hsz, hby⟩ := tk_slice (C.ok.get ht) hk
  obtain ⟨i, z, hi, hz, hzc, _, _⟩ := zero_cells (C.ok.get hte)
  have e1 : ie = i := by rw [hie] at hi; injection hi
  subst e1
  have hk1 : k ≤ 140737488355328 := by
    have : k * 1 ≤ k * ((by_ : Int) + 1) := Int.mul_le_mul_of_nonneg_left (by omega) hb.1
    omega
  have hk2 : (by_ : Int) * k ≤ 140737488355328 := by
    have : k * (by_ : Int) ≤ k * ((by_ : Int) + 1) := Int.mul_le_mul_of_nonneg_left (by omega) hb.1
    rw [Int.mul_comm]
    omega
  refine j_step_new (ob := .cells (madeCells z.cells (k.toNat * sz)) e) (x := fun b => .own (.slice (some ⟨b, 0, none⟩) 0 k.toNat) e sz 0 []) hg hd hn (fun b => .slice (some ⟨b, 0, none⟩) 0 k.toNat) (fun a w hf hs => ?_) (fun b c h => own_foot h) (fun w hw => ?_) h
  · have := run_make (P := C.P) w t e ie z hu hie hz kl kc 0 k (Int.le_refl _) hb.1 (by rw [hby]; omega) (by omega)
    rw [hsz] at this
    simp [execOp, ho, hf.ev hx, hf.ev hy, this]
  · refine ⟨fun q hq => ?_, World.ownsRow_made w _ _ (Nat.zero_le _) (by unfold maxLen; omega) (size_madeCells _ _)⟩
    have := own_foot (e := e) (sz := sz) (k := 0) (xs := []) hq
    subst this
    exact .inl hw
/-- Append of a slice whatever it is: nil, or cells that can be read. -/
theorem j_appendS {d t e sz by_ : Nat} {ti te : TI} {s x : Operand} {v : Value} {n k c : Nat} {A : Option Addr} {xs cs : List Value} (ho : o.op = .call { callee := .builtin .append, args := #[s, x], argTypes := #[t, t] })
    (hg : o.guard = none) (hd : o.dst = some d) (hn : Nat.blt d C.n = true) (ht : tget C.tab t = some ti) (hk : ti.kind = .slice e sz by_) (hte : tget C.tab e = some te) (hl : len te.zero = sz) (hpos : Nat.beq sz 0 = false)
    (hs : ev F s = some v) (hx : ev F x = some (.slice A k c))
    (hread : ∀ w, St C.w0 C.hot L w → (A = none → k = 0 ∧ c = 0) ∧ cs.length = k * sz ∧ (∀ ad, A = some ad → ∀ j u, cs[j]? = some u → w.cell? (ad.add j) = some u) ∧ ∀ u ∈ cs, u.oneCell' = true)
    (hown : InL L (.own v e sz n xs)) (hmax : (n + k) * (by_ + 1) ≤ 140737488355328)
    {L' : Value → List HA} (hup : ∀ v', Upd L (.own v e sz n xs) (.own v' e sz (n + k) (xs ++ cs)) (L' v'))
    (h : ∀ v', J C ops false rest K ((d, v') :: F) (L' v')) : J C ops false (o :: rest) K F L := by
  intro a w hf hS
  obtain ⟨hu, ie, hie, hsz, hby⟩ := tk_slice (C.ok.get ht) hk
  obtain ⟨i, z, hi, hz, hzc, _, _⟩ := zero_cells (C.ok.get hte)
  have e1 : ie = i := by rw [hie] at hi; injection hi
  subst e1
  obtain ⟨hnil, hlen, hc, h1⟩ := hread w hS
  have hb2 : (n + k) ≤ 140737488355328 := Nat.le_trans (Nat.le_mul_of_pos_right _ (by omega)) hmax
  have hb3 : (n + k) * by_ ≤ 140737488355328 := Nat.le_trans (Nat.mul_le_mul_left _ (by omega)) hmax
  have hpos' : 0 < sz := Nat.pos_of_ne_zero (Nat.ne_of_beq_eq_false hpos)
  have hvl := hS.at hown
  have key : ∃ v' w', (Builtin.append_ #[t, t] o.type #[v, .slice A k c]).run C.P w = .ok v' w' ∧ w'.ownsRow 0 e sz v' (n + k) (xs ++ cs) ∧ w.grownBy w' v.ownBlock ∧ (v'.ownBlock = v.ownBlock ∨ v'.ownBlock = some w.heap.size) := by
    cases A with
    | none =>
      obtain ⟨rfl, rfl⟩ := hnil rfl
      have hcs : cs = [] := List.length_eq_zero_iff.1 (by rw [hlen]; simp)
      subst hcs
      have hr := run_append_owned_none (P := C.P) w 0 t o.type e ie sz hu hie v n xs hvl.2
      refine ⟨v, w, hr, by simpa using hvl.2, ⟨rfl, rfl, rfl, Nat.le_refl _, fun _ _ _ => rfl⟩, .inl rfl⟩
    | some ad =>
      obtain ⟨v', w', hr, hown', hgr, _, hat⟩ := run_append_own_at (P := C.P) w 0 t o.type e ie z sz by_ hu hie hz hsz hby (by rw [hzc, List.size_toArray, ← len_eq, hl]) hpos' v n xs hvl.2 ad k c cs hlen (hc ad rfl) h1
        (by unfold maxLen; omega) hb3 (Nat.zero_le _)
      exact ⟨v', w', hr, hown', hgr, hat⟩
  obtain ⟨v', w', hr, hown', hgr, hat⟩ := key
  have hrun : (execOp a.eval o).run C.P w = .ok (.value v') w' := by
    simp only [execOp, ho, resolve, invoke, builtin, Sem.run_bind, Sem.run_pure, Result.andThen_ok, List.map_toArray, List.map_cons, List.map_nil, hf.ev hs, hf.ev hx, hr]
  refine wpListIn_run (by simp [Region.wanted, hg]) (wpIn_value hrun ?_)
  rw [hd]
  refine h v' _ _ (hf.put _ hn) (hS.upd (hup v') ⟨hgr.os, hgr.tape, hgr.output, hgr.size, fun k hk => by omega⟩ ?_ ⟨fun q hq => ?_, hown'⟩ ?_)
  · intro q hq hne
    exact hgr.block q hq (fun e => hne e.symm)
  · rcases hat with e | e
    · exact hvl.1 q (e ▸ hq)
    · rw [e] at hq
      injection hq with hq
      have := hS.near.size
      exact .inl (by omega)
  · intro q hq
    rcases hat with e | e
    · exact .inl (e.symm.trans hq)
    · simp only [HA.foot, e, Option.some.injEq] at hq
      exact .inr (by omega)
/-- What a slice that reads as a list is to append. -/
theorem reads_ext {α : Type} {f : α → List Value} {sz : Nat} {A : Option Addr} {c : Nat} {l : List α} {w : World} (hw : ∀ x, (f x).length = sz) (h1 : ∀ x, ones (f x) = true) (h : RS w sz f A l) (hnil : A = none → l = [] ∧ c = 0) :
    (A = none → l.length = 0 ∧ c = 0) ∧ (l.flatMap f).length = l.length * sz ∧ (∀ ad, A = some ad → ∀ j u, (l.flatMap f)[j]? = some u → w.cell? (ad.add j) = some u) ∧ ∀ u ∈ l.flatMap f, u.oneCell' = true := by
  have hlen : ∀ l : List α, (l.flatMap f).length = l.length * sz := by
    intro l
    induction l with
    | nil => simp
    | cons x l ih => simp only [List.flatMap_cons, List.length_append, hw, ih, List.length_cons, Nat.succ_mul]; omega
  refine ⟨fun e => ⟨by rw [(hnil e).1]; rfl, (hnil e).2⟩, hlen l, fun ad e j u hu => ?_, fun u hu => ?_⟩
  · have key : ∀ (l : List α) (b : Nat), (∀ k x, l[k]? = some x → Ext w (ad.add ((b + k) * sz)) (f x)) → ∀ j u, (l.flatMap f)[j]? = some u → w.cell? (ad.add (b * sz + j)) = some u := by
      intro l
      induction l with
      | nil => intro b _ j u hu; simp at hu
      | cons x l ih =>
        intro b hb j u hu
        simp only [List.flatMap_cons] at hu
        by_cases hj : j < sz
        · rw [List.getElem?_append_left (by rw [hw]; exact hj)] at hu
          have := (hb 0 x rfl).cell j u (by rw [nth_eq]; exact hu)
          rw [add_add, Nat.add_zero] at this
          exact this
        · rw [List.getElem?_append_right (by rw [hw]; omega), hw] at hu
          have := ih (b + 1) (fun k y hk => by have := hb (k + 1) y (by simpa using hk); rwa [show b + (k + 1) = b + 1 + k from by omega] at this) (j - sz) u hu
          rw [Nat.succ_mul, show b * sz + sz + (j - sz) = b * sz + j from by omega] at this
          exact this
    have := key l 0 (fun k x hk => by
      obtain ⟨ad', e', hE⟩ := h k x hk
      rw [e] at e'
      injection e' with e'
      subst e'
      rwa [Nat.zero_add]) j u hu
    rwa [Nat.zero_mul, Nat.zero_add] at this
  · obtain ⟨x, _, hx⟩ := List.mem_flatMap.1 hu
    exact ones_all (h1 x) u hx
end
end Eng
end Go.Proofs.Ytbejfbekamikpaa

/-
  Rows of the call's own: their elements read and written.
-/
namespace Go.Proofs.Ytbejfbekamikpaa
namespace Eng
open Go.RowKit
set_option linter.unusedVariables false
set_option linter.unusedSimpArgs false
section
variable {C : Cx} {F : Fr} {L : List HA} {o : Oper} {K : List KI} {ops : Array Oper} {m : Bool} {rest : List Oper}
theorem own_parts {w0 w : World} {hot : Nat → Prop} {ad : Addr} {n c e sz : Nat} {xs : List Value} (hs : St w0 hot L w) (hin : InL L (.own (.slice (some ad) n c) e sz n xs)) :
    ∃ g cur, ad = ⟨g, 0, none⟩ ∧ w.heap[g]? = some (.cells cur e (0, 0)) ∧ cur.size = c * sz ∧ n ≤ c ∧ c ≤ maxLen ∧ cur.toList.take (n * sz) = xs ∧ xs.length = n * sz := by
  have hA := hs.at hin
  rcases hA.2.2 with ⟨hv, _⟩ | ⟨g, cap, cur, hv, _, hg, h1, h2, h3, htk⟩
  · injection hv with h1
    cases h1
  · injection hv with h4 _ h5
    injection h4 with h4
    subst h5
    exact ⟨g, cur, h4, hg, h3, h1, h2, htk, hA.2.1⟩
theorem own_cell {w0 w : World} {hot : Nat → Prop} {ad : Addr} {n c e sz p : Nat} {xs : List Value} {u : Value} (hs : St w0 hot L w) (hin : InL L (.own (.slice (some ad) n c) e sz n xs)) (hp : xs[p]? = some u) : w.cell? (ad.add p) = some u := by
  obtain ⟨g, cur, rfl, hg, _, _, _, htk, _⟩ := own_parts hs hin
  rw [add_own, Nat.zero_add]
  simp only [World.cell?, hg]
  rw [← htk, List.getElem?_take] at hp
  split at hp
  · rw [Array.getElem?_toList] at hp
    simpa using hp
  · cases hp
theorem flat_at {α : Type} (f : α → List Value) (sz : Nat) (hf : ∀ x, (f x).length = sz) : ∀ (l : List α) (i : Nat) (x : α) (j : Nat) (v : Value), l[i]? = some x → (f x)[j]? = some v → (l.flatMap f)[i * sz + j]? = some v
  | [], i, x, j, v, h, _ => by simp at h
  | y :: l, 0, x, j, v, h, hj => by
    simp at h
    subst h
    simp only [List.flatMap_cons, Nat.zero_mul, Nat.zero_add]
    rw [List.getElem?_append_left]
    · exact hj
    · exact (List.getElem?_eq_some_iff.1 hj).1
  | y :: l, i + 1, x, j, v, h, hj => by
    have ih := flat_at f sz hf l i x j v (by simpa using h) hj
    simp only [List.flatMap_cons]
    rw [List.getElem?_append_right (by rw [hf, Nat.succ_mul]; omega), hf]
    rw [show (i + 1) * sz + j - sz = i * sz + j from by rw [Nat.succ_mul]; omega]
    exact ih
/-- 's[lo:hi]' as a value; memory is left alone. -/
theorem run_sliceOp {P : Program} {t : TypeId} {ti : TI} (h : TIok P t ti) {e sz by_ : Nat} (hk : ti.kind = .slice e sz by_) (A : Option Addr) (n c : Nat) (lo hi : Option Value) (kl kh : IntKind) (a b : Nat) (hlo : lo = none ∧ a = 0 ∨ lo = some (.int kl (a : Int))) (hhi : hi = none ∧ b = n ∨ hi = some (.int kh (b : Int)))
    (hab : a ≤ b) (hbc : b ≤ c) (w : World) : (Instr.slice t (.slice A n c) lo hi none).run P w = .ok (.slice (if c = a then A else A.map (·.add (a * sz))) (b - a) (c - a)) w := by
  obtain ⟨hu, ie, h3, h4, _⟩ := tk_slice h hk
  have hb1 : (b : Int) ≤ (c : Int) := by omega
  have ha1 : (a : Int) ≤ (b : Int) := by omega
  rcases hlo with ⟨rfl, rfl⟩ | rfl <;> rcases hhi with ⟨rfl, rfl⟩ | rfl <;>
    simp [Instr.slice, Instr.sliceBounds, Instr.sliceBound, asIntOf, run_underlying hu, sizeOf, typeInfo, h3, h4, hb1, ha1, hab, hbc]
theorem q_sliceHi {t n c e sz by_ : Nat} {x y : Operand} {ti : TI} {A : Option Addr} {kh : IntKind} (b : Nat) (ho : o.op = .slice t x none (some y) none) (ht : tget C.tab t = some ti) (hk : ti.kind = .slice e sz by_) (hx : ev F x = some (.slice A n c)) (hy : ev F y = some (.int kh (b : Int))) (hb : b ≤ c) :
    Qv C o F L (.slice A b c) :=
  .of_run fun a w hf hs => by
    have := run_sliceOp (C.ok.get ht) hk A n c none (some (.int kh (b : Int))) kh kh 0 b (.inl ⟨rfl, rfl⟩) (.inr rfl) (Nat.zero_le _) hb w
    have e1 : (if c = 0 then A else A.map (·.add (0 * sz))) = A := by
      split
      · rfl
      · cases A <;> simp [Addr.add]
    rw [e1, Nat.sub_zero, Nat.sub_zero] at this
    have hu := (tk_slice (C.ok.get ht) hk).1
    simp [execOp, ho, hf.ev hx, hf.ev hy, Instr.sliceAt, run_underlying hu, this]
theorem sc_sub {c : Code} {F' : Fr} {L' : List HA} (h : SC C c K F' L') (hF : FSub F' F) (hL : LSub L' L) : SC C c K F L := fun a w hf hs => h a w (hf.sub hF) (hs.sub hL)
end
end Eng
end Go.Proofs.Ytbejfbekamikpaa

/-
  From a law's walk to its row: what arguments read as, opened for the engine; that they read behind the call as before.
-/
namespace Go.Proofs.Ytbejfbekamikpaa
namespace Eng
open Go.RowKit Go.ChangeShapes Go.WideShapes Go.Deep
set_option linter.unusedVariables false
section
variable {H : Type} {enc : TypeId × Value → H} {P : Program} {W W' : World}
theorem trodAll_keep (hl : laidOutB P = true) {sp : Nat → Bool} (hb : Below W.heap.size W W') : ∀ {ts : List TypeId} {vs : List Value} {ds : List (DataW H)} {p : List MemPlace}, (∀ t ∈ ts, P.readableRec t = true ∧ t < P.types.size) →
    DataW.TrodAll enc P W 0 (fun _ => true) true ts vs ds p → (∀ x ∈ p, x.block < W.heap.size) → (∀ x ∈ p, sp x.block = true) → DataW.TrodAll enc P W' 0 sp true ts vs ds p
  | [], [], [], p, _, h, _, _ => h
  | t :: ts, v :: vs, d :: ds, p, ht, h, hlt, hsp => by
    obtain ⟨p1, q, h1, h2, rfl⟩ := h
    refine ⟨p1, q, ?_, trodAll_keep hl hb (fun t' h' => ht t' (List.mem_cons_of_mem _ h')) h2 (fun x hx => hlt x (List.mem_append_right _ hx)) (fun x hx => hsp x (List.mem_append_right _ hx)), rfl⟩
    obtain ⟨hr, hrow⟩ := ht t List.mem_cons_self
    exact WideElems.Trod_stays hl hr hrow h1 (fun x hx => hb.same (hlt x (List.mem_append_left _ hx))) (fun x hx => hsp x (List.mem_append_left _ hx))
  | [], [], _ :: _, _, _, h, _, _ => h.elim
  | [], _ :: _, _, _, _, h, _, _ => h.elim
  | _ :: _, [], _, _, _, h, _, _ => h.elim
  | _ :: _, _ :: _, [], _, _, h, _, _ => h.elim
/-- A law's call has returned true and memory that was there is as it was: what the row asks. -/
theorem law_post {f : Func} {s : ChangeSpec} {args : Array Value} {ds gs : List (DataW H)} {before : List MemPlace} {tb : TypeId} (hl : laidOutB P = true) (hrb : f.params.toList.all (fun t => P.readableRec t && decide (t < P.types.size)) = true) (hv : s.vars = [])
    (hs : (s.fn H ds).results = [.lit (.bool true)]) (ha : (s.fn H ds).args = ds) (hva : (s.fn H ds).vars = []) (hres : f.resultTypes = #[tb]) (htb : P.underlying tb = some .bool)
    (hW : DataW.Whole enc P f.params.toList s.vars false W args.toList ds gs before) (hB : Below W.heap.size W W') : s.post enc P f false true false false W args (.bool true) W' := by
  have hr : ∀ t ∈ f.params.toList, P.readableRec t = true ∧ t < P.types.size := fun t ht => by
    have := List.all_eq_true.1 hrb t ht
    simpa using this
  have hW' := hW
  obtain ⟨p, q, hA, hV, hpq, hfz, hnd⟩ := hW
  rw [hv] at hV
  obtain ⟨hg, hq⟩ := trodVars_none hV
  subst hg
  subst hq
  have e : ds ++ ([] : List (DataW H)) = ds := List.append_nil ds
  have hlt : ∀ x ∈ p, x.block < W.heap.size := fun x hx => hW'.lt x (by rw [hpq]; simpa using hx)
  have hpb : before = p := by rw [hpq]; simp
  have hk : ∀ sp : Nat → Bool, (∀ x ∈ p, sp x.block = true) → DataW.TrodAll enc P W' 0 sp true f.params.toList args.toList ds p := fun sp hsp => trodAll_keep hl hB hr hA hlt hsp
  have hR : ∀ b sp hd, DataW.TrodAll enc P W' b sp hd f.resultTypes.toList ((Value.bool true).resultList f.resultTypes.size) [.lit (.bool true)] [] := fun b sp hd => by
    rw [hres]
    exact trodAll_cons_mk (shut_bool htb _) trodAll_mk0
  refine ⟨ds, [], before, [], p, [], hW', by rw [e, hs]; exact hR _ _ _, by rw [e, ha]; exact hk _ (fun x hx => by simpa using hlt x hx), by rw [e, hva, hv]; exact rfl, World.keptBut_mono (fun x hx => ⟨hx, .inr (.inl (hpb ▸ hx))⟩) (hB.frame (· ∈ before)), fun _ => ⟨ok_one hres rfl (okWide_bool_mk htb _), [.lit (.bool true)] ++ ds, [], [] ++ p ++ [], ⟨[] ++ p, [], ?_, by rw [hv]; exact rfl, rfl, ?_, fun h => absurd h (by decide)⟩, ?_⟩⟩
  · exact trodAll_append (hk (fun _ => true) (fun _ _ => rfl)) (hR _ _ _)
  · intro b off hx
    have hin : MemPlace.cell b off ∈ p := by simpa using hx
    rw [hB.frozen (hlt _ hin)]
    exact hfz b off (by rw [hpb]; exact hin)
  · intro x hx _
    rw [hpb]
    simpa using hx
/-! ### What comes in -/
theorem cell_lt {w : World} {a : Addr} {v : Value} (h : w.cell? a = some v) : a.block < w.heap.size := by
  rcases Nat.lt_or_ge a.block w.heap.size with h1 | h1
  · exact h1
  · simp [World.cell?, Array.getElem?_eq_none h1] at h
theorem ext_of_cells {w : World} {base n : Nat} {a : Addr} {cs : List Value} (h : w.cells? base a n = some cs) (hn : 0 < n) : Ext w a cs := by
  obtain ⟨_, hl, hat⟩ := World.cells?_some h
  have h0 := hat 0 hn
  rw [List.getElem?_eq_getElem (by omega)] at h0
  refine ⟨by have := cell_lt h0; rwa [block_add] at this, fun j u hu => ?_⟩
  rw [nth_eq] at hu
  rw [hat j (by have := (List.getElem?_eq_some_iff.1 hu).1; omega), hu]
/-- The kinds of one-cell fields. -/
inductive DK where
  | int (k : IntKind)
  | str
  | bool
  | any (t : TypeId)
variable {w : World} {base : Nat} {spare : Nat → Bool} {held : Bool}
def DK.ok (enc : TypeId × Value → H) (P : Program) (w : World) (base : Nat) (spare : Nat → Bool) (held : Bool) : DK → Value → Prop
  | .int k, v => ∃ n, v = .int k n ∧ k.min ≤ n ∧ n ≤ k.max
  | .str, v => ∃ s, v = .string s ∧ s.size ≤ 9223372036854775807
  | .bool, v => ∃ b, v = .bool b
  | .any t, v => ∃ n y, DataW.trod enc P w base spare held n t [v] = some y
def DK.fits (P : Program) (t : TypeId) : DK → Bool
  | .int k => match P.underlying t with
    | some (.int k') => decide (k' = k)
    | _ => false
  | .str => match P.underlying t with
    | some .string => true
    | _ => false
  | .bool => match P.underlying t with
    | some .bool => true
    | _ => false
  | .any t' => decide (t' = t)
theorem int_wf {k : IntKind} {n : Int} (h : (Lit.int k n).wf = true) : k.min ≤ n ∧ n ≤ k.max := by
  simpa [Lit.wf] using h
theorem DK.ok_of {t : TypeId} {k : DK} (hf : k.fits P t = true) {n : Nat} {v : Value} {x : DataW H × List MemPlace} (h : DataW.trod enc P w base spare held n t [v] = some x) : k.ok enc P w base spare held v := by
  cases k with
  | int k =>
    simp only [DK.fits] at hf
    split at hf
    · rename_i k' hu
      simp only [decide_eq_true_eq] at hf
      subst hf
      obtain ⟨m, hv, _, hw⟩ := DataW.trod_int hu h
      simp only [List.cons.injEq, and_true] at hv
      exact ⟨m, hv, int_wf hw⟩
    · cases hf
  | str =>
    simp only [DK.fits] at hf
    split at hf
    · rename_i hu
      obtain ⟨s, hv, _, hl⟩ := DataW.trod_string hu h
      simp only [List.cons.injEq, and_true] at hv
      exact ⟨s, hv, hl⟩
    · cases hf
  | bool =>
    simp only [DK.fits] at hf
    split at hf
    · rename_i hu
      obtain ⟨s, hv, _⟩ := DataW.trod_bool hu h
      simp only [List.cons.injEq, and_true] at hv
      exact ⟨s, hv⟩
    · cases hf
  | any t' =>
    simp only [DK.fits, decide_eq_true_eq] at hf
    subst hf
    exact ⟨n, x, h⟩
def AllOk (enc : TypeId × Value → H) (P : Program) (w : World) (base : Nat) (spare : Nat → Bool) (held : Bool) : List DK → List Value → Prop
  | [], [] => True
  | k :: ks, v :: vs => k.ok enc P w base spare held v ∧ AllOk enc P w base spare held ks vs
  | _, _ => False
def fitsAll (P : Program) : List Field → List DK → Bool
  | [], [] => true
  | f :: fs, k :: ks => k.fits P f.type && fitsAll P fs ks
  | _, _ => false
theorem allOk_of : ∀ {fs : List Field} {ks : List DK} {vs : List Value} {n : Nat}, fitsAll P fs ks = true → vs.length = fs.length → (∀ (i : Nat) (f : Field) (v : Value), fs[i]? = some f → vs[i]? = some v → ∃ x, DataW.trod enc P w base spare held n f.type [v] = some x) → AllOk enc P w base spare held ks vs
  | [], [], [], n, _, _, _ => trivial
  | f :: fs, k :: ks, v :: vs, n, hf, hl, h => by
    simp only [fitsAll, Bool.and_eq_true] at hf
    obtain ⟨x, hx⟩ := h 0 f v rfl rfl
    exact ⟨DK.ok_of hf.1 hx, allOk_of hf.2 (by simpa using hl) (fun i f' v' h1 h2 => h (i + 1) f' v' (by simpa using h1) (by simpa using h2))⟩
  | [], [], v :: vs, n, _, hl, _ => by simp at hl
  | [], k :: ks, vs, n, hf, _, _ => by simp [fitsAll] at hf
  | f :: fs, [], vs, n, hf, _, _ => by simp [fitsAll] at hf
  | f :: fs, k :: ks, [], n, _, hl, _ => by simp at hl
theorem flat_struct {e : TypeId} {fs : Array Field} (ks : List DK) (he : P.underlying e = some (.struct fs)) (hone : oneCellFields P fs = true) (hC : P.cellsOf e = fs.size) (hk : fitsAll P fs.toList ks = true) {n : Nat} {cs : List Value} {x : DataW H × List MemPlace}
    (h : DataW.trod enc P w base spare held n e cs = some x) : AllOk enc P w base spare held ks cs := by
  obtain ⟨xs, m, _, _, hl, hxl, hat⟩ := DataW.trod_struct he h
  refine allOk_of (n := m) hk (by rw [hl, hC]; simp) (fun i f v hf hv => ?_)
  have hf' : fs[i]? = some f := by simpa using hf
  obtain ⟨ho, h1⟩ := hone_of hone i f hf'
  have h2 := hat i f hf'
  rw [ho, h1] at h2
  have hil := (List.getElem?_eq_some_iff.1 hv).1
  have hd : (cs.drop i).take 1 = [v] := by
    rw [List.drop_eq_getElem_cons hil]
    simp only [List.take_succ_cons, List.take_zero]
    rw [List.getElem?_eq_getElem hil] at hv
    simpa using hv
  rw [hd] at h2
  have hx : i < xs.length := by rw [hxl]; exact (Array.getElem?_eq_some_iff.1 hf').1
  exact ⟨_, h2.trans (List.getElem?_eq_getElem hx)⟩
theorem trod_slice_cell {r : Reach} {b0 : Nat} {t e : TypeId} {v : Value} {d : DataW H} {ps : List MemPlace} (ht : P.underlying t = some (.slice e)) (hv : Value.okWide P w r b0 t v) (h : DataW.Trod enc P w base spare held t v d ps) : ∃ n, DataW.trod enc P w base spare held n t [v] = some (d, ps) := by
  obtain ⟨n, hn⟩ := h
  refine ⟨n, ?_⟩
  have h1 : v.cells.toList = [v] := by
    obtain ⟨a, len, cap, rfl⟩ := okWide_slice ht hv
    rfl
  rwa [h1] at hn
theorem dec_int {e : TypeId} {k : IntKind} (he : P.underlying e = some (.int k)) (n : Nat) (cs : List Value) (x : DataW H × List MemPlace) (h : DataW.trod enc P w base spare held n e cs = some x) : ∃ y : Int, cs = [.int k y] ∧ (k.min ≤ y ∧ y ≤ k.max) := by
  obtain ⟨m, hv, _, hw⟩ := DataW.trod_int he h
  exact ⟨m, hv, int_wf hw⟩
end
end Eng
end Go.Proofs.Ytbejfbekamikpaa

/-
  What arguments read as: slices with their capacities.
-/
namespace Go.Proofs.Ytbejfbekamikpaa
namespace Eng
open Go.RowKit Go.ChangeShapes Go.WideShapes Go.Deep
set_option linter.unusedVariables false
section
variable {H : Type} {enc : TypeId × Value → H} {P : Program} {w : World} {base : Nat} {spare : Nat → Bool} {held : Bool}
/-- A slice that came in: its length, its capacity, whether it is nil. -/
structure Sl (A : Option Addr) (n c : Nat) : Prop where
  nil : A = none → n = 0 ∧ c = 0
  le : n ≤ c
  top : c ≤ 9223372036854775807
theorem rs_of_trod2 {α : Type} {t e : TypeId} {sz : Nat} (f : α → List Value) (ok : α → Prop) (ht : P.underlying t = some (.slice e)) (hC : P.cellsOf e = sz) (hsz : 0 < sz) (dec : ∀ n cs x, DataW.trod enc P w base spare held n e cs = some x → ∃ y, cs = f y ∧ ok y)
    {n : Nat} {cs : List Value} {x : DataW H × List MemPlace} (h : DataW.trod enc P w base spare held n t cs = some x) :
    ∃ (A : Option Addr) (c : Nat) (l : List α), cs = [.slice A l.length c] ∧ Sl A l.length c ∧ RS w sz f A l ∧ ∀ y ∈ l, ok y := by
  rcases open_slice ht h with ⟨rfl, _⟩ | ⟨a, len, cap, m, k, D, Pl, rfl, _, hlc, hcm, hm, _, hat⟩
  · exact ⟨none, 0, [], rfl, ⟨fun _ => ⟨rfl, rfl⟩, Nat.le_refl _, by simp⟩, RS.nil, fun y hy => by cases hy⟩
  · have hlm : len ≤ m := by rw [hm]; split <;> omega
    have hch : ∀ i : Fin len, ∃ y : α, w.cells? base (a.add (i.1 * sz)) sz = some (f y) ∧ ok y := fun i => by
      obtain ⟨cs', h1, h2⟩ := hat i.1 (by have := i.2; omega)
      obtain ⟨y, rfl, hy⟩ := dec _ _ _ h2
      rw [hC] at h1
      exact ⟨y, h1, hy⟩
    refine ⟨some a, cap, List.ofFn fun i => (hch i).choose, by simp, ⟨fun h => (by cases h), (by simp only [List.length_ofFn]; exact hlc), (by unfold maxLen at hcm; omega)⟩, fun i y hy => ?_, fun y hy => ?_⟩
    · have hi : i < len := by have := (List.getElem?_eq_some_iff.1 hy).1; simpa using this
      have e1 : y = (hch ⟨i, hi⟩).choose := by
        rw [List.getElem?_eq_getElem (by simpa using hi)] at hy
        simpa using hy.symm
      subst e1
      exact ⟨a, rfl, ext_of_cells (hch ⟨i, hi⟩).choose_spec.1 hsz⟩
    · obtain ⟨i, rfl⟩ := (List.mem_ofFn).1 hy
      exact (hch i).choose_spec.2
theorem open_rs2 {α : Type} {t e : TypeId} {sz : Nat} (f : α → List Value) (ok : α → Prop) (ht : P.underlying t = some (.slice e)) (hC : P.cellsOf e = sz) (hsz : 0 < sz) (dec : ∀ n cs x, DataW.trod enc P w base spare held n e cs = some x → ∃ y, cs = f y ∧ ok y)
    {r : Reach} {b0 : Nat} {v : Value} {d : DataW H} {ps : List MemPlace} (hv : Value.okWide P w r b0 t v) (h : DataW.Trod enc P w base spare held t v d ps) :
    ∃ (A : Option Addr) (c : Nat) (l : List α), v = .slice A l.length c ∧ Sl A l.length c ∧ RS w sz f A l ∧ ∀ y ∈ l, ok y := by
  obtain ⟨n, hn⟩ := trod_slice_cell ht hv h
  obtain ⟨A, c, l, h1, h2⟩ := rs_of_trod2 f ok ht hC hsz dec hn
  simp only [List.cons.injEq, and_true] at h1
  exact ⟨A, c, l, h1, h2⟩
/-- How a reading of a slice looks. -/
def Shp (d : DataW H) (n : Nat) : Prop := (d = .nil ∧ n = 0) ∨ ∃ es sp, d = .slice es sp ∧ es.length = n
end
/-- A head of a slice. -/
theorem RS.take {α : Type} {w : World} {sz : Nat} {f : α → List Value} {A : Option Addr} {l : List α} (h : RS w sz f A l) (k : Nat) : RS w sz f A (l.take k) := fun i x hx => by
  rw [List.getElem?_take] at hx
  split at hx
  · exact h i x hx
  · cases hx
end Eng
end Go.Proofs.Ytbejfbekamikpaa

/-
  Own rows: what they read as, and that they are slices.
-/
namespace Go.Proofs.Ytbejfbekamikpaa
namespace Eng
open Go.RowKit
set_option linter.unusedVariables false
theorem LSub.skip {L L' : List HA} {x : HA} (h : LSub L' L) : LSub L' (x :: L) := by
  obtain ⟨M, hM⟩ := h
  exact ⟨x :: M, (hM.cons x).trans List.perm_middle.symm⟩
theorem LSub.perm {L L' L'' : List HA} (h : LSub L' L) (hp : L'.Perm L'') : LSub L'' L := by
  obtain ⟨M, hM⟩ := h
  exact ⟨M, hM.trans (hp.append_right M)⟩
theorem LSub.left {T U : List HA} : LSub T (T ++ U) := ⟨U, List.Perm.refl _⟩
section
variable {C : Cx} {F : Fr} {L : List HA} {K : List KI} {ops : Array Oper}
theorem sc_perm {C : Cx} {c : Code} {K : List KI} {F : Fr} {L L' : List HA} (hp : L.Perm L') (h : SC C c K F L') : SC C c K F L := fun a w hf hs => h a w hf (hs.perm hp)
theorem j_perm {C : Cx} {l : List Oper} {K : List KI} {F : Fr} {L L' : List HA} {ops : Array Oper} (hp : L.Perm L') (h : J C ops false l K F L') : J C ops false l K F L := fun a w hf hs => h a w hf (hs.perm hp)
theorem sc_ownq {c' : Code} {v : Value} {e sz n : Nat} {xs : List Value} (hin : InL L (.own v e sz n xs)) (hn : 0 < n) (h : ∀ ad c, v = .slice (some ad) n c → n ≤ c → SC C c' K F L) : SC C c' K F L := fun a w hf hs => by
  have hA := hs.at hin
  rcases hA.2.2 with ⟨_, h0⟩ | ⟨g, cap, cur, hv, _, _, hnc, _⟩
  · omega
  · exact h _ _ hv hnc a w hf hs
end
section
variable {w0 w : World} {hot : Nat → Prop} {L L' : List HA}
theorem rs_own {α : Type} {f : α → List Value} {sz n c e : Nat} {A : Option Addr} {xs : List Value} {l : List α} (hf : ∀ x, (f x).length = sz) (hs : St w0 hot L w) (hin : InL L (.own (.slice A n c) e sz n xs)) (hn : n = l.length) (hx : xs = l.flatMap f) : RS w sz f A l := by
  subst hn
  subst hx
  have hA := hs.at hin
  rcases hA.2.2 with ⟨hv, h0⟩ | ⟨g, cap, cur, hv, _, hg, hnc, _⟩
  · have : l = [] := List.length_eq_zero_iff.1 h0
    subst this
    exact RS.nil
  · injection hv with h1 _ h3
    subst h1
    subst h3
    intro i x hx
    have hlt := (Array.getElem?_eq_some_iff.1 hg).1
    refine ⟨_, rfl, by rw [block_add]; exact hlt, fun j u hu => ?_⟩
    rw [nth_eq] at hu
    rw [Eng.add_add]
    exact own_cell hs hin (flat_at f sz hf l i x j u hx hu)
end
end Eng
end Go.Proofs.Ytbejfbekamikpaa

/-
  Rows as long as a machine's memory: make and append, bounded by bytes alone.
-/
namespace Go.Proofs.Ytbejfbekamikpaa
namespace Eng
open Go.RowKit
set_option linter.unusedVariables false
section
variable {C : Cx} {F : Fr} {L : List HA} {o : Oper} {K : List KI} {ops : Array Oper} {rest : List Oper}
theorem le_bytes {a b : Nat} (h : a * b ≤ 140737488355328) (hb : Nat.beq b 0 = false) : a ≤ 140737488355328 := Nat.le_trans (Nat.le_mul_of_pos_right _ (Nat.pos_of_ne_zero (Nat.ne_of_beq_eq_false hb))) h
theorem le_bytesI {a : Int} {b : Nat} (h0 : 0 ≤ a) (h : a * (b : Int) ≤ 140737488355328) (hb : Nat.beq b 0 = false) : a ≤ 140737488355328 := by
  have h1 := Nat.pos_of_ne_zero (Nat.ne_of_beq_eq_false hb)
  have : a * 1 ≤ a * (b : Int) := Int.mul_le_mul_of_nonneg_left (by omega) h0
  omega
theorem j_make0B {d t e sz by_ : Nat} {ti te : TI} {x y : Operand} {kl kc : IntKind} {k : Int} (ho : o.op = .makeSlice t x y) (hg : o.guard = none) (hd : o.dst = some d) (hn : Nat.blt d C.n = true) (ht : tget C.tab t = some ti) (hk : ti.kind = .slice e sz by_)
    (hte : tget C.tab e = some te) (hx : ev F x = some (.int kl 0)) (hy : ev F y = some (.int kc k)) (hpb : Nat.beq by_ 0 = false) (hb : 0 ≤ k ∧ k * (by_ : Int) ≤ 140737488355328)
    (h : ∀ b, J C ops false rest K ((d, .slice (some ⟨b, 0, none⟩) 0 k.toNat) :: F) (.own (.slice (some ⟨b, 0, none⟩) 0 k.toNat) e sz 0 [] :: L)) : J C ops false (o :: rest) K F L := by
  obtain ⟨hu, ie, hie, hsz, hby⟩ := tk_slice (C.ok.get ht) hk
  obtain ⟨i, z, hi, hz, hzc, _, _⟩ := zero_cells (C.ok.get hte)
  have e1 : ie = i := by rw [hie] at hi; injection hi
  subst e1
  have hk1 : k ≤ 140737488355328 := le_bytesI hb.1 hb.2 hpb
  have hk2 : (by_ : Int) * k ≤ 140737488355328 := by
    rw [Int.mul_comm]
    exact hb.2
  refine j_step_new (ob := .cells (madeCells z.cells (k.toNat * sz)) e) (x := fun b => .own (.slice (some ⟨b, 0, none⟩) 0 k.toNat) e sz 0 []) hg hd hn (fun b => .slice (some ⟨b, 0, none⟩) 0 k.toNat) (fun a w hf hs => ?_) (fun b c h => own_foot h) (fun w hw => ?_) h
  · have := run_make (P := C.P) w t e ie z hu hie hz kl kc 0 k (Int.le_refl _) hb.1 (by rw [hby]; omega) (by omega)
    rw [hsz] at this
    simp [execOp, ho, hf.ev hx, hf.ev hy, this]
  · refine ⟨fun q hq => ?_, World.ownsRow_made w _ _ (Nat.zero_le _) (by unfold maxLen; omega) (size_madeCells _ _)⟩
    have := own_foot (e := e) (sz := sz) (k := 0) (xs := []) hq
    subst this
    exact .inl hw
theorem j_appendSB {d t e sz by_ : Nat} {ti te : TI} {s x : Operand} {v : Value} {n k c : Nat} {A : Option Addr} {xs cs : List Value} (ho : o.op = .call { callee := .builtin .append, args := #[s, x], argTypes := #[t, t] })
    (hg : o.guard = none) (hd : o.dst = some d) (hn : Nat.blt d C.n = true) (ht : tget C.tab t = some ti) (hk : ti.kind = .slice e sz by_) (hte : tget C.tab e = some te) (hl : len te.zero = sz) (hpos : Nat.beq sz 0 = false)
    (hs : ev F s = some v) (hx : ev F x = some (.slice A k c))
    (hread : ∀ w, St C.w0 C.hot L w → (A = none → k = 0 ∧ c = 0) ∧ cs.length = k * sz ∧ (∀ ad, A = some ad → ∀ j u, cs[j]? = some u → w.cell? (ad.add j) = some u) ∧ ∀ u ∈ cs, u.oneCell' = true)
    (hown : InL L (.own v e sz n xs)) (hpb : Nat.beq by_ 0 = false) (hmax : (n + k) * by_ ≤ 140737488355328)
    {L' : Value → List HA} (hup : ∀ v', Upd L (.own v e sz n xs) (.own v' e sz (n + k) (xs ++ cs)) (L' v'))
    (h : ∀ v', J C ops false rest K ((d, v') :: F) (L' v')) : J C ops false (o :: rest) K F L := by
  intro a w hf hS
  obtain ⟨hu, ie, hie, hsz, hby⟩ := tk_slice (C.ok.get ht) hk
  obtain ⟨i, z, hi, hz, hzc, _, _⟩ := zero_cells (C.ok.get hte)
  have e1 : ie = i := by rw [hie] at hi; injection hi
  subst e1
  obtain ⟨hnil, hlen, hc, h1⟩ := hread w hS
  have hb2 : (n + k) ≤ 140737488355328 := le_bytes hmax hpb
  have hb3 : (n + k) * by_ ≤ 140737488355328 := hmax
  have hpos' : 0 < sz := Nat.pos_of_ne_zero (Nat.ne_of_beq_eq_false hpos)
  have hvl := hS.at hown
  have key : ∃ v' w', (Builtin.append_ #[t, t] o.type #[v, .slice A k c]).run C.P w = .ok v' w' ∧ w'.ownsRow 0 e sz v' (n + k) (xs ++ cs) ∧ w.grownBy w' v.ownBlock ∧ (v'.ownBlock = v.ownBlock ∨ v'.ownBlock = some w.heap.size) := by
    cases A with
    | none =>
      obtain ⟨rfl, rfl⟩ := hnil rfl
      have hcs : cs = [] := List.length_eq_zero_iff.1 (by rw [hlen]; simp)
      subst hcs
      have hr := run_append_owned_none (P := C.P) w 0 t o.type e ie sz hu hie v n xs hvl.2
      refine ⟨v, w, hr, by simpa using hvl.2, ⟨rfl, rfl, rfl, Nat.le_refl _, fun _ _ _ => rfl⟩, .inl rfl⟩
    | some ad =>
      obtain ⟨v', w', hr, hown', hgr, _, hat⟩ := run_append_own_at (P := C.P) w 0 t o.type e ie z sz by_ hu hie hz hsz hby (by rw [hzc, List.size_toArray, ← len_eq, hl]) hpos' v n xs hvl.2 ad k c cs hlen (hc ad rfl) h1
        (by unfold maxLen; omega) hb3 (Nat.zero_le _)
      exact ⟨v', w', hr, hown', hgr, hat⟩
  obtain ⟨v', w', hr, hown', hgr, hat⟩ := key
  have hrun : (execOp a.eval o).run C.P w = .ok (.value v') w' := by
    simp only [execOp, ho, resolve, invoke, builtin, Sem.run_bind, Sem.run_pure, Result.andThen_ok, List.map_toArray, List.map_cons, List.map_nil, hf.ev hs, hf.ev hx, hr]
  refine wpListIn_run (by simp [Region.wanted, hg]) (wpIn_value hrun ?_)
  rw [hd]
  refine h v' _ _ (hf.put _ hn) (hS.upd (hup v') ⟨hgr.os, hgr.tape, hgr.output, hgr.size, fun k hk => by omega⟩ ?_ ⟨fun q hq => ?_, hown'⟩ ?_)
  · intro q hq hne
    exact hgr.block q hq (fun e => hne e.symm)
  · rcases hat with e | e
    · exact hvl.1 q (e ▸ hq)
    · rw [e] at hq
      injection hq with hq
      have := hS.near.size
      exact .inl (by omega)
  · intro q hq
    rcases hat with e | e
    · exact .inl (e.symm.trans hq)
    · simp only [HA.foot, e, Option.some.injEq] at hq
      exact .inr (by omega)
theorem j_appendB {d t e sz by_ : Nat} {ti te : TI} {s x : Operand} {v : Value} {n k c b u : Nat} {xs cs : List Value} (ho : o.op = .call { callee := .builtin .append, args := #[s, x], argTypes := #[t, t] })
    (hg : o.guard = none) (hd : o.dst = some d) (hn : Nat.blt d C.n = true) (ht : tget C.tab t = some ti) (hk : ti.kind = .slice e sz by_) (hte : tget C.tab e = some te) (hl : len te.zero = sz) (hpos : Nat.beq sz 0 = false)
    (hs : ev F s = some v) (hx : ev F x = some (.slice (some ⟨b, 0, none⟩) k c)) (hin : InL L (.cells b u cs)) (hown : InL L (.own v e sz n xs)) (hlen : Nat.beq (len cs) (k * sz) = true) (h1 : ones cs = true)
    (hpb : Nat.beq by_ 0 = false) (hmax : (n + k) * by_ ≤ 140737488355328)
    {L' : Value → List HA} (hup : ∀ v', Upd L (.own v e sz n xs) (.own v' e sz (n + k) (xs ++ cs)) (L' v'))
    (h : ∀ v', J C ops false rest K ((d, v') :: F) (L' v')) : J C ops false (o :: rest) K F L := by
  intro a w hf hS
  obtain ⟨hu, ie, hie, hsz, hby⟩ := tk_slice (C.ok.get ht) hk
  obtain ⟨i, z, hi, hz, hzc, _, _⟩ := zero_cells (C.ok.get hte)
  have e1 : ie = i := by rw [hie] at hi; injection hi
  subst e1
  have hlen' := Nat.eq_of_beq_eq_true hlen
  rw [len_eq] at hlen'
  have hc : ∀ j u, cs[j]? = some u → w.cell? ((⟨b, 0, none⟩ : Addr).add j) = some u := fun j u hj => by
    rw [add_own, cells_cell (hS.at hin), nth_eq, Nat.zero_add]; exact hj
  have hb2 : (n + k) ≤ 140737488355328 := le_bytes hmax hpb
  have hb3 : (n + k) * by_ ≤ 140737488355328 := hmax
  have hpos' : 0 < sz := Nat.pos_of_ne_zero (Nat.ne_of_beq_eq_false hpos)
  have hvl := hS.at hown
  obtain ⟨v', w', hr, hown', hgr, _, hat⟩ := run_append_own_at (P := C.P) w 0 t o.type e ie z sz by_ hu hie hz hsz hby (by rw [hzc, List.size_toArray, ← len_eq, hl]) hpos' v n xs hvl.2 ⟨b, 0, none⟩ k c cs hlen' hc (ones_all h1)
    (by unfold maxLen; omega) hb3 (Nat.zero_le _)
  have hrun : (execOp a.eval o).run C.P w = .ok (.value v') w' := by
    simp only [execOp, ho, resolve, invoke, builtin, Sem.run_bind, Sem.run_pure, Result.andThen_ok, List.map_toArray, List.map_cons, List.map_nil, hf.ev hs, hf.ev hx, hr]
  refine wpListIn_run (by simp [Region.wanted, hg]) (wpIn_value hrun ?_)
  rw [hd]
  refine h v' _ _ (hf.put _ hn) (hS.upd (hup v') ⟨hgr.os, hgr.tape, hgr.output, hgr.size, fun k hk => by omega⟩ ?_ ⟨fun q hq => ?_, hown'⟩ ?_)
  · intro q hq hne
    exact hgr.block q hq (fun e => hne e.symm)
  · rcases hat with e | e
    · exact hvl.1 q (e ▸ hq)
    · rw [e] at hq
      injection hq with hq
      have := hS.near.size
      exact .inl (by omega)
  · intro q hq
    rcases hat with e | e
    · exact .inl (e.symm.trans hq)
    · simp only [HA.foot, e, Option.some.injEq] at hq
      exact .inr (by omega)
end
end Eng
end Go.Proofs.Ytbejfbekamikpaa

/-
  Numbers without a sign, shifts, bits; heads of rows.
-/
namespace Go.Proofs.Ytbejfbekamikpaa
namespace Eng
open Go.RowKit
set_option linter.unusedVariables false
set_option linter.unusedSimpArgs false
section
variable {C : Cx} {F : Fr} {L : List HA} {o : Oper} {K : List KI} {ops : Array Oper} {m : Bool} {rest : List Oper} {x y : Operand} {t u : TypeId} {k k' : IntKind} {a b : Int}
def arK : BinOp → Int → Int → Option Int
  | .add, a, b => some (a + b)
  | .sub, a, b => some (a - b)
  | .mul, a, b => some (a * b)
  | _, _, _ => none
end
end Eng
end Go.Proofs.Ytbejfbekamikpaa

/-
  Signs turned.
-/
namespace Go.Proofs.Ytbejfbekamikpaa
namespace Eng
open Go.RowKit
set_option linter.unusedVariables false
set_option linter.unusedSimpArgs false
section
variable {C : Cx} {F : Fr} {L : List HA} {o : Oper} {x : Operand} {t : TypeId} {k : IntKind} {a : Int}
end
section
variable {C : Cx} {F : Fr} {L : List HA} {o : Oper} {x y : Operand} {t u : TypeId}
end
end Eng
end Go.Proofs.Ytbejfbekamikpaa

/-
  Texts: their length, bytes, parts, and whether two are the same.
-/
namespace Go.Proofs.Ytbejfbekamikpaa
namespace Eng
open Go.RowKit
set_option linter.unusedVariables false
set_option linter.unusedSimpArgs false
abbrev strV (u : List UInt8) : Value := .string ⟨u.toArray⟩
section
variable {C : Cx} {F : Fr} {L : List HA} {o : Oper} {x y : Operand} {t t' : TypeId}
theorem bytes_eq (u v : List UInt8) : ((ByteArray.mk u.toArray).toList == (ByteArray.mk v.toArray).toList) = decide (u = v) := by
  rw [ByteArray.toList_eq, ByteArray.toList_eq]
  show (u.toArray.toList == v.toArray.toList) = _
  simp only [List.toList_toArray]
  by_cases h : u = v
  · rw [decide_eq_true h, h]; simp
  · rw [decide_eq_false h]; simpa using h
theorem q_eql_str {u v : List UInt8} (ho : o.op = .binOp .eql t x y t') (hx : ev F x = some (strV u)) (hy : ev F y = some (strV v)) : Qv C o F L (.bool (decide (u = v))) :=
  .of_run fun ac w hf hs => by
    rw [← bytes_eq]
    simp [execOp, ho, hf.ev hx, hf.ev hy, eqGuard, binOp, Op.stringOp]
theorem q_neq_str {u v : List UInt8} (ho : o.op = .binOp .neq t x y t') (hx : ev F x = some (strV u)) (hy : ev F y = some (strV v)) : Qv C o F L (.bool (!decide (u = v))) :=
  .of_run fun ac w hf hs => by
    rw [← bytes_eq]
    simp [execOp, ho, hf.ev hx, hf.ev hy, eqGuard, binOp, Op.stringOp]
end
end Eng
end Go.Proofs.Ytbejfbekamikpaa

/-
  Strings of bytes that were made.
-/
namespace Go.Proofs.Ytbejfbekamikpaa
namespace Eng
open Go.RowKit
set_option linter.unusedVariables false
section
variable {C : Cx} {F : Fr} {L : List HA} {o : Oper} {x y : Operand} {t t' : TypeId}
theorem q_conv_bts {s d e : TypeId} {b n c u : Nat} {cs : List Value} (l : List UInt8) (ho : o.op = .convert s d x) (hs : C.P.underlying s = some (.slice e)) (he : C.P.underlying e = some (.int .u8)) (hd : C.P.underlying d = some .string) (hx : ev F x = some (.slice (some ⟨b, 0, none⟩) n c)) (hin : InL L (.cells b u cs)) (hn : n = l.length) (hcs : cs = l.map fun z => .int .u8 (z.toNat : Int)) : Qv C o F L (strV l) :=
  .of_run fun a w hf hS => by
    subst hn
    have h1 := run_convert_bytes_back (P := C.P) w s d e ⟨b, 0, none⟩ c l hs he hd (fun j hj => by
      rw [show (⟨b, 0, none⟩ : Addr).add j = ⟨b, j, none⟩ from by simp [Addr.add]; exact fun e => e.symm, cells_cell (hS.at hin), nth_eq, hcs, List.getElem?_map, List.getElem?_eq_getElem hj]
      rfl)
    simp [execOp, ho, hf.ev hx, h1]
theorem q_eql_same {u : List UInt8} (ho : o.op = .binOp .eql t x y t') (hx : ev F x = some (strV u)) (hy : ev F y = some (strV u)) : Qv C o F L (.bool true) := by
  have h := q_eql_str (C := C) (L := L) ho hx hy
  rwa [decide_eq_true rfl] at h
theorem q_neq_same {u : List UInt8} (ho : o.op = .binOp .neq t x y t') (hx : ev F x = some (strV u)) (hy : ev F y = some (strV u)) : Qv C o F L (.bool false) := by
  have h := q_neq_str (C := C) (L := L) ho hx hy
  rwa [decide_eq_true rfl] at h
end
end Eng
end Go.Proofs.Ytbejfbekamikpaa

/-
  Equality of structs.
-/
namespace Go.Proofs.Ytbejfbekamikpaa
namespace Eng
open Go.RowKit
set_option linter.unusedVariables false
set_option linter.unusedSimpArgs false
section
variable {C : Cx} {F : Fr} {L : List HA} {o : Oper} {x y : Operand} {t u : TypeId} {xs ys : Array Value}
theorem q_eqS {r : Bool} (ho : o.op = .binOp .eql t x y u) (hm : C.P.eqGuardType C.P.depth t = false) (hx : ev F x = some (.agg xs)) (hy : ev F y = some (.agg ys)) (hr : ∀ w, (Op.equalIn 10000 t (.agg xs) (.agg ys)).run C.P w = .ok r w) : Qv C o F L (.bool r) :=
  .of_run fun a w hf hs => by
    simp only [execOp, ho, Sem.run_bind, hf.ev hx, hf.ev hy, run_eqGuard_agg _ _ _ _ _ _ _ hm, Result.andThen_ok, run_eql_struct, hr w]
    simp
theorem q_neS {r : Bool} (ho : o.op = .binOp .neq t x y u) (hm : C.P.eqGuardType C.P.depth t = false) (hx : ev F x = some (.agg xs)) (hy : ev F y = some (.agg ys)) (hr : ∀ w, (Op.equalIn 10000 t (.agg xs) (.agg ys)).run C.P w = .ok r w) : Qv C o F L (.bool (!r)) :=
  .of_run fun a w hf hs => by
    simp only [execOp, ho, Sem.run_bind, hf.ev hx, hf.ev hy, run_eqGuard_agg _ _ _ _ _ _ _ hm, Result.andThen_ok, run_neq_struct, hr w]
    simp
end
end Eng
end Go.Proofs.Ytbejfbekamikpaa
