/-
  The engine: rules of symbolic execution over the model's Code.wp and wpList. The frame is an association list, the memory
  of the call's own is a list of assertions; no world stands in the goals. It speaks of whatever program.
-/
import Derived.WalkKit
import Derived.Deep.Quiet
import Derived.RangeFuncLeaves
import Derived.TacticsIn
namespace Go.Proofs.Ytmcmmmaffdenjaa
namespace Eng
open Go.RowKit
set_option linter.unusedVariables false

theorem beq_ne {a b : Nat} (h : a ≠ b) : Nat.beq a b = false := by
  cases hb : Nat.beq a b
  · rfl
  · exact absurd (Nat.eq_of_beq_eq_true hb) h
theorem exists_min (p : Nat → Prop) (h : ∃ k, p k) : ∃ k, p k ∧ ∀ j, p j → k ≤ j := by
  obtain ⟨k, hk⟩ := h
  induction k using Nat.strongRecOn with
  | _ k ih =>
    by_cases hex : ∃ j, j < k ∧ p j
    · obtain ⟨j, hj, hp⟩ := hex
      exact ih j hj hp
    · exact ⟨k, hk, fun j hp => Nat.le_of_not_lt fun hlt => hex ⟨j, hlt, hp⟩⟩

/-! ### Frames -/
abbrev Fr := List (Nat × Value)
def Fr.get : Fr → Nat → Option Value
  | [], _ => none
  | (k, v) :: F, i => bif Nat.beq k i then some v else Fr.get F i
def ev (F : Fr) : Operand → Option Value
  | .tmp t => F.get t
  | .const v => some v
  | .global g => some (.pointer (some ⟨g, 0, none⟩))
  | .func f => some (.func (.func f) #[] #[])
structure Fits (n : Nat) (ds : List Deferred) (F : Fr) (a : Act) : Prop where
  dfr : a.defers = ds
  size : a.tmps.size = n
  get : ∀ i v, F.get i = some v → a.tmps[i]? = some v
theorem Fits.ev {n : Nat} {ds : List Deferred} {F : Fr} {a : Act} (h : Fits n ds F a) {x : Operand} {v : Value} (hx : Eng.ev F x = some v) : a.eval x = v := by
  cases x with
  | tmp t =>
    have := h.get t v hx
    simp [Act.eval, this]
  | const u => simpa [Eng.ev, Act.eval] using hx
  | global g => simpa [Eng.ev, Act.eval] using hx
  | func f => simpa [Eng.ev, Act.eval] using hx
theorem Fr.get_cons (k : Nat) (v : Value) (F : Fr) (i : Nat) : Fr.get ((k, v) :: F) i = if k = i then some v else Fr.get F i := by
  simp only [Fr.get]
  by_cases h : k = i
  · subst h; simp
  · simp [beq_ne h, h]
theorem Fits.put {n : Nat} {ds : List Deferred} {F : Fr} {a : Act} (h : Fits n ds F a) {d : Nat} (v : Value) (hd : Nat.blt d n = true) : Fits n ds ((d, v) :: F) (a.put (some d) v) := by
  have hd' : d < a.tmps.size := by rw [h.size]; simpa [Nat.blt_eq] using hd
  refine ⟨h.dfr, by simp [Act.put, h.size], fun i u hu => ?_⟩
  rw [Fr.get_cons] at hu
  by_cases e : d = i
  · subst e
    simp only [if_true, Option.some.injEq] at hu
    subst hu
    simp [Act.put, hd']
  · rw [if_neg e] at hu
    have := h.get i u hu
    simp only [Act.put, Array.getElem?_setIfInBounds]
    rw [if_neg e]
    exact this
theorem Fits.put_none {n : Nat} {ds : List Deferred} {F : Fr} {a : Act} (h : Fits n ds F a) (v : Value) : Fits n ds F (a.put none v) := h
def FSub (F' F : Fr) : Prop := ∀ i v, F'.get i = some v → F.get i = some v
theorem FSub.nil {F : Fr} : FSub [] F := fun i v h => by cases h
theorem FSub.cons {F' F : Fr} {k : Nat} {v : Value} (h : F.get k = some v) (h' : FSub F' F) : FSub ((k, v) :: F') F := by
  intro i u hu
  rw [Fr.get_cons] at hu
  by_cases e : k = i
  · subst e; simp only [if_true, Option.some.injEq] at hu; subst hu; exact h
  · rw [if_neg e] at hu; exact h' i u hu
theorem FSub.conse {F' F : Fr} {k : Nat} {v u : Value} (h : F.get k = some u) (e : u = v) (h' : FSub F' F) : FSub ((k, v) :: F') F := FSub.cons (e ▸ h) h'
theorem Fits.sub {n : Nat} {ds : List Deferred} {F F' : Fr} {a : Act} (h : Fits n ds F a) (hs : FSub F' F) : Fits n ds F' a := ⟨h.dfr, h.size, fun i v hv => h.get i v (hs i v hv)⟩

/-! ### The memory of the call's own -/
def nth : List Value → Nat → Option Value
  | [], _ => none
  | x :: _, 0 => some x
  | _ :: l, n + 1 => nth l n
theorem nth_eq (l : List Value) (n : Nat) : nth l n = l[n]? := by
  induction l generalizing n with
  | nil => simp [nth]
  | cons x l ih => cases n <;> simp [nth, ih]
/-- What is the same in two worlds, below a bound and but for the blocks that may be written. -/
structure Near (B : Nat) (hot : Nat → Prop) (w w' : World) : Prop where
  os : w'.os = w.os
  tape : w'.tape = w.tape
  output : w'.output = w.output
  size : w.heap.size ≤ w'.heap.size
  block : ∀ k, k < B → ¬ hot k → w'.heap[k]? = w.heap[k]?
def Cold : Nat → Prop := fun _ => False
theorem Near.refl (B : Nat) (hot : Nat → Prop) (w : World) : Near B hot w w := ⟨rfl, rfl, rfl, Nat.le_refl _, fun _ _ _ => rfl⟩
theorem Near.trans {B : Nat} {hot : Nat → Prop} {a b c : World} (h : Near B hot a b) (k : Near B hot b c) : Near B hot a c :=
  ⟨k.os.trans h.os, k.tape.trans h.tape, k.output.trans h.output, Nat.le_trans h.size k.size, fun i hi hn => (k.block i hi hn).trans (h.block i hi hn)⟩
theorem Near.mono {B B' : Nat} {hot hot' : Nat → Prop} {a b : World} (h : Near B hot a b) (hB : B' ≤ B) (hh : ∀ k, k < B' → hot k → hot' k) : Near B' hot' a b :=
  ⟨h.os, h.tape, h.output, h.size, fun k hk hn => h.block k (Nat.lt_of_lt_of_le hk hB) (fun hh' => hn (hh k hk hh'))⟩
theorem Near.below {B : Nat} {a b : World} (h : Near B Cold a b) : Below B a b := ⟨h.os, h.tape, h.output, h.size, fun k hk => h.block k hk (fun h => h)⟩
theorem near_of_below {B : Nat} {hot : Nat → Prop} {a b : World} (h : Below B a b) : Near B hot a b := ⟨h.os, h.tape, h.output, h.size, fun k hk _ => h.block k hk⟩
theorem Near.cell {B : Nat} {hot : Nat → Prop} {w w' : World} (h : Near B hot w w') {p : Addr} (hp : p.block < B) (hn : ¬ hot p.block) : w'.cell? p = w.cell? p := World.cell?_of_block (w := w) (h.block p.block hp hn)
inductive HA where
  | cells (b : Nat) (t : TypeId) (cs : List Value)
  | own (v : Value) (e : TypeId) (sz n : Nat) (xs : List Value)
  | abs (S : Nat → Prop) (p : World → Prop)
  | pure (p : Prop)
def HA.foot : HA → Nat → Prop
  | .cells b _ _, k => k = b
  | .own v _ _ _ _, k => v.ownBlock = some k
  | .abs S _, k => S k
  | .pure _, _ => False
def HA.holds (B : Nat) (hot : Nat → Prop) (w : World) : HA → Prop
  | .cells b t cs => (B ≤ b ∨ hot b) ∧ w.heap[b]? = some (.cells cs.toArray t (0, 0))
  | .own v e sz n xs => (∀ b, v.ownBlock = some b → B ≤ b ∨ hot b) ∧ w.ownsRow 0 e sz v n xs
  | .abs S p => (∀ b, S b → (B ≤ b ∨ hot b) ∧ b < w.heap.size) ∧ p w ∧ ∀ w', Near B hot w w' → (∀ b, S b → w'.heap[b]? = w.heap[b]?) → p w'
  | .pure p => p
def HA.apart (x y : HA) : Prop := ∀ b, x.foot b → ¬ y.foot b
structure St (w0 : World) (hot : Nat → Prop) (L : List HA) (w : World) : Prop where
  near : Near w0.heap.size hot w0 w
  holds : ∀ x ∈ L, x.holds w0.heap.size hot w
  sep : L.Pairwise HA.apart
theorem St.below {w0 : World} {L : List HA} {w : World} (h : St w0 Cold L w) : Below w0.heap.size w0 w := h.near.below
theorem HA.apart.symm {x y : HA} (h : x.apart y) : y.apart x := fun b hy hx => h b hx hy
theorem HA.holds.lt {B : Nat} {hot : Nat → Prop} {w : World} {x : HA} (h : x.holds B hot w) {b : Nat} (hb : x.foot b) : (B ≤ b ∨ hot b) ∧ b < w.heap.size := by
  cases x with
  | cells b' t cs =>
    simp only [HA.foot] at hb
    subst hb
    exact ⟨h.1, (Array.getElem?_eq_some_iff.1 h.2).1⟩
  | own v e sz n xs =>
    refine ⟨h.1 b hb, ?_⟩
    simp only [HA.foot] at hb
    rcases h.2.2 with ⟨rfl, _⟩ | ⟨g, cap, cur, rfl, hg, hh, _⟩
    · simp [Value.ownBlock] at hb
    · simp only [Value.ownBlock, Option.some.injEq] at hb
      subst hb
      exact (Array.getElem?_eq_some_iff.1 hh).1
  | abs S p => exact h.1 b hb
  | pure p => exact hb.elim
/-- An assertion stays while its blocks stay. -/
theorem HA.holds.keep {B : Nat} {hot : Nat → Prop} {w w' : World} {x : HA} (h : x.holds B hot w) (hk : ∀ b, x.foot b → w'.heap[b]? = w.heap[b]?) (hn : Near B hot w w') : x.holds B hot w' := by
  cases x with
  | cells b t cs => exact ⟨h.1, (hk b rfl).trans h.2⟩
  | own v e sz n xs =>
    refine ⟨h.1, h.2.1, ?_⟩
    rcases h.2.2 with ⟨rfl, h0⟩ | ⟨g, cap, cur, rfl, hg, hh, rest⟩
    · exact .inl ⟨rfl, h0⟩
    · exact .inr ⟨g, cap, cur, rfl, hg, (hk g rfl).trans hh, rest⟩
  | abs S p =>
    refine ⟨fun b hb => ⟨(h.1 b hb).1, Nat.lt_of_lt_of_le (h.1 b hb).2 hn.size⟩, h.2.2 w' hn hk, fun w'' hn' hk' => h.2.2 w'' (hn.trans hn') (fun b hb => (hk' b hb).trans (hk b hb))⟩
  | pure p => exact h
theorem St.start (w0 : World) (hot : Nat → Prop) : St w0 hot [] w0 := ⟨Near.refl _ _ _, fun x hx => (by cases hx), List.Pairwise.nil⟩
section
variable {w0 w w' : World} {hot : Nat → Prop} {L L' : List HA} {x y : HA}
/-- A step that writes nothing of what stands in L: blocks from w0 that are not hot stay since whatever is written was new. -/
theorem St.later (h : St w0 hot L w) (hb : Below w.heap.size w w') : St w0 hot L w' :=
  ⟨h.near.trans (near_of_below (hb.mono h.near.size)), fun x hx => (h.holds x hx).keep (fun b hb' => hb.block b ((h.holds x hx).lt hb').2) (near_of_below (hb.mono h.near.size)), h.sep⟩
theorem St.cons (h : St w0 hot L w) (hx : x.holds w0.heap.size hot w) (hs : ∀ y ∈ L, x.apart y) : St w0 hot (x :: L) w :=
  ⟨h.near, fun y hy => (by rcases List.mem_cons.1 hy with rfl | hy; exact hx; exact h.holds y hy), List.Pairwise.cons hs h.sep⟩
theorem St.tail (h : St w0 hot (x :: L) w) : St w0 hot L w :=
  ⟨h.near, fun y hy => h.holds y (List.mem_cons_of_mem _ hy), (List.pairwise_cons.1 h.sep).2⟩
theorem St.head (h : St w0 hot (x :: L) w) : x.holds w0.heap.size hot w := h.holds x List.mem_cons_self
theorem St.head_apart (h : St w0 hot (x :: L) w) : ∀ y ∈ L, x.apart y := (List.pairwise_cons.1 h.sep).1
theorem St.perm (h : St w0 hot L w) (hp : L.Perm L') : St w0 hot L' w :=
  ⟨h.near, fun x hx => h.holds x (hp.mem_iff.2 hx), (hp.pairwise_iff (fun h => HA.apart.symm h)).1 h.sep⟩
/-- A new block. -/
theorem St.alloc (h : St w0 hot L w) (o : Obj) (hf : ∀ b, x.foot b → b = w.heap.size) (hx : x.holds w0.heap.size hot (w.alloc o)) : St w0 hot (x :: L) (w.alloc o) := by
  have h' := h.later ((Below.refl w.heap.size w).alloc (Nat.le_refl _) o)
  refine h'.cons hx fun y hy b hb hb' => ?_
  have e := hf b hb
  subst e
  have := ((h.holds y hy).lt hb').2
  omega
end
inductive InL : List HA → HA → Prop where
  | here {x : HA} {L : List HA} : InL (x :: L) x
  | there {x y : HA} {L : List HA} : InL L x → InL (y :: L) x
inductive Rem : List HA → HA → List HA → Prop where
  | here {x : HA} {L : List HA} : Rem (x :: L) x L
  | there {x y : HA} {L L' : List HA} : Rem L x L' → Rem (y :: L) x (y :: L')
inductive Upd : List HA → HA → HA → List HA → Prop where
  | here {x y : HA} {L : List HA} : Upd (x :: L) x y (y :: L)
  | there {x y z : HA} {L L' : List HA} : Upd L x y L' → Upd (z :: L) x y (z :: L')
theorem InL.mem {L : List HA} {x : HA} (h : InL L x) : x ∈ L := by
  induction h with
  | here => exact List.mem_cons_self
  | there _ ih => exact List.mem_cons_of_mem _ ih
theorem St.at {w0 w : World} {hot : Nat → Prop} {L : List HA} {x : HA} (h : St w0 hot L w) (hi : InL L x) : x.holds w0.heap.size hot w := h.holds x hi.mem
theorem Rem.perm {L L' : List HA} {x : HA} (h : Rem L x L') : L.Perm (x :: L') := by
  induction h with
  | here => exact List.Perm.refl _
  | there _ ih => exact (List.Perm.cons _ ih).trans (List.Perm.swap _ _ _)
theorem Upd.perm {L L' : List HA} {x y : HA} (h : Upd L x y L') : ∃ M, L.Perm (x :: M) ∧ L'.Perm (y :: M) := by
  induction h with
  | @here x y L => exact ⟨L, List.Perm.refl _, List.Perm.refl _⟩
  | @there x y z L L' _ ih =>
    obtain ⟨M, h1, h2⟩ := ih
    exact ⟨z :: M, (List.Perm.cons _ h1).trans (List.Perm.swap _ _ _), (List.Perm.cons _ h2).trans (List.Perm.swap _ _ _)⟩
/-- One assertion is replaced: its blocks have been written, or left for new ones; the others stay. -/
theorem St.upd {w0 w w' : World} {hot : Nat → Prop} {L L' : List HA} {x y : HA} (h : St w0 hot L w) (hu : Upd L x y L') (h0 : Below 0 w w')
    (hk : ∀ b, b < w.heap.size → ¬ x.foot b → w'.heap[b]? = w.heap[b]?) (hy : y.holds w0.heap.size hot w') (hf : ∀ b, y.foot b → x.foot b ∨ w.heap.size ≤ b) : St w0 hot L' w' := by
  obtain ⟨M, h1, h2⟩ := hu.perm
  have hs := h.perm h1
  have hn : Near w0.heap.size hot w w' := ⟨h0.os, h0.tape, h0.output, h0.size, fun k hk' hnot => hk k (Nat.lt_of_lt_of_le hk' h.near.size) (fun hx => by
    rcases (hs.head.lt hx).1 with h3 | h3
    · omega
    · exact hnot h3)⟩
  have ht : St w0 hot M w' := ⟨h.near.trans hn, fun z hz => (hs.tail.holds z hz).keep (fun b hb => hk b ((hs.tail.holds z hz).lt hb).2 (fun hx => hs.head_apart z hz b hx hb)) hn, hs.tail.sep⟩
  refine (ht.cons hy fun z hz b hyb hzb => ?_).perm h2.symm
  rcases hf b hyb with h3 | h3
  · exact hs.head_apart z hz b h3 hzb
  · have h4 := ((hs.tail.holds z hz).lt hzb).2
    omega
def LSub (L' L : List HA) : Prop := ∃ M, L.Perm (L' ++ M)
theorem LSub.refl {L : List HA} : LSub L L := ⟨[], by simp⟩
theorem LSub.nil {L : List HA} : LSub [] L := ⟨L, by simp⟩
theorem LSub.cons {L L' M : List HA} {x : HA} (h : Rem L x M) (h' : LSub L' M) : LSub (x :: L') L := by
  obtain ⟨N, hN⟩ := h'
  exact ⟨N, h.perm.trans (List.Perm.cons _ hN)⟩
theorem St.sub {w0 w : World} {hot : Nat → Prop} {L L' : List HA} (h : St w0 hot L w) (hs : LSub L' L) : St w0 hot L' w := by
  obtain ⟨M, hM⟩ := hs
  have h1 := h.perm hM
  exact ⟨h1.near, fun x hx => h1.holds x (List.mem_append_left _ hx), (List.pairwise_append.1 h1.sep).1⟩

/-! ### Types, as a table -/
inductive TK where
  | one
  | int (k : IntKind)
  | str
  | struct (offs szs : List Nat)
  | arr (len elem sz : Nat)
  | slice (elem sz bytes : Nat)
  | map (key elem : Nat)
def vcells : Value → List Value
  | .agg cs => cs.toList
  | v => [v]
structure TI where
  size : Nat
  zv : Value
  kind : TK
def TI.zero (ti : TI) : List Value := vcells ti.zv
def descOne : TypeDesc → Bool
  | .struct _ | .array _ _ => false
  | _ => true
def TK.check (P : Program) (t : TypeId) : TK → Bool
  | .one => match P.underlying t with
    | some d => descOne d
    | none => false
  | .int k => match P.underlying t with
    | some (.int k') => decide (k' = k)
    | _ => false
  | .str => match P.underlying t with
    | some .string => true
    | _ => false
  | .struct offs szs => match P.underlying t with
    | some (.struct fs) => decide (fs.toList.map (fun f => f.offset) = offs) && decide (fs.toList.map (fun f => (match P.info? f.type with | some i => i.size | none => 0)) = szs) && szs.all (fun s => decide (s ≠ 0))
    | _ => false
  | .arr len e sz => match P.underlying t with
    | some (.array n e') => decide (n = len ∧ e' = e) && (match P.info? e with | some i => decide (i.size = sz) | none => false)
    | _ => false
  | .slice e sz bytes => match P.underlying t with
    | some (.slice e') => decide (e' = e) && (match P.info? e with | some i => decide (i.size = sz ∧ i.bytes = bytes) | none => false)
    | _ => false
  | .map k e => match P.underlying t with
    | some (.map k' e') => decide (k' = k ∧ e' = e)
    | _ => false
structure TIok (P : Program) (t : TypeId) (ti : TI) : Prop where
  size : (P.info? t).map (·.size) = some ti.size
  zero : (P.info? t).bind (·.zero) = some ti.zv
  kind : ti.kind.check P t = true
def tget : List (Nat × TI) → Nat → Option TI
  | [], _ => none
  | (k, v) :: F, i => bif Nat.beq k i then some v else tget F i
def TabOk (P : Program) : List (Nat × TI) → Prop
  | [] => True
  | (t, ti) :: l => TIok P t ti ∧ TabOk P l
theorem TabOk.get {P : Program} {T : List (Nat × TI)} (h : TabOk P T) {t : Nat} {ti : TI} (ht : tget T t = some ti) : TIok P t ti := by
  induction T with
  | nil => cases ht
  | cons x T ih =>
    obtain ⟨k, v⟩ := x
    simp only [tget] at ht
    by_cases e : k = t
    · subst e
      simp only [Nat.beq_refl, cond_true, Option.some.injEq] at ht
      exact ht ▸ h.1
    · have hb : Nat.beq k t = false := beq_ne e
      rw [hb] at ht
      exact ih h.2 ht

/-! ### The judgements -/
def callable (P : Program) (f : Nat) : Bool :=
  match P.funcs[f]? with
  | some fn => !(fn.name == "runtime.NumGoroutine") && !fn.body.isNone
  | none => false
def Callables (P : Program) (l : Nat × Nat) : Prop := (List.range l.2).all (fun i => decide (i < l.1) || callable P i) = true
def has (l : Nat × Nat) (n : Nat) : Bool := bif Nat.ble l.1 n then Nat.blt n l.2 else false
theorem has_mem {l : Nat × Nat} {n : Nat} (h : has l n = true) : l.1 ≤ n ∧ n < l.2 := by
  unfold has at h
  cases h1 : Nat.ble l.1 n with
  | false => simp [h1] at h
  | true =>
    simp only [h1, cond_true] at h
    exact ⟨Nat.le_of_ble_eq_true h1, by simpa [Nat.blt_eq] using h⟩
structure Cx where
  P : Program
  tab : List (Nat × TI)
  ok : TabOk P tab
  fns : Nat × Nat
  fok : Callables P fns
  fn : Func
  R : Ending → World → Prop
  rs : List ResultVar
  hrs : fn.results = rs.toArray
  Qr : Exit → Act → World → Prop
  w0 : World
  n : Nat
  hot : Nat → Prop
  rd : Option Nat
  ds : List Deferred
def fc (rd : Option Nat) : Fence := { fn := fun _ => True, depth := none, alive := false, round := rd }
theorem fc_none : fc none = Fence.wide := rfl
theorem fc_room (rd : Option Nat) (k : Nat) : (fc rd).room k := fun d hd => by simp [fc] at hd
theorem callsIn_fc {rd : Option Nat} {n : Nat} {P : Program} {f : FuncId} {args : Array Value} {w : World} {R : Ending → World → Prop} : CallsIn (fc rd) n P f args w R ↔ Calls P f args w R :=
  (callsIn_wide (n := n))
def Cx.Qf (C : Cx) : Exit → Act → World → Prop :=
  match C.rd with
  | none => bodyPostM (fc none) 0 C.P C.fn C.R
  | some _ => C.Qr
inductive KI where
  | seq (c : Code)
  | blk (id : Nat)
  | loop (J : Act → World → Prop)
  | fin (J : Act → World → Prop)
def kpost (C : Cx) : List KI → Exit → Act → World → Prop
  | [] => C.Qf
  | .seq c :: K => Exit.then (c.wpIn (fc C.rd) 0 C.P (kpost C K)) (kpost C K)
  | .blk id :: K => Exit.inBlock id (kpost C K)
  | .loop J :: K => Exit.then J (kpost C K)
  | .fin J :: _ => Exit.then J (fun _ _ _ => False)
def SC (C : Cx) (c : Code) (K : List KI) (F : Fr) (L : List HA) : Prop := ∀ a w, Fits C.n C.ds F a → St C.w0 C.hot L w → c.wpIn (fc C.rd) 0 C.P (kpost C K) a w
def SQ (C : Cx) (e : Exit) (K : List KI) (F : Fr) (L : List HA) : Prop := ∀ a w, Fits C.n C.ds F a → St C.w0 C.hot L w → kpost C K e a w
def J (C : Cx) (ops : Array Oper) (m : Bool) (l : List Oper) (K : List KI) (F : Fr) (L : List HA) : Prop :=
  match m with
  | false => ∀ a w, Fits C.n C.ds F a → St C.w0 C.hot L w → wpListIn (fc C.rd) 0 C.P ops (kpost C K) l a w
  | true => ∀ a, Fits C.n C.ds F a → wpQuiet C.P ops (St C.w0 C.hot L) (fun a' => ∀ w', St C.w0 C.hot L w' → kpost C K .normal a' w') l a
/-- An operation that leaves memory alone, or a call that does: one value, in every world of the class. -/
def Qt (C : Cx) (o : Oper) (F : Fr) (L : List HA) (v : Value) : Prop := ∀ a w, Fits C.n C.ds F a → St C.w0 C.hot L w → o.quietAt C.P a (St C.w0 C.hot L) w v
theorem semAt_of_value {P : Program} {ro : Option Nat} {ρ : Operand → Value} {o : Oper} {w w' : World} {x : Next} (h : (execOp ρ o).run P w = .ok x w') (hx : ∀ d, x ≠ .defer d) : (o.semAt ro ρ).run P w = .ok x w' := by
  rw [Oper.semAt_eq ro ρ o]
  · exact h
  · intro c hc
    simp only [execOp, hc, Sem.run_bind] at h
    cases hr : (resolve ρ c o.type).run P w with
    | ok d w1 =>
      simp only [hr, Result.andThen_ok, Sem.run_pure, Result.ok.injEq] at h
      exact hx _ h.1.symm
    | halt z w1 => simp [hr] at h
theorem wpListIn_run {rd : Option Nat} {P : Program} {ops : Array Oper} {Q : Exit → Act → World → Prop} {o : Oper} {rest : List Oper} {a : Act} {w : World} (hw : Region.wanted o (yielded ops a.tmps) = true)
    (h : o.wpIn (fc rd) 0 P a w (wpListIn (fc rd) 0 P ops Q rest) Q) : wpListIn (fc rd) 0 P ops Q (o :: rest) a w := by
  unfold wpListIn
  rw [if_pos hw]
  exact h
theorem wpIn_value {rd : Option Nat} {P : Program} {o : Oper} {a : Act} {w w' : World} {v : Value} {next : Act → World → Prop} {Q : Exit → Act → World → Prop} (hr : (execOp a.eval o).run P w = .ok (.value v) w') (h : next (a.put o.dst v) w') : o.wpIn (fc rd) 0 P a w next Q :=
  ⟨fun _ _ => trivial, by rw [show (fc rd).round = rd from rfl, semAt_of_value hr (fun d e => by cases e), Oper.uponIn_value]; exact h⟩
theorem wpIn_skip_ {rd : Option Nat} {P : Program} {o : Oper} {a : Act} {w w' : World} {next : Act → World → Prop} {Q : Exit → Act → World → Prop} (hr : (execOp a.eval o).run P w = .ok .skip w') (h : next (a.put o.dst undef) w') : o.wpIn (fc rd) 0 P a w next Q :=
  ⟨fun _ _ => trivial, by rw [show (fc rd).round = rd from rfl, semAt_of_value hr (fun d e => by cases e), Oper.uponIn_skip]; exact h⟩
theorem wpIn_enter_ {rd : Option Nat} {P : Program} {o : Oper} {a : Act} {w w' : World} {f : FuncId} {args : Array Value} {next : Act → World → Prop} {Q : Exit → Act → World → Prop} (hr : (execOp a.eval o).run P w = .ok (.enter f args) w')
    (h : Calls P f args w' fun | .returned v, w'' => next (a.put o.dst v) w'' | .panicked chain, w'' => Q (.panic chain) a w'' | .outgrown, _ => LetsOut Q) : o.wpIn (fc rd) 0 P a w next Q :=
  ⟨fun _ _ => trivial, by rw [show (fc rd).round = rd from rfl, semAt_of_value hr (fun d e => by cases e), Oper.uponIn_enter]; exact ⟨fun h => by simp [fc] at h, callsIn_fc.2 h⟩⟩
theorem calls_ret {P : Program} {f : FuncId} {args : Array Value} {w : World} {R : Value → World → Prop} {G : Ending → World → Prop} (h : Calls P f args w fun e w' => ∃ v, e = .returned v ∧ R v w') (hg : ∀ v w', R v w' → G (.returned v) w') : Calls P f args w G :=
  h.mono fun e w' ⟨v, he, hr⟩ => by subst he; exact hg v w' hr
section rules
variable {C : Cx} {K : List KI} {F : Fr} {L : List HA} {ops : Array Oper} {m : Bool} {o : Oper} {rest : List Oper}
theorem sc_seq {x y : Code} (h : SC C x (.seq y :: K) F L) : SC C (.seq x y) K F L := fun a w hf hs => wpIn_seq (h a w hf hs)
theorem sc_skip (h : SQ C .normal K F L) : SC C .skip K F L := fun a w hf hs => wpIn_skip (h a w hf hs)
theorem sc_exit {id : Nat} (h : SQ C (.exit id) K F L) : SC C (.exit id) K F L := fun a w hf hs => wpIn_exit (h a w hf hs)
theorem sc_ret (h : SQ C .ret K F L) : SC C .ret K F L := fun a w hf hs => wpIn_ret (h a w hf hs)
theorem sc_block {id : Nat} {c : Code} (h : SC C c (.blk id :: K) F L) : SC C (.block id c) K F L := fun a w hf hs => wpIn_block (h a w hf hs)
theorem sc_region {id : Nat} {l : List Oper} (h : J C l.toArray false l K F L) : SC C (.region id l.toArray false) K F L := fun a w hf hs => wpIn_region_lit (h a w hf hs)
theorem sc_draw {id : Nat} {l : List Oper} (hrd : C.rd = none) (hm : C.P.follows .mixedOrders = true) (hB : Region.lexB .any l.toArray = true) (h : J C l.toArray true l K F L) : SC C (.region id l.toArray true) K F L :=
  fun a w hf hs => by
    rw [hrd, fc_none]
    rw [wpIn_wide]
    exact wp_region_quiet (C := St C.w0 C.hot L) hm hB (hs.later (Below.refl _ _).drew) (by simpa using h a hf)
theorem sc_cond {c : Operand} {x y : Code} {t : Bool} (hc : ev F c = some (.bool t)) (ht : t = true → SC C x K F L) (hf : t = false → SC C y K F L) : SC C (.cond c x y) K F L :=
  fun a w hF hs => wpIn_cond_split (hF.ev hc) (fun h => ht h a w hF hs) (fun h => hf h a w hF hs)
theorem sc_loop {ι : Type} {body : Code} (I : ι → Prop) (μ : ι → Nat) (FI : ι → Fr) (LI : ι → List HA) (i0 : ι) (h0 : I i0) (hF : FSub (FI i0) F) (hL : LSub (LI i0) L)
    (round : ∀ i, I i → SC C body (.loop (fun a w => ∃ j, I j ∧ μ j < μ i ∧ Fits C.n C.ds (FI j) a ∧ St C.w0 C.hot (LI j) w) :: K) (FI i) (LI i)) : SC C (.loop body) K F L := by
  classical
  intro a w hf hs
  refine wpIn_loop (fun a w => ∃ i, I i ∧ Fits C.n C.ds (FI i) a ∧ St C.w0 C.hot (LI i) w)
    (fun a w => if h : ∃ k, ∃ i, μ i = k ∧ I i ∧ Fits C.n C.ds (FI i) a ∧ St C.w0 C.hot (LI i) w then (exists_min _ h).choose else 0) ⟨i0, h0, hf.sub hF, hs.sub hL⟩ ?_
  intro a w hI
  have hex : ∃ k, ∃ i, μ i = k ∧ I i ∧ Fits C.n C.ds (FI i) a ∧ St C.w0 C.hot (LI i) w := by
    obtain ⟨i, hi, hfi, hsi⟩ := hI
    exact ⟨μ i, i, rfl, hi, hfi, hsi⟩
  obtain ⟨i, hmu, hi, hfi, hsi⟩ := (exists_min _ hex).choose_spec.1
  have hr := round i hi a w hfi hsi
  refine wpIn_mono hr fun e a' w' hq => ?_
  cases e with
  | normal =>
    obtain ⟨j, hj, hlt, hfj, hsj⟩ := hq
    refine ⟨⟨j, hj, hfj, hsj⟩, ?_⟩
    rw [dif_pos hex]
    have hex' : ∃ k, ∃ i, μ i = k ∧ I i ∧ Fits C.n C.ds (FI i) a' ∧ St C.w0 C.hot (LI i) w' := ⟨μ j, j, rfl, hj, hfj, hsj⟩
    rw [dif_pos hex']
    have := (exists_min _ hex').choose_spec.2 _ ⟨j, rfl, hj, hfj, hsj⟩
    omega
  | exit id => exact hq
  | goto l => exact hq
  | ret => exact hq
  | panic ch => exact hq
  | outgrown => exact hq
theorem sq_seq {y : Code} (h : SC C y K F L) : SQ C .normal (.seq y :: K) F L := fun a w hf hs => h a w hf hs
theorem sq_seq_ret {y : Code} (h : SQ C .ret K F L) : SQ C .ret (.seq y :: K) F L := fun a w hf hs => h a w hf hs
theorem sq_seq_exit {id : Nat} {y : Code} (h : SQ C (.exit id) K F L) : SQ C (.exit id) (.seq y :: K) F L := fun a w hf hs => h a w hf hs
theorem sq_blk {id : Nat} (h : SQ C .normal K F L) : SQ C .normal (.blk id :: K) F L := fun a w hf hs => h a w hf hs
theorem sq_blk_ret {id : Nat} (h : SQ C .ret K F L) : SQ C .ret (.blk id :: K) F L := fun a w hf hs => h a w hf hs
theorem sq_blk_hit {id : Nat} (h : SQ C .normal K F L) : SQ C (.exit id) (.blk id :: K) F L := fun a w hf hs => by
  show Exit.inBlock id (kpost C K) (.exit id) a w
  simp only [Exit.inBlock, if_true]
  exact h a w hf hs
theorem sq_blk_miss {id id' : Nat} (hne : Nat.beq id id' = false) (h : SQ C (.exit id) K F L) : SQ C (.exit id) (.blk id' :: K) F L := fun a w hf hs => by
  show Exit.inBlock id' (kpost C K) (.exit id) a w
  have : id ≠ id' := Nat.ne_of_beq_eq_false hne
  simp only [Exit.inBlock, if_neg this]
  exact h a w hf hs
theorem sq_loop_ret {I : Act → World → Prop} (h : SQ C .ret K F L) : SQ C .ret (.loop I :: K) F L := fun a w hf hs => h a w hf hs
theorem sq_loop_exit {id : Nat} {I : Act → World → Prop} (h : SQ C (.exit id) K F L) : SQ C (.exit id) (.loop I :: K) F L := fun a w hf hs => h a w hf hs
theorem sq_loop {ι : Type} {I : ι → Prop} {μ : ι → Nat} {M : Nat} {FI : ι → Fr} {LI : ι → List HA} (j : ι) (hj : I j) (hlt : μ j < M) (hF : FSub (FI j) F) (hL : LSub (LI j) L) :
    SQ C .normal (.loop (fun a w => ∃ j, I j ∧ μ j < M ∧ Fits C.n C.ds (FI j) a ∧ St C.w0 C.hot (LI j) w) :: K) F L :=
  fun a w hf hs => ⟨j, hj, hlt, hf.sub hF, hs.sub hL⟩
theorem j_nil (h : SQ C .normal K F L) : J C ops m [] K F L := by
  cases m
  · exact fun a w hf hs => (h a w hf hs : kpost C K .normal a w)
  · exact fun a hf => wpQuiet_nil fun w' hs => h a w' hf hs
theorem Qt.wp {v : Value} (hq : Qt C o F L v) {a : Act} {w : World} (hf : Fits C.n C.ds F a) (hs : St C.w0 C.hot L w) {Kc : Act → World → Prop} {Q : Exit → Act → World → Prop}
    (h : ∀ w', St C.w0 C.hot L w' → Kc (a.put o.dst v) w') : o.wpIn (fc C.rd) 0 C.P a w Kc Q := by
  have h1 := hq a w hf hs
  unfold Oper.quietAt at h1
  generalize hr : (execOp a.eval o).run C.P w = r at h1
  cases r with
  | ok x w' =>
    cases x <;> simp only [Oper.quietUpon] at h1
    case value u =>
      obtain ⟨rfl, rfl⟩ := h1
      exact wpIn_value hr (h _ hs)
    case skip =>
      obtain ⟨rfl, rfl⟩ := h1
      exact wpIn_skip_ hr (h _ hs)
    case enter f args =>
      obtain ⟨rfl, hc⟩ := h1
      refine wpIn_enter_ hr (hc.mono fun e w'' ⟨he, hs'⟩ => ?_)
      subst he
      exact h _ hs'
  | halt x w' => simp only [Oper.quietUpon] at h1
theorem j_any (hw : ∀ a, Fits C.n C.ds F a → Region.wanted o (yielded ops a.tmps) = true) {v : Value} (hq : Qt C o F L v) {F' : Fr} (hF : ∀ a, Fits C.n C.ds F a → Fits C.n C.ds F' (a.put o.dst v))
    (h : J C ops m rest K F' L) : J C ops m (o :: rest) K F L := by
  cases m
  · intro a w hf hs
    exact wpListIn_run (hw a hf) (hq.wp hf hs fun w' hs' => h _ w' (hF a hf) hs')
  · intro a hf
    refine wpQuiet_step fun Kc hK => ?_
    rw [if_pos (hw a hf)]
    exact ⟨v, fun w hs => hq a w hf hs, hK _ (h _ (hF a hf))⟩
/-- A quiet operation, without a guard. -/
theorem j_q {d : Nat} {v : Value} (hg : o.guard = none) (hd : o.dst = some d) (hn : Nat.blt d C.n = true) (hq : Qt C o F L v) (h : J C ops m rest K ((d, v) :: F) L) : J C ops m (o :: rest) K F L :=
  j_any (fun a _ => by simp [Region.wanted, hg]) hq (fun a hf => hd ▸ hf.put v hn) h
/-- A guard: the operation runs, or is passed over. -/
theorem j_guard {i gd d : Nat} {b c : Bool} (hg : o.guard = some (i, b)) (hd : o.dst = some d) (hn : Nat.blt d C.n = true) (hi : (ops[i]?).bind (·.dst) = some gd) (hF : F.get gd = some (.bool c))
    (ht : c = b → J C ops m ({ o with guard := none } :: rest) K ((gd, .bool b) :: F) L) (hf : c = !b → J C ops m rest K ((d, undef) :: (gd, .bool !b) :: F) L) : J C ops m (o :: rest) K F L := by
  have hy : ∀ a, Fits C.n C.ds F a → yielded ops a.tmps i = some c := fun a hfa => by
    unfold yielded
    rw [hi]
    simp [hfa.get gd _ hF]
  have hfit : ∀ (u : Bool) (a : Act), u = c → Fits C.n C.ds F a → Fits C.n C.ds ((gd, .bool u) :: F) a := fun u a hu hfa => hfa.sub (FSub.cons (hu ▸ hF) fun _ _ h => h)
  by_cases hcb : c = b
  · have hJ := ht hcb
    cases m
    · intro a w hfa hs
      have h1 := hJ a w (hfit b a hcb.symm hfa) hs
      unfold wpListIn at h1 ⊢
      rw [if_pos (by simp [Region.wanted])] at h1
      rw [if_pos (by simp [Region.wanted, hg, hy a hfa, hcb])]
      exact h1
    · intro a hfa
      have h1 := hJ a (hfit b a hcb.symm hfa)
      unfold wpQuiet at h1 ⊢
      rw [if_pos (by simp [Region.wanted])] at h1
      rw [if_pos (by simp [Region.wanted, hg, hy a hfa, hcb])]
      exact h1
  · have hcb' : c = !b := by cases c <;> cases b <;> simp_all
    have hJ := hf hcb'
    have hnw : ∀ a, Fits C.n C.ds F a → Region.wanted o (yielded ops a.tmps) = false := fun a hfa => by
      simp only [Region.wanted, hg, hy a hfa]
      simpa using hcb
    cases m
    · intro a w hfa hs
      unfold wpListIn
      rw [if_neg (by simp [hnw a hfa]), hd]
      refine ⟨fun _ _ => trivial, ?_⟩
      exact hJ _ w ((hfit (!b) a hcb'.symm hfa).put undef hn) hs
    · intro a hfa
      unfold wpQuiet
      rw [if_neg (by simp [hnw a hfa]), hd]
      exact hJ _ ((hfit (!b) a hcb'.symm hfa).put undef hn)
end rules
end Eng
end Go.Proofs.Ytmcmmmaffdenjaa
