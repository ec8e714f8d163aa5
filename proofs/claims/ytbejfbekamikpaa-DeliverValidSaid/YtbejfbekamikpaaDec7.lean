/-
  What DeliverValid's arguments read as: a file, and rules.
-/
import Derived.Test.YtbejfbekamikpaaVld
import Derived.Test.YtbejfbekamikpaaEngCoreB
import Derived.Test.YtbejfbekamikpaaRows
namespace Go.Proofs.Ytbejfbekamikpaa
open Go.RowKit Go.ChangeShapes Go.WideShapes Go.Deep Eng
set_option linter.unusedVariables false
theorem own_ : ownKnob Try.prog.godebug = none := by kernel_rfl
/-- The longest of the closed checks, once. -/
theorem may_ : Try.prog.mayEnter = true := by kernel_rfl
theorem lifts_ : Try.prog.liftsFinal = Rows.deliverValidRow.lifted := by kernel_rfl
theorem make_ : Try.prog.make = some Rows.deliverValidRow.make := by kernel_rfl
theorem laid_ : laidOutB Try.prog = true := by kernel_rfl
theorem by9 : Try.prog.bytesOf 9 = 16 := by kernel_rfl
theorem by122 : Try.prog.bytesOf 122 = 72 := by kernel_rfl
theorem by126 : Try.prog.bytesOf 126 = 88 := by kernel_rfl
theorem by130 : Try.prog.bytesOf 130 = 64 := by kernel_rfl
theorem by39 : Try.prog.bytesOf 39 = 80 := by kernel_rfl
theorem rch : reachBytes = 140737488351232 := by decide
section
variable {H : Type} {enc : TypeId × Value → H} {w : World} {base : Nat} {spare : Nat → Bool} {held : Bool}
theorem one_i {t : TypeId} {k : IntKind} (ht : Try.prog.underlying t = some (.int k)) {n : Nat} {v : Value} {x : DataW H × List MemPlace} (h : DataW.trod enc Try.prog w base spare held n t [v] = some x) : ∃ y : Int, v = .int k y ∧ k.min ≤ y ∧ y ≤ k.max := by
  obtain ⟨y, e, h1, h2⟩ := dec_int ht n [v] x h
  exact ⟨y, List.head_eq_of_cons_eq e, h1, h2⟩
theorem one_s {n : Nat} {v : Value} {x : DataW H × List MemPlace} (h : DataW.trod enc Try.prog w base spare held n 9 [v] = some x) : ∃ u : List UInt8, v = strV u := by
  obtain ⟨s, e, _, _⟩ := DataW.trod_string Try.underlying9 h
  exact ⟨s.data.toList, List.head_eq_of_cons_eq e⟩
theorem one_sl {α : Type} {t e : TypeId} {sz : Nat} (f : α → List Value) (ok : α → Prop) (ht : Try.prog.underlying t = some (.slice e)) (hC : Try.prog.cellsOf e = sz) (hsz : 0 < sz) (dec : ∀ n cs x, DataW.trod enc Try.prog w base spare held n e cs = some x → BndW Try.prog e x.1 → ∃ y, cs = f y ∧ ok y)
    {n : Nat} {v : Value} {x : DataW H × List MemPlace} (h : DataW.trod enc Try.prog w base spare held n t [v] = some x) (hb : BndW Try.prog t x.1) :
    ∃ (A : Option Addr) (c : Nat) (l : List α), v = .slice A l.length c ∧ Sl A l.length c ∧ RS w sz f A l ∧ (∀ y ∈ l, ok y) ∧ l.length * Try.prog.bytesOf e ≤ reachBytes := by
  obtain ⟨A, c, l, e1, h1⟩ := rs_of_trodD f ok ht hC hsz dec h hb
  exact ⟨A, c, l, List.head_eq_of_cons_eq e1, h1⟩
set_option maxRecDepth 100000 in
theorem one_tx {n : Nat} {v : Value} {x : DataW H × List MemPlace} (h : DataW.trod enc Try.prog w base spare held n 120 [v] = some x) (hb : BndW Try.prog 120 x.1) : ∃ (A : Option Addr) (c : Nat) (l : List (List UInt8)), v = .slice A l.length c ∧ Sl A l.length c ∧ RS w 1 strC A l ∧ l.length * 16 ≤ 140737488351232 := by
  obtain ⟨A, c, l, e, h1, h2, _, h3⟩ := one_sl (sz := 1) (e := 9) strC (fun _ => True) Try.underlying120 (by kernel_rfl) (by decide) (fun n cs x hx _ => by
    obtain ⟨s, e, _, _⟩ := DataW.trod_string Try.underlying9 hx
    exact ⟨s.data.toList, e, trivial⟩) h hb
  rw [by9, rch] at h3
  exact ⟨A, c, l, e, h1, h2, h3⟩
set_option maxRecDepth 100000 in
theorem dec_tn (n : Nat) (cs : List Value) (x : DataW H × List MemPlace) (h : DataW.trod enc Try.prog w base spare held n 122 cs = some x) (hb : BndW Try.prog 122 x.1) : ∃ y : Tn, cs = tnC y ∧ okT w y := by
  obtain ⟨hl, m, hat⟩ := one_struct Try.underlying122 (by kernel_rfl) (by kernel_rfl) h hb
  match cs, hl with
  | [v0, v1, v2, v3, v4], _ =>
    obtain ⟨y0, h0, _⟩ := hat 0 _ v0 rfl rfl
    obtain ⟨y1, h1, _⟩ := hat 1 _ v1 rfl rfl
    obtain ⟨y2, h2, _⟩ := hat 2 _ v2 rfl rfl
    obtain ⟨y3, h3, _⟩ := hat 3 _ v3 rfl rfl
    obtain ⟨y4, h4, b4⟩ := hat 4 _ v4 rfl rfl
    obtain ⟨z0, rfl, _⟩ := one_i Try.underlying3 h0
    obtain ⟨z1, rfl, _⟩ := one_i Try.underlying5 h1
    obtain ⟨z2, rfl⟩ := one_s h2
    obtain ⟨z3, rfl⟩ := one_s h3
    obtain ⟨A, c, l, rfl, g1, g2, g3⟩ := one_tx h4 b4
    exact ⟨⟨z0, z1, z2, z3, A, c, l⟩, rfl, g1, g2, g3⟩
set_option maxRecDepth 100000 in
theorem dec_sr (n : Nat) (cs : List Value) (x : DataW H × List MemPlace) (h : DataW.trod enc Try.prog w base spare held n 126 cs = some x) (hb : BndW Try.prog 126 x.1) : ∃ y : Sr, cs = srC y ∧ okS w y := by
  obtain ⟨hl, m, hat⟩ := one_struct Try.underlying126 (by kernel_rfl) (by kernel_rfl) h hb
  match cs, hl with
  | [v0, v1, v2, v3, v4, v5], _ =>
    obtain ⟨y0, h0, _⟩ := hat 0 _ v0 rfl rfl
    obtain ⟨y1, h1, _⟩ := hat 1 _ v1 rfl rfl
    obtain ⟨y2, h2, _⟩ := hat 2 _ v2 rfl rfl
    obtain ⟨y3, h3, _⟩ := hat 3 _ v3 rfl rfl
    obtain ⟨y4, h4, _⟩ := hat 4 _ v4 rfl rfl
    obtain ⟨y5, h5, b5⟩ := hat 5 _ v5 rfl rfl
    obtain ⟨z0, rfl, _⟩ := one_i Try.underlying3 h0
    obtain ⟨z1, rfl, _⟩ := one_i Try.underlying3 h1
    obtain ⟨z2, rfl⟩ := one_s h2
    obtain ⟨z3, rfl⟩ := one_s h3
    obtain ⟨z4, rfl⟩ := one_s h4
    obtain ⟨A, c, l, rfl, g1, g2, g3⟩ := one_tx h5 b5
    exact ⟨⟨z0, z1, z2, z3, z4, A, c, l⟩, rfl, g1, g2, g3⟩
set_option maxRecDepth 100000 in
theorem dec_rg (n : Nat) (cs : List Value) (x : DataW H × List MemPlace) (h : DataW.trod enc Try.prog w base spare held n 130 cs = some x) (hb : BndW Try.prog 130 x.1) : ∃ y : Rg, cs = rgC y ∧ True := by
  obtain ⟨hl, m, hat⟩ := one_struct Try.underlying130 (by kernel_rfl) (by kernel_rfl) h hb
  match cs, hl with
  | [v0, v1, v2, v3, v4, v5, v6], _ =>
    obtain ⟨y0, h0, _⟩ := hat 0 _ v0 rfl rfl
    obtain ⟨y1, h1, _⟩ := hat 1 _ v1 rfl rfl
    obtain ⟨y2, h2, _⟩ := hat 2 _ v2 rfl rfl
    obtain ⟨y3, h3, _⟩ := hat 3 _ v3 rfl rfl
    obtain ⟨y4, h4, _⟩ := hat 4 _ v4 rfl rfl
    obtain ⟨y5, h5, _⟩ := hat 5 _ v5 rfl rfl
    obtain ⟨y6, h6, _⟩ := hat 6 _ v6 rfl rfl
    obtain ⟨z0, rfl, _⟩ := one_i Try.underlying3 h0
    obtain ⟨z1, rfl, _⟩ := one_i Try.underlying3 h1
    obtain ⟨z2, rfl, _⟩ := one_i Try.underlying3 h2
    obtain ⟨z3, rfl, _⟩ := one_i Try.underlying3 h3
    obtain ⟨z4, rfl, _⟩ := one_i Try.underlying5 h4
    obtain ⟨z5, rfl⟩ := one_s h5
    obtain ⟨z6, rfl, _⟩ := one_i Try.underlying3 h6
    exact ⟨⟨z0, z1, z2, z3, z4, z5, z6⟩, rfl, trivial⟩
set_option maxRecDepth 100000 in
theorem dec_pt (n : Nat) (cs : List Value) (x : DataW H × List MemPlace) (h : DataW.trod enc Try.prog w base spare held n 39 cs = some x) (hb : BndW Try.prog 39 x.1) : ∃ y : Pt, cs = ptC y ∧ True := by
  obtain ⟨hl, m, hat⟩ := one_struct Try.underlying39 (by kernel_rfl) (by kernel_rfl) h hb
  match cs, hl with
  | [v0, v1, v2, v3, v4, v5, v6, v7], _ =>
    obtain ⟨y0, h0, _⟩ := hat 0 _ v0 rfl rfl
    obtain ⟨y1, h1, _⟩ := hat 1 _ v1 rfl rfl
    obtain ⟨y2, h2, _⟩ := hat 2 _ v2 rfl rfl
    obtain ⟨y3, h3, _⟩ := hat 3 _ v3 rfl rfl
    obtain ⟨y4, h4, _⟩ := hat 4 _ v4 rfl rfl
    obtain ⟨y5, h5, _⟩ := hat 5 _ v5 rfl rfl
    obtain ⟨y6, h6, _⟩ := hat 6 _ v6 rfl rfl
    obtain ⟨y7, h7, _⟩ := hat 7 _ v7 rfl rfl
    obtain ⟨z0, rfl, _⟩ := one_i Try.underlying3 h0
    obtain ⟨z1, rfl, _⟩ := one_i Try.underlying3 h1
    obtain ⟨z2, rfl, _⟩ := one_i Try.underlying3 h2
    obtain ⟨z3, rfl, _⟩ := one_i Try.underlying3 h3
    obtain ⟨z4, rfl⟩ := one_s h4
    obtain ⟨z5, rfl⟩ := one_s h5
    obtain ⟨z6, rfl, _⟩ := one_i Try.underlying3 h6
    obtain ⟨z7, rfl, _⟩ := one_i Try.underlying3 h7
    exact ⟨⟨z0, z1, z2, z3, ⟨z4.toArray⟩, ⟨z5.toArray⟩, z6, z7⟩, rfl, trivial⟩
set_option maxRecDepth 100000 in
theorem dec_ru (n : Nat) (cs : List Value) (x : DataW H × List MemPlace) (h : DataW.trod enc Try.prog w base spare held n 37 cs = some x) : ∃ y : Ru, cs = ruC y ∧ ruOk y := by
  have h1 := flat_struct [.int .i64, .int .u8, .int .i64, .int .i64, .int .u8] Try.underlying37 (by kernel_rfl) (by kernel_rfl) (by kernel_rfl) h
  cases cs with
  | nil => exact False.elim h1
  | cons v0 cs =>
  obtain ⟨⟨a, rfl, ha⟩, h1⟩ := h1
  cases cs with
  | nil => exact False.elim h1
  | cons v1 cs =>
  obtain ⟨⟨b, rfl, hb⟩, h1⟩ := h1
  cases cs with
  | nil => exact False.elim h1
  | cons v2 cs =>
  obtain ⟨⟨c, rfl, hc⟩, h1⟩ := h1
  cases cs with
  | nil => exact False.elim h1
  | cons v3 cs =>
  obtain ⟨⟨d, rfl, hd⟩, h1⟩ := h1
  cases cs with
  | nil => exact False.elim h1
  | cons v4 cs =>
  obtain ⟨⟨e, rfl, he⟩, h1⟩ := h1
  cases cs with
  | cons v5 cs => exact False.elim h1
  | nil => exact ⟨⟨a, b, c, d, e⟩, rfl, ha, hb, hc, hd, he⟩
set_option maxRecDepth 100000 in
theorem open_rus {r : Reach} {b0 : Nat} {v : Value} {d : DataW H} {ps : List MemPlace} (hv : Value.okWide Try.prog w r b0 32 v) (h : DataW.Trod enc Try.prog w base spare held 32 v d ps) :
    ∃ (A : Option Addr) (c : Nat) (l : List Ru), v = .slice A l.length c ∧ Sl A l.length c ∧ RS w 5 ruC A l ∧ ∀ y ∈ l, ruOk y :=
  open_rs2 (sz := 5) (e := 37) ruC ruOk Try.underlying32 (by kernel_rfl) (by decide) (fun n cs x hx => dec_ru n cs x hx) hv h
set_option maxRecDepth 100000 in
theorem open_rf {r : Reach} {b0 : Nat} {v : Value} {d : DataW H} {ps : List MemPlace} (hv : Value.okWide Try.prog w r b0 30 v) (h : DataW.Trod enc Try.prog w base spare held 30 v d ps) (hb : BndW Try.prog 30 d) : ∃ x : Rfx, v = rfV x ∧ okF w x := by
  obtain ⟨cs, rfl, _⟩ := okWide_struct Try.underlying30 hv
  obtain ⟨n, hn⟩ := h
  obtain ⟨hl, m, hat⟩ := one_struct Try.underlying30 (by kernel_rfl) (by kernel_rfl) hn hb
  obtain ⟨l, rfl⟩ : ∃ l : List Value, cs = l.toArray := ⟨cs.toList, by simp⟩
  have hl2 : l.length = 4 := by simpa [Value.cells] using hl
  match l, hl2 with
  | [v0, v1, v2, v3], _ =>
    obtain ⟨y0, h0, b0⟩ := hat 0 _ v0 rfl rfl
    obtain ⟨y1, h1, b1⟩ := hat 1 _ v1 rfl rfl
    obtain ⟨y2, h2, b2⟩ := hat 2 _ v2 rfl rfl
    obtain ⟨y3, h3, b3⟩ := hat 3 _ v3 rfl rfl
    obtain ⟨tA, tc, T, rfl, a1, a2, a3, a4⟩ := one_sl (sz := 5) (e := 122) tnC (okT w) Try.underlying25 (by kernel_rfl) (by decide) (fun n cs x hx hb => dec_tn n cs x hx hb) h0 b0
    obtain ⟨sA, sc, S, rfl, c1, c2, c3, c4⟩ := one_sl (sz := 6) (e := 126) srC (okS w) Try.underlying26 (by kernel_rfl) (by decide) (fun n cs x hx hb => dec_sr n cs x hx hb) h1 b1
    obtain ⟨rA, rc, R, rfl, e1, e2, e3, e4⟩ := one_sl (sz := 7) (e := 130) rgC (fun _ => True) Try.underlying27 (by kernel_rfl) (by decide) (fun n cs x hx hb => dec_rg n cs x hx hb) h2 b2
    obtain ⟨pA, pc, P, rfl, g1, g2, g3, g4⟩ := one_sl (sz := 8) (e := 39) ptC (fun _ => True) Try.underlying28 (by kernel_rfl) (by decide) (fun n cs x hx hb => dec_pt n cs x hx hb) h3 b3
    rw [by122, rch] at a4
    rw [by126, rch] at c4
    rw [by130, rch] at e4
    rw [by39, rch] at g4
    exact ⟨⟨tA, tc, T, sA, sc, S, rA, rc, R, pA, pc, P⟩, rfl, ⟨a2, c2, e2, g2, a1, c1, e1, g1, a3, c3, by dsimp only; omega, by dsimp only; omega, by dsimp only; omega, by dsimp only; omega⟩⟩
end
end Go.Proofs.Ytbejfbekamikpaa
