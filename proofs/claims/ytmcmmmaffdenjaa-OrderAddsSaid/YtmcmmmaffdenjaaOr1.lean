/-
  In one text: Pl0, Pl1, Or1.
-/
import Derived.Test.YtmcmmmaffdenjaaTab
import Derived.Test.YtmcmmmaffdenjaaEngCoreB
/-
  Orders, plain.
-/
namespace Go.Proofs.Ytmcmmmaffdenjaa
set_option linter.unusedVariables false
set_option linter.unusedSimpArgs false
structure Od where
  idn : Int
  frm : Int
  to : Int
  st : Int
  en : Int
  kd : Int
theorem Od.ext' {a b : Od} (h1 : a.idn = b.idn) (h2 : a.frm = b.frm) (h3 : a.to = b.to) (h4 : a.st = b.st) (h5 : a.en = b.en) (h6 : a.kd = b.kd) : a = b := by
  cases a; cases b; simp_all
def odZ : Od := ⟨0, 0, 0, 0, 0, 0⟩
def idI (n : Int) : Prop := 1 ≤ n ∧ n ≤ 999999
def dayI (d : Int) : Prop := 0 ≤ d ∧ d ≤ 730484
/-- An order is right. -/
def okO (o : Od) : Prop := (idI o.idn ∧ idI o.frm ∧ dayI o.st) ∧ ((o.kd = 1 ∧ (idI o.to ∧ o.to ≠ o.frm) ∧ o.en = 0) ∨ (o.kd = 2 ∧ (idI o.to ∧ o.to ≠ o.frm) ∧ (o.st ≤ o.en ∧ o.en ≤ 730484)) ∨ (o.kd = 3 ∧ o.to = 0 ∧ (o.st ≤ o.en ∧ o.en ≤ 730484)))
instance (n : Int) : Decidable (idI n) := by unfold idI; infer_instance
instance (d : Int) : Decidable (dayI d) := by unfold dayI; infer_instance
instance (o : Od) : Decidable (okO o) := by unfold okO; infer_instance
/-- The IDs are different, and each order is right. -/
def okL : List Od → Prop
  | [] => True
  | o :: l => okO o ∧ (∀ x ∈ l, x.idn ≠ o.idn) ∧ okL l
/-- Orders are right. -/
def rightL (l : List Od) : Prop := l.length ≤ 500 ∧ okL l
theorem okL_ok : ∀ {l : List Od}, okL l → ∀ o ∈ l, okO o
  | x :: l, h, o, ho => by
    rcases List.mem_cons.1 ho with rfl | ho
    · exact h.1
    · exact okL_ok h.2.2 o ho
theorem okL_inj : ∀ {l : List Od}, okL l → ∀ a ∈ l, ∀ b ∈ l, a.idn = b.idn → a = b
  | x :: l, h, a, ha, b, hb, e => by
    rcases List.mem_cons.1 ha with h1 | h1 <;> rcases List.mem_cons.1 hb with h2 | h2
    · rw [h1, h2]
    · subst h1; exact absurd e.symm (h.2.1 b h2)
    · subst h2; exact absurd e (h.2.1 a h1)
    · exact okL_inj h.2.2 a h1 b h2 e
theorem okL_filter (p : Od → Bool) : ∀ {l : List Od}, okL l → okL (l.filter p)
  | [], _ => trivial
  | x :: l, h => by
    rw [List.filter_cons]
    split
    · exact ⟨h.1, fun y hy => h.2.1 y (List.mem_filter.1 hy).1, okL_filter p h.2.2⟩
    · exact okL_filter p h.2.2
/-- An order that is right covers a day. -/
def cov (o : Od) (d : Int) : Bool := decide (o.st ≤ d ∧ (o.kd = 1 ∨ d ≤ o.en))
/-- One goes before the other. -/
def bef (a b : Od) : Bool := decide ((a.kd = 3 ∧ b.kd ≠ 3) ∨ ((a.kd = 3 ↔ b.kd = 3) ∧ (b.st < a.st ∨ (a.st = b.st ∧ b.idn < a.idn))))
theorem bef_trans {a b c : Od} (h1 : bef a b = true) (h2 : bef b c = true) : bef a c = true := by
  unfold bef at *
  rw [decide_eq_true_eq] at *
  omega
theorem bef_total (a b : Od) (h : a.idn ≠ b.idn) : bef a b = true ∨ bef b a = true := by
  unfold bef
  rw [decide_eq_true_eq, decide_eq_true_eq]
  omega
theorem bef_irrefl (a : Od) : bef a a = false := by
  unfold bef
  rw [decide_eq_false_iff_not]
  omega
theorem bef_asymm {a b : Od} (h : bef a b = true) : bef b a = false := by
  unfold bef at *
  rw [decide_eq_true_eq] at h
  rw [decide_eq_false_iff_not]
  omega
/-- Those of a point. -/
def ofP (l : List Od) (p : Int) : List Od := l.filter fun o => decide (o.frm = p)
/-- The order in force, or a zero order. -/
def stF (d : Int) (b o : Od) : Od := if cov o d = true ∧ (b.idn = 0 ∨ bef o b = true) then o else b
def frc (l : List Od) (d : Int) : Od := l.foldl (stF d) odZ
def fo (l : List Od) (p d : Int) : Od := frc (ofP l p) d
end Go.Proofs.Ytmcmmmaffdenjaa

/-
  Ways, plain.
-/
namespace Go.Proofs.Ytmcmmmaffdenjaa
set_option linter.unusedVariables false
set_option linter.unusedSimpArgs false
/-- The way of mail. -/
structure Wy where
  pts : List Int
  ords : List Int
  kd : Int
  un : Int
/-- What happens at a point: the way behind it, and whether it ends. -/
def wst (s : Wy) (x : Int × Od) : Wy × Bool :=
  if x.2.idn = 0 then (⟨s.pts ++ [x.1], s.ords, 1, s.un⟩, true)
  else if x.2.kd = 3 then (⟨s.pts ++ [x.1], s.ords, 2, x.2.en⟩, true)
  else if x.2.to ∈ s.pts ++ [x.1] then (⟨s.pts ++ [x.1], s.ords, 3, s.un⟩, true)
  else (⟨s.pts ++ [x.1], s.ords ++ [x.2.idn], s.kd, s.un⟩, false)
/-- The points to which orders lead from a point on. -/
def along (f : Int → Od) : Nat → Int → List (Int × Od)
  | 0, p => [(p, f p)]
  | n + 1, p => (p, f p) :: (if (f p).to = 0 then [] else along f n (f p).to)
def wrun : Wy → List (Int × Od) → Wy × Bool
  | s, [] => (s, false)
  | s, x :: xs => match wst s x with
    | (s', true) => (s', true)
    | (s', false) => wrun s' xs
def way (f : Int → Od) (n : Nat) (p : Int) : Wy := (wrun ⟨[], [], 0, 0⟩ (along f n p)).1
/-- A way from a point on, behind points that have been met. -/
inductive IsW (f : Int → Od) : List Int → Int → List Int → List Int → Int → Int → Prop where
  | here {met : List Int} {p : Int} (h : (f p).idn = 0) : IsW f met p [p] [] 1 0
  | held {met : List Int} {p : Int} (h : (f p).idn ≠ 0) (h3 : (f p).kd = 3) : IsW f met p [p] [] 2 (f p).en
  | back {met : List Int} {p : Int} (h : (f p).idn ≠ 0) (h3 : (f p).kd ≠ 3) (hm : (f p).to ∈ met ++ [p]) : IsW f met p [p] [] 3 0
  | go {met : List Int} {p : Int} {pts ords : List Int} {k u : Int} (h : (f p).idn ≠ 0) (h3 : (f p).kd ≠ 3) (hm : (f p).to ∉ met ++ [p]) (hr : IsW f (met ++ [p]) (f p).to pts ords k u) : IsW f met p (p :: pts) ((f p).idn :: ords) k u
end Go.Proofs.Ytmcmmmaffdenjaa

/-
  order: single functions.
-/
namespace Go.Proofs.Ytmcmmmaffdenjaa
open Go.RowKit Eng
set_option linter.unusedVariables false
set_option linter.unusedSimpArgs false
set_option maxHeartbeats 8000000
attribute [local irreducible] SC SQ J Qt Calls Iterates
theorem ri {k : IntKind} {a b : Int} (h : a = b) : Ending.returned (.int k a) = .returned (.int k b) := by rw [h]
theorem rb {a b : Bool} (h : a = b) : Ending.returned (.bool a) = .returned (.bool b) := by rw [h]
abbrev odC (o : Od) : List Value := [.int .i64 o.idn, .int .i64 o.frm, .int .i64 o.to, .int .i64 o.st, .int .i64 o.en, .int .u8 o.kd]
abbrev intC (x : Int) : List Value := [.int .i64 x]
theorem own_snoc {α : Type} (f : α → List Value) (v : Value) (e sz : Nat) (R : List α) (x : α) : HA.own v e sz (R ++ [x]).length ((R ++ [x]).flatMap f) = HA.own v e sz (R.length + 1) (R.flatMap f ++ f x) := by
  simp
abbrev odV (o : Od) : Value := .agg (odC o).toArray
theorem isID_c (n : Int) (w : World) : Calls Try.prog 56 #[.int .i64 n] w fun e w' => e = .returned (.bool (decide (idI n))) ∧ Below w.heap.size w w' := by
  refine eng_start (n := 9) (args := [.int .i64 n]) tab tab_ok fns fns_ok [.tmp 2] Try.func56 rfl rfl rfl rfl ?_
  repeat' (first | (refine gJ ?_; first | refine js rfl rfl rfl rfl ?_ | refine j_guard_undef rfl rfl rfl rfl rfl ?_) | (refine gSC ?_; first | refine sc_mv rfl ?_ | refine sc_q rfl ?_ | refine sc_region ?_) | (refine gSQ ?_; first | refine sq_go rfl ?_ | refine sq_mv rfl ?_ | refine sq_ende (by first | exact .inl rfl | exact .inr rfl) rfl rfl ⟨_, (RVs.cons (RV.tmp rfl) (RVs.nil)), ?_⟩) | refine j_nil ?_ | ((first | refine j_guard rfl rfl rfl rfl rfl ?_ ?_ | refine sc_cond rfl ?_ ?_) <;> intro hc <;> (first | exact absurd hc (by decide) | ((try simp only [engHC] at hc) <;> first | (exfalso; omega) | exact absurd trivial hc | skip))))
  all_goals ((intro w' hS; refine ⟨?_, hS.below⟩; simp only [pack]); exact rb (by unfold idI; simp [*]))
theorem isDay_c (n : Int) (w : World) : Calls Try.prog 57 #[.int .i64 n] w fun e w' => e = .returned (.bool (decide (dayI n))) ∧ Below w.heap.size w w' := by
  refine eng_start (n := 9) (args := [.int .i64 n]) tab tab_ok fns fns_ok [.tmp 2] Try.func57 rfl rfl rfl rfl ?_
  repeat' (first | (refine gJ ?_; first | refine js rfl rfl rfl rfl ?_ | refine j_guard_undef rfl rfl rfl rfl rfl ?_) | (refine gSC ?_; first | refine sc_mv rfl ?_ | refine sc_q rfl ?_ | refine sc_region ?_) | (refine gSQ ?_; first | refine sq_go rfl ?_ | refine sq_mv rfl ?_ | refine sq_ende (by first | exact .inl rfl | exact .inr rfl) rfl rfl ⟨_, (RVs.cons (RV.tmp rfl) (RVs.nil)), ?_⟩) | refine j_nil ?_ | ((first | refine j_guard rfl rfl rfl rfl rfl ?_ ?_ | refine sc_cond rfl ?_ ?_) <;> intro hc <;> (first | exact absurd hc (by decide) | ((try simp only [engHC] at hc) <;> first | (exfalso; omega) | exact absurd trivial hc | skip))))
  all_goals ((intro w' hS; refine ⟨?_, hS.below⟩; simp only [pack]); exact rb (by unfold dayI; simp [*]))
theorem covers_c (o : Od) (d : Int) (w : World) : Calls Try.prog 81 #[odV o, .int .i64 d] w fun e w' => e = .returned (.bool (cov o d)) ∧ Below w.heap.size w w' := by
  refine eng_start (n := 20) (args := [odV o, .int .i64 d]) tab tab_ok fns fns_ok [.tmp 4] Try.func81 rfl rfl rfl rfl ?_
  repeat' (first | (refine gJ ?_; first | refine js rfl rfl rfl rfl ?_ | (refine gload rfl rfl ?_; refine j_qe rfl rfl rfl ?_; first | refine ⟨_, q_load_own rfl rfl rfl rfl (by (repeat constructor)) (by first | rfl | assumption), ?_⟩ | refine ⟨_, q_loadA_own rfl rfl rfl rfl (by (repeat constructor)) (by rfl), ?_⟩ | refine ⟨_, q_loadA_ext rfl rfl rfl rfl ⟨by assumption, (by first | exact id | assumption)⟩ (by rfl), ?_⟩ | refine ⟨_, q_load_ext rfl rfl rfl rfl ⟨by assumption, (by first | exact id | assumption)⟩ (by first | rfl | assumption), ?_⟩ | refine ⟨_, q_load_extb rfl rfl rfl rfl ⟨by assumption, (by first | exact id | assumption)⟩ (by rfl), ?_⟩ | refine ⟨_, q_loadA_extb rfl rfl rfl rfl ⟨by assumption, (by first | exact id | assumption)⟩ (by rfl), ?_⟩ | refine ⟨_, q_load_ext0 rfl rfl rfl rfl ⟨by assumption, (by first | exact id | assumption)⟩ (by rfl), ?_⟩) | refine jfield rfl rfl rfl rfl rfl rfl rfl rfl ?_ | (refine gF ?_; first | (refine j_box rfl rfl rfl rfl rfl ?_; intro b)) | (refine j_qe rfl rfl rfl ?_; first | refine ⟨_, q_field_ext rfl rfl rfl rfl rfl, ?_⟩) | refine j_guard_undef rfl rfl rfl rfl rfl ?_) | (refine gSC ?_; first | refine sc_mv rfl ?_ | refine sc_q rfl ?_ | refine sc_region ?_) | (refine gSQ ?_; first | refine sq_go rfl ?_ | refine sq_mv rfl ?_ | refine sq_ende (by first | exact .inl rfl | exact .inr rfl) rfl rfl ⟨_, (RVs.cons (RV.tmp rfl) (RVs.nil)), ?_⟩) | refine j_nil ?_ | ((first | refine j_guard rfl rfl rfl rfl rfl ?_ ?_ | refine sc_cond rfl ?_ ?_) <;> intro hc <;> (first | exact absurd hc (by decide) | ((try simp only [engHC] at hc) <;> first | (exfalso; omega) | exact absurd trivial hc | skip))))
  all_goals ((intro w' hS; refine ⟨?_, hS.below⟩; simp only [pack]); exact rb (by unfold cov; simp [*]))
theorem right_c (o : Od) (w : World) : Calls Try.prog 63 #[odV o] w fun e w' => e = .returned (.bool (decide (okO o))) ∧ Below w.heap.size w w' := by
  refine eng_start (n := 65) (args := [odV o]) tab tab_ok fns fns_ok [.tmp 2] Try.func63 rfl rfl rfl rfl ?_
  repeat' (first | (refine gJ ?_; first | refine js rfl rfl rfl rfl ?_ | (refine gload rfl rfl ?_; refine j_qe rfl rfl rfl ?_; first | refine ⟨_, q_load_own rfl rfl rfl rfl (by (repeat constructor)) (by first | rfl | assumption), ?_⟩ | refine ⟨_, q_loadA_own rfl rfl rfl rfl (by (repeat constructor)) (by rfl), ?_⟩ | refine ⟨_, q_loadA_ext rfl rfl rfl rfl ⟨by assumption, (by first | exact id | assumption)⟩ (by rfl), ?_⟩ | refine ⟨_, q_load_ext rfl rfl rfl rfl ⟨by assumption, (by first | exact id | assumption)⟩ (by first | rfl | assumption), ?_⟩ | refine ⟨_, q_load_extb rfl rfl rfl rfl ⟨by assumption, (by first | exact id | assumption)⟩ (by rfl), ?_⟩ | refine ⟨_, q_loadA_extb rfl rfl rfl rfl ⟨by assumption, (by first | exact id | assumption)⟩ (by rfl), ?_⟩ | refine ⟨_, q_load_ext0 rfl rfl rfl rfl ⟨by assumption, (by first | exact id | assumption)⟩ (by rfl), ?_⟩) | refine jfield rfl rfl rfl rfl rfl rfl rfl rfl ?_ | (refine gcall rfl rfl ?_; first | (refine j_qc (f := 56) rfl rfl rfl rfl rfl rfl rfl ?_; refine ⟨_, (fun w' _ => isID_c _ w'), ?_⟩) | (refine j_qc (f := 57) rfl rfl rfl rfl rfl rfl rfl ?_; refine ⟨_, (fun w' _ => isDay_c _ w'), ?_⟩)) | (refine gF ?_; first | (refine j_box rfl rfl rfl rfl rfl ?_; intro b)) | (refine j_qe rfl rfl rfl ?_; first | refine ⟨_, q_field_ext rfl rfl rfl rfl rfl, ?_⟩) | refine j_guard_undef rfl rfl rfl rfl rfl ?_) | (refine gSC ?_; first | refine sc_mv rfl ?_ | refine sc_q rfl ?_ | refine sc_region ?_) | (refine gSQ ?_; first | refine sq_go rfl ?_ | refine sq_mv rfl ?_ | refine sq_ende (by first | exact .inl rfl | exact .inr rfl) rfl rfl ⟨_, (RVs.cons (RV.tmp rfl) (RVs.nil)), ?_⟩) | refine j_nil ?_ | ((first | refine j_guard rfl rfl rfl rfl rfl ?_ ?_ | refine sc_cond rfl ?_ ?_) <;> intro hc <;> (first | exact absurd hc (by decide) | ((try simp only [engHC] at hc) <;> first | (exfalso; omega) | exact absurd trivial hc | skip))))
  all_goals ((intro w' hS; refine ⟨?_, hS.below⟩; simp only [pack]); exact rb (by unfold okO; simp [*]))
end Go.Proofs.Ytmcmmmaffdenjaa
