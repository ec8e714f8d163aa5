/-
  law36.awake returns true.
-/
import Derived.Test.YtmcmmmaffdenjaaAwp
namespace Go.Proofs.Ytmcmmmaffdenjaa
open Go.RowKit Eng
set_option linter.unusedVariables false
set_option linter.unusedSimpArgs false
set_option maxHeartbeats 8000000
attribute [local irreducible] SC SQ J Qt Calls Iterates
theorem example_c (w : World) : Calls Try.prog 67 #[] w fun e w' => ∃ v : Value, True ∧ e = .returned v ∧ St w Cold [.own v 30 6 3 (exL.flatMap odC)] w' := by
  refine eng_start (n := 5) (args := []) tab tab_ok fns fns_ok [.tmp 0] Try.func67 rfl rfl rfl rfl ?_
  repeat' (first
   | (refine gJ ?_
      first
      | refine jmv rfl rfl rfl rfl rfl ?_
      | (refine gF ?_
         first
         | (refine j_buildSlice rfl rfl rfl rfl rfl rfl rfl rfl rfl rfl rfl rfl ?_; intro b))
      | (refine j_qe rfl rfl rfl ?_
         first
         | refine ⟨_, q_build_struct rfl rfl rfl rfl rfl, ?_⟩
         | refine ⟨_, q_build_arr rfl rfl rfl rfl rfl, ?_⟩))
   | (refine gSC ?_
      first
      | refine sc_seq ?_
      | refine sc_region ?_
      | (refine sc_cond rfl ?_ ?_ <;> intro hc <;> (first | (exact absurd hc (by decide)) | ((try simp only [decide_eq_true_eq, decide_eq_false_iff_not, Bool.not_eq_true', Bool.not_eq_false', Bool.not_true, Bool.not_false, ne_eq, Decidable.not_not] at hc) <;> first | (exfalso; omega) | (exact absurd trivial hc) | skip)))
      | refine sc_block ?_
      | refine sc_ret ?_
      | refine sc_exit ?_
      | refine sc_skip ?_)
   | (refine gSQ ?_
      first
      | refine sq_seq ?_
      | refine sq_blk ?_
      | refine sq_seq_ret ?_
      | refine sq_blk_ret ?_
      | refine sq_loop_ret ?_
      | refine sq_seq_exit ?_
      | refine sq_blk_hit ?_
      | refine sq_blk_miss rfl ?_
      | refine sq_loop_exit ?_
      | refine sq_ende (.inl rfl) rfl rfl ⟨_, (RVs.cons (RV.tmp rfl) (RVs.nil)), ?_⟩
      | refine sq_ende (.inr rfl) rfl rfl ⟨_, (RVs.cons (RV.tmp rfl) (RVs.nil)), ?_⟩)
   | refine j_nil ?_
   )
  intro w' hS
  exact ⟨.slice (some ⟨b, 0, none⟩) 3 3, trivial, rfl, st_lit (sz := 6) (n := 3) hS (by (repeat (first | exact Upd.here | apply Upd.there))) rfl (by omega)⟩
def rw1 : Wy := ⟨[10, 20, 30], [1, 2], 2, 5⟩
theorem res1_c (A : Option Addr) (c : Nat) (w : World) (h : RS w 6 odC A exL) : Calls Try.prog 39 #[.slice A 3 c, .int .i64 10, .int .i64 5] w fun e w' => ∃ x : Value × Value, True ∧ e = .returned (.tuple #[wyV x rw1, .int .i64 0]) ∧ St w Cold (wyL rw1 x) w' := by
  have h1 := Resolve_c A c exL 10 5 w (by show 3 ≤ _; omega) h
  rw [resolve_ok ⟨exL_right, by decide, by decide⟩, w1] at h1
  exact h1
def rw2 : Wy := ⟨[10, 20, 30], [1, 2], 1, 0⟩
theorem res2_c (A : Option Addr) (c : Nat) (w : World) (h : RS w 6 odC A exL) : Calls Try.prog 39 #[.slice A 3 c, .int .i64 10, .int .i64 6] w fun e w' => ∃ x : Value × Value, True ∧ e = .returned (.tuple #[wyV x rw2, .int .i64 0]) ∧ St w Cold (wyL rw2 x) w' := by
  have h1 := Resolve_c A c exL 10 6 w (by show 3 ≤ _; omega) h
  rw [resolve_ok ⟨exL_right, by decide, by decide⟩, w2] at h1
  exact h1
def rw3 : Wy := ⟨[10, 20], [1], 1, 0⟩
theorem res3_c (A : Option Addr) (c : Nat) (w : World) (h : RS w 6 odC A exL) : Calls Try.prog 39 #[.slice A 3 c, .int .i64 10, .int .i64 8] w fun e w' => ∃ x : Value × Value, True ∧ e = .returned (.tuple #[wyV x rw3, .int .i64 0]) ∧ St w Cold (wyL rw3 x) w' := by
  have h1 := Resolve_c A c exL 10 8 w (by show 3 ≤ _; omega) h
  rw [resolve_ok ⟨exL_right, by decide, by decide⟩, w3] at h1
  exact h1
def rw4 : Wy := ⟨[10, 20, 30], [1, 2], 3, 0⟩
theorem res4_c (A : Option Addr) (c : Nat) (w : World) (h : RS w 6 odC A exM) : Calls Try.prog 39 #[.slice A 4 c, .int .i64 10, .int .i64 6] w fun e w' => ∃ x : Value × Value, True ∧ e = .returned (.tuple #[wyV x rw4, .int .i64 0]) ∧ St w Cold (wyL rw4 x) w' := by
  have h1 := Resolve_c A c exM 10 6 w (by show 4 ≤ _; omega) h
  rw [resolve_ok ⟨exM_right, by decide, by decide⟩, w4] at h1
  exact h1
def rw5 : Wy := ⟨[20, 30], [2], 3, 0⟩
theorem res5_c (A : Option Addr) (c : Nat) (w : World) (h : RS w 6 odC A exM) : Calls Try.prog 39 #[.slice A 4 c, .int .i64 20, .int .i64 6] w fun e w' => ∃ x : Value × Value, True ∧ e = .returned (.tuple #[wyV x rw5, .int .i64 0]) ∧ St w Cold (wyL rw5 x) w' := by
  have h1 := Resolve_c A c exM 20 6 w (by show 4 ≤ _; omega) h
  rw [resolve_ok ⟨exM_right, by decide, by decide⟩, w5] at h1
  exact h1
def rw6 : Wy := ⟨[30, 20], [4], 3, 0⟩
theorem res6_c (A : Option Addr) (c : Nat) (w : World) (h : RS w 6 odC A exM) : Calls Try.prog 39 #[.slice A 4 c, .int .i64 30, .int .i64 6] w fun e w' => ∃ x : Value × Value, True ∧ e = .returned (.tuple #[wyV x rw6, .int .i64 0]) ∧ St w Cold (wyL rw6 x) w' := by
  have h1 := Resolve_c A c exM 30 6 w (by show 4 ≤ _; omega) h
  rw [resolve_ok ⟨exM_right, by decide, by decide⟩, w6] at h1
  exact h1
theorem rel1_c (A : Option Addr) (c : Nat) (w : World) (h : RS w 6 odC A exL) : Calls Try.prog 40 #[.slice A 3 c, .int .i64 10, .int .i64 4] w fun e w' => e = .returned (.tuple #[.int .i64 6, .int .i64 0]) ∧ Below w.heap.size w w' := by
  have h1 := Release_c A c exL 10 4 w (by show 3 ≤ _; omega) h
  rw [rel1] at h1
  exact h1
theorem loops1_c (A : Option Addr) (c : Nat) (w : World) (h : RS w 6 odC A exM) : Calls Try.prog 44 #[.slice A 4 c, .int .i64 6] w fun e w' => ∃ x : Value × Value, True ∧ e = .returned (.tuple #[x.1, .int .i64 0]) ∧ St w Cold [.own x.1 60 1 1 [x.2], .own x.2 3 1 2 [.int .i64 20, .int .i64 30]] w' := by
  have h1 := Loops_c A c exM 6 w (by show 4 ≤ _; omega) exM_right (by decide) h
  rw [loops1] at h1
  refine h1.mono fun e w' ⟨⟨v, R⟩, hR, he, hS⟩ => ?_
  dsimp only at hR he hS
  match R, hR with
  | [(v2, l2)], hR =>
    simp only [List.map_cons, List.map_nil, List.cons.injEq, and_true] at hR
    subst hR
    exact ⟨(v, v2), trivial, he, hS⟩
end Go.Proofs.Ytmcmmmaffdenjaa
