/-
  Rows handed back, and few.
-/
import Derived.Test.YtmcmmmaffdenjaaRlp
import Derived.Test.YtmcmmmaffdenjaaEngCoreB
namespace Go.Proofs.Ytmcmmmaffdenjaa
open Go.RowKit Eng
set_option linter.unusedVariables false
set_option linter.unusedSimpArgs false
set_option maxHeartbeats 8000000
attribute [local irreducible] SC SQ J Qt Calls Iterates
theorem rowsI_plain : ∀ R : List LRow, plainHA (rowsI R)
  | [] => trivial
  | _ :: R => rowsI_plain R
abbrev lpV (x : Value × List LRow) : Value := .tuple #[x.1, .int .i64 0]
abbrev lpL (x : Value × List LRow) : List HA := .own x.1 60 1 x.2.length (x.2.flatMap lrC) :: rowsI x.2
theorem lpL_plain (x : Value × List LRow) : plainHA (lpL x) := rowsI_plain x.2
theorem few_c (A : Option Addr) (n c : Nat) (w : World) : Calls Try.prog 37 #[.slice A n c] w fun e w' => e = .returned (.bool (decide (n ≤ 60))) ∧ Below w.heap.size w w' := by
  refine eng_start (n := 6) (args := [.slice A n c]) tab tab_ok fns fns_ok [.tmp 2] Try.func37 rfl rfl rfl rfl ?_
  repeat' (first
   | (refine gJ ?_
      first
      | refine jmv rfl rfl rfl rfl rfl ?_
      | refine jcmp rfl rfl rfl rfl rfl rfl rfl ?_
      | (refine j_qe rfl rfl rfl ?_
         first
         | refine ⟨_, q_len_slice rfl rfl rfl rfl, ?_⟩))
   | (refine gSC ?_
      first
      | refine sc_seq ?_
      | refine sc_region ?_
      | (refine sc_cond rfl ?_ ?_ <;> intro hc <;> (first | (exact absurd hc (by decide)) | ((try simp only [decide_eq_true_eq, decide_eq_false_iff_not, Bool.not_eq_true', Bool.not_eq_false', Bool.not_true, Bool.not_false, ne_eq, Decidable.not_not] at hc) <;> first | (exfalso; omega) | (exact absurd trivial hc) | skip)))
      | refine sc_block ?_
      | refine sc_ret ?_
      | refine sc_exit ?_
      | refine sc_skip ?_)
   | (refine gSQ ?_
      first
      | refine sq_seq ?_
      | refine sq_blk ?_
      | refine sq_seq_ret ?_
      | refine sq_blk_ret ?_
      | refine sq_loop_ret ?_
      | refine sq_seq_exit ?_
      | refine sq_blk_hit ?_
      | refine sq_blk_miss rfl ?_
      | refine sq_loop_exit ?_
      | refine sq_ende (.inl rfl) rfl rfl ⟨_, (RVs.cons (RV.tmp rfl) (RVs.nil)), ?_⟩
      | refine sq_ende (.inr rfl) rfl rfl ⟨_, (RVs.cons (RV.tmp rfl) (RVs.nil)), ?_⟩)
   | refine j_nil ?_
   )
  (intro w' hS; refine ⟨?_, hS.below⟩; simp only [pack])
  exact rb (by rw [decide_eq_decide]; omega)
theorem rs_head {w : World} {A : Option Addr} {l m : List Od} (h : RS w 6 odC A (l ++ m)) : RS w 6 odC A l := by
  have h1 := RS.take h l.length
  rwa [List.take_left] at h1
