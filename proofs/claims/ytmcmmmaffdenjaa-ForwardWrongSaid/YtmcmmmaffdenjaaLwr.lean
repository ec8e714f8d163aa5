/-
  ForwardWrong.
-/
import Derived.Test.YtmcmmmaffdenjaaLtu
namespace Go.Proofs.Ytmcmmmaffdenjaa
open Go.RowKit Eng
set_option linter.unusedVariables false
set_option linter.unusedSimpArgs false
set_option maxHeartbeats 8000000
attribute [local irreducible] SC SQ J Qt Calls Iterates
def badO : Od := ⟨50, 3, 3, 0, 0, 1⟩
theorem bad_right (l : List Od) : rightB (l ++ [badO]) = false := by
  cases h : rightB (l ++ [badO]) with
  | false => rfl
  | true =>
    have h1 := okL_ok ((rightB_iff _).1 h).2 badO (by simp)
    rcases h1.2 with ⟨_, ⟨_, g⟩, _⟩ | ⟨g, _⟩ | ⟨g, _⟩
    · exact absurd rfl g
    · exact absurd g (by decide)
    · exact absurd g (by decide)
def holdO : Od := ⟨1, 2, 0, 5, 730484, 3⟩
theorem hold_right : rightB [holdO] = true := by kernel_rfl
theorem hold_rel : releaseF [holdO] 2 5 = (0, 6) := by
  have e1 : keysOf (chgL [holdO] 5) = [5] := by kernel_rfl
  have e2 : sortI [5] = [5] := sortI_sorted_eq (List.Perm.refl _) (by decide)
  have e3 : (wayF [holdO] 2 5).kd = 2 := by kernel_rfl
  rw [release_ok ⟨hold_right, by decide, by decide⟩, e1, e2]
  unfold firstFree
  rw [if_pos e3]
  rfl
theorem src_bad {l : List Od} (h : rightB l = false) (L : List Int) (p d : Int) : sourcesF l L p d = ([], 2) := by unfold sourcesF; rw [if_pos (by rw [h]; decide)]
theorem src_many {l : List Od} (h : rightB l = true) {L : List Int} (hL : 1000 < L.length) (p d : Int) : sourcesF l L p d = ([], 5) := by unfold sourcesF; rw [if_neg (fun g => g h), if_pos hL]
theorem src_id {l : List Od} (h : rightB l = true) {L : List Int} (hL : L.length ≤ 1000) {p d : Int} (hp : idI p ∧ dayI d) {x : Int} (hx : x ∈ L) (hxi : ¬ idI x) : sourcesF l L p d = ([], 2) := by
  unfold sourcesF
  rw [if_neg (fun g => g h), if_neg (by omega), if_neg (fun g => g hp), if_pos (fun g => hxi ((allI_iff L).1 g x hx))]
theorem res_bad {l : List Od} {p d : Int} (hl : l.length ≤ 1000) (hb : ¬ (rightB l = true ∧ idI p ∧ dayI d)) (A : Option Addr) (c : Nat) (w : World) (h : RS w 6 odC A l) :
    Calls Try.prog 39 #[.slice A l.length c, .int .i64 p, .int .i64 d] w fun e w' => ∃ x : Value × Value, True ∧ e = .returned (.tuple #[wyV x wyZ, .int .i64 2]) ∧ St w Cold (wyL wyZ x) w' := by
  have h1 := Resolve_c A c l p d w (by omega) h
  rw [resolve_bad hb] at h1
  exact h1
theorem rel_bad {l : List Od} {p d : Int} (hl : l.length ≤ 1000) (hb : ¬ (rightB l = true ∧ idI p ∧ dayI d)) (A : Option Addr) (c : Nat) (w : World) (h : RS w 6 odC A l) :
    Calls Try.prog 40 #[.slice A l.length c, .int .i64 p, .int .i64 d] w fun e w' => e = .returned (.tuple #[.int .i64 0, .int .i64 2]) ∧ Below w.heap.size w w' := by
  have h1 := Release_c A c l p d w (by omega) h
  rw [release_bad hb] at h1
  exact h1
theorem srcs_bad {l : List Od} {L : List Int} {p d k : Int} (hl : l.length ≤ 1000) (hL : L.length ≤ 2000) (hb : sourcesF l L p d = ([], k)) (A : Option Addr) (c : Nat) (B : Option Addr) (bc : Nat) (w : World) (h : RS w 6 odC A l) (hP : RS w 1 intC B L) :
    Calls Try.prog 48 #[.slice A l.length c, .slice B L.length bc, .int .i64 p, .int .i64 d] w fun e w' => ∃ v : Value, True ∧ e = .returned (.tuple #[v, .int .i64 k]) ∧ St w Cold [.own v 3 1 0 []] w' := by
  have h1 := Sources_c A c l B bc L p d w (by omega) (by omega) h hP
  rw [hb] at h1
  exact h1
theorem rs_reps {b n : Nat} {w0 w : World} {hot : Nat → Prop} {L : List HA} (hs : St w0 hot L w) (hin : InL L (.own (.slice (some ⟨b, 0, none⟩) n n) 3 1 n (reps n [.int .i64 0]))) : RS w 1 intC (some ⟨b, 0, none⟩) (List.replicate n 0) :=
  rs_own (f := intC) (fun _ => rfl) hs hin (by simp) (reps_flat intC 0 n)
theorem Wrong_c (A : Option Addr) (c : Nat) (l : List Fm) (n : Int) (w : World) (hl : l.length ≤ 9223372036854775807) (hlc : l.length ≤ c) (hok : ∀ f ∈ l, fmOk f) (hn : -9223372036854775808 ≤ n ∧ n ≤ 9223372036854775807) (h : RS w 5 fmC A l) :
    Calls Try.prog 18 #[.slice A l.length c, .int .i64 n] w fun e w' => e = .returned (.bool true) ∧ Below w.heap.size w w' := by
  have hB : ∀ w', RS w' 5 fmC A l → Calls Try.prog 31 #[.slice A l.length c] w' _ := fun w' h' => Built_c A c l w' hl hlc hok h'
  have hbr := built_right hok
  have hrb := built_rightB hok
  have hO5 : (builtF l).length ≤ 500 := hbr.1
  generalize builtF l = O at *
  generalize hk : l.length = k at *
  obtain ⟨m0, hm0⟩ : ∃ m, (if (0 : Int) < n then 0 else n) = m := ⟨_, rfl⟩
  have hm0' : m0 ≤ 0 := by split at hm0 <;> omega
  obtain ⟨m1, hm1⟩ : ∃ m, (if n < (730485 : Int) then 730485 else n) = m := ⟨_, rfl⟩
  have hm1' : 730485 ≤ m1 := by split at hm1 <;> omega
  obtain ⟨m2, hm2⟩ : ∃ m, (if n < (1000000 : Int) then 1000000 else n) = m := ⟨_, rfl⟩
  have hm2' : 1000000 ≤ m2 := by split at hm2 <;> omega
  obtain ⟨m3, hm3⟩ : ∃ m, (if (-1 : Int) < n then -1 else n) = m := ⟨_, rfl⟩
  have hm3' : m3 ≤ -1 := by split at hm3 <;> omega
  obtain ⟨T, hT⟩ : ∃ T, T = O ++ [badO] := ⟨_, rfl⟩
  have hTr : rightB T = false := by rw [hT]; exact bad_right O
  have hTl : T.length = 0 + O.length + 1 := by rw [hT, List.length_append, List.length_singleton]; omega
  have hTn : ∀ p d, ¬ (rightB T = true ∧ idI p ∧ dayI d) := fun p d g => by rw [hTr] at g; exact absurd g.1 (by decide)
  have r1 := res_bad (l := T) (p := 1) (d := 1) (by omega) (hTn 1 1)
  have r2 := rel_bad (l := T) (p := 1) (d := 1) (by omega) (hTn 1 1)
  have r3 := srcs_bad (l := T) (L := List.replicate 1001 0) (p := 1) (d := 1) (k := 2) (by omega) (by rw [List.length_replicate]; omega) (src_bad hTr _ _ _)
  have r4 := fun A c w h => Loops_e A c T 1 w (by omega) (by rw [hTr]; simp) h
  have r5 := res_bad (l := O) (p := m0) (d := 1) (by omega) (fun g => by have := g.2.1.1; omega)
  have r6 := rel_bad (l := O) (p := 1) (d := m1) (by omega) (fun g => by have := g.2.2.2; omega)
  have r7 := srcs_bad (l := O) (L := [1, m2]) (p := 1) (d := 1) (k := 2) (by omega) (by simp) (src_id hrb (by simp) ⟨by decide, by decide⟩ (x := m2) (by simp) (fun g => by have := g.2; omega))
  have r8 := fun A c w h => Loops_e A c O m3 w (by omega) (fun g => by have := g.2.1; omega) h
  have r9 := srcs_bad (l := O) (L := List.replicate 1001 0) (p := 0) (d := -1) (k := 5) (by omega) (by rw [List.length_replicate]; omega) (src_many hrb (by rw [List.length_replicate]; omega) _ _)
  have r0 := fun A c w h => Release_c A c [holdO] 2 5 w (by decide) h
  rw [hold_rel] at r0
  rw [List.length_replicate] at r3 r9
  rw [hTl] at r1 r2 r3 r4
  clear hm0' hm1' hm2' hm3' hTn
  refine eng_start (n := 136) (args := [.slice A k c, .int .i64 n]) tab tab_ok fns fns_ok [.tmp 4] Try.func18 rfl rfl rfl rfl ?_
  repeat' (first
   | (refine gJ ?_
      first
      | refine jmv rfl rfl rfl rfl rfl ?_
      | refine jcmp rfl rfl rfl rfl rfl rfl rfl ?_
      | refine jextract rfl rfl rfl rfl rfl rfl ?_
      | (refine gcall rfl rfl ?_
         first
         | (refine j_qc (f := 40) rfl rfl rfl rfl rfl rfl rfl ?_; refine ⟨_, (fun w' hs => r2 A6 c6 w' (rs_own (f := odC) (fun _ => rfl) hs (by (repeat (first | exact InL.here | apply InL.there))) hTl.symm (by rw [hT, List.flatMap_append]; rfl))), ?_⟩)
         | (refine j_qc (f := 44) rfl rfl rfl rfl rfl rfl rfl ?_; refine ⟨_, (fun w' hs => r4 A6 c6 w' (rs_own (f := odC) (fun _ => rfl) hs (by (repeat (first | exact InL.here | apply InL.there))) hTl.symm (by rw [hT, List.flatMap_append]; rfl))), ?_⟩)
         | (refine j_qc (f := 40) rfl rfl rfl rfl rfl rfl rfl ?_; refine ⟨_, (fun w' hs => r6 A0 c0 w' (rs_own (f := odC) (fun _ => rfl) hs (by (repeat (first | exact InL.here | apply InL.there))) rfl rfl)), ?_⟩)
         | (refine j_qc (f := 44) rfl rfl rfl rfl rfl rfl rfl ?_; refine ⟨_, (fun w' hs => r8 A0 c0 w' (rs_own (f := odC) (fun _ => rfl) hs (by (repeat (first | exact InL.here | apply InL.there))) rfl rfl)), ?_⟩)
         | (refine j_qc (f := 40) rfl rfl rfl rfl rfl rfl rfl ?_; refine ⟨_, (fun w' hs => r0 _ 1 w' (rs_lit (f := odC) (e := 30) (l := [holdO]) (fun _ => rfl) hs (by (repeat (first | exact InL.here | apply InL.there))))), ?_⟩)
         | (refine j_qc (f := 38) rfl rfl rfl rfl rfl rfl rfl ?_; refine ⟨_, (fun w' _ => awake_c w'), ?_⟩))
      | (refine gcall rfl rfl ?_; refine gF ?_; refine j_callN (f := 31) rfl rfl rfl rfl rfl rfl rfl (fun v => v) (fun _ => True) (fun v => [.own v 30 6 O.length (O.flatMap odC)]) (fun w' hs => hB w' (h.st hs)) (fun _ => trivial) ?_; rintro v0 _; refine j_owns (v := v0) (by (repeat (first | exact InL.here | apply InL.there))) ?_; rintro A0 c0 rfl hs0)
      | (refine gF ?_; refine j_build0 rfl rfl rfl rfl rfl rfl ?_; intro b0)
      | (refine gF ?_; refine j_appendS (cs := O.flatMap odC) (n := 0) rfl rfl rfl rfl rfl rfl rfl rfl rfl rfl rfl (fun w' hs => by have h9 := reads_own hs (by (repeat (first | exact InL.here | apply InL.there))) (A := A0) (c := c0) (n := O.length) (e := 30) (sz := 6) (xs := O.flatMap odC) (fun u hu => by obtain ⟨o, _, ho⟩ := List.mem_flatMap.1 hu; simp only [odC, List.mem_cons, List.mem_nil_iff, or_false] at ho; rcases ho with rfl | rfl | rfl | rfl | rfl | rfl <;> rfl); exact h9) (by (repeat (first | exact InL.here | apply InL.there))) (by omega) (fun _ => by (repeat (first | exact Upd.here | apply Upd.there))) ?_; intro v5)
      | (refine gF ?_; refine j_append (xs := [] ++ O.flatMap odC) rfl rfl rfl rfl rfl rfl rfl rfl rfl rfl rfl (by (repeat (first | exact InL.here | apply InL.there))) (by (repeat (first | exact InL.here | apply InL.there))) (by rfl) (by rfl) (by omega) (fun _ => by (repeat (first | exact Upd.here | apply Upd.there))) ?_; intro v; refine j_owns (v := v) (n := 0 + O.length + 1) (by (repeat (first | exact InL.here | apply InL.there))) ?_; rintro A6 c6 rfl hs6)
      | (refine gcall rfl rfl ?_; refine gF ?_; refine j_callN (f := 39) rfl rfl rfl rfl rfl rfl rfl (fun x => .tuple #[wyV x wyZ, .int .i64 2]) (fun _ => True) (wyL wyZ) (fun w' hs => r1 A6 c6 w' (rs_own (f := odC) (fun _ => rfl) hs (by (repeat (first | exact InL.here | apply InL.there))) hTl.symm (by rw [hT, List.flatMap_append]; rfl))) (fun _ => trivial) ?_; rintro ⟨w1, w2⟩ _; refine j_owns (v := w1) (n := 0) (by (repeat (first | exact InL.here | apply InL.there))) ?_; rintro P1 p1 rfl hp1; refine j_owns (v := w2) (n := 0) (by (repeat (first | exact InL.here | apply InL.there))) ?_; rintro P2 p2 rfl hp2)
      | (refine gF ?_; refine j_make rfl rfl rfl rfl rfl rfl rfl rfl rfl rfl rfl (by omega) ?_; intro b7)
      | (refine gcall rfl rfl ?_; refine gF ?_; refine j_callN (f := 48) rfl rfl rfl rfl rfl rfl rfl (fun v : Value => .tuple #[v, .int .i64 2]) (fun _ => True) (fun v => [.own v 3 1 0 []]) (fun w' hs => r3 A6 c6 (some ⟨b7, 0, none⟩) 1001 w' (rs_own (f := odC) (fun _ => rfl) hs (by (repeat (first | exact InL.here | apply InL.there))) hTl.symm (by rw [hT, List.flatMap_append]; rfl)) (rs_reps hs (by (repeat (first | exact InL.here | apply InL.there))))) (fun _ => trivial) ?_; rintro w3 _)
      | (refine j_qe rfl rfl rfl ?_; refine ⟨_, q_minr rfl rfl rfl hm0, ?_⟩)
      | (refine j_qe rfl rfl rfl ?_; refine ⟨_, q_minr rfl rfl rfl hm3, ?_⟩)
      | (refine j_qe rfl rfl rfl ?_; refine ⟨_, q_maxr rfl rfl rfl hm1, ?_⟩)
      | (refine j_qe rfl rfl rfl ?_; refine ⟨_, q_maxr rfl rfl rfl hm2, ?_⟩)
      | (refine gcall rfl rfl ?_; refine gF ?_; refine j_callN (f := 39) rfl rfl rfl rfl rfl rfl rfl (fun x => .tuple #[wyV x wyZ, .int .i64 2]) (fun _ => True) (wyL wyZ) (fun w' hs => r5 A0 c0 w' (rs_own (f := odC) (fun _ => rfl) hs (by (repeat (first | exact InL.here | apply InL.there))) rfl rfl)) (fun _ => trivial) ?_; rintro ⟨w1, w2⟩ _)
      | (refine gcall rfl rfl ?_; refine gF ?_; refine j_callN (f := 48) rfl rfl rfl rfl rfl rfl rfl (fun v : Value => .tuple #[v, .int .i64 2]) (fun _ => True) (fun v => [.own v 3 1 0 []]) (fun w' hs => r7 A0 c0 _ 2 w' (rs_own (f := odC) (fun _ => rfl) hs (by (repeat (first | exact InL.here | apply InL.there))) rfl rfl) (rs_lit (f := intC) (e := 3) (fun _ => rfl) hs (by (repeat (first | exact InL.here | apply InL.there))))) (fun _ => trivial) ?_; rintro w3 _)
      | (refine gcall rfl rfl ?_; refine gF ?_; refine j_callN (f := 48) rfl rfl rfl rfl rfl rfl rfl (fun v : Value => .tuple #[v, .int .i64 5]) (fun _ => True) (fun v => [.own v 3 1 0 []]) (fun w' hs => r9 A0 c0 _ 1001 w' (rs_own (f := odC) (fun _ => rfl) hs (by (repeat (first | exact InL.here | apply InL.there))) rfl rfl) (rs_reps hs (by (repeat (first | exact InL.here | apply InL.there))))) (fun _ => trivial) ?_; rintro w3 _)
      | (refine gF ?_
         first
         | refine j_store rfl rfl rfl rfl rfl rfl rfl rfl (by (repeat (first | exact Upd.here | apply Upd.there))) (by rfl) ?_
         | (refine j_alloc rfl rfl rfl rfl rfl ?_; intro b)
         | (refine j_buildSlice rfl rfl rfl rfl rfl rfl rfl rfl rfl rfl rfl rfl ?_; intro b)
         | (refine j_append rfl rfl rfl rfl rfl rfl rfl rfl rfl rfl rfl (by (repeat (first | exact InL.here | apply InL.there))) (by (repeat (first | exact InL.here | apply InL.there))) (by rfl) (by rfl) (by omega) (fun _ => by (repeat (first | exact Upd.here | apply Upd.there))) ?_; intro v))
      | (refine j_qe rfl rfl rfl ?_
         first
         | refine ⟨_, q_pick_t rfl rfl rfl, ?_⟩
         | refine ⟨_, q_pick_f rfl rfl rfl, ?_⟩
         | refine ⟨_, q_build_struct rfl rfl rfl rfl rfl, ?_⟩
         | refine ⟨_, q_build_arr rfl rfl rfl rfl rfl, ?_⟩)
      | refine j_guard_undef rfl rfl rfl rfl rfl ?_
      | (refine j_guard rfl rfl rfl rfl rfl ?_ ?_ <;> intro hc <;> (first | (exact absurd hc (by decide)) | ((try simp only [decide_eq_true_eq, decide_eq_false_iff_not, Bool.not_eq_true', Bool.not_eq_false', Bool.not_true, Bool.not_false, ne_eq, Decidable.not_not] at hc) <;> first | (exfalso; omega) | (exact absurd trivial hc) | skip))))
   | (refine gSC ?_
      first
      | refine sc_seq ?_
      | refine sc_region ?_
      | (refine sc_cond rfl ?_ ?_ <;> intro hc <;> (first | (exact absurd hc (by decide)) | ((try simp only [decide_eq_true_eq, decide_eq_false_iff_not, Bool.not_eq_true', Bool.not_eq_false', Bool.not_true, Bool.not_false, ne_eq, Decidable.not_not] at hc) <;> first | (exfalso; omega) | (exact absurd trivial hc) | skip)))
      | refine sc_block ?_
      | refine sc_ret ?_
      | refine sc_exit ?_
      | refine sc_skip ?_)
   | (refine gSQ ?_
      first
      | refine sq_seq ?_
      | refine sq_blk ?_
      | refine sq_seq_ret ?_
      | refine sq_blk_ret ?_
      | refine sq_loop_ret ?_
      | refine sq_seq_exit ?_
      | refine sq_blk_hit ?_
      | refine sq_blk_miss rfl ?_
      | refine sq_loop_exit ?_
      | refine sq_ende (.inl rfl) rfl rfl ⟨_, (RVs.cons (RV.tmp rfl) (RVs.nil)), ?_⟩
      | refine sq_ende (.inr rfl) rfl rfl ⟨_, (RVs.cons (RV.tmp rfl) (RVs.nil)), ?_⟩)
   | refine j_nil ?_
   )
  (intro w' hS; refine ⟨?_, hS.below⟩; simp only [pack])
end Go.Proofs.Ytmcmmmaffdenjaa
