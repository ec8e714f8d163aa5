/-
  law36.awake returns true.
-/
import Derived.Test.YtmcmmmaffdenjaaAwk
namespace Go.Proofs.Ytmcmmmaffdenjaa
open Go.RowKit Eng
set_option linter.unusedVariables false
set_option linter.unusedSimpArgs false
set_option maxHeartbeats 8000000
attribute [local irreducible] SC SQ J Qt Calls Iterates
theorem rs_ext {α : Type} {f : α → List Value} {sz : Nat} {w : World} {ad : Addr} {l : List α} (hf : ∀ x, (f x).length = sz) (h : Ext w ad (l.flatMap f)) : RS w sz f (some ad) l := fun i x hx =>
  ⟨ad, rfl, by rw [block_add]; exact h.lt, fun j u hu => by
    rw [nth_eq] at hu
    rw [Eng.add_add]
    exact h.cell _ u (by rw [nth_eq]; exact flat_at f sz hf l i x j u hx hu)⟩
theorem rs_lit {α : Type} {f : α → List Value} {sz b e : Nat} {w0 w : World} {hot : Nat → Prop} {L : List HA} {l : List α} (hf : ∀ x, (f x).length = sz) (hs : St w0 hot L w) (hin : InL L (.cells b e (l.flatMap f))) : RS w sz f (some ⟨b, 0, none⟩) l := rs_ext hf (hs.ext hin)
theorem is1_c (A1 : Option Addr) (c1 : Nat) (A2 : Option Addr) (c2 : Nat) (B1 : Option Addr) (d1 : Nat) (B2 : Option Addr) (d2 : Nat) (w : World) (h1 : RS w 1 intC A1 [10, 20, 30]) (h2 : RS w 1 intC A2 [1, 2]) (h3 : RS w 1 intC B1 [10, 20, 30]) (h4 : RS w 1 intC B2 [1, 2]) :
    Calls Try.prog 43 #[.agg #[.slice A1 3 c1, .slice A2 2 c2, .int .u8 2, .int .i64 5], .int .i64 0, .slice B1 3 d1, .slice B2 2 d2, .int .u8 2, .int .i64 5] w fun e w' => e = .returned (.bool true) ∧ Below w.heap.size w w' := by
  have h := is_c rw1 A1 c1 A2 c2 0 B1 d1 [10, 20, 30] B2 d2 [1, 2] 2 5 w (by decide) (by decide) (by decide) (by decide) h1 h2 h3 h4
  rw [show isF rw1 0 [10, 20, 30] [1, 2] 2 5 = true from by kernel_rfl] at h
  exact h
theorem is2_c (A1 : Option Addr) (c1 : Nat) (A2 : Option Addr) (c2 : Nat) (B1 : Option Addr) (d1 : Nat) (B2 : Option Addr) (d2 : Nat) (w : World) (h1 : RS w 1 intC A1 [10, 20, 30]) (h2 : RS w 1 intC A2 [1, 2]) (h3 : RS w 1 intC B1 [10, 20, 30]) (h4 : RS w 1 intC B2 [1, 2]) :
    Calls Try.prog 43 #[.agg #[.slice A1 3 c1, .slice A2 2 c2, .int .u8 1, .int .i64 0], .int .i64 0, .slice B1 3 d1, .slice B2 2 d2, .int .u8 1, .int .i64 0] w fun e w' => e = .returned (.bool true) ∧ Below w.heap.size w w' := by
  have h := is_c rw2 A1 c1 A2 c2 0 B1 d1 [10, 20, 30] B2 d2 [1, 2] 1 0 w (by decide) (by decide) (by decide) (by decide) h1 h2 h3 h4
  rw [show isF rw2 0 [10, 20, 30] [1, 2] 1 0 = true from by kernel_rfl] at h
  exact h
theorem is3_c (A1 : Option Addr) (c1 : Nat) (A2 : Option Addr) (c2 : Nat) (B1 : Option Addr) (d1 : Nat) (B2 : Option Addr) (d2 : Nat) (w : World) (h1 : RS w 1 intC A1 [10, 20]) (h2 : RS w 1 intC A2 [1]) (h3 : RS w 1 intC B1 [10, 20]) (h4 : RS w 1 intC B2 [1]) :
    Calls Try.prog 43 #[.agg #[.slice A1 2 c1, .slice A2 1 c2, .int .u8 1, .int .i64 0], .int .i64 0, .slice B1 2 d1, .slice B2 1 d2, .int .u8 1, .int .i64 0] w fun e w' => e = .returned (.bool true) ∧ Below w.heap.size w w' := by
  have h := is_c rw3 A1 c1 A2 c2 0 B1 d1 [10, 20] B2 d2 [1] 1 0 w (by decide) (by decide) (by decide) (by decide) h1 h2 h3 h4
  rw [show isF rw3 0 [10, 20] [1] 1 0 = true from by kernel_rfl] at h
  exact h
theorem is4_c (A1 : Option Addr) (c1 : Nat) (A2 : Option Addr) (c2 : Nat) (B1 : Option Addr) (d1 : Nat) (B2 : Option Addr) (d2 : Nat) (w : World) (h1 : RS w 1 intC A1 [10, 20, 30]) (h2 : RS w 1 intC A2 [1, 2]) (h3 : RS w 1 intC B1 [10, 20, 30]) (h4 : RS w 1 intC B2 [1, 2]) :
    Calls Try.prog 43 #[.agg #[.slice A1 3 c1, .slice A2 2 c2, .int .u8 3, .int .i64 0], .int .i64 0, .slice B1 3 d1, .slice B2 2 d2, .int .u8 3, .int .i64 0] w fun e w' => e = .returned (.bool true) ∧ Below w.heap.size w w' := by
  have h := is_c rw4 A1 c1 A2 c2 0 B1 d1 [10, 20, 30] B2 d2 [1, 2] 3 0 w (by decide) (by decide) (by decide) (by decide) h1 h2 h3 h4
  rw [show isF rw4 0 [10, 20, 30] [1, 2] 3 0 = true from by kernel_rfl] at h
  exact h
theorem is5_c (A1 : Option Addr) (c1 : Nat) (A2 : Option Addr) (c2 : Nat) (B1 : Option Addr) (d1 : Nat) (B2 : Option Addr) (d2 : Nat) (w : World) (h1 : RS w 1 intC A1 [20, 30]) (h2 : RS w 1 intC A2 [2]) (h3 : RS w 1 intC B1 [20, 30]) (h4 : RS w 1 intC B2 [2]) :
    Calls Try.prog 43 #[.agg #[.slice A1 2 c1, .slice A2 1 c2, .int .u8 3, .int .i64 0], .int .i64 0, .slice B1 2 d1, .slice B2 1 d2, .int .u8 3, .int .i64 0] w fun e w' => e = .returned (.bool true) ∧ Below w.heap.size w w' := by
  have h := is_c rw5 A1 c1 A2 c2 0 B1 d1 [20, 30] B2 d2 [2] 3 0 w (by decide) (by decide) (by decide) (by decide) h1 h2 h3 h4
  rw [show isF rw5 0 [20, 30] [2] 3 0 = true from by kernel_rfl] at h
  exact h
theorem is6_c (A1 : Option Addr) (c1 : Nat) (A2 : Option Addr) (c2 : Nat) (B1 : Option Addr) (d1 : Nat) (B2 : Option Addr) (d2 : Nat) (w : World) (h1 : RS w 1 intC A1 [30, 20]) (h2 : RS w 1 intC A2 [4]) (h3 : RS w 1 intC B1 [30, 20]) (h4 : RS w 1 intC B2 [4]) :
    Calls Try.prog 43 #[.agg #[.slice A1 2 c1, .slice A2 1 c2, .int .u8 3, .int .i64 0], .int .i64 0, .slice B1 2 d1, .slice B2 1 d2, .int .u8 3, .int .i64 0] w fun e w' => e = .returned (.bool true) ∧ Below w.heap.size w w' := by
  have h := is_c rw6 A1 c1 A2 c2 0 B1 d1 [30, 20] B2 d2 [4] 3 0 w (by decide) (by decide) (by decide) (by decide) h1 h2 h3 h4
  rw [show isF rw6 0 [30, 20] [4] 3 0 = true from by kernel_rfl] at h
  exact h
theorem same1_c (A1 : Option Addr) (c1 : Nat) (B1 : Option Addr) (d1 : Nat) (w : World) (h1 : RS w 1 intC A1 [20, 30]) (h3 : RS w 1 intC B1 [20, 30]) :
    Calls Try.prog 45 #[.slice A1 2 c1, .slice B1 2 d1] w fun e w' => e = .returned (.bool true) ∧ Below w.heap.size w w' := by
  have h := sameInts_c A1 c1 [20, 30] B1 d1 [20, 30] w (by decide) (by decide) h1 h3
  rw [show sameF [20, 30] [20, 30] = true from by kernel_rfl] at h
  exact h
set_option maxHeartbeats 8000000 in
set_option maxRecDepth 4000 in
theorem awake_c (w : World) : Calls Try.prog 38 #[] w fun e w' => e = .returned (.bool true) ∧ Below w.heap.size w w' := by
  refine eng_start (n := 121) (args := []) tab tab_ok fns fns_ok [.tmp 0] Try.func38 rfl rfl rfl rfl ?_
  repeat' (first
   | (refine gJ ?_
      first
      | refine jmv rfl rfl rfl rfl rfl ?_
      | (refine gload rfl rfl ?_
         refine j_qe rfl rfl rfl ?_
         first
         | refine ⟨_, q_load_own rfl rfl rfl rfl (by (repeat (first | exact InL.here | apply InL.there))) (by first | rfl | assumption), ?_⟩
         | refine ⟨_, q_loadA_own rfl rfl rfl rfl (by (repeat (first | exact InL.here | apply InL.there))) (by rfl), ?_⟩
         | refine ⟨_, q_loadA_ext rfl rfl rfl rfl ⟨by assumption, (by first | exact id | assumption)⟩ (by rfl), ?_⟩
         | refine ⟨_, q_load_ext rfl rfl rfl rfl ⟨by assumption, (by first | exact id | assumption)⟩ (by first | rfl | assumption), ?_⟩
         | refine ⟨_, q_load_extb rfl rfl rfl rfl ⟨by assumption, (by first | exact id | assumption)⟩ (by rfl), ?_⟩
         | refine ⟨_, q_loadA_extb rfl rfl rfl rfl ⟨by assumption, (by first | exact id | assumption)⟩ (by rfl), ?_⟩
         | refine ⟨_, q_load_ext0 rfl rfl rfl rfl ⟨by assumption, (by first | exact id | assumption)⟩ (by rfl), ?_⟩)
      | refine jcmp rfl rfl rfl rfl rfl rfl rfl ?_
      | refine jextract rfl rfl rfl rfl rfl rfl ?_
      | (refine gcall rfl rfl ?_
         first
         | (refine j_qc (f := 40) rfl rfl rfl rfl rfl rfl rfl ?_; refine ⟨_, (fun w' hs => rel1_c _ _ w' (rs_own (f := odC) (fun _ => rfl) hs (by (repeat (first | exact InL.here | apply InL.there))) rfl rfl)), ?_⟩)
         | (refine j_qc (f := 43) rfl rfl rfl rfl rfl rfl rfl ?_; refine ⟨_, (fun w' hs => is1_c P1 p1 Q1 q1 _ _ _ _ w' (rs_own (f := intC) (fun _ => rfl) hs (by (repeat (first | exact InL.here | apply InL.there))) rfl rfl) (rs_own (f := intC) (fun _ => rfl) hs (by (repeat (first | exact InL.here | apply InL.there))) rfl rfl) (rs_lit (f := intC) (e := 3) (fun _ => rfl) hs (by (repeat (first | exact InL.here | apply InL.there)))) (rs_lit (f := intC) (e := 3) (fun _ => rfl) hs (by (repeat (first | exact InL.here | apply InL.there))))), ?_⟩)
         | (refine j_qc (f := 43) rfl rfl rfl rfl rfl rfl rfl ?_; refine ⟨_, (fun w' hs => is2_c P2 p2 Q2 q2 _ _ _ _ w' (rs_own (f := intC) (fun _ => rfl) hs (by (repeat (first | exact InL.here | apply InL.there))) rfl rfl) (rs_own (f := intC) (fun _ => rfl) hs (by (repeat (first | exact InL.here | apply InL.there))) rfl rfl) (rs_lit (f := intC) (e := 3) (fun _ => rfl) hs (by (repeat (first | exact InL.here | apply InL.there)))) (rs_lit (f := intC) (e := 3) (fun _ => rfl) hs (by (repeat (first | exact InL.here | apply InL.there))))), ?_⟩)
         | (refine j_qc (f := 43) rfl rfl rfl rfl rfl rfl rfl ?_; refine ⟨_, (fun w' hs => is3_c P3 p3 Q3 q3 _ _ _ _ w' (rs_own (f := intC) (fun _ => rfl) hs (by (repeat (first | exact InL.here | apply InL.there))) rfl rfl) (rs_own (f := intC) (fun _ => rfl) hs (by (repeat (first | exact InL.here | apply InL.there))) rfl rfl) (rs_lit (f := intC) (e := 3) (fun _ => rfl) hs (by (repeat (first | exact InL.here | apply InL.there)))) (rs_lit (f := intC) (e := 3) (fun _ => rfl) hs (by (repeat (first | exact InL.here | apply InL.there))))), ?_⟩)
         | (refine j_qc (f := 43) rfl rfl rfl rfl rfl rfl rfl ?_; refine ⟨_, (fun w' hs => is4_c P4 p4 Q4 q4 _ _ _ _ w' (rs_own (f := intC) (fun _ => rfl) hs (by (repeat (first | exact InL.here | apply InL.there))) rfl rfl) (rs_own (f := intC) (fun _ => rfl) hs (by (repeat (first | exact InL.here | apply InL.there))) rfl rfl) (rs_lit (f := intC) (e := 3) (fun _ => rfl) hs (by (repeat (first | exact InL.here | apply InL.there)))) (rs_lit (f := intC) (e := 3) (fun _ => rfl) hs (by (repeat (first | exact InL.here | apply InL.there))))), ?_⟩)
         | (refine j_qc (f := 43) rfl rfl rfl rfl rfl rfl rfl ?_; refine ⟨_, (fun w' hs => is5_c P5 p5 Q5 q5 _ _ _ _ w' (rs_own (f := intC) (fun _ => rfl) hs (by (repeat (first | exact InL.here | apply InL.there))) rfl rfl) (rs_own (f := intC) (fun _ => rfl) hs (by (repeat (first | exact InL.here | apply InL.there))) rfl rfl) (rs_lit (f := intC) (e := 3) (fun _ => rfl) hs (by (repeat (first | exact InL.here | apply InL.there)))) (rs_lit (f := intC) (e := 3) (fun _ => rfl) hs (by (repeat (first | exact InL.here | apply InL.there))))), ?_⟩)
         | (refine j_qc (f := 43) rfl rfl rfl rfl rfl rfl rfl ?_; refine ⟨_, (fun w' hs => is6_c P6 p6 Q6 q6 _ _ _ _ w' (rs_own (f := intC) (fun _ => rfl) hs (by (repeat (first | exact InL.here | apply InL.there))) rfl rfl) (rs_own (f := intC) (fun _ => rfl) hs (by (repeat (first | exact InL.here | apply InL.there))) rfl rfl) (rs_lit (f := intC) (e := 3) (fun _ => rfl) hs (by (repeat (first | exact InL.here | apply InL.there)))) (rs_lit (f := intC) (e := 3) (fun _ => rfl) hs (by (repeat (first | exact InL.here | apply InL.there))))), ?_⟩)
         | (refine j_qc (f := 45) rfl rfl rfl rfl rfl rfl rfl ?_; refine ⟨_, (fun w' hs => same1_c R2 r2 _ _ w' (rs_own (f := intC) (fun _ => rfl) hs (by (repeat (first | exact InL.here | apply InL.there))) rfl rfl) (rs_lit (f := intC) (e := 3) (fun _ => rfl) hs (by (repeat (first | exact InL.here | apply InL.there))))), ?_⟩))
      | (refine gcall rfl rfl ?_; refine gF ?_; refine j_callN (f := 67) rfl rfl rfl rfl rfl rfl rfl (fun v => v) (fun _ => True) (fun v => [.own v 30 6 3 (exL.flatMap odC)]) (fun w' hs => example_c w') (fun _ => trivial) ?_; rintro v0 _; refine j_owns (v := v0) (by (repeat (first | exact InL.here | apply InL.there))) ?_; rintro A0 c0 rfl hs0)
      | (refine gcall rfl rfl ?_; refine gF ?_; refine j_callN (f := 39) rfl rfl rfl rfl rfl rfl rfl (fun x => .tuple #[wyV x rw1, .int .i64 0]) (fun _ => True) (wyL rw1) (fun w' hs => res1_c _ _ w' (rs_own (f := odC) (fun _ => rfl) hs (by (repeat (first | exact InL.here | apply InL.there))) rfl rfl)) (fun _ => trivial) ?_; rintro ⟨v1, v2⟩ _; refine j_owns (v := v1) (by (repeat (first | exact InL.here | apply InL.there))) ?_; rintro P1 p1 rfl hs1; refine j_owns (v := v2) (by (repeat (first | exact InL.here | apply InL.there))) ?_; rintro Q1 q1 rfl hs2)
      | (refine gcall rfl rfl ?_; refine gF ?_; refine j_callN (f := 39) rfl rfl rfl rfl rfl rfl rfl (fun x => .tuple #[wyV x rw2, .int .i64 0]) (fun _ => True) (wyL rw2) (fun w' hs => res2_c _ _ w' (rs_own (f := odC) (fun _ => rfl) hs (by (repeat (first | exact InL.here | apply InL.there))) rfl rfl)) (fun _ => trivial) ?_; rintro ⟨v1, v2⟩ _; refine j_owns (v := v1) (by (repeat (first | exact InL.here | apply InL.there))) ?_; rintro P2 p2 rfl hs1; refine j_owns (v := v2) (by (repeat (first | exact InL.here | apply InL.there))) ?_; rintro Q2 q2 rfl hs2)
      | (refine gcall rfl rfl ?_; refine gF ?_; refine j_callN (f := 39) rfl rfl rfl rfl rfl rfl rfl (fun x => .tuple #[wyV x rw3, .int .i64 0]) (fun _ => True) (wyL rw3) (fun w' hs => res3_c _ _ w' (rs_own (f := odC) (fun _ => rfl) hs (by (repeat (first | exact InL.here | apply InL.there))) rfl rfl)) (fun _ => trivial) ?_; rintro ⟨v1, v2⟩ _; refine j_owns (v := v1) (by (repeat (first | exact InL.here | apply InL.there))) ?_; rintro P3 p3 rfl hs1; refine j_owns (v := v2) (by (repeat (first | exact InL.here | apply InL.there))) ?_; rintro Q3 q3 rfl hs2)
      | (refine gcall rfl rfl ?_; refine gF ?_; refine j_callN (f := 39) rfl rfl rfl rfl rfl rfl rfl (fun x => .tuple #[wyV x rw4, .int .i64 0]) (fun _ => True) (wyL rw4) (fun w' hs => res4_c _ _ w' (rs_own (f := odC) (fun _ => rfl) hs (by (repeat (first | exact InL.here | apply InL.there))) rfl rfl)) (fun _ => trivial) ?_; rintro ⟨v1, v2⟩ _; refine j_owns (v := v1) (by (repeat (first | exact InL.here | apply InL.there))) ?_; rintro P4 p4 rfl hs1; refine j_owns (v := v2) (by (repeat (first | exact InL.here | apply InL.there))) ?_; rintro Q4 q4 rfl hs2)
      | (refine gcall rfl rfl ?_; refine gF ?_; refine j_callN (f := 39) rfl rfl rfl rfl rfl rfl rfl (fun x => .tuple #[wyV x rw5, .int .i64 0]) (fun _ => True) (wyL rw5) (fun w' hs => res5_c _ _ w' (rs_own (f := odC) (fun _ => rfl) hs (by (repeat (first | exact InL.here | apply InL.there))) rfl rfl)) (fun _ => trivial) ?_; rintro ⟨v1, v2⟩ _; refine j_owns (v := v1) (by (repeat (first | exact InL.here | apply InL.there))) ?_; rintro P5 p5 rfl hs1; refine j_owns (v := v2) (by (repeat (first | exact InL.here | apply InL.there))) ?_; rintro Q5 q5 rfl hs2)
      | (refine gcall rfl rfl ?_; refine gF ?_; refine j_callN (f := 39) rfl rfl rfl rfl rfl rfl rfl (fun x => .tuple #[wyV x rw6, .int .i64 0]) (fun _ => True) (wyL rw6) (fun w' hs => res6_c _ _ w' (rs_own (f := odC) (fun _ => rfl) hs (by (repeat (first | exact InL.here | apply InL.there))) rfl rfl)) (fun _ => trivial) ?_; rintro ⟨v1, v2⟩ _; refine j_owns (v := v1) (by (repeat (first | exact InL.here | apply InL.there))) ?_; rintro P6 p6 rfl hs1; refine j_owns (v := v2) (by (repeat (first | exact InL.here | apply InL.there))) ?_; rintro Q6 q6 rfl hs2)
      | (refine gcall rfl rfl ?_; refine gF ?_; refine j_callN (f := 44) rfl rfl rfl rfl rfl rfl rfl (fun x : Value × Value => .tuple #[x.1, .int .i64 0]) (fun _ => True) (fun x => [.own x.1 60 1 1 [x.2], .own x.2 3 1 2 [.int .i64 20, .int .i64 30]]) (fun w' hs => loops1_c _ _ w' (rs_own (f := odC) (fun _ => rfl) hs (by (repeat (first | exact InL.here | apply InL.there))) rfl rfl)) (fun _ => trivial) ?_; rintro ⟨v1, v2⟩ _; refine j_ownp (v := v1) (by (repeat (first | exact InL.here | apply InL.there))) (by decide) ?_; rintro R1 r1 rfl hs1; refine j_owns (v := v2) (by (repeat (first | exact InL.here | apply InL.there))) ?_; rintro R2 r2 rfl hs2)
      | (refine j_qe rfl rfl rfl ?_; refine ⟨_, q_row1 (f := fun v : Value => [v]) (l := [.slice R2 2 r2]) (i := 0) rfl rfl rfl rfl (by (repeat (first | exact InL.here | apply InL.there))) (fun _ => rfl) rfl rfl, ?_⟩)
      | (refine gF ?_; refine j_append rfl rfl rfl rfl rfl rfl rfl rfl rfl rfl rfl (by (repeat (first | exact InL.here | apply InL.there))) (by (repeat (first | exact InL.here | apply InL.there))) (by rfl) (by rfl) (by omega) (fun _ => by (repeat (first | exact Upd.here | apply Upd.there))) ?_; intro v; refine j_owns (v := v) (by (repeat (first | exact InL.here | apply InL.there))) ?_; rintro A9 c9 rfl hs9)
      | (refine gF ?_
         first
         | refine j_store rfl rfl rfl rfl rfl rfl rfl rfl (by (repeat (first | exact Upd.here | apply Upd.there))) (by rfl) ?_
         | (refine j_alloc rfl rfl rfl rfl rfl ?_; intro b)
         | (refine j_buildSlice rfl rfl rfl rfl rfl rfl rfl rfl rfl rfl rfl rfl ?_; intro b)
         | (refine j_append rfl rfl rfl rfl rfl rfl rfl rfl rfl rfl rfl (by (repeat (first | exact InL.here | apply InL.there))) (by (repeat (first | exact InL.here | apply InL.there))) (by rfl) (by rfl) (by omega) (fun _ => by (repeat (first | exact Upd.here | apply Upd.there))) ?_; intro v))
      | (refine j_qe rfl rfl rfl ?_
         first
         | refine ⟨_, q_pick_t rfl rfl rfl, ?_⟩
         | refine ⟨_, q_pick_f rfl rfl rfl, ?_⟩
         | refine ⟨_, q_not rfl rfl, ?_⟩
         | refine ⟨_, q_index_nat rfl rfl rfl rfl rfl (by omega), ?_⟩
         | refine ⟨_, q_index_slice rfl rfl rfl rfl rfl (by omega), ?_⟩
         | refine ⟨_, q_index_arr rfl rfl rfl rfl rfl (by omega), ?_⟩
         | refine ⟨_, q_index_arr_ext rfl rfl rfl rfl rfl (by omega), ?_⟩
         | refine ⟨_, q_len_slice rfl rfl rfl rfl, ?_⟩
         | refine ⟨_, q_build_struct rfl rfl rfl rfl rfl, ?_⟩
         | refine ⟨_, q_build_arr rfl rfl rfl rfl rfl, ?_⟩)
      | refine j_guard_undef rfl rfl rfl rfl rfl ?_
      | (refine j_guard rfl rfl rfl rfl rfl ?_ ?_ <;> intro hc <;> (first | (exact absurd hc (by decide)) | ((try simp only [decide_eq_true_eq, decide_eq_false_iff_not, Bool.not_eq_true', Bool.not_eq_false', Bool.not_true, Bool.not_false, ne_eq, Decidable.not_not] at hc) <;> first | (exfalso; omega) | (exact absurd trivial hc) | skip))))
   | (refine gSC ?_
      first
      | refine sc_seq ?_
      | refine sc_region ?_
      | (refine sc_cond rfl ?_ ?_ <;> intro hc <;> (first | (exact absurd hc (by decide)) | ((try simp only [decide_eq_true_eq, decide_eq_false_iff_not, Bool.not_eq_true', Bool.not_eq_false', Bool.not_true, Bool.not_false, ne_eq, Decidable.not_not] at hc) <;> first | (exfalso; omega) | (exact absurd trivial hc) | skip)))
      | refine sc_block ?_
      | refine sc_ret ?_
      | refine sc_exit ?_
      | refine sc_skip ?_)
   | (refine gSQ ?_
      first
      | refine sq_seq ?_
      | refine sq_blk ?_
      | refine sq_seq_ret ?_
      | refine sq_blk_ret ?_
      | refine sq_loop_ret ?_
      | refine sq_seq_exit ?_
      | refine sq_blk_hit ?_
      | refine sq_blk_miss rfl ?_
      | refine sq_loop_exit ?_
      | refine sq_ende (.inl rfl) rfl rfl ⟨_, (RVs.cons (RV.tmp rfl) (RVs.nil)), ?_⟩
      | refine sq_ende (.inr rfl) rfl rfl ⟨_, (RVs.cons (RV.tmp rfl) (RVs.nil)), ?_⟩)
   | refine j_nil ?_
   )
  (intro w' hS; refine ⟨?_, hS.below⟩; simp only [pack])
end Go.Proofs.Ytmcmmmaffdenjaa
