/-
  ForwardLists.
-/
import Derived.Test.YtmcmmmaffdenjaaRlw
import Derived.Test.YtmcmmmaffdenjaaLni
import Derived.Test.YtmcmmmaffdenjaaLrx
namespace Go.Proofs.Ytmcmmmaffdenjaa
open Go.RowKit Eng
set_option linter.unusedVariables false
set_option linter.unusedSimpArgs false
set_option maxHeartbeats 8000000
attribute [local irreducible] SC SQ J Qt Calls Iterates
theorem allI_snoc {l : List Int} {i : Nat} {x : Int} (h : l[i]? = some x) : allI (l.take (i + 1)) = true ↔ allI (l.take i) = true ∧ idI x := by
  rw [allI_iff, allI_iff, take_snocG h]
  constructor
  · intro g
    exact ⟨fun q hq => g q (List.mem_append_left _ hq), g x (by simp)⟩
  · rintro ⟨g1, g2⟩ q hq
    rcases List.mem_append.1 hq with hq | hq
    · exact g1 q hq
    · rw [List.mem_singleton] at hq; subst hq; exact g2
def knF (p d : Int) (l : List Int) : Int := if (0 ≤ d ∧ d ≤ 730484) ∧ (1 ≤ p ∧ p ≤ 999999) ∧ allI l = true then 1 else 0
theorem kn_zero (p d : Int) (l : List Int) : knF p d (l.take 0) = 1 ↔ (0 ≤ d ∧ d ≤ 730484) ∧ (1 ≤ p ∧ p ≤ 999999) := by
  rw [List.take_zero]
  unfold knF
  by_cases g : (0 ≤ d ∧ d ≤ 730484) ∧ (1 ≤ p ∧ p ≤ 999999)
  · rw [if_pos ⟨g.1, g.2, rfl⟩]
    exact ⟨fun _ => g, fun _ => rfl⟩
  · rw [if_neg (fun k => g ⟨k.1, k.2.1⟩)]
    exact ⟨fun k => by omega, fun k => absurd k g⟩
theorem kn_step (p d : Int) {l : List Int} {i : Nat} {x : Int} (h : l[i]? = some x) : knF p d (l.take (i + 1)) = 1 ↔ knF p d (l.take i) = 1 ∧ (1 ≤ x ∧ x ≤ 999999) := by
  unfold knF
  have h1 := allI_snoc h
  unfold idI at h1
  by_cases g : (0 ≤ d ∧ d ≤ 730484) ∧ (1 ≤ p ∧ p ≤ 999999)
  · by_cases g2 : allI (l.take i) = true
    · by_cases g3 : 1 ≤ x ∧ x ≤ 999999
      · rw [if_pos ⟨g.1, g.2, h1.2 ⟨g2, g3⟩⟩, if_pos ⟨g.1, g.2, g2⟩]
        exact ⟨fun _ => ⟨rfl, g3⟩, fun _ => rfl⟩
      · rw [if_neg (fun k => g3 (h1.1 k.2.2).2)]
        exact ⟨fun k => by omega, fun k => absurd k.2 g3⟩
    · rw [if_neg (fun k => g2 (h1.1 k.2.2).1), if_neg (fun k => g2 k.2.2)]
      exact ⟨fun k => by omega, fun k => by omega⟩
  · rw [if_neg (fun k => g ⟨k.1, k.2.1⟩), if_neg (fun k => g ⟨k.1, k.2.1⟩)]
    exact ⟨fun k => by omega, fun k => by omega⟩
theorem rs_headI {w : World} {A : Option Addr} {l m : List Int} (h : RS w 1 intC A (l ++ m)) : RS w 1 intC A l := by
  have h1 := RS.take h l.length
  rwa [List.take_left] at h1
theorem Lists_a (A : Option Addr) (c : Nat) (l : List Od) (B : Option Addr) (bc : Nat) (pts : List Int) (p d : Int) (w : World) (hs : Sl A l.length c) (hs2 : Sl B pts.length bc) (hp : -9223372036854775808 ≤ p ∧ p ≤ 9223372036854775807) (hd : -9223372036854775808 ≤ d ∧ d ≤ 9223372036854775807) (hpo : ∀ x ∈ pts, -9223372036854775808 ≤ x ∧ x ≤ 9223372036854775807) (h : RS w 6 odC A l) (hP : RS w 1 intC B pts) (hl60 : l.length ≤ 60) (hm10 : pts.length ≤ 1010) (hr : rightB l = true) (hdd : dayI d) (hpp : idI p) (hm1 : pts.length ≤ 1000) (hal : allI pts = true) :
    Calls Try.prog 16 #[.slice A l.length c, .slice B pts.length bc, .int .i64 p, .int .i64 d] w fun e w' => e = .returned (.bool true) ∧ Below w.heap.size w w' := by
  have hlent := fun w' h' => lentO_c A c l w' (by omega) hs h'
  have hkept := fun ad c2 w' h1 h2 h3 => keptO_c ad c2 A c l w' (by omega) h1 h2 h3
  have hlentI := fun w' h' => lentI_c B bc pts w' (by omega) hs2 h'
  have hkeptI := fun ad c2 w' h1 h2 h3 => keptI_c ad c2 B bc pts w' (by omega) h1 h2 h3
  have hright := fun w' h' => right2_c A c l w' (by omega) h'
  have hright1 := fun w' h' => Right_c A c l w' (by omega) h'
  have hfew := fun w' => few_c A l.length c w'
  rw [decide_eq_true (by omega)] at hfew
  have hkz := kn_zero p d pts
  have hks := fun i x h => kn_step p d (l := pts) (i := i) (x := x) h
  have hkf : ∀ i, pts.length ≤ i → pts.take i = pts := fun i hi => List.take_of_length_le hi
  have hrl := (rightB_iff l).1 hr
  have hlps := fun A c w' h' => Loops_c A c l d w' (by omega) hr hdd h'
  have hlps2 := fun w' h' => Loops2_c A c l d w' hrl h'
  have hRlen : ∀ R : List LRow, R.map (·.2) = loopsF l d → R.length ≤ 1000 := fun R hR => by
    have h1 : (loopsF l d).length = R.length := by rw [← hR, List.length_map]
    have h2 : (loopsF l d).length ≤ (ptsF l d).length := by unfold loopsF loopsOf; rw [List.length_map]; exact List.length_filter_le _ _
    have h3 := ptsF_len l d
    omega
  have hRrow : ∀ R : List LRow, R.map (·.2) = loopsF l d → ∀ q ∈ R, q.2.length ≤ 1000 := fun R hR q hq => by
    have h1 : q.2 ∈ loopsF l d := by rw [← hR]; exact List.mem_map.2 ⟨q, hq, rfl⟩
    obtain ⟨x, _, _, e⟩ := mem_loopsF.1 h1
    have := way_len l x d
    rw [e] at this
    omega
  have hsrc := fun A c B bc w' h1 h2 => Sources_c A c l B bc pts p d w' (by omega) (by omega) h1 h2
  have hS : sourcesF l pts p d = (srcF l p d pts, 0) := by unfold sourcesF; rw [if_neg (fun g => g hr), if_neg (by omega), if_neg (fun g => g ⟨hpp, hdd⟩), if_neg (fun g => g hal)]
  rw [hS] at hsrc
  have hsrc2 := fun w' h1 h2 => Sources2_c A c l B bc pts p d w' hrl (by omega) h1 h2
  rw [hr] at hright hright1
  have hTl : (srcF l p d pts).length ≤ 1000 := by have : (srcF l p d pts).length ≤ pts.length := List.length_filter_le _ _; omega
  have hkn : knF p d pts = 1 := by unfold knF; rw [if_pos ⟨hdd, hpp, hal⟩]
  have hdb : 0 ≤ d ∧ d ≤ 730484 := hdd
  have hpb : 1 ≤ p ∧ p ≤ 999999 := hpp
  generalize srcF l p d pts = T at *
  have hsm : ∀ A1 c1 A2 c2 w', RS w' 1 intC A1 T → RS w' 1 intC A2 T → Calls Try.prog 45 #[.slice A1 T.length c1, .slice A2 T.length c2] w' fun e w'' => e = .returned (.bool true) ∧ Below w'.heap.size w' w'' := fun A1 c1 A2 c2 w' h1 h2 => by
    have h9 := sameInts_c A1 c1 T A2 c2 T w' (by omega) (by omega) h1 h2
    rw [(sameF_iff T T).2 rfl] at h9
    exact h9
  obtain ⟨n, hn⟩ : ∃ n, l.length = n := ⟨_, rfl⟩
  obtain ⟨m, hm⟩ : ∃ m, pts.length = m := ⟨_, rfl⟩
  rw [hn] at hlent hkept hright hright1 hfew hlps hlps2 hsrc hsrc2 hl60 ⊢
  rw [hm] at hlentI hkeptI hsrc hsrc2 hm10 hm1 hkf ⊢
  refine eng_start (n := 161) (args := [.slice A n c, .slice B m bc, .int .i64 p, .int .i64 d]) tab tab_ok fns fns_ok [.tmp 8] Try.func16 rfl rfl rfl rfl ?_
  repeat' (first
   | (refine gJ ?_
      first
      | refine jmv rfl rfl rfl rfl rfl ?_
      | (refine gload rfl rfl ?_
         refine j_qe rfl rfl rfl ?_
         first
         | refine ⟨_, q_load_own rfl rfl rfl rfl (by (repeat (first | exact InL.here | apply InL.there))) (by first | rfl | assumption), ?_⟩
         | refine ⟨_, q_loadA_own rfl rfl rfl rfl (by (repeat (first | exact InL.here | apply InL.there))) (by rfl), ?_⟩
         | refine ⟨_, q_loadA_ext rfl rfl rfl rfl ⟨by assumption, (by first | exact id | assumption)⟩ (by rfl), ?_⟩
         | refine ⟨_, q_load_ext rfl rfl rfl rfl ⟨by assumption, (by first | exact id | assumption)⟩ (by first | rfl | assumption), ?_⟩
         | refine ⟨_, q_load_extb rfl rfl rfl rfl ⟨by assumption, (by first | exact id | assumption)⟩ (by rfl), ?_⟩
         | refine ⟨_, q_loadA_extb rfl rfl rfl rfl ⟨by assumption, (by first | exact id | assumption)⟩ (by rfl), ?_⟩
         | refine ⟨_, q_load_ext0 rfl rfl rfl rfl ⟨by assumption, (by first | exact id | assumption)⟩ (by rfl), ?_⟩)
      | refine jcmp rfl rfl rfl rfl rfl rfl rfl ?_
      | refine jar rfl rfl rfl rfl rfl rfl rfl (by omega) ?_
      | refine jextract rfl rfl rfl rfl rfl rfl ?_
      | (refine gcall rfl rfl ?_
         first
         | (refine j_qc (f := 37) rfl rfl rfl rfl rfl rfl rfl ?_; refine ⟨_, (fun w' _ => hfew w'), ?_⟩)
         | (refine j_qc (f := 38) rfl rfl rfl rfl rfl rfl rfl ?_; refine ⟨_, (fun w' _ => awake_c w'), ?_⟩)
         | (refine j_qc (f := 52) rfl rfl rfl rfl rfl rfl rfl ?_; refine ⟨_, (fun w' hs => sameRows_c A5 c5 R A6 c6 R2 w' (hRlen R hR) (hR.trans hR2.symm) (hRrow R hR) (rs_own (f := lrC) (fun _ => rfl) hs (by (repeat (first | exact InL.here | apply InL.there))) rfl rfl) (rs_own (f := lrC) (fun _ => rfl) hs (by (repeat (first | exact InL.here | apply InL.there))) rfl rfl) (rowsI_own hs (fun x hx => by simp only [List.mem_append, List.mem_cons]; simp only [hx, true_or, or_true])) (rowsI_own hs (fun x hx => by simp only [List.mem_append, List.mem_cons]; simp only [hx, true_or, or_true]))), ?_⟩)
         | (refine j_qc (f := 26) rfl rfl rfl rfl rfl rfl rfl ?_; refine ⟨_, (fun w' hs => hkept ad c2 w' hc2 (rs_own (f := odC) (l := l ++ mksO 1 12) (fun _ => rfl) hs (by (repeat (first | exact InL.here | apply InL.there))) (by rw [List.length_append, mksO_len, hn]) rfl) (h.st hs)), ?_⟩)
         | (refine j_qc (f := 49) rfl rfl rfl rfl rfl rfl rfl ?_; refine ⟨_, (fun w' hs => hkeptI bd b2 w' hb2 (rs_own (f := intC) (l := pts ++ mksI 1 12) (fun _ => rfl) hs (by (repeat (first | exact InL.here | apply InL.there))) (by rw [List.length_append, mksI_len, hm]) rfl) (hP.st hs)), ?_⟩)
         | (refine j_qc (f := 21) rfl rfl rfl rfl rfl rfl rfl ?_; refine ⟨_, (fun w' hs => hright w' (h.st hs)), ?_⟩)
         | (refine j_qc (f := 25) rfl rfl rfl rfl rfl rfl rfl ?_; refine ⟨_, (fun w' hs => hright1 w' (h.st hs)), ?_⟩))
      | (refine gcall rfl rfl ?_; refine gF ?_; refine j_callN (f := 20) rfl rfl rfl rfl rfl rfl rfl (fun x : Addr × Nat => .slice (some x.1) n x.2) (fun x => n + 12 ≤ x.2) (fun x => [.own (.slice (some x.1) (n + 12) x.2) 30 6 (n + 12) ((l ++ mksO 1 12).flatMap odC)]) (fun w' hs => hlent w' (h.st hs)) (fun _ => trivial) ?_; rintro ⟨ad, c2⟩ hc2)
      | (refine gcall rfl rfl ?_; refine gF ?_; refine j_callN (f := 47) rfl rfl rfl rfl rfl rfl rfl (fun x : Addr × Nat => .slice (some x.1) m x.2) (fun x => m + 12 ≤ x.2) (fun x => [.own (.slice (some x.1) (m + 12) x.2) 3 1 (m + 12) ((pts ++ mksI 1 12).flatMap intC)]) (fun w' hs => hlentI w' (hP.st hs)) (fun _ => trivial) ?_; rintro ⟨bd, b2⟩ hb2)
      | (refine gcall rfl rfl ?_; refine gF ?_; refine j_callN (f := 48) rfl rfl rfl rfl rfl rfl rfl (fun v : Value => .tuple #[v, .int .i64 0]) (fun _ => True) (fun v => [.own v 3 1 T.length (T.flatMap intC)]) (fun w' hs => hsrc (some ad) c2 (some bd) b2 w' (rs_head (rs_own (f := odC) (l := l ++ mksO 1 12) (fun _ => rfl) hs (by (repeat (first | exact InL.here | apply InL.there))) (by rw [List.length_append, mksO_len, hn]) rfl)) (rs_headI (rs_own (f := intC) (l := pts ++ mksI 1 12) (fun _ => rfl) hs (by (repeat (first | exact InL.here | apply InL.there))) (by rw [List.length_append, mksI_len, hm]) rfl))) (fun _ => trivial) ?_; rintro v1 _; refine j_owns (v := v1) (n := T.length) (by (repeat (first | exact InL.here | apply InL.there))) ?_; rintro A1 c1 rfl hs1)
      | (refine gcall rfl rfl ?_; refine gF ?_; refine j_callN (f := 44) rfl rfl rfl rfl rfl rfl rfl lpV (fun x => x.2.map (·.2) = loopsF l d) lpL (fun w' hs => hlps (some ad) c2 w' (rs_head (rs_own (f := odC) (l := l ++ mksO 1 12) (fun _ => rfl) hs (by (repeat (first | exact InL.here | apply InL.there))) (by rw [List.length_append, mksO_len, hn]) rfl))) lpL_plain ?_; rintro ⟨v3, R⟩ hR; refine j_perm bp_perm0 ?_; refine j_owns (v := v3) (n := R.length) (by (repeat (first | exact InL.here | apply InL.there))) ?_; rintro A5 c5 rfl hs5)
      | (refine gcall rfl rfl ?_; refine gF ?_; refine j_callN (f := 53) rfl rfl rfl rfl rfl rfl rfl (fun x : Value × List LRow => x.1) (fun x => x.2.map (·.2) = loopsF l d) lpL (fun w' hs => hlps2 w' (h.st hs)) lpL_plain ?_; rintro ⟨v6, R2⟩ hR2; refine j_perm bp_perm0 ?_; refine j_owns (v := v6) (n := R2.length) (by (repeat (first | exact InL.here | apply InL.there))) ?_; rintro A6 c6 rfl hs6)
      | (refine gcall rfl rfl ?_; refine gF ?_; refine j_call (f := 50) (ξ := List Int) (fun _ => .tuple #[]) (fun _ => True) _ rfl rfl rfl rfl rfl rfl rfl (fun w' hs => overI_c (l := pts ++ mksI 1 12) hs (by omega) (by rw [List.length_append, mksI_len, hm]) hb2 (by (repeat (first | exact InL.here | apply InL.there))) (fun _ => by (repeat (first | exact Upd.here | apply Upd.there)))) ?_; intro xs9 _)
      | (refine j_qe rfl rfl rfl ?_
         first
         | refine ⟨_, q_pick_t rfl rfl rfl, ?_⟩
         | refine ⟨_, q_pick_f rfl rfl rfl, ?_⟩
         | refine ⟨_, q_not rfl rfl, ?_⟩
         | refine ⟨_, q_index_nat rfl rfl rfl rfl rfl (by omega), ?_⟩
         | refine ⟨_, q_index_slice rfl rfl rfl rfl rfl (by omega), ?_⟩
         | refine ⟨_, q_index_arr rfl rfl rfl rfl rfl (by omega), ?_⟩
         | refine ⟨_, q_index_arr_ext rfl rfl rfl rfl rfl (by omega), ?_⟩
         | refine ⟨_, q_len_slice rfl rfl rfl rfl, ?_⟩
         | refine ⟨_, q_addu8 rfl rfl rfl (by omega), ?_⟩)
      | refine j_guard_undef rfl rfl rfl rfl rfl ?_
      | (refine j_guard rfl rfl rfl rfl rfl ?_ ?_ <;> intro hc <;> (first | (exact absurd hc (by decide)) | ((try simp only [decide_eq_true_eq, decide_eq_false_iff_not, Bool.not_eq_true', Bool.not_eq_false', Bool.not_true, Bool.not_false, ne_eq, Decidable.not_not] at hc) <;> first | (exfalso; omega) | (exact absurd trivial hc) | skip))))
   | (refine gSC ?_
      first
      | refine sc_seq ?_
      | refine sc_region ?_
      | (refine sc_cond rfl ?_ ?_ <;> intro hc <;> (first | (exact absurd hc (by decide)) | ((try simp only [decide_eq_true_eq, decide_eq_false_iff_not, Bool.not_eq_true', Bool.not_eq_false', Bool.not_true, Bool.not_false, ne_eq, Decidable.not_not] at hc) <;> first | (exfalso; omega) | (exact absurd trivial hc) | skip)))
      | refine sc_block ?_
      | refine sc_ret ?_
      | refine sc_exit ?_
      | refine sc_skip ?_)
   | (refine gSQ ?_
      first
      | refine sq_seq ?_
      | refine sq_blk ?_
      | refine sq_seq_ret ?_
      | refine sq_blk_ret ?_
      | refine sq_loop_ret ?_
      | refine sq_seq_exit ?_
      | refine sq_blk_hit ?_
      | refine sq_blk_miss rfl ?_
      | refine sq_loop_exit ?_
      | refine sq_ende (.inl rfl) rfl rfl ⟨_, (RVs.cons (RV.tmp rfl) (RVs.nil)), ?_⟩
      | refine sq_ende (.inr rfl) rfl rfl ⟨_, (RVs.cons (RV.tmp rfl) (RVs.nil)), ?_⟩)
   | refine j_nil ?_
   )
  refine sc_loop (ι := Nat) (fun i => i ≤ m) (fun i => m - i) (fun i => [(0, .slice A n c), (1, .slice B m bc), (2, .int .i64 p), (3, .int .i64 d), (11, .slice A1 T.length c1), (12, .int .i64 0), (13, .slice A5 R.length c5), (14, .int .i64 0), (15, .bool true), (16, .bool true), (17, .int .i64 0), (18, .bool (decide (knF p d (pts.take i) = 1))), (77, .slice B m bc), (78, .int .i64 m), (79, .int .i64 i)]) (fun _ => .own (.slice A1 T.length c1) 3 1 T.length (T.flatMap intC) :: .own (.slice A5 R.length c5) 60 1 R.length (R.flatMap lrC) :: rowsI R) 0 (by show 0 ≤ m; omega) (by repeat (first | exact FSub.nil | refine FSub.cons rfl ?_ | refine FSub.conse rfl (by congr 1; first | omega | (rw [decide_eq_true_eq]; omega) | (symm; rw [decide_eq_true_eq]; omega) | (rw [decide_eq_false_iff_not]; omega) | (symm; rw [decide_eq_false_iff_not]; omega) | (rw [decide_eq_decide]; omega)) ?_)) (by repeat (first | exact LSub.refl | refine LSub.cons (by repeat (first | exact Rem.here | apply Rem.there)) ?_ | apply LSub.skip)) ?_
  rintro i hi
  dsimp only at hi ⊢
  by_cases hlt : i < m
  · obtain ⟨x, hx⟩ : ∃ x, pts[i]? = some x := ⟨_, List.getElem?_eq_getElem (by omega)⟩
    obtain ⟨b0, rfl, hX⟩ := hP i x hx
    have hk1 := hks i x hx
    generalize hg1 : knF p d (pts.take i) = k0 at *
    generalize hg2 : knF p d (pts.take (i + 1)) = k9 at *
    repeat' (first
     | (refine gJ ?_
        first
        | refine jmv rfl rfl rfl rfl rfl ?_
        | (refine gload rfl rfl ?_
           refine j_qe rfl rfl rfl ?_
           first
           | refine ⟨_, q_load_own rfl rfl rfl rfl (by (repeat (first | exact InL.here | apply InL.there))) (by first | rfl | assumption), ?_⟩
           | refine ⟨_, q_loadA_own rfl rfl rfl rfl (by (repeat (first | exact InL.here | apply InL.there))) (by rfl), ?_⟩
           | refine ⟨_, q_loadA_ext rfl rfl rfl rfl ⟨by assumption, (by first | exact id | assumption)⟩ (by rfl), ?_⟩
           | refine ⟨_, q_load_ext rfl rfl rfl rfl ⟨by assumption, (by first | exact id | assumption)⟩ (by first | rfl | assumption), ?_⟩
           | refine ⟨_, q_load_extb rfl rfl rfl rfl ⟨by assumption, (by first | exact id | assumption)⟩ (by rfl), ?_⟩
           | refine ⟨_, q_loadA_extb rfl rfl rfl rfl ⟨by assumption, (by first | exact id | assumption)⟩ (by rfl), ?_⟩
           | refine ⟨_, q_load_ext0 rfl rfl rfl rfl ⟨by assumption, (by first | exact id | assumption)⟩ (by rfl), ?_⟩)
        | refine jcmp rfl rfl rfl rfl rfl rfl rfl ?_
        | refine jar rfl rfl rfl rfl rfl rfl rfl (by omega) ?_
        | refine jextract rfl rfl rfl rfl rfl rfl ?_
        | (refine j_qe rfl rfl rfl ?_
           first
           | refine ⟨_, q_pick_t rfl rfl rfl, ?_⟩
           | refine ⟨_, q_pick_f rfl rfl rfl, ?_⟩
           | refine ⟨_, q_not rfl rfl, ?_⟩
           | refine ⟨_, q_index_nat rfl rfl rfl rfl rfl (by omega), ?_⟩
           | refine ⟨_, q_index_slice rfl rfl rfl rfl rfl (by omega), ?_⟩
           | refine ⟨_, q_index_arr rfl rfl rfl rfl rfl (by omega), ?_⟩
           | refine ⟨_, q_index_arr_ext rfl rfl rfl rfl rfl (by omega), ?_⟩
           | refine ⟨_, q_len_slice rfl rfl rfl rfl, ?_⟩
           | refine ⟨_, q_addu8 rfl rfl rfl (by omega), ?_⟩)
        | refine j_guard_undef rfl rfl rfl rfl rfl ?_
        | (refine j_guard rfl rfl rfl rfl rfl ?_ ?_ <;> intro hc <;> (first | (exact absurd hc (by decide)) | ((try simp only [decide_eq_true_eq, decide_eq_false_iff_not, Bool.not_eq_true', Bool.not_eq_false', Bool.not_true, Bool.not_false, ne_eq, Decidable.not_not] at hc) <;> first | (exfalso; omega) | (exact absurd trivial hc) | skip))))
     | (refine gSC ?_
        first
        | refine sc_seq ?_
        | refine sc_region ?_
        | (refine sc_cond rfl ?_ ?_ <;> intro hc <;> (first | (exact absurd hc (by decide)) | ((try simp only [decide_eq_true_eq, decide_eq_false_iff_not, Bool.not_eq_true', Bool.not_eq_false', Bool.not_true, Bool.not_false, ne_eq, Decidable.not_not] at hc) <;> first | (exfalso; omega) | (exact absurd trivial hc) | skip)))
        | refine sc_block ?_
        | refine sc_ret ?_
        | refine sc_exit ?_
        | refine sc_skip ?_)
     | (refine gSQ ?_
        first
        | refine sq_seq ?_
        | refine sq_blk ?_
        | refine sq_seq_ret ?_
        | refine sq_blk_ret ?_
        | refine sq_loop_ret ?_
        | refine sq_seq_exit ?_
        | refine sq_blk_hit ?_
        | refine sq_blk_miss rfl ?_
        | refine sq_loop_exit ?_
        | refine sq_ende (.inl rfl) rfl rfl ⟨_, (RVs.cons (RV.tmp rfl) (RVs.nil)), ?_⟩
        | refine sq_ende (.inr rfl) rfl rfl ⟨_, (RVs.cons (RV.tmp rfl) (RVs.nil)), ?_⟩)
     | refine j_nil ?_
     )
    all_goals exact sq_loop (i + 1) (by show i + 1 ≤ m; omega) (by show m - (i + 1) < m - i; omega) (by (try dsimp only); rw [hg2]; exact (by repeat (first | exact FSub.nil | refine FSub.cons rfl ?_ | refine FSub.conse rfl (by congr 1; first | omega | (rw [decide_eq_true_eq]; omega) | (symm; rw [decide_eq_true_eq]; omega) | (rw [decide_eq_false_iff_not]; omega) | (symm; rw [decide_eq_false_iff_not]; omega) | (rw [decide_eq_decide]; omega)) ?_))) (by repeat (first | exact LSub.refl | refine LSub.cons (by repeat (first | exact Rem.here | apply Rem.there)) ?_ | apply LSub.skip))
  · rw [hkf i (by omega)]
    rw [hkn]
    repeat' (first
     | (refine gJ ?_
        first
        | refine jmv rfl rfl rfl rfl rfl ?_
        | (refine gload rfl rfl ?_
           refine j_qe rfl rfl rfl ?_
           first
           | refine ⟨_, q_load_own rfl rfl rfl rfl (by (repeat (first | exact InL.here | apply InL.there))) (by first | rfl | assumption), ?_⟩
           | refine ⟨_, q_loadA_own rfl rfl rfl rfl (by (repeat (first | exact InL.here | apply InL.there))) (by rfl), ?_⟩
           | refine ⟨_, q_loadA_ext rfl rfl rfl rfl ⟨by assumption, (by first | exact id | assumption)⟩ (by rfl), ?_⟩
           | refine ⟨_, q_load_ext rfl rfl rfl rfl ⟨by assumption, (by first | exact id | assumption)⟩ (by first | rfl | assumption), ?_⟩
           | refine ⟨_, q_load_extb rfl rfl rfl rfl ⟨by assumption, (by first | exact id | assumption)⟩ (by rfl), ?_⟩
           | refine ⟨_, q_loadA_extb rfl rfl rfl rfl ⟨by assumption, (by first | exact id | assumption)⟩ (by rfl), ?_⟩
           | refine ⟨_, q_load_ext0 rfl rfl rfl rfl ⟨by assumption, (by first | exact id | assumption)⟩ (by rfl), ?_⟩)
        | refine jcmp rfl rfl rfl rfl rfl rfl rfl ?_
        | refine jar rfl rfl rfl rfl rfl rfl rfl (by omega) ?_
        | refine jextract rfl rfl rfl rfl rfl rfl ?_
        | (refine gcall rfl rfl ?_
           first
           | (refine j_qc (f := 37) rfl rfl rfl rfl rfl rfl rfl ?_; refine ⟨_, (fun w' _ => hfew w'), ?_⟩)
           | (refine j_qc (f := 38) rfl rfl rfl rfl rfl rfl rfl ?_; refine ⟨_, (fun w' _ => awake_c w'), ?_⟩)
           | (refine j_qc (f := 52) rfl rfl rfl rfl rfl rfl rfl ?_; refine ⟨_, (fun w' hs => sameRows_c A5 c5 R A6 c6 R2 w' (hRlen R hR) (hR.trans hR2.symm) (hRrow R hR) (rs_own (f := lrC) (fun _ => rfl) hs (by (repeat (first | exact InL.here | apply InL.there))) rfl rfl) (rs_own (f := lrC) (fun _ => rfl) hs (by (repeat (first | exact InL.here | apply InL.there))) rfl rfl) (rowsI_own hs (fun x hx => by simp only [List.mem_append, List.mem_cons]; simp only [hx, true_or, or_true])) (rowsI_own hs (fun x hx => by simp only [List.mem_append, List.mem_cons]; simp only [hx, true_or, or_true]))), ?_⟩)
           | (refine j_qc (f := 26) rfl rfl rfl rfl rfl rfl rfl ?_; refine ⟨_, (fun w' hs => hkept ad c2 w' hc2 (rs_own (f := odC) (l := l ++ mksO 1 12) (fun _ => rfl) hs (by (repeat (first | exact InL.here | apply InL.there))) (by rw [List.length_append, mksO_len, hn]) rfl) (h.st hs)), ?_⟩)
           | (refine j_qc (f := 49) rfl rfl rfl rfl rfl rfl rfl ?_; refine ⟨_, (fun w' hs => hkeptI bd b2 w' hb2 (rs_own (f := intC) (l := pts ++ mksI 1 12) (fun _ => rfl) hs (by (repeat (first | exact InL.here | apply InL.there))) (by rw [List.length_append, mksI_len, hm]) rfl) (hP.st hs)), ?_⟩)
           | (refine j_qc (f := 21) rfl rfl rfl rfl rfl rfl rfl ?_; refine ⟨_, (fun w' hs => hright w' (h.st hs)), ?_⟩)
           | (refine j_qc (f := 25) rfl rfl rfl rfl rfl rfl rfl ?_; refine ⟨_, (fun w' hs => hright1 w' (h.st hs)), ?_⟩)
           | (refine j_qc (f := 45) rfl rfl rfl rfl rfl rfl rfl ?_; refine ⟨_, (fun w' hs => hsm A1 c1 A2 c2' w' (rs_own (f := intC) (fun _ => rfl) hs (by (repeat (first | exact InL.here | apply InL.there))) rfl rfl) (rs_own (f := intC) (fun _ => rfl) hs (by (repeat (first | exact InL.here | apply InL.there))) rfl rfl)), ?_⟩))
        | (refine gcall rfl rfl ?_; refine gF ?_; refine j_callN (f := 20) rfl rfl rfl rfl rfl rfl rfl (fun x : Addr × Nat => .slice (some x.1) n x.2) (fun x => n + 12 ≤ x.2) (fun x => [.own (.slice (some x.1) (n + 12) x.2) 30 6 (n + 12) ((l ++ mksO 1 12).flatMap odC)]) (fun w' hs => hlent w' (h.st hs)) (fun _ => trivial) ?_; rintro ⟨ad, c2⟩ hc2)
        | (refine gcall rfl rfl ?_; refine gF ?_; refine j_callN (f := 47) rfl rfl rfl rfl rfl rfl rfl (fun x : Addr × Nat => .slice (some x.1) m x.2) (fun x => m + 12 ≤ x.2) (fun x => [.own (.slice (some x.1) (m + 12) x.2) 3 1 (m + 12) ((pts ++ mksI 1 12).flatMap intC)]) (fun w' hs => hlentI w' (hP.st hs)) (fun _ => trivial) ?_; rintro ⟨bd, b2⟩ hb2)
        | (refine gcall rfl rfl ?_; refine gF ?_; refine j_callN (f := 48) rfl rfl rfl rfl rfl rfl rfl (fun v : Value => .tuple #[v, .int .i64 0]) (fun _ => True) (fun v => [.own v 3 1 T.length (T.flatMap intC)]) (fun w' hs => hsrc (some ad) c2 (some bd) b2 w' (rs_head (rs_own (f := odC) (l := l ++ mksO 1 12) (fun _ => rfl) hs (by (repeat (first | exact InL.here | apply InL.there))) (by rw [List.length_append, mksO_len, hn]) rfl)) (rs_headI (rs_own (f := intC) (l := pts ++ mksI 1 12) (fun _ => rfl) hs (by (repeat (first | exact InL.here | apply InL.there))) (by rw [List.length_append, mksI_len, hm]) rfl))) (fun _ => trivial) ?_; rintro v1 _; refine j_owns (v := v1) (n := T.length) (by (repeat (first | exact InL.here | apply InL.there))) ?_; rintro A1 c1 rfl hs1)
        | (refine gcall rfl rfl ?_; refine gF ?_; refine j_callN (f := 44) rfl rfl rfl rfl rfl rfl rfl lpV (fun x => x.2.map (·.2) = loopsF l d) lpL (fun w' hs => hlps (some ad) c2 w' (rs_head (rs_own (f := odC) (l := l ++ mksO 1 12) (fun _ => rfl) hs (by (repeat (first | exact InL.here | apply InL.there))) (by rw [List.length_append, mksO_len, hn]) rfl))) lpL_plain ?_; rintro ⟨v3, R⟩ hR; refine j_perm bp_perm0 ?_; refine j_owns (v := v3) (n := R.length) (by (repeat (first | exact InL.here | apply InL.there))) ?_; rintro A5 c5 rfl hs5)
        | (refine gcall rfl rfl ?_; refine gF ?_; refine j_callN (f := 53) rfl rfl rfl rfl rfl rfl rfl (fun x : Value × List LRow => x.1) (fun x => x.2.map (·.2) = loopsF l d) lpL (fun w' hs => hlps2 w' (h.st hs)) lpL_plain ?_; rintro ⟨v6, R2⟩ hR2; refine j_perm bp_perm0 ?_; refine j_owns (v := v6) (n := R2.length) (by (repeat (first | exact InL.here | apply InL.there))) ?_; rintro A6 c6 rfl hs6)
        | (refine gcall rfl rfl ?_; refine gF ?_; refine j_call (f := 50) (ξ := List Int) (fun _ => .tuple #[]) (fun _ => True) _ rfl rfl rfl rfl rfl rfl rfl (fun w' hs => overI_c (l := pts ++ mksI 1 12) hs (by omega) (by rw [List.length_append, mksI_len, hm]) hb2 (by (repeat (first | exact InL.here | apply InL.there))) (fun _ => by (repeat (first | exact Upd.here | apply Upd.there)))) ?_; intro xs9 _)
        | (refine gcall rfl rfl ?_; refine gF ?_; refine j_callN (f := 51) rfl rfl rfl rfl rfl rfl rfl (fun v : Value => v) (fun _ => True) (fun v => [.own v 3 1 T.length (T.flatMap intC)]) (fun w' hs => hsrc2 w' (h.st hs) (hP.st hs)) (fun _ => trivial) ?_; rintro v2 _; refine j_owns (v := v2) (n := T.length) (by (repeat (first | exact InL.here | apply InL.there))) ?_; rintro A2 c2' rfl hs2')
        | (refine j_qe rfl rfl rfl ?_
           first
           | refine ⟨_, q_pick_t rfl rfl rfl, ?_⟩
           | refine ⟨_, q_pick_f rfl rfl rfl, ?_⟩
           | refine ⟨_, q_not rfl rfl, ?_⟩
           | refine ⟨_, q_index_nat rfl rfl rfl rfl rfl (by omega), ?_⟩
           | refine ⟨_, q_index_slice rfl rfl rfl rfl rfl (by omega), ?_⟩
           | refine ⟨_, q_index_arr rfl rfl rfl rfl rfl (by omega), ?_⟩
           | refine ⟨_, q_index_arr_ext rfl rfl rfl rfl rfl (by omega), ?_⟩
           | refine ⟨_, q_len_slice rfl rfl rfl rfl, ?_⟩
           | refine ⟨_, q_addu8 rfl rfl rfl (by omega), ?_⟩)
        | refine j_guard_undef rfl rfl rfl rfl rfl ?_
        | (refine j_guard rfl rfl rfl rfl rfl ?_ ?_ <;> intro hc <;> (first | (exact absurd hc (by decide)) | ((try simp only [decide_eq_true_eq, decide_eq_false_iff_not, Bool.not_eq_true', Bool.not_eq_false', Bool.not_true, Bool.not_false, ne_eq, Decidable.not_not] at hc) <;> first | (exfalso; omega) | (exact absurd trivial hc) | skip))))
     | (refine gSC ?_
        first
        | refine sc_seq ?_
        | refine sc_region ?_
        | (refine sc_cond rfl ?_ ?_ <;> intro hc <;> (first | (exact absurd hc (by decide)) | ((try simp only [decide_eq_true_eq, decide_eq_false_iff_not, Bool.not_eq_true', Bool.not_eq_false', Bool.not_true, Bool.not_false, ne_eq, Decidable.not_not] at hc) <;> first | (exfalso; omega) | (exact absurd trivial hc) | skip)))
        | refine sc_block ?_
        | refine sc_ret ?_
        | refine sc_exit ?_
        | refine sc_skip ?_)
     | (refine gSQ ?_
        first
        | refine sq_seq ?_
        | refine sq_blk ?_
        | refine sq_seq_ret ?_
        | refine sq_blk_ret ?_
        | refine sq_loop_ret ?_
        | refine sq_seq_exit ?_
        | refine sq_blk_hit ?_
        | refine sq_blk_miss rfl ?_
        | refine sq_loop_exit ?_
        | refine sq_ende (.inl rfl) rfl rfl ⟨_, (RVs.cons (RV.tmp rfl) (RVs.nil)), ?_⟩
        | refine sq_ende (.inr rfl) rfl rfl ⟨_, (RVs.cons (RV.tmp rfl) (RVs.nil)), ?_⟩)
     | refine j_nil ?_
     )
    all_goals ((intro w' hS; refine ⟨?_, hS.below⟩; simp only [pack]); done)
theorem Lists_b (A : Option Addr) (c : Nat) (l : List Od) (B : Option Addr) (bc : Nat) (pts : List Int) (p d : Int) (w : World) (hs : Sl A l.length c) (hs2 : Sl B pts.length bc) (hp : -9223372036854775808 ≤ p ∧ p ≤ 9223372036854775807) (hd : -9223372036854775808 ≤ d ∧ d ≤ 9223372036854775807) (hpo : ∀ x ∈ pts, -9223372036854775808 ≤ x ∧ x ≤ 9223372036854775807) (h : RS w 6 odC A l) (hP : RS w 1 intC B pts) (hl60 : l.length ≤ 60) (hm10 : pts.length ≤ 1010) (hr : rightB l = true) (hdd : dayI d) (hbad : ¬ (idI p ∧ pts.length ≤ 1000 ∧ allI pts = true)) :
    Calls Try.prog 16 #[.slice A l.length c, .slice B pts.length bc, .int .i64 p, .int .i64 d] w fun e w' => e = .returned (.bool true) ∧ Below w.heap.size w w' := by
  have hlent := fun w' h' => lentO_c A c l w' (by omega) hs h'
  have hkept := fun ad c2 w' h1 h2 h3 => keptO_c ad c2 A c l w' (by omega) h1 h2 h3
  have hlentI := fun w' h' => lentI_c B bc pts w' (by omega) hs2 h'
  have hkeptI := fun ad c2 w' h1 h2 h3 => keptI_c ad c2 B bc pts w' (by omega) h1 h2 h3
  have hright := fun w' h' => right2_c A c l w' (by omega) h'
  have hright1 := fun w' h' => Right_c A c l w' (by omega) h'
  have hfew := fun w' => few_c A l.length c w'
  rw [decide_eq_true (by omega)] at hfew
  have hkz := kn_zero p d pts
  have hks := fun i x h => kn_step p d (l := pts) (i := i) (x := x) h
  have hkf : ∀ i, pts.length ≤ i → pts.take i = pts := fun i hi => List.take_of_length_le hi
  have hrl := (rightB_iff l).1 hr
  have hlps := fun A c w' h' => Loops_c A c l d w' (by omega) hr hdd h'
  have hlps2 := fun w' h' => Loops2_c A c l d w' hrl h'
  have hRlen : ∀ R : List LRow, R.map (·.2) = loopsF l d → R.length ≤ 1000 := fun R hR => by
    have h1 : (loopsF l d).length = R.length := by rw [← hR, List.length_map]
    have h2 : (loopsF l d).length ≤ (ptsF l d).length := by unfold loopsF loopsOf; rw [List.length_map]; exact List.length_filter_le _ _
    have h3 := ptsF_len l d
    omega
  have hRrow : ∀ R : List LRow, R.map (·.2) = loopsF l d → ∀ q ∈ R, q.2.length ≤ 1000 := fun R hR q hq => by
    have h1 : q.2 ∈ loopsF l d := by rw [← hR]; exact List.mem_map.2 ⟨q, hq, rfl⟩
    obtain ⟨x, _, _, e⟩ := mem_loopsF.1 h1
    have := way_len l x d
    rw [e] at this
    omega
  have hsrc := fun A c B bc w' h1 h2 => Sources_c A c l B bc pts p d w' (by omega) (by omega) h1 h2
  obtain ⟨k, hS, hk1, hk2⟩ : ∃ k, sourcesF l pts p d = ([], k) ∧ (1000 < pts.length → k = 5) ∧ (pts.length ≤ 1000 → k = 2) := by
    unfold sourcesF
    rw [if_neg (fun g => g hr)]
    by_cases g : 1000 < pts.length
    · rw [if_pos g]; exact ⟨5, rfl, fun _ => rfl, fun g2 => by omega⟩
    · rw [if_neg g]
      refine ⟨2, ?_, fun g2 => absurd g2 g, fun _ => rfl⟩
      by_cases g1 : idI p ∧ dayI d
      · rw [if_neg (fun g2 => g2 g1), if_pos (fun g2 => hbad ⟨g1.1, by omega, g2⟩)]
      · rw [if_pos g1]
  rw [hS] at hsrc
  rw [hr] at hright hright1
  have hkn : 1000 < pts.length ∨ ¬ knF p d pts = 1 := by
    by_cases g : 1000 < pts.length
    · exact .inl g
    · right
      unfold knF
      rw [if_neg (fun g2 => hbad ⟨g2.2.1, by omega, g2.2.2⟩)]
      decide
  have hdb : 0 ≤ d ∧ d ≤ 730484 := hdd
  obtain ⟨n, hn⟩ : ∃ n, l.length = n := ⟨_, rfl⟩
  obtain ⟨m, hm⟩ : ∃ m, pts.length = m := ⟨_, rfl⟩
  rw [hn] at hlent hkept hright hright1 hfew hlps hlps2 hsrc hl60 ⊢
  rw [hm] at hlentI hkeptI hsrc hm10 hkf hk1 hk2 hkn ⊢
  refine eng_start (n := 161) (args := [.slice A n c, .slice B m bc, .int .i64 p, .int .i64 d]) tab tab_ok fns fns_ok [.tmp 8] Try.func16 rfl rfl rfl rfl ?_
  repeat' (first
   | (refine gJ ?_
      first
      | refine jmv rfl rfl rfl rfl rfl ?_
      | (refine gload rfl rfl ?_
         refine j_qe rfl rfl rfl ?_
         first
         | refine ⟨_, q_load_own rfl rfl rfl rfl (by (repeat (first | exact InL.here | apply InL.there))) (by first | rfl | assumption), ?_⟩
         | refine ⟨_, q_loadA_own rfl rfl rfl rfl (by (repeat (first | exact InL.here | apply InL.there))) (by rfl), ?_⟩
         | refine ⟨_, q_loadA_ext rfl rfl rfl rfl ⟨by assumption, (by first | exact id | assumption)⟩ (by rfl), ?_⟩
         | refine ⟨_, q_load_ext rfl rfl rfl rfl ⟨by assumption, (by first | exact id | assumption)⟩ (by first | rfl | assumption), ?_⟩
         | refine ⟨_, q_load_extb rfl rfl rfl rfl ⟨by assumption, (by first | exact id | assumption)⟩ (by rfl), ?_⟩
         | refine ⟨_, q_loadA_extb rfl rfl rfl rfl ⟨by assumption, (by first | exact id | assumption)⟩ (by rfl), ?_⟩
         | refine ⟨_, q_load_ext0 rfl rfl rfl rfl ⟨by assumption, (by first | exact id | assumption)⟩ (by rfl), ?_⟩)
      | refine jcmp rfl rfl rfl rfl rfl rfl rfl ?_
      | refine jar rfl rfl rfl rfl rfl rfl rfl (by omega) ?_
      | refine jextract rfl rfl rfl rfl rfl rfl ?_
      | (refine gcall rfl rfl ?_
         first
         | (refine j_qc (f := 37) rfl rfl rfl rfl rfl rfl rfl ?_; refine ⟨_, (fun w' _ => hfew w'), ?_⟩)
         | (refine j_qc (f := 38) rfl rfl rfl rfl rfl rfl rfl ?_; refine ⟨_, (fun w' _ => awake_c w'), ?_⟩)
         | (refine j_qc (f := 52) rfl rfl rfl rfl rfl rfl rfl ?_; refine ⟨_, (fun w' hs => sameRows_c A5 c5 R A6 c6 R2 w' (hRlen R hR) (hR.trans hR2.symm) (hRrow R hR) (rs_own (f := lrC) (fun _ => rfl) hs (by (repeat (first | exact InL.here | apply InL.there))) rfl rfl) (rs_own (f := lrC) (fun _ => rfl) hs (by (repeat (first | exact InL.here | apply InL.there))) rfl rfl) (rowsI_own hs (fun x hx => by simp only [List.mem_append, List.mem_cons]; simp only [hx, true_or, or_true])) (rowsI_own hs (fun x hx => by simp only [List.mem_append, List.mem_cons]; simp only [hx, true_or, or_true]))), ?_⟩)
         | (refine j_qc (f := 26) rfl rfl rfl rfl rfl rfl rfl ?_; refine ⟨_, (fun w' hs => hkept ad c2 w' hc2 (rs_own (f := odC) (l := l ++ mksO 1 12) (fun _ => rfl) hs (by (repeat (first | exact InL.here | apply InL.there))) (by rw [List.length_append, mksO_len, hn]) rfl) (h.st hs)), ?_⟩)
         | (refine j_qc (f := 49) rfl rfl rfl rfl rfl rfl rfl ?_; refine ⟨_, (fun w' hs => hkeptI bd b2 w' hb2 (rs_own (f := intC) (l := pts ++ mksI 1 12) (fun _ => rfl) hs (by (repeat (first | exact InL.here | apply InL.there))) (by rw [List.length_append, mksI_len, hm]) rfl) (hP.st hs)), ?_⟩)
         | (refine j_qc (f := 21) rfl rfl rfl rfl rfl rfl rfl ?_; refine ⟨_, (fun w' hs => hright w' (h.st hs)), ?_⟩)
         | (refine j_qc (f := 25) rfl rfl rfl rfl rfl rfl rfl ?_; refine ⟨_, (fun w' hs => hright1 w' (h.st hs)), ?_⟩))
      | (refine gcall rfl rfl ?_; refine gF ?_; refine j_callN (f := 20) rfl rfl rfl rfl rfl rfl rfl (fun x : Addr × Nat => .slice (some x.1) n x.2) (fun x => n + 12 ≤ x.2) (fun x => [.own (.slice (some x.1) (n + 12) x.2) 30 6 (n + 12) ((l ++ mksO 1 12).flatMap odC)]) (fun w' hs => hlent w' (h.st hs)) (fun _ => trivial) ?_; rintro ⟨ad, c2⟩ hc2)
      | (refine gcall rfl rfl ?_; refine gF ?_; refine j_callN (f := 47) rfl rfl rfl rfl rfl rfl rfl (fun x : Addr × Nat => .slice (some x.1) m x.2) (fun x => m + 12 ≤ x.2) (fun x => [.own (.slice (some x.1) (m + 12) x.2) 3 1 (m + 12) ((pts ++ mksI 1 12).flatMap intC)]) (fun w' hs => hlentI w' (hP.st hs)) (fun _ => trivial) ?_; rintro ⟨bd, b2⟩ hb2)
      | (refine gcall rfl rfl ?_; refine gF ?_; refine j_callN (f := 48) rfl rfl rfl rfl rfl rfl rfl (fun v : Value => .tuple #[v, .int .i64 k]) (fun _ => True) (fun v => [.own v 3 1 ([] : List Int).length (([] : List Int).flatMap intC)]) (fun w' hs => hsrc (some ad) c2 (some bd) b2 w' (rs_head (rs_own (f := odC) (l := l ++ mksO 1 12) (fun _ => rfl) hs (by (repeat (first | exact InL.here | apply InL.there))) (by rw [List.length_append, mksO_len, hn]) rfl)) (rs_headI (rs_own (f := intC) (l := pts ++ mksI 1 12) (fun _ => rfl) hs (by (repeat (first | exact InL.here | apply InL.there))) (by rw [List.length_append, mksI_len, hm]) rfl))) (fun _ => trivial) ?_; rintro v1 _; refine j_owns (v := v1) (n := ([] : List Int).length) (by (repeat (first | exact InL.here | apply InL.there))) ?_; rintro A1 c1 rfl hs1)
      | (refine gcall rfl rfl ?_; refine gF ?_; refine j_callN (f := 44) rfl rfl rfl rfl rfl rfl rfl lpV (fun x => x.2.map (·.2) = loopsF l d) lpL (fun w' hs => hlps (some ad) c2 w' (rs_head (rs_own (f := odC) (l := l ++ mksO 1 12) (fun _ => rfl) hs (by (repeat (first | exact InL.here | apply InL.there))) (by rw [List.length_append, mksO_len, hn]) rfl))) lpL_plain ?_; rintro ⟨v3, R⟩ hR; refine j_perm bp_perm0 ?_; refine j_owns (v := v3) (n := R.length) (by (repeat (first | exact InL.here | apply InL.there))) ?_; rintro A5 c5 rfl hs5)
      | (refine gcall rfl rfl ?_; refine gF ?_; refine j_callN (f := 53) rfl rfl rfl rfl rfl rfl rfl (fun x : Value × List LRow => x.1) (fun x => x.2.map (·.2) = loopsF l d) lpL (fun w' hs => hlps2 w' (h.st hs)) lpL_plain ?_; rintro ⟨v6, R2⟩ hR2; refine j_perm bp_perm0 ?_; refine j_owns (v := v6) (n := R2.length) (by (repeat (first | exact InL.here | apply InL.there))) ?_; rintro A6 c6 rfl hs6)
      | (refine gcall rfl rfl ?_; refine gF ?_; refine j_call (f := 50) (ξ := List Int) (fun _ => .tuple #[]) (fun _ => True) _ rfl rfl rfl rfl rfl rfl rfl (fun w' hs => overI_c (l := pts ++ mksI 1 12) hs (by omega) (by rw [List.length_append, mksI_len, hm]) hb2 (by (repeat (first | exact InL.here | apply InL.there))) (fun _ => by (repeat (first | exact Upd.here | apply Upd.there)))) ?_; intro xs9 _)
      | (refine j_qe rfl rfl rfl ?_
         first
         | refine ⟨_, q_pick_t rfl rfl rfl, ?_⟩
         | refine ⟨_, q_pick_f rfl rfl rfl, ?_⟩
         | refine ⟨_, q_not rfl rfl, ?_⟩
         | refine ⟨_, q_index_nat rfl rfl rfl rfl rfl (by omega), ?_⟩
         | refine ⟨_, q_index_slice rfl rfl rfl rfl rfl (by omega), ?_⟩
         | refine ⟨_, q_index_arr rfl rfl rfl rfl rfl (by omega), ?_⟩
         | refine ⟨_, q_index_arr_ext rfl rfl rfl rfl rfl (by omega), ?_⟩
         | refine ⟨_, q_len_slice rfl rfl rfl rfl, ?_⟩
         | refine ⟨_, q_addu8 rfl rfl rfl (by omega), ?_⟩)
      | refine j_guard_undef rfl rfl rfl rfl rfl ?_
      | (refine j_guard rfl rfl rfl rfl rfl ?_ ?_ <;> intro hc <;> (first | (exact absurd hc (by decide)) | ((try simp only [decide_eq_true_eq, decide_eq_false_iff_not, Bool.not_eq_true', Bool.not_eq_false', Bool.not_true, Bool.not_false, ne_eq, Decidable.not_not] at hc) <;> first | (exfalso; omega) | (exact absurd trivial hc) | skip))))
   | (refine gSC ?_
      first
      | refine sc_seq ?_
      | refine sc_region ?_
      | (refine sc_cond rfl ?_ ?_ <;> intro hc <;> (first | (exact absurd hc (by decide)) | ((try simp only [decide_eq_true_eq, decide_eq_false_iff_not, Bool.not_eq_true', Bool.not_eq_false', Bool.not_true, Bool.not_false, ne_eq, Decidable.not_not] at hc) <;> first | (exfalso; omega) | (exact absurd trivial hc) | skip)))
      | refine sc_block ?_
      | refine sc_ret ?_
      | refine sc_exit ?_
      | refine sc_skip ?_)
   | (refine gSQ ?_
      first
      | refine sq_seq ?_
      | refine sq_blk ?_
      | refine sq_seq_ret ?_
      | refine sq_blk_ret ?_
      | refine sq_loop_ret ?_
      | refine sq_seq_exit ?_
      | refine sq_blk_hit ?_
      | refine sq_blk_miss rfl ?_
      | refine sq_loop_exit ?_
      | refine sq_ende (.inl rfl) rfl rfl ⟨_, (RVs.cons (RV.tmp rfl) (RVs.nil)), ?_⟩
      | refine sq_ende (.inr rfl) rfl rfl ⟨_, (RVs.cons (RV.tmp rfl) (RVs.nil)), ?_⟩)
   | refine j_nil ?_
   )
  all_goals
    refine sc_loop (ι := Nat) (fun i => i ≤ m) (fun i => m - i) (fun i => [(0, .slice A n c), (1, .slice B m bc), (2, .int .i64 p), (3, .int .i64 d), (11, .slice A1 ([] : List Int).length c1), (12, .int .i64 k), (13, .slice A5 R.length c5), (14, .int .i64 0), (15, .bool true), (16, .bool true), (17, .int .i64 0), (18, .bool (decide (knF p d (pts.take i) = 1))), (77, .slice B m bc), (78, .int .i64 m), (79, .int .i64 i)]) (fun _ => .own (.slice A1 ([] : List Int).length c1) 3 1 ([] : List Int).length (([] : List Int).flatMap intC) :: .own (.slice A5 R.length c5) 60 1 R.length (R.flatMap lrC) :: rowsI R) 0 (by show 0 ≤ m; omega) (by repeat (first | exact FSub.nil | refine FSub.cons rfl ?_ | refine FSub.conse rfl (by congr 1; first | omega | (rw [decide_eq_true_eq]; omega) | (symm; rw [decide_eq_true_eq]; omega) | (rw [decide_eq_false_iff_not]; omega) | (symm; rw [decide_eq_false_iff_not]; omega) | (rw [decide_eq_decide]; omega)) ?_)) (by repeat (first | exact LSub.refl | refine LSub.cons (by repeat (first | exact Rem.here | apply Rem.there)) ?_ | apply LSub.skip)) ?_
    rintro i hi
    dsimp only at hi ⊢
    by_cases hlt : i < m
    · obtain ⟨x, hx⟩ : ∃ x, pts[i]? = some x := ⟨_, List.getElem?_eq_getElem (by omega)⟩
      obtain ⟨b0, rfl, hX⟩ := hP i x hx
      have hk1 := hks i x hx
      generalize hg1 : knF p d (pts.take i) = k0 at *
      generalize hg2 : knF p d (pts.take (i + 1)) = k9 at *
      repeat' (first
       | (refine gJ ?_
          first
          | refine jmv rfl rfl rfl rfl rfl ?_
          | (refine gload rfl rfl ?_
             refine j_qe rfl rfl rfl ?_
             first
             | refine ⟨_, q_load_own rfl rfl rfl rfl (by (repeat (first | exact InL.here | apply InL.there))) (by first | rfl | assumption), ?_⟩
             | refine ⟨_, q_loadA_own rfl rfl rfl rfl (by (repeat (first | exact InL.here | apply InL.there))) (by rfl), ?_⟩
             | refine ⟨_, q_loadA_ext rfl rfl rfl rfl ⟨by assumption, (by first | exact id | assumption)⟩ (by rfl), ?_⟩
             | refine ⟨_, q_load_ext rfl rfl rfl rfl ⟨by assumption, (by first | exact id | assumption)⟩ (by first | rfl | assumption), ?_⟩
             | refine ⟨_, q_load_extb rfl rfl rfl rfl ⟨by assumption, (by first | exact id | assumption)⟩ (by rfl), ?_⟩
             | refine ⟨_, q_loadA_extb rfl rfl rfl rfl ⟨by assumption, (by first | exact id | assumption)⟩ (by rfl), ?_⟩
             | refine ⟨_, q_load_ext0 rfl rfl rfl rfl ⟨by assumption, (by first | exact id | assumption)⟩ (by rfl), ?_⟩)
          | refine jcmp rfl rfl rfl rfl rfl rfl rfl ?_
          | refine jar rfl rfl rfl rfl rfl rfl rfl (by omega) ?_
          | refine jextract rfl rfl rfl rfl rfl rfl ?_
          | (refine j_qe rfl rfl rfl ?_
             first
             | refine ⟨_, q_pick_t rfl rfl rfl, ?_⟩
             | refine ⟨_, q_pick_f rfl rfl rfl, ?_⟩
             | refine ⟨_, q_not rfl rfl, ?_⟩
             | refine ⟨_, q_index_nat rfl rfl rfl rfl rfl (by omega), ?_⟩
             | refine ⟨_, q_index_slice rfl rfl rfl rfl rfl (by omega), ?_⟩
             | refine ⟨_, q_index_arr rfl rfl rfl rfl rfl (by omega), ?_⟩
             | refine ⟨_, q_index_arr_ext rfl rfl rfl rfl rfl (by omega), ?_⟩
             | refine ⟨_, q_len_slice rfl rfl rfl rfl, ?_⟩
             | refine ⟨_, q_addu8 rfl rfl rfl (by omega), ?_⟩)
          | refine j_guard_undef rfl rfl rfl rfl rfl ?_
          | (refine j_guard rfl rfl rfl rfl rfl ?_ ?_ <;> intro hc <;> (first | (exact absurd hc (by decide)) | ((try simp only [decide_eq_true_eq, decide_eq_false_iff_not, Bool.not_eq_true', Bool.not_eq_false', Bool.not_true, Bool.not_false, ne_eq, Decidable.not_not] at hc) <;> first | (exfalso; omega) | (exact absurd trivial hc) | skip))))
       | (refine gSC ?_
          first
          | refine sc_seq ?_
          | refine sc_region ?_
          | (refine sc_cond rfl ?_ ?_ <;> intro hc <;> (first | (exact absurd hc (by decide)) | ((try simp only [decide_eq_true_eq, decide_eq_false_iff_not, Bool.not_eq_true', Bool.not_eq_false', Bool.not_true, Bool.not_false, ne_eq, Decidable.not_not] at hc) <;> first | (exfalso; omega) | (exact absurd trivial hc) | skip)))
          | refine sc_block ?_
          | refine sc_ret ?_
          | refine sc_exit ?_
          | refine sc_skip ?_)
       | (refine gSQ ?_
          first
          | refine sq_seq ?_
          | refine sq_blk ?_
          | refine sq_seq_ret ?_
          | refine sq_blk_ret ?_
          | refine sq_loop_ret ?_
          | refine sq_seq_exit ?_
          | refine sq_blk_hit ?_
          | refine sq_blk_miss rfl ?_
          | refine sq_loop_exit ?_
          | refine sq_ende (.inl rfl) rfl rfl ⟨_, (RVs.cons (RV.tmp rfl) (RVs.nil)), ?_⟩
          | refine sq_ende (.inr rfl) rfl rfl ⟨_, (RVs.cons (RV.tmp rfl) (RVs.nil)), ?_⟩)
       | refine j_nil ?_
       )
      all_goals exact sq_loop (i + 1) (by show i + 1 ≤ m; omega) (by show m - (i + 1) < m - i; omega) (by (try dsimp only); rw [hg2]; exact (by repeat (first | exact FSub.nil | refine FSub.cons rfl ?_ | refine FSub.conse rfl (by congr 1; first | omega | (rw [decide_eq_true_eq]; omega) | (symm; rw [decide_eq_true_eq]; omega) | (rw [decide_eq_false_iff_not]; omega) | (symm; rw [decide_eq_false_iff_not]; omega) | (rw [decide_eq_decide]; omega)) ?_))) (by repeat (first | exact LSub.refl | refine LSub.cons (by repeat (first | exact Rem.here | apply Rem.there)) ?_ | apply LSub.skip))
    · rw [hkf i (by omega)]
      generalize knF p d pts = kz at *
      repeat' (first
       | (refine gJ ?_
          first
          | refine jmv rfl rfl rfl rfl rfl ?_
          | (refine gload rfl rfl ?_
             refine j_qe rfl rfl rfl ?_
             first
             | refine ⟨_, q_load_own rfl rfl rfl rfl (by (repeat (first | exact InL.here | apply InL.there))) (by first | rfl | assumption), ?_⟩
             | refine ⟨_, q_loadA_own rfl rfl rfl rfl (by (repeat (first | exact InL.here | apply InL.there))) (by rfl), ?_⟩
             | refine ⟨_, q_loadA_ext rfl rfl rfl rfl ⟨by assumption, (by first | exact id | assumption)⟩ (by rfl), ?_⟩
             | refine ⟨_, q_load_ext rfl rfl rfl rfl ⟨by assumption, (by first | exact id | assumption)⟩ (by first | rfl | assumption), ?_⟩
             | refine ⟨_, q_load_extb rfl rfl rfl rfl ⟨by assumption, (by first | exact id | assumption)⟩ (by rfl), ?_⟩
             | refine ⟨_, q_loadA_extb rfl rfl rfl rfl ⟨by assumption, (by first | exact id | assumption)⟩ (by rfl), ?_⟩
             | refine ⟨_, q_load_ext0 rfl rfl rfl rfl ⟨by assumption, (by first | exact id | assumption)⟩ (by rfl), ?_⟩)
          | refine jcmp rfl rfl rfl rfl rfl rfl rfl ?_
          | refine jar rfl rfl rfl rfl rfl rfl rfl (by omega) ?_
          | refine jextract rfl rfl rfl rfl rfl rfl ?_
          | (refine gcall rfl rfl ?_
             first
             | (refine j_qc (f := 37) rfl rfl rfl rfl rfl rfl rfl ?_; refine ⟨_, (fun w' _ => hfew w'), ?_⟩)
             | (refine j_qc (f := 38) rfl rfl rfl rfl rfl rfl rfl ?_; refine ⟨_, (fun w' _ => awake_c w'), ?_⟩)
             | (refine j_qc (f := 52) rfl rfl rfl rfl rfl rfl rfl ?_; refine ⟨_, (fun w' hs => sameRows_c A5 c5 R A6 c6 R2 w' (hRlen R hR) (hR.trans hR2.symm) (hRrow R hR) (rs_own (f := lrC) (fun _ => rfl) hs (by (repeat (first | exact InL.here | apply InL.there))) rfl rfl) (rs_own (f := lrC) (fun _ => rfl) hs (by (repeat (first | exact InL.here | apply InL.there))) rfl rfl) (rowsI_own hs (fun x hx => by simp only [List.mem_append, List.mem_cons]; simp only [hx, true_or, or_true])) (rowsI_own hs (fun x hx => by simp only [List.mem_append, List.mem_cons]; simp only [hx, true_or, or_true]))), ?_⟩)
             | (refine j_qc (f := 26) rfl rfl rfl rfl rfl rfl rfl ?_; refine ⟨_, (fun w' hs => hkept ad c2 w' hc2 (rs_own (f := odC) (l := l ++ mksO 1 12) (fun _ => rfl) hs (by (repeat (first | exact InL.here | apply InL.there))) (by rw [List.length_append, mksO_len, hn]) rfl) (h.st hs)), ?_⟩)
             | (refine j_qc (f := 49) rfl rfl rfl rfl rfl rfl rfl ?_; refine ⟨_, (fun w' hs => hkeptI bd b2 w' hb2 (rs_own (f := intC) (l := pts ++ mksI 1 12) (fun _ => rfl) hs (by (repeat (first | exact InL.here | apply InL.there))) (by rw [List.length_append, mksI_len, hm]) rfl) (hP.st hs)), ?_⟩)
             | (refine j_qc (f := 21) rfl rfl rfl rfl rfl rfl rfl ?_; refine ⟨_, (fun w' hs => hright w' (h.st hs)), ?_⟩)
             | (refine j_qc (f := 25) rfl rfl rfl rfl rfl rfl rfl ?_; refine ⟨_, (fun w' hs => hright1 w' (h.st hs)), ?_⟩))
          | (refine gcall rfl rfl ?_; refine gF ?_; refine j_callN (f := 20) rfl rfl rfl rfl rfl rfl rfl (fun x : Addr × Nat => .slice (some x.1) n x.2) (fun x => n + 12 ≤ x.2) (fun x => [.own (.slice (some x.1) (n + 12) x.2) 30 6 (n + 12) ((l ++ mksO 1 12).flatMap odC)]) (fun w' hs => hlent w' (h.st hs)) (fun _ => trivial) ?_; rintro ⟨ad, c2⟩ hc2)
          | (refine gcall rfl rfl ?_; refine gF ?_; refine j_callN (f := 47) rfl rfl rfl rfl rfl rfl rfl (fun x : Addr × Nat => .slice (some x.1) m x.2) (fun x => m + 12 ≤ x.2) (fun x => [.own (.slice (some x.1) (m + 12) x.2) 3 1 (m + 12) ((pts ++ mksI 1 12).flatMap intC)]) (fun w' hs => hlentI w' (hP.st hs)) (fun _ => trivial) ?_; rintro ⟨bd, b2⟩ hb2)
          | (refine gcall rfl rfl ?_; refine gF ?_; refine j_callN (f := 48) rfl rfl rfl rfl rfl rfl rfl (fun v : Value => .tuple #[v, .int .i64 k]) (fun _ => True) (fun v => [.own v 3 1 ([] : List Int).length (([] : List Int).flatMap intC)]) (fun w' hs => hsrc (some ad) c2 (some bd) b2 w' (rs_head (rs_own (f := odC) (l := l ++ mksO 1 12) (fun _ => rfl) hs (by (repeat (first | exact InL.here | apply InL.there))) (by rw [List.length_append, mksO_len, hn]) rfl)) (rs_headI (rs_own (f := intC) (l := pts ++ mksI 1 12) (fun _ => rfl) hs (by (repeat (first | exact InL.here | apply InL.there))) (by rw [List.length_append, mksI_len, hm]) rfl))) (fun _ => trivial) ?_; rintro v1 _; refine j_owns (v := v1) (n := ([] : List Int).length) (by (repeat (first | exact InL.here | apply InL.there))) ?_; rintro A1 c1 rfl hs1)
          | (refine gcall rfl rfl ?_; refine gF ?_; refine j_callN (f := 44) rfl rfl rfl rfl rfl rfl rfl lpV (fun x => x.2.map (·.2) = loopsF l d) lpL (fun w' hs => hlps (some ad) c2 w' (rs_head (rs_own (f := odC) (l := l ++ mksO 1 12) (fun _ => rfl) hs (by (repeat (first | exact InL.here | apply InL.there))) (by rw [List.length_append, mksO_len, hn]) rfl))) lpL_plain ?_; rintro ⟨v3, R⟩ hR; refine j_perm bp_perm0 ?_; refine j_owns (v := v3) (n := R.length) (by (repeat (first | exact InL.here | apply InL.there))) ?_; rintro A5 c5 rfl hs5)
          | (refine gcall rfl rfl ?_; refine gF ?_; refine j_callN (f := 53) rfl rfl rfl rfl rfl rfl rfl (fun x : Value × List LRow => x.1) (fun x => x.2.map (·.2) = loopsF l d) lpL (fun w' hs => hlps2 w' (h.st hs)) lpL_plain ?_; rintro ⟨v6, R2⟩ hR2; refine j_perm bp_perm0 ?_; refine j_owns (v := v6) (n := R2.length) (by (repeat (first | exact InL.here | apply InL.there))) ?_; rintro A6 c6 rfl hs6)
          | (refine gcall rfl rfl ?_; refine gF ?_; refine j_call (f := 50) (ξ := List Int) (fun _ => .tuple #[]) (fun _ => True) _ rfl rfl rfl rfl rfl rfl rfl (fun w' hs => overI_c (l := pts ++ mksI 1 12) hs (by omega) (by rw [List.length_append, mksI_len, hm]) hb2 (by (repeat (first | exact InL.here | apply InL.there))) (fun _ => by (repeat (first | exact Upd.here | apply Upd.there)))) ?_; intro xs9 _)
          | (refine j_qe rfl rfl rfl ?_
             first
             | refine ⟨_, q_pick_t rfl rfl rfl, ?_⟩
             | refine ⟨_, q_pick_f rfl rfl rfl, ?_⟩
             | refine ⟨_, q_not rfl rfl, ?_⟩
             | refine ⟨_, q_index_nat rfl rfl rfl rfl rfl (by omega), ?_⟩
             | refine ⟨_, q_index_slice rfl rfl rfl rfl rfl (by omega), ?_⟩
             | refine ⟨_, q_index_arr rfl rfl rfl rfl rfl (by omega), ?_⟩
             | refine ⟨_, q_index_arr_ext rfl rfl rfl rfl rfl (by omega), ?_⟩
             | refine ⟨_, q_len_slice rfl rfl rfl rfl, ?_⟩
             | refine ⟨_, q_addu8 rfl rfl rfl (by omega), ?_⟩)
          | refine j_guard_undef rfl rfl rfl rfl rfl ?_
          | (refine j_guard rfl rfl rfl rfl rfl ?_ ?_ <;> intro hc <;> (first | (exact absurd hc (by decide)) | ((try simp only [decide_eq_true_eq, decide_eq_false_iff_not, Bool.not_eq_true', Bool.not_eq_false', Bool.not_true, Bool.not_false, ne_eq, Decidable.not_not] at hc) <;> first | (exfalso; omega) | (exact absurd trivial hc) | skip))))
       | (refine gSC ?_
          first
          | refine sc_seq ?_
          | refine sc_region ?_
          | (refine sc_cond rfl ?_ ?_ <;> intro hc <;> (first | (exact absurd hc (by decide)) | ((try simp only [decide_eq_true_eq, decide_eq_false_iff_not, Bool.not_eq_true', Bool.not_eq_false', Bool.not_true, Bool.not_false, ne_eq, Decidable.not_not] at hc) <;> first | (exfalso; omega) | (exact absurd trivial hc) | skip)))
          | refine sc_block ?_
          | refine sc_ret ?_
          | refine sc_exit ?_
          | refine sc_skip ?_)
       | (refine gSQ ?_
          first
          | refine sq_seq ?_
          | refine sq_blk ?_
          | refine sq_seq_ret ?_
          | refine sq_blk_ret ?_
          | refine sq_loop_ret ?_
          | refine sq_seq_exit ?_
          | refine sq_blk_hit ?_
          | refine sq_blk_miss rfl ?_
          | refine sq_loop_exit ?_
          | refine sq_ende (.inl rfl) rfl rfl ⟨_, (RVs.cons (RV.tmp rfl) (RVs.nil)), ?_⟩
          | refine sq_ende (.inr rfl) rfl rfl ⟨_, (RVs.cons (RV.tmp rfl) (RVs.nil)), ?_⟩)
       | refine j_nil ?_
       )
      all_goals ((intro w' hS; refine ⟨?_, hS.below⟩; simp only [pack]); done)
theorem Lists_c (A : Option Addr) (c : Nat) (l : List Od) (B : Option Addr) (bc : Nat) (pts : List Int) (p d : Int) (w : World) (hs : Sl A l.length c) (hs2 : Sl B pts.length bc) (hp : -9223372036854775808 ≤ p ∧ p ≤ 9223372036854775807) (hd : -9223372036854775808 ≤ d ∧ d ≤ 9223372036854775807) (hpo : ∀ x ∈ pts, -9223372036854775808 ≤ x ∧ x ≤ 9223372036854775807) (h : RS w 6 odC A l) (hP : RS w 1 intC B pts) (hl60 : l.length ≤ 60) (hm10 : pts.length ≤ 1010) (hbad : ¬ (rightB l = true ∧ dayI d)) :
    Calls Try.prog 16 #[.slice A l.length c, .slice B pts.length bc, .int .i64 p, .int .i64 d] w fun e w' => e = .returned (.bool true) ∧ Below w.heap.size w w' := by
  have hlent := fun w' h' => lentO_c A c l w' (by omega) hs h'
  have hkept := fun ad c2 w' h1 h2 h3 => keptO_c ad c2 A c l w' (by omega) h1 h2 h3
  have hlentI := fun w' h' => lentI_c B bc pts w' (by omega) hs2 h'
  have hkeptI := fun ad c2 w' h1 h2 h3 => keptI_c ad c2 B bc pts w' (by omega) h1 h2 h3
  have hright := fun w' h' => right2_c A c l w' (by omega) h'
  have hright1 := fun w' h' => Right_c A c l w' (by omega) h'
  have hfew := fun w' => few_c A l.length c w'
  rw [decide_eq_true (by omega)] at hfew
  have hkz := kn_zero p d pts
  have hks := fun i x h => kn_step p d (l := pts) (i := i) (x := x) h
  have hkf : ∀ i, pts.length ≤ i → pts.take i = pts := fun i hi => List.take_of_length_le hi
  have hlps := fun A c w' h' => Loops_e A c l d w' (by omega) hbad h'
  have hsrc := fun A c B bc w' h1 h2 => Sources_c A c l B bc pts p d w' (by omega) (by omega) h1 h2
  obtain ⟨k, hS, hk0, hk1, hk2⟩ : ∃ k, sourcesF l pts p d = ([], k) ∧ (rightB l = false → k = 2) ∧ (rightB l = true → 1000 < pts.length → k = 5) ∧ (rightB l = true → pts.length ≤ 1000 → k = 2) := by
    unfold sourcesF
    by_cases hr : rightB l = true
    · rw [if_neg (fun g => g hr)]
      by_cases g : 1000 < pts.length
      · rw [if_pos g]
        exact ⟨5, rfl, fun h9 => by (rw [hr] at h9; cases h9), fun _ _ => rfl, fun _ g2 => by omega⟩
      · rw [if_neg g, if_pos (fun g2 => hbad ⟨hr, g2.2⟩)]
        exact ⟨2, rfl, fun _ => rfl, fun _ g2 => absurd g2 g, fun _ _ => rfl⟩
    · rw [if_pos hr]
      exact ⟨2, rfl, fun _ => rfl, fun h9 _ => absurd h9 hr, fun h9 _ => absurd h9 hr⟩
  rw [hS] at hsrc
  have hkn : rightB l = true → ¬ knF p d pts = 1 := fun hr => by
    unfold knF
    rw [if_neg (fun g => hbad ⟨hr, g.1⟩)]
    decide
  have hdb : rightB l = true → ¬ (0 ≤ d ∧ d ≤ 730484) := fun hr g => hbad ⟨hr, g⟩
  generalize hrr : rightB l = rr at *
  clear hbad
  obtain ⟨n, hn⟩ : ∃ n, l.length = n := ⟨_, rfl⟩
  obtain ⟨m, hm⟩ : ∃ m, pts.length = m := ⟨_, rfl⟩
  rw [hn] at hlent hkept hright hright1 hfew hlps hsrc hl60 ⊢
  rw [hm] at hlentI hkeptI hsrc hm10 hkf hk1 hk2 ⊢
  cases rr with
  | false => 
    have hk9 := hk0 rfl
    clear hk0 hk1 hk2 hkn hdb
    refine eng_start (n := 161) (args := [.slice A n c, .slice B m bc, .int .i64 p, .int .i64 d]) tab tab_ok fns fns_ok [.tmp 8] Try.func16 rfl rfl rfl rfl ?_
    repeat' (first
     | (refine gJ ?_
        first
        | refine jmv rfl rfl rfl rfl rfl ?_
        | (refine gload rfl rfl ?_
           refine j_qe rfl rfl rfl ?_
           first
           | refine ⟨_, q_load_own rfl rfl rfl rfl (by (repeat (first | exact InL.here | apply InL.there))) (by first | rfl | assumption), ?_⟩
           | refine ⟨_, q_loadA_own rfl rfl rfl rfl (by (repeat (first | exact InL.here | apply InL.there))) (by rfl), ?_⟩
           | refine ⟨_, q_loadA_ext rfl rfl rfl rfl ⟨by assumption, (by first | exact id | assumption)⟩ (by rfl), ?_⟩
           | refine ⟨_, q_load_ext rfl rfl rfl rfl ⟨by assumption, (by first | exact id | assumption)⟩ (by first | rfl | assumption), ?_⟩
           | refine ⟨_, q_load_extb rfl rfl rfl rfl ⟨by assumption, (by first | exact id | assumption)⟩ (by rfl), ?_⟩
           | refine ⟨_, q_loadA_extb rfl rfl rfl rfl ⟨by assumption, (by first | exact id | assumption)⟩ (by rfl), ?_⟩
           | refine ⟨_, q_load_ext0 rfl rfl rfl rfl ⟨by assumption, (by first | exact id | assumption)⟩ (by rfl), ?_⟩)
        | refine jcmp rfl rfl rfl rfl rfl rfl rfl ?_
        | refine jar rfl rfl rfl rfl rfl rfl rfl (by omega) ?_
        | refine jextract rfl rfl rfl rfl rfl rfl ?_
        | (refine gcall rfl rfl ?_
           first
           | (refine j_qc (f := 37) rfl rfl rfl rfl rfl rfl rfl ?_; refine ⟨_, (fun w' _ => hfew w'), ?_⟩)
           | (refine j_qc (f := 38) rfl rfl rfl rfl rfl rfl rfl ?_; refine ⟨_, (fun w' _ => awake_c w'), ?_⟩)
           | (refine j_qc (f := 44) rfl rfl rfl rfl rfl rfl rfl ?_; refine ⟨_, (fun w' hs => hlps (some ad) c2 w' (rs_head (rs_own (f := odC) (l := l ++ mksO 1 12) (fun _ => rfl) hs (by (repeat (first | exact InL.here | apply InL.there))) (by rw [List.length_append, mksO_len, hn]) rfl))), ?_⟩)
           | (refine j_qc (f := 26) rfl rfl rfl rfl rfl rfl rfl ?_; refine ⟨_, (fun w' hs => hkept ad c2 w' hc2 (rs_own (f := odC) (l := l ++ mksO 1 12) (fun _ => rfl) hs (by (repeat (first | exact InL.here | apply InL.there))) (by rw [List.length_append, mksO_len, hn]) rfl) (h.st hs)), ?_⟩)
           | (refine j_qc (f := 49) rfl rfl rfl rfl rfl rfl rfl ?_; refine ⟨_, (fun w' hs => hkeptI bd b2 w' hb2 (rs_own (f := intC) (l := pts ++ mksI 1 12) (fun _ => rfl) hs (by (repeat (first | exact InL.here | apply InL.there))) (by rw [List.length_append, mksI_len, hm]) rfl) (hP.st hs)), ?_⟩)
           | (refine j_qc (f := 21) rfl rfl rfl rfl rfl rfl rfl ?_; refine ⟨_, (fun w' hs => hright w' (h.st hs)), ?_⟩)
           | (refine j_qc (f := 25) rfl rfl rfl rfl rfl rfl rfl ?_; refine ⟨_, (fun w' hs => hright1 w' (h.st hs)), ?_⟩))
        | (refine gcall rfl rfl ?_; refine gF ?_; refine j_callN (f := 20) rfl rfl rfl rfl rfl rfl rfl (fun x : Addr × Nat => .slice (some x.1) n x.2) (fun x => n + 12 ≤ x.2) (fun x => [.own (.slice (some x.1) (n + 12) x.2) 30 6 (n + 12) ((l ++ mksO 1 12).flatMap odC)]) (fun w' hs => hlent w' (h.st hs)) (fun _ => trivial) ?_; rintro ⟨ad, c2⟩ hc2)
        | (refine gcall rfl rfl ?_; refine gF ?_; refine j_callN (f := 47) rfl rfl rfl rfl rfl rfl rfl (fun x : Addr × Nat => .slice (some x.1) m x.2) (fun x => m + 12 ≤ x.2) (fun x => [.own (.slice (some x.1) (m + 12) x.2) 3 1 (m + 12) ((pts ++ mksI 1 12).flatMap intC)]) (fun w' hs => hlentI w' (hP.st hs)) (fun _ => trivial) ?_; rintro ⟨bd, b2⟩ hb2)
        | (refine gcall rfl rfl ?_; refine gF ?_; refine j_callN (f := 48) rfl rfl rfl rfl rfl rfl rfl (fun v : Value => .tuple #[v, .int .i64 k]) (fun _ => True) (fun v => [.own v 3 1 ([] : List Int).length (([] : List Int).flatMap intC)]) (fun w' hs => hsrc (some ad) c2 (some bd) b2 w' (rs_head (rs_own (f := odC) (l := l ++ mksO 1 12) (fun _ => rfl) hs (by (repeat (first | exact InL.here | apply InL.there))) (by rw [List.length_append, mksO_len, hn]) rfl)) (rs_headI (rs_own (f := intC) (l := pts ++ mksI 1 12) (fun _ => rfl) hs (by (repeat (first | exact InL.here | apply InL.there))) (by rw [List.length_append, mksI_len, hm]) rfl))) (fun _ => trivial) ?_; rintro v1 _; refine j_owns (v := v1) (n := ([] : List Int).length) (by (repeat (first | exact InL.here | apply InL.there))) ?_; rintro A1 c1 rfl hs1)
        | (refine gcall rfl rfl ?_; refine gF ?_; refine j_call (f := 50) (ξ := List Int) (fun _ => .tuple #[]) (fun _ => True) _ rfl rfl rfl rfl rfl rfl rfl (fun w' hs => overI_c (l := pts ++ mksI 1 12) hs (by omega) (by rw [List.length_append, mksI_len, hm]) hb2 (by (repeat (first | exact InL.here | apply InL.there))) (fun _ => by (repeat (first | exact Upd.here | apply Upd.there)))) ?_; intro xs9 _)
        | (refine j_qe rfl rfl rfl ?_
           first
           | refine ⟨_, q_pick_t rfl rfl rfl, ?_⟩
           | refine ⟨_, q_pick_f rfl rfl rfl, ?_⟩
           | refine ⟨_, q_not rfl rfl, ?_⟩
           | refine ⟨_, q_index_nat rfl rfl rfl rfl rfl (by omega), ?_⟩
           | refine ⟨_, q_index_slice rfl rfl rfl rfl rfl (by omega), ?_⟩
           | refine ⟨_, q_index_arr rfl rfl rfl rfl rfl (by omega), ?_⟩
           | refine ⟨_, q_index_arr_ext rfl rfl rfl rfl rfl (by omega), ?_⟩
           | refine ⟨_, q_len_slice rfl rfl rfl rfl, ?_⟩
           | refine ⟨_, q_addu8 rfl rfl rfl (by omega), ?_⟩)
        | refine j_guard_undef rfl rfl rfl rfl rfl ?_
        | (refine j_guard rfl rfl rfl rfl rfl ?_ ?_ <;> intro hc <;> (first | (exact absurd hc (by decide)) | ((try simp only [decide_eq_true_eq, decide_eq_false_iff_not, Bool.not_eq_true', Bool.not_eq_false', Bool.not_true, Bool.not_false, ne_eq, Decidable.not_not] at hc) <;> first | (exfalso; omega) | (exact absurd trivial hc) | skip))))
     | (refine gSC ?_
        first
        | refine sc_seq ?_
        | refine sc_region ?_
        | (refine sc_cond rfl ?_ ?_ <;> intro hc <;> (first | (exact absurd hc (by decide)) | ((try simp only [decide_eq_true_eq, decide_eq_false_iff_not, Bool.not_eq_true', Bool.not_eq_false', Bool.not_true, Bool.not_false, ne_eq, Decidable.not_not] at hc) <;> first | (exfalso; omega) | (exact absurd trivial hc) | skip)))
        | refine sc_block ?_
        | refine sc_ret ?_
        | refine sc_exit ?_
        | refine sc_skip ?_)
     | (refine gSQ ?_
        first
        | refine sq_seq ?_
        | refine sq_blk ?_
        | refine sq_seq_ret ?_
        | refine sq_blk_ret ?_
        | refine sq_loop_ret ?_
        | refine sq_seq_exit ?_
        | refine sq_blk_hit ?_
        | refine sq_blk_miss rfl ?_
        | refine sq_loop_exit ?_
        | refine sq_ende (.inl rfl) rfl rfl ⟨_, (RVs.cons (RV.tmp rfl) (RVs.nil)), ?_⟩
        | refine sq_ende (.inr rfl) rfl rfl ⟨_, (RVs.cons (RV.tmp rfl) (RVs.nil)), ?_⟩)
     | refine j_nil ?_
     )
    all_goals
      refine sc_loop (ι := Nat) (fun i => i ≤ m) (fun i => m - i) (fun i => [(0, .slice A n c), (1, .slice B m bc), (2, .int .i64 p), (3, .int .i64 d), (11, .slice A1 ([] : List Int).length c1), (12, .int .i64 k), (13, .slice none 0 0), (14, .int .i64 2), (15, .bool false), (17, .int .i64 0), (18, .bool (decide (knF p d (pts.take i) = 1))), (77, .slice B m bc), (78, .int .i64 m), (79, .int .i64 i)]) (fun _ => .own (.slice A1 ([] : List Int).length c1) 3 1 ([] : List Int).length (([] : List Int).flatMap intC) :: []) 0 (by show 0 ≤ m; omega) (by repeat (first | exact FSub.nil | refine FSub.cons rfl ?_ | refine FSub.conse rfl (by congr 1; first | omega | (rw [decide_eq_true_eq]; omega) | (symm; rw [decide_eq_true_eq]; omega) | (rw [decide_eq_false_iff_not]; omega) | (symm; rw [decide_eq_false_iff_not]; omega) | (rw [decide_eq_decide]; omega)) ?_)) (by repeat (first | exact LSub.refl | refine LSub.cons (by repeat (first | exact Rem.here | apply Rem.there)) ?_ | apply LSub.skip)) ?_
      rintro i hi
      dsimp only at hi ⊢
      by_cases hlt : i < m
      · obtain ⟨x, hx⟩ : ∃ x, pts[i]? = some x := ⟨_, List.getElem?_eq_getElem (by omega)⟩
        obtain ⟨b0, rfl, hX⟩ := hP i x hx
        have hk1 := hks i x hx
        generalize hg1 : knF p d (pts.take i) = k0 at *
        generalize hg2 : knF p d (pts.take (i + 1)) = k9 at *
        repeat' (first
         | (refine gJ ?_
            first
            | refine jmv rfl rfl rfl rfl rfl ?_
            | (refine gload rfl rfl ?_
               refine j_qe rfl rfl rfl ?_
               first
               | refine ⟨_, q_load_own rfl rfl rfl rfl (by (repeat (first | exact InL.here | apply InL.there))) (by first | rfl | assumption), ?_⟩
               | refine ⟨_, q_loadA_own rfl rfl rfl rfl (by (repeat (first | exact InL.here | apply InL.there))) (by rfl), ?_⟩
               | refine ⟨_, q_loadA_ext rfl rfl rfl rfl ⟨by assumption, (by first | exact id | assumption)⟩ (by rfl), ?_⟩
               | refine ⟨_, q_load_ext rfl rfl rfl rfl ⟨by assumption, (by first | exact id | assumption)⟩ (by first | rfl | assumption), ?_⟩
               | refine ⟨_, q_load_extb rfl rfl rfl rfl ⟨by assumption, (by first | exact id | assumption)⟩ (by rfl), ?_⟩
               | refine ⟨_, q_loadA_extb rfl rfl rfl rfl ⟨by assumption, (by first | exact id | assumption)⟩ (by rfl), ?_⟩
               | refine ⟨_, q_load_ext0 rfl rfl rfl rfl ⟨by assumption, (by first | exact id | assumption)⟩ (by rfl), ?_⟩)
            | refine jcmp rfl rfl rfl rfl rfl rfl rfl ?_
            | refine jar rfl rfl rfl rfl rfl rfl rfl (by omega) ?_
            | refine jextract rfl rfl rfl rfl rfl rfl ?_
            | (refine j_qe rfl rfl rfl ?_
               first
               | refine ⟨_, q_pick_t rfl rfl rfl, ?_⟩
               | refine ⟨_, q_pick_f rfl rfl rfl, ?_⟩
               | refine ⟨_, q_not rfl rfl, ?_⟩
               | refine ⟨_, q_index_nat rfl rfl rfl rfl rfl (by omega), ?_⟩
               | refine ⟨_, q_index_slice rfl rfl rfl rfl rfl (by omega), ?_⟩
               | refine ⟨_, q_index_arr rfl rfl rfl rfl rfl (by omega), ?_⟩
               | refine ⟨_, q_index_arr_ext rfl rfl rfl rfl rfl (by omega), ?_⟩
               | refine ⟨_, q_len_slice rfl rfl rfl rfl, ?_⟩
               | refine ⟨_, q_addu8 rfl rfl rfl (by omega), ?_⟩)
            | refine j_guard_undef rfl rfl rfl rfl rfl ?_
            | (refine j_guard rfl rfl rfl rfl rfl ?_ ?_ <;> intro hc <;> (first | (exact absurd hc (by decide)) | ((try simp only [decide_eq_true_eq, decide_eq_false_iff_not, Bool.not_eq_true', Bool.not_eq_false', Bool.not_true, Bool.not_false, ne_eq, Decidable.not_not] at hc) <;> first | (exfalso; omega) | (exact absurd trivial hc) | skip))))
         | (refine gSC ?_
            first
            | refine sc_seq ?_
            | refine sc_region ?_
            | (refine sc_cond rfl ?_ ?_ <;> intro hc <;> (first | (exact absurd hc (by decide)) | ((try simp only [decide_eq_true_eq, decide_eq_false_iff_not, Bool.not_eq_true', Bool.not_eq_false', Bool.not_true, Bool.not_false, ne_eq, Decidable.not_not] at hc) <;> first | (exfalso; omega) | (exact absurd trivial hc) | skip)))
            | refine sc_block ?_
            | refine sc_ret ?_
            | refine sc_exit ?_
            | refine sc_skip ?_)
         | (refine gSQ ?_
            first
            | refine sq_seq ?_
            | refine sq_blk ?_
            | refine sq_seq_ret ?_
            | refine sq_blk_ret ?_
            | refine sq_loop_ret ?_
            | refine sq_seq_exit ?_
            | refine sq_blk_hit ?_
            | refine sq_blk_miss rfl ?_
            | refine sq_loop_exit ?_
            | refine sq_ende (.inl rfl) rfl rfl ⟨_, (RVs.cons (RV.tmp rfl) (RVs.nil)), ?_⟩
            | refine sq_ende (.inr rfl) rfl rfl ⟨_, (RVs.cons (RV.tmp rfl) (RVs.nil)), ?_⟩)
         | refine j_nil ?_
         )
        all_goals exact sq_loop (i + 1) (by show i + 1 ≤ m; omega) (by show m - (i + 1) < m - i; omega) (by (try dsimp only); rw [hg2]; exact (by repeat (first | exact FSub.nil | refine FSub.cons rfl ?_ | refine FSub.conse rfl (by congr 1; first | omega | (rw [decide_eq_true_eq]; omega) | (symm; rw [decide_eq_true_eq]; omega) | (rw [decide_eq_false_iff_not]; omega) | (symm; rw [decide_eq_false_iff_not]; omega) | (rw [decide_eq_decide]; omega)) ?_))) (by repeat (first | exact LSub.refl | refine LSub.cons (by repeat (first | exact Rem.here | apply Rem.there)) ?_ | apply LSub.skip))
      · rw [hkf i (by omega)]
        generalize knF p d pts = kz at *
        repeat' (first
         | (refine gJ ?_
            first
            | refine jmv rfl rfl rfl rfl rfl ?_
            | (refine gload rfl rfl ?_
               refine j_qe rfl rfl rfl ?_
               first
               | refine ⟨_, q_load_own rfl rfl rfl rfl (by (repeat (first | exact InL.here | apply InL.there))) (by first | rfl | assumption), ?_⟩
               | refine ⟨_, q_loadA_own rfl rfl rfl rfl (by (repeat (first | exact InL.here | apply InL.there))) (by rfl), ?_⟩
               | refine ⟨_, q_loadA_ext rfl rfl rfl rfl ⟨by assumption, (by first | exact id | assumption)⟩ (by rfl), ?_⟩
               | refine ⟨_, q_load_ext rfl rfl rfl rfl ⟨by assumption, (by first | exact id | assumption)⟩ (by first | rfl | assumption), ?_⟩
               | refine ⟨_, q_load_extb rfl rfl rfl rfl ⟨by assumption, (by first | exact id | assumption)⟩ (by rfl), ?_⟩
               | refine ⟨_, q_loadA_extb rfl rfl rfl rfl ⟨by assumption, (by first | exact id | assumption)⟩ (by rfl), ?_⟩
               | refine ⟨_, q_load_ext0 rfl rfl rfl rfl ⟨by assumption, (by first | exact id | assumption)⟩ (by rfl), ?_⟩)
            | refine jcmp rfl rfl rfl rfl rfl rfl rfl ?_
            | refine jar rfl rfl rfl rfl rfl rfl rfl (by omega) ?_
            | refine jextract rfl rfl rfl rfl rfl rfl ?_
            | (refine gcall rfl rfl ?_
               first
               | (refine j_qc (f := 37) rfl rfl rfl rfl rfl rfl rfl ?_; refine ⟨_, (fun w' _ => hfew w'), ?_⟩)
               | (refine j_qc (f := 38) rfl rfl rfl rfl rfl rfl rfl ?_; refine ⟨_, (fun w' _ => awake_c w'), ?_⟩)
               | (refine j_qc (f := 44) rfl rfl rfl rfl rfl rfl rfl ?_; refine ⟨_, (fun w' hs => hlps (some ad) c2 w' (rs_head (rs_own (f := odC) (l := l ++ mksO 1 12) (fun _ => rfl) hs (by (repeat (first | exact InL.here | apply InL.there))) (by rw [List.length_append, mksO_len, hn]) rfl))), ?_⟩)
               | (refine j_qc (f := 26) rfl rfl rfl rfl rfl rfl rfl ?_; refine ⟨_, (fun w' hs => hkept ad c2 w' hc2 (rs_own (f := odC) (l := l ++ mksO 1 12) (fun _ => rfl) hs (by (repeat (first | exact InL.here | apply InL.there))) (by rw [List.length_append, mksO_len, hn]) rfl) (h.st hs)), ?_⟩)
               | (refine j_qc (f := 49) rfl rfl rfl rfl rfl rfl rfl ?_; refine ⟨_, (fun w' hs => hkeptI bd b2 w' hb2 (rs_own (f := intC) (l := pts ++ mksI 1 12) (fun _ => rfl) hs (by (repeat (first | exact InL.here | apply InL.there))) (by rw [List.length_append, mksI_len, hm]) rfl) (hP.st hs)), ?_⟩)
               | (refine j_qc (f := 21) rfl rfl rfl rfl rfl rfl rfl ?_; refine ⟨_, (fun w' hs => hright w' (h.st hs)), ?_⟩)
               | (refine j_qc (f := 25) rfl rfl rfl rfl rfl rfl rfl ?_; refine ⟨_, (fun w' hs => hright1 w' (h.st hs)), ?_⟩))
            | (refine gcall rfl rfl ?_; refine gF ?_; refine j_callN (f := 20) rfl rfl rfl rfl rfl rfl rfl (fun x : Addr × Nat => .slice (some x.1) n x.2) (fun x => n + 12 ≤ x.2) (fun x => [.own (.slice (some x.1) (n + 12) x.2) 30 6 (n + 12) ((l ++ mksO 1 12).flatMap odC)]) (fun w' hs => hlent w' (h.st hs)) (fun _ => trivial) ?_; rintro ⟨ad, c2⟩ hc2)
            | (refine gcall rfl rfl ?_; refine gF ?_; refine j_callN (f := 47) rfl rfl rfl rfl rfl rfl rfl (fun x : Addr × Nat => .slice (some x.1) m x.2) (fun x => m + 12 ≤ x.2) (fun x => [.own (.slice (some x.1) (m + 12) x.2) 3 1 (m + 12) ((pts ++ mksI 1 12).flatMap intC)]) (fun w' hs => hlentI w' (hP.st hs)) (fun _ => trivial) ?_; rintro ⟨bd, b2⟩ hb2)
            | (refine gcall rfl rfl ?_; refine gF ?_; refine j_callN (f := 48) rfl rfl rfl rfl rfl rfl rfl (fun v : Value => .tuple #[v, .int .i64 k]) (fun _ => True) (fun v => [.own v 3 1 ([] : List Int).length (([] : List Int).flatMap intC)]) (fun w' hs => hsrc (some ad) c2 (some bd) b2 w' (rs_head (rs_own (f := odC) (l := l ++ mksO 1 12) (fun _ => rfl) hs (by (repeat (first | exact InL.here | apply InL.there))) (by rw [List.length_append, mksO_len, hn]) rfl)) (rs_headI (rs_own (f := intC) (l := pts ++ mksI 1 12) (fun _ => rfl) hs (by (repeat (first | exact InL.here | apply InL.there))) (by rw [List.length_append, mksI_len, hm]) rfl))) (fun _ => trivial) ?_; rintro v1 _; refine j_owns (v := v1) (n := ([] : List Int).length) (by (repeat (first | exact InL.here | apply InL.there))) ?_; rintro A1 c1 rfl hs1)
            | (refine gcall rfl rfl ?_; refine gF ?_; refine j_call (f := 50) (ξ := List Int) (fun _ => .tuple #[]) (fun _ => True) _ rfl rfl rfl rfl rfl rfl rfl (fun w' hs => overI_c (l := pts ++ mksI 1 12) hs (by omega) (by rw [List.length_append, mksI_len, hm]) hb2 (by (repeat (first | exact InL.here | apply InL.there))) (fun _ => by (repeat (first | exact Upd.here | apply Upd.there)))) ?_; intro xs9 _)
            | (refine j_qe rfl rfl rfl ?_
               first
               | refine ⟨_, q_pick_t rfl rfl rfl, ?_⟩
               | refine ⟨_, q_pick_f rfl rfl rfl, ?_⟩
               | refine ⟨_, q_not rfl rfl, ?_⟩
               | refine ⟨_, q_index_nat rfl rfl rfl rfl rfl (by omega), ?_⟩
               | refine ⟨_, q_index_slice rfl rfl rfl rfl rfl (by omega), ?_⟩
               | refine ⟨_, q_index_arr rfl rfl rfl rfl rfl (by omega), ?_⟩
               | refine ⟨_, q_index_arr_ext rfl rfl rfl rfl rfl (by omega), ?_⟩
               | refine ⟨_, q_len_slice rfl rfl rfl rfl, ?_⟩
               | refine ⟨_, q_addu8 rfl rfl rfl (by omega), ?_⟩)
            | refine j_guard_undef rfl rfl rfl rfl rfl ?_
            | (refine j_guard rfl rfl rfl rfl rfl ?_ ?_ <;> intro hc <;> (first | (exact absurd hc (by decide)) | ((try simp only [decide_eq_true_eq, decide_eq_false_iff_not, Bool.not_eq_true', Bool.not_eq_false', Bool.not_true, Bool.not_false, ne_eq, Decidable.not_not] at hc) <;> first | (exfalso; omega) | (exact absurd trivial hc) | skip))))
         | (refine gSC ?_
            first
            | refine sc_seq ?_
            | refine sc_region ?_
            | (refine sc_cond rfl ?_ ?_ <;> intro hc <;> (first | (exact absurd hc (by decide)) | ((try simp only [decide_eq_true_eq, decide_eq_false_iff_not, Bool.not_eq_true', Bool.not_eq_false', Bool.not_true, Bool.not_false, ne_eq, Decidable.not_not] at hc) <;> first | (exfalso; omega) | (exact absurd trivial hc) | skip)))
            | refine sc_block ?_
            | refine sc_ret ?_
            | refine sc_exit ?_
            | refine sc_skip ?_)
         | (refine gSQ ?_
            first
            | refine sq_seq ?_
            | refine sq_blk ?_
            | refine sq_seq_ret ?_
            | refine sq_blk_ret ?_
            | refine sq_loop_ret ?_
            | refine sq_seq_exit ?_
            | refine sq_blk_hit ?_
            | refine sq_blk_miss rfl ?_
            | refine sq_loop_exit ?_
            | refine sq_ende (.inl rfl) rfl rfl ⟨_, (RVs.cons (RV.tmp rfl) (RVs.nil)), ?_⟩
            | refine sq_ende (.inr rfl) rfl rfl ⟨_, (RVs.cons (RV.tmp rfl) (RVs.nil)), ?_⟩)
         | refine j_nil ?_
         )
        all_goals ((intro w' hS; refine ⟨?_, hS.below⟩; simp only [pack]); done)

  | true => 
    have hk1' := hk1 rfl
    have hk2' := hk2 rfl
    have hkn' := hkn rfl
    have hdb' := hdb rfl
    clear hk0 hk1 hk2 hkn hdb
    refine eng_start (n := 161) (args := [.slice A n c, .slice B m bc, .int .i64 p, .int .i64 d]) tab tab_ok fns fns_ok [.tmp 8] Try.func16 rfl rfl rfl rfl ?_
    repeat' (first
     | (refine gJ ?_
        first
        | refine jmv rfl rfl rfl rfl rfl ?_
        | (refine gload rfl rfl ?_
           refine j_qe rfl rfl rfl ?_
           first
           | refine ⟨_, q_load_own rfl rfl rfl rfl (by (repeat (first | exact InL.here | apply InL.there))) (by first | rfl | assumption), ?_⟩
           | refine ⟨_, q_loadA_own rfl rfl rfl rfl (by (repeat (first | exact InL.here | apply InL.there))) (by rfl), ?_⟩
           | refine ⟨_, q_loadA_ext rfl rfl rfl rfl ⟨by assumption, (by first | exact id | assumption)⟩ (by rfl), ?_⟩
           | refine ⟨_, q_load_ext rfl rfl rfl rfl ⟨by assumption, (by first | exact id | assumption)⟩ (by first | rfl | assumption), ?_⟩
           | refine ⟨_, q_load_extb rfl rfl rfl rfl ⟨by assumption, (by first | exact id | assumption)⟩ (by rfl), ?_⟩
           | refine ⟨_, q_loadA_extb rfl rfl rfl rfl ⟨by assumption, (by first | exact id | assumption)⟩ (by rfl), ?_⟩
           | refine ⟨_, q_load_ext0 rfl rfl rfl rfl ⟨by assumption, (by first | exact id | assumption)⟩ (by rfl), ?_⟩)
        | refine jcmp rfl rfl rfl rfl rfl rfl rfl ?_
        | refine jar rfl rfl rfl rfl rfl rfl rfl (by omega) ?_
        | refine jextract rfl rfl rfl rfl rfl rfl ?_
        | (refine gcall rfl rfl ?_
           first
           | (refine j_qc (f := 37) rfl rfl rfl rfl rfl rfl rfl ?_; refine ⟨_, (fun w' _ => hfew w'), ?_⟩)
           | (refine j_qc (f := 38) rfl rfl rfl rfl rfl rfl rfl ?_; refine ⟨_, (fun w' _ => awake_c w'), ?_⟩)
           | (refine j_qc (f := 44) rfl rfl rfl rfl rfl rfl rfl ?_; refine ⟨_, (fun w' hs => hlps (some ad) c2 w' (rs_head (rs_own (f := odC) (l := l ++ mksO 1 12) (fun _ => rfl) hs (by (repeat (first | exact InL.here | apply InL.there))) (by rw [List.length_append, mksO_len, hn]) rfl))), ?_⟩)
           | (refine j_qc (f := 26) rfl rfl rfl rfl rfl rfl rfl ?_; refine ⟨_, (fun w' hs => hkept ad c2 w' hc2 (rs_own (f := odC) (l := l ++ mksO 1 12) (fun _ => rfl) hs (by (repeat (first | exact InL.here | apply InL.there))) (by rw [List.length_append, mksO_len, hn]) rfl) (h.st hs)), ?_⟩)
           | (refine j_qc (f := 49) rfl rfl rfl rfl rfl rfl rfl ?_; refine ⟨_, (fun w' hs => hkeptI bd b2 w' hb2 (rs_own (f := intC) (l := pts ++ mksI 1 12) (fun _ => rfl) hs (by (repeat (first | exact InL.here | apply InL.there))) (by rw [List.length_append, mksI_len, hm]) rfl) (hP.st hs)), ?_⟩)
           | (refine j_qc (f := 21) rfl rfl rfl rfl rfl rfl rfl ?_; refine ⟨_, (fun w' hs => hright w' (h.st hs)), ?_⟩)
           | (refine j_qc (f := 25) rfl rfl rfl rfl rfl rfl rfl ?_; refine ⟨_, (fun w' hs => hright1 w' (h.st hs)), ?_⟩))
        | (refine gcall rfl rfl ?_; refine gF ?_; refine j_callN (f := 20) rfl rfl rfl rfl rfl rfl rfl (fun x : Addr × Nat => .slice (some x.1) n x.2) (fun x => n + 12 ≤ x.2) (fun x => [.own (.slice (some x.1) (n + 12) x.2) 30 6 (n + 12) ((l ++ mksO 1 12).flatMap odC)]) (fun w' hs => hlent w' (h.st hs)) (fun _ => trivial) ?_; rintro ⟨ad, c2⟩ hc2)
        | (refine gcall rfl rfl ?_; refine gF ?_; refine j_callN (f := 47) rfl rfl rfl rfl rfl rfl rfl (fun x : Addr × Nat => .slice (some x.1) m x.2) (fun x => m + 12 ≤ x.2) (fun x => [.own (.slice (some x.1) (m + 12) x.2) 3 1 (m + 12) ((pts ++ mksI 1 12).flatMap intC)]) (fun w' hs => hlentI w' (hP.st hs)) (fun _ => trivial) ?_; rintro ⟨bd, b2⟩ hb2)
        | (refine gcall rfl rfl ?_; refine gF ?_; refine j_callN (f := 48) rfl rfl rfl rfl rfl rfl rfl (fun v : Value => .tuple #[v, .int .i64 k]) (fun _ => True) (fun v => [.own v 3 1 ([] : List Int).length (([] : List Int).flatMap intC)]) (fun w' hs => hsrc (some ad) c2 (some bd) b2 w' (rs_head (rs_own (f := odC) (l := l ++ mksO 1 12) (fun _ => rfl) hs (by (repeat (first | exact InL.here | apply InL.there))) (by rw [List.length_append, mksO_len, hn]) rfl)) (rs_headI (rs_own (f := intC) (l := pts ++ mksI 1 12) (fun _ => rfl) hs (by (repeat (first | exact InL.here | apply InL.there))) (by rw [List.length_append, mksI_len, hm]) rfl))) (fun _ => trivial) ?_; rintro v1 _; refine j_owns (v := v1) (n := ([] : List Int).length) (by (repeat (first | exact InL.here | apply InL.there))) ?_; rintro A1 c1 rfl hs1)
        | (refine gcall rfl rfl ?_; refine gF ?_; refine j_call (f := 50) (ξ := List Int) (fun _ => .tuple #[]) (fun _ => True) _ rfl rfl rfl rfl rfl rfl rfl (fun w' hs => overI_c (l := pts ++ mksI 1 12) hs (by omega) (by rw [List.length_append, mksI_len, hm]) hb2 (by (repeat (first | exact InL.here | apply InL.there))) (fun _ => by (repeat (first | exact Upd.here | apply Upd.there)))) ?_; intro xs9 _)
        | (refine j_qe rfl rfl rfl ?_
           first
           | refine ⟨_, q_pick_t rfl rfl rfl, ?_⟩
           | refine ⟨_, q_pick_f rfl rfl rfl, ?_⟩
           | refine ⟨_, q_not rfl rfl, ?_⟩
           | refine ⟨_, q_index_nat rfl rfl rfl rfl rfl (by omega), ?_⟩
           | refine ⟨_, q_index_slice rfl rfl rfl rfl rfl (by omega), ?_⟩
           | refine ⟨_, q_index_arr rfl rfl rfl rfl rfl (by omega), ?_⟩
           | refine ⟨_, q_index_arr_ext rfl rfl rfl rfl rfl (by omega), ?_⟩
           | refine ⟨_, q_len_slice rfl rfl rfl rfl, ?_⟩
           | refine ⟨_, q_addu8 rfl rfl rfl (by omega), ?_⟩)
        | refine j_guard_undef rfl rfl rfl rfl rfl ?_
        | (refine j_guard rfl rfl rfl rfl rfl ?_ ?_ <;> intro hc <;> (first | (exact absurd hc (by decide)) | ((try simp only [decide_eq_true_eq, decide_eq_false_iff_not, Bool.not_eq_true', Bool.not_eq_false', Bool.not_true, Bool.not_false, ne_eq, Decidable.not_not] at hc) <;> first | (exfalso; omega) | (exact absurd trivial hc) | skip))))
     | (refine gSC ?_
        first
        | refine sc_seq ?_
        | refine sc_region ?_
        | (refine sc_cond rfl ?_ ?_ <;> intro hc <;> (first | (exact absurd hc (by decide)) | ((try simp only [decide_eq_true_eq, decide_eq_false_iff_not, Bool.not_eq_true', Bool.not_eq_false', Bool.not_true, Bool.not_false, ne_eq, Decidable.not_not] at hc) <;> first | (exfalso; omega) | (exact absurd trivial hc) | skip)))
        | refine sc_block ?_
        | refine sc_ret ?_
        | refine sc_exit ?_
        | refine sc_skip ?_)
     | (refine gSQ ?_
        first
        | refine sq_seq ?_
        | refine sq_blk ?_
        | refine sq_seq_ret ?_
        | refine sq_blk_ret ?_
        | refine sq_loop_ret ?_
        | refine sq_seq_exit ?_
        | refine sq_blk_hit ?_
        | refine sq_blk_miss rfl ?_
        | refine sq_loop_exit ?_
        | refine sq_ende (.inl rfl) rfl rfl ⟨_, (RVs.cons (RV.tmp rfl) (RVs.nil)), ?_⟩
        | refine sq_ende (.inr rfl) rfl rfl ⟨_, (RVs.cons (RV.tmp rfl) (RVs.nil)), ?_⟩)
     | refine j_nil ?_
     )
    all_goals
      refine sc_loop (ι := Nat) (fun i => i ≤ m) (fun i => m - i) (fun i => [(0, .slice A n c), (1, .slice B m bc), (2, .int .i64 p), (3, .int .i64 d), (11, .slice A1 ([] : List Int).length c1), (12, .int .i64 k), (13, .slice none 0 0), (14, .int .i64 2), (15, .bool true), (16, .bool false), (17, .int .i64 0), (18, .bool (decide (knF p d (pts.take i) = 1))), (77, .slice B m bc), (78, .int .i64 m), (79, .int .i64 i)]) (fun _ => .own (.slice A1 ([] : List Int).length c1) 3 1 ([] : List Int).length (([] : List Int).flatMap intC) :: []) 0 (by show 0 ≤ m; omega) (by repeat (first | exact FSub.nil | refine FSub.cons rfl ?_ | refine FSub.conse rfl (by congr 1; first | omega | (rw [decide_eq_true_eq]; omega) | (symm; rw [decide_eq_true_eq]; omega) | (rw [decide_eq_false_iff_not]; omega) | (symm; rw [decide_eq_false_iff_not]; omega) | (rw [decide_eq_decide]; omega)) ?_)) (by repeat (first | exact LSub.refl | refine LSub.cons (by repeat (first | exact Rem.here | apply Rem.there)) ?_ | apply LSub.skip)) ?_
      rintro i hi
      dsimp only at hi ⊢
      by_cases hlt : i < m
      · obtain ⟨x, hx⟩ : ∃ x, pts[i]? = some x := ⟨_, List.getElem?_eq_getElem (by omega)⟩
        obtain ⟨b0, rfl, hX⟩ := hP i x hx
        have hk1 := hks i x hx
        generalize hg1 : knF p d (pts.take i) = k0 at *
        generalize hg2 : knF p d (pts.take (i + 1)) = k9 at *
        repeat' (first
         | (refine gJ ?_
            first
            | refine jmv rfl rfl rfl rfl rfl ?_
            | (refine gload rfl rfl ?_
               refine j_qe rfl rfl rfl ?_
               first
               | refine ⟨_, q_load_own rfl rfl rfl rfl (by (repeat (first | exact InL.here | apply InL.there))) (by first | rfl | assumption), ?_⟩
               | refine ⟨_, q_loadA_own rfl rfl rfl rfl (by (repeat (first | exact InL.here | apply InL.there))) (by rfl), ?_⟩
               | refine ⟨_, q_loadA_ext rfl rfl rfl rfl ⟨by assumption, (by first | exact id | assumption)⟩ (by rfl), ?_⟩
               | refine ⟨_, q_load_ext rfl rfl rfl rfl ⟨by assumption, (by first | exact id | assumption)⟩ (by first | rfl | assumption), ?_⟩
               | refine ⟨_, q_load_extb rfl rfl rfl rfl ⟨by assumption, (by first | exact id | assumption)⟩ (by rfl), ?_⟩
               | refine ⟨_, q_loadA_extb rfl rfl rfl rfl ⟨by assumption, (by first | exact id | assumption)⟩ (by rfl), ?_⟩
               | refine ⟨_, q_load_ext0 rfl rfl rfl rfl ⟨by assumption, (by first | exact id | assumption)⟩ (by rfl), ?_⟩)
            | refine jcmp rfl rfl rfl rfl rfl rfl rfl ?_
            | refine jar rfl rfl rfl rfl rfl rfl rfl (by omega) ?_
            | refine jextract rfl rfl rfl rfl rfl rfl ?_
            | (refine j_qe rfl rfl rfl ?_
               first
               | refine ⟨_, q_pick_t rfl rfl rfl, ?_⟩
               | refine ⟨_, q_pick_f rfl rfl rfl, ?_⟩
               | refine ⟨_, q_not rfl rfl, ?_⟩
               | refine ⟨_, q_index_nat rfl rfl rfl rfl rfl (by omega), ?_⟩
               | refine ⟨_, q_index_slice rfl rfl rfl rfl rfl (by omega), ?_⟩
               | refine ⟨_, q_index_arr rfl rfl rfl rfl rfl (by omega), ?_⟩
               | refine ⟨_, q_index_arr_ext rfl rfl rfl rfl rfl (by omega), ?_⟩
               | refine ⟨_, q_len_slice rfl rfl rfl rfl, ?_⟩
               | refine ⟨_, q_addu8 rfl rfl rfl (by omega), ?_⟩)
            | refine j_guard_undef rfl rfl rfl rfl rfl ?_
            | (refine j_guard rfl rfl rfl rfl rfl ?_ ?_ <;> intro hc <;> (first | (exact absurd hc (by decide)) | ((try simp only [decide_eq_true_eq, decide_eq_false_iff_not, Bool.not_eq_true', Bool.not_eq_false', Bool.not_true, Bool.not_false, ne_eq, Decidable.not_not] at hc) <;> first | (exfalso; omega) | (exact absurd trivial hc) | skip))))
         | (refine gSC ?_
            first
            | refine sc_seq ?_
            | refine sc_region ?_
            | (refine sc_cond rfl ?_ ?_ <;> intro hc <;> (first | (exact absurd hc (by decide)) | ((try simp only [decide_eq_true_eq, decide_eq_false_iff_not, Bool.not_eq_true', Bool.not_eq_false', Bool.not_true, Bool.not_false, ne_eq, Decidable.not_not] at hc) <;> first | (exfalso; omega) | (exact absurd trivial hc) | skip)))
            | refine sc_block ?_
            | refine sc_ret ?_
            | refine sc_exit ?_
            | refine sc_skip ?_)
         | (refine gSQ ?_
            first
            | refine sq_seq ?_
            | refine sq_blk ?_
            | refine sq_seq_ret ?_
            | refine sq_blk_ret ?_
            | refine sq_loop_ret ?_
            | refine sq_seq_exit ?_
            | refine sq_blk_hit ?_
            | refine sq_blk_miss rfl ?_
            | refine sq_loop_exit ?_
            | refine sq_ende (.inl rfl) rfl rfl ⟨_, (RVs.cons (RV.tmp rfl) (RVs.nil)), ?_⟩
            | refine sq_ende (.inr rfl) rfl rfl ⟨_, (RVs.cons (RV.tmp rfl) (RVs.nil)), ?_⟩)
         | refine j_nil ?_
         )
        all_goals exact sq_loop (i + 1) (by show i + 1 ≤ m; omega) (by show m - (i + 1) < m - i; omega) (by (try dsimp only); rw [hg2]; exact (by repeat (first | exact FSub.nil | refine FSub.cons rfl ?_ | refine FSub.conse rfl (by congr 1; first | omega | (rw [decide_eq_true_eq]; omega) | (symm; rw [decide_eq_true_eq]; omega) | (rw [decide_eq_false_iff_not]; omega) | (symm; rw [decide_eq_false_iff_not]; omega) | (rw [decide_eq_decide]; omega)) ?_))) (by repeat (first | exact LSub.refl | refine LSub.cons (by repeat (first | exact Rem.here | apply Rem.there)) ?_ | apply LSub.skip))
      · rw [hkf i (by omega)]
        generalize knF p d pts = kz at *
        repeat' (first
         | (refine gJ ?_
            first
            | refine jmv rfl rfl rfl rfl rfl ?_
            | (refine gload rfl rfl ?_
               refine j_qe rfl rfl rfl ?_
               first
               | refine ⟨_, q_load_own rfl rfl rfl rfl (by (repeat (first | exact InL.here | apply InL.there))) (by first | rfl | assumption), ?_⟩
               | refine ⟨_, q_loadA_own rfl rfl rfl rfl (by (repeat (first | exact InL.here | apply InL.there))) (by rfl), ?_⟩
               | refine ⟨_, q_loadA_ext rfl rfl rfl rfl ⟨by assumption, (by first | exact id | assumption)⟩ (by rfl), ?_⟩
               | refine ⟨_, q_load_ext rfl rfl rfl rfl ⟨by assumption, (by first | exact id | assumption)⟩ (by first | rfl | assumption), ?_⟩
               | refine ⟨_, q_load_extb rfl rfl rfl rfl ⟨by assumption, (by first | exact id | assumption)⟩ (by rfl), ?_⟩
               | refine ⟨_, q_loadA_extb rfl rfl rfl rfl ⟨by assumption, (by first | exact id | assumption)⟩ (by rfl), ?_⟩
               | refine ⟨_, q_load_ext0 rfl rfl rfl rfl ⟨by assumption, (by first | exact id | assumption)⟩ (by rfl), ?_⟩)
            | refine jcmp rfl rfl rfl rfl rfl rfl rfl ?_
            | refine jar rfl rfl rfl rfl rfl rfl rfl (by omega) ?_
            | refine jextract rfl rfl rfl rfl rfl rfl ?_
            | (refine gcall rfl rfl ?_
               first
               | (refine j_qc (f := 37) rfl rfl rfl rfl rfl rfl rfl ?_; refine ⟨_, (fun w' _ => hfew w'), ?_⟩)
               | (refine j_qc (f := 38) rfl rfl rfl rfl rfl rfl rfl ?_; refine ⟨_, (fun w' _ => awake_c w'), ?_⟩)
               | (refine j_qc (f := 44) rfl rfl rfl rfl rfl rfl rfl ?_; refine ⟨_, (fun w' hs => hlps (some ad) c2 w' (rs_head (rs_own (f := odC) (l := l ++ mksO 1 12) (fun _ => rfl) hs (by (repeat (first | exact InL.here | apply InL.there))) (by rw [List.length_append, mksO_len, hn]) rfl))), ?_⟩)
               | (refine j_qc (f := 26) rfl rfl rfl rfl rfl rfl rfl ?_; refine ⟨_, (fun w' hs => hkept ad c2 w' hc2 (rs_own (f := odC) (l := l ++ mksO 1 12) (fun _ => rfl) hs (by (repeat (first | exact InL.here | apply InL.there))) (by rw [List.length_append, mksO_len, hn]) rfl) (h.st hs)), ?_⟩)
               | (refine j_qc (f := 49) rfl rfl rfl rfl rfl rfl rfl ?_; refine ⟨_, (fun w' hs => hkeptI bd b2 w' hb2 (rs_own (f := intC) (l := pts ++ mksI 1 12) (fun _ => rfl) hs (by (repeat (first | exact InL.here | apply InL.there))) (by rw [List.length_append, mksI_len, hm]) rfl) (hP.st hs)), ?_⟩)
               | (refine j_qc (f := 21) rfl rfl rfl rfl rfl rfl rfl ?_; refine ⟨_, (fun w' hs => hright w' (h.st hs)), ?_⟩)
               | (refine j_qc (f := 25) rfl rfl rfl rfl rfl rfl rfl ?_; refine ⟨_, (fun w' hs => hright1 w' (h.st hs)), ?_⟩))
            | (refine gcall rfl rfl ?_; refine gF ?_; refine j_callN (f := 20) rfl rfl rfl rfl rfl rfl rfl (fun x : Addr × Nat => .slice (some x.1) n x.2) (fun x => n + 12 ≤ x.2) (fun x => [.own (.slice (some x.1) (n + 12) x.2) 30 6 (n + 12) ((l ++ mksO 1 12).flatMap odC)]) (fun w' hs => hlent w' (h.st hs)) (fun _ => trivial) ?_; rintro ⟨ad, c2⟩ hc2)
            | (refine gcall rfl rfl ?_; refine gF ?_; refine j_callN (f := 47) rfl rfl rfl rfl rfl rfl rfl (fun x : Addr × Nat => .slice (some x.1) m x.2) (fun x => m + 12 ≤ x.2) (fun x => [.own (.slice (some x.1) (m + 12) x.2) 3 1 (m + 12) ((pts ++ mksI 1 12).flatMap intC)]) (fun w' hs => hlentI w' (hP.st hs)) (fun _ => trivial) ?_; rintro ⟨bd, b2⟩ hb2)
            | (refine gcall rfl rfl ?_; refine gF ?_; refine j_callN (f := 48) rfl rfl rfl rfl rfl rfl rfl (fun v : Value => .tuple #[v, .int .i64 k]) (fun _ => True) (fun v => [.own v 3 1 ([] : List Int).length (([] : List Int).flatMap intC)]) (fun w' hs => hsrc (some ad) c2 (some bd) b2 w' (rs_head (rs_own (f := odC) (l := l ++ mksO 1 12) (fun _ => rfl) hs (by (repeat (first | exact InL.here | apply InL.there))) (by rw [List.length_append, mksO_len, hn]) rfl)) (rs_headI (rs_own (f := intC) (l := pts ++ mksI 1 12) (fun _ => rfl) hs (by (repeat (first | exact InL.here | apply InL.there))) (by rw [List.length_append, mksI_len, hm]) rfl))) (fun _ => trivial) ?_; rintro v1 _; refine j_owns (v := v1) (n := ([] : List Int).length) (by (repeat (first | exact InL.here | apply InL.there))) ?_; rintro A1 c1 rfl hs1)
            | (refine gcall rfl rfl ?_; refine gF ?_; refine j_call (f := 50) (ξ := List Int) (fun _ => .tuple #[]) (fun _ => True) _ rfl rfl rfl rfl rfl rfl rfl (fun w' hs => overI_c (l := pts ++ mksI 1 12) hs (by omega) (by rw [List.length_append, mksI_len, hm]) hb2 (by (repeat (first | exact InL.here | apply InL.there))) (fun _ => by (repeat (first | exact Upd.here | apply Upd.there)))) ?_; intro xs9 _)
            | (refine j_qe rfl rfl rfl ?_
               first
               | refine ⟨_, q_pick_t rfl rfl rfl, ?_⟩
               | refine ⟨_, q_pick_f rfl rfl rfl, ?_⟩
               | refine ⟨_, q_not rfl rfl, ?_⟩
               | refine ⟨_, q_index_nat rfl rfl rfl rfl rfl (by omega), ?_⟩
               | refine ⟨_, q_index_slice rfl rfl rfl rfl rfl (by omega), ?_⟩
               | refine ⟨_, q_index_arr rfl rfl rfl rfl rfl (by omega), ?_⟩
               | refine ⟨_, q_index_arr_ext rfl rfl rfl rfl rfl (by omega), ?_⟩
               | refine ⟨_, q_len_slice rfl rfl rfl rfl, ?_⟩
               | refine ⟨_, q_addu8 rfl rfl rfl (by omega), ?_⟩)
            | refine j_guard_undef rfl rfl rfl rfl rfl ?_
            | (refine j_guard rfl rfl rfl rfl rfl ?_ ?_ <;> intro hc <;> (first | (exact absurd hc (by decide)) | ((try simp only [decide_eq_true_eq, decide_eq_false_iff_not, Bool.not_eq_true', Bool.not_eq_false', Bool.not_true, Bool.not_false, ne_eq, Decidable.not_not] at hc) <;> first | (exfalso; omega) | (exact absurd trivial hc) | skip))))
         | (refine gSC ?_
            first
            | refine sc_seq ?_
            | refine sc_region ?_
            | (refine sc_cond rfl ?_ ?_ <;> intro hc <;> (first | (exact absurd hc (by decide)) | ((try simp only [decide_eq_true_eq, decide_eq_false_iff_not, Bool.not_eq_true', Bool.not_eq_false', Bool.not_true, Bool.not_false, ne_eq, Decidable.not_not] at hc) <;> first | (exfalso; omega) | (exact absurd trivial hc) | skip)))
            | refine sc_block ?_
            | refine sc_ret ?_
            | refine sc_exit ?_
            | refine sc_skip ?_)
         | (refine gSQ ?_
            first
            | refine sq_seq ?_
            | refine sq_blk ?_
            | refine sq_seq_ret ?_
            | refine sq_blk_ret ?_
            | refine sq_loop_ret ?_
            | refine sq_seq_exit ?_
            | refine sq_blk_hit ?_
            | refine sq_blk_miss rfl ?_
            | refine sq_loop_exit ?_
            | refine sq_ende (.inl rfl) rfl rfl ⟨_, (RVs.cons (RV.tmp rfl) (RVs.nil)), ?_⟩
            | refine sq_ende (.inr rfl) rfl rfl ⟨_, (RVs.cons (RV.tmp rfl) (RVs.nil)), ?_⟩)
         | refine j_nil ?_
         )
        all_goals ((intro w' hS; refine ⟨?_, hS.below⟩; simp only [pack]); done)

theorem ListsL_c (A : Option Addr) (c : Nat) (l : List Od) (B : Option Addr) (bc : Nat) (pts : List Int) (p d : Int) (w : World) (hs : Sl A l.length c) (hs2 : Sl B pts.length bc) (hp : -9223372036854775808 ≤ p ∧ p ≤ 9223372036854775807) (hd : -9223372036854775808 ≤ d ∧ d ≤ 9223372036854775807) (hpo : ∀ x ∈ pts, -9223372036854775808 ≤ x ∧ x ≤ 9223372036854775807) (h : RS w 6 odC A l) (hP : RS w 1 intC B pts) :
    Calls Try.prog 16 #[.slice A l.length c, .slice B pts.length bc, .int .i64 p, .int .i64 d] w fun e w' => e = .returned (.bool true) ∧ Below w.heap.size w w' := by
  by_cases hb : l.length ≤ 60 ∧ pts.length ≤ 1010
  · by_cases hg : rightB l = true ∧ dayI d
    · by_cases hg2 : idI p ∧ pts.length ≤ 1000 ∧ allI pts = true
      · exact Lists_a A c l B bc pts p d w hs hs2 hp hd hpo h hP hb.1 hb.2 hg.1 hg.2 hg2.1 hg2.2.1 hg2.2.2
      · exact Lists_b A c l B bc pts p d w hs hs2 hp hd hpo h hP hb.1 hb.2 hg.1 hg.2 hg2
    · exact Lists_c A c l B bc pts p d w hs hs2 hp hd hpo h hP hb.1 hb.2 hg
  · have hfew := fun w' => few_c A l.length c w'
    generalize l.length = n at *
    generalize pts.length = m at *
    refine eng_start (n := 161) (args := [.slice A n c, .slice B m bc, .int .i64 p, .int .i64 d]) tab tab_ok fns fns_ok [.tmp 8] Try.func16 rfl rfl rfl rfl ?_
    repeat' (first
     | (refine gJ ?_
        first
        | refine jmv rfl rfl rfl rfl rfl ?_
        | (refine gload rfl rfl ?_
           refine j_qe rfl rfl rfl ?_
           first
           | refine ⟨_, q_load_own rfl rfl rfl rfl (by (repeat (first | exact InL.here | apply InL.there))) (by first | rfl | assumption), ?_⟩
           | refine ⟨_, q_loadA_own rfl rfl rfl rfl (by (repeat (first | exact InL.here | apply InL.there))) (by rfl), ?_⟩
           | refine ⟨_, q_loadA_ext rfl rfl rfl rfl ⟨by assumption, (by first | exact id | assumption)⟩ (by rfl), ?_⟩
           | refine ⟨_, q_load_ext rfl rfl rfl rfl ⟨by assumption, (by first | exact id | assumption)⟩ (by first | rfl | assumption), ?_⟩
           | refine ⟨_, q_load_extb rfl rfl rfl rfl ⟨by assumption, (by first | exact id | assumption)⟩ (by rfl), ?_⟩
           | refine ⟨_, q_loadA_extb rfl rfl rfl rfl ⟨by assumption, (by first | exact id | assumption)⟩ (by rfl), ?_⟩
           | refine ⟨_, q_load_ext0 rfl rfl rfl rfl ⟨by assumption, (by first | exact id | assumption)⟩ (by rfl), ?_⟩)
        | refine jcmp rfl rfl rfl rfl rfl rfl rfl ?_
        | refine jar rfl rfl rfl rfl rfl rfl rfl (by omega) ?_
        | refine jextract rfl rfl rfl rfl rfl rfl ?_
        | (refine gcall rfl rfl ?_
           first
           | (refine j_qc (f := 37) rfl rfl rfl rfl rfl rfl rfl ?_; refine ⟨_, (fun w' _ => hfew w'), ?_⟩)
           | (refine j_qc (f := 38) rfl rfl rfl rfl rfl rfl rfl ?_; refine ⟨_, (fun w' _ => awake_c w'), ?_⟩))
        | (refine j_qe rfl rfl rfl ?_
           first
           | refine ⟨_, q_pick_t rfl rfl rfl, ?_⟩
           | refine ⟨_, q_pick_f rfl rfl rfl, ?_⟩
           | refine ⟨_, q_not rfl rfl, ?_⟩
           | refine ⟨_, q_index_nat rfl rfl rfl rfl rfl (by omega), ?_⟩
           | refine ⟨_, q_index_slice rfl rfl rfl rfl rfl (by omega), ?_⟩
           | refine ⟨_, q_index_arr rfl rfl rfl rfl rfl (by omega), ?_⟩
           | refine ⟨_, q_index_arr_ext rfl rfl rfl rfl rfl (by omega), ?_⟩
           | refine ⟨_, q_len_slice rfl rfl rfl rfl, ?_⟩
           | refine ⟨_, q_addu8 rfl rfl rfl (by omega), ?_⟩)
        | refine j_guard_undef rfl rfl rfl rfl rfl ?_
        | (refine j_guard rfl rfl rfl rfl rfl ?_ ?_ <;> intro hc <;> (first | (exact absurd hc (by decide)) | ((try simp only [decide_eq_true_eq, decide_eq_false_iff_not, Bool.not_eq_true', Bool.not_eq_false', Bool.not_true, Bool.not_false, ne_eq, Decidable.not_not] at hc) <;> first | (exfalso; omega) | (exact absurd trivial hc) | skip))))
     | (refine gSC ?_
        first
        | refine sc_seq ?_
        | refine sc_region ?_
        | (refine sc_cond rfl ?_ ?_ <;> intro hc <;> (first | (exact absurd hc (by decide)) | ((try simp only [decide_eq_true_eq, decide_eq_false_iff_not, Bool.not_eq_true', Bool.not_eq_false', Bool.not_true, Bool.not_false, ne_eq, Decidable.not_not] at hc) <;> first | (exfalso; omega) | (exact absurd trivial hc) | skip)))
        | refine sc_block ?_
        | refine sc_ret ?_
        | refine sc_exit ?_
        | refine sc_skip ?_)
     | (refine gSQ ?_
        first
        | refine sq_seq ?_
        | refine sq_blk ?_
        | refine sq_seq_ret ?_
        | refine sq_blk_ret ?_
        | refine sq_loop_ret ?_
        | refine sq_seq_exit ?_
        | refine sq_blk_hit ?_
        | refine sq_blk_miss rfl ?_
        | refine sq_loop_exit ?_
        | refine sq_ende (.inl rfl) rfl rfl ⟨_, (RVs.cons (RV.tmp rfl) (RVs.nil)), ?_⟩
        | refine sq_ende (.inr rfl) rfl rfl ⟨_, (RVs.cons (RV.tmp rfl) (RVs.nil)), ?_⟩)
     | refine j_nil ?_
     )
    all_goals first | ((intro w' hS; refine ⟨?_, hS.below⟩; simp only [pack]); done) | (exfalso; omega)
end Go.Proofs.Ytmcmmmaffdenjaa
