/-
  forward: Resolve.
-/
import Derived.Test.YtmcmmmaffdenjaaPat
namespace Go.Proofs.Ytmcmmmaffdenjaa
open Go.RowKit Eng
set_option linter.unusedVariables false
set_option linter.unusedSimpArgs false
set_option maxHeartbeats 8000000
attribute [local irreducible] SC SQ J Qt Calls Iterates
abbrev bpV (x : Nat × List (Int × Row)) : Value := .map (some x.1)
abbrev bpL (x : Nat × List (Int × Row)) : List HA := haMap x.1 .i64 (valsG rowV x.2) :: rowsH x.2
theorem rowsH_plain : ∀ M : List (Int × Row), plainHA (rowsH M)
  | [] => trivial
  | _ :: M => rowsH_plain M
theorem bpL_plain (x : Nat × List (Int × Row)) : plainHA (bpL x) :=
  ⟨fun u u' ⟨o, h1, h2⟩ hk => ⟨o, (hk _ rfl).trans h1, h2⟩, rowsH_plain x.2⟩
abbrev chV (x : Nat × List (Int × Od)) : Value := .map (some x.1)
abbrev chL (x : Nat × List (Int × Od)) : List HA := [haMap x.1 .i64 (valsG odV x.2)]
theorem chL_plain (x : Nat × List (Int × Od)) : plainHA (chL x) :=
  ⟨fun u u' ⟨o, h1, h2⟩ hk => ⟨o, (hk _ rfl).trans h1, h2⟩, trivial⟩
theorem rowsG_own {w0 w : World} {hot : Nat → Prop} {L : List HA} (hs : St w0 hot L w) {M : List (Int × Row)} (hL : ∀ x ∈ rowsH M, x ∈ L) : RowsG w M := fun q hq => by
  have hin : InL L (.own q.2.1 30 6 q.2.2.length (q.2.2.flatMap odC)) := inL_mem (hL _ (List.mem_map.2 ⟨q, hq, rfl⟩))
  obtain ⟨k, v, rs⟩ := q
  dsimp only at hin ⊢
  have hA := hs.at hin
  rcases hA.2.2 with ⟨hv, hn⟩ | ⟨g, cap, cur, hv, _⟩
  · subst hv
    have : rs = [] := List.length_eq_zero_iff.1 hn
    subst this
    exact ⟨none, 0, rfl, RS.nil⟩
  · subst hv
    exact ⟨_, _, rfl, rs_own (f := odC) (fun _ => rfl) hs hin rfl rfl⟩
def wayF (l : List Od) (p d : Int) : Wy := way (fun k => fo l k d) 500 p
def wyZ : Wy := ⟨[], [], 0, 0⟩
theorem fo_zero {l : List Od} (h : okL l) {k d : Int} (h0 : (fo l k d).idn = 0) : fo l k d = odZ := by
  rcases fo_spec h k d with ⟨h1, _⟩ | ⟨h1, _⟩
  · exact h1
  · have := okO_pos (okL_ok h _ h1); omega
theorem chF_fo {l : List Od} {N : List (Int × Od)} {d : Int} (h : okL l) (hc : ChartP (fun k => fo l k d) N) : chF N = fun k => fo l k d := by
  funext k
  unfold chF
  rw [hc.lk k]
  split
  · rename_i h0; rw [fo_zero h h0]; rfl
  · rfl
theorem way_ends {l : List Od} (h : rightL l) (p d : Int) : (wrun ⟨[], [], 0, 0⟩ (along (fun k => fo l k d) 500 p)).2 = true := by
  refine wrun_ends (fun k => fo l k d) (l.map (·.frm)) (fun q hq => ?_) (fun q hq h3 => ?_) 500 ⟨[], [], 0, 0⟩ p List.nodup_nil (by simp) (by simp) (by simpa using h.1)
  · rcases fo_spec h.2 q d with ⟨h1, _⟩ | ⟨h1, h2, _⟩
    · rw [h1] at hq; exact absurd rfl hq
    · exact List.mem_map.2 ⟨_, h1, h2⟩
  · rcases fo_spec h.2 q d with ⟨h1, _⟩ | ⟨h1, h2, _⟩
    · rw [h1] at hq; exact absurd rfl hq
    · have hk := okL_ok h.2 _ h1
      obtain ⟨_, h4⟩ := hk
      rcases h4 with ⟨_, h5, _⟩ | ⟨_, h5, _⟩ | ⟨h5, _⟩
      · unfold idI at h5; omega
      · unfold idI at h5; omega
      · exact absurd h5 h3
def resolveF (l : List Od) (p d : Int) : Wy × Int := if rightB l = true ∧ idI p ∧ dayI d then (wayF l p d, 0) else (wyZ, 2)
abbrev wyV (x : Value × Value) (W : Wy) : Value := .agg #[x.1, x.2, .int .u8 W.kd, .int .i64 W.un]
abbrev wyL (W : Wy) (x : Value × Value) : List HA := [.own x.1 3 1 W.pts.length (W.pts.flatMap intC), .own x.2 3 1 W.ords.length (W.ords.flatMap intC)]
theorem resolve_bad {l : List Od} {p d : Int} (h : ¬ (rightB l = true ∧ idI p ∧ dayI d)) : resolveF l p d = (wyZ, 2) := by unfold resolveF; rw [if_neg h]
theorem resolve_ok {l : List Od} {p d : Int} (h : rightB l = true ∧ idI p ∧ dayI d) : resolveF l p d = (wayF l p d, 0) := by unfold resolveF; rw [if_pos h]
/-- The way, at a chart. -/
theorem path_f {w0 w : World} {hot : Nat → Prop} {L : List HA} (l : List Od) (p d : Int) (N : List (Int × Od)) (b : Nat) (hs : St w0 hot L w) (hin : InL L (haMap b .i64 (valsG odV N))) (hr : rightB l = true) (hN : ChartP (fun k => fo l k d) N) :
    Calls Try.prog 72 #[.map (some b), .int .i64 p] w fun e w' => ∃ x : Value × Value, True ∧ e = .returned (wyV x (wayF l p d)) ∧ St w Cold (wyL (wayF l p d) x) w' := by
  have hrl := (rightB_iff l).1 hr
  obtain ⟨es, clk, hG⟩ := hs.mapG hin
  have he := chF_fo hrl.2 hN
  have h1 := path_c b p N es clk 500 w hG (by omega) (by rw [he]; exact way_ends hrl p d)
  rw [he] at h1
  exact h1
theorem on_f {w0 w : World} {hot : Nat → Prop} {L : List HA} (l : List Od) (d : Int) (M : List (Int × Row)) (b : Nat) (hs : St w0 hot L w) (hin : InL L (haMap b .i64 (valsG rowV M))) (hL : ∀ x ∈ rowsH M, x ∈ L) (hr : rightB l = true) (hd : dayI d) (hM : bpI l M) :
    Calls Try.prog 70 #[.map (some b), .int .i64 d] w fun e w' => ∃ x : Nat × List (Int × Od), ChartP (fun k => fo l k d) x.2 ∧ e = .returned (chV x) ∧ St w Cold (chL x) w' := by
  obtain ⟨es, clk, hG⟩ := hs.mapG hin
  exact on_c b M es clk l d w hG hM (rowsG_own hs hL) hr hd
theorem bp_perm0 {x : HA} {R L0 : List HA} : (x :: R ++ L0).Perm (x :: (L0 ++ R)) := by
  simp only [List.cons_append]
  exact List.Perm.cons _ List.perm_append_comm
theorem Resolve_c (A : Option Addr) (c : Nat) (l : List Od) (p d : Int) (w : World) (hl : l.length ≤ 9223372036854775807) (h : RS w 6 odC A l) :
    Calls Try.prog 39 #[.slice A l.length c, .int .i64 p, .int .i64 d] w fun e w' => ∃ x : Value × Value, True ∧ e = .returned (.tuple #[wyV x (resolveF l p d).1, .int .i64 (resolveF l p d).2]) ∧ St w Cold (wyL (resolveF l p d).1 x) w' := by
  have hR : ∀ w', RS w' 6 odC A l → Calls Try.prog 25 #[.slice A l.length c] w' fun e w'' => e = .returned (.bool (rightB l)) ∧ Below w'.heap.size w' w'' := fun w' h' => Right_c A c l w' hl h'
  have hle : rightB l = true → l.length ≤ 500 := fun h => ((rightB_iff l).1 h).1
  have hB : ∀ w', rightB l = true → RS w' 6 odC A l → Calls Try.prog 71 #[.slice A l.length c] w' _ := fun w' h1 h' => byPoint_c A c l w' (by have := hle h1; omega) h'
  generalize hn : l.length = n at *
  refine eng_start (n := 28) (args := [.slice A n c, .int .i64 p, .int .i64 d]) tab tab_ok fns fns_ok [.cell 6 62, .tmp 7] Try.func39 rfl rfl rfl rfl ?_
  repeat' (first
   | (refine gJ ?_
      first
      | refine jmv rfl rfl rfl rfl rfl ?_
      | (refine gcall rfl rfl ?_
         first
         | (refine j_qc (f := 25) rfl rfl rfl rfl rfl rfl rfl ?_; refine ⟨_, (fun w' hs => hR w' (h.st hs)), ?_⟩)
         | (refine j_qc (f := 68) rfl rfl rfl rfl rfl rfl rfl ?_; refine ⟨_, (fun w' _ => isID2_c _ w'), ?_⟩)
         | (refine j_qc (f := 69) rfl rfl rfl rfl rfl rfl rfl ?_; refine ⟨_, (fun w' _ => isDay2_c _ w'), ?_⟩))
      | (refine gcall rfl rfl ?_; refine gF ?_; refine j_callN (f := 71) rfl rfl rfl rfl rfl rfl rfl bpV (fun x => bpI l x.2) bpL (fun w' hs => hB w' (by assumption) (h.st hs)) bpL_plain ?_; rintro ⟨bm, M⟩ hM; refine j_perm bp_perm0 ?_)
      | (refine gcall rfl rfl ?_; refine gF ?_; refine j_callN (f := 70) rfl rfl rfl rfl rfl rfl rfl chV (fun x => ChartP (fun k => fo l k d) x.2) chL (fun w' hs => on_f l d M bm hs (by (repeat (first | exact InL.here | apply InL.there))) (fun x hx => List.mem_cons_of_mem _ (List.mem_append_right _ hx)) (by assumption) (by assumption) hM) chL_plain ?_; rintro ⟨bn, N⟩ hN)
      | (refine gcall rfl rfl ?_; refine gF ?_; refine j_callN (f := 72) rfl rfl rfl rfl rfl rfl rfl (fun x => wyV x (wayF l p d)) (fun _ => True) (wyL (wayF l p d)) (fun w' hs => path_f l p d N bn hs (by (repeat (first | exact InL.here | apply InL.there))) (by assumption) hN) (fun _ => trivial) ?_; rintro ⟨v1, v2⟩ _; refine j_owns (v := v1) (by (repeat (first | exact InL.here | apply InL.there))) ?_; rintro A1 c1 rfl hs1; refine j_owns (v := v2) (by (repeat (first | exact InL.here | apply InL.there))) ?_; rintro A2 c2 rfl hs2)
      | (refine gF ?_
         first
         | refine j_store rfl rfl rfl rfl rfl rfl rfl rfl (by (repeat (first | exact Upd.here | apply Upd.there))) (by rfl) ?_
         | (refine j_alloc rfl rfl rfl rfl rfl ?_; intro b))
      | (refine j_qe rfl rfl rfl ?_
         first
         | refine ⟨_, q_pick_t rfl rfl rfl, ?_⟩
         | refine ⟨_, q_pick_f rfl rfl rfl, ?_⟩
         | refine ⟨_, q_not rfl rfl, ?_⟩
         | refine ⟨_, q_build_struct rfl rfl rfl rfl rfl, ?_⟩
         | refine ⟨_, q_build_arr rfl rfl rfl rfl rfl, ?_⟩)
      | refine j_guard_undef rfl rfl rfl rfl rfl ?_
      | (refine j_guard rfl rfl rfl rfl rfl ?_ ?_ <;> intro hc <;> (first | (exact absurd hc (by decide)) | ((try simp only [decide_eq_true_eq, decide_eq_false_iff_not, Bool.not_eq_true', Bool.not_eq_false', Bool.not_true, Bool.not_false, ne_eq, Decidable.not_not] at hc) <;> first | (exfalso; omega) | (exact absurd trivial hc) | skip))))
   | (refine gSC ?_
      first
      | refine sc_seq ?_
      | refine sc_region ?_
      | (refine sc_cond rfl ?_ ?_ <;> intro hc <;> (first | (exact absurd hc (by decide)) | ((try simp only [decide_eq_true_eq, decide_eq_false_iff_not, Bool.not_eq_true', Bool.not_eq_false', Bool.not_true, Bool.not_false, ne_eq, Decidable.not_not] at hc) <;> first | (exfalso; omega) | (exact absurd trivial hc) | skip)))
      | refine sc_block ?_
      | refine sc_ret ?_
      | refine sc_exit ?_
      | refine sc_skip ?_)
   | (refine gSQ ?_
      first
      | refine sq_seq ?_
      | refine sq_blk ?_
      | refine sq_seq_ret ?_
      | refine sq_blk_ret ?_
      | refine sq_loop_ret ?_
      | refine sq_seq_exit ?_
      | refine sq_blk_hit ?_
      | refine sq_blk_miss rfl ?_
      | refine sq_loop_exit ?_
      | refine sq_ende (.inl rfl) rfl rfl ⟨_, (RVs.cons (by first | exact RV.cell rfl rfl rfl (by (repeat (first | exact InL.here | apply InL.there))) (by rfl) | exact RV.cellA rfl rfl rfl (by (repeat (first | exact InL.here | apply InL.there))) (by rfl)) (RVs.cons (RV.tmp rfl) (RVs.nil))), ?_⟩
      | refine sq_ende (.inr rfl) rfl rfl ⟨_, (RVs.cons (by first | exact RV.cell rfl rfl rfl (by (repeat (first | exact InL.here | apply InL.there))) (by rfl) | exact RV.cellA rfl rfl rfl (by (repeat (first | exact InL.here | apply InL.there))) (by rfl)) (RVs.cons (RV.tmp rfl) (RVs.nil))), ?_⟩)
   | refine j_nil ?_
   )
  · rw [resolve_bad (by simp [*])]
    intro w' hS
    exact ⟨(.slice none 0 0, .slice none 0 0), trivial, rfl, (hS.own_nil.own_nil).sub (by repeat (first | exact LSub.refl | refine LSub.cons (by repeat (first | exact Rem.here | apply Rem.there)) ?_ | apply LSub.skip))⟩
  · rw [resolve_ok (by simp [*])]
    intro w' hS
    exact ⟨(.slice A1 (wayF l p d).pts.length c1, .slice A2 (wayF l p d).ords.length c2), trivial, rfl, hS.sub (by repeat (first | exact LSub.nil | refine LSub.cons (by repeat (first | exact Rem.here | apply Rem.there)) ?_))⟩
  · rw [resolve_bad (by simp [*])]
    intro w' hS
    exact ⟨(.slice none 0 0, .slice none 0 0), trivial, rfl, (hS.own_nil.own_nil).sub (by repeat (first | exact LSub.refl | refine LSub.cons (by repeat (first | exact Rem.here | apply Rem.there)) ?_ | apply LSub.skip))⟩
  · rw [resolve_bad (by simp [*])]
    intro w' hS
    exact ⟨(.slice none 0 0, .slice none 0 0), trivial, rfl, (hS.own_nil.own_nil).sub (by repeat (first | exact LSub.refl | refine LSub.cons (by repeat (first | exact Rem.here | apply Rem.there)) ?_ | apply LSub.skip))⟩
end Go.Proofs.Ytmcmmmaffdenjaa
