/-
  forward: Loops.
-/
import Derived.Test.YtmcmmmaffdenjaaLoo
namespace Go.Proofs.Ytmcmmmaffdenjaa
open Go.RowKit Eng
set_option linter.unusedVariables false
set_option linter.unusedSimpArgs false
set_option maxHeartbeats 8000000
attribute [local irreducible] SC SQ J Qt Calls Iterates
theorem isW_head {f : Int → Od} {met : List Int} {p : Int} {pts ords : List Int} {k u : Int} (h : IsW f met p pts ords k u) : pts[0]? = some p := by
  cases h <;> rfl
theorem way_isW {l : List Od} (h : rightL l) (p d : Int) : IsW (fun k => fo l k d) [] p (wayF l p d).pts (wayF l p d).ords (wayF l p d).kd (wayF l p d).un := by
  have h1 := way_ends h p d
  obtain ⟨s', b', hw⟩ : ∃ s' b', wrun ⟨[], [], 0, 0⟩ (along (fun k => fo l k d) 500 p) = (s', b') := ⟨_, _, rfl⟩
  rw [hw] at h1
  dsimp only at h1
  subst h1
  obtain ⟨pts, ords, h2, h3, h4⟩ := wrun_spec (fun k => fo l k d) 500 ⟨[], [], 0, 0⟩ p s' rfl hw
  have e : wayF l p d = s' := by unfold wayF way; rw [hw]
  rw [e, h3, h4]
  simpa using h2
theorem wrun_len : ∀ (ys : List (Int × Od)) (s : Wy), (wrun s ys).1.pts.length ≤ s.pts.length + ys.length
  | [], s => by simp [wrun]
  | y :: ys, s => by
    obtain ⟨s', j, h⟩ : ∃ s' j, wst s y = (s', j) := ⟨_, _, rfl⟩
    have h2 := (wst_len s y).1
    rw [h] at h2
    dsimp only at h2
    simp only [wrun, h, List.length_cons]
    cases j
    · have := wrun_len ys s'
      dsimp only
      omega
    · dsimp only
      omega
theorem way_len (l : List Od) (p d : Int) : (wayF l p d).pts.length ≤ 501 := by
  unfold wayF way
  have h1 := wrun_len (along (fun k => fo l k d) 500 p) ⟨[], [], 0, 0⟩
  have h2 := along_len (fun k => fo l k d) 500 p
  simp only [List.length_nil, Nat.zero_add] at h1
  omega
def lastD (l : List Int) : Int := (l[l.length - 1]?).getD 0
def isLp (l : List Od) (d x : Int) : Bool := decide ((wayF l x d).kd = 3 ∧ (fo l (lastD (wayF l x d).pts) d).to = x ∧ minF x ((wayF l x d).pts.drop 1) = x)
def loopsOf (l : List Od) (d : Int) (D : List Int) : List (List Int) := (D.filter (isLp l d)).map fun x => (wayF l x d).pts
def loopsF (l : List Od) (d : Int) : List (List Int) := loopsOf l d (ptsF l d)
theorem loops_yes {l : List Od} {d : Int} {D : List Int} {i : Nat} {x : Int} (hx : D[i]? = some x) (h : isLp l d x = true) : loopsOf l d (D.take (i + 1)) = loopsOf l d (D.take i) ++ [(wayF l x d).pts] := by
  unfold loopsOf
  rw [take_snocG hx, List.filter_append, List.map_append]
  simp [h]
theorem loops_no {l : List Od} {d : Int} {D : List Int} {i : Nat} {x : Int} (hx : D[i]? = some x) (h : ¬ isLp l d x = true) : loopsOf l d (D.take (i + 1)) = loopsOf l d (D.take i) := by
  unfold loopsOf
  rw [take_snocG hx, List.filter_append, List.map_append]
  simp [h]
abbrev LRow := Value × List Int
abbrev lrC (q : LRow) : List Value := [q.1]
abbrev rowsI (R : List LRow) : List HA := R.map fun q => .own q.1 3 1 q.2.length (q.2.flatMap intC)
theorem rowsI_snoc (R : List LRow) (q : LRow) : (HA.own q.1 3 1 q.2.length (q.2.flatMap intC) :: rowsI R).Perm (rowsI (R ++ [q])) := by
  simp only [rowsI, List.map_append, List.map_cons, List.map_nil]
  exact (List.perm_append_comm (l₁ := [_]))
theorem Loops_c (A : Option Addr) (c : Nat) (l : List Od) (d : Int) (w : World) (hl : l.length ≤ 9223372036854775807) (hr : rightB l = true) (hd : dayI d) (h : RS w 6 odC A l) :
    Calls Try.prog 44 #[.slice A l.length c, .int .i64 d] w fun e w' => ∃ x : Value × List LRow, x.2.map (·.2) = loopsF l d ∧ e = .returned (.tuple #[x.1, .int .i64 0]) ∧ St w Cold (.own x.1 60 1 x.2.length (x.2.flatMap lrC) :: rowsI x.2) w' := by
  have hrl := (rightB_iff l).1 hr
  have hR : ∀ w', RS w' 6 odC A l → Calls Try.prog 25 #[.slice A l.length c] w' fun e w'' => e = .returned (.bool (rightB l)) ∧ Below w'.heap.size w' w'' := fun w' h' => Right_c A c l w' hl h'
  have hle : l.length ≤ 500 := hrl.1
  have hB : ∀ w', RS w' 6 odC A l → Calls Try.prog 71 #[.slice A l.length c] w' _ := fun w' h' => byPoint_c A c l w' (by omega) h'
  have hpl := ptsF_len l d
  have hkeys : ∀ N, ChartP (fun k => fo l k d) N → sortI (N.map (·.1)) = ptsF l d := fun N hN => chart_keys hrl.2 hN
  rw [hr] at hR
  unfold loopsF
  generalize hn : l.length = n at *
  generalize hD : ptsF l d = D at *
  have hsrt : ∀ (w' : World) (L : List HA) (w0 : World) (bk bn : Nat) (N : List (Int × Od)), ChartP (fun k => fo l k d) N → St w0 Cold L w' → InL L (haMap bn .i64 (valsG odV N)) → InL L (.cells bk 108 [.map (some bn)]) → Calls Try.prog 75 #[.func (.func 91) #[] #[.pointer (some ⟨bk, 0, none⟩)]] w' fun e w'' => ∃ v : Value, True ∧ e = .returned v ∧ St w' Cold [.own v 3 1 D.length (D.flatMap intC)] w'' := by
    intro w' L w0 bk bn N hN hs h1 h2
    obtain ⟨es, clk, hG⟩ := hs.mapG h1
    have hk := hkeys N hN
    have e1 : (valsG odV N).map (·.1) = N.map (·.1) := by simp [valsG]
    have hlen : (valsG odV N).length ≤ 1000000 := by
      have h9 : (sortI (N.map (·.1))).length = N.length := by rw [sort_len]; simp
      rw [hk] at h9
      simp only [valsG, List.length_map]
      omega
    have := sorted_c 91 [.pointer (some ⟨bk, 0, none⟩)] ((valsG odV N).map (fun q : Int × Value => q.1)) (PreK (valsG odV N)) w' rfl (by simpa using hlen) (fun l hl => Nat.le_trans hl.len hlen) (keysO_hit bk bn (valsG odV N) es clk w' (hs.ext (b := bk) (cs := [.map (some bn)]) (u := 108) h2) hG)
    rw [e1, hk] at this
    exact this
  refine eng_start (n := 60) (args := [.slice A n c, .int .i64 d]) tab tab_ok fns fns_ok [.tmp 4, .tmp 5] Try.func44 rfl rfl rfl rfl ?_
  repeat' (first
   | (refine gJ ?_
      first
      | refine jmv rfl rfl rfl rfl rfl ?_
      | (refine gload rfl rfl ?_
         refine j_qe rfl rfl rfl ?_
         first
         | refine ⟨_, q_load_own rfl rfl rfl rfl (by (repeat (first | exact InL.here | apply InL.there))) (by first | rfl | assumption), ?_⟩
         | refine ⟨_, q_loadA_own rfl rfl rfl rfl (by (repeat (first | exact InL.here | apply InL.there))) (by rfl), ?_⟩
         | refine ⟨_, q_loadA_ext rfl rfl rfl rfl ⟨by assumption, (by first | exact id | assumption)⟩ (by rfl), ?_⟩
         | refine ⟨_, q_load_ext rfl rfl rfl rfl ⟨by assumption, (by first | exact id | assumption)⟩ (by first | rfl | assumption), ?_⟩
         | refine ⟨_, q_load_extb rfl rfl rfl rfl ⟨by assumption, (by first | exact id | assumption)⟩ (by rfl), ?_⟩
         | refine ⟨_, q_loadA_extb rfl rfl rfl rfl ⟨by assumption, (by first | exact id | assumption)⟩ (by rfl), ?_⟩
         | refine ⟨_, q_load_ext0 rfl rfl rfl rfl ⟨by assumption, (by first | exact id | assumption)⟩ (by rfl), ?_⟩)
      | refine jfield rfl rfl rfl rfl rfl rfl rfl rfl ?_
      | refine jcmp rfl rfl rfl rfl rfl rfl rfl ?_
      | refine jar rfl rfl rfl rfl rfl rfl rfl (by omega) ?_
      | (refine gcall rfl rfl ?_
         first
         | (refine j_qc (f := 25) rfl rfl rfl rfl rfl rfl rfl ?_; refine ⟨_, (fun w' hs => hR w' (h.st hs)), ?_⟩)
         | (refine j_qc (f := 69) rfl rfl rfl rfl rfl rfl rfl ?_; refine ⟨_, (fun w' _ => isDay2_c _ w'), ?_⟩))
      | (refine gcall rfl rfl ?_; refine gF ?_; refine j_callN (f := 71) rfl rfl rfl rfl rfl rfl rfl bpV (fun x => bpI l x.2) bpL (fun w' hs => hB w' (h.st hs)) bpL_plain ?_; rintro ⟨bm, M⟩ hM; refine j_perm bp_perm0 ?_)
      | (refine gcall rfl rfl ?_; refine gF ?_; refine j_callN (f := 70) rfl rfl rfl rfl rfl rfl rfl chV (fun y => ChartP (fun k => fo l k d) y.2) chL (fun w' hs => on_f l d M bm hs (by (repeat (first | exact InL.here | apply InL.there))) (fun y hy => List.mem_cons_of_mem _ (List.mem_append_right _ hy)) hr hd hM) chL_plain ?_; rintro ⟨bn, N⟩ hN)
      | (refine gcall rfl rfl ?_; refine gF ?_; refine j_callN (f := 76) rfl rfl rfl rfl rfl rfl rfl (fun b : Nat => .func (.func 91) #[] #[.pointer (some ⟨b, 0, none⟩)]) (fun _ => True) (fun b => [.cells b 108 [.map (some bn)]]) (fun w' hs => keysO_c bn w') (fun _ => trivial) ?_; intro bk _)
      | (refine gcall rfl rfl ?_; refine gF ?_; refine j_callN (f := 75) rfl rfl rfl rfl rfl rfl rfl (fun v : Value => v) (fun _ => True) (fun v => [.own v 3 1 D.length (D.flatMap intC)]) (fun w' hs => hsrt w' _ _ bk bn N hN hs (by (repeat (first | exact InL.here | apply InL.there))) (by (repeat (first | exact InL.here | apply InL.there)))) (fun _ => trivial) ?_; rintro v9 _; refine j_owns (v := v9) (by (repeat (first | exact InL.here | apply InL.there))) ?_; rintro A9 c9 rfl hs9)
      | (refine gF ?_
         first
         | refine j_store rfl rfl rfl rfl rfl rfl rfl rfl (by (repeat (first | exact Upd.here | apply Upd.there))) (by rfl) ?_
         | (refine j_alloc rfl rfl rfl rfl rfl ?_; intro b)
         | (refine j_buildSlice rfl rfl rfl rfl rfl rfl rfl rfl rfl rfl rfl rfl ?_; intro b)
         | (refine j_append rfl rfl rfl rfl rfl rfl rfl rfl rfl rfl rfl (by (repeat (first | exact InL.here | apply InL.there))) (by (repeat (first | exact InL.here | apply InL.there))) (by rfl) (by rfl) (by omega) (fun _ => by (repeat (first | exact Upd.here | apply Upd.there))) ?_; intro v))
      | (refine j_qe rfl rfl rfl ?_
         first
         | refine ⟨_, q_pick_t rfl rfl rfl, ?_⟩
         | refine ⟨_, q_pick_f rfl rfl rfl, ?_⟩
         | refine ⟨_, q_not rfl rfl, ?_⟩
         | refine ⟨_, q_index_nat rfl rfl rfl rfl rfl (by omega), ?_⟩
         | refine ⟨_, q_index_slice rfl rfl rfl rfl rfl (by omega), ?_⟩
         | refine ⟨_, q_index_arr rfl rfl rfl rfl rfl (by omega), ?_⟩
         | refine ⟨_, q_index_arr_ext rfl rfl rfl rfl rfl (by omega), ?_⟩
         | refine ⟨_, q_len_slice rfl rfl rfl rfl, ?_⟩
         | refine ⟨_, q_field_ext rfl rfl rfl rfl rfl, ?_⟩
         | refine ⟨_, q_addu8 rfl rfl rfl (by omega), ?_⟩)
      | refine j_guard_undef rfl rfl rfl rfl rfl ?_
      | (refine j_guard rfl rfl rfl rfl rfl ?_ ?_ <;> intro hc <;> (first | (exact absurd hc (by decide)) | ((try simp only [decide_eq_true_eq, decide_eq_false_iff_not, Bool.not_eq_true', Bool.not_eq_false', Bool.not_true, Bool.not_false, ne_eq, Decidable.not_not] at hc) <;> first | (exfalso; omega) | (exact absurd trivial hc) | skip))))
   | (refine gSC ?_
      first
      | refine sc_seq ?_
      | refine sc_region ?_
      | (refine sc_cond rfl ?_ ?_ <;> intro hc <;> (first | (exact absurd hc (by decide)) | ((try simp only [decide_eq_true_eq, decide_eq_false_iff_not, Bool.not_eq_true', Bool.not_eq_false', Bool.not_true, Bool.not_false, ne_eq, Decidable.not_not] at hc) <;> first | (exfalso; omega) | (exact absurd trivial hc) | skip)))
      | refine sc_block ?_
      | refine sc_ret ?_
      | refine sc_exit ?_
      | refine sc_skip ?_)
   | (refine gSQ ?_
      first
      | refine sq_seq ?_
      | refine sq_blk ?_
      | refine sq_seq_ret ?_
      | refine sq_blk_ret ?_
      | refine sq_loop_ret ?_
      | refine sq_seq_exit ?_
      | refine sq_blk_hit ?_
      | refine sq_blk_miss rfl ?_
      | refine sq_loop_exit ?_
      | refine sq_ende (.inl rfl) rfl rfl ⟨_, (RVs.cons (RV.tmp rfl) (RVs.cons (RV.tmp rfl) (RVs.nil))), ?_⟩
      | refine sq_ende (.inr rfl) rfl rfl ⟨_, (RVs.cons (RV.tmp rfl) (RVs.cons (RV.tmp rfl) (RVs.nil))), ?_⟩)
   | refine j_nil ?_
   )
  · exact absurd hd hc
  · refine sc_own_nil_at 60 1 ?_
    refine sc_loop (ι := Nat × Value × List LRow) (fun i => i.1 ≤ D.length ∧ i.2.2.length ≤ i.1 ∧ i.2.2.map (·.2) = loopsOf l d (D.take i.1)) (fun i => D.length - i.1) (fun i => [(6, .map (some bn)), (7, i.2.1), (25, .slice A9 D.length c9), (26, .int .i64 D.length), (27, .int .i64 i.1)]) (fun i => .own i.2.1 60 1 i.2.2.length (i.2.2.flatMap lrC) :: .own (.slice A9 D.length c9) 3 1 D.length (D.flatMap intC) :: haMap bn .i64 (valsG odV N) :: rowsI i.2.2) (0, .slice none 0 0, []) ⟨by omega, by simp, rfl⟩ (by repeat (first | exact FSub.nil | refine FSub.cons rfl ?_ | refine FSub.conse rfl (by congr 1; omega) ?_)) (by repeat (first | exact LSub.nil | refine LSub.cons (by repeat (first | exact Rem.here | apply Rem.there)) ?_)) ?_
    rintro ⟨i, vr, R⟩ ⟨hi, hRl, hR2⟩
    dsimp only at hi hRl hR2 ⊢
    by_cases hlt : i < D.length
    · obtain ⟨x, hx⟩ : ∃ x, D[i]? = some x := ⟨_, List.getElem?_eq_getElem hlt⟩
      obtain ⟨ad, rfl⟩ : ∃ ad, A9 = some ad := by
        cases A9 with
        | none => have := (hs9.nil rfl).1; omega
        | some ad => exact ⟨ad, rfl⟩
      have hhd := isW_head (way_isW hrl x d)
      have hwl := way_len l x d
      have hyes := loops_yes (l := l) (d := d) hx
      have hno := loops_no (l := l) (d := d) hx
      have hpath : ∀ (w' : World) (L : List HA) (w0 : World), St w0 Cold L w' → InL L (haMap bn .i64 (valsG odV N)) → Calls Try.prog 72 #[.map (some bn), .int .i64 x] w' fun e w'' => ∃ y : Value × Value, True ∧ e = .returned (wyV y (wayF l x d)) ∧ St w' Cold (wyL (wayF l x d) y) w'' := fun w' L w0 hs hin => path_f l x d N bn hs hin hr hN
      have hlp : isLp l d x = decide ((wayF l x d).kd = 3 ∧ (fo l (lastD (wayF l x d).pts) d).to = x ∧ minF x ((wayF l x d).pts.drop 1) = x) := rfl
      generalize wayF l x d = W at *
      obtain ⟨y, hy⟩ : ∃ y, W.pts[W.pts.length - 1]? = some y := ⟨_, List.getElem?_eq_getElem (by have := (List.getElem?_eq_some_iff.1 hhd).1; omega)⟩
      have hly : lastD W.pts = y := by unfold lastD; rw [hy]; rfl
      rw [hly] at hlp
      have hlook := chF_v N y (odV odZ) rfl
      rw [chF_fo hrl.2 hN] at hlook
      have hpos := (List.getElem?_eq_some_iff.1 hhd).1
      repeat' (first
       | (refine gJ ?_
          first
          | refine jmv rfl rfl rfl rfl rfl ?_
          | (refine gload rfl rfl ?_
             refine j_qe rfl rfl rfl ?_
             first
             | refine ⟨_, q_load_own rfl rfl rfl rfl (by (repeat (first | exact InL.here | apply InL.there))) (by first | rfl | assumption), ?_⟩
             | refine ⟨_, q_loadA_own rfl rfl rfl rfl (by (repeat (first | exact InL.here | apply InL.there))) (by rfl), ?_⟩
             | refine ⟨_, q_loadA_ext rfl rfl rfl rfl ⟨by assumption, (by first | exact id | assumption)⟩ (by rfl), ?_⟩
             | refine ⟨_, q_load_ext rfl rfl rfl rfl ⟨by assumption, (by first | exact id | assumption)⟩ (by first | rfl | assumption), ?_⟩
             | refine ⟨_, q_load_extb rfl rfl rfl rfl ⟨by assumption, (by first | exact id | assumption)⟩ (by rfl), ?_⟩
             | refine ⟨_, q_loadA_extb rfl rfl rfl rfl ⟨by assumption, (by first | exact id | assumption)⟩ (by rfl), ?_⟩
             | refine ⟨_, q_load_ext0 rfl rfl rfl rfl ⟨by assumption, (by first | exact id | assumption)⟩ (by rfl), ?_⟩)
          | refine jfield rfl rfl rfl rfl rfl rfl rfl rfl ?_
          | refine jcmp rfl rfl rfl rfl rfl rfl rfl ?_
          | refine jar rfl rfl rfl rfl rfl rfl rfl (by omega) ?_
          | (refine gcall rfl rfl ?_
             first
             | (refine j_qc (f := 77) rfl rfl rfl rfl rfl rfl rfl ?_; refine ⟨_, (fun w' hs => last_c A1 c1 W.pts A2 W.ords.length c2 _ _ y w' (by omega) hy (rs_own (f := intC) (fun _ => rfl) hs (by (repeat (first | exact InL.here | apply InL.there))) rfl rfl)), ?_⟩)
             | (refine j_qc (f := 78) rfl rfl rfl rfl rfl rfl rfl ?_; refine ⟨_, (fun w' hs => by obtain ⟨ad1, e1⟩ : ∃ ad1, A1 = some ad1 := (by cases A1 with | none => (have := (hs1.nil rfl).1; omega) | some a => exact ⟨a, rfl⟩); subst e1; exact min_c ad1 c1 W.pts x w' (by omega) hhd (rs_own (f := intC) (fun _ => rfl) hs (by (repeat (first | exact InL.here | apply InL.there))) rfl rfl)), ?_⟩))
          | (refine j_qe rfl rfl rfl ?_; refine ⟨_, q_row1 (f := intC) rfl rfl rfl rfl (by (repeat (first | exact InL.here | apply InL.there))) (fun _ => rfl) hx rfl, ?_⟩)
          | (refine gcall rfl rfl ?_; refine gF ?_; refine j_callN (f := 72) rfl rfl rfl rfl rfl rfl rfl (fun y => wyV y W) (fun _ => True) (wyL W) (fun w' hs => hpath w' _ _ hs (by (repeat (first | exact InL.here | apply InL.there)))) (fun _ => trivial) ?_; rintro ⟨v1, v2⟩ _; refine j_owns (v := v1) (by (repeat (first | exact InL.here | apply InL.there))) ?_; rintro A1 c1 rfl hs1; refine j_owns (v := v2) (by (repeat (first | exact InL.here | apply InL.there))) ?_; rintro A2 c2 rfl hs2)
          | (refine j_qe rfl rfl rfl ?_; refine ⟨_, q_lookup (v := odV (fo l y d)) rfl rfl rfl rfl rfl rfl rfl rfl (by (repeat (first | exact InL.here | apply InL.there))) hlook, ?_⟩)
          | (refine j_qe rfl rfl rfl ?_; refine ⟨_, q_fieldv rfl Try.underlying30 rfl rfl rfl rfl rfl, ?_⟩)
          | (refine gF ?_; refine j_append rfl rfl rfl rfl rfl rfl rfl rfl rfl rfl rfl (by (repeat (first | exact InL.here | apply InL.there))) (by (repeat (first | exact InL.here | apply InL.there))) (by rfl) (by rfl) (by omega) (fun _ => by (repeat (first | exact Upd.here | apply Upd.there))) ?_; intro v)
          | (refine gF ?_
             first
             | refine j_store rfl rfl rfl rfl rfl rfl rfl rfl (by (repeat (first | exact Upd.here | apply Upd.there))) (by rfl) ?_
             | (refine j_alloc rfl rfl rfl rfl rfl ?_; intro b)
             | (refine j_buildSlice rfl rfl rfl rfl rfl rfl rfl rfl rfl rfl rfl rfl ?_; intro b)
             | (refine j_append rfl rfl rfl rfl rfl rfl rfl rfl rfl rfl rfl (by (repeat (first | exact InL.here | apply InL.there))) (by (repeat (first | exact InL.here | apply InL.there))) (by rfl) (by rfl) (by omega) (fun _ => by (repeat (first | exact Upd.here | apply Upd.there))) ?_; intro v))
          | (refine j_qe rfl rfl rfl ?_
             first
             | refine ⟨_, q_pick_t rfl rfl rfl, ?_⟩
             | refine ⟨_, q_pick_f rfl rfl rfl, ?_⟩
             | refine ⟨_, q_not rfl rfl, ?_⟩
             | refine ⟨_, q_index_nat rfl rfl rfl rfl rfl (by omega), ?_⟩
             | refine ⟨_, q_index_slice rfl rfl rfl rfl rfl (by omega), ?_⟩
             | refine ⟨_, q_index_arr rfl rfl rfl rfl rfl (by omega), ?_⟩
             | refine ⟨_, q_index_arr_ext rfl rfl rfl rfl rfl (by omega), ?_⟩
             | refine ⟨_, q_len_slice rfl rfl rfl rfl, ?_⟩
             | refine ⟨_, q_field_ext rfl rfl rfl rfl rfl, ?_⟩
             | refine ⟨_, q_addu8 rfl rfl rfl (by omega), ?_⟩)
          | refine j_guard_undef rfl rfl rfl rfl rfl ?_
          | (refine j_guard rfl rfl rfl rfl rfl ?_ ?_ <;> intro hc <;> (first | (exact absurd hc (by decide)) | ((try simp only [decide_eq_true_eq, decide_eq_false_iff_not, Bool.not_eq_true', Bool.not_eq_false', Bool.not_true, Bool.not_false, ne_eq, Decidable.not_not] at hc) <;> first | (exfalso; omega) | (exact absurd trivial hc) | skip))))
       | (refine gSC ?_
          first
          | refine sc_seq ?_
          | refine sc_region ?_
          | (refine sc_cond rfl ?_ ?_ <;> intro hc <;> (first | (exact absurd hc (by decide)) | ((try simp only [decide_eq_true_eq, decide_eq_false_iff_not, Bool.not_eq_true', Bool.not_eq_false', Bool.not_true, Bool.not_false, ne_eq, Decidable.not_not] at hc) <;> first | (exfalso; omega) | (exact absurd trivial hc) | skip)))
          | refine sc_block ?_
          | refine sc_ret ?_
          | refine sc_exit ?_
          | refine sc_skip ?_)
       | (refine gSQ ?_
          first
          | refine sq_seq ?_
          | refine sq_blk ?_
          | refine sq_seq_ret ?_
          | refine sq_blk_ret ?_
          | refine sq_loop_ret ?_
          | refine sq_seq_exit ?_
          | refine sq_blk_hit ?_
          | refine sq_blk_miss rfl ?_
          | refine sq_loop_exit ?_
          | refine sq_ende (.inl rfl) rfl rfl ⟨_, (RVs.cons (RV.tmp rfl) (RVs.cons (RV.tmp rfl) (RVs.nil))), ?_⟩
          | refine sq_ende (.inr rfl) rfl rfl ⟨_, (RVs.cons (RV.tmp rfl) (RVs.cons (RV.tmp rfl) (RVs.nil))), ?_⟩)
       | refine j_nil ?_
       )
      · refine sq_loop (i + 1, v, R ++ [(.slice A1 W.pts.length c1, W.pts)]) ⟨by show i + 1 ≤ D.length; omega, by simp; omega, by rw [List.map_append, hR2, hyes (by rw [hlp]; exact decide_eq_true ⟨by assumption, by assumption, by assumption⟩)]; rfl⟩ (by show D.length - (i + 1) < D.length - i; omega) (by repeat (first | exact FSub.nil | refine FSub.cons rfl ?_ | refine FSub.conse rfl (by congr 1; omega) ?_)) ?_
        dsimp only
        rw [own_snoc]
        refine LSub.perm (L' := .own v 60 1 (R.length + 1) (R.flatMap lrC ++ lrC (.slice A1 W.pts.length c1, W.pts)) :: .own (.slice (some ad) D.length c9) 3 1 D.length (D.flatMap intC) :: haMap bn .i64 (valsG odV N) :: .own (.slice A1 W.pts.length c1) 3 1 W.pts.length (W.pts.flatMap intC) :: rowsI R) (by repeat (first | exact LSub.refl | refine LSub.cons (by repeat (first | exact Rem.here | apply Rem.there)) ?_ | apply LSub.skip)) ?_
        exact (((rowsI_snoc R (.slice A1 W.pts.length c1, W.pts)).cons _).cons _).cons _
      all_goals exact sq_loop (i + 1, vr, R) ⟨by show i + 1 ≤ D.length; omega, by show R.length ≤ i + 1; omega, by rw [hR2, hno (by rw [hlp, decide_eq_true_eq]; rintro ⟨e1, e2, e3⟩; contradiction)]⟩ (by show D.length - (i + 1) < D.length - i; omega) (by repeat (first | exact FSub.nil | refine FSub.cons rfl ?_ | refine FSub.conse rfl (by congr 1; omega) ?_)) (by repeat (first | exact LSub.refl | refine LSub.cons (by repeat (first | exact Rem.here | apply Rem.there)) ?_ | apply LSub.skip))
    · have e9 : D.take i = D := List.take_of_length_le (by omega)
      rw [e9] at hR2
      repeat' (first
       | (refine gJ ?_
          first
          | refine jmv rfl rfl rfl rfl rfl ?_
          | (refine gload rfl rfl ?_
             refine j_qe rfl rfl rfl ?_
             first
             | refine ⟨_, q_load_own rfl rfl rfl rfl (by (repeat (first | exact InL.here | apply InL.there))) (by first | rfl | assumption), ?_⟩
             | refine ⟨_, q_loadA_own rfl rfl rfl rfl (by (repeat (first | exact InL.here | apply InL.there))) (by rfl), ?_⟩
             | refine ⟨_, q_loadA_ext rfl rfl rfl rfl ⟨by assumption, (by first | exact id | assumption)⟩ (by rfl), ?_⟩
             | refine ⟨_, q_load_ext rfl rfl rfl rfl ⟨by assumption, (by first | exact id | assumption)⟩ (by first | rfl | assumption), ?_⟩
             | refine ⟨_, q_load_extb rfl rfl rfl rfl ⟨by assumption, (by first | exact id | assumption)⟩ (by rfl), ?_⟩
             | refine ⟨_, q_loadA_extb rfl rfl rfl rfl ⟨by assumption, (by first | exact id | assumption)⟩ (by rfl), ?_⟩
             | refine ⟨_, q_load_ext0 rfl rfl rfl rfl ⟨by assumption, (by first | exact id | assumption)⟩ (by rfl), ?_⟩)
          | refine jfield rfl rfl rfl rfl rfl rfl rfl rfl ?_
          | refine jcmp rfl rfl rfl rfl rfl rfl rfl ?_
          | refine jar rfl rfl rfl rfl rfl rfl rfl (by omega) ?_
          | (refine gF ?_
             first
             | refine j_store rfl rfl rfl rfl rfl rfl rfl rfl (by (repeat (first | exact Upd.here | apply Upd.there))) (by rfl) ?_
             | (refine j_alloc rfl rfl rfl rfl rfl ?_; intro b)
             | (refine j_buildSlice rfl rfl rfl rfl rfl rfl rfl rfl rfl rfl rfl rfl ?_; intro b)
             | (refine j_append rfl rfl rfl rfl rfl rfl rfl rfl rfl rfl rfl (by (repeat (first | exact InL.here | apply InL.there))) (by (repeat (first | exact InL.here | apply InL.there))) (by rfl) (by rfl) (by omega) (fun _ => by (repeat (first | exact Upd.here | apply Upd.there))) ?_; intro v))
          | (refine j_qe rfl rfl rfl ?_
             first
             | refine ⟨_, q_pick_t rfl rfl rfl, ?_⟩
             | refine ⟨_, q_pick_f rfl rfl rfl, ?_⟩
             | refine ⟨_, q_not rfl rfl, ?_⟩
             | refine ⟨_, q_index_nat rfl rfl rfl rfl rfl (by omega), ?_⟩
             | refine ⟨_, q_index_slice rfl rfl rfl rfl rfl (by omega), ?_⟩
             | refine ⟨_, q_index_arr rfl rfl rfl rfl rfl (by omega), ?_⟩
             | refine ⟨_, q_index_arr_ext rfl rfl rfl rfl rfl (by omega), ?_⟩
             | refine ⟨_, q_len_slice rfl rfl rfl rfl, ?_⟩
             | refine ⟨_, q_field_ext rfl rfl rfl rfl rfl, ?_⟩
             | refine ⟨_, q_addu8 rfl rfl rfl (by omega), ?_⟩)
          | refine j_guard_undef rfl rfl rfl rfl rfl ?_
          | (refine j_guard rfl rfl rfl rfl rfl ?_ ?_ <;> intro hc <;> (first | (exact absurd hc (by decide)) | ((try simp only [decide_eq_true_eq, decide_eq_false_iff_not, Bool.not_eq_true', Bool.not_eq_false', Bool.not_true, Bool.not_false, ne_eq, Decidable.not_not] at hc) <;> first | (exfalso; omega) | (exact absurd trivial hc) | skip))))
       | (refine gSC ?_
          first
          | refine sc_seq ?_
          | refine sc_region ?_
          | (refine sc_cond rfl ?_ ?_ <;> intro hc <;> (first | (exact absurd hc (by decide)) | ((try simp only [decide_eq_true_eq, decide_eq_false_iff_not, Bool.not_eq_true', Bool.not_eq_false', Bool.not_true, Bool.not_false, ne_eq, Decidable.not_not] at hc) <;> first | (exfalso; omega) | (exact absurd trivial hc) | skip)))
          | refine sc_block ?_
          | refine sc_ret ?_
          | refine sc_exit ?_
          | refine sc_skip ?_)
       | (refine gSQ ?_
          first
          | refine sq_seq ?_
          | refine sq_blk ?_
          | refine sq_seq_ret ?_
          | refine sq_blk_ret ?_
          | refine sq_loop_ret ?_
          | refine sq_seq_exit ?_
          | refine sq_blk_hit ?_
          | refine sq_blk_miss rfl ?_
          | refine sq_loop_exit ?_
          | refine sq_ende (.inl rfl) rfl rfl ⟨_, (RVs.cons (RV.tmp rfl) (RVs.cons (RV.tmp rfl) (RVs.nil))), ?_⟩
          | refine sq_ende (.inr rfl) rfl rfl ⟨_, (RVs.cons (RV.tmp rfl) (RVs.cons (RV.tmp rfl) (RVs.nil))), ?_⟩)
       | refine j_nil ?_
       )
      intro w' hS
      exact ⟨(vr, R), hR2, rfl, hS.sub (by repeat (first | exact LSub.refl | refine LSub.cons (by repeat (first | exact Rem.here | apply Rem.there)) ?_ | apply LSub.skip))⟩
theorem Loops_e (A : Option Addr) (c : Nat) (l : List Od) (d : Int) (w : World) (hl : l.length ≤ 9223372036854775807) (hr : ¬ (rightB l = true ∧ dayI d)) (h : RS w 6 odC A l) :
    Calls Try.prog 44 #[.slice A l.length c, .int .i64 d] w fun e w' => e = .returned (.tuple #[.slice none 0 0, .int .i64 2]) ∧ Below w.heap.size w w' := by
  have hR : ∀ w', RS w' 6 odC A l → Calls Try.prog 25 #[.slice A l.length c] w' fun e w'' => e = .returned (.bool (rightB l)) ∧ Below w'.heap.size w' w'' := fun w' h' => Right_c A c l w' hl h'
  generalize hn : l.length = n at *
  refine eng_start (n := 60) (args := [.slice A n c, .int .i64 d]) tab tab_ok fns fns_ok [.tmp 4, .tmp 5] Try.func44 rfl rfl rfl rfl ?_
  repeat' (first
   | (refine gJ ?_
      first
      | refine jmv rfl rfl rfl rfl rfl ?_
      | (refine gload rfl rfl ?_
         refine j_qe rfl rfl rfl ?_
         first
         | refine ⟨_, q_load_own rfl rfl rfl rfl (by (repeat (first | exact InL.here | apply InL.there))) (by first | rfl | assumption), ?_⟩
         | refine ⟨_, q_loadA_own rfl rfl rfl rfl (by (repeat (first | exact InL.here | apply InL.there))) (by rfl), ?_⟩
         | refine ⟨_, q_loadA_ext rfl rfl rfl rfl ⟨by assumption, (by first | exact id | assumption)⟩ (by rfl), ?_⟩
         | refine ⟨_, q_load_ext rfl rfl rfl rfl ⟨by assumption, (by first | exact id | assumption)⟩ (by first | rfl | assumption), ?_⟩
         | refine ⟨_, q_load_extb rfl rfl rfl rfl ⟨by assumption, (by first | exact id | assumption)⟩ (by rfl), ?_⟩
         | refine ⟨_, q_loadA_extb rfl rfl rfl rfl ⟨by assumption, (by first | exact id | assumption)⟩ (by rfl), ?_⟩
         | refine ⟨_, q_load_ext0 rfl rfl rfl rfl ⟨by assumption, (by first | exact id | assumption)⟩ (by rfl), ?_⟩)
      | refine jfield rfl rfl rfl rfl rfl rfl rfl rfl ?_
      | refine jcmp rfl rfl rfl rfl rfl rfl rfl ?_
      | refine jar rfl rfl rfl rfl rfl rfl rfl (by omega) ?_
      | (refine gcall rfl rfl ?_
         first
         | (refine j_qc (f := 25) rfl rfl rfl rfl rfl rfl rfl ?_; refine ⟨_, (fun w' hs => hR w' (h.st hs)), ?_⟩)
         | (refine j_qc (f := 69) rfl rfl rfl rfl rfl rfl rfl ?_; refine ⟨_, (fun w' _ => isDay2_c _ w'), ?_⟩))
      | (refine gF ?_
         first
         | refine j_store rfl rfl rfl rfl rfl rfl rfl rfl (by (repeat (first | exact Upd.here | apply Upd.there))) (by rfl) ?_
         | (refine j_alloc rfl rfl rfl rfl rfl ?_; intro b)
         | (refine j_buildSlice rfl rfl rfl rfl rfl rfl rfl rfl rfl rfl rfl rfl ?_; intro b)
         | (refine j_append rfl rfl rfl rfl rfl rfl rfl rfl rfl rfl rfl (by (repeat (first | exact InL.here | apply InL.there))) (by (repeat (first | exact InL.here | apply InL.there))) (by rfl) (by rfl) (by omega) (fun _ => by (repeat (first | exact Upd.here | apply Upd.there))) ?_; intro v))
      | (refine j_qe rfl rfl rfl ?_
         first
         | refine ⟨_, q_pick_t rfl rfl rfl, ?_⟩
         | refine ⟨_, q_pick_f rfl rfl rfl, ?_⟩
         | refine ⟨_, q_not rfl rfl, ?_⟩
         | refine ⟨_, q_index_nat rfl rfl rfl rfl rfl (by omega), ?_⟩
         | refine ⟨_, q_index_slice rfl rfl rfl rfl rfl (by omega), ?_⟩
         | refine ⟨_, q_index_arr rfl rfl rfl rfl rfl (by omega), ?_⟩
         | refine ⟨_, q_index_arr_ext rfl rfl rfl rfl rfl (by omega), ?_⟩
         | refine ⟨_, q_len_slice rfl rfl rfl rfl, ?_⟩
         | refine ⟨_, q_field_ext rfl rfl rfl rfl rfl, ?_⟩
         | refine ⟨_, q_addu8 rfl rfl rfl (by omega), ?_⟩)
      | refine j_guard_undef rfl rfl rfl rfl rfl ?_
      | (refine j_guard rfl rfl rfl rfl rfl ?_ ?_ <;> intro hc <;> (first | (exact absurd hc (by decide)) | ((try simp only [decide_eq_true_eq, decide_eq_false_iff_not, Bool.not_eq_true', Bool.not_eq_false', Bool.not_true, Bool.not_false, ne_eq, Decidable.not_not] at hc) <;> first | (exfalso; omega) | (exact absurd trivial hc) | skip))))
   | (refine gSC ?_
      first
      | refine sc_seq ?_
      | refine sc_region ?_
      | (refine sc_cond rfl ?_ ?_ <;> intro hc <;> (first | (exact absurd hc (by decide)) | ((try simp only [decide_eq_true_eq, decide_eq_false_iff_not, Bool.not_eq_true', Bool.not_eq_false', Bool.not_true, Bool.not_false, ne_eq, Decidable.not_not] at hc) <;> first | (exfalso; omega) | (exact absurd trivial hc) | skip)))
      | refine sc_block ?_
      | refine sc_ret ?_
      | refine sc_exit ?_
      | refine sc_skip ?_)
   | (refine gSQ ?_
      first
      | refine sq_seq ?_
      | refine sq_blk ?_
      | refine sq_seq_ret ?_
      | refine sq_blk_ret ?_
      | refine sq_loop_ret ?_
      | refine sq_seq_exit ?_
      | refine sq_blk_hit ?_
      | refine sq_blk_miss rfl ?_
      | refine sq_loop_exit ?_
      | refine sq_ende (.inl rfl) rfl rfl ⟨_, (RVs.cons (RV.tmp rfl) (RVs.cons (RV.tmp rfl) (RVs.nil))), ?_⟩
      | refine sq_ende (.inr rfl) rfl rfl ⟨_, (RVs.cons (RV.tmp rfl) (RVs.cons (RV.tmp rfl) (RVs.nil))), ?_⟩)
   | refine j_nil ?_
   )
  all_goals first | (exact absurd ⟨by assumption, by assumption⟩ hr) | ((intro w' hS; refine ⟨?_, hS.below⟩; simp only [pack]); done) | skip
end Go.Proofs.Ytmcmmmaffdenjaa
