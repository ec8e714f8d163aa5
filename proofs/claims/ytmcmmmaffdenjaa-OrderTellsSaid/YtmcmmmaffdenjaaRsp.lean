/-
  letterbagref35: In, Spans.
-/
import Derived.Test.YtmcmmmaffdenjaaOsn
import Derived.Test.YtmcmmmaffdenjaaAw5
namespace Go.Proofs.Ytmcmmmaffdenjaa
open Go.RowKit Eng
set_option linter.unusedVariables false
set_option linter.unusedSimpArgs false
set_option maxHeartbeats 8000000
attribute [local irreducible] SC SQ J Qt Calls Iterates
theorem Tl.le {g : Int → Int} {z s : Int} {x : Sp} {R : List Sp} (h : Tl g z s (x :: R)) : x.l ≤ z := by
  obtain ⟨_, _, _, h4⟩ := h
  cases R with
  | nil => exact Int.le_of_eq h4
  | cons y R => exact Int.le_of_lt h4.1
/-- Spans that tell the same orders are the same. -/
theorem Tl_uniq {g : Int → Int} {z : Int} : ∀ (S S' : List Sp) (s : Int), Tl g z s S → Tl g z s S' → S = S'
  | [], _, _, h, _ => h.elim
  | _ :: _, [], _, _, h => h.elim
  | x :: R, x' :: R', s, h, h' => by
    have hne : ∀ {x x' : Sp} {R R' : List Sp}, Tl g z s (x :: R) → Tl g z s (x' :: R') → ¬ x.l < x'.l := by
      intro x x' R R' h h' hlt
      have hle := h'.le
      obtain ⟨a1, a2, a3, a4⟩ := h
      obtain ⟨b1, b2, b3, _⟩ := h'
      cases R with
      | nil => dsimp only at a4; omega
      | cons y R =>
        obtain ⟨c1, c2, c3⟩ := a4
        obtain ⟨d1, d2, d3, _⟩ := c3
        have e1 := d3 (x.l + 1) (Int.le_refl _) d2
        have e2 := b3 (x.l + 1) (by omega) (by omega)
        have e3 := a3 s (Int.le_refl _) a2
        have e4 := b3 s (Int.le_refl _) b2
        exact c2 (by omega)
    have h1 := hne h h'
    have h2 := hne h' h
    obtain ⟨a1, a2, a3, a4⟩ := h
    obtain ⟨b1, b2, b3, b4⟩ := h'
    have hl : x.l = x'.l := by omega
    have ho : x.o = x'.o := by rw [← a3 s (Int.le_refl _) a2, ← b3 s (Int.le_refl _) b2]
    have hx : x = x' := (sp_eq x x').2 ⟨by omega, hl, ho⟩
    subst hx
    congr 1
    cases R with
    | nil =>
      cases R' with
      | nil => rfl
      | cons y R' => dsimp only at a4 b4; omega
    | cons y R =>
      cases R' with
      | nil => dsimp only at a4 b4; omega
      | cons y' R' => exact Tl_uniq (y :: R) (y' :: R') (x.l + 1) a4.2.2 b4.2.2
theorem In2_c (A : Option Addr) (c : Nat) (l : List Od) (p d : Int) (w : World) (hok : okL l) (hl : l.length ≤ 1000) (h : RS w 6 odC A l) :
    Calls Try.prog 66 #[.slice A l.length c, .int .i64 p, .int .i64 d] w fun e w' => e = .returned (.int .i64 (fo l p d).idn) ∧ Below w.heap.size w w' := by
  have hall := fun w' h' => All2_c A c l p d w' hl h'
  have hhead : (∃ y, (allF l p d)[0]? = some y ∧ y.idn = (fo l p d).idn) ∨ ((allF l p d).length = 0 ∧ (fo l p d).idn = 0) := by
    rcases allF_head hok p d with ⟨e1, e2⟩ | ⟨R, e1, e2⟩
    · right; rw [e1, e2]; exact ⟨rfl, rfl⟩
    · left; rw [e1]; exact ⟨_, rfl, rfl⟩
  generalize allF l p d = Q at *
  generalize (fo l p d).idn = z at *
  generalize hn : l.length = n at *
  refine eng_start (n := 19) (args := [.slice A n c, .int .i64 p, .int .i64 d]) tab tab_ok fns fns_ok [.tmp 6] Try.func66 rfl rfl rfl rfl ?_
  rcases hhead with ⟨y, hy, rfl⟩ | ⟨hQ, rfl⟩
  · have hl9 := (List.getElem?_eq_some_iff.1 hy).1
    repeat' (first | (refine gJ ?_; first | refine js rfl rfl rfl rfl ?_ | (refine gload rfl rfl ?_; refine j_qe rfl rfl rfl ?_; first | refine ⟨_, q_load_own rfl rfl rfl rfl (by (repeat constructor)) (by first | rfl | assumption), ?_⟩ | refine ⟨_, q_loadA_own rfl rfl rfl rfl (by (repeat constructor)) (by rfl), ?_⟩ | refine ⟨_, q_loadA_ext rfl rfl rfl rfl ⟨by assumption, (by first | exact id | assumption)⟩ (by rfl), ?_⟩ | refine ⟨_, q_load_ext rfl rfl rfl rfl ⟨by assumption, (by first | exact id | assumption)⟩ (by first | rfl | assumption), ?_⟩ | refine ⟨_, q_load_extb rfl rfl rfl rfl ⟨by assumption, (by first | exact id | assumption)⟩ (by rfl), ?_⟩ | refine ⟨_, q_loadA_extb rfl rfl rfl rfl ⟨by assumption, (by first | exact id | assumption)⟩ (by rfl), ?_⟩ | refine ⟨_, q_load_ext0 rfl rfl rfl rfl ⟨by assumption, (by first | exact id | assumption)⟩ (by rfl), ?_⟩) | refine jfield rfl rfl rfl rfl rfl rfl rfl rfl ?_ | (refine gcall rfl rfl ?_; refine gF ?_; refine j_callN (f := 28) rfl rfl rfl rfl rfl rfl rfl (fun v => v) (fun _ => True) (fun v => [.own v 30 6 Q.length (Q.flatMap odC)]) (fun w' hs => hall w' (h.st hs)) (fun _ => trivial) ?_; rintro v1 _; refine j_ownp (v := v1) (by (repeat constructor)) hl9 ?_; rintro a1 c1 rfl hs1) | (refine j_qe rfl rfl rfl ?_; refine ⟨_, q_index_at 0 rfl rfl rfl rfl rfl (by omega), ?_⟩) | (refine j_qe rfl rfl rfl ?_; refine ⟨_, q_rowF (f := odC) (i := 0) (off := 0) rfl rfl rfl rfl (by (repeat constructor)) (fun _ => rfl) hy rfl, ?_⟩) | (refine j_qe rfl rfl rfl ?_; first | refine ⟨_, q_index_nat rfl rfl rfl rfl rfl (by omega), ?_⟩ | refine ⟨_, q_index_slice rfl rfl rfl rfl rfl (by omega), ?_⟩ | refine ⟨_, q_index_arr rfl rfl rfl rfl rfl (by omega), ?_⟩ | refine ⟨_, q_index_arr_ext rfl rfl rfl rfl rfl (by omega), ?_⟩ | refine ⟨_, q_len_slice rfl rfl rfl rfl, ?_⟩ | refine ⟨_, q_field_ext rfl rfl rfl rfl rfl, ?_⟩)) | (refine gSC ?_; first | refine sc_mv rfl ?_ | refine sc_q rfl ?_ | refine sc_region ?_) | (refine gSQ ?_; first | refine sq_go rfl ?_ | refine sq_mv rfl ?_ | refine sq_ende (by first | exact .inl rfl | exact .inr rfl) rfl rfl ⟨_, (RVs.cons (RV.tmp rfl) (RVs.nil)), ?_⟩) | refine j_nil ?_ | ((refine sc_cond rfl ?_ ?_) <;> intro hc <;> (first | exact absurd hc (by decide) | ((try simp only [engHC] at hc) <;> first | (exfalso; omega) | exact absurd trivial hc | skip))))
    (intro w' hS; refine ⟨?_, hS.below⟩; simp only [pack])
  · repeat' (first | (refine gJ ?_; first | refine js rfl rfl rfl rfl ?_ | (refine gload rfl rfl ?_; refine j_qe rfl rfl rfl ?_; first | refine ⟨_, q_load_own rfl rfl rfl rfl (by (repeat constructor)) (by first | rfl | assumption), ?_⟩ | refine ⟨_, q_loadA_own rfl rfl rfl rfl (by (repeat constructor)) (by rfl), ?_⟩ | refine ⟨_, q_loadA_ext rfl rfl rfl rfl ⟨by assumption, (by first | exact id | assumption)⟩ (by rfl), ?_⟩ | refine ⟨_, q_load_ext rfl rfl rfl rfl ⟨by assumption, (by first | exact id | assumption)⟩ (by first | rfl | assumption), ?_⟩ | refine ⟨_, q_load_extb rfl rfl rfl rfl ⟨by assumption, (by first | exact id | assumption)⟩ (by rfl), ?_⟩ | refine ⟨_, q_loadA_extb rfl rfl rfl rfl ⟨by assumption, (by first | exact id | assumption)⟩ (by rfl), ?_⟩ | refine ⟨_, q_load_ext0 rfl rfl rfl rfl ⟨by assumption, (by first | exact id | assumption)⟩ (by rfl), ?_⟩) | refine jfield rfl rfl rfl rfl rfl rfl rfl rfl ?_ | (refine gcall rfl rfl ?_; refine gF ?_; refine j_callN (f := 28) rfl rfl rfl rfl rfl rfl rfl (fun v => v) (fun _ => True) (fun v => [.own v 30 6 Q.length (Q.flatMap odC)]) (fun w' hs => hall w' (h.st hs)) (fun _ => trivial) ?_; rintro v1 _; refine j_owns (v := v1) (by (repeat constructor)) ?_; rintro A1 c1 rfl hs1) | (refine j_qe rfl rfl rfl ?_; first | refine ⟨_, q_index_nat rfl rfl rfl rfl rfl (by omega), ?_⟩ | refine ⟨_, q_index_slice rfl rfl rfl rfl rfl (by omega), ?_⟩ | refine ⟨_, q_index_arr rfl rfl rfl rfl rfl (by omega), ?_⟩ | refine ⟨_, q_index_arr_ext rfl rfl rfl rfl rfl (by omega), ?_⟩ | refine ⟨_, q_len_slice rfl rfl rfl rfl, ?_⟩ | refine ⟨_, q_field_ext rfl rfl rfl rfl rfl, ?_⟩)) | (refine gSC ?_; first | refine sc_mv rfl ?_ | refine sc_q rfl ?_ | refine sc_region ?_) | (refine gSQ ?_; first | refine sq_go rfl ?_ | refine sq_mv rfl ?_ | refine sq_ende (by first | exact .inl rfl | exact .inr rfl) rfl rfl ⟨_, (RVs.cons (RV.tmp rfl) (RVs.nil)), ?_⟩) | refine j_nil ?_ | ((refine sc_cond rfl ?_ ?_) <;> intro hc <;> (first | exact absurd hc (by decide) | ((try simp only [engHC] at hc) <;> first | (exfalso; omega) | exact absurd trivial hc | skip))))
    (intro w' hS; refine ⟨?_, hS.below⟩; simp only [pack])
set_option maxHeartbeats 8000000 in
theorem Spans2_c (A : Option Addr) (c : Nat) (l : List Od) (p a z : Int) (w : World) (hok : okL l) (hl : l.length ≤ 500) (ha : 0 ≤ a ∧ a ≤ z) (hz : z ≤ 730484) (h : RS w 6 odC A l) :
    Calls Try.prog 30 #[.slice A l.length c, .int .i64 p, .int .i64 a, .int .i64 z] w fun e w' => ∃ v : Value, True ∧ e = .returned v ∧ St w Cold [.own v 42 3 (spansF (ofP l p) a z).length ((spansF (ofP l p) a z).flatMap spC)] w' := by
  have hin := fun d w' h' => In2_c A c l p d w' hok (by omega) h'
  have htl := spans_tl (okL_filter (fun o => decide (o.frm = p)) hok) ha.2
  obtain ⟨g, hg⟩ : ∃ g : Int → Int, g = fun d => (fo l p d).idn := ⟨_, rfl⟩
  have hkey : ∀ S, Tl g z a S → S = spansF (ofP l p) a z := fun S hS => by
    subst hg
    exact Tl_uniq S _ a hS htl
  have hconst : ∀ u t, u ≤ t → (∀ (i : Nat) (o : Od), i < l.length → l[i]? = some o → o.frm = p → ¬ (u < o.st ∧ o.st ≤ t) ∧ (o.kd ≠ 1 → ¬ (u < o.en + 1 ∧ o.en + 1 ≤ t))) → g t = g u := fun u t hut hn => by
    rw [hg]
    show (frc (ofP l p) t).idn = (frc (ofP l p) u).idn
    rw [frc_congr (l := ofP l p) (d := t) (e := u) fun o ho => ?_]
    obtain ⟨hol, hop⟩ := List.mem_filter.1 ho
    obtain ⟨i, hi⟩ := List.getElem?_of_mem hol
    obtain ⟨n1, n2⟩ := hn i o (List.getElem?_eq_some_iff.1 hi).1 hi (of_decide_eq_true hop)
    rw [Bool.eq_iff_iff, cov_prop, cov_prop]
    constructor
    · rintro ⟨g1, g2⟩
      refine ⟨by omega, ?_⟩
      rcases g2 with g2 | g2
      · exact .inl g2
      · exact .inr (by omega)
    · rintro ⟨g1, g2⟩
      refine ⟨by omega, ?_⟩
      by_cases hk : o.kd = 1
      · exact .inl hk
      · right
        have := n2 hk
        omega
  have hrange : ∀ (i : Nat) (o : Od), l[i]? = some o → 0 ≤ o.st ∧ o.st ≤ 730484 ∧ -1 ≤ o.en ∧ o.en ≤ 730484 := fun i o hi => by
    have := okL_ok hok o (List.mem_of_getElem? hi)
    unfold okO idI dayI at this
    omega
  have hgi : ∀ d w', RS w' 6 odC A l → Calls Try.prog 66 #[.slice A l.length c, .int .i64 p, .int .i64 d] w' fun e w'' => e = .returned (.int .i64 (g d)) ∧ Below w'.heap.size w' w'' := fun d w' h' => by rw [hg]; exact hin d w' h'
  clear hin hg htl
  generalize hn : l.length = n at *
  refine eng_start (n := 113) (args := [.slice A n c, .int .i64 p, .int .i64 a, .int .i64 z]) tab tab_ok fns fns_ok [.tmp 8] Try.func30 rfl rfl rfl rfl ?_
  repeat' (first | (refine gJ ?_; first | refine js rfl rfl rfl rfl ?_ | (refine gload rfl rfl ?_; refine j_qe rfl rfl rfl ?_; first | refine ⟨_, q_load_own rfl rfl rfl rfl (by (repeat constructor)) (by first | rfl | assumption), ?_⟩ | refine ⟨_, q_loadA_own rfl rfl rfl rfl (by (repeat constructor)) (by rfl), ?_⟩ | refine ⟨_, q_loadA_ext rfl rfl rfl rfl ⟨by assumption, (by first | exact id | assumption)⟩ (by rfl), ?_⟩ | refine ⟨_, q_load_ext rfl rfl rfl rfl ⟨by assumption, (by first | exact id | assumption)⟩ (by first | rfl | assumption), ?_⟩ | refine ⟨_, q_load_extb rfl rfl rfl rfl ⟨by assumption, (by first | exact id | assumption)⟩ (by rfl), ?_⟩ | refine ⟨_, q_loadA_extb rfl rfl rfl rfl ⟨by assumption, (by first | exact id | assumption)⟩ (by rfl), ?_⟩ | refine ⟨_, q_load_ext0 rfl rfl rfl rfl ⟨by assumption, (by first | exact id | assumption)⟩ (by rfl), ?_⟩) | refine jfield rfl rfl rfl rfl rfl rfl rfl rfl ?_ | refine jar rfl rfl rfl rfl rfl rfl rfl (by omega) ?_ | (refine gcall rfl rfl ?_; first | (refine j_qc (f := 66) rfl rfl rfl rfl rfl rfl rfl ?_; refine ⟨_, (fun w' hs => hgi _ w' (h.st hs)), ?_⟩)) | (refine gF ?_; first | refine j_store rfl rfl rfl rfl rfl rfl rfl rfl (by (repeat constructor)) (by rfl) ?_ | (refine j_buildSlice rfl rfl rfl rfl rfl rfl rfl rfl rfl rfl rfl rfl ?_; intro b) | (refine j_append rfl rfl rfl rfl rfl rfl rfl rfl rfl rfl rfl (by (repeat constructor)) (by (repeat constructor)) (by rfl) (by rfl) (by omega) (fun _ => by (repeat constructor)) ?_; intro v)) | (refine j_qe rfl rfl rfl ?_; first | refine ⟨_, q_index_nat rfl rfl rfl rfl rfl (by omega), ?_⟩ | refine ⟨_, q_index_slice rfl rfl rfl rfl rfl (by omega), ?_⟩ | refine ⟨_, q_index_arr rfl rfl rfl rfl rfl (by omega), ?_⟩ | refine ⟨_, q_index_arr_ext rfl rfl rfl rfl rfl (by omega), ?_⟩ | refine ⟨_, q_len_slice rfl rfl rfl rfl, ?_⟩ | refine ⟨_, q_build_struct rfl rfl rfl rfl rfl, ?_⟩ | refine ⟨_, q_build_arr rfl rfl rfl rfl rfl, ?_⟩ | refine ⟨_, q_field_ext rfl rfl rfl rfl rfl, ?_⟩ | refine ⟨_, q_addu8 rfl rfl rfl (by omega), ?_⟩) | refine j_guard_undef rfl rfl rfl rfl rfl ?_) | (refine gSC ?_; first | refine sc_mv rfl ?_ | refine sc_q rfl ?_ | refine sc_region ?_) | (refine gSQ ?_; first | refine sq_go rfl ?_ | refine sq_mv rfl ?_ | refine sq_ende (by first | exact .inl rfl | exact .inr rfl) rfl rfl ⟨_, (RVs.cons (RV.tmp rfl) (RVs.nil)), ?_⟩) | refine j_nil ?_ | ((first | refine j_guard rfl rfl rfl rfl rfl ?_ ?_ | refine sc_cond rfl ?_ ?_) <;> intro hc <;> (first | exact absurd hc (by decide) | ((try simp only [engHC] at hc) <;> first | (exfalso; omega) | exact absurd trivial hc | skip))))
  refine sc_lit 3 (n := 1) (by (repeat constructor)) rfl (by omega) ?_
  refine sc_loop (ι := Int × List Sp × Int × Value) (fun i => a ≤ i.2.2.1 ∧ i.2.2.1 ≤ i.1 ∧ i.1 ≤ z ∧ (i.2.1.length : Int) ≤ i.2.2.1 - a ∧ (∀ t, i.2.2.1 ≤ t → t ≤ i.1 → g t = g i.1) ∧ ∀ S R l', S = (⟨i.2.2.1, l', g i.1⟩ : Sp) :: R → Tl g z i.2.2.1 S → Tl g z a (i.2.1 ++ S)) (fun i => (z - i.1).toNat) (fun i => [(0, .slice A n c), (1, .int .i64 p), (3, .int .i64 z), (9, i.2.2.2), (10, .int .i64 i.1)]) (fun i => [.own i.2.2.2 42 3 (i.2.1.length + 1) ((i.2.1 ++ [(⟨i.2.2.1, z, g i.1⟩ : Sp)]).flatMap spC)]) (a, [], a, .slice (some ⟨b, 0, none⟩) 1 1) ⟨Int.le_refl _, Int.le_refl _, ha.2, by simp, fun t t1 t2 => by rw [show t = a from Int.le_antisymm t2 t1], fun S R l' e hS => hS⟩ (by (try dsimp only); exact (by repeat (first | exact FSub.nil | refine FSub.cons rfl ?_ | refine FSub.conse rfl (by congr 1; omega) ?_))) (by repeat (first | exact LSub.refl | refine LSub.cons (by repeat (first | exact Rem.here | apply Rem.there)) ?_ | apply LSub.skip)) ?_
  rintro ⟨day, init, s, v0⟩ ⟨h1, h2, h3, h4, h5, h6⟩
  dsimp only at h1 h2 h3 h4 h5 h6 ⊢
  refine sc_ownq (v := v0) (by (repeat constructor)) (by omega) ?_
  rintro a0 c0 rfl hs0
  have hlen : (init ++ [(⟨s, z, g day⟩ : Sp)]).length = init.length + 1 := by simp
  have hlast : (init ++ [(⟨s, z, g day⟩ : Sp)])[init.length]? = some ⟨s, z, g day⟩ := by simp
  have hdone : (∀ t, s ≤ t → t ≤ z → g t = g day) → init ++ [(⟨s, z, g day⟩ : Sp)] = spansF (ofP l p) a z := fun hc => hkey _ (h6 _ [] z rfl ⟨rfl, by dsimp only; omega, fun t t1 t2 => hc t t1 t2, rfl⟩)
  by_cases hlt : day < z
  · repeat' (first | (refine gJ ?_; first | refine js rfl rfl rfl rfl ?_ | (refine gload rfl rfl ?_; refine j_qe rfl rfl rfl ?_; first | refine ⟨_, q_load_own rfl rfl rfl rfl (by (repeat constructor)) (by first | rfl | assumption), ?_⟩ | refine ⟨_, q_loadA_own rfl rfl rfl rfl (by (repeat constructor)) (by rfl), ?_⟩ | refine ⟨_, q_loadA_ext rfl rfl rfl rfl ⟨by assumption, (by first | exact id | assumption)⟩ (by rfl), ?_⟩ | refine ⟨_, q_load_ext rfl rfl rfl rfl ⟨by assumption, (by first | exact id | assumption)⟩ (by first | rfl | assumption), ?_⟩ | refine ⟨_, q_load_extb rfl rfl rfl rfl ⟨by assumption, (by first | exact id | assumption)⟩ (by rfl), ?_⟩ | refine ⟨_, q_loadA_extb rfl rfl rfl rfl ⟨by assumption, (by first | exact id | assumption)⟩ (by rfl), ?_⟩ | refine ⟨_, q_load_ext0 rfl rfl rfl rfl ⟨by assumption, (by first | exact id | assumption)⟩ (by rfl), ?_⟩) | refine jfield rfl rfl rfl rfl rfl rfl rfl rfl ?_ | refine jar rfl rfl rfl rfl rfl rfl rfl (by omega) ?_ | (refine gF ?_; first | refine j_store rfl rfl rfl rfl rfl rfl rfl rfl (by (repeat constructor)) (by rfl) ?_ | (refine j_buildSlice rfl rfl rfl rfl rfl rfl rfl rfl rfl rfl rfl rfl ?_; intro b) | (refine j_append rfl rfl rfl rfl rfl rfl rfl rfl rfl rfl rfl (by (repeat constructor)) (by (repeat constructor)) (by rfl) (by rfl) (by omega) (fun _ => by (repeat constructor)) ?_; intro v)) | (refine j_qe rfl rfl rfl ?_; first | refine ⟨_, q_index_nat rfl rfl rfl rfl rfl (by omega), ?_⟩ | refine ⟨_, q_index_slice rfl rfl rfl rfl rfl (by omega), ?_⟩ | refine ⟨_, q_index_arr rfl rfl rfl rfl rfl (by omega), ?_⟩ | refine ⟨_, q_index_arr_ext rfl rfl rfl rfl rfl (by omega), ?_⟩ | refine ⟨_, q_len_slice rfl rfl rfl rfl, ?_⟩ | refine ⟨_, q_build_struct rfl rfl rfl rfl rfl, ?_⟩ | refine ⟨_, q_build_arr rfl rfl rfl rfl rfl, ?_⟩ | refine ⟨_, q_field_ext rfl rfl rfl rfl rfl, ?_⟩ | refine ⟨_, q_addu8 rfl rfl rfl (by omega), ?_⟩) | refine j_guard_undef rfl rfl rfl rfl rfl ?_) | (refine gSC ?_; first | refine sc_mv rfl ?_ | refine sc_q rfl ?_ | refine sc_region ?_) | (refine gSQ ?_; first | refine sq_go rfl ?_ | refine sq_mv rfl ?_ | refine sq_ende (by first | exact .inl rfl | exact .inr rfl) rfl rfl ⟨_, (RVs.cons (RV.tmp rfl) (RVs.nil)), ?_⟩) | refine j_nil ?_ | ((first | refine j_guard rfl rfl rfl rfl rfl ?_ ?_ | refine sc_cond rfl ?_ ?_) <;> intro hc <;> (first | exact absurd hc (by decide) | ((try simp only [engHC] at hc) <;> first | (exfalso; omega) | exact absurd trivial hc | skip))))
    refine sc_loop (ι := Nat × Int) (fun i => i.1 ≤ n ∧ day < i.2 ∧ i.2 ≤ z + 1 ∧ ∀ (j : Nat) (o : Od), j < i.1 → l[j]? = some o → o.frm = p → ¬ (day < o.st ∧ o.st < i.2) ∧ (o.kd ≠ 1 → ¬ (day < o.en + 1 ∧ o.en + 1 < i.2))) (fun i => n - i.1) (fun i => [(0, .slice A n c), (1, .int .i64 p), (3, .int .i64 z), (9, .slice (some a0) (init.length + 1) c0), (10, .int .i64 day), (11, .int .i64 i.2), (12, .int .i64 i.1)]) (fun _ => [.own (.slice (some a0) (init.length + 1) c0) 42 3 (init.length + 1) ((init ++ [(⟨s, z, g day⟩ : Sp)]).flatMap spC)]) (0, z + 1) ⟨Nat.zero_le _, by omega, Int.le_refl _, fun j o hj => absurd hj (Nat.not_lt_zero j)⟩ (by (try dsimp only); exact (by repeat (first | exact FSub.nil | refine FSub.cons rfl ?_ | refine FSub.conse rfl (by congr 1; omega) ?_))) (by repeat (first | exact LSub.refl | refine LSub.cons (by repeat (first | exact Rem.here | apply Rem.there)) ?_ | apply LSub.skip)) ?_
    rintro ⟨i, nx⟩ ⟨g1, g2, g3, g4⟩
    dsimp only at g1 g2 g3 g4 ⊢
    by_cases hlt2 : i < n
    · obtain ⟨x, hx⟩ : ∃ x, l[i]? = some x := ⟨_, List.getElem?_eq_getElem (by omega)⟩
      obtain ⟨ad, rfl, hX⟩ := h i x hx
      have hxr := hrange i x hx
      have hstep : ∀ ny, day < ny → ny ≤ nx → (x.frm = p → ¬ (day < x.st ∧ x.st < ny) ∧ (x.kd ≠ 1 → ¬ (day < x.en + 1 ∧ x.en + 1 < ny))) → (i + 1 ≤ n ∧ day < ny ∧ ny ≤ z + 1 ∧ ∀ (j : Nat) (o : Od), j < i + 1 → l[j]? = some o → o.frm = p → ¬ (day < o.st ∧ o.st < ny) ∧ (o.kd ≠ 1 → ¬ (day < o.en + 1 ∧ o.en + 1 < ny))) := fun ny k1 k2 k3 => ⟨by omega, k1, by omega, fun j o hj ho hop => by
        by_cases hji : j = i
        · subst hji
          rw [hx] at ho
          injection ho with ho
          subst ho
          exact k3 hop
        · have := g4 j o (by omega) ho hop
          exact ⟨by omega, fun hk => by have := this.2 hk; omega⟩⟩
      clear hdone hkey h6 g4 hrange hconst hgi h5 hlast hlen
      repeat' (first | (refine gJ ?_; first | refine js rfl rfl rfl rfl ?_ | (refine gload rfl rfl ?_; refine j_qe rfl rfl rfl ?_; first | refine ⟨_, q_load_own rfl rfl rfl rfl (by (repeat constructor)) (by first | rfl | assumption), ?_⟩ | refine ⟨_, q_loadA_own rfl rfl rfl rfl (by (repeat constructor)) (by rfl), ?_⟩ | refine ⟨_, q_loadA_ext rfl rfl rfl rfl ⟨by assumption, (by first | exact id | assumption)⟩ (by rfl), ?_⟩ | refine ⟨_, q_load_ext rfl rfl rfl rfl ⟨by assumption, (by first | exact id | assumption)⟩ (by first | rfl | assumption), ?_⟩ | refine ⟨_, q_load_extb rfl rfl rfl rfl ⟨by assumption, (by first | exact id | assumption)⟩ (by rfl), ?_⟩ | refine ⟨_, q_loadA_extb rfl rfl rfl rfl ⟨by assumption, (by first | exact id | assumption)⟩ (by rfl), ?_⟩ | refine ⟨_, q_load_ext0 rfl rfl rfl rfl ⟨by assumption, (by first | exact id | assumption)⟩ (by rfl), ?_⟩) | refine jfield rfl rfl rfl rfl rfl rfl rfl rfl ?_ | refine jar rfl rfl rfl rfl rfl rfl rfl (by omega) ?_ | (refine gF ?_; first | refine j_store rfl rfl rfl rfl rfl rfl rfl rfl (by (repeat constructor)) (by rfl) ?_ | (refine j_buildSlice rfl rfl rfl rfl rfl rfl rfl rfl rfl rfl rfl rfl ?_; intro b) | (refine j_append rfl rfl rfl rfl rfl rfl rfl rfl rfl rfl rfl (by (repeat constructor)) (by (repeat constructor)) (by rfl) (by rfl) (by omega) (fun _ => by (repeat constructor)) ?_; intro v)) | (refine j_qe rfl rfl rfl ?_; first | refine ⟨_, q_index_nat rfl rfl rfl rfl rfl (by omega), ?_⟩ | refine ⟨_, q_index_slice rfl rfl rfl rfl rfl (by omega), ?_⟩ | refine ⟨_, q_index_arr rfl rfl rfl rfl rfl (by omega), ?_⟩ | refine ⟨_, q_index_arr_ext rfl rfl rfl rfl rfl (by omega), ?_⟩ | refine ⟨_, q_len_slice rfl rfl rfl rfl, ?_⟩ | refine ⟨_, q_build_struct rfl rfl rfl rfl rfl, ?_⟩ | refine ⟨_, q_build_arr rfl rfl rfl rfl rfl, ?_⟩ | refine ⟨_, q_field_ext rfl rfl rfl rfl rfl, ?_⟩ | refine ⟨_, q_addu8 rfl rfl rfl (by omega), ?_⟩) | refine j_guard_undef rfl rfl rfl rfl rfl ?_) | (refine gSC ?_; first | refine sc_mv rfl ?_ | refine sc_q rfl ?_ | refine sc_region ?_) | (refine gSQ ?_; first | refine sq_go rfl ?_ | refine sq_mv rfl ?_ | refine sq_ende (by first | exact .inl rfl | exact .inr rfl) rfl rfl ⟨_, (RVs.cons (RV.tmp rfl) (RVs.nil)), ?_⟩) | refine j_nil ?_ | ((first | refine j_guard rfl rfl rfl rfl rfl ?_ ?_ | refine sc_cond rfl ?_ ?_) <;> intro hc <;> (first | exact absurd hc (by decide) | ((try simp only [engHC] at hc) <;> first | (exfalso; omega) | exact absurd trivial hc | skip))))
      all_goals first
        | exact sq_loop (i + 1, nx) (hstep nx (by omega) (by omega) (fun hp => by first | exact absurd hp (by assumption) | exact ⟨by omega, fun hk => by first | exact absurd (by assumption) hk | omega⟩)) (by show n - (i + 1) < n - i; omega) (by (try dsimp only); exact (by repeat (first | exact FSub.nil | refine FSub.cons rfl ?_ | refine FSub.conse rfl (by congr 1; omega) ?_))) (by repeat (first | exact LSub.refl | refine LSub.cons (by repeat (first | exact Rem.here | apply Rem.there)) ?_ | apply LSub.skip))
        | exact sq_loop (i + 1, x.st) (hstep x.st (by omega) (by omega) (fun hp => ⟨by omega, fun hk => by first | exact absurd (by assumption) hk | omega⟩)) (by show n - (i + 1) < n - i; omega) (by (try dsimp only); exact (by repeat (first | exact FSub.nil | refine FSub.cons rfl ?_ | refine FSub.conse rfl (by congr 1; omega) ?_))) (by repeat (first | exact LSub.refl | refine LSub.cons (by repeat (first | exact Rem.here | apply Rem.there)) ?_ | apply LSub.skip))
        | exact sq_loop (i + 1, x.en + 1) (hstep (x.en + 1) (by omega) (by omega) (fun hp => ⟨by omega, fun hk => by first | exact absurd (by assumption) hk | omega⟩)) (by show n - (i + 1) < n - i; omega) (by (try dsimp only); exact (by repeat (first | exact FSub.nil | refine FSub.cons rfl ?_ | refine FSub.conse rfl (by congr 1; omega) ?_))) (by repeat (first | exact LSub.refl | refine LSub.cons (by repeat (first | exact Rem.here | apply Rem.there)) ?_ | apply LSub.skip))
    · have hstay : ∀ t, day ≤ t → t < nx → g t = g day := fun t t1 t2 => hconst day t t1 fun j o hj ho hop => by
        have := g4 j o (by omega) ho hop
        exact ⟨by omega, fun hk => by have := this.2 hk; omega⟩
      have hstay2 : ∀ t, s ≤ t → t < nx → g t = g day := fun t t1 t2 => by
        by_cases ht : t ≤ day
        · exact h5 t t1 ht
        · exact hstay t (by omega) t2
      clear hconst g4 hrange hstay h5
      by_cases hnz : z < nx
      · have hd := hdone fun t t1 t2 => hstay2 t t1 (by omega)
        repeat' (first | (refine gJ ?_; first | refine js rfl rfl rfl rfl ?_ | (refine gload rfl rfl ?_; refine j_qe rfl rfl rfl ?_; first | refine ⟨_, q_load_own rfl rfl rfl rfl (by (repeat constructor)) (by first | rfl | assumption), ?_⟩ | refine ⟨_, q_loadA_own rfl rfl rfl rfl (by (repeat constructor)) (by rfl), ?_⟩ | refine ⟨_, q_loadA_ext rfl rfl rfl rfl ⟨by assumption, (by first | exact id | assumption)⟩ (by rfl), ?_⟩ | refine ⟨_, q_load_ext rfl rfl rfl rfl ⟨by assumption, (by first | exact id | assumption)⟩ (by first | rfl | assumption), ?_⟩ | refine ⟨_, q_load_extb rfl rfl rfl rfl ⟨by assumption, (by first | exact id | assumption)⟩ (by rfl), ?_⟩ | refine ⟨_, q_loadA_extb rfl rfl rfl rfl ⟨by assumption, (by first | exact id | assumption)⟩ (by rfl), ?_⟩ | refine ⟨_, q_load_ext0 rfl rfl rfl rfl ⟨by assumption, (by first | exact id | assumption)⟩ (by rfl), ?_⟩) | refine jfield rfl rfl rfl rfl rfl rfl rfl rfl ?_ | refine jar rfl rfl rfl rfl rfl rfl rfl (by omega) ?_ | (refine gF ?_; first | refine j_store rfl rfl rfl rfl rfl rfl rfl rfl (by (repeat constructor)) (by rfl) ?_ | (refine j_buildSlice rfl rfl rfl rfl rfl rfl rfl rfl rfl rfl rfl rfl ?_; intro b) | (refine j_append rfl rfl rfl rfl rfl rfl rfl rfl rfl rfl rfl (by (repeat constructor)) (by (repeat constructor)) (by rfl) (by rfl) (by omega) (fun _ => by (repeat constructor)) ?_; intro v)) | (refine j_qe rfl rfl rfl ?_; first | refine ⟨_, q_index_nat rfl rfl rfl rfl rfl (by omega), ?_⟩ | refine ⟨_, q_index_slice rfl rfl rfl rfl rfl (by omega), ?_⟩ | refine ⟨_, q_index_arr rfl rfl rfl rfl rfl (by omega), ?_⟩ | refine ⟨_, q_index_arr_ext rfl rfl rfl rfl rfl (by omega), ?_⟩ | refine ⟨_, q_len_slice rfl rfl rfl rfl, ?_⟩ | refine ⟨_, q_build_struct rfl rfl rfl rfl rfl, ?_⟩ | refine ⟨_, q_build_arr rfl rfl rfl rfl rfl, ?_⟩ | refine ⟨_, q_field_ext rfl rfl rfl rfl rfl, ?_⟩ | refine ⟨_, q_addu8 rfl rfl rfl (by omega), ?_⟩) | refine j_guard_undef rfl rfl rfl rfl rfl ?_) | (refine gSC ?_; first | refine sc_mv rfl ?_ | refine sc_q rfl ?_ | refine sc_region ?_) | (refine gSQ ?_; first | refine sq_go rfl ?_ | refine sq_mv rfl ?_ | refine sq_ende (by first | exact .inl rfl | exact .inr rfl) rfl rfl ⟨_, (RVs.cons (RV.tmp rfl) (RVs.nil)), ?_⟩) | refine j_nil ?_ | ((first | refine j_guard rfl rfl rfl rfl rfl ?_ ?_ | refine sc_cond rfl ?_ ?_) <;> intro hc <;> (first | exact absurd hc (by decide) | ((try simp only [engHC] at hc) <;> first | (exfalso; omega) | exact absurd trivial hc | skip))))
        intro w' hS
        refine ⟨_, trivial, rfl, ?_⟩
        rw [← hd, hlen]
        exact hS.sub (by repeat (first | exact LSub.refl | refine LSub.cons (by repeat (first | exact Rem.here | apply Rem.there)) ?_ | apply LSub.skip))
      · by_cases hgn : g nx = g day
        · repeat' (first | (refine gJ ?_; first | refine js rfl rfl rfl rfl ?_ | (refine gload rfl rfl ?_; refine j_qe rfl rfl rfl ?_; first | refine ⟨_, q_load_own rfl rfl rfl rfl (by (repeat constructor)) (by first | rfl | assumption), ?_⟩ | refine ⟨_, q_loadA_own rfl rfl rfl rfl (by (repeat constructor)) (by rfl), ?_⟩ | refine ⟨_, q_loadA_ext rfl rfl rfl rfl ⟨by assumption, (by first | exact id | assumption)⟩ (by rfl), ?_⟩ | refine ⟨_, q_load_ext rfl rfl rfl rfl ⟨by assumption, (by first | exact id | assumption)⟩ (by first | rfl | assumption), ?_⟩ | refine ⟨_, q_load_extb rfl rfl rfl rfl ⟨by assumption, (by first | exact id | assumption)⟩ (by rfl), ?_⟩ | refine ⟨_, q_loadA_extb rfl rfl rfl rfl ⟨by assumption, (by first | exact id | assumption)⟩ (by rfl), ?_⟩ | refine ⟨_, q_load_ext0 rfl rfl rfl rfl ⟨by assumption, (by first | exact id | assumption)⟩ (by rfl), ?_⟩) | refine jfield rfl rfl rfl rfl rfl rfl rfl rfl ?_ | refine jar rfl rfl rfl rfl rfl rfl rfl (by omega) ?_ | (refine gcall rfl rfl ?_; first | (refine j_qc (f := 66) rfl rfl rfl rfl rfl rfl rfl ?_; refine ⟨_, (fun w' hs => hgi _ w' (h.st hs)), ?_⟩)) | (refine j_qe rfl rfl rfl ?_; refine ⟨_, q_index_at init.length rfl rfl rfl rfl rfl (by omega), ?_⟩) | (refine j_qe rfl rfl rfl ?_; refine ⟨_, q_rowF (f := spC) (i := init.length) (off := 2) rfl rfl rfl rfl (by (repeat constructor)) (fun _ => rfl) hlast rfl, ?_⟩) | (refine gF ?_; first | refine j_store rfl rfl rfl rfl rfl rfl rfl rfl (by (repeat constructor)) (by rfl) ?_ | (refine j_buildSlice rfl rfl rfl rfl rfl rfl rfl rfl rfl rfl rfl rfl ?_; intro b) | (refine j_append rfl rfl rfl rfl rfl rfl rfl rfl rfl rfl rfl (by (repeat constructor)) (by (repeat constructor)) (by rfl) (by rfl) (by omega) (fun _ => by (repeat constructor)) ?_; intro v)) | (refine j_qe rfl rfl rfl ?_; first | refine ⟨_, q_index_nat rfl rfl rfl rfl rfl (by omega), ?_⟩ | refine ⟨_, q_index_slice rfl rfl rfl rfl rfl (by omega), ?_⟩ | refine ⟨_, q_index_arr rfl rfl rfl rfl rfl (by omega), ?_⟩ | refine ⟨_, q_index_arr_ext rfl rfl rfl rfl rfl (by omega), ?_⟩ | refine ⟨_, q_len_slice rfl rfl rfl rfl, ?_⟩ | refine ⟨_, q_build_struct rfl rfl rfl rfl rfl, ?_⟩ | refine ⟨_, q_build_arr rfl rfl rfl rfl rfl, ?_⟩ | refine ⟨_, q_field_ext rfl rfl rfl rfl rfl, ?_⟩ | refine ⟨_, q_addu8 rfl rfl rfl (by omega), ?_⟩) | refine j_guard_undef rfl rfl rfl rfl rfl ?_) | (refine gSC ?_; first | refine sc_mv rfl ?_ | refine sc_q rfl ?_ | refine sc_region ?_) | (refine gSQ ?_; first | refine sq_go rfl ?_ | refine sq_mv rfl ?_ | refine sq_ende (by first | exact .inl rfl | exact .inr rfl) rfl rfl ⟨_, (RVs.cons (RV.tmp rfl) (RVs.nil)), ?_⟩) | refine j_nil ?_ | ((first | refine j_guard rfl rfl rfl rfl rfl ?_ ?_ | refine sc_cond rfl ?_ ?_) <;> intro hc <;> (first | exact absurd hc (by decide) | ((try simp only [engHC] at hc) <;> first | (exfalso; omega) | exact absurd trivial hc | skip))))
          refine sq_loop (nx, init, s, .slice (some a0) (init.length + 1) c0) ⟨h1, by dsimp only; omega, by dsimp only; omega, h4, fun t t1 t2 => ?_, fun S R l' e hS => h6 S R l' (by dsimp only at e; rw [e, hgn]) hS⟩ (by dsimp only; omega) (by (try dsimp only); exact (by repeat (first | exact FSub.nil | refine FSub.cons rfl ?_ | refine FSub.conse rfl (by congr 1; omega) ?_))) (by dsimp only; rw [hgn]; exact (by repeat (first | exact LSub.refl | refine LSub.cons (by repeat (first | exact Rem.here | apply Rem.there)) ?_ | apply LSub.skip)))
          dsimp only at t1 t2 ⊢
          rw [hgn]
          by_cases ht : t = nx
          · rw [ht]; exact hgn
          · exact hstay2 t t1 (by omega)
        · have hset : (init ++ [(⟨s, z, g day⟩ : Sp)]).set init.length ⟨s, nx - 1, g day⟩ = init ++ [⟨s, nx - 1, g day⟩] := by simp
          repeat' (first | (refine gJ ?_; first | refine js rfl rfl rfl rfl ?_ | (refine gload rfl rfl ?_; refine j_qe rfl rfl rfl ?_; first | refine ⟨_, q_load_own rfl rfl rfl rfl (by (repeat constructor)) (by first | rfl | assumption), ?_⟩ | refine ⟨_, q_loadA_own rfl rfl rfl rfl (by (repeat constructor)) (by rfl), ?_⟩ | refine ⟨_, q_loadA_ext rfl rfl rfl rfl ⟨by assumption, (by first | exact id | assumption)⟩ (by rfl), ?_⟩ | refine ⟨_, q_load_ext rfl rfl rfl rfl ⟨by assumption, (by first | exact id | assumption)⟩ (by first | rfl | assumption), ?_⟩ | refine ⟨_, q_load_extb rfl rfl rfl rfl ⟨by assumption, (by first | exact id | assumption)⟩ (by rfl), ?_⟩ | refine ⟨_, q_loadA_extb rfl rfl rfl rfl ⟨by assumption, (by first | exact id | assumption)⟩ (by rfl), ?_⟩ | refine ⟨_, q_load_ext0 rfl rfl rfl rfl ⟨by assumption, (by first | exact id | assumption)⟩ (by rfl), ?_⟩) | refine jfield rfl rfl rfl rfl rfl rfl rfl rfl ?_ | refine jar rfl rfl rfl rfl rfl rfl rfl (by omega) ?_ | (refine gcall rfl rfl ?_; first | (refine j_qc (f := 66) rfl rfl rfl rfl rfl rfl rfl ?_; refine ⟨_, (fun w' hs => hgi _ w' (h.st hs)), ?_⟩)) | (refine j_qe rfl rfl rfl ?_; refine ⟨_, q_index_at init.length rfl rfl rfl rfl rfl (by omega), ?_⟩) | (refine j_qe rfl rfl rfl ?_; refine ⟨_, q_rowF (f := spC) (i := init.length) (off := 2) rfl rfl rfl rfl (by (repeat constructor)) (fun _ => rfl) hlast rfl, ?_⟩) | (refine gF ?_; refine j_store_rowF (f := spC) (i := init.length) (off := 1) (z' := ⟨s, nx - 1, g day⟩) rfl rfl rfl rfl rfl rfl rfl rfl (by (repeat constructor)) (fun _ => rfl) hlast rfl (by rfl) (by (repeat constructor)) ?_) | (refine gF ?_; first | refine j_store rfl rfl rfl rfl rfl rfl rfl rfl (by (repeat constructor)) (by rfl) ?_ | (refine j_buildSlice rfl rfl rfl rfl rfl rfl rfl rfl rfl rfl rfl rfl ?_; intro b) | (refine j_append rfl rfl rfl rfl rfl rfl rfl rfl rfl rfl rfl (by (repeat constructor)) (by (repeat constructor)) (by rfl) (by rfl) (by omega) (fun _ => by (repeat constructor)) ?_; intro v)) | (refine j_qe rfl rfl rfl ?_; first | refine ⟨_, q_index_nat rfl rfl rfl rfl rfl (by omega), ?_⟩ | refine ⟨_, q_index_slice rfl rfl rfl rfl rfl (by omega), ?_⟩ | refine ⟨_, q_index_arr rfl rfl rfl rfl rfl (by omega), ?_⟩ | refine ⟨_, q_index_arr_ext rfl rfl rfl rfl rfl (by omega), ?_⟩ | refine ⟨_, q_len_slice rfl rfl rfl rfl, ?_⟩ | refine ⟨_, q_build_struct rfl rfl rfl rfl rfl, ?_⟩ | refine ⟨_, q_build_arr rfl rfl rfl rfl rfl, ?_⟩ | refine ⟨_, q_field_ext rfl rfl rfl rfl rfl, ?_⟩ | refine ⟨_, q_addu8 rfl rfl rfl (by omega), ?_⟩) | refine j_guard_undef rfl rfl rfl rfl rfl ?_) | (refine gSC ?_; first | refine sc_mv rfl ?_ | refine sc_q rfl ?_ | refine sc_region ?_) | (refine gSQ ?_; first | refine sq_go rfl ?_ | refine sq_mv rfl ?_ | refine sq_ende (by first | exact .inl rfl | exact .inr rfl) rfl rfl ⟨_, (RVs.cons (RV.tmp rfl) (RVs.nil)), ?_⟩) | refine j_nil ?_ | ((first | refine j_guard rfl rfl rfl rfl rfl ?_ ?_ | refine sc_cond rfl ?_ ?_) <;> intro hc <;> (first | exact absurd hc (by decide) | ((try simp only [engHC] at hc) <;> first | (exfalso; omega) | exact absurd trivial hc | skip))))
          rw [hset]
          have hrow : HA.own v 42 3 ((init ++ [(⟨s, nx - 1, g day⟩ : Sp)]).length + 1) (((init ++ [(⟨s, nx - 1, g day⟩ : Sp)]) ++ [(⟨nx, z, g nx⟩ : Sp)]).flatMap spC) = HA.own v 42 3 (init.length + 1 + 1) ((init ++ [(⟨s, nx - 1, g day⟩ : Sp)]).flatMap spC ++ spC ⟨nx, z, g nx⟩) := by
            rw [List.flatMap_append (xs := init ++ [(⟨s, nx - 1, g day⟩ : Sp)]), List.length_append]; simp
          refine sq_loop (nx, init ++ [(⟨s, nx - 1, g day⟩ : Sp)], nx, v) ⟨by dsimp only; omega, Int.le_refl _, by dsimp only; omega, by dsimp only; rw [List.length_append, List.length_singleton]; omega, fun t t1 t2 => by dsimp only at t1 t2 ⊢; rw [show t = nx from Int.le_antisymm t2 t1], fun S R l' e hS => ?_⟩ (by dsimp only; omega) (by (try dsimp only); exact (by repeat (first | exact FSub.nil | refine FSub.cons rfl ?_ | refine FSub.conse rfl (by congr 1; omega) ?_))) (by dsimp only; rw [hrow]; exact (by repeat (first | exact LSub.refl | refine LSub.cons (by repeat (first | exact Rem.here | apply Rem.there)) ?_ | apply LSub.skip)))
          dsimp only at e hS ⊢
          rw [List.append_assoc]
          subst e
          refine h6 (⟨s, nx - 1, g day⟩ :: ⟨nx, l', g nx⟩ :: R) _ (nx - 1) rfl ⟨rfl, by dsimp only; omega, fun t t1 t2 => hstay2 t t1 (by dsimp only at t2; omega), ?_⟩
          dsimp only
          exact ⟨by omega, fun e => hgn e.symm, by rw [show nx - 1 + 1 = nx from by omega]; exact hS⟩
  · have hd := hdone fun t t1 t2 => h5 t t1 (by omega)
    repeat' (first | (refine gJ ?_; first | refine js rfl rfl rfl rfl ?_ | (refine gload rfl rfl ?_; refine j_qe rfl rfl rfl ?_; first | refine ⟨_, q_load_own rfl rfl rfl rfl (by (repeat constructor)) (by first | rfl | assumption), ?_⟩ | refine ⟨_, q_loadA_own rfl rfl rfl rfl (by (repeat constructor)) (by rfl), ?_⟩ | refine ⟨_, q_loadA_ext rfl rfl rfl rfl ⟨by assumption, (by first | exact id | assumption)⟩ (by rfl), ?_⟩ | refine ⟨_, q_load_ext rfl rfl rfl rfl ⟨by assumption, (by first | exact id | assumption)⟩ (by first | rfl | assumption), ?_⟩ | refine ⟨_, q_load_extb rfl rfl rfl rfl ⟨by assumption, (by first | exact id | assumption)⟩ (by rfl), ?_⟩ | refine ⟨_, q_loadA_extb rfl rfl rfl rfl ⟨by assumption, (by first | exact id | assumption)⟩ (by rfl), ?_⟩ | refine ⟨_, q_load_ext0 rfl rfl rfl rfl ⟨by assumption, (by first | exact id | assumption)⟩ (by rfl), ?_⟩) | refine jfield rfl rfl rfl rfl rfl rfl rfl rfl ?_ | refine jar rfl rfl rfl rfl rfl rfl rfl (by omega) ?_ | (refine gF ?_; first | refine j_store rfl rfl rfl rfl rfl rfl rfl rfl (by (repeat constructor)) (by rfl) ?_ | (refine j_buildSlice rfl rfl rfl rfl rfl rfl rfl rfl rfl rfl rfl rfl ?_; intro b) | (refine j_append rfl rfl rfl rfl rfl rfl rfl rfl rfl rfl rfl (by (repeat constructor)) (by (repeat constructor)) (by rfl) (by rfl) (by omega) (fun _ => by (repeat constructor)) ?_; intro v)) | (refine j_qe rfl rfl rfl ?_; first | refine ⟨_, q_index_nat rfl rfl rfl rfl rfl (by omega), ?_⟩ | refine ⟨_, q_index_slice rfl rfl rfl rfl rfl (by omega), ?_⟩ | refine ⟨_, q_index_arr rfl rfl rfl rfl rfl (by omega), ?_⟩ | refine ⟨_, q_index_arr_ext rfl rfl rfl rfl rfl (by omega), ?_⟩ | refine ⟨_, q_len_slice rfl rfl rfl rfl, ?_⟩ | refine ⟨_, q_build_struct rfl rfl rfl rfl rfl, ?_⟩ | refine ⟨_, q_build_arr rfl rfl rfl rfl rfl, ?_⟩ | refine ⟨_, q_field_ext rfl rfl rfl rfl rfl, ?_⟩ | refine ⟨_, q_addu8 rfl rfl rfl (by omega), ?_⟩) | refine j_guard_undef rfl rfl rfl rfl rfl ?_) | (refine gSC ?_; first | refine sc_mv rfl ?_ | refine sc_q rfl ?_ | refine sc_region ?_) | (refine gSQ ?_; first | refine sq_go rfl ?_ | refine sq_mv rfl ?_ | refine sq_ende (by first | exact .inl rfl | exact .inr rfl) rfl rfl ⟨_, (RVs.cons (RV.tmp rfl) (RVs.nil)), ?_⟩) | refine j_nil ?_ | ((first | refine j_guard rfl rfl rfl rfl rfl ?_ ?_ | refine sc_cond rfl ?_ ?_) <;> intro hc <;> (first | exact absurd hc (by decide) | ((try simp only [engHC] at hc) <;> first | (exfalso; omega) | exact absurd trivial hc | skip))))
    intro w' hS
    refine ⟨_, trivial, rfl, ?_⟩
    rw [← hd, hlen]
    exact hS.sub (by repeat (first | exact LSub.refl | refine LSub.cons (by repeat (first | exact Rem.here | apply Rem.there)) ?_ | apply LSub.skip))
end Go.Proofs.Ytmcmmmaffdenjaa
