/-
  The lexicon: hits, an iterator over an iterator.
-/
import Derived.Test.YtagndgidfaladaaNu
import Derived.Test.YtagndgidfaladaaEd3
import Derived.Test.YtagndgidfaladaaEngCoreB
namespace Go.Proofs.Ytagndgidfaladaa
open Go.RowKit Eng
set_option linter.unusedVariables false
set_option linter.unusedSimpArgs false
set_option maxHeartbeats 8000000
attribute [local irreducible] SC SQ J Qt Calls Iterates LSub FSub
abbrev htC (h : Ht) : List Value := [.int .i64 h.w, .int .i64 h.c]
abbrev encH (x : Ht) (S : Nat → Prop) (vs : List Value) (w : World) : Prop := vs = [.agg (htC x).toArray]
def PreH (W : List (List UInt8)) (s : List UInt8) (c : Cs) (most : Int) (l : List Ht) : Prop := ∃ r, (l ++ r).Perm ((numU W []).filterMap (hitO W s c most))
def YsH (W : List (List UInt8)) (s : List UInt8) (c : Cs) (most : Int) (l : List Ht) : Prop := l.Perm ((numU W []).filterMap (hitO W s c most))
theorem LX.near {w w' : World} {W : List (List UInt8)} {bx rb rm : Nat} {A0 : Option Addr} {c0 : Nat} {ar : List Nd} (h : LX w W bx rb rm A0 c0 ar) (hn : Near w.heap.size Cold w w') : LX w' W bx rb rm A0 c0 ar where
  aw := h.aw
  hd := h.hd
  top := h.top.later hn.below (Nat.le_refl _)
  ws := h.ws.later hn.below (Nat.le_refl _)
  sl := h.sl
  nd := fun x hx => by
    obtain ⟨h1, es, clk, h2⟩ := h.nd x hx
    exact ⟨h1.later hn.below (Nat.le_refl _), es, clk, h2.near hn h2.lt (fun e => e)⟩
/-- Near, by what is far off. -/
theorem Near.cold {w w1 w2 : World} {S : Nat → Prop} (h : Near w.heap.size Cold w w1) (hS : ∀ z, S z → w.heap.size ≤ z) (h2 : Near w1.heap.size S w1 w2) : Near w.heap.size Cold w w2 :=
  h.trans ⟨h2.os, h2.tape, h2.output, h2.size, fun k hk _ => h2.block k (Nat.lt_of_lt_of_le hk h.size) (fun e => by have := hS k e; omega)⟩
theorem hits_c (bx : Nat) (s : List UInt8) (c : Cs) (most : Int) (w : World) : Calls Try.prog 28 #[ptrV bx, strV s, csV c, .int .i64 most] w fun e w' => ∃ i : Nat × Nat × Nat × Nat, True ∧ e = .returned (.func (.func 41) #[] #[ptrV i.1, ptrV i.2.1, ptrV i.2.2.1, ptrV i.2.2.2]) ∧ St w Cold [.cells i.1 28 [ptrV bx], .cells i.2.1 9 [strV s], .cells i.2.2.1 24 (csC c), .cells i.2.2.2 3 [.int .i64 most]] w' := by
  refine eng_start (n := 10) (args := [ptrV bx, strV s, csV c, .int .i64 most]) tab tab_ok fns fns_ok [.tmp 8] Try.func28 rfl rfl rfl rfl ?_
  repeat' (first | (refine gJ ?_; first | refine js rfl rfl rfl rfl ?_ | (refine gF ?_; refine j_box rfl rfl rfl rfl rfl ?_; intro b5) | (refine gF ?_; first | (refine j_box rfl rfl rfl rfl rfl ?_; intro b)) | (refine j_qe rfl rfl rfl ?_; first | refine ⟨_, q_makeFunc rfl rfl, ?_⟩)) | (refine gSC ?_; first | refine sc_mv rfl ?_ | refine sc_q rfl ?_ | refine sc_region ?_) | (refine gSQ ?_; first | refine sq_go rfl ?_ | refine sq_mv rfl ?_ | refine sq_ende (by first | exact .inl rfl | exact .inr rfl) rfl rfl ⟨_, (RVs.cons (RV.tmp rfl) (RVs.nil)), ?_⟩) | refine j_nil ?_ | ((refine sc_cond rfl ?_ ?_) <;> intro hc <;> (first | exact absurd hc (by decide) | ((try simp only [engHC] at hc) <;> first | (exfalso; omega) | exact absurd trivial hc | skip))))
  intro w' hS
  exact ⟨(_, _, _, _), trivial, rfl, hS.sub (by repeat (first | exact LSub.nil | refine LSub.cons (by repeat (first | exact Rem.here | apply Rem.there)) ?_))⟩
def stH {τ : Type} (stp : τ → Ht → τ × Bool) (W : List (List UInt8)) (s : List UInt8) (c : Cs) (most : Int) (t : τ) (x : Int) : τ × Option Code := match hitO W s c most x with
  | some y => ((stp t y).1, if (stp t y).2 = true then none else some Code.ret)
  | none => (t, none)
theorem runs_stH {τ : Type} (stp : τ → Ht → τ × Bool) (W : List (List UInt8)) (s : List UInt8) (c : Cs) (most : Int) : ∀ (xs : List Int) (t : τ), (runsJ (stH stp W s c most) t xs).1 = runsB stp t (xs.filterMap (hitO W s c most))
  | [], t => rfl
  | x :: xs, t => by
    cases hx : hitO W s c most x with
    | none =>
      rw [List.filterMap_cons_none hx, ← runs_stH stp W s c most xs t]
      simp only [runsJ, stH, hx]
    | some y =>
      rw [List.filterMap_cons_some hx]
      cases hst : (stp t y).2 with
      | true =>
        rw [runsB_cons_t hst, ← runs_stH stp W s c most xs]
        simp only [runsJ, stH, hx, hst]
        rfl
      | false =>
        rw [runsB_cons_f hst]
        simp only [runsJ, stH, hx, hst]
        rfl
theorem fold_stH {τ : Type} (stp : τ → Ht → τ × Bool) (W : List (List UInt8)) (s : List UInt8) (c : Cs) (most : Int) : ∀ (xs : List Int) (t : τ), xs.foldl (fun t x => (stH stp W s c most t x).1) t = trc stp t (xs.filterMap (hitO W s c most))
  | [], t => rfl
  | x :: xs, t => by
    rw [List.foldl_cons, fold_stH stp W s c most xs]
    cases hx : hitO W s c most x with
    | none => rw [List.filterMap_cons_none hx]; simp only [stH, hx]
    | some y => rw [List.filterMap_cons_some hx]; simp only [stH, hx]; rfl
theorem runs_stH_j {τ : Type} (stp : τ → Ht → τ × Bool) (W : List (List UInt8)) (s : List UInt8) (c : Cs) (most : Int) : ∀ (xs : List Int) (t : τ) (c9 : Code), (runsJ (stH stp W s c most) t xs).2 = some c9 → c9 = Code.ret
  | [], t, c9, e => by cases e
  | x :: xs, t, c9, e => by
    cases hx : hitO W s c most x with
    | none =>
      simp only [runsJ, stH, hx] at e
      exact runs_stH_j stp W s c most xs t c9 e
    | some y =>
      cases hst : (stp t y).2 with
      | true =>
        simp only [runsJ, stH, hx, hst] at e
        exact runs_stH_j stp W s c most xs _ c9 e
      | false =>
        simp only [runsJ, stH, hx, hst] at e
        simp at e
        exact e.symm
set_option maxRecDepth 4000 in
set_option maxHeartbeats 32000000 in
theorem hits_hit {w : World} {W : List (List UInt8)} {bx rb rm : Nat} {A0 : Option Addr} {c0 : Nat} {ar : List Nd} (h : LX w W bx rb rm A0 c0 ar) (hok : WsOk W) (s : List UInt8) (c : Cs) (most : Int) (hc9 : csOk c) (hsl : s.length ≤ 60) (b1 b2 b3 b4 : Nat)
    (e1 : Ext w ⟨b1, 0, none⟩ [ptrV bx]) (e2 : Ext w ⟨b2, 0, none⟩ [strV s]) (e3 : Ext w ⟨b3, 0, none⟩ (csC c)) (e4 : Ext w ⟨b4, 0, none⟩ [.int .i64 most]) :
    ∀ w' S0, Near w.heap.size Cold w w' → (∀ z, S0 z → w.heap.size ≤ z) → IteratesP Try.prog 41 [ptrV b1, ptrV b2, ptrV b3, ptrV b4] encH (PreH W s c most) (YsH W s c most) w' S0 := by
  intro w' S0 hn hS0 τ Jn stp live s0 la hcons hl0 hJ0
  have hl' := h.near hn
  have cold : ∀ z, z < w.heap.size → ¬ S0 z := fun z hz e => by have := hS0 z e; omega
  have E1 := e1.later hn.below (Nat.le_refl _)
  have hT := hl'.top
  have k1 : ¬ S0 b1 := cold b1 e1.lt
  have kx : ¬ S0 bx := cold bx h.top.lt
  refine eng_start_lent (n := 44) (args := [.func (.yield la) #[] #[], ptrV b1, ptrV b2, ptrV b3, ptrV b4]) tab tab_ok fns fns_ok [] _ _ Try.func41 rfl rfl rfl rfl (hcons.start hJ0) ?_
  repeat' (first | (refine gJ ?_; first | refine js rfl rfl rfl rfl ?_ | (refine gload rfl rfl ?_; refine j_qe rfl rfl rfl ?_; first | refine ⟨_, q_load_own rfl rfl rfl rfl (by (repeat constructor)) (by first | rfl | assumption), ?_⟩ | refine ⟨_, q_loadA_own rfl rfl rfl rfl (by (repeat constructor)) (by rfl), ?_⟩ | refine ⟨_, q_loadA_ext rfl rfl rfl rfl ⟨by assumption, (by first | exact id | assumption)⟩ (by rfl), ?_⟩ | refine ⟨_, q_load_ext rfl rfl rfl rfl ⟨by assumption, (by first | exact id | assumption)⟩ (by first | rfl | assumption), ?_⟩ | refine ⟨_, q_load_extb rfl rfl rfl rfl ⟨by assumption, (by first | exact id | assumption)⟩ (by rfl), ?_⟩ | refine ⟨_, q_loadA_extb rfl rfl rfl rfl ⟨by assumption, (by first | exact id | assumption)⟩ (by rfl), ?_⟩ | refine ⟨_, q_load_ext0 rfl rfl rfl rfl ⟨by assumption, (by first | exact id | assumption)⟩ (by rfl), ?_⟩) | refine jfield rfl rfl rfl rfl rfl rfl rfl rfl ?_ | (refine gcall rfl rfl ?_; refine gF ?_; refine j_callN (f := 37) rfl rfl rfl rfl rfl rfl rfl (fun bk : Nat => .func (.func 47) #[] #[ptrV bk]) (fun _ => True) (fun bk => [.cells bk 56 [ptrV rb]]) (fun w' hs => numbers_c _ w') (fun _ => trivial) ?_; rintro bk _) | (refine gF ?_; refine j_box rfl rfl rfl rfl rfl ?_; intro b5) | (refine gF ?_; first | (refine j_box rfl rfl rfl rfl rfl ?_; intro b)) | (refine j_qe rfl rfl rfl ?_; first | refine ⟨_, q_index_nat rfl rfl rfl rfl rfl (by omega), ?_⟩ | refine ⟨_, q_index_slice rfl rfl rfl rfl rfl (by omega), ?_⟩ | refine ⟨_, q_index_arr rfl rfl rfl rfl rfl (by omega), ?_⟩ | refine ⟨_, q_index_arr_ext rfl rfl rfl rfl rfl (by omega), ?_⟩ | refine ⟨_, q_build_struct rfl rfl rfl rfl rfl, ?_⟩ | refine ⟨_, q_build_arr rfl rfl rfl rfl rfl, ?_⟩ | refine ⟨_, q_field_ext rfl rfl rfl rfl rfl, ?_⟩) | refine j_guard_undef rfl rfl rfl rfl rfl ?_) | (refine gSC ?_; first | refine sc_mv rfl ?_ | refine sc_q rfl ?_ | refine sc_region ?_ | refine sc_draw rfl mixed (by kernel_rfl) ?_) | (refine gSQ ?_; first | refine sq_go rfl ?_ | refine sq_mv rfl ?_ | refine sq_ende (by first | exact .inl rfl | exact .inr rfl) rfl rfl ⟨_, (RVs.nil), ?_⟩) | refine j_nil ?_ | ((first | refine j_guard rfl rfl rfl rfl rfl ?_ ?_ | refine sc_cond rfl ?_ ?_) <;> intro hc <;> (first | exact absurd hc (by decide) | ((try simp only [engHC] at hc) <;> first | (exfalso; omega) | exact absurd trivial hc | skip))))
  refine sc_nowA (S := S0) (p := Jn s0 S0) (by (repeat constructor)) ?_
  intro w1 hS1
  have hS2 : St w' S0 [.cells bk 56 [ptrV rb], .cells b5 72 [.func (.yield la) #[] #[]], .abs S0 (Jn s0 S0)] w1 := hS1
  clear hS1
  have hk5 : Ext w1 ⟨b5, 0, none⟩ [.func (.yield la) #[] #[]] := hS2.ext (u := 72) (by (repeat constructor))
  have hkk : Ext w1 ⟨bk, 0, none⟩ [ptrV rb] := hS2.ext (u := 56) (by (repeat constructor))
  have hsp := List.pairwise_cons.1 hS2.sep
  have kk : ¬ S0 bk := hsp.1 (.abs S0 (Jn s0 S0)) (by simp) bk rfl
  have k5 : ¬ S0 b5 := (List.pairwise_cons.1 hsp.2).1 (.abs S0 (Jn s0 S0)) (by simp) b5 rfl
  have hn1 : Near w.heap.size Cold w w1 := Near.cold hn hS0 hS2.near
  have hcons1 := hcons.later hS2.near (fun z hz => .inl hz)
  have hN0 : ∀ y ∈ ar, NDS w1 S0 ar W y := fun y hy => (h.nds y hy).near hn1 (fun k hk => .inr (hS0 k hk))
  refine sc_rangeN (σ := τ) (ξ := Nat → Prop) encI (PreN W []) (YsN W []) (stH stp W s c most) (fun t S => [.abs S (Jn t S)]) s0 S0 live hl0 ?_ rfl rfl rfl (fun x S vs w h => by rw [h]; rfl) (parsLt rfl) (by repeat (first | exact LSub.nil | refine LSub.cons (by repeat (first | exact Rem.here | apply Rem.there)) ?_)) ?_ ?_ ?_ ?_ ?_
  · intro t x hl hj
    unfold stH at hj ⊢
    cases hx : hitO W s c most x with
    | none => exact hl
    | some y =>
      rw [hx] at hj
      dsimp only at hj ⊢
      cases hst : (stp t y).2 with
      | true => exact hcons.goes _ _ hl hst
      | false => rw [hst] at hj; simp at hj
  · intro t S S' p hm u u' hp hnn hk hb9
    simp only [List.mem_singleton, HA.abs.injEq] at hm
    obtain ⟨rfl, rfl⟩ := hm
    exact hcons1.stab _ _ _ _ hp hnn hk (fun z hz => (hb9 z hz).symm)
  · intro w2 l D r hS
    have hfo := fun z (hz : foots (haRec l r :: haDef D :: [HA.abs S0 (Jn s0 S0)]) z) => (foots_old (B := 0) hS hz).1
    refine nums_it bk (some ⟨rb, 0, none⟩) h.aw hok.nd [] (.inl ⟨⟨[], rb, rm⟩, h.root, rfl, rfl⟩) w2 _ (Ext_nr hkk hS.near hkk.lt kk) (fun e => (hfo _ e).elim (fun g => by have := hkk.lt; dsimp only at this g; omega) kk) (fun y hy => (hN0 y hy).near hS.near (fun z hz => (hfo z hz).symm))
  · intro l D r W1 t S x vs Q hlive henc hat hready hS3 hfin
    obtain ⟨pre, ⟨rr, hpre⟩, ht⟩ := hat
    have hxm : x ∈ numU W [] := hpre.mem_iff.1 (by simp)
    obtain ⟨k, u, hu, _, rfl⟩ := numU_mem.1 hxm
    subst henc
    rw [fold_stH] at ht
    obtain ⟨F9, hF9⟩ : ∃ F9, F9 = foots (haRec l r :: haDef D :: [HA.abs S (Jn t S)]) := ⟨_, rfl⟩
    have hfo : ∀ z, F9 z → S0 z ∨ w1.heap.size ≤ z := fun z hz => by rw [hF9] at hz; exact ((foots_old (B := 0) hS3 hz).1).symm
    have hn3 : Near w1.heap.size S0 w1 W1 := hS3.near
    have hn2 : Near w.heap.size Cold w W1 := Near.cold hn1 hS0 hn3
    have cold9 : ∀ z, z < w.heap.size → ¬ F9 z := fun z hz e => (hfo z e).elim (fun g => cold z hz g) (fun g => by have := hn1.size; omega)
    have hcons3 := hcons1.later hn3 hfo
    have hl3 := h.near hn2
    have g1 := e1.later hn2.below (Nat.le_refl _)
    have g2 := e2.later hn2.below (Nat.le_refl _)
    have g3 := e3.later hn2.below (Nat.le_refl _)
    have g4 := e4.later hn2.below (Nat.le_refl _)
    have gx := hl3.top
    have g5 := Ext_nr hk5 hn3 hk5.lt k5
    have d1 : ¬ F9 b1 := cold9 b1 e1.lt
    have d2 : ¬ F9 b2 := cold9 b2 e2.lt
    have d3 : ¬ F9 b3 := cold9 b3 e3.lt
    have d4 : ¬ F9 b4 := cold9 b4 e4.lt
    have dx : ¬ F9 bx := cold9 bx h.top.lt
    have d5 : ¬ F9 b5 := fun e => (hfo _ e).elim k5 (fun g => by have := hk5.lt; dsimp only at this g; omega)
    obtain ⟨ad, e9, gw⟩ := hl3.ws k u hu
    obtain ⟨ad0, e90, gw0⟩ := h.ws k u hu
    have ead : ad = ad0 := by rw [e9] at e90; injection e90
    subst ead
    subst e9
    have dw : ¬ F9 (ad.add (k * 1)).block := cold9 _ gw0.lt
    have hkl : k < W.length := (List.getElem?_eq_some_iff.1 hu).1
    have hwl := hok.len
    have hck : ckE s u c = 0 := by
      unfold ckE
      rw [if_pos hc9, if_neg]
      have := (hok.wd u (List.mem_of_getElem? hu)).2
      omega
    have hwi := fun w' => Within_c s u c most w'
    rw [hck] at hwi
    have hho : hitO W s c most (k : Int) = if dist c s u ≤ most then some ⟨(k : Int), dist c s u⟩ else none := by
      unfold hitO
      rw [Int.toNat_natCast, hu]
    have hwb : wiB s u c most = decide (dist c s u ≤ most) := by unfold wiB; rw [decide_eq_decide, hck]; exact ⟨fun g => g.2, fun g => ⟨rfl, g⟩⟩
    rw [hwb] at hwi
    have hSl := hl3.sl
    rw [← hF9] at hfin ⊢
    clear hS3 hS2 hcons1 hN0 hn1 hcons e1 e2 e3 e4 hkk hk5 hT gw0
    by_cases hds : dist c s u ≤ most
    · rw [decide_eq_true hds, if_pos rfl] at hwi
      rw [if_pos hds] at hho
      generalize hdi : dist c s u = dd at *
      obtain ⟨y, hy⟩ : ∃ y : Ht, y = ⟨(k : Int), dd⟩ := ⟨_, rfl⟩
      rw [← hy] at hho
      have hat : ∃ pre2, PreH W s c most (pre2 ++ [y]) ∧ t = trc stp s0 pre2 := by
        refine ⟨pre.filterMap (hitO W s c most), ⟨rr.filterMap (hitO W s c most), ?_⟩, ht⟩
        have h8 := hpre.filterMap (hitO W s c most)
        rw [List.filterMap_append, List.filterMap_append, List.filterMap_cons_some hho, List.filterMap_nil] at h8
        exact h8
      cases hst : (stp t y).2
      · have e : stH stp W s c most t (k : Int) = ((stp t y).1, some Code.ret) := by unfold stH; rw [hho]; dsimp only; rw [hst]; rfl
        rw [e] at hfin
        repeat' (first | (refine gJ ?_; first | refine js rfl rfl rfl rfl ?_ | (refine gload rfl rfl ?_; refine j_qe rfl rfl rfl ?_; first | refine ⟨_, q_load_own rfl rfl rfl rfl (by (repeat constructor)) (by first | rfl | assumption), ?_⟩ | refine ⟨_, q_loadA_own rfl rfl rfl rfl (by (repeat constructor)) (by rfl), ?_⟩ | refine ⟨_, q_loadA_ext rfl rfl rfl rfl ⟨by assumption, (by first | exact id | assumption)⟩ (by rfl), ?_⟩ | refine ⟨_, q_load_ext rfl rfl rfl rfl ⟨by assumption, (by first | exact id | assumption)⟩ (by first | rfl | assumption), ?_⟩ | refine ⟨_, q_load_extb rfl rfl rfl rfl ⟨by assumption, (by first | exact id | assumption)⟩ (by rfl), ?_⟩ | refine ⟨_, q_loadA_extb rfl rfl rfl rfl ⟨by assumption, (by first | exact id | assumption)⟩ (by rfl), ?_⟩ | refine ⟨_, q_load_ext0 rfl rfl rfl rfl ⟨by assumption, (by first | exact id | assumption)⟩ (by rfl), ?_⟩) | refine jfield rfl rfl rfl rfl rfl rfl rfl rfl ?_ | (refine gF ?_; first | (refine j_box rfl rfl rfl rfl rfl ?_; intro b)) | (refine j_qe rfl rfl rfl ?_; first | refine ⟨_, q_index_nat rfl rfl rfl rfl rfl (by omega), ?_⟩ | refine ⟨_, q_index_slice rfl rfl rfl rfl rfl (by omega), ?_⟩ | refine ⟨_, q_index_arr rfl rfl rfl rfl rfl (by omega), ?_⟩ | refine ⟨_, q_index_arr_ext rfl rfl rfl rfl rfl (by omega), ?_⟩ | refine ⟨_, q_build_struct rfl rfl rfl rfl rfl, ?_⟩ | refine ⟨_, q_build_arr rfl rfl rfl rfl rfl, ?_⟩ | refine ⟨_, q_field_ext rfl rfl rfl rfl rfl, ?_⟩) | refine j_guard_undef rfl rfl rfl rfl rfl ?_) | (refine gSC ?_; first | refine sc_mv rfl ?_ | refine sc_q rfl ?_ | refine sc_region ?_ | refine sc_draw rfl mixed (by kernel_rfl) ?_) | (refine gSQ ?_; first | refine sq_go rfl ?_ | refine sq_mv rfl ?_ | refine sq_ende (by first | exact .inl rfl | exact .inr rfl) rfl rfl ⟨_, (RVs.nil), ?_⟩) | refine j_nil ?_ | ((first | refine j_guard rfl rfl rfl rfl rfl ?_ ?_ | refine sc_cond rfl ?_ ?_) <;> intro hc <;> (first | exact absurd hc (by decide) | ((try simp only [engHC] at hc) <;> first | (exfalso; omega) | exact absurd trivial hc | skip))))
        refine sq_begin rfl hready (by (repeat constructor)) ?_
        repeat' (first | (refine gJ ?_; first | refine js rfl rfl rfl rfl ?_ | (refine gload rfl rfl ?_; refine j_qe rfl rfl rfl ?_; first | refine ⟨_, q_load_own rfl rfl rfl rfl (by (repeat constructor)) (by first | rfl | assumption), ?_⟩ | refine ⟨_, q_loadA_own rfl rfl rfl rfl (by (repeat constructor)) (by rfl), ?_⟩ | refine ⟨_, q_loadA_ext rfl rfl rfl rfl ⟨by assumption, (by first | exact id | assumption)⟩ (by rfl), ?_⟩ | refine ⟨_, q_load_ext rfl rfl rfl rfl ⟨by assumption, (by first | exact id | assumption)⟩ (by first | rfl | assumption), ?_⟩ | refine ⟨_, q_load_extb rfl rfl rfl rfl ⟨by assumption, (by first | exact id | assumption)⟩ (by rfl), ?_⟩ | refine ⟨_, q_loadA_extb rfl rfl rfl rfl ⟨by assumption, (by first | exact id | assumption)⟩ (by rfl), ?_⟩ | refine ⟨_, q_load_ext0 rfl rfl rfl rfl ⟨by assumption, (by first | exact id | assumption)⟩ (by rfl), ?_⟩) | refine jfield rfl rfl rfl rfl rfl rfl rfl rfl ?_ | (refine gcall rfl rfl ?_; first | (refine j_qc (f := 42) rfl rfl rfl rfl rfl rfl rfl ?_; refine ⟨_, (fun w' _ => hwi w'), ?_⟩)) | (refine j_qe rfl rfl rfl ?_; refine ⟨_, q_index_at k rfl rfl rfl rfl rfl ⟨rfl, by omega⟩, ?_⟩) | (refine j_yieldW hcons3 rfl rfl rfl rfl rfl rfl (x := y) hlive hat (fun w' hs => by rw [hy]; rfl) (by (repeat constructor)) (fun _ => by (repeat constructor)) ?_; intro S'; rw [hst]) | (refine gF ?_; first | (refine j_box rfl rfl rfl rfl rfl ?_; intro b)) | (refine j_qe rfl rfl rfl ?_; first | refine ⟨_, q_index_nat rfl rfl rfl rfl rfl (by omega), ?_⟩ | refine ⟨_, q_index_slice rfl rfl rfl rfl rfl (by omega), ?_⟩ | refine ⟨_, q_index_arr rfl rfl rfl rfl rfl (by omega), ?_⟩ | refine ⟨_, q_index_arr_ext rfl rfl rfl rfl rfl (by omega), ?_⟩ | refine ⟨_, q_build_struct rfl rfl rfl rfl rfl, ?_⟩ | refine ⟨_, q_build_arr rfl rfl rfl rfl rfl, ?_⟩ | refine ⟨_, q_field_ext rfl rfl rfl rfl rfl, ?_⟩) | refine j_guard_undef rfl rfl rfl rfl rfl ?_) | (refine gSC ?_; first | refine sc_mv rfl ?_ | refine sc_q rfl ?_ | refine sc_region ?_ | refine sc_auto 3 (.q 0 (.q 1 (.q 2 (.q 3 (.q 4 (.q 5 (.q 6 (.q 7 (.q 8 (.q 9 (.e 10 (.q 11 (.q 12 (.q 13 (.q 14 (.q 15 (.q 16 (.q 17 (.z))))))))))))))))))) mixed ?_ | refine sc_draw rfl mixed (by kernel_rfl) ?_) | (refine gJG ?_; first | refine jg_q rfl (by kernel_rfl) ?_ | refine jg_e (by kernel_rfl) rfl ?_ | refine jg_b (by kernel_rfl) rfl rfl ?_ ?_ | refine jg_done (by kernel_rfl) ?_) | (refine gSQ ?_; first | refine jg_next ?_ | (refine gFE ?_; first | refine jg_next0 ?_ | refine jg_next1 ?_ | refine jg_nextE (by first | exact LSub.refl | (repeat (first | exact LSub.refl | refine LSub.cons (by repeat (first | exact Rem.here | apply Rem.there)) ?_ | apply LSub.skip))) ?_) | refine sq_go rfl ?_ | refine sq_mv rfl ?_ | refine sq_ende (by first | exact .inl rfl | exact .inr rfl) rfl rfl ⟨_, (RVs.nil), ?_⟩) | refine j_nil ?_ | ((first | refine j_guard rfl rfl rfl rfl rfl ?_ ?_ | refine sc_cond rfl ?_ ?_) <;> intro hc <;> (first | exact absurd hc (by decide) | ((try simp only [engHC] at hc) <;> first | (exfalso; omega) | exact absurd trivial hc | skip))))
        refine hfin .ret (some Code.ret) S' _ _ _ rfl rfl (by repeat (first | exact Rem.here | apply Rem.there)) ?_
        exact (by repeat (first | exact LSub.refl | refine LSub.cons (by repeat (first | exact Rem.here | apply Rem.there)) ?_ | apply LSub.skip))
      · have e : stH stp W s c most t (k : Int) = ((stp t y).1, none) := by unfold stH; rw [hho]; dsimp only; rw [hst]; rfl
        rw [e] at hfin
        repeat' (first | (refine gJ ?_; first | refine js rfl rfl rfl rfl ?_ | (refine gload rfl rfl ?_; refine j_qe rfl rfl rfl ?_; first | refine ⟨_, q_load_own rfl rfl rfl rfl (by (repeat constructor)) (by first | rfl | assumption), ?_⟩ | refine ⟨_, q_loadA_own rfl rfl rfl rfl (by (repeat constructor)) (by rfl), ?_⟩ | refine ⟨_, q_loadA_ext rfl rfl rfl rfl ⟨by assumption, (by first | exact id | assumption)⟩ (by rfl), ?_⟩ | refine ⟨_, q_load_ext rfl rfl rfl rfl ⟨by assumption, (by first | exact id | assumption)⟩ (by first | rfl | assumption), ?_⟩ | refine ⟨_, q_load_extb rfl rfl rfl rfl ⟨by assumption, (by first | exact id | assumption)⟩ (by rfl), ?_⟩ | refine ⟨_, q_loadA_extb rfl rfl rfl rfl ⟨by assumption, (by first | exact id | assumption)⟩ (by rfl), ?_⟩ | refine ⟨_, q_load_ext0 rfl rfl rfl rfl ⟨by assumption, (by first | exact id | assumption)⟩ (by rfl), ?_⟩) | refine jfield rfl rfl rfl rfl rfl rfl rfl rfl ?_ | (refine gF ?_; first | (refine j_box rfl rfl rfl rfl rfl ?_; intro b)) | (refine j_qe rfl rfl rfl ?_; first | refine ⟨_, q_index_nat rfl rfl rfl rfl rfl (by omega), ?_⟩ | refine ⟨_, q_index_slice rfl rfl rfl rfl rfl (by omega), ?_⟩ | refine ⟨_, q_index_arr rfl rfl rfl rfl rfl (by omega), ?_⟩ | refine ⟨_, q_index_arr_ext rfl rfl rfl rfl rfl (by omega), ?_⟩ | refine ⟨_, q_build_struct rfl rfl rfl rfl rfl, ?_⟩ | refine ⟨_, q_build_arr rfl rfl rfl rfl rfl, ?_⟩ | refine ⟨_, q_field_ext rfl rfl rfl rfl rfl, ?_⟩) | refine j_guard_undef rfl rfl rfl rfl rfl ?_) | (refine gSC ?_; first | refine sc_mv rfl ?_ | refine sc_q rfl ?_ | refine sc_region ?_ | refine sc_draw rfl mixed (by kernel_rfl) ?_) | (refine gSQ ?_; first | refine sq_go rfl ?_ | refine sq_mv rfl ?_ | refine sq_ende (by first | exact .inl rfl | exact .inr rfl) rfl rfl ⟨_, (RVs.nil), ?_⟩) | refine j_nil ?_ | ((first | refine j_guard rfl rfl rfl rfl rfl ?_ ?_ | refine sc_cond rfl ?_ ?_) <;> intro hc <;> (first | exact absurd hc (by decide) | ((try simp only [engHC] at hc) <;> first | (exfalso; omega) | exact absurd trivial hc | skip))))
        refine sq_begin rfl hready (by (repeat constructor)) ?_
        repeat' (first | (refine gJ ?_; first | refine js rfl rfl rfl rfl ?_ | (refine gload rfl rfl ?_; refine j_qe rfl rfl rfl ?_; first | refine ⟨_, q_load_own rfl rfl rfl rfl (by (repeat constructor)) (by first | rfl | assumption), ?_⟩ | refine ⟨_, q_loadA_own rfl rfl rfl rfl (by (repeat constructor)) (by rfl), ?_⟩ | refine ⟨_, q_loadA_ext rfl rfl rfl rfl ⟨by assumption, (by first | exact id | assumption)⟩ (by rfl), ?_⟩ | refine ⟨_, q_load_ext rfl rfl rfl rfl ⟨by assumption, (by first | exact id | assumption)⟩ (by first | rfl | assumption), ?_⟩ | refine ⟨_, q_load_extb rfl rfl rfl rfl ⟨by assumption, (by first | exact id | assumption)⟩ (by rfl), ?_⟩ | refine ⟨_, q_loadA_extb rfl rfl rfl rfl ⟨by assumption, (by first | exact id | assumption)⟩ (by rfl), ?_⟩ | refine ⟨_, q_load_ext0 rfl rfl rfl rfl ⟨by assumption, (by first | exact id | assumption)⟩ (by rfl), ?_⟩) | refine jfield rfl rfl rfl rfl rfl rfl rfl rfl ?_ | (refine gcall rfl rfl ?_; first | (refine j_qc (f := 42) rfl rfl rfl rfl rfl rfl rfl ?_; refine ⟨_, (fun w' _ => hwi w'), ?_⟩)) | (refine j_qe rfl rfl rfl ?_; refine ⟨_, q_index_at k rfl rfl rfl rfl rfl ⟨rfl, by omega⟩, ?_⟩) | (refine j_yieldW hcons3 rfl rfl rfl rfl rfl rfl (x := y) hlive hat (fun w' hs => by rw [hy]; rfl) (by (repeat constructor)) (fun _ => by (repeat constructor)) ?_; intro S'; rw [hst]) | (refine gF ?_; first | (refine j_box rfl rfl rfl rfl rfl ?_; intro b)) | (refine j_qe rfl rfl rfl ?_; first | refine ⟨_, q_index_nat rfl rfl rfl rfl rfl (by omega), ?_⟩ | refine ⟨_, q_index_slice rfl rfl rfl rfl rfl (by omega), ?_⟩ | refine ⟨_, q_index_arr rfl rfl rfl rfl rfl (by omega), ?_⟩ | refine ⟨_, q_index_arr_ext rfl rfl rfl rfl rfl (by omega), ?_⟩ | refine ⟨_, q_build_struct rfl rfl rfl rfl rfl, ?_⟩ | refine ⟨_, q_build_arr rfl rfl rfl rfl rfl, ?_⟩ | refine ⟨_, q_field_ext rfl rfl rfl rfl rfl, ?_⟩) | refine j_guard_undef rfl rfl rfl rfl rfl ?_) | (refine gSC ?_; first | refine sc_mv rfl ?_ | refine sc_q rfl ?_ | refine sc_region ?_ | refine sc_auto 3 (.q 0 (.q 1 (.q 2 (.q 3 (.q 4 (.q 5 (.q 6 (.q 7 (.q 8 (.q 9 (.e 10 (.q 11 (.q 12 (.q 13 (.q 14 (.q 15 (.q 16 (.q 17 (.z))))))))))))))))))) mixed ?_ | refine sc_draw rfl mixed (by kernel_rfl) ?_) | (refine gJG ?_; first | refine jg_q rfl (by kernel_rfl) ?_ | refine jg_e (by kernel_rfl) rfl ?_ | refine jg_b (by kernel_rfl) rfl rfl ?_ ?_ | refine jg_done (by kernel_rfl) ?_) | (refine gSQ ?_; first | refine jg_next ?_ | (refine gFE ?_; first | refine jg_next0 ?_ | refine jg_next1 ?_ | refine jg_nextE (by first | exact LSub.refl | (repeat (first | exact LSub.refl | refine LSub.cons (by repeat (first | exact Rem.here | apply Rem.there)) ?_ | apply LSub.skip))) ?_) | refine sq_go rfl ?_ | refine sq_mv rfl ?_ | refine sq_ende (by first | exact .inl rfl | exact .inr rfl) rfl rfl ⟨_, (RVs.nil), ?_⟩) | refine j_nil ?_ | ((first | refine j_guard rfl rfl rfl rfl rfl ?_ ?_ | refine sc_cond rfl ?_ ?_) <;> intro hc <;> (first | exact absurd hc (by decide) | ((try simp only [engHC] at hc) <;> first | (exfalso; omega) | exact absurd trivial hc | skip))))
        refine hfin .normal none S' _ _ _ rfl rfl (by repeat (first | exact Rem.here | apply Rem.there)) ?_
        exact (by repeat (first | exact LSub.refl | refine LSub.cons (by repeat (first | exact Rem.here | apply Rem.there)) ?_ | apply LSub.skip))
    · rw [decide_eq_false hds] at hwi
      rw [if_neg hds] at hho
      rw [if_neg (by decide)] at hwi
      have e : stH stp W s c most t (k : Int) = (t, none) := by unfold stH; rw [hho]
      rw [e] at hfin
      repeat' (first | (refine gJ ?_; first | refine js rfl rfl rfl rfl ?_ | (refine gload rfl rfl ?_; refine j_qe rfl rfl rfl ?_; first | refine ⟨_, q_load_own rfl rfl rfl rfl (by (repeat constructor)) (by first | rfl | assumption), ?_⟩ | refine ⟨_, q_loadA_own rfl rfl rfl rfl (by (repeat constructor)) (by rfl), ?_⟩ | refine ⟨_, q_loadA_ext rfl rfl rfl rfl ⟨by assumption, (by first | exact id | assumption)⟩ (by rfl), ?_⟩ | refine ⟨_, q_load_ext rfl rfl rfl rfl ⟨by assumption, (by first | exact id | assumption)⟩ (by first | rfl | assumption), ?_⟩ | refine ⟨_, q_load_extb rfl rfl rfl rfl ⟨by assumption, (by first | exact id | assumption)⟩ (by rfl), ?_⟩ | refine ⟨_, q_loadA_extb rfl rfl rfl rfl ⟨by assumption, (by first | exact id | assumption)⟩ (by rfl), ?_⟩ | refine ⟨_, q_load_ext0 rfl rfl rfl rfl ⟨by assumption, (by first | exact id | assumption)⟩ (by rfl), ?_⟩) | refine jfield rfl rfl rfl rfl rfl rfl rfl rfl ?_ | (refine gF ?_; first | (refine j_box rfl rfl rfl rfl rfl ?_; intro b)) | (refine j_qe rfl rfl rfl ?_; first | refine ⟨_, q_index_nat rfl rfl rfl rfl rfl (by omega), ?_⟩ | refine ⟨_, q_index_slice rfl rfl rfl rfl rfl (by omega), ?_⟩ | refine ⟨_, q_index_arr rfl rfl rfl rfl rfl (by omega), ?_⟩ | refine ⟨_, q_index_arr_ext rfl rfl rfl rfl rfl (by omega), ?_⟩ | refine ⟨_, q_build_struct rfl rfl rfl rfl rfl, ?_⟩ | refine ⟨_, q_build_arr rfl rfl rfl rfl rfl, ?_⟩ | refine ⟨_, q_field_ext rfl rfl rfl rfl rfl, ?_⟩) | refine j_guard_undef rfl rfl rfl rfl rfl ?_) | (refine gSC ?_; first | refine sc_mv rfl ?_ | refine sc_q rfl ?_ | refine sc_region ?_ | refine sc_draw rfl mixed (by kernel_rfl) ?_) | (refine gSQ ?_; first | refine sq_go rfl ?_ | refine sq_mv rfl ?_ | refine sq_ende (by first | exact .inl rfl | exact .inr rfl) rfl rfl ⟨_, (RVs.nil), ?_⟩) | refine j_nil ?_ | ((first | refine j_guard rfl rfl rfl rfl rfl ?_ ?_ | refine sc_cond rfl ?_ ?_) <;> intro hc <;> (first | exact absurd hc (by decide) | ((try simp only [engHC] at hc) <;> first | (exfalso; omega) | exact absurd trivial hc | skip))))
      refine sq_begin rfl hready (by (repeat constructor)) ?_
      repeat' (first | (refine gJ ?_; first | refine js rfl rfl rfl rfl ?_ | (refine gload rfl rfl ?_; refine j_qe rfl rfl rfl ?_; first | refine ⟨_, q_load_own rfl rfl rfl rfl (by (repeat constructor)) (by first | rfl | assumption), ?_⟩ | refine ⟨_, q_loadA_own rfl rfl rfl rfl (by (repeat constructor)) (by rfl), ?_⟩ | refine ⟨_, q_loadA_ext rfl rfl rfl rfl ⟨by assumption, (by first | exact id | assumption)⟩ (by rfl), ?_⟩ | refine ⟨_, q_load_ext rfl rfl rfl rfl ⟨by assumption, (by first | exact id | assumption)⟩ (by first | rfl | assumption), ?_⟩ | refine ⟨_, q_load_extb rfl rfl rfl rfl ⟨by assumption, (by first | exact id | assumption)⟩ (by rfl), ?_⟩ | refine ⟨_, q_loadA_extb rfl rfl rfl rfl ⟨by assumption, (by first | exact id | assumption)⟩ (by rfl), ?_⟩ | refine ⟨_, q_load_ext0 rfl rfl rfl rfl ⟨by assumption, (by first | exact id | assumption)⟩ (by rfl), ?_⟩) | refine jfield rfl rfl rfl rfl rfl rfl rfl rfl ?_ | (refine gcall rfl rfl ?_; first | (refine j_qc (f := 42) rfl rfl rfl rfl rfl rfl rfl ?_; refine ⟨_, (fun w' _ => hwi w'), ?_⟩)) | (refine j_qe rfl rfl rfl ?_; refine ⟨_, q_index_at k rfl rfl rfl rfl rfl ⟨rfl, by omega⟩, ?_⟩) | (refine gF ?_; first | (refine j_box rfl rfl rfl rfl rfl ?_; intro b)) | (refine j_qe rfl rfl rfl ?_; first | refine ⟨_, q_index_nat rfl rfl rfl rfl rfl (by omega), ?_⟩ | refine ⟨_, q_index_slice rfl rfl rfl rfl rfl (by omega), ?_⟩ | refine ⟨_, q_index_arr rfl rfl rfl rfl rfl (by omega), ?_⟩ | refine ⟨_, q_index_arr_ext rfl rfl rfl rfl rfl (by omega), ?_⟩ | refine ⟨_, q_build_struct rfl rfl rfl rfl rfl, ?_⟩ | refine ⟨_, q_build_arr rfl rfl rfl rfl rfl, ?_⟩ | refine ⟨_, q_field_ext rfl rfl rfl rfl rfl, ?_⟩) | refine j_guard_undef rfl rfl rfl rfl rfl ?_) | (refine gSC ?_; first | refine sc_mv rfl ?_ | refine sc_q rfl ?_ | refine sc_region ?_ | refine sc_auto 3 (.q 0 (.q 1 (.q 2 (.q 3 (.q 4 (.q 5 (.q 6 (.q 7 (.q 8 (.q 9 (.e 10 (.q 11 (.q 12 (.q 13 (.q 14 (.q 15 (.q 16 (.q 17 (.z))))))))))))))))))) mixed ?_ | refine sc_draw rfl mixed (by kernel_rfl) ?_) | (refine gJG ?_; first | refine jg_q rfl (by kernel_rfl) ?_ | refine jg_e (by kernel_rfl) rfl ?_ | refine jg_b (by kernel_rfl) rfl rfl ?_ ?_ | refine jg_done (by kernel_rfl) ?_) | (refine gSQ ?_; first | refine jg_next ?_ | (refine gFE ?_; first | refine jg_next0 ?_ | refine jg_next1 ?_ | refine jg_nextE (by first | exact LSub.refl | (repeat (first | exact LSub.refl | refine LSub.cons (by repeat (first | exact Rem.here | apply Rem.there)) ?_ | apply LSub.skip))) ?_) | refine sq_go rfl ?_ | refine sq_mv rfl ?_ | refine sq_ende (by first | exact .inl rfl | exact .inr rfl) rfl rfl ⟨_, (RVs.nil), ?_⟩) | refine j_nil ?_ | ((first | refine j_guard rfl rfl rfl rfl rfl ?_ ?_ | refine sc_cond rfl ?_ ?_) <;> intro hc <;> (first | exact absurd hc (by decide) | ((try simp only [engHC] at hc) <;> first | (exfalso; omega) | exact absurd trivial hc | skip))))
      refine hfin .normal none S _ _ _ rfl rfl (by repeat (first | exact Rem.here | apply Rem.there)) ?_
      exact (by repeat (first | exact LSub.refl | refine LSub.cons (by repeat (first | exact Rem.here | apply Rem.there)) ?_ | apply LSub.skip))
  · intro D i ys hys hj
    refine sq_blk ?_
    refine sq_endm (.inr rfl) rfl rfl (by repeat (first | exact Rem.here | apply Rem.there)) ⟨_, (RVs.nil), ?_⟩
    intro w9 hS
    have h9 := hS.at (x := .abs i (Jn (runsJ (stH stp W s c most) s0 ys).1 i)) (by (repeat constructor))
    refine ⟨⟨_, rfl⟩, Near.chain hS2.near (fun z hz => .inl hz) hS.near, ys.filterMap (hitO W s c most), hys.filterMap _, i, ?_, fun z hz => (h9.1 z hz).1.elim (fun g => .inr (Nat.le_trans hS2.near.size g)) .inl⟩
    rw [← runs_stH]
    exact h9.2.1
  · intro D i ys c9 hys hj
    have := runs_stH_j stp W s c most ys s0 c9 hj
    subst this
    repeat' (first | (refine gJ ?_; first | refine js rfl rfl rfl rfl ?_ | (refine gload rfl rfl ?_; refine j_qe rfl rfl rfl ?_; first | refine ⟨_, q_load_own rfl rfl rfl rfl (by (repeat constructor)) (by first | rfl | assumption), ?_⟩ | refine ⟨_, q_loadA_own rfl rfl rfl rfl (by (repeat constructor)) (by rfl), ?_⟩ | refine ⟨_, q_loadA_ext rfl rfl rfl rfl ⟨by assumption, (by first | exact id | assumption)⟩ (by rfl), ?_⟩ | refine ⟨_, q_load_ext rfl rfl rfl rfl ⟨by assumption, (by first | exact id | assumption)⟩ (by first | rfl | assumption), ?_⟩ | refine ⟨_, q_load_extb rfl rfl rfl rfl ⟨by assumption, (by first | exact id | assumption)⟩ (by rfl), ?_⟩ | refine ⟨_, q_loadA_extb rfl rfl rfl rfl ⟨by assumption, (by first | exact id | assumption)⟩ (by rfl), ?_⟩ | refine ⟨_, q_load_ext0 rfl rfl rfl rfl ⟨by assumption, (by first | exact id | assumption)⟩ (by rfl), ?_⟩) | refine jfield rfl rfl rfl rfl rfl rfl rfl rfl ?_ | (refine gF ?_; first | (refine j_box rfl rfl rfl rfl rfl ?_; intro b)) | (refine j_qe rfl rfl rfl ?_; first | refine ⟨_, q_index_nat rfl rfl rfl rfl rfl (by omega), ?_⟩ | refine ⟨_, q_index_slice rfl rfl rfl rfl rfl (by omega), ?_⟩ | refine ⟨_, q_index_arr rfl rfl rfl rfl rfl (by omega), ?_⟩ | refine ⟨_, q_index_arr_ext rfl rfl rfl rfl rfl (by omega), ?_⟩ | refine ⟨_, q_build_struct rfl rfl rfl rfl rfl, ?_⟩ | refine ⟨_, q_build_arr rfl rfl rfl rfl rfl, ?_⟩ | refine ⟨_, q_field_ext rfl rfl rfl rfl rfl, ?_⟩) | refine j_guard_undef rfl rfl rfl rfl rfl ?_) | (refine gSC ?_; first | refine sc_mv rfl ?_ | refine sc_q rfl ?_ | refine sc_region ?_ | refine sc_draw rfl mixed (by kernel_rfl) ?_) | (refine gSQ ?_; first | refine sq_go rfl ?_ | refine sq_mv rfl ?_ | refine sq_ende (by first | exact .inl rfl | exact .inr rfl) rfl rfl ⟨_, (RVs.nil), ?_⟩) | refine j_nil ?_ | ((first | refine j_guard rfl rfl rfl rfl rfl ?_ ?_ | refine sc_cond rfl ?_ ?_) <;> intro hc <;> (first | exact absurd hc (by decide) | ((try simp only [engHC] at hc) <;> first | (exfalso; omega) | exact absurd trivial hc | skip))))
    refine sq_endm (.inl rfl) rfl rfl (by repeat (first | exact Rem.here | apply Rem.there)) ⟨_, (RVs.nil), ?_⟩
    intro w9 hS
    have h9 := hS.at (x := .abs i (Jn (runsJ (stH stp W s c most) s0 ys).1 i)) (by (repeat constructor))
    refine ⟨⟨_, rfl⟩, Near.chain hS2.near (fun z hz => .inl hz) hS.near, ys.filterMap (hitO W s c most), hys.filterMap _, i, ?_, fun z hz => (h9.1 z hz).1.elim (fun g => .inr (Nat.le_trans hS2.near.size g)) .inl⟩
    rw [← runs_stH]
    exact h9.2.1
end Go.Proofs.Ytagndgidfaladaa
